/-
  Parts of a proof, joined: Ok, Shaped. No condition.
-/
import Derived.Test.YtcokljhamhgelaaGreatDoorPk4
namespace Go.Proofs.YtcokljhamhgelaaGreatDoor
set_option linter.unusedVariables false
set_option linter.unusedSimpArgs false
open Go.ChangeShapes Go.WideShapes Go.ChangeAt Go.RowKit Go.Sort
theorem kidsN_zero {k : Int} {ks : List Ex} (h : kidsN k = (ks.length : Int)) (hk : k = 3 ∨ k = 4) : ks = [] := by
 have : kidsN k = 0 := by unfold kidsN; rw [if_pos (by omega)]
 exact List.eq_nil_of_length_eq_zero (by omega)
theorem condL_one {ks : List Ex} (h : ks.length = 1) : ∃ e, ks[0]? = some e ∧ Ex.condL ks = e.cond := by
 match ks, h with
 | [e], _ => exact ⟨e, rfl, by simp [Ex.condL]⟩
theorem kidsN_five : kidsN 5 = 1 := by unfold kidsN; rw [if_neg (by omega), if_pos (by omega)]
set_option maxHeartbeats 2000000 in
theorem l01Tree_w (t a tm am : Int) (q1 : IntKind.i64.wrap (t - 1) = tm) (q2 : IntKind.i64.wrap (a - 1) = am) (N : Nat) : ∀ (e : Ex) (b o : Nat) (w : World), e.size ≤ N → ExAt w b o e →
  Calls Tryz.prog 49 #[.agg #[.int .i64 t, .int .i64 a], .pointer (some ⟨b, o, none⟩)] w fun f w' => f = .returned (.bool (e.tree tm am)) ∧ Below w.heap.size w w' := by
 induction N using Nat.strongRecOn with
 | _ N ih =>
 intro e b o w hN hr
 have hbl := hr.lt
 have Hte := Lib.hid (Ex.tree_eq tm am e)
 have hks : Ex.sizeL e.kids < N := by have := Ex.size_eq e; omega
 have hgen : ∀ o, ExAt (w.alloc o) b _ e := fun o => hr.below (Below.alloc (Below.refl _ _) (Nat.le_refl _) o)
 go_enter Tryz.func49, Tryz.ntmps49
 go_wp2_with fail
 have L := Blk.new2 w 30 (.int .i64 t) (.int .i64 a)
 have hE := hgen (.cells #[.int .i64 t, .int .i64 a] 30)
 have hB : Below w.heap.size w (w.alloc (.cells #[.int .i64 t, .int .i64 a] 30)) := by (repeat' first | exact Below.refl _ _ | assumption | apply Below.alloc | apply Below.drew | apply Below.setCell | omega | (simp; done) | (simp; omega))
 generalize w.alloc (.cells #[.int .i64 t, .int .i64 a] 30) = w0 at L hE hB ⊢
 clear hgen hr
 have hE' := hE
 obtain ⟨g0, g1, s, c, g2, g3⟩ := hE'
 obtain ⟨-, hlen, hcap, -, -⟩ := kid_at g3
 unfold maxLen at hcap
 have gg0 := fun d os => cell_regrown g0 d os
 have gg1 := fun d os => cell_regrown g1 d os
 have gg2 := fun d os => cell_regrown g2 d os
 by_cases hk : kidsN e.kind = (e.kids.length : Int)
 rotate_left
 ·
  have d1 : ((e.kids.length : Int) != kidsN e.kind) = true := by simp; omega
  have c2 : e.tree tm am = false := by rw [Hte.out]; simp [nodeB, hk]
  clear hk
  refine Go.wp_region_quiet_below (by kernel_rfl) (by kernel_rfl) ?_
  repeat (first | go_big_quiet_step ((exact Calls.regrown_of ((l01Kids_i).mono fun _ _ ⟨h1, h2⟩ => ⟨h1, below_self h2⟩))) | quiet_step ((exact Calls.regrown_of ((l01Kids_i).mono fun _ _ ⟨h1, h2⟩ => ⟨h1, below_self h2⟩))))
  refine wpQuiet_nil ?_; intro _ hw'; obtain ⟨⟨dq, osq⟩, hw''⟩ := hw'; subst hw''; have hq := below_regrown w0 dq osq; revert hq; generalize grow (redrawn w0 dq) osq = w1; intro hq
  replace hB := Below.on hB hq hB.size
  clear hq gg0 gg1 gg2 g0 g1 g2
  go_wp2_with fail
  go_ret
  exact ⟨by first | rfl | (rw [c2]; rfl), hB⟩
 have d1 : ((e.kids.length : Int) != kidsN e.kind) = false := by simp [hk]
 have Hk := Lib.hid hk
 clear hk
 refine Go.wp_region_quiet_below (by kernel_rfl) (by kernel_rfl) ?_
 repeat (first | go_big_quiet_step ((exact Calls.regrown_of ((l01Kids_i).mono fun _ _ ⟨h1, h2⟩ => ⟨h1, below_self h2⟩))) | quiet_step ((exact Calls.regrown_of ((l01Kids_i).mono fun _ _ ⟨h1, h2⟩ => ⟨h1, below_self h2⟩))))
 refine wpQuiet_nil ?_; intro _ hw'; obtain ⟨⟨dq, osq⟩, hw''⟩ := hw'; subst hw''; have hq := below_regrown w0 dq osq; revert hq; generalize grow (redrawn w0 dq) osq = w1; intro hq
 replace L := L.below hq
 replace hE := hE.below hq
 replace hB := Below.on hB hq hB.size
 clear hq gg0 gg1 gg2 g0 g1 g2 g3 d1
 have hE' := hE
 obtain ⟨g0, g1, s, c, g2, g3⟩ := hE'
 have gg1 := fun d os => cell_regrown g1 d os
 have gl0 := fun d os => cell_regrown L.c0 d os
 have gl1 := fun d os => cell_regrown L.c1 d os
 by_cases h3 : e.kind = 3
 ·
  have t3 : (e.kind == 3) = true := by simp [h3]
  have hnil := kidsN_zero Hk.out (Or.inl h3)
  have c2 : e.tree tm am = inB e.num 0 tm := by
   have := Hk.out
   rw [Hte.out, hnil]
   rw [hnil] at this
   simp [nodeB, numB, h3, Ex.treeL]
   intro _
   rw [← h3]; simpa using this
  have C2 := Lib.hid c2
  clear hnil h3 c2
  go_wp2_with fail
  refine Go.wp_region_quiet_below (by kernel_rfl) (by kernel_rfl) ?_
  repeat (first | go_big_quiet_step ((exact Calls.regrown_of (in_B _ _ _ _))) | quiet_step ((exact Calls.regrown_of (in_B _ _ _ _))))
  refine wpQuiet_nil ?_; intro _ hw'; obtain ⟨⟨dq, osq⟩, hw''⟩ := hw'; subst hw''; have hq := below_regrown w1 dq osq; revert hq; generalize grow (redrawn w1 dq) osq = w2; intro hq
  replace hB := Below.on hB hq hB.size
  clear hq gg1 gl0 gl1 g0 g1 g2
  go_wp2_with fail
  go_ret
  exact ⟨ret_bool (by rw [C2.out]), hB⟩
 by_cases h4 : e.kind = 4
 ·
  have t3 : (e.kind == 3) = false := by simp [h3]
  have t4 : (e.kind == 4) = true := by simp [h4]
  have hnil := kidsN_zero Hk.out (Or.inr h4)
  have c2 : e.tree tm am = inB e.num 0 am := by
   have := Hk.out
   rw [Hte.out, hnil]
   rw [hnil] at this
   simp [nodeB, numB, h4, Ex.treeL]
   intro _
   rw [← h4]; simpa using this
  have C2 := Lib.hid c2
  clear hnil h3 h4 c2
  go_wp2_with fail
  refine Go.wp_region_quiet_below (by kernel_rfl) (by kernel_rfl) ?_
  repeat (first | go_big_quiet_step ((exact Calls.regrown_of (in_B _ _ _ _))) | quiet_step ((exact Calls.regrown_of (in_B _ _ _ _))))
  refine wpQuiet_nil ?_; intro _ hw'; obtain ⟨⟨dq, osq⟩, hw''⟩ := hw'; subst hw''; have hq := below_regrown w1 dq osq; revert hq; generalize grow (redrawn w1 dq) osq = w2; intro hq
  replace hB := Below.on hB hq hB.size
  clear hq gg1 gl0 gl1 g0 g1 g2
  go_wp2_with fail
  go_ret
  exact ⟨ret_bool (by rw [C2.out]), hB⟩
 have t3 : (e.kind == 3) = false := by simp [h3]
 have t4 : (e.kind == 4) = false := by simp [h4]
 by_cases h0 : e.num = 0
 rotate_left
 ·
  have t0 : (e.num != 0) = true := by simp [h0]
  have c2 : e.tree tm am = false := by rw [Hte.out]; simp [nodeB, numB, h3, h4, h0]
  clear h3 h4 h0 gg1 gl0 gl1
  go_wp2_with fail
  go_ret
  exact ⟨by first | rfl | (rw [c2]; rfl), hB⟩
 have t0 : (e.num != 0) = false := by simp [h0]
 -- the loop over the kids, where the node itself has the form
 have loop : ∀ (h5 : (e.kind != 5 || Ex.condL e.kids) = true), Hid (e.tree tm am = Ex.treeL tm am e.kids) := by
  intro h5
  have := Hk.out
  show _ = _
  rw [Hte.out]
  have hn : nodeB tm am e.kind e.num e.kids = true := by
   unfold nodeB numB
   rw [h5, if_neg h3, if_neg h4, h0, this]
   simp
  rw [hn, Bool.true_and]
 by_cases h5 : e.kind = 5
 ·
  have t5 : (e.kind == 5) = true := by simp [h5]
  have hone : e.kids.length = 1 := by have := Hk.out; rw [h5, kidsN_five] at this; omega
  obtain ⟨f, hf, hcl⟩ := condL_one hone
  obtain ⟨b', o', rfl⟩ := kid_some g3 (by intro h; simp [h] at hone)
  have hat := kid_exAt g3 hf
  simp only [Nat.zero_mul, Nat.add_zero] at hat
  cases hfc : f.cond
  ·
   have c2 : e.tree tm am = false := by rw [Hte.out]; simp [nodeB, h5, hcl, hfc]
   have hpos : 0 < e.kids.length := by omega
   clear h3 h4 h0 h5 hone hcl loop gg1 gl0 gl1
   go_wp2_with fail
   refine (l01Condition_all _ f _ _ _ (Nat.le_refl _) hat).mono ?_
   rintro x w' ⟨rfl, rfl⟩
   go_wp2_with fail
   go_ret
   exact ⟨by first | rfl | (rw [c2]; rfl), hB⟩
  ·
   have Hc := loop (by rw [hcl, hfc]; simp)
   have hpos : 0 < e.kids.length := by omega
   clear h3 h4 h0 h5 hone hcl loop gg1 gl0 gl1
   go_wp2_with fail
   refine (l01Condition_all _ f _ _ _ (Nat.le_refl _) hat).mono ?_
   rintro x w' ⟨rfl, rfl⟩
   go_wp2_with fail
   go_loopw [5] (fun i wr => ∃ k : Nat, k ≤ e.kids.length ∧ i = .int .i64 k ∧ Ex.treeL tm am (e.kids.take k) = true ∧ ExAt wr b o e ∧ Blk wr w.heap.size 30 [.int .i64 t, .int .i64 a] ∧ Below w.heap.size w wr) (fun i _ => e.kids.length - (intOf i).toNat)
   case atStart => exact ⟨0, by omega, rfl, by simp [Ex.treeL], hE, L, hB⟩
   case round =>
    clear hE L hB g0 g1 g2 g3
    obtain ⟨k, hk, rfl, hpre, hE, L, hB⟩ := hrel
    have Hpre := Lib.hid hpre
    clear hpre
    have hE' := hE
    obtain ⟨g0, g1, s3, c3, g2, g3⟩ := hE'
    by_cases hlt : k < e.kids.length
    ·
     obtain ⟨x, hx⟩ : ∃ z, e.kids[k]? = some z := ⟨_, List.getElem?_eq_getElem hlt⟩
     obtain ⟨p, q, rfl⟩ := kid_some g3 (by intro h; simp [h] at hlt)
     have hat := kid_exAt g3 hx
     have hltN : x.size < N := by
      have := Ex.sizeL_mem (List.mem_of_getElem? hx)
      omega
     have ha := Int.natCast_nonneg k
     have hb : (k : Int) < (e.kids.length : Int) := by omega
     have gg2 := fun d os => cell_regrown g2 d os
     have gl0 := fun d os => cell_regrown L.c0 d os
     have gl1 := fun d os => cell_regrown L.c1 d os
     have Htk := Lib.hid (@Ex.treeL_take_succ tm am _ _ _ hx)
     have Hfl := Lib.hid (@Ex.treeL_false tm am _ _ _ hx)
     go_wp2_with fail
     refine Go.wp_region_quiet_below (by kernel_rfl) (by kernel_rfl) ?_
     repeat (first | go_big_quiet_step ((exact Calls.regrown_of (ih _ hltN x _ _ _ (Nat.le_refl _) (hat.below (below_regrown _ _ _))))) | quiet_step ((exact Calls.regrown_of (ih _ hltN x _ _ _ (Nat.le_refl _) (hat.below (below_regrown _ _ _))))))
     refine wpQuiet_nil ?_; intro _ hw'; obtain ⟨⟨dq, osq⟩, hw''⟩ := hw'; subst hw''; have hq := below_regrown wr dq osq; revert hq; generalize grow (redrawn wr dq) osq = w9; intro hq
     replace L := L.below hq
     replace hE := hE.below hq
     replace hB := Below.on hB hq hB.size
     clear hq gg2 gl0 gl1 g0 g1 g2
     cases hz1 : x.tree tm am
     ·
      have c2 : e.tree tm am = false := by rw [Hc.out, Hfl.out hz1]
      simp only [Bool.not_false]
      go_wp2_with fail
      go_ret
      exact ⟨by first | rfl | (rw [c2]; rfl), hB⟩
     ·
      have Hst : Hid (Ex.treeL tm am (e.kids.take (k + 1)) = true) := by show _ = _; rw [Htk.out, Hpre.out, hz1]; rfl
      simp only [Bool.not_true]
      go_wp2_with fail
      go_roundw
      case rel => exact ⟨k + 1, by omega, by go_num, Hst.out, hE, L, hB⟩
      case measure => simp [intOf]; omega
    ·
     obtain rfl : k = e.kids.length := by omega
     have c2 : e.tree tm am = true := by
      have := Hpre.out
      rw [List.take_length] at this
      rw [Hc.out, this]
     go_wp2_with fail
     go_ret
     exact ⟨by first | rfl | (rw [c2]; rfl), hB⟩
 ·
  have t5 : (e.kind == 5) = false := by simp [h5]
  have Hc := loop (by simp [h5])
  clear h3 h4 h0 h5 loop gg1 gl0 gl1
  go_wp2_with fail
  go_loopw [5] (fun i wr => ∃ k : Nat, k ≤ e.kids.length ∧ i = .int .i64 k ∧ Ex.treeL tm am (e.kids.take k) = true ∧ ExAt wr b o e ∧ Blk wr w.heap.size 30 [.int .i64 t, .int .i64 a] ∧ Below w.heap.size w wr) (fun i _ => e.kids.length - (intOf i).toNat)
  case atStart => exact ⟨0, by omega, rfl, by simp [Ex.treeL], hE, L, hB⟩
  case round =>
   clear hE L hB g0 g1 g2 g3
   obtain ⟨k, hk, rfl, hpre, hE, L, hB⟩ := hrel
   have Hpre := Lib.hid hpre
   clear hpre
   have hE' := hE
   obtain ⟨g0, g1, s3, c3, g2, g3⟩ := hE'
   by_cases hlt : k < e.kids.length
   ·
    obtain ⟨x, hx⟩ : ∃ z, e.kids[k]? = some z := ⟨_, List.getElem?_eq_getElem hlt⟩
    obtain ⟨p, q, rfl⟩ := kid_some g3 (by intro h; simp [h] at hlt)
    have hat := kid_exAt g3 hx
    have hltN : x.size < N := by
     have := Ex.sizeL_mem (List.mem_of_getElem? hx)
     omega
    have ha := Int.natCast_nonneg k
    have hb : (k : Int) < (e.kids.length : Int) := by omega
    have gg2 := fun d os => cell_regrown g2 d os
    have gl0 := fun d os => cell_regrown L.c0 d os
    have gl1 := fun d os => cell_regrown L.c1 d os
    have Htk := Lib.hid (@Ex.treeL_take_succ tm am _ _ _ hx)
    have Hfl := Lib.hid (@Ex.treeL_false tm am _ _ _ hx)
    go_wp2_with fail
    refine Go.wp_region_quiet_below (by kernel_rfl) (by kernel_rfl) ?_
    repeat (first | go_big_quiet_step ((exact Calls.regrown_of (ih _ hltN x _ _ _ (Nat.le_refl _) (hat.below (below_regrown _ _ _))))) | quiet_step ((exact Calls.regrown_of (ih _ hltN x _ _ _ (Nat.le_refl _) (hat.below (below_regrown _ _ _))))))
    refine wpQuiet_nil ?_; intro _ hw'; obtain ⟨⟨dq, osq⟩, hw''⟩ := hw'; subst hw''; have hq := below_regrown wr dq osq; revert hq; generalize grow (redrawn wr dq) osq = w9; intro hq
    replace L := L.below hq
    replace hE := hE.below hq
    replace hB := Below.on hB hq hB.size
    clear hq gg2 gl0 gl1 g0 g1 g2
    cases hz1 : x.tree tm am
    ·
     have c2 : e.tree tm am = false := by rw [Hc.out, Hfl.out hz1]
     simp only [Bool.not_false]
     go_wp2_with fail
     go_ret
     exact ⟨by first | rfl | (rw [c2]; rfl), hB⟩
    ·
     have Hst : Hid (Ex.treeL tm am (e.kids.take (k + 1)) = true) := by show _ = _; rw [Htk.out, Hpre.out, hz1]; rfl
     simp only [Bool.not_true]
     go_wp2_with fail
     go_roundw
     case rel => exact ⟨k + 1, by omega, by go_num, Hst.out, hE, L, hB⟩
     case measure => simp [intOf]; omega
   ·
    obtain rfl : k = e.kids.length := by omega
    have c2 : e.tree tm am = true := by
     have := Hpre.out
     rw [List.take_length] at this
     rw [Hc.out, this]
    go_wp2_with fail
    go_ret
    exact ⟨by first | rfl | (rw [c2]; rfl), hB⟩
theorem l01Tree_all (t a : Int) (hs : sigB t a = true) (N : Nat) : ∀ (e : Ex) (b o : Nat) (w : World), e.size ≤ N → ExAt w b o e →
  Calls Tryz.prog 49 #[.agg #[.int .i64 t, .int .i64 a], .pointer (some ⟨b, o, none⟩)] w fun f w' => f = .returned (.bool (e.tree (t - 1) (a - 1))) ∧ Below w.heap.size w w' :=
 have h := sigB_bd hs
 l01Tree_w t a _ _ (wrap_of (by omega) (by omega)) (wrap_of (by omega) (by omega)) N
def okB (t a : Int) (e : Ex) : Bool := sigB t a && (decide (e.size ≤ 200) && decide (e.depth ≤ 40) && e.tree (t - 1) (a - 1))
theorem l01Ok_i {t a : Int} {e : Ex} {b o : Nat} {w : World} (hr : ExAt w b o e) (h1 : e.size ≤ 1073741824) :
  Calls Tryz.prog 24 #[.agg #[.int .i64 t, .int .i64 a], .pointer (some ⟨b, o, none⟩)] w fun f w' => f = .returned (.bool (okB t a e)) ∧ Below w.heap.size w w' := by
 go_enter Tryz.func24, Tryz.ntmps24
 go_wp2_with fail
 have L := Blk.new2 w 30 (.int .i64 t) (.int .i64 a)
 refine (l01Sig_any _ _ _).mono ?_
 rintro x w1 ⟨rfl, hb⟩
 have hB : Below w.heap.size w w1 := Below.on (by (repeat' first | exact Below.refl _ _ | assumption | apply Below.alloc | apply Below.drew | apply Below.setCell | omega | (simp; done) | (simp; omega))) hb (by simp)
 replace L := L.below hb
 clear hb
 cases hs : sigB t a
 ·
  go_wp2_with fail
  go_ret
  exact ⟨ret_bool (by simp [okB, hs]), hB⟩
 have Hs := Lib.hid hs
 have Hok : Hid (okB t a e = (decide (e.size ≤ 200) && decide (e.depth ≤ 40) && e.tree (t - 1) (a - 1))) := by show _ = _; simp [okB, hs]
 clear hs
 go_wp2_with fail
 refine (l01Left_all _ e _ _ _ _ (Nat.le_refl _) (hr.below hB) (by omega) (by omega)).mono ?_
 rintro x w' ⟨rfl, rfl⟩
 by_cases hsz : e.size ≤ 200
 rotate_left
 ·
  have hd : decide (0 ≤ leftF e.size 200) = false := by unfold leftF; rw [if_neg (by omega)]; rfl
  go_wp2_with fail
  go_ret
  exact ⟨ret_bool (by rw [Hok.out]; simp [hsz]), hB⟩
 have hd : decide (0 ≤ leftF e.size 200) = true := by unfold leftF; rw [if_pos (by omega)]; simp; omega
 go_wp2_with fail
 refine (l01Depth_all _ e _ _ _ (Nat.le_refl _) (hr.below hB) h1).mono ?_
 rintro x w' ⟨rfl, rfl⟩
 by_cases hdp : e.depth ≤ 40
 rotate_left
 ·
  have hd2 : decide ((e.depth : Int) ≤ 40) = false := by simp; omega
  go_wp2_with fail
  go_ret
  exact ⟨ret_bool (by rw [Hok.out]; simp [hdp]), hB⟩
 have hd2 : decide ((e.depth : Int) ≤ 40) = true := by simp; omega
 have l0 := L.c0
 have l1 := L.c1
 go_wp2_with fail
 refine (l01Tree_all t a Hs.out _ e _ _ _ (Nat.le_refl _) (hr.below hB)).mono ?_
 rintro x w2 ⟨rfl, hb⟩
 replace hB := Below.on hB hb hB.size
 clear hb l0 l1
 go_wp2_with fail
 go_ret
 exact ⟨ret_bool (by rw [Hok.out]; simp [hsz, hdp]), hB⟩
end Go.Proofs.YtcokljhamhgelaaGreatDoor

namespace Go.Proofs.YtcokljhamhgelaaGreatDoor
set_option linter.unusedVariables false
set_option linter.unusedSimpArgs false
open Go.ChangeShapes Go.WideShapes Go.ChangeAt Go.RowKit Go.Sort
def shF (tm am : Int) (e : Ex) (n d : Int) : Bool := e.tree tm am && (decide ((e.size : Int) ≤ n) && decide ((e.depth : Int) ≤ d))
theorem shF_true {tm am : Int} {e : Ex} {n d : Int} : shF tm am e n d = true ↔ e.tree tm am = true ∧ (e.size : Int) ≤ n ∧ (e.depth : Int) ≤ d := by simp [shF]
theorem shF_eq {tm am k m : Int} {ks : List Ex} {n d : Int} : shF tm am (.mk k m ks) n d = (nodeB tm am k m ks && (Ex.treeL tm am ks && (decide (((Ex.mk k m ks).size : Int) ≤ n) && decide (((Ex.mk k m ks).depth : Int) ≤ d)))) := by
 simp only [shF, Ex.tree, Bool.and_assoc]
theorem shF_kid {tm am k m : Int} {ks : List Ex} {n d : Int} {i : Nat} {x : Ex} (hx : ks[i]? = some x) (h : shF tm am x (n - 1 - Ex.sizeL (ks.take i)) (d - 1) = false) : shF tm am (.mk k m ks) n d = false := by
 rw [Bool.eq_false_iff] at h ⊢
 intro hc
 apply h
 obtain ⟨h1, h2, h3⟩ := shF_true.1 hc
 simp only [Ex.tree, Ex.size, Ex.depth, Bool.and_eq_true] at h1 h2 h3
 have hm := List.mem_of_getElem? hx
 have g1 := Ex.sizeL_take_succ hx
 have g2 := Ex.sizeL_take_le ks (i + 1)
 have g3 := Ex.depthL_mem hm
 have g4 : x.tree tm am = true := by
  cases hz : x.tree tm am
  ·
   have := @Ex.treeL_false tm am _ _ _ hx hz
   rw [this] at h1
   exact absurd h1.2 (by simp)
  ·
   rfl
 exact shF_true.2 ⟨g4, by omega, by omega⟩
def shV (tm am : Int) (e : Ex) (n d : Int) : Value := if shF tm am e n d = true then .tuple #[.int .i64 (n - e.size), .bool true] else .tuple #[.int .i64 0, .bool false]
theorem shV_true {tm am : Int} {e : Ex} {n d : Int} (h : shF tm am e n d = true) : shV tm am e n d = .tuple #[.int .i64 (n - e.size), .bool true] := by unfold shV; rw [if_pos h]
theorem shV_false {tm am : Int} {e : Ex} {n d : Int} (h : shF tm am e n d = false) : shV tm am e n d = .tuple #[.int .i64 0, .bool false] := by unfold shV; rw [if_neg (by rw [h]; decide)]
set_option maxHeartbeats 4000000 in
theorem shaped_all (t a tm am : Int) (q1 : IntKind.i64.wrap (t - 1) = tm) (q2 : IntKind.i64.wrap (a - 1) = am) (N : Nat) :
  ∀ (k m : Int) (ks : List Ex) (s : Option Addr) (c : Nat) (n d : Int) (w : World), Ex.sizeL ks ≤ N → Rd w (kidsD ks) (.slice s ks.length c) → 0 ≤ n → n ≤ 1000000 → 0 ≤ d → d ≤ 1000000 →
  Calls Tryz.prog 61 #[.agg #[.int .i64 t, .int .i64 a], .agg #[.int .i64 k, .int .i64 m, .slice s ks.length c], .int .i64 n, .int .i64 d] w fun f w' =>
   f = .returned (shV tm am (.mk k m ks) n d) ∧ Below w.heap.size w w' := by
 induction N using Nat.strongRecOn with
 | _ N ih =>
 intro k m ks s c n d w hN hr hn0 hn1 hd0 hd1
 obtain ⟨-, hlen, hcap, -, -⟩ := kid_at hr
 unfold maxLen at hcap
 go_enter Tryz.func61, Tryz.ntmps61
 go_wp2_with fail
 have L := (Blk.new2 w 30 (.int .i64 t) (.int .i64 a)).alloc (.cells #[.int .i64 k, .int .i64 m, .slice s ks.length c] 34)
 have M := Blk.new3 (w.alloc (.cells #[.int .i64 t, .int .i64 a] 30)) 34 (.int .i64 k) (.int .i64 m) (.slice s ks.length c)
 simp at M
 have hB : Below w.heap.size w ((w.alloc (.cells #[.int .i64 t, .int .i64 a] 30)).alloc (.cells #[.int .i64 k, .int .i64 m, .slice s ks.length c] 34)) := by (repeat' first | exact Below.refl _ _ | assumption | apply Below.alloc | apply Below.drew | apply Below.setCell | omega | (simp; done) | (simp; omega))
 generalize (w.alloc (.cells #[.int .i64 t, .int .i64 a] 30)).alloc (.cells #[.int .i64 k, .int .i64 m, .slice s ks.length c] 34) = w0 at L M hB ⊢
 have gg0 := fun d os => cell_regrown M.c0 d os
 have gg1 := fun d os => cell_regrown M.c1 d os
 have gg2 := fun d os => cell_regrown M.c2 d os
 by_cases hz : n = 0
 ·
  have d1 : (n == 0) = true := by simp [hz]
  have C2 : Hid (shV tm am (.mk k m ks) n d = .tuple #[.int .i64 0, .bool false]) := shV_false (by rw [Bool.eq_false_iff]; intro h; have := (shF_true.1 h).2.1; simp only [Ex.size] at this; omega)
  clear hz
  refine Go.wp_region_quiet_below (by kernel_rfl) (by kernel_rfl) ?_
  repeat (first | go_big_quiet_step ((exact Calls.regrown_of ((kidsOf_i).mono fun _ _ ⟨h1, h2⟩ => ⟨h1, below_self h2⟩))) | quiet_step ((exact Calls.regrown_of ((kidsOf_i).mono fun _ _ ⟨h1, h2⟩ => ⟨h1, below_self h2⟩))))
  refine wpQuiet_nil ?_; intro _ hw'; obtain ⟨⟨dq, osq⟩, hw''⟩ := hw'; subst hw''; have hq := below_regrown w0 dq osq; revert hq; generalize grow (redrawn w0 dq) osq = w1; intro hq
  replace hB := Below.on hB hq hB.size
  clear hq gg0 gg1 gg2
  go_wp2_with fail
  exact bodyPost_ret (v := .tuple #[.int .i64 0, .bool false]) (by simp [results, Tryz.results61, go_sem]) rfl ⟨by rw [C2.out], hB⟩
 have d1 : (n == 0) = false := by simp [hz]
 by_cases hz' : d = 0
 ·
  have d2 : (d == 0) = true := by simp [hz']
  have C2 : Hid (shV tm am (.mk k m ks) n d = .tuple #[.int .i64 0, .bool false]) := shV_false (by rw [Bool.eq_false_iff]; intro h; have := (shF_true.1 h).2.2; simp only [Ex.depth] at this; omega)
  clear hz hz'
  refine Go.wp_region_quiet_below (by kernel_rfl) (by kernel_rfl) ?_
  repeat (first | go_big_quiet_step ((exact Calls.regrown_of ((kidsOf_i).mono fun _ _ ⟨h1, h2⟩ => ⟨h1, below_self h2⟩))) | quiet_step ((exact Calls.regrown_of ((kidsOf_i).mono fun _ _ ⟨h1, h2⟩ => ⟨h1, below_self h2⟩))))
  refine wpQuiet_nil ?_; intro _ hw'; obtain ⟨⟨dq, osq⟩, hw''⟩ := hw'; subst hw''; have hq := below_regrown w0 dq osq; revert hq; generalize grow (redrawn w0 dq) osq = w1; intro hq
  replace hB := Below.on hB hq hB.size
  clear hq gg0 gg1 gg2
  go_wp2_with fail
  exact bodyPost_ret (v := .tuple #[.int .i64 0, .bool false]) (by simp [results, Tryz.results61, go_sem]) rfl ⟨by rw [C2.out], hB⟩
 have d2 : (d == 0) = false := by simp [hz']
 by_cases hk : kidsN k = (ks.length : Int)
 rotate_left
 ·
  have d3 : (kidsN k != (ks.length : Int)) = true := by simp; omega
  have C2 : Hid (shV tm am (.mk k m ks) n d = .tuple #[.int .i64 0, .bool false]) := shV_false (by rw [shF_eq]; simp [nodeB, hk])
  clear hz hz' hk
  refine Go.wp_region_quiet_below (by kernel_rfl) (by kernel_rfl) ?_
  repeat (first | go_big_quiet_step ((exact Calls.regrown_of ((kidsOf_i).mono fun _ _ ⟨h1, h2⟩ => ⟨h1, below_self h2⟩))) | quiet_step ((exact Calls.regrown_of ((kidsOf_i).mono fun _ _ ⟨h1, h2⟩ => ⟨h1, below_self h2⟩))))
  refine wpQuiet_nil ?_; intro _ hw'; obtain ⟨⟨dq, osq⟩, hw''⟩ := hw'; subst hw''; have hq := below_regrown w0 dq osq; revert hq; generalize grow (redrawn w0 dq) osq = w1; intro hq
  replace hB := Below.on hB hq hB.size
  clear hq gg0 gg1 gg2
  go_wp2_with fail
  exact bodyPost_ret (v := .tuple #[.int .i64 0, .bool false]) (by simp [results, Tryz.results61, go_sem]) rfl ⟨by rw [C2.out], hB⟩
 have d3 : (kidsN k != (ks.length : Int)) = false := by simp [hk]
 have Hk := Lib.hid hk
 clear hk
 refine Go.wp_region_quiet_below (by kernel_rfl) (by kernel_rfl) ?_
 repeat (first | go_big_quiet_step ((exact Calls.regrown_of ((kidsOf_i).mono fun _ _ ⟨h1, h2⟩ => ⟨h1, below_self h2⟩))) | quiet_step ((exact Calls.regrown_of ((kidsOf_i).mono fun _ _ ⟨h1, h2⟩ => ⟨h1, below_self h2⟩))))
 refine wpQuiet_nil ?_; intro _ hw'; obtain ⟨⟨dq, osq⟩, hw''⟩ := hw'; subst hw''; have hq := below_regrown w0 dq osq; revert hq; generalize grow (redrawn w0 dq) osq = w1; intro hq
 replace hB := Below.on hB hq hB.size
 replace L := L.below hq
 replace M := M.below hq
 clear hq gg0 gg1 gg2 d1 d2 d3
 have l0 := L.c0
 have l1 := L.c1
 have m0 := M.c0
 have m1 := M.c1
 have m2 := M.c2
 have lM := M.lt
 by_cases h3 : k = 3
 ·
  have t3 : (k == 3) = true := by simp [h3]
  have t5 : (k == 5) = false := by simp [h3]
  have Hin : Hid (numB tm am k m = inB m 0 tm) := by show _ = _; unfold numB; rw [if_pos h3]
  have Hn0 : Hid (inB m 0 tm = true → nodeB tm am k m ks = true) := by
   intro h
   have := Hk.out
   unfold nodeB
   rw [Hin.out, h, this]
   simp [h3]
  clear h3
  go_wp2_with fail
  refine (within_any _ _ _ _).mono ?_
  rintro y w1 ⟨rfl, rfl⟩
  cases hin : inB m 0 tm
  ·
   have C2 : Hid (shV tm am (.mk k m ks) n d = .tuple #[.int .i64 0, .bool false]) := shV_false (by rw [shF_eq]; simp [nodeB, Hin.out, hin])
   go_wp2_with fail
   exact bodyPost_ret (v := .tuple #[.int .i64 0, .bool false]) (by simp [results, Tryz.results61, go_sem]) rfl ⟨by rw [C2.out], hB⟩
  ·
   have Hn := Lib.hid (Hn0.out hin)
   clear hin Hn0 Hin
   go_wp2_with fail
   go_loopw [2, 68] (fun l i wr => ∃ j : Nat, j ≤ ks.length ∧ i = .int .i64 j ∧ l = .int .i64 (n - 1 - Ex.sizeL (ks.take j)) ∧ Ex.treeL tm am (ks.take j) = true ∧ (Ex.depthL (ks.take j) : Int) ≤ d - 1 ∧ (Ex.sizeL (ks.take j) : Int) ≤ n - 1 ∧ Blk wr w.heap.size 30 [.int .i64 t, .int .i64 a] ∧ Below w.heap.size w wr) (fun _ i _ => ks.length - (intOf i).toNat)
   case atStart => exact ⟨0, by omega, rfl, by congr 1; simp [Ex.sizeL], by simp [Ex.treeL], by simp [Ex.depthL]; omega, by simp [Ex.sizeL]; omega, L, hB⟩
   case round =>
    clear hB L l0 l1 m0 m1 m2 M
    obtain ⟨j, hj, rfl, rfl, hpre, hdp, hszp, L, hB⟩ := hrel
    have l0 := L.c0
    have l1 := L.c1
    have lL := L.lt
    have hzB := hB.size
    have Hpre := Lib.hid hpre
    clear hpre
    by_cases hlt : j < ks.length
    ·
     obtain ⟨x, hx⟩ : ∃ z, ks[j]? = some z := ⟨_, List.getElem?_eq_getElem hlt⟩
     obtain ⟨b', o', rfl⟩ := kid_some hr (by intro h; simp [h] at hlt)
     obtain ⟨-, s', c', g0, g1, g2, gr⟩ := kid_in (hr.below hB) hx
     have hN' : Ex.sizeL x.kids < N := by
      have := Ex.sizeL_mem (List.mem_of_getElem? hx)
      have := Ex.size_eq x
      omega
     have Het : Hid (Ex.mk x.kind x.num x.kids = x) := (Ex.eta x).symm
     have Htk := Lib.hid (@Ex.treeL_take_succ tm am _ _ _ hx)
     have Hsk := Lib.hid (Ex.sizeL_take_succ hx)
     have Hdk := Lib.hid (Ex.depthL_take_succ hx)
     have Hbad : Hid (shF tm am x (n - 1 - Ex.sizeL (ks.take j)) (d - 1) = false → shV tm am (.mk k m ks) n d = .tuple #[.int .i64 0, .bool false]) := fun h => shV_false (shF_kid hx h)
     have hn0 : 0 ≤ n - 1 - Ex.sizeL (ks.take j) := by omega
     have hd0 : 0 ≤ d - 1 := by omega
     go_wp2_with fail
     refine (ih _ hN' x.kind x.num x.kids _ _ (n - 1 - Ex.sizeL (ks.take j)) (d - 1) _ (Nat.le_refl _) (gr.alloc _) hn0 (by omega) hd0 (by omega)).mono ?_
     rintro y w1 ⟨rfl, hb⟩
     have hB1 : Below w.heap.size w w1 := Below.on (by (repeat' first | exact Below.refl _ _ | assumption | apply Below.alloc | apply Below.drew | apply Below.setCell | omega | (simp; done) | (simp; omega))) hb (by simp; omega)
     have L1 := (L.alloc (.cells #[.int .i64 x.kind, .int .i64 x.num, .slice s' x.kids.length c'] 34)).below hb
     clear hb
     rw [Het.out]
     cases hfc : shF tm am x (n - 1 - Ex.sizeL (ks.take j)) (d - 1)
     ·
      have C2 := Lib.hid (Hbad.out hfc)
      rw [shV_false hfc]
      clear Hbad Htk Hsk Hdk hfc
      replace hB := hB1
      go_wp2_with fail
      exact bodyPost_ret (v := .tuple #[.int .i64 0, .bool false]) (by simp [results, Tryz.results61, go_sem]) rfl ⟨by rw [C2.out], hB⟩
     ·
      have hfc' := shF_true.1 hfc
      rw [shV_true hfc]
      have Hrel : Hid (Ex.treeL tm am (ks.take (j + 1)) = true ∧ (Ex.depthL (ks.take (j + 1)) : Int) ≤ d - 1 ∧ (Ex.sizeL (ks.take (j + 1)) : Int) ≤ n - 1 ∧ n - 1 - (Ex.sizeL (ks.take j) : Int) - x.size = n - 1 - (Ex.sizeL (ks.take (j + 1)) : Nat)) := by
       obtain ⟨i1, i2, i3⟩ := hfc'
       have i4 := Hsk.out
       have i5 := Hdk.out
       exact ⟨by rw [Htk.out, Hpre.out, i1]; rfl, by omega, by omega, by omega⟩
      have Heq : Hid (n - 1 - (Ex.sizeL (ks.take j) : Int) - x.size = n - 1 - (Ex.sizeL (ks.take (j + 1)) : Nat)) := Hrel.out.2.2.2
      clear Hbad Htk Hsk Hdk hfc hfc'
      rw [Heq.out]
      go_wp2_with fail
      go_roundw
      case rel => exact ⟨j + 1, by omega, by go_num, rfl, Hrel.out.1, Hrel.out.2.1, Hrel.out.2.2.1, L1, hB1⟩
      case measure => simp [intOf]; omega
    ·
     obtain rfl : j = ks.length := by omega
     have C2 : Hid (shV tm am (.mk k m ks) n d = .tuple #[.int .i64 (n - 1 - (Ex.sizeL (ks.take ks.length) : Nat)), .bool true]) := by
      show _ = _
      have h1 := Hpre.out
      rw [List.take_length] at h1 hdp hszp ⊢
      rw [shV_true (by rw [shF_eq, Hn.out, h1, decide_eq_true (by simp only [Ex.size]; omega), decide_eq_true (by simp only [Ex.depth]; omega)]; rfl)]
      have : n - ((Ex.mk k m ks).size : Int) = n - 1 - (Ex.sizeL ks : Nat) := by simp only [Ex.size]; omega
      rw [this]
     go_wp2_with fail
     exact bodyPost_ret (v := .tuple #[.int .i64 (n - 1 - (Ex.sizeL (ks.take ks.length) : Nat)), .bool true]) (by simp [results, Tryz.results61, go_sem]) rfl ⟨by rw [C2.out], hB⟩
 have t3 : (k == 3) = false := by simp [h3]
 by_cases h4 : k = 4
 ·
  have t4 : (k == 4) = true := by simp [h4]
  have t5 : (k == 5) = false := by simp [h4]
  have Hin : Hid (numB tm am k m = inB m 0 am) := by show _ = _; unfold numB; rw [if_neg h3, if_pos h4]
  have Hn0 : Hid (inB m 0 am = true → nodeB tm am k m ks = true) := by
   intro h
   have := Hk.out
   unfold nodeB
   rw [Hin.out, h, this]
   simp [h4]
  clear h3 h4
  go_wp2_with fail
  refine (within_any _ _ _ _).mono ?_
  rintro y w1 ⟨rfl, rfl⟩
  cases hin : inB m 0 am
  ·
   have C2 : Hid (shV tm am (.mk k m ks) n d = .tuple #[.int .i64 0, .bool false]) := shV_false (by rw [shF_eq]; simp [nodeB, Hin.out, hin])
   go_wp2_with fail
   exact bodyPost_ret (v := .tuple #[.int .i64 0, .bool false]) (by simp [results, Tryz.results61, go_sem]) rfl ⟨by rw [C2.out], hB⟩
  ·
   have Hn := Lib.hid (Hn0.out hin)
   clear hin Hn0 Hin
   go_wp2_with fail
   go_loopw [2, 68] (fun l i wr => ∃ j : Nat, j ≤ ks.length ∧ i = .int .i64 j ∧ l = .int .i64 (n - 1 - Ex.sizeL (ks.take j)) ∧ Ex.treeL tm am (ks.take j) = true ∧ (Ex.depthL (ks.take j) : Int) ≤ d - 1 ∧ (Ex.sizeL (ks.take j) : Int) ≤ n - 1 ∧ Blk wr w.heap.size 30 [.int .i64 t, .int .i64 a] ∧ Below w.heap.size w wr) (fun _ i _ => ks.length - (intOf i).toNat)
   case atStart => exact ⟨0, by omega, rfl, by congr 1; simp [Ex.sizeL], by simp [Ex.treeL], by simp [Ex.depthL]; omega, by simp [Ex.sizeL]; omega, L, hB⟩
   case round =>
    clear hB L l0 l1 m0 m1 m2 M
    obtain ⟨j, hj, rfl, rfl, hpre, hdp, hszp, L, hB⟩ := hrel
    have l0 := L.c0
    have l1 := L.c1
    have lL := L.lt
    have hzB := hB.size
    have Hpre := Lib.hid hpre
    clear hpre
    by_cases hlt : j < ks.length
    ·
     obtain ⟨x, hx⟩ : ∃ z, ks[j]? = some z := ⟨_, List.getElem?_eq_getElem hlt⟩
     obtain ⟨b', o', rfl⟩ := kid_some hr (by intro h; simp [h] at hlt)
     obtain ⟨-, s', c', g0, g1, g2, gr⟩ := kid_in (hr.below hB) hx
     have hN' : Ex.sizeL x.kids < N := by
      have := Ex.sizeL_mem (List.mem_of_getElem? hx)
      have := Ex.size_eq x
      omega
     have Het : Hid (Ex.mk x.kind x.num x.kids = x) := (Ex.eta x).symm
     have Htk := Lib.hid (@Ex.treeL_take_succ tm am _ _ _ hx)
     have Hsk := Lib.hid (Ex.sizeL_take_succ hx)
     have Hdk := Lib.hid (Ex.depthL_take_succ hx)
     have Hbad : Hid (shF tm am x (n - 1 - Ex.sizeL (ks.take j)) (d - 1) = false → shV tm am (.mk k m ks) n d = .tuple #[.int .i64 0, .bool false]) := fun h => shV_false (shF_kid hx h)
     have hn0 : 0 ≤ n - 1 - Ex.sizeL (ks.take j) := by omega
     have hd0 : 0 ≤ d - 1 := by omega
     go_wp2_with fail
     refine (ih _ hN' x.kind x.num x.kids _ _ (n - 1 - Ex.sizeL (ks.take j)) (d - 1) _ (Nat.le_refl _) (gr.alloc _) hn0 (by omega) hd0 (by omega)).mono ?_
     rintro y w1 ⟨rfl, hb⟩
     have hB1 : Below w.heap.size w w1 := Below.on (by (repeat' first | exact Below.refl _ _ | assumption | apply Below.alloc | apply Below.drew | apply Below.setCell | omega | (simp; done) | (simp; omega))) hb (by simp; omega)
     have L1 := (L.alloc (.cells #[.int .i64 x.kind, .int .i64 x.num, .slice s' x.kids.length c'] 34)).below hb
     clear hb
     rw [Het.out]
     cases hfc : shF tm am x (n - 1 - Ex.sizeL (ks.take j)) (d - 1)
     ·
      have C2 := Lib.hid (Hbad.out hfc)
      rw [shV_false hfc]
      clear Hbad Htk Hsk Hdk hfc
      replace hB := hB1
      go_wp2_with fail
      exact bodyPost_ret (v := .tuple #[.int .i64 0, .bool false]) (by simp [results, Tryz.results61, go_sem]) rfl ⟨by rw [C2.out], hB⟩
     ·
      have hfc' := shF_true.1 hfc
      rw [shV_true hfc]
      have Hrel : Hid (Ex.treeL tm am (ks.take (j + 1)) = true ∧ (Ex.depthL (ks.take (j + 1)) : Int) ≤ d - 1 ∧ (Ex.sizeL (ks.take (j + 1)) : Int) ≤ n - 1 ∧ n - 1 - (Ex.sizeL (ks.take j) : Int) - x.size = n - 1 - (Ex.sizeL (ks.take (j + 1)) : Nat)) := by
       obtain ⟨i1, i2, i3⟩ := hfc'
       have i4 := Hsk.out
       have i5 := Hdk.out
       exact ⟨by rw [Htk.out, Hpre.out, i1]; rfl, by omega, by omega, by omega⟩
      have Heq : Hid (n - 1 - (Ex.sizeL (ks.take j) : Int) - x.size = n - 1 - (Ex.sizeL (ks.take (j + 1)) : Nat)) := Hrel.out.2.2.2
      clear Hbad Htk Hsk Hdk hfc hfc'
      rw [Heq.out]
      go_wp2_with fail
      go_roundw
      case rel => exact ⟨j + 1, by omega, by go_num, rfl, Hrel.out.1, Hrel.out.2.1, Hrel.out.2.2.1, L1, hB1⟩
      case measure => simp [intOf]; omega
    ·
     obtain rfl : j = ks.length := by omega
     have C2 : Hid (shV tm am (.mk k m ks) n d = .tuple #[.int .i64 (n - 1 - (Ex.sizeL (ks.take ks.length) : Nat)), .bool true]) := by
      show _ = _
      have h1 := Hpre.out
      rw [List.take_length] at h1 hdp hszp ⊢
      rw [shV_true (by rw [shF_eq, Hn.out, h1, decide_eq_true (by simp only [Ex.size]; omega), decide_eq_true (by simp only [Ex.depth]; omega)]; rfl)]
      have : n - ((Ex.mk k m ks).size : Int) = n - 1 - (Ex.sizeL ks : Nat) := by simp only [Ex.size]; omega
      rw [this]
     go_wp2_with fail
     exact bodyPost_ret (v := .tuple #[.int .i64 (n - 1 - (Ex.sizeL (ks.take ks.length) : Nat)), .bool true]) (by simp [results, Tryz.results61, go_sem]) rfl ⟨by rw [C2.out], hB⟩
 have t4 : (k == 4) = false := by simp [h4]
 have Hin : Hid (numB tm am k m = (m == 0)) := by show _ = _; unfold numB; rw [if_neg h3, if_neg h4]
 by_cases h0 : m = 0
 rotate_left
 ·
  have t0 : (m != 0) = true := by simp [h0]
  have C2 : Hid (shV tm am (.mk k m ks) n d = .tuple #[.int .i64 0, .bool false]) := shV_false (by rw [shF_eq]; simp [nodeB, Hin.out, h0])
  clear h3 h4 h0
  go_wp2_with fail
  exact bodyPost_ret (v := .tuple #[.int .i64 0, .bool false]) (by simp [results, Tryz.results61, go_sem]) rfl ⟨by rw [C2.out], hB⟩
 have t0 : (m != 0) = false := by simp [h0]
 have Hn0 : Hid ((k != 5 || Ex.condL ks) = true → nodeB tm am k m ks = true) := by
  intro h
  have := Hk.out
  unfold nodeB
  rw [Hin.out, h, this, h0]
  simp
 by_cases h5 : k = 5
 ·
  have t5 : (k == 5) = true := by simp [h5]
  have hone : ks.length = 1 := by have := Hk.out; rw [h5, kidsN_five] at this; omega
  obtain ⟨f, hf, hcl⟩ := condL_one hone
  obtain ⟨b', o', rfl⟩ := kid_some hr (by intro h; simp [h] at hone)
  obtain ⟨-, s', c', g0, g1, g2, gr⟩ := kid_in (hr.below hB) hf
  simp only [Nat.zero_mul, Nat.add_zero] at g0 g1 g2
  have hpos : 0 < ks.length := by omega
  have Het : Hid (Ex.mk f.kind f.num f.kids = f) := (Ex.eta f).symm
  have Hbad : Hid (f.cond = false → shV tm am (.mk k m ks) n d = .tuple #[.int .i64 0, .bool false]) := fun h => shV_false (by rw [shF_eq]; simp [nodeB, h5, hcl, h])
  have Hgood : Hid (f.cond = true → nodeB tm am k m ks = true) := fun h => Hn0.out (by rw [hcl, h]; simp)
  clear h3 h4 h0 h5 hone hcl
  go_wp2_with fail
  refine (implIsCondition_i gr).mono ?_
  rintro y w1 ⟨rfl, hb⟩
  rw [Het.out]
  replace hB := Below.on hB hb hB.size
  replace L := L.below hb
  replace M := M.below hb
  clear hb l0 l1 m0 m1 m2 lM g0 g1 g2 gr
  have l0 := L.c0
  have l1 := L.c1
  have m0 := M.c0
  have m1 := M.c1
  have m2 := M.c2
  cases hfc : f.cond
  ·
   have C2 := Lib.hid (Hbad.out hfc)
   clear Hbad Hgood
   go_wp2_with fail
   exact bodyPost_ret (v := .tuple #[.int .i64 0, .bool false]) (by simp [results, Tryz.results61, go_sem]) rfl ⟨by rw [C2.out], hB⟩
  ·
   have Hn := Lib.hid (Hgood.out hfc)
   clear Hbad Hgood
   go_wp2_with fail
   go_loopw [2, 68] (fun l i wr => ∃ j : Nat, j ≤ ks.length ∧ i = .int .i64 j ∧ l = .int .i64 (n - 1 - Ex.sizeL (ks.take j)) ∧ Ex.treeL tm am (ks.take j) = true ∧ (Ex.depthL (ks.take j) : Int) ≤ d - 1 ∧ (Ex.sizeL (ks.take j) : Int) ≤ n - 1 ∧ Blk wr w.heap.size 30 [.int .i64 t, .int .i64 a] ∧ Below w.heap.size w wr) (fun _ i _ => ks.length - (intOf i).toNat)
   case atStart => exact ⟨0, by omega, rfl, by congr 1; simp [Ex.sizeL], by simp [Ex.treeL], by simp [Ex.depthL]; omega, by simp [Ex.sizeL]; omega, L, hB⟩
   case round =>
    clear hB L l0 l1 m0 m1 m2 M
    obtain ⟨j, hj, rfl, rfl, hpre, hdp, hszp, L, hB⟩ := hrel
    have l0 := L.c0
    have l1 := L.c1
    have lL := L.lt
    have hzB := hB.size
    have Hpre := Lib.hid hpre
    clear hpre
    by_cases hlt : j < ks.length
    ·
     obtain ⟨x, hx⟩ : ∃ z, ks[j]? = some z := ⟨_, List.getElem?_eq_getElem hlt⟩
     skip
     obtain ⟨-, s', c', g0, g1, g2, gr⟩ := kid_in (hr.below hB) hx
     have hN' : Ex.sizeL x.kids < N := by
      have := Ex.sizeL_mem (List.mem_of_getElem? hx)
      have := Ex.size_eq x
      omega
     have Het : Hid (Ex.mk x.kind x.num x.kids = x) := (Ex.eta x).symm
     have Htk := Lib.hid (@Ex.treeL_take_succ tm am _ _ _ hx)
     have Hsk := Lib.hid (Ex.sizeL_take_succ hx)
     have Hdk := Lib.hid (Ex.depthL_take_succ hx)
     have Hbad : Hid (shF tm am x (n - 1 - Ex.sizeL (ks.take j)) (d - 1) = false → shV tm am (.mk k m ks) n d = .tuple #[.int .i64 0, .bool false]) := fun h => shV_false (shF_kid hx h)
     have hn0 : 0 ≤ n - 1 - Ex.sizeL (ks.take j) := by omega
     have hd0 : 0 ≤ d - 1 := by omega
     go_wp2_with fail
     refine (ih _ hN' x.kind x.num x.kids _ _ (n - 1 - Ex.sizeL (ks.take j)) (d - 1) _ (Nat.le_refl _) (gr.alloc _) hn0 (by omega) hd0 (by omega)).mono ?_
     rintro y w1 ⟨rfl, hb⟩
     have hB1 : Below w.heap.size w w1 := Below.on (by (repeat' first | exact Below.refl _ _ | assumption | apply Below.alloc | apply Below.drew | apply Below.setCell | omega | (simp; done) | (simp; omega))) hb (by simp; omega)
     have L1 := (L.alloc (.cells #[.int .i64 x.kind, .int .i64 x.num, .slice s' x.kids.length c'] 34)).below hb
     clear hb
     rw [Het.out]
     cases hfc : shF tm am x (n - 1 - Ex.sizeL (ks.take j)) (d - 1)
     ·
      have C2 := Lib.hid (Hbad.out hfc)
      rw [shV_false hfc]
      clear Hbad Htk Hsk Hdk hfc
      replace hB := hB1
      go_wp2_with fail
      exact bodyPost_ret (v := .tuple #[.int .i64 0, .bool false]) (by simp [results, Tryz.results61, go_sem]) rfl ⟨by rw [C2.out], hB⟩
     ·
      have hfc' := shF_true.1 hfc
      rw [shV_true hfc]
      have Hrel : Hid (Ex.treeL tm am (ks.take (j + 1)) = true ∧ (Ex.depthL (ks.take (j + 1)) : Int) ≤ d - 1 ∧ (Ex.sizeL (ks.take (j + 1)) : Int) ≤ n - 1 ∧ n - 1 - (Ex.sizeL (ks.take j) : Int) - x.size = n - 1 - (Ex.sizeL (ks.take (j + 1)) : Nat)) := by
       obtain ⟨i1, i2, i3⟩ := hfc'
       have i4 := Hsk.out
       have i5 := Hdk.out
       exact ⟨by rw [Htk.out, Hpre.out, i1]; rfl, by omega, by omega, by omega⟩
      have Heq : Hid (n - 1 - (Ex.sizeL (ks.take j) : Int) - x.size = n - 1 - (Ex.sizeL (ks.take (j + 1)) : Nat)) := Hrel.out.2.2.2
      clear Hbad Htk Hsk Hdk hfc hfc'
      rw [Heq.out]
      go_wp2_with fail
      go_roundw
      case rel => exact ⟨j + 1, by omega, by go_num, rfl, Hrel.out.1, Hrel.out.2.1, Hrel.out.2.2.1, L1, hB1⟩
      case measure => simp [intOf]; omega
    ·
     obtain rfl : j = ks.length := by omega
     have C2 : Hid (shV tm am (.mk k m ks) n d = .tuple #[.int .i64 (n - 1 - (Ex.sizeL (ks.take ks.length) : Nat)), .bool true]) := by
      show _ = _
      have h1 := Hpre.out
      rw [List.take_length] at h1 hdp hszp ⊢
      rw [shV_true (by rw [shF_eq, Hn.out, h1, decide_eq_true (by simp only [Ex.size]; omega), decide_eq_true (by simp only [Ex.depth]; omega)]; rfl)]
      have : n - ((Ex.mk k m ks).size : Int) = n - 1 - (Ex.sizeL ks : Nat) := by simp only [Ex.size]; omega
      rw [this]
     go_wp2_with fail
     exact bodyPost_ret (v := .tuple #[.int .i64 (n - 1 - (Ex.sizeL (ks.take ks.length) : Nat)), .bool true]) (by simp [results, Tryz.results61, go_sem]) rfl ⟨by rw [C2.out], hB⟩
 ·
  have t5 : (k == 5) = false := by simp [h5]
  have Hn := Lib.hid (Hn0.out (by simp [h5]))
  clear h3 h4 h0 h5
  go_wp2_with fail
  go_loopw [2, 68] (fun l i wr => ∃ j : Nat, j ≤ ks.length ∧ i = .int .i64 j ∧ l = .int .i64 (n - 1 - Ex.sizeL (ks.take j)) ∧ Ex.treeL tm am (ks.take j) = true ∧ (Ex.depthL (ks.take j) : Int) ≤ d - 1 ∧ (Ex.sizeL (ks.take j) : Int) ≤ n - 1 ∧ Blk wr w.heap.size 30 [.int .i64 t, .int .i64 a] ∧ Below w.heap.size w wr) (fun _ i _ => ks.length - (intOf i).toNat)
  case atStart => exact ⟨0, by omega, rfl, by congr 1; simp [Ex.sizeL], by simp [Ex.treeL], by simp [Ex.depthL]; omega, by simp [Ex.sizeL]; omega, L, hB⟩
  case round =>
   clear hB L l0 l1 m0 m1 m2 M
   obtain ⟨j, hj, rfl, rfl, hpre, hdp, hszp, L, hB⟩ := hrel
   have l0 := L.c0
   have l1 := L.c1
   have lL := L.lt
   have hzB := hB.size
   have Hpre := Lib.hid hpre
   clear hpre
   by_cases hlt : j < ks.length
   ·
    obtain ⟨x, hx⟩ : ∃ z, ks[j]? = some z := ⟨_, List.getElem?_eq_getElem hlt⟩
    obtain ⟨b', o', rfl⟩ := kid_some hr (by intro h; simp [h] at hlt)
    obtain ⟨-, s', c', g0, g1, g2, gr⟩ := kid_in (hr.below hB) hx
    have hN' : Ex.sizeL x.kids < N := by
     have := Ex.sizeL_mem (List.mem_of_getElem? hx)
     have := Ex.size_eq x
     omega
    have Het : Hid (Ex.mk x.kind x.num x.kids = x) := (Ex.eta x).symm
    have Htk := Lib.hid (@Ex.treeL_take_succ tm am _ _ _ hx)
    have Hsk := Lib.hid (Ex.sizeL_take_succ hx)
    have Hdk := Lib.hid (Ex.depthL_take_succ hx)
    have Hbad : Hid (shF tm am x (n - 1 - Ex.sizeL (ks.take j)) (d - 1) = false → shV tm am (.mk k m ks) n d = .tuple #[.int .i64 0, .bool false]) := fun h => shV_false (shF_kid hx h)
    have hn0 : 0 ≤ n - 1 - Ex.sizeL (ks.take j) := by omega
    have hd0 : 0 ≤ d - 1 := by omega
    go_wp2_with fail
    refine (ih _ hN' x.kind x.num x.kids _ _ (n - 1 - Ex.sizeL (ks.take j)) (d - 1) _ (Nat.le_refl _) (gr.alloc _) hn0 (by omega) hd0 (by omega)).mono ?_
    rintro y w1 ⟨rfl, hb⟩
    have hB1 : Below w.heap.size w w1 := Below.on (by (repeat' first | exact Below.refl _ _ | assumption | apply Below.alloc | apply Below.drew | apply Below.setCell | omega | (simp; done) | (simp; omega))) hb (by simp; omega)
    have L1 := (L.alloc (.cells #[.int .i64 x.kind, .int .i64 x.num, .slice s' x.kids.length c'] 34)).below hb
    clear hb
    rw [Het.out]
    cases hfc : shF tm am x (n - 1 - Ex.sizeL (ks.take j)) (d - 1)
    ·
     have C2 := Lib.hid (Hbad.out hfc)
     rw [shV_false hfc]
     clear Hbad Htk Hsk Hdk hfc
     replace hB := hB1
     go_wp2_with fail
     exact bodyPost_ret (v := .tuple #[.int .i64 0, .bool false]) (by simp [results, Tryz.results61, go_sem]) rfl ⟨by rw [C2.out], hB⟩
    ·
     have hfc' := shF_true.1 hfc
     rw [shV_true hfc]
     have Hrel : Hid (Ex.treeL tm am (ks.take (j + 1)) = true ∧ (Ex.depthL (ks.take (j + 1)) : Int) ≤ d - 1 ∧ (Ex.sizeL (ks.take (j + 1)) : Int) ≤ n - 1 ∧ n - 1 - (Ex.sizeL (ks.take j) : Int) - x.size = n - 1 - (Ex.sizeL (ks.take (j + 1)) : Nat)) := by
      obtain ⟨i1, i2, i3⟩ := hfc'
      have i4 := Hsk.out
      have i5 := Hdk.out
      exact ⟨by rw [Htk.out, Hpre.out, i1]; rfl, by omega, by omega, by omega⟩
     have Heq : Hid (n - 1 - (Ex.sizeL (ks.take j) : Int) - x.size = n - 1 - (Ex.sizeL (ks.take (j + 1)) : Nat)) := Hrel.out.2.2.2
     clear Hbad Htk Hsk Hdk hfc hfc'
     rw [Heq.out]
     go_wp2_with fail
     go_roundw
     case rel => exact ⟨j + 1, by omega, by go_num, rfl, Hrel.out.1, Hrel.out.2.1, Hrel.out.2.2.1, L1, hB1⟩
     case measure => simp [intOf]; omega
   ·
    obtain rfl : j = ks.length := by omega
    have C2 : Hid (shV tm am (.mk k m ks) n d = .tuple #[.int .i64 (n - 1 - (Ex.sizeL (ks.take ks.length) : Nat)), .bool true]) := by
     show _ = _
     have h1 := Hpre.out
     rw [List.take_length] at h1 hdp hszp ⊢
     rw [shV_true (by rw [shF_eq, Hn.out, h1, decide_eq_true (by simp only [Ex.size]; omega), decide_eq_true (by simp only [Ex.depth]; omega)]; rfl)]
     have : n - ((Ex.mk k m ks).size : Int) = n - 1 - (Ex.sizeL ks : Nat) := by simp only [Ex.size]; omega
     rw [this]
    go_wp2_with fail
    exact bodyPost_ret (v := .tuple #[.int .i64 (n - 1 - (Ex.sizeL (ks.take ks.length) : Nat)), .bool true]) (by simp [results, Tryz.results61, go_sem]) rfl ⟨by rw [C2.out], hB⟩
theorem isExpr_w {t a k m : Int} {ks : List Ex} {s : Option Addr} {c : Nat} {w : World} (tm am : Int) (q1 : IntKind.i64.wrap (t - 1) = tm) (q2 : IntKind.i64.wrap (a - 1) = am) (hr : Rd w (kidsD ks) (.slice s ks.length c)) :
  Calls Tryz.prog 59 #[.agg #[.int .i64 t, .int .i64 a], .agg #[.int .i64 k, .int .i64 m, .slice s ks.length c]] w fun f w' =>
   f = .returned (.bool (shF tm am (.mk k m ks) 200 40)) ∧ Below w.heap.size w w' := by
 go_enter Tryz.func59, Tryz.ntmps59
 go_wp2_with fail
 refine (shaped_all t a tm am q1 q2 _ k m ks s c 200 40 _ (Nat.le_refl _) ((hr.alloc _).alloc _) (by omega) (by omega) (by omega) (by omega)).mono ?_
 rintro x w1 ⟨rfl, hb⟩
 have hB : Below w.heap.size w w1 := Below.on (by (repeat' first | exact Below.refl _ _ | assumption | apply Below.alloc | apply Below.drew | apply Below.setCell | omega | (simp; done) | (simp; omega))) hb (by simp; omega)
 clear hb
 cases h : shF tm am (.mk k m ks) 200 40
 ·
  rw [shV_false h]
  go_wp2_with fail
  go_ret
  exact ⟨ret_bool (by rw [h]), hB⟩
 ·
  rw [shV_true h]
  go_wp2_with fail
  go_ret
  exact ⟨ret_bool (by rw [h]), hB⟩
theorem okB_sh {t a : Int} {e : Ex} (h : sigB t a = true) : shF (t - 1) (a - 1) e 200 40 = okB t a e := by
 unfold shF okB
 rw [h, Bool.true_and, Bool.and_comm, Bool.eq_iff_iff]
 simp
 intros
 omega
end Go.Proofs.YtcokljhamhgelaaGreatDoor
