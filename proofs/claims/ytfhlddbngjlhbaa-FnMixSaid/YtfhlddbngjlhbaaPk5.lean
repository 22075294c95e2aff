/-
  Parts of a proof, joined: Ok, Truth, Empty, TextE, Grow, TidyP. No condition.
-/
import Derived.Lib.AppendStr
import Derived.Test.YtfhlddbngjlhbaaPk4
namespace Go.Proofs.Ytfhlddbngjlhbaa
set_option linter.unusedVariables false
set_option linter.unusedSimpArgs false
open Go.ChangeShapes Go.WideShapes Go.ChangeAt Go.RowKit Go.Sort
theorem kidsN_zero {k : Int} {ks : List Ex} (h : kidsN k = (ks.length : Int)) (hk : k = 3 ∨ k = 4) : ks = [] := by
 have : kidsN k = 0 := by unfold kidsN; rw [if_pos (by omega)]
 exact List.eq_nil_of_length_eq_zero (by omega)
theorem condL_one {ks : List Ex} (h : ks.length = 1) : ∃ e, ks[0]? = some e ∧ Ex.condL ks = e.cond := by
 match ks, h with
 | [e], _ => exact ⟨e, rfl, by simp [Ex.condL]⟩
theorem kidsN_five : kidsN 5 = 1 := by unfold kidsN; rw [if_neg (by omega), if_pos (by omega)]
set_option maxHeartbeats 2000000 in
theorem l01Tree_w (t a tm am : Int) (q1 : IntKind.i64.wrap (t - 1) = tm) (q2 : IntKind.i64.wrap (a - 1) = am) (N : Nat) : ∀ (e : Ex) (b o : Nat) (w : World), e.size ≤ N → ExAt w b o e →
  Calls Try.prog 82 #[.agg #[.int .i64 t, .int .i64 a], .pointer (some ⟨b, o, none⟩)] w fun f w' => f = .returned (.bool (e.tree tm am)) ∧ Below w.heap.size w w' := by
 induction N using Nat.strongRecOn with
 | _ N ih =>
 intro e b o w hN hr
 have hbl := hr.lt
 have Hte := Lib.hid (Ex.tree_eq tm am e)
 have hks : Ex.sizeL e.kids < N := by have := Ex.size_eq e; omega
 have hgen : ∀ o, ExAt (w.alloc o) b _ e := fun o => hr.below (Below.alloc (Below.refl _ _) (Nat.le_refl _) o)
 go_enter Try.func82, Try.ntmps82
 go_wp2_with fail
 have L := Blk.new2 w 29 (.int .i64 t) (.int .i64 a)
 have hE := hgen (.cells #[.int .i64 t, .int .i64 a] 29)
 have hB : Below w.heap.size w (w.alloc (.cells #[.int .i64 t, .int .i64 a] 29)) := by (repeat' first | exact Below.refl _ _ | assumption | apply Below.alloc | apply Below.drew | apply Below.setCell | omega | (simp; done) | (simp; omega))
 generalize w.alloc (.cells #[.int .i64 t, .int .i64 a] 29) = w0 at L hE hB ⊢
 clear hgen hr
 have hE' := hE
 obtain ⟨g0, g1, s, c, g2, g3⟩ := hE'
 obtain ⟨-, hlen, hcap, -, -⟩ := kid_at g3
 unfold maxLen at hcap
 have gg0 := fun d os => cell_regrown g0 d os
 have gg1 := fun d os => cell_regrown g1 d os
 have gg2 := fun d os => cell_regrown g2 d os
 by_cases hk : kidsN e.kind = (e.kids.length : Int)
 rotate_left
 ·
  have d1 : ((e.kids.length : Int) != kidsN e.kind) = true := by simp; omega
  have c2 : e.tree tm am = false := by rw [Hte.out]; simp [nodeB, hk]
  clear hk
  refine Go.wp_region_quiet_below (by kernel_rfl) (by kernel_rfl) ?_
  repeat (first | go_big_quiet_step ((exact Calls.regrown_of ((l01Kids_i).mono fun _ _ ⟨h1, h2⟩ => ⟨h1, below_self h2⟩))) | quiet_step ((exact Calls.regrown_of ((l01Kids_i).mono fun _ _ ⟨h1, h2⟩ => ⟨h1, below_self h2⟩))))
  refine wpQuiet_nil ?_; intro _ hw'; obtain ⟨⟨dq, osq⟩, hw''⟩ := hw'; subst hw''; have hq := below_regrown w0 dq osq; revert hq; generalize grow (redrawn w0 dq) osq = w1; intro hq
  replace hB := Below.on hB hq hB.size
  clear hq gg0 gg1 gg2 g0 g1 g2
  go_wp2_with fail
  go_ret
  exact ⟨by first | rfl | (rw [c2]; rfl), hB⟩
 have d1 : ((e.kids.length : Int) != kidsN e.kind) = false := by simp [hk]
 have Hk := Lib.hid hk
 clear hk
 refine Go.wp_region_quiet_below (by kernel_rfl) (by kernel_rfl) ?_
 repeat (first | go_big_quiet_step ((exact Calls.regrown_of ((l01Kids_i).mono fun _ _ ⟨h1, h2⟩ => ⟨h1, below_self h2⟩))) | quiet_step ((exact Calls.regrown_of ((l01Kids_i).mono fun _ _ ⟨h1, h2⟩ => ⟨h1, below_self h2⟩))))
 refine wpQuiet_nil ?_; intro _ hw'; obtain ⟨⟨dq, osq⟩, hw''⟩ := hw'; subst hw''; have hq := below_regrown w0 dq osq; revert hq; generalize grow (redrawn w0 dq) osq = w1; intro hq
 replace L := L.below hq
 replace hE := hE.below hq
 replace hB := Below.on hB hq hB.size
 clear hq gg0 gg1 gg2 g0 g1 g2 g3 d1
 have hE' := hE
 obtain ⟨g0, g1, s, c, g2, g3⟩ := hE'
 have gg1 := fun d os => cell_regrown g1 d os
 have gl0 := fun d os => cell_regrown L.c0 d os
 have gl1 := fun d os => cell_regrown L.c1 d os
 by_cases h3 : e.kind = 3
 ·
  have t3 : (e.kind == 3) = true := by simp [h3]
  have hnil := kidsN_zero Hk.out (Or.inl h3)
  have c2 : e.tree tm am = inB e.num 0 tm := by
   have := Hk.out
   rw [Hte.out, hnil]
   rw [hnil] at this
   simp [nodeB, numB, h3, Ex.treeL]
   intro _
   rw [← h3]; simpa using this
  have C2 := Lib.hid c2
  clear hnil h3 c2
  go_wp2_with fail
  refine Go.wp_region_quiet_below (by kernel_rfl) (by kernel_rfl) ?_
  repeat (first | go_big_quiet_step ((exact Calls.regrown_of (in_B _ _ _ _))) | quiet_step ((exact Calls.regrown_of (in_B _ _ _ _))))
  refine wpQuiet_nil ?_; intro _ hw'; obtain ⟨⟨dq, osq⟩, hw''⟩ := hw'; subst hw''; have hq := below_regrown w1 dq osq; revert hq; generalize grow (redrawn w1 dq) osq = w2; intro hq
  replace hB := Below.on hB hq hB.size
  clear hq gg1 gl0 gl1 g0 g1 g2
  go_wp2_with fail
  go_ret
  exact ⟨ret_bool (by rw [C2.out]), hB⟩
 by_cases h4 : e.kind = 4
 ·
  have t3 : (e.kind == 3) = false := by simp [h3]
  have t4 : (e.kind == 4) = true := by simp [h4]
  have hnil := kidsN_zero Hk.out (Or.inr h4)
  have c2 : e.tree tm am = inB e.num 0 am := by
   have := Hk.out
   rw [Hte.out, hnil]
   rw [hnil] at this
   simp [nodeB, numB, h4, Ex.treeL]
   intro _
   rw [← h4]; simpa using this
  have C2 := Lib.hid c2
  clear hnil h3 h4 c2
  go_wp2_with fail
  refine Go.wp_region_quiet_below (by kernel_rfl) (by kernel_rfl) ?_
  repeat (first | go_big_quiet_step ((exact Calls.regrown_of (in_B _ _ _ _))) | quiet_step ((exact Calls.regrown_of (in_B _ _ _ _))))
  refine wpQuiet_nil ?_; intro _ hw'; obtain ⟨⟨dq, osq⟩, hw''⟩ := hw'; subst hw''; have hq := below_regrown w1 dq osq; revert hq; generalize grow (redrawn w1 dq) osq = w2; intro hq
  replace hB := Below.on hB hq hB.size
  clear hq gg1 gl0 gl1 g0 g1 g2
  go_wp2_with fail
  go_ret
  exact ⟨ret_bool (by rw [C2.out]), hB⟩
 have t3 : (e.kind == 3) = false := by simp [h3]
 have t4 : (e.kind == 4) = false := by simp [h4]
 by_cases h0 : e.num = 0
 rotate_left
 ·
  have t0 : (e.num != 0) = true := by simp [h0]
  have c2 : e.tree tm am = false := by rw [Hte.out]; simp [nodeB, numB, h3, h4, h0]
  clear h3 h4 h0 gg1 gl0 gl1
  go_wp2_with fail
  go_ret
  exact ⟨by first | rfl | (rw [c2]; rfl), hB⟩
 have t0 : (e.num != 0) = false := by simp [h0]
 -- the loop over the kids, where the node itself has the form
 have loop : ∀ (h5 : (e.kind != 5 || Ex.condL e.kids) = true), Hid (e.tree tm am = Ex.treeL tm am e.kids) := by
  intro h5
  have := Hk.out
  show _ = _
  rw [Hte.out]
  have hn : nodeB tm am e.kind e.num e.kids = true := by
   unfold nodeB numB
   rw [h5, if_neg h3, if_neg h4, h0, this]
   simp
  rw [hn, Bool.true_and]
 by_cases h5 : e.kind = 5
 ·
  have t5 : (e.kind == 5) = true := by simp [h5]
  have hone : e.kids.length = 1 := by have := Hk.out; rw [h5, kidsN_five] at this; omega
  obtain ⟨f, hf, hcl⟩ := condL_one hone
  obtain ⟨b', o', rfl⟩ := kid_some g3 (by intro h; simp [h] at hone)
  have hat := kid_exAt g3 hf
  simp only [Nat.zero_mul, Nat.add_zero] at hat
  cases hfc : f.cond
  ·
   have c2 : e.tree tm am = false := by rw [Hte.out]; simp [nodeB, h5, hcl, hfc]
   have hpos : 0 < e.kids.length := by omega
   clear h3 h4 h0 h5 hone hcl loop gg1 gl0 gl1
   go_wp2_with fail
   refine (l01Condition_all _ f _ _ _ (Nat.le_refl _) hat).mono ?_
   rintro x w' ⟨rfl, rfl⟩
   go_wp2_with fail
   go_ret
   exact ⟨by first | rfl | (rw [c2]; rfl), hB⟩
  ·
   have Hc := loop (by rw [hcl, hfc]; simp)
   have hpos : 0 < e.kids.length := by omega
   clear h3 h4 h0 h5 hone hcl loop gg1 gl0 gl1
   go_wp2_with fail
   refine (l01Condition_all _ f _ _ _ (Nat.le_refl _) hat).mono ?_
   rintro x w' ⟨rfl, rfl⟩
   go_wp2_with fail
   go_loopw [5] (fun i wr => ∃ k : Nat, k ≤ e.kids.length ∧ i = .int .i64 k ∧ Ex.treeL tm am (e.kids.take k) = true ∧ ExAt wr b o e ∧ Blk wr w.heap.size 29 [.int .i64 t, .int .i64 a] ∧ Below w.heap.size w wr) (fun i _ => e.kids.length - (intOf i).toNat)
   case atStart => exact ⟨0, by omega, rfl, by simp [Ex.treeL], hE, L, hB⟩
   case round =>
    clear hE L hB g0 g1 g2 g3
    obtain ⟨k, hk, rfl, hpre, hE, L, hB⟩ := hrel
    have Hpre := Lib.hid hpre
    clear hpre
    have hE' := hE
    obtain ⟨g0, g1, s3, c3, g2, g3⟩ := hE'
    by_cases hlt : k < e.kids.length
    ·
     obtain ⟨x, hx⟩ : ∃ z, e.kids[k]? = some z := ⟨_, List.getElem?_eq_getElem hlt⟩
     obtain ⟨p, q, rfl⟩ := kid_some g3 (by intro h; simp [h] at hlt)
     have hat := kid_exAt g3 hx
     have hltN : x.size < N := by
      have := Ex.sizeL_mem (List.mem_of_getElem? hx)
      omega
     have ha := Int.natCast_nonneg k
     have hb : (k : Int) < (e.kids.length : Int) := by omega
     have gg2 := fun d os => cell_regrown g2 d os
     have gl0 := fun d os => cell_regrown L.c0 d os
     have gl1 := fun d os => cell_regrown L.c1 d os
     have Htk := Lib.hid (@Ex.treeL_take_succ tm am _ _ _ hx)
     have Hfl := Lib.hid (@Ex.treeL_false tm am _ _ _ hx)
     go_wp2_with fail
     refine Go.wp_region_quiet_below (by kernel_rfl) (by kernel_rfl) ?_
     repeat (first | go_big_quiet_step ((exact Calls.regrown_of (ih _ hltN x _ _ _ (Nat.le_refl _) (hat.below (below_regrown _ _ _))))) | quiet_step ((exact Calls.regrown_of (ih _ hltN x _ _ _ (Nat.le_refl _) (hat.below (below_regrown _ _ _))))))
     refine wpQuiet_nil ?_; intro _ hw'; obtain ⟨⟨dq, osq⟩, hw''⟩ := hw'; subst hw''; have hq := below_regrown wr dq osq; revert hq; generalize grow (redrawn wr dq) osq = w9; intro hq
     replace L := L.below hq
     replace hE := hE.below hq
     replace hB := Below.on hB hq hB.size
     clear hq gg2 gl0 gl1 g0 g1 g2
     cases hz1 : x.tree tm am
     ·
      have c2 : e.tree tm am = false := by rw [Hc.out, Hfl.out hz1]
      simp only [Bool.not_false]
      go_wp2_with fail
      go_ret
      exact ⟨by first | rfl | (rw [c2]; rfl), hB⟩
     ·
      have Hst : Hid (Ex.treeL tm am (e.kids.take (k + 1)) = true) := by show _ = _; rw [Htk.out, Hpre.out, hz1]; rfl
      simp only [Bool.not_true]
      go_wp2_with fail
      go_roundw
      case rel => exact ⟨k + 1, by omega, by go_num, Hst.out, hE, L, hB⟩
      case measure => simp [intOf]; omega
    ·
     obtain rfl : k = e.kids.length := by omega
     have c2 : e.tree tm am = true := by
      have := Hpre.out
      rw [List.take_length] at this
      rw [Hc.out, this]
     go_wp2_with fail
     go_ret
     exact ⟨by first | rfl | (rw [c2]; rfl), hB⟩
 ·
  have t5 : (e.kind == 5) = false := by simp [h5]
  have Hc := loop (by simp [h5])
  clear h3 h4 h0 h5 loop gg1 gl0 gl1
  go_wp2_with fail
  go_loopw [5] (fun i wr => ∃ k : Nat, k ≤ e.kids.length ∧ i = .int .i64 k ∧ Ex.treeL tm am (e.kids.take k) = true ∧ ExAt wr b o e ∧ Blk wr w.heap.size 29 [.int .i64 t, .int .i64 a] ∧ Below w.heap.size w wr) (fun i _ => e.kids.length - (intOf i).toNat)
  case atStart => exact ⟨0, by omega, rfl, by simp [Ex.treeL], hE, L, hB⟩
  case round =>
   clear hE L hB g0 g1 g2 g3
   obtain ⟨k, hk, rfl, hpre, hE, L, hB⟩ := hrel
   have Hpre := Lib.hid hpre
   clear hpre
   have hE' := hE
   obtain ⟨g0, g1, s3, c3, g2, g3⟩ := hE'
   by_cases hlt : k < e.kids.length
   ·
    obtain ⟨x, hx⟩ : ∃ z, e.kids[k]? = some z := ⟨_, List.getElem?_eq_getElem hlt⟩
    obtain ⟨p, q, rfl⟩ := kid_some g3 (by intro h; simp [h] at hlt)
    have hat := kid_exAt g3 hx
    have hltN : x.size < N := by
     have := Ex.sizeL_mem (List.mem_of_getElem? hx)
     omega
    have ha := Int.natCast_nonneg k
    have hb : (k : Int) < (e.kids.length : Int) := by omega
    have gg2 := fun d os => cell_regrown g2 d os
    have gl0 := fun d os => cell_regrown L.c0 d os
    have gl1 := fun d os => cell_regrown L.c1 d os
    have Htk := Lib.hid (@Ex.treeL_take_succ tm am _ _ _ hx)
    have Hfl := Lib.hid (@Ex.treeL_false tm am _ _ _ hx)
    go_wp2_with fail
    refine Go.wp_region_quiet_below (by kernel_rfl) (by kernel_rfl) ?_
    repeat (first | go_big_quiet_step ((exact Calls.regrown_of (ih _ hltN x _ _ _ (Nat.le_refl _) (hat.below (below_regrown _ _ _))))) | quiet_step ((exact Calls.regrown_of (ih _ hltN x _ _ _ (Nat.le_refl _) (hat.below (below_regrown _ _ _))))))
    refine wpQuiet_nil ?_; intro _ hw'; obtain ⟨⟨dq, osq⟩, hw''⟩ := hw'; subst hw''; have hq := below_regrown wr dq osq; revert hq; generalize grow (redrawn wr dq) osq = w9; intro hq
    replace L := L.below hq
    replace hE := hE.below hq
    replace hB := Below.on hB hq hB.size
    clear hq gg2 gl0 gl1 g0 g1 g2
    cases hz1 : x.tree tm am
    ·
     have c2 : e.tree tm am = false := by rw [Hc.out, Hfl.out hz1]
     simp only [Bool.not_false]
     go_wp2_with fail
     go_ret
     exact ⟨by first | rfl | (rw [c2]; rfl), hB⟩
    ·
     have Hst : Hid (Ex.treeL tm am (e.kids.take (k + 1)) = true) := by show _ = _; rw [Htk.out, Hpre.out, hz1]; rfl
     simp only [Bool.not_true]
     go_wp2_with fail
     go_roundw
     case rel => exact ⟨k + 1, by omega, by go_num, Hst.out, hE, L, hB⟩
     case measure => simp [intOf]; omega
   ·
    obtain rfl : k = e.kids.length := by omega
    have c2 : e.tree tm am = true := by
     have := Hpre.out
     rw [List.take_length] at this
     rw [Hc.out, this]
    go_wp2_with fail
    go_ret
    exact ⟨by first | rfl | (rw [c2]; rfl), hB⟩
theorem l01Tree_all (t a : Int) (hs : sigB t a = true) (N : Nat) : ∀ (e : Ex) (b o : Nat) (w : World), e.size ≤ N → ExAt w b o e →
  Calls Try.prog 82 #[.agg #[.int .i64 t, .int .i64 a], .pointer (some ⟨b, o, none⟩)] w fun f w' => f = .returned (.bool (e.tree (t - 1) (a - 1))) ∧ Below w.heap.size w w' :=
 have h := sigB_bd hs
 l01Tree_w t a _ _ (wrap_of (by omega) (by omega)) (wrap_of (by omega) (by omega)) N
def okB (t a : Int) (e : Ex) : Bool := sigB t a && (decide (e.size ≤ 200) && decide (e.depth ≤ 40) && e.tree (t - 1) (a - 1))
theorem l01Ok_i {t a : Int} {e : Ex} {b o : Nat} {w : World} (hr : ExAt w b o e) (h1 : e.size ≤ 1073741824) :
  Calls Try.prog 68 #[.agg #[.int .i64 t, .int .i64 a], .pointer (some ⟨b, o, none⟩)] w fun f w' => f = .returned (.bool (okB t a e)) ∧ Below w.heap.size w w' := by
 go_enter Try.func68, Try.ntmps68
 go_wp2_with fail
 have L := Blk.new2 w 29 (.int .i64 t) (.int .i64 a)
 refine (l01Sig_any _ _ _).mono ?_
 rintro x w1 ⟨rfl, hb⟩
 have hB : Below w.heap.size w w1 := Below.on (by (repeat' first | exact Below.refl _ _ | assumption | apply Below.alloc | apply Below.drew | apply Below.setCell | omega | (simp; done) | (simp; omega))) hb (by simp)
 replace L := L.below hb
 clear hb
 cases hs : sigB t a
 ·
  go_wp2_with fail
  go_ret
  exact ⟨ret_bool (by simp [okB, hs]), hB⟩
 have Hs := Lib.hid hs
 have Hok : Hid (okB t a e = (decide (e.size ≤ 200) && decide (e.depth ≤ 40) && e.tree (t - 1) (a - 1))) := by show _ = _; simp [okB, hs]
 clear hs
 go_wp2_with fail
 refine (l01Left_all _ e _ _ _ _ (Nat.le_refl _) (hr.below hB) (by omega) (by omega)).mono ?_
 rintro x w' ⟨rfl, rfl⟩
 by_cases hsz : e.size ≤ 200
 rotate_left
 ·
  have hd : decide (0 ≤ leftF e.size 200) = false := by unfold leftF; rw [if_neg (by omega)]; rfl
  go_wp2_with fail
  go_ret
  exact ⟨ret_bool (by rw [Hok.out]; simp [hsz]), hB⟩
 have hd : decide (0 ≤ leftF e.size 200) = true := by unfold leftF; rw [if_pos (by omega)]; simp; omega
 go_wp2_with fail
 refine (l01Depth_all _ e _ _ _ (Nat.le_refl _) (hr.below hB) h1).mono ?_
 rintro x w' ⟨rfl, rfl⟩
 by_cases hdp : e.depth ≤ 40
 rotate_left
 ·
  have hd2 : decide ((e.depth : Int) ≤ 40) = false := by simp; omega
  go_wp2_with fail
  go_ret
  exact ⟨ret_bool (by rw [Hok.out]; simp [hdp]), hB⟩
 have hd2 : decide ((e.depth : Int) ≤ 40) = true := by simp; omega
 have l0 := L.c0
 have l1 := L.c1
 go_wp2_with fail
 refine (l01Tree_all t a Hs.out _ e _ _ _ (Nat.le_refl _) (hr.below hB)).mono ?_
 rintro x w2 ⟨rfl, hb⟩
 replace hB := Below.on hB hb hB.size
 clear hb l0 l1
 go_wp2_with fail
 go_ret
 exact ⟨ret_bool (by rw [Hok.out]; simp [hsz, hdp]), hB⟩
end Go.Proofs.Ytfhlddbngjlhbaa

namespace Go.Proofs.Ytfhlddbngjlhbaa
set_option linter.unusedVariables false
set_option linter.unusedSimpArgs false
open Go.ChangeShapes Go.WideShapes Go.ChangeAt Go.RowKit Go.Sort
def bitB (atom n : Int) : Bool := (atom / 2 ^ n.toNat) % 2 == 1
def truC (atom k n : Int) (bs : List Bool) : Bool :=
 if k = 2 then true else if k = 3 then bitB atom n else if k = 5 then !(bs.getD 0 false) else if k = 6 then (bs.getD 0 false || bs.getD 1 false) else if k = 7 then (bs.getD 0 false && bs.getD 1 false) else false
mutual
def Ex.tru (atom : Int) : Ex → Bool
 | .mk k n ks => truC atom k n (Ex.truL atom ks)
def Ex.truL (atom : Int) : List Ex → List Bool
 | [] => []
 | e :: r => Ex.tru atom e :: Ex.truL atom r
end
def empC (atom k n : Int) (ks : List Ex) (bs : List Bool) : Bool :=
 if k = 2 ∨ k = 8 then true else if k = 3 ∨ k = 5 then truC atom k n (Ex.truL atom ks) else if k = 6 then (bs.getD 0 false || bs.getD 1 false) else if k = 7 then (bs.getD 0 false && bs.getD 1 false) else false
mutual
def Ex.emp (atom : Int) : Ex → Bool
 | .mk k n ks => empC atom k n ks (Ex.empL atom ks)
def Ex.empL (atom : Int) : List Ex → List Bool
 | [] => []
 | e :: r => Ex.emp atom e :: Ex.empL atom r
end
theorem Ex.treeL_mem {tm am : Int} : ∀ {ks : List Ex} {x : Ex}, Ex.treeL tm am ks = true → x ∈ ks → x.tree tm am = true
 | [], _, _, h => by simp at h
 | e :: r, x, ht, h => by
  simp only [Ex.treeL, Bool.and_eq_true] at ht
  rcases List.mem_cons.1 h with rfl | h
  ·
   exact ht.1
  ·
   exact Ex.treeL_mem ht.2 h
theorem Ex.condL_mem : ∀ {ks : List Ex} {x : Ex}, Ex.condL ks = true → x ∈ ks → x.cond = true
 | [], _, _, h => by simp at h
 | e :: r, x, ht, h => by
  simp only [Ex.condL, Bool.and_eq_true] at ht
  rcases List.mem_cons.1 h with rfl | h
  ·
   exact ht.1
  ·
   exact Ex.condL_mem ht.2 h
theorem tree_parts {tm am k n : Int} {ks : List Ex} (h : Ex.tree tm am (.mk k n ks) = true) : kidsN k = (ks.length : Int) ∧ numB tm am k n = true ∧ (k = 5 → Ex.condL ks = true) ∧ Ex.treeL tm am ks = true := by
 simp only [Ex.tree, nodeB, Bool.and_eq_true, beq_iff_eq, Bool.or_eq_true, bne_iff_ne] at h
 refine ⟨h.1.1.1, h.1.1.2, fun hk => ?_, h.2⟩
 rcases h.1.2 with h | h
 ·
  exact absurd hk h
 ·
  exact h
theorem two_kids {k : Int} {ks : List Ex} (h : kidsN k = (ks.length : Int)) (hk : k = 6 ∨ k = 7) : ∃ x y, ks = [x, y] := by
 have : kidsN k = 2 := by unfold kidsN; rw [if_neg (by omega), if_neg (by omega), if_pos (by omega)]
 match ks, h with
 | [x, y], _ => exact ⟨x, y, rfl⟩
 | [], h => simp at h; omega
 | [x], h => simp at h; omega
 | x :: y :: z :: r, h => simp at h; omega
theorem one_kid {k : Int} {ks : List Ex} (h : kidsN k = (ks.length : Int)) (hk : k = 5 ∨ k = 8) : ∃ x, ks = [x] := by
 have : kidsN k = 1 := by unfold kidsN; rw [if_neg (by omega), if_pos (by omega)]
 match ks, h with
 | [x], _ => exact ⟨x, rfl⟩
 | [], h => simp at h; omega
 | x :: y :: r, h => simp at h; omega
theorem numB_test {tm am n : Int} (h : numB tm am 3 n = true) : 0 ≤ n ∧ n ≤ tm := by
 simp [numB, inB] at h
 omega
set_option maxHeartbeats 4000000 in
theorem l01True_all (tm am atom : Int) (ht : tm ≤ 2) (h0 : 0 ≤ atom) (h7 : atom ≤ 7) (N : Nat) : ∀ (e : Ex) (b o : Nat) (w : World), e.size ≤ N → ExAt w b o e → e.tree tm am = true → e.cond = true →
    Calls Try.prog 85 #[.pointer (some ⟨b, o, none⟩), .int .i64 atom] w fun f w' => f = .returned (.bool (e.tru atom)) ∧ w = w' := by
  induction N using Nat.strongRecOn with
  | _ N ih =>
  intro e b o w hN hr htr hc
  obtain ⟨k, n, ks⟩ := e
  obtain ⟨g0, g1, s, c, g2, hr⟩ := hr
  simp only [Ex.kind, Ex.num, Ex.kids] at g0 g1 g2 hr
  obtain ⟨hk, hnum, -, htl⟩ := tree_parts htr
  rw [Ex.cond_eq] at hc
  simp only [Ex.kind, Ex.kids, Bool.and_eq_true] at hc
  obtain ⟨hck, hcl⟩ := hc
  have hk' : k = 1 ∨ k = 2 ∨ k = 3 ∨ k = 5 ∨ k = 6 ∨ k = 7 := by simpa [condKind] using hck
  clear hck htr
  rcases hk' with rfl | rfl | rfl | rfl | rfl | rfl
  · have e : Ex.tru atom (.mk 1 n ks) = false := by simp [Ex.tru, truC]
    rw [e]
    clear hk hnum htl hcl e
    go_enter Try.func85, Try.ntmps85
    go_wp2_with fail
    go_ret
    exact ⟨rfl, rfl⟩
  · have e : Ex.tru atom (.mk 2 n ks) = true := by simp [Ex.tru, truC]
    rw [e]
    clear hk hnum htl hcl e
    go_enter Try.func85, Try.ntmps85
    go_wp2_with fail
    go_ret
    exact ⟨rfl, rfl⟩
  · have e : Ex.tru atom (.mk 3 n ks) = bitB atom n := by simp [Ex.tru, truC]
    obtain ⟨n0, n1⟩ := numB_test hnum
    rw [e]
    clear hk hnum htl hcl e
    have hn : n = 0 ∨ n = 1 ∨ n = 2 := by omega
    have ha : atom = 0 ∨ atom = 1 ∨ atom = 2 ∨ atom = 3 ∨ atom = 4 ∨ atom = 5 ∨ atom = 6 ∨ atom = 7 := by omega
    clear ih
    rcases hn with rfl | rfl | rfl <;> rcases ha with rfl | rfl | rfl | rfl | rfl | rfl | rfl | rfl
    all_goals
      go_enter Try.func85, Try.ntmps85
      go_wp2
      go_ret
      exact ⟨rfl, rfl⟩
  · obtain ⟨x, rfl⟩ := one_kid hk (by omega)
    have hx : [x][0]? = some x := rfl
    obtain ⟨b', o', rfl⟩ := kid_some hr (by simp)
    have e : Ex.tru atom (.mk 5 n [x]) = !(Ex.tru atom x) := by simp [Ex.tru, Ex.truL, truC]
    have hxt : Ex.tree tm am x = true := Ex.treeL_mem htl (by simp)
    have hxc : Ex.cond x = true := Ex.condL_mem hcl (by simp)
    have hxs : x.size < N := by simp only [Ex.size, Ex.sizeL] at hN; omega
    have hax := kid_exAt hr hx
    simp only [Nat.zero_mul, Nat.add_zero] at hax
    obtain ⟨-, hlen, hcap, -, -⟩ := kid_at hr
    unfold maxLen at hcap
    simp only [List.length_cons, List.length_nil] at hlen
    rw [e]
    clear hk hnum htl hcl e
    go_enter Try.func85, Try.ntmps85
    go_wp2_with fail
    refine (ih _ hxs x _ _ _ (Nat.le_refl _) hax hxt hxc).mono ?_
    rintro y w' ⟨rfl, rfl⟩
    go_wp2_with fail
    go_ret
    exact ⟨rfl, rfl⟩
  · obtain ⟨x, y, rfl⟩ := two_kids hk (by omega)
    have hx : [x, y][0]? = some x := rfl
    have hy : [x, y][1]? = some y := rfl
    obtain ⟨b', o', rfl⟩ := kid_some hr (by simp)
    have e : Ex.tru atom (.mk 6 n [x, y]) = or (Ex.tru atom x) (Ex.tru atom y) := by simp [Ex.tru, Ex.truL, truC]
    have hxt : Ex.tree tm am x = true := Ex.treeL_mem htl (by simp)
    have hyt : Ex.tree tm am y = true := Ex.treeL_mem htl (by simp)
    have hxc : Ex.cond x = true ∧ Ex.cond y = true := ⟨Ex.condL_mem hcl (by simp), Ex.condL_mem hcl (by simp)⟩
    have hxs : x.size < N := by simp only [Ex.size, Ex.sizeL] at hN; omega
    have hys : y.size < N := by simp only [Ex.size, Ex.sizeL] at hN; omega
    have hax := kid_exAt hr hx
    have hay := kid_exAt hr hy
    simp only [Nat.zero_mul, Nat.one_mul, Nat.add_zero] at hax hay
    obtain ⟨-, hlen, hcap, -, -⟩ := kid_at hr
    unfold maxLen at hcap
    simp only [List.length_cons, List.length_nil] at hlen
    rw [e]
    clear hk hnum htl hcl e
    go_enter Try.func85, Try.ntmps85
    go_wp2_with fail
    refine (ih _ hxs x _ _ _ (Nat.le_refl _) hax hxt hxc.1).mono ?_
    rintro z w' ⟨rfl, rfl⟩
    cases h1 : Ex.tru atom x
    all_goals
      go_wp2_with fail
      first
        | (refine (ih _ hys y _ _ _ (Nat.le_refl _) hay hyt hxc.2).mono ?_
           rintro z w' ⟨rfl, rfl⟩
           go_wp2_with fail
           go_ret
           exact ⟨ret_bool (by simp [h1]), rfl⟩)
        | (go_ret
           exact ⟨ret_bool (by simp [h1]), rfl⟩)
  · obtain ⟨x, y, rfl⟩ := two_kids hk (by omega)
    have hx : [x, y][0]? = some x := rfl
    have hy : [x, y][1]? = some y := rfl
    obtain ⟨b', o', rfl⟩ := kid_some hr (by simp)
    have e : Ex.tru atom (.mk 7 n [x, y]) = and (Ex.tru atom x) (Ex.tru atom y) := by simp [Ex.tru, Ex.truL, truC]
    have hxt : Ex.tree tm am x = true := Ex.treeL_mem htl (by simp)
    have hyt : Ex.tree tm am y = true := Ex.treeL_mem htl (by simp)
    have hxc : Ex.cond x = true ∧ Ex.cond y = true := ⟨Ex.condL_mem hcl (by simp), Ex.condL_mem hcl (by simp)⟩
    have hxs : x.size < N := by simp only [Ex.size, Ex.sizeL] at hN; omega
    have hys : y.size < N := by simp only [Ex.size, Ex.sizeL] at hN; omega
    have hax := kid_exAt hr hx
    have hay := kid_exAt hr hy
    simp only [Nat.zero_mul, Nat.one_mul, Nat.add_zero] at hax hay
    obtain ⟨-, hlen, hcap, -, -⟩ := kid_at hr
    unfold maxLen at hcap
    simp only [List.length_cons, List.length_nil] at hlen
    rw [e]
    clear hk hnum htl hcl e
    go_enter Try.func85, Try.ntmps85
    go_wp2_with fail
    refine (ih _ hxs x _ _ _ (Nat.le_refl _) hax hxt hxc.1).mono ?_
    rintro z w' ⟨rfl, rfl⟩
    cases h1 : Ex.tru atom x
    all_goals
      go_wp2_with fail
      first
        | (refine (ih _ hys y _ _ _ (Nat.le_refl _) hay hyt hxc.2).mono ?_
           rintro z w' ⟨rfl, rfl⟩
           go_wp2_with fail
           go_ret
           exact ⟨ret_bool (by simp [h1]), rfl⟩)
        | (go_ret
           exact ⟨ret_bool (by simp [h1]), rfl⟩)
theorem okB_sig {t a : Int} {e : Ex} (h : okB t a e = true) : sigB t a = true := by simp only [okB, Bool.and_eq_true] at h; exact h.1
theorem okB_tree {t a : Int} {e : Ex} (h : okB t a e = true) : e.tree (t - 1) (a - 1) = true := by simp only [okB, Bool.and_eq_true] at h; exact h.2.2
end Go.Proofs.Ytfhlddbngjlhbaa

namespace Go.Proofs.Ytfhlddbngjlhbaa
set_option linter.unusedVariables false
set_option linter.unusedSimpArgs false
open Go.ChangeShapes Go.WideShapes Go.ChangeAt Go.RowKit Go.Sort
theorem kind_cases {k : Int} {n : Nat} (h : kidsN k = (n : Int)) : k = 1 ∨ k = 2 ∨ k = 3 ∨ k = 4 ∨ k = 5 ∨ k = 6 ∨ k = 7 ∨ k = 8 := by
 by_cases hk : k = 1 ∨ k = 2 ∨ k = 3 ∨ k = 4 ∨ k = 5 ∨ k = 6 ∨ k = 7 ∨ k = 8
 ·
  exact hk
 ·
  exfalso
  unfold kidsN at h
  rw [if_neg (by omega), if_neg (by omega), if_neg (by omega)] at h
  omega
theorem kidsN_none {k : Int} {ks : List Ex} (h : kidsN k = (ks.length : Int)) (hk : k = 1 ∨ k = 2 ∨ k = 3 ∨ k = 4) : ks = [] := by
 unfold kidsN at h; rw [if_pos hk] at h; exact List.eq_nil_of_length_eq_zero (by omega)
set_option maxHeartbeats 4000000 in
theorem l02Empty_all (tm am atom : Int) (ht : tm ≤ 2) (h0 : 0 ≤ atom) (h7 : atom ≤ 7) (N : Nat) : ∀ (e : Ex) (b o : Nat) (w : World), e.size ≤ N → ExAt w b o e → e.tree tm am = true →
    Calls Try.prog 72 #[.pointer (some ⟨b, o, none⟩), .int .i64 atom] w fun f w' => f = .returned (.bool (e.emp atom)) ∧ w = w' := by
  induction N using Nat.strongRecOn with
  | _ N ih =>
  intro e b o w hN hr htr
  obtain ⟨k, n, ks⟩ := e
  obtain ⟨g0, g1, s, c, g2, hr⟩ := hr
  simp only [Ex.kind, Ex.num, Ex.kids] at g0 g1 g2 hr
  obtain ⟨hk, hnum, hc, htl⟩ := tree_parts htr
  rcases kind_cases hk with rfl | rfl | rfl | rfl | rfl | rfl | rfl | rfl
  · have e : Ex.emp atom (.mk 1 n ks) = Ex.tru atom (.mk 1 n ks) := by simp [Ex.emp, empC, Ex.tru, truC]
    have hcc : Ex.cond (.mk 1 n ks) = true := by rw [Ex.cond_eq]; simp [Ex.kind, Ex.kids, condKind, kidsN_none hk (by omega), Ex.condL]
    rw [e]
    clear hk hnum htl e hc
    have hat : ExAt w b o (.mk 1 n ks) := ⟨g0, g1, s, c, g2, hr⟩
    go_enter Try.func72, Try.ntmps72
    go_wp2_with fail
    refine (l01True_all tm am atom ht h0 h7 _ _ _ _ _ (Nat.le_refl _) hat htr hcc).mono ?_
    rintro y w' ⟨rfl, rfl⟩
    go_wp2_with fail
    go_ret
    exact ⟨rfl, rfl⟩
  · have e : Ex.emp atom (.mk 2 n ks) = Ex.tru atom (.mk 2 n ks) := by simp [Ex.emp, empC, Ex.tru, truC]
    have hcc : Ex.cond (.mk 2 n ks) = true := by rw [Ex.cond_eq]; simp [Ex.kind, Ex.kids, condKind, kidsN_none hk (by omega), Ex.condL]
    rw [e]
    clear hk hnum htl e hc
    have hat : ExAt w b o (.mk 2 n ks) := ⟨g0, g1, s, c, g2, hr⟩
    go_enter Try.func72, Try.ntmps72
    go_wp2_with fail
    refine (l01True_all tm am atom ht h0 h7 _ _ _ _ _ (Nat.le_refl _) hat htr hcc).mono ?_
    rintro y w' ⟨rfl, rfl⟩
    go_wp2_with fail
    go_ret
    exact ⟨rfl, rfl⟩
  · have e : Ex.emp atom (.mk 3 n ks) = Ex.tru atom (.mk 3 n ks) := by simp [Ex.emp, empC, Ex.tru, truC]
    have hcc : Ex.cond (.mk 3 n ks) = true := by rw [Ex.cond_eq]; simp [Ex.kind, Ex.kids, condKind, kidsN_none hk (by omega), Ex.condL]
    rw [e]
    clear hk hnum htl e hc
    have hat : ExAt w b o (.mk 3 n ks) := ⟨g0, g1, s, c, g2, hr⟩
    go_enter Try.func72, Try.ntmps72
    go_wp2_with fail
    refine (l01True_all tm am atom ht h0 h7 _ _ _ _ _ (Nat.le_refl _) hat htr hcc).mono ?_
    rintro y w' ⟨rfl, rfl⟩
    go_wp2_with fail
    go_ret
    exact ⟨rfl, rfl⟩
  · have e : Ex.emp atom (.mk 4 n ks) = false := by simp [Ex.emp, empC]
    rw [e]
    clear hk hnum htl e hc
    go_enter Try.func72, Try.ntmps72
    go_wp2_with fail
    go_ret
    exact ⟨rfl, rfl⟩
  · have e : Ex.emp atom (.mk 5 n ks) = Ex.tru atom (.mk 5 n ks) := by simp [Ex.emp, empC, Ex.tru, truC]
    have hcc : Ex.cond (.mk 5 n ks) = true := by rw [Ex.cond_eq]; simp [Ex.kind, Ex.kids, condKind, hc rfl]
    rw [e]
    clear hk hnum htl e hc
    have hat : ExAt w b o (.mk 5 n ks) := ⟨g0, g1, s, c, g2, hr⟩
    go_enter Try.func72, Try.ntmps72
    go_wp2_with fail
    refine (l01True_all tm am atom ht h0 h7 _ _ _ _ _ (Nat.le_refl _) hat htr hcc).mono ?_
    rintro y w' ⟨rfl, rfl⟩
    go_wp2_with fail
    go_ret
    exact ⟨rfl, rfl⟩
  · obtain ⟨x, y, rfl⟩ := two_kids hk (by omega)
    have hx : [x, y][0]? = some x := rfl
    have hy : [x, y][1]? = some y := rfl
    obtain ⟨b', o', rfl⟩ := kid_some hr (by simp)
    have e : Ex.emp atom (.mk 6 n [x, y]) = or (Ex.emp atom x) (Ex.emp atom y) := by simp [Ex.emp, Ex.empL, empC]
    have hxt : Ex.tree tm am x = true := Ex.treeL_mem htl (by simp)
    have hyt : Ex.tree tm am y = true := Ex.treeL_mem htl (by simp)
    skip
    have hxs : x.size < N := by simp only [Ex.size, Ex.sizeL] at hN; omega
    have hys : y.size < N := by simp only [Ex.size, Ex.sizeL] at hN; omega
    have hax := kid_exAt hr hx
    have hay := kid_exAt hr hy
    simp only [Nat.zero_mul, Nat.one_mul, Nat.add_zero] at hax hay
    obtain ⟨-, hlen, hcap, -, -⟩ := kid_at hr
    unfold maxLen at hcap
    simp only [List.length_cons, List.length_nil] at hlen
    rw [e]
    clear hk hnum htl hc htr e
    go_enter Try.func72, Try.ntmps72
    go_wp2_with fail
    refine (ih _ hxs x _ _ _ (Nat.le_refl _) hax hxt ).mono ?_
    rintro z w' ⟨rfl, rfl⟩
    cases h1 : Ex.emp atom x
    all_goals
      go_wp2_with fail
      first
        | (refine (ih _ hys y _ _ _ (Nat.le_refl _) hay hyt ).mono ?_
           rintro z w' ⟨rfl, rfl⟩
           go_wp2_with fail
           go_ret
           exact ⟨ret_bool (by simp [h1]), rfl⟩)
        | (go_ret
           exact ⟨ret_bool (by simp [h1]), rfl⟩)
  · obtain ⟨x, y, rfl⟩ := two_kids hk (by omega)
    have hx : [x, y][0]? = some x := rfl
    have hy : [x, y][1]? = some y := rfl
    obtain ⟨b', o', rfl⟩ := kid_some hr (by simp)
    have e : Ex.emp atom (.mk 7 n [x, y]) = and (Ex.emp atom x) (Ex.emp atom y) := by simp [Ex.emp, Ex.empL, empC]
    have hxt : Ex.tree tm am x = true := Ex.treeL_mem htl (by simp)
    have hyt : Ex.tree tm am y = true := Ex.treeL_mem htl (by simp)
    skip
    have hxs : x.size < N := by simp only [Ex.size, Ex.sizeL] at hN; omega
    have hys : y.size < N := by simp only [Ex.size, Ex.sizeL] at hN; omega
    have hax := kid_exAt hr hx
    have hay := kid_exAt hr hy
    simp only [Nat.zero_mul, Nat.one_mul, Nat.add_zero] at hax hay
    obtain ⟨-, hlen, hcap, -, -⟩ := kid_at hr
    unfold maxLen at hcap
    simp only [List.length_cons, List.length_nil] at hlen
    rw [e]
    clear hk hnum htl hc htr e
    go_enter Try.func72, Try.ntmps72
    go_wp2_with fail
    refine (ih _ hxs x _ _ _ (Nat.le_refl _) hax hxt ).mono ?_
    rintro z w' ⟨rfl, rfl⟩
    cases h1 : Ex.emp atom x
    all_goals
      go_wp2_with fail
      first
        | (refine (ih _ hys y _ _ _ (Nat.le_refl _) hay hyt ).mono ?_
           rintro z w' ⟨rfl, rfl⟩
           go_wp2_with fail
           go_ret
           exact ⟨ret_bool (by simp [h1]), rfl⟩)
        | (go_ret
           exact ⟨ret_bool (by simp [h1]), rfl⟩)
  · have e : Ex.emp atom (.mk 8 n ks) = true := by simp [Ex.emp, empC]
    rw [e]
    clear hk hnum htl e hc
    go_enter Try.func72, Try.ntmps72
    go_wp2_with fail
    go_ret
    exact ⟨rfl, rfl⟩
end Go.Proofs.Ytfhlddbngjlhbaa

namespace Go.Proofs.Ytfhlddbngjlhbaa
set_option linter.unusedVariables false
set_option linter.unusedSimpArgs false
open Go.ChangeShapes Go.WideShapes Go.ChangeAt Go.RowKit Go.Sort
def texC (k n : Int) (ts : List (List UInt8)) : List UInt8 :=
 if k = 1 then [48] else if k = 2 then [49] else if k = 3 then [116] ++ Lib.decDigits n.toNat else if k = 4 then [97] ++ Lib.decDigits n.toNat else if k = 5 then [126] ++ ts.getD 0 []
 else if k = 6 then [40] ++ ts.getD 0 [] ++ [32, 43, 32] ++ ts.getD 1 [] ++ [41] else if k = 7 then [40] ++ ts.getD 0 [] ++ [32] ++ ts.getD 1 [] ++ [41] else ts.getD 0 [] ++ [42]
mutual
def Ex.text : Ex → List UInt8
 | .mk k n ks => texC k n (Ex.textL ks)
def Ex.textL : List Ex → List (List UInt8)
 | [] => []
 | e :: r => e.text :: Ex.textL r
end
theorem numB_any {tm am k n : Int} (hk : k = 3 ∨ k = 4) (h : numB tm am k n = true) (ht : tm ≤ 8) (ha : am ≤ 8) : 0 ≤ n ∧ n ≤ 8 := by
 rcases hk with rfl | rfl <;> simp [numB, inB] at h <;> omega
theorem digits_one {m : Nat} (h : m < 10) : (Lib.decDigits m).length = 1 := by rw [Lib.decDigits_one h]; rfl
theorem text_bound (tm am : Int) (ht : tm ≤ 8) (ha : am ≤ 8) (N : Nat) : ∀ e : Ex, e.size ≤ N → e.tree tm am = true → e.text.length ≤ 5 * e.size := by
 induction N using Nat.strongRecOn with
 | _ N ih =>
 intro e hN htr
 obtain ⟨k, n, ks⟩ := e
 obtain ⟨hk, hnum, hc, htl⟩ := tree_parts htr
 have hs := Ex.size_eq (.mk k n ks)
 simp only [Ex.kids] at hs
 have kid : ∀ x, x ∈ ks → x.text.length ≤ 5 * x.size := fun x hx => ih x.size (by have := Ex.sizeL_mem hx; omega) x (Nat.le_refl _) (Ex.treeL_mem htl hx)
 rcases kind_cases hk with rfl | rfl | rfl | rfl | rfl | rfl | rfl | rfl
 ·
  simp [Ex.text, texC]; omega
 ·
  simp [Ex.text, texC]; omega
 ·
  obtain ⟨h0, h8⟩ := numB_any (by omega) hnum ht ha
  simp only [Ex.text, texC]
  simp [digits_one (show n.toNat < 10 by omega)]
  omega
 ·
  obtain ⟨h0, h8⟩ := numB_any (by omega) hnum ht ha
  simp only [Ex.text, texC]
  simp [digits_one (show n.toNat < 10 by omega)]
  omega
 ·
  obtain ⟨x, rfl⟩ := one_kid hk (by omega)
  have := kid x (by simp)
  simp [Ex.text, texC, Ex.textL]
  simp only [Ex.sizeL] at hs
  omega
 ·
  obtain ⟨x, y, rfl⟩ := two_kids hk (by omega)
  have := kid x (by simp)
  have := kid y (by simp)
  simp [Ex.text, texC, Ex.textL]
  simp only [Ex.sizeL] at hs
  omega
 ·
  obtain ⟨x, y, rfl⟩ := two_kids hk (by omega)
  have := kid x (by simp)
  have := kid y (by simp)
  simp [Ex.text, texC, Ex.textL]
  simp only [Ex.sizeL] at hs
  omega
 ·
  obtain ⟨x, rfl⟩ := one_kid hk (by omega)
  have := kid x (by simp)
  simp [Ex.text, texC, Ex.textL]
  simp only [Ex.sizeL] at hs
  omega
end Go.Proofs.Ytfhlddbngjlhbaa

namespace Go.Proofs.Ytfhlddbngjlhbaa
set_option linter.unusedVariables false
set_option linter.unusedSimpArgs false
section
variable {α : Type} [DecidableEq α]
def grow1 (L : List α) : Option α → List α
 | none => L
 | some x => if x ∈ L then L else L ++ [x]
def growL (L : List α) (ss : List (Option α)) : List α := ss.foldl grow1 L
def numO (L : List α) : Option α → Int
 | none => -1
 | some x => (L.idxOf x : Int)
def upto (L : List α) (ss : List (Option α)) (m : Nat) : List α := growL L (ss.take m)
def expl (s : α) (succ : α → List (Option α)) : Nat → List α
 | 0 => [s]
 | k + 1 => match (expl s succ k)[k]? with
  | none => expl s succ k
  | some x => growL (expl s succ k) (succ x)
theorem grow1_prefix (L : List α) (o : Option α) : L <+: grow1 L o := by
 cases o with
 | none => exact List.prefix_refl _
 | some x =>
  show L <+: if x ∈ L then L else L ++ [x]
  by_cases h : x ∈ L
  ·
   rw [if_pos h]; exact List.prefix_refl _
  ·
   rw [if_neg h]; exact List.prefix_append _ _
theorem growL_prefix : ∀ (ss : List (Option α)) (L : List α), L <+: growL L ss
 | [], L => List.prefix_refl _
 | o :: r, L => (grow1_prefix L o).trans (growL_prefix r (grow1 L o))
theorem growL_append (L : List α) (a b : List (Option α)) : growL L (a ++ b) = growL (growL L a) b := List.foldl_append
theorem upto_zero (L : List α) (ss : List (Option α)) : upto L ss 0 = L := rfl
theorem upto_succ {L : List α} {ss : List (Option α)} {m : Nat} {o : Option α} (h : ss[m]? = some o) : upto L ss (m + 1) = grow1 (upto L ss m) o := by
 obtain ⟨hm, rfl⟩ := List.getElem?_eq_some_iff.1 h
 unfold upto
 rw [List.take_succ_eq_append_getElem hm, growL_append]
 rfl
theorem upto_all {L : List α} {ss : List (Option α)} {m : Nat} (h : ss.length ≤ m) : upto L ss m = growL L ss := by
 unfold upto
 rw [List.take_of_length_le h]
theorem upto_prefix (L : List α) (ss : List (Option α)) (m : Nat) : L <+: upto L ss m := growL_prefix _ _
theorem upto_le {L : List α} {ss : List (Option α)} {m n : Nat} (h : m ≤ n) : upto L ss m <+: upto L ss n := by
 unfold upto
 have : ss.take n = ss.take m ++ (ss.take n).drop m := by
  have h1 := (List.take_append_drop m (ss.take n)).symm
  rwa [List.take_take, Nat.min_eq_left h] at h1
 rw [this, growL_append]
 exact growL_prefix _ _
omit [DecidableEq α] in
theorem prefix_get {L M : List α} (h : L <+: M) {i : Nat} {x : α} (hx : L[i]? = some x) : M[i]? = some x := by
 obtain ⟨r, rfl⟩ := h
 rw [List.getElem?_append_left (List.getElem?_eq_some_iff.1 hx).1]
 exact hx
omit [DecidableEq α] in
theorem prefix_length {L M : List α} (h : L <+: M) : L.length ≤ M.length := by
 obtain ⟨r, rfl⟩ := h
 simp
theorem grow1_old {L : List α} {x : α} (h : x ∈ L) : grow1 L (some x) = L := if_pos h
theorem grow1_new {L : List α} {x : α} (h : x ∉ L) : grow1 L (some x) = L ++ [x] := if_neg h
theorem grow1_mem {L : List α} {x : α} : x ∈ grow1 L (some x) := by
 by_cases h : x ∈ L
 ·
  rw [grow1_old h]; exact h
 ·
  rw [grow1_new h]; simp
theorem grow1_nodup {L : List α} (h : L.Nodup) (o : Option α) : (grow1 L o).Nodup := by
 cases o with
 | none => exact h
 | some x =>
  by_cases hx : x ∈ L
  ·
   rw [grow1_old hx]; exact h
  ·
   rw [grow1_new hx, List.nodup_append]
   exact ⟨h, by simp, fun a ha b hb hab => by
    simp only [List.mem_singleton] at hb
    exact hx (by rw [← hb, ← hab]; exact ha)⟩
theorem growL_nodup : ∀ (ss : List (Option α)) {L : List α}, L.Nodup → (growL L ss).Nodup
 | [], _, h => h
 | o :: r, _, h => growL_nodup r (grow1_nodup h o)
theorem expl_nodup (s : α) (succ : α → List (Option α)) : ∀ k, (expl s succ k).Nodup
 | 0 => by simp [expl]
 | k + 1 => by
  simp only [expl]
  split
  ·
   exact expl_nodup s succ k
  ·
   exact growL_nodup _ (expl_nodup s succ k)
theorem expl_succ {s : α} {succ : α → List (Option α)} {k : Nat} {x : α} (h : (expl s succ k)[k]? = some x) : expl s succ (k + 1) = growL (expl s succ k) (succ x) := by
 simp only [expl, h]
theorem expl_stop {s : α} {succ : α → List (Option α)} {k : Nat} (h : (expl s succ k).length ≤ k) : ∀ m, k ≤ m → expl s succ m = expl s succ k := by
 intro m hm
 induction hm with
 | refl => rfl
 | step hkm ih =>
  simp only [expl, ih]
  rw [List.getElem?_eq_none (by have : k ≤ _ := hkm; omega)]
theorem expl_step_prefix (s : α) (succ : α → List (Option α)) (k : Nat) : expl s succ k <+: expl s succ (k + 1) := by
 simp only [expl]
 split
 ·
  exact List.prefix_refl _
 ·
  exact growL_prefix _ _
theorem expl_prefix (s : α) (succ : α → List (Option α)) {k m : Nat} (h : k ≤ m) : expl s succ k <+: expl s succ m := by
 induction h with
 | refl => exact List.prefix_refl _
 | step _ ih => exact ih.trans (expl_step_prefix s succ _)
theorem expl_pos (s : α) (succ : α → List (Option α)) (k : Nat) : 1 ≤ (expl s succ k).length := by
 have := prefix_length (expl_prefix s succ (Nat.zero_le k))
 simpa [expl] using this
theorem idxOf_prefix {L M : List α} (h : L <+: M) {x : α} (hx : x ∈ L) : M.idxOf x = L.idxOf x := by
 obtain ⟨r, rfl⟩ := h
 rw [List.idxOf_append, if_pos hx]
theorem idxOf_at {L : List α} (hn : L.Nodup) {i : Nat} {x : α} (h : L[i]? = some x) : L.idxOf x = i := by
 obtain ⟨hi, rfl⟩ := List.getElem?_eq_some_iff.1 h
 exact hn.idxOf_getElem i hi
theorem idxOf_new {L : List α} {x : α} (h : x ∉ L) : (L ++ [x]).idxOf x = L.length := by
 rw [List.idxOf_append, if_neg h]
 simp
theorem numO_bd {L : List α} {o : Option α} (h : ∀ x, o = some x → x ∈ L) : -1 ≤ numO L o ∧ numO L o < L.length := by
 cases o with
 | none => simp only [numO]; omega
 | some x =>
  have := List.idxOf_lt_length_of_mem (h x rfl)
  simp only [numO]
  omega
end
end Go.Proofs.Ytfhlddbngjlhbaa

namespace Go.Proofs.Ytfhlddbngjlhbaa
set_option linter.unusedVariables false
set_option linter.unusedSimpArgs false
noncomputable instance exDec : DecidableEq Ex := fun a b => Classical.propDecidable (a = b)
def Ex.two (k : Int) (a b : Ex) : Ex := .mk k 0 [a, b]
def Ex.leaf (k : Int) : Ex := .mk k 0 []
def summC (k n : Int) (ks : List Ex) (rs : List (List Ex)) : List Ex := if k = 1 then [] else if k = 6 then rs.flatten else [.mk k n ks]
mutual
def Ex.summ : Ex → List Ex
 | .mk k n ks => summC k n ks (Ex.summL ks)
def Ex.summL : List Ex → List (List Ex)
 | [] => []
 | e :: r => e.summ :: Ex.summL r
end
theorem Ex.summ_zero {n : Int} {ks : List Ex} : (Ex.mk 1 n ks).summ = [] := by simp [Ex.summ, summC]
theorem Ex.summ_sum {n : Int} {a b : Ex} : (Ex.mk 6 n [a, b]).summ = a.summ ++ b.summ := by simp [Ex.summ, summC, Ex.summL]
theorem Ex.summ_else {k n : Int} {ks : List Ex} (h1 : k ≠ 1) (h6 : k ≠ 6) : (Ex.mk k n ks).summ = [.mk k n ks] := by simp [Ex.summ, summC, h1, h6]
def sizes (L : List Ex) : Nat := (L.map Ex.size).sum
theorem sizes_append (a b : List Ex) : sizes (a ++ b) = sizes a + sizes b := by simp [sizes]
theorem summ_spec (tm am : Int) (N : Nat) : ∀ e : Ex, e.size ≤ N → e.tree tm am = true → (∀ x ∈ e.summ, x.tree tm am = true ∧ x.size ≤ e.size) ∧ sizes e.summ + e.summ.length ≤ e.size + 1 := by
 induction N using Nat.strongRecOn with
 | _ N ih =>
 intro e hN ht
 obtain ⟨k, n, ks⟩ := e
 by_cases h1 : k = 1
 ·
  subst h1
  rw [Ex.summ_zero]
  simp [sizes]
 by_cases h6 : k = 6
 ·
  subst h6
  obtain ⟨hk, -, -, htl⟩ := tree_parts ht
  obtain ⟨a, b, rfl⟩ := two_kids hk (by omega)
  have hs := Ex.size_eq (.mk 6 n [a, b])
  simp only [Ex.kids, Ex.sizeL] at hs
  obtain ⟨a1, a2⟩ := ih a.size (by omega) a (Nat.le_refl _) (Ex.treeL_mem htl (by simp))
  obtain ⟨b1, b2⟩ := ih b.size (by omega) b (Nat.le_refl _) (Ex.treeL_mem htl (by simp))
  rw [Ex.summ_sum]
  refine ⟨fun x hx => ?_, by rw [sizes_append, List.length_append]; omega⟩
  rcases List.mem_append.1 hx with hx | hx
  ·
   exact ⟨(a1 x hx).1, by have := (a1 x hx).2; omega⟩
  ·
   exact ⟨(b1 x hx).1, by have := (b1 x hx).2; omega⟩
 ·
  rw [Ex.summ_else h1 h6]
  refine ⟨fun x hx => ?_, by simp [sizes]⟩
  rw [List.mem_singleton] at hx
  subst hx
  exact ⟨ht, Nat.le_refl _⟩
def Ex.lt (a b : Ex) : Bool := decide (a.text < b.text)
def insT (e : Ex) (L : List Ex) : List Ex := L.takeWhile (fun x => Ex.lt x e) ++ e :: L.dropWhile (fun x => x.lt e)
def sortI (L : List Ex) : List Ex := L.foldl (fun acc e => insT e acc) []
theorem insT_perm (e : Ex) (L : List Ex) : (insT e L).Perm (e :: L) := by
 unfold insT
 refine List.perm_middle.trans ?_
 rw [List.takeWhile_append_dropWhile]
theorem sortI_perm_aux : ∀ (L acc : List Ex), (L.foldl (fun acc e => insT e acc) acc).Perm (acc ++ L)
 | [], acc => by simp
 | e :: r, acc => by
  refine (sortI_perm_aux r (insT e acc)).trans ?_
  refine ((insT_perm e acc).append_right r).trans ?_
  exact (List.perm_middle (a := e) (l₁ := acc) (l₂ := r)).symm
theorem sortI_perm (L : List Ex) : (sortI L).Perm L := by have := sortI_perm_aux L []; rwa [List.nil_append] at this
noncomputable def nub (L : List Ex) : List Ex := growL [] (L.map some)
def foldS : List Ex → Ex
 | [] => .leaf 1
 | x :: r => r.foldl (fun a b => .two 6 a b) x
noncomputable def sumT (x y : Ex) : Ex := foldS (sortI (nub (x.summ ++ y.summ)))
theorem growL_mem {α : Type} [DecidableEq α] : ∀ (ss : List α) (L : List α) (x : α), x ∈ growL L (ss.map some) ↔ x ∈ L ∨ x ∈ ss
 | [], L, x => by simp [growL]
 | s :: r, L, x => by
  show x ∈ growL (grow1 L (some s)) (r.map some) ↔ _
  rw [growL_mem r]
  by_cases h : s ∈ L
  ·
   rw [grow1_old h]
   constructor
   ·
    rintro (q | q); exact Or.inl q; exact Or.inr (List.mem_cons_of_mem _ q)
   ·
    rintro (q | q)
    ·
     exact Or.inl q
    ·
     rcases List.mem_cons.1 q with rfl | q; exact Or.inl h; exact Or.inr q
  ·
   rw [grow1_new h]
   simp [or_assoc]
theorem nub_mem {L : List Ex} {x : Ex} : x ∈ nub L ↔ x ∈ L := by unfold nub; rw [growL_mem]; simp
theorem grow_sizes : ∀ (ss : List Ex) (L : List Ex), sizes (growL L (ss.map some)) + (growL L (ss.map some)).length ≤ sizes L + L.length + (sizes ss + ss.length)
 | [], L => by simp [growL, sizes]
 | s :: r, L => by
  show sizes (growL (grow1 L (some s)) (r.map some)) + (growL (grow1 L (some s)) (r.map some)).length ≤ _
  have := grow_sizes r (grow1 L (some s))
  have h2 : sizes (s :: r) = s.size + sizes r := by simp [sizes]
  have h3 : sizes (grow1 L (some s)) + (grow1 L (some s)).length ≤ sizes L + L.length + (s.size + 1) := by
   by_cases h : s ∈ L
   ·
    rw [grow1_old h]; omega
   ·
    rw [grow1_new h, sizes_append, List.length_append]
    simp [sizes]
    omega
  rw [h2, List.length_cons]
  omega
theorem nub_sizes (L : List Ex) : sizes (nub L) + (nub L).length ≤ sizes L + L.length := by
 have := grow_sizes L []
 simpa [nub, sizes] using this
theorem foldS_size : ∀ (r : List Ex) (x : Ex), (r.foldl (fun a b => Ex.two 6 a b) x).size = x.size + sizes r + r.length
 | [], x => by simp [sizes]
 | e :: r, x => by
  rw [List.foldl_cons, foldS_size r]
  have : (Ex.two 6 x e).size = 1 + (x.size + e.size) := by rw [Ex.size_eq]; simp [Ex.two, Ex.kids, Ex.sizeL]
  simp [this, sizes]
  omega
theorem sizes_perm {L M : List Ex} (h : L.Perm M) : sizes L = sizes M := List.Perm.sum_nat (h.map Ex.size)
theorem tree_two {tm am k : Int} {a b : Ex} (hk : k = 6 ∨ k = 7) (ha : a.tree tm am = true) (hb : b.tree tm am = true) : (Ex.two k a b).tree tm am = true := by
 rcases hk with rfl | rfl <;> simp [Ex.two, Ex.tree, Ex.treeL, ha, hb, nodeB, kidsN, numB]
theorem tree_leaf {tm am k : Int} (hk : k = 1 ∨ k = 2) : (Ex.leaf k).tree tm am = true := by
 rcases hk with rfl | rfl <;> simp [Ex.leaf, Ex.tree, Ex.treeL, nodeB, kidsN, numB]
theorem foldS_tree {tm am : Int} : ∀ (r : List Ex) (x : Ex), x.tree tm am = true → (∀ y ∈ r, y.tree tm am = true) → (r.foldl (fun a b => Ex.two 6 a b) x).tree tm am = true
 | [], x, h, _ => h
 | e :: r, x, h, hr => foldS_tree r _ (tree_two (Or.inl rfl) h (hr e (by simp))) (fun y hy => hr y (by simp [hy]))
theorem sumT_spec {tm am : Int} {x y : Ex} (hx : x.tree tm am = true) (hy : y.tree tm am = true) : (sumT x y).tree tm am = true ∧ (sumT x y).size ≤ 1 + x.size + y.size := by
 obtain ⟨x1, x2⟩ := summ_spec tm am _ x (Nat.le_refl _) hx
 obtain ⟨y1, y2⟩ := summ_spec tm am _ y (Nat.le_refl _) hy
 have hm : ∀ z ∈ sortI (nub (x.summ ++ y.summ)), z.tree tm am = true := fun z hz => by
  have := nub_mem.1 ((sortI_perm _).mem_iff.1 hz)
  rcases List.mem_append.1 this with h | h
  ·
   exact (x1 z h).1
  ·
   exact (y1 z h).1
 have hs := nub_sizes (x.summ ++ y.summ)
 rw [sizes_append, List.length_append, ← sizes_perm (sortI_perm (nub _)), ← (sortI_perm (nub _)).length_eq] at hs
 unfold sumT
 generalize sortI (nub (x.summ ++ y.summ)) = L at hm hs
 cases L with
 | nil => exact ⟨tree_leaf (Or.inl rfl), by simp [foldS, Ex.leaf, Ex.size, Ex.sizeL]; omega⟩
 | cons z r =>
  refine ⟨foldS_tree r z (hm z (by simp)) (fun q hq => hm q (by simp [hq])), ?_⟩
  show (r.foldl (fun a b => Ex.two 6 a b) z).size ≤ _
  rw [foldS_size]
  have hz : sizes (z :: r) = z.size + sizes r := by simp [sizes]
  rw [hz, List.length_cons] at hs
  omega
def dotC (k n : Int) (ks : List Ex) (fs : List (Ex → Ex)) (y : Ex) : Ex :=
 if k = 1 ∨ y.kind = 1 then .leaf 1 else if k = 2 then y else if y.kind = 2 then .mk k n ks
 else if k = 7 then fs.foldr (fun f z => f z) y else .two 7 (.mk k n ks) y
mutual
def Ex.dot : Ex → Ex → Ex
 | .mk k n ks => fun y => dotC k n ks (Ex.dotL ks) y
def Ex.dotL : List Ex → List (Ex → Ex)
 | [] => []
 | e :: r => e.dot :: Ex.dotL r
end
theorem Ex.dot_eq (k n : Int) (ks : List Ex) (y : Ex) : (Ex.mk k n ks).dot y = dotC k n ks (Ex.dotL ks) y := by simp only [Ex.dot]
theorem Ex.dot_seven {n : Int} {a b y : Ex} (h1 : y.kind ≠ 1) (h2 : y.kind ≠ 2) : (Ex.mk 7 n [a, b]).dot y = a.dot (b.dot y) := by
 rw [Ex.dot_eq]
 simp [dotC, h1, h2, Ex.dotL]
theorem dot_spec (tm am : Int) (N : Nat) : ∀ x y : Ex, x.size ≤ N → x.tree tm am = true → y.tree tm am = true → (x.dot y).tree tm am = true ∧ (x.dot y).size ≤ 1 + x.size + y.size := by
 induction N using Nat.strongRecOn with
 | _ N ih =>
 intro x y hN hx hy
 obtain ⟨k, n, ks⟩ := x
 have hs := Ex.size_eq (.mk k n ks)
 simp only [Ex.kids] at hs
 by_cases h1 : k = 1 ∨ y.kind = 1
 ·
  rw [Ex.dot_eq, dotC, if_pos h1]
  exact ⟨tree_leaf (Or.inl rfl), by simp [Ex.leaf, Ex.size, Ex.sizeL]; omega⟩
 by_cases h2 : k = 2
 ·
  rw [Ex.dot_eq, dotC, if_neg h1, if_pos h2]
  exact ⟨hy, by omega⟩
 by_cases h3 : y.kind = 2
 ·
  rw [Ex.dot_eq, dotC, if_neg h1, if_neg h2, if_pos h3]
  exact ⟨hx, by omega⟩
 by_cases h7 : k = 7
 ·
  subst h7
  obtain ⟨hk, -, -, htl⟩ := tree_parts hx
  obtain ⟨a, b, rfl⟩ := two_kids hk (by omega)
  simp only [Ex.sizeL] at hs
  obtain ⟨b1, b2⟩ := ih b.size (by omega) b y (Nat.le_refl _) (Ex.treeL_mem htl (by simp)) hy
  obtain ⟨a1, a2⟩ := ih a.size (by omega) a (b.dot y) (Nat.le_refl _) (Ex.treeL_mem htl (by simp)) b1
  rw [Ex.dot_seven (by omega) h3]
  exact ⟨a1, by omega⟩
 ·
  rw [Ex.dot_eq, dotC, if_neg h1, if_neg h2, if_neg h3, if_neg h7]
  exact ⟨tree_two (Or.inr rfl) hx hy, by rw [Ex.size_eq]; simp [Ex.two, Ex.kids, Ex.sizeL]; omega⟩
def Ex.star (x : Ex) : Ex := if x.cond = true then .leaf 2 else if x.kind = 8 then x else .mk 8 0 [x]
theorem star_spec {tm am : Int} {x : Ex} (hx : x.tree tm am = true) : x.star.tree tm am = true ∧ x.star.size ≤ 1 + x.size := by
 unfold Ex.star
 split
 ·
  exact ⟨tree_leaf (Or.inr rfl), by simp [Ex.leaf, Ex.size, Ex.sizeL]⟩
 split
 ·
  exact ⟨hx, by omega⟩
 ·
  exact ⟨by simp [Ex.tree, Ex.treeL, hx, nodeB, kidsN, numB], by simp [Ex.size, Ex.sizeL]⟩
noncomputable def tidyC (k n : Int) (ks ts : List Ex) : Ex :=
 if k = 6 then sumT (ts.getD 0 (.leaf 1)) (ts.getD 1 (.leaf 1)) else if k = 7 then (ts.getD 0 (.leaf 1)).dot (ts.getD 1 (.leaf 1)) else if k = 8 then (ts.getD 0 (.leaf 1)).star else .mk k n ks
mutual
noncomputable def Ex.tidy : Ex → Ex
 | .mk k n ks => tidyC k n ks (Ex.tidyL ks)
noncomputable def Ex.tidyL : List Ex → List Ex
 | [] => []
 | e :: r => e.tidy :: Ex.tidyL r
end
theorem Ex.tidy_eq (k n : Int) (ks : List Ex) : (Ex.mk k n ks).tidy = tidyC k n ks (Ex.tidyL ks) := by simp only [Ex.tidy]
theorem Ex.tidy_sum {n : Int} {a b : Ex} : (Ex.mk 6 n [a, b]).tidy = sumT a.tidy b.tidy := by rw [Ex.tidy_eq]; simp [tidyC, Ex.tidyL]
theorem Ex.tidy_dot {n : Int} {a b : Ex} : (Ex.mk 7 n [a, b]).tidy = a.tidy.dot b.tidy := by rw [Ex.tidy_eq]; simp [tidyC, Ex.tidyL]
theorem Ex.tidy_star {n : Int} {a : Ex} : (Ex.mk 8 n [a]).tidy = a.tidy.star := by rw [Ex.tidy_eq]; simp [tidyC, Ex.tidyL]
theorem Ex.tidy_else {k n : Int} {ks : List Ex} (h6 : k ≠ 6) (h7 : k ≠ 7) (h8 : k ≠ 8) : (Ex.mk k n ks).tidy = .mk k n ks := by rw [Ex.tidy_eq, tidyC, if_neg h6, if_neg h7, if_neg h8]
theorem tidy_spec (tm am : Int) (N : Nat) : ∀ e : Ex, e.size ≤ N → e.tree tm am = true → e.tidy.tree tm am = true ∧ e.tidy.size ≤ e.size := by
 induction N using Nat.strongRecOn with
 | _ N ih =>
 intro e hN ht
 obtain ⟨k, n, ks⟩ := e
 obtain ⟨hk, -, -, htl⟩ := tree_parts ht
 have hs := Ex.size_eq (.mk k n ks)
 simp only [Ex.kids] at hs
 by_cases h67 : k = 6 ∨ k = 7
 ·
  obtain ⟨a, b, rfl⟩ := two_kids hk h67
  simp only [Ex.sizeL] at hs
  obtain ⟨a1, a2⟩ := ih a.size (by omega) a (Nat.le_refl _) (Ex.treeL_mem htl (by simp))
  obtain ⟨b1, b2⟩ := ih b.size (by omega) b (Nat.le_refl _) (Ex.treeL_mem htl (by simp))
  rcases h67 with rfl | rfl
  ·
   rw [Ex.tidy_sum]
   obtain ⟨c1, c2⟩ := sumT_spec a1 b1
   exact ⟨c1, by omega⟩
  ·
   rw [Ex.tidy_dot]
   obtain ⟨c1, c2⟩ := dot_spec tm am _ a.tidy b.tidy (Nat.le_refl _) a1 b1
   exact ⟨c1, by omega⟩
 by_cases h8 : k = 8
 ·
  subst h8
  obtain ⟨a, rfl⟩ := one_kid hk (by omega)
  simp only [Ex.sizeL] at hs
  obtain ⟨a1, a2⟩ := ih a.size (by omega) a (Nat.le_refl _) (Ex.treeL_mem htl (by simp))
  rw [Ex.tidy_star]
  obtain ⟨c1, c2⟩ := star_spec a1
  exact ⟨c1, by omega⟩
 ·
  rw [Ex.tidy_else (by omega) (by omega) h8]
  exact ⟨ht, Nat.le_refl _⟩
end Go.Proofs.Ytfhlddbngjlhbaa
