/-
  Parts of a proof, joined: LangA, Kleene, LwA. No condition.
-/
import Derived.Test.YtfopdcdbelaapaaGreatDoorPk44
namespace Go.Proofs.YtfopdcdbelaapaaGreatDoor
set_option linter.unusedVariables false
set_option linter.unusedSimpArgs false
section
variable {α:Type} [DecidableEq α]
end
section
variable {t a:Int} {ac bc:List (List Bool)} {nx ny:List (List (List Int))}
end
theorem bothC_swap {t a:Int} {e f:Ex} (hc:bothC t a e f=0):bothC t a f e=0:=by
 obtain ⟨hce,hcf⟩:=both_ok hc;rw [both_two (au_ok hcf).1 (au_ok hce).1 hcf];exact hce
theorem atR_iff {t a:Int} {e f:Ex} (hc:bothC t a e f=0):atR t a e f=true↔∀ws m,okW (atomsN t).toNat a.toNat ws m→e.lng ws m→f.lng ws m:=by
 unfold atR;rw [if_pos hc,atB_iff hc]
theorem eqR_iff {t a:Int} {e f:Ex} (hc:bothC t a e f=0):eqR t a e f=true↔∀ws m,okW (atomsN t).toNat a.toNat ws m→(e.lng ws m↔f.lng ws m):=by
 unfold eqR;rw [if_pos hc,Bool.and_eq_true,atB_iff hc,atB_iff (bothC_swap hc)];exact ⟨fun h ws m ho=>⟨h.1 ws m ho,h.2 ws m ho⟩,fun h=>⟨fun ws m ho=>(h ws m ho).1,fun ws m ho=>(h ws m ho).2⟩⟩
noncomputable def nevR (t a:Int) (e f:Ex):Bool:=(bothC t a e f==0)&& !eqR t a e f
theorem or_anti {t a:Int} {e f:Ex} (hc:bothC t a e f=0):(atR t a e f&&atR t a f e)=eqR t a e f:=by
 unfold atR eqR;rw [if_pos hc,if_pos hc,if_pos (bothC_swap hc)]
theorem or_sum {t a:Int} {e f:Ex} (hc:bothC t a e (f.sumE e)=0):atR t a e (f.sumE e)=true:=(atR_iff hc).2 fun ws m _ h=>by rw [lng_sumE]; exact Or.inr h
theorem okW.append {A a:Nat} {u v:List (Nat × Nat)} {m:Nat}:okW A a (u++v) m↔okW A a u (hdA v m)∧okW A a v m:=by
 constructor
 ·
  rintro ⟨h1,h2⟩;have hv:okW A a v m:=⟨fun q hq=>h1 q (List.mem_append_right _ hq),h2⟩;refine ⟨⟨fun q hq=>h1 q (List.mem_append_left _ hq), ?_⟩,hv⟩
  cases v with
  |nil=>exact h2
  |cons q v=>exact (hv.1 q (by simp)).1
 ·
  rintro ⟨h1,h2⟩;refine ⟨fun q hq=> ?_,h2.2⟩
  rcases List.mem_append.1 hq with hq|hq
  ·
   exact h1.1 q hq
  ·
   exact h2.1 q hq
theorem dotG_cut {A a:Nat} {J K L M:Lng} (h:∀ws m,okW A a ws m→J ws m→K ws m) (h':∀ws m,okW A a ws m→L ws m→M ws m) {ws:List (Nat × Nat)} {m:Nat} (ho:okW A a ws m):dotG J L ws m→dotG K M ws m:=by
 rintro ⟨u,v,rfl,hu,hv⟩;obtain ⟨h1,h2⟩:=okW.append.1 ho;exact ⟨u,v,rfl,h _ _ h1 hu,h' _ _ h2 hv⟩
theorem star_cut {A a:Nat} {K L:Lng} (h:∀ws m,okW A a ws m→K ws m→L ws m) {ws:List (Nat × Nat)} {m:Nat} (ho:okW A a ws m) (hs:StarG K ws m):StarG L ws m:=by
 induction hs with
 |nil=>exact StarG.nil _
 |cons u v m hu _ ih=>
  obtain ⟨h1,h2⟩:=okW.append.1 ho;exact StarG.cons u v m (h _ _ h1 hu) (ih h2)
theorem or_absorb {t a:Int} {e f:Ex} (hc:bothC t a e f=0) (h:atR t a e f=true):nevR t a (f.sumE e) f=false:=by
 unfold nevR
 by_cases hc':bothC t a (f.sumE e) f=0
 ·
  rw [(eqR_iff hc').2 fun ws m ho=> ?_,Bool.not_true,Bool.and_false];rw [lng_sumE];exact ⟨fun q=>q.elim id ((atR_iff hc).1 h ws m ho),Or.inl⟩
 ·
  rw [beq_eq_false_iff_ne.2 hc',Bool.false_and]
theorem or_dot {t a:Int} {e f h:Ex} (hc:bothC t a e f=0) (hx:atR t a e f=true) (hc':bothC t a (e.dotE h) (f.dotE h)=0):atR t a (e.dotE h) (f.dotE h)=true:=
 (atR_iff hc').2 fun ws m ho=>by rw [lng_dotE,lng_dotE]; exact dotG_cut ((atR_iff hc).1 hx) (fun _ _ _ q=>q) ho
theorem or_star {t a:Int} {e f h:Ex} (hc:bothC t a e f=0) (hx:atR t a e f=true) (hc':bothC t a (e.sumE h).starE (f.sumE h).starE=0):atR t a (e.sumE h).starE (f.sumE h).starE=true:=
 (atR_iff hc').2 fun ws m ho=>by
  rw [lng_starE,lng_starE,lng_sumE,lng_sumE];exact star_cut (fun ws m ho q=>q.elim (fun q=>Or.inl ((atR_iff hc).1 hx ws m ho q)) Or.inr) ho
end Go.Proofs.YtfopdcdbelaapaaGreatDoor
namespace Go.Proofs.YtfopdcdbelaapaaGreatDoor
set_option linter.unusedVariables false
set_option linter.unusedSimpArgs false
open Go.ChangeShapes Go.WideShapes Go.ChangeAt Go.RowKit Go.Deep Go.Sort
theorem implAtMost_l {t a:Int} {e f:Ex} {s s':Option Addr} {c c':Nat} {w:World} (hr:Rd w (kidsD e.kids) (.slice s e.kids.length c)) (hr':Rd w (kidsD f.kids) (.slice s' f.kids.length c')) (h1:e.size≤1000) (h2:f.size≤1000):
  Calls Tryz.prog 63 #[.agg #[.int .i64 t, .int .i64 a], .agg #[.int .i64 e.kind, .int .i64 e.num, .slice s e.kids.length c], .agg #[.int .i64 f.kind, .int .i64 f.num, .slice s' f.kids.length c']] w fun z w'=>z= .returned (.tuple #[.bool (atR t a e f), .int .i64 (bothC t a e f)])∧Below w.heap.size w w':=by
 obtain ⟨k,n,ks⟩:=e;obtain ⟨k',n',ks'⟩:=f;rw [Ex.size_eq] at h1 h2;exact implAtMost_i hr hr' (by omega) (by omega)
theorem specEqualExprs_l {t a:Int} {e f:Ex} {s s':Option Addr} {c c':Nat} {w:World} (hr:Rd w (kidsD e.kids) (.slice s e.kids.length c)) (hr':Rd w (kidsD f.kids) (.slice s' f.kids.length c')) (h1:e.size≤1000) (h2:f.size≤1000):
  Calls Tryz.prog 26 #[.agg #[.int .i64 t, .int .i64 a], .agg #[.int .i64 e.kind, .int .i64 e.num, .slice s e.kids.length c], .agg #[.int .i64 f.kind, .int .i64 f.num, .slice s' f.kids.length c']] w fun z w'=>z= .returned (.tuple #[.bool (eqR t a e f), .int .i64 (bothC t a e f)])∧Below w.heap.size w w':=by
 obtain ⟨k,n,ks⟩:=e;obtain ⟨k',n',ks'⟩:=f;rw [Ex.size_eq] at h1 h2;exact specEqualExprs_i hr hr' (by omega) (by omega)
theorem implEqualExprs_l {t a:Int} {e f:Ex} {s s':Option Addr} {c c':Nat} {w:World} (hr:Rd w (kidsD e.kids) (.slice s e.kids.length c)) (hr':Rd w (kidsD f.kids) (.slice s' f.kids.length c')) (h1:e.size≤1000) (h2:f.size≤1000):
  Calls Tryz.prog 27 #[.agg #[.int .i64 t, .int .i64 a], .agg #[.int .i64 e.kind, .int .i64 e.num, .slice s e.kids.length c], .agg #[.int .i64 f.kind, .int .i64 f.num, .slice s' f.kids.length c']] w fun z w'=>z= .returned (.tuple #[.bool (eqR t a e f), .int .i64 (bothC t a e f)])∧Below w.heap.size w w':=by
 obtain ⟨k,n,ks⟩:=e;obtain ⟨k',n',ks'⟩:=f;rw [Ex.size_eq] at h1 h2;exact implEqualExprs_i hr hr' (by omega) (by omega)
noncomputable def eqlR (t a:Int) (e f:Ex):Int:=if bothC t a e f=0 then (if eqR t a e f=true then 1 else 0) else 2
set_option maxHeartbeats 4000000 in
theorem a2Equal_i {t a:Int} {e f:Ex} {s s':Option Addr} {c c':Nat} {w:World} (hr:Rd w (kidsD e.kids) (.slice s e.kids.length c)) (hr':Rd w (kidsD f.kids) (.slice s' f.kids.length c')) (h1:e.size≤1000) (h2:f.size≤1000):
  Calls Tryz.prog 51 #[.agg #[.int .i64 t, .int .i64 a], .agg #[.int .i64 e.kind, .int .i64 e.num, .slice s e.kids.length c], .agg #[.int .i64 f.kind, .int .i64 f.num, .slice s' f.kids.length c']] w fun z w'=>z= .returned (.int .i64 (eqlR t a e f))∧Below w.heap.size w w':=by
 have HR:=Lib.hid (Later.rd hr);have HR':=Lib.hid (Later.rd hr');clear hr hr'
 go_enter Tryz.func51,Tryz.ntmps51
 go_wp2_with fail;obtain ⟨w1,e1,G,hb1,hz1⟩:=box2 w 37 (.int .i64 t) (.int .i64 a);rw [e1];obtain ⟨w2,e2,X,hb2,hz2⟩:=box3 w1 34 (.int .i64 e.kind) (.int .i64 e.num) (.slice s e.kids.length c);rw [e2];obtain ⟨w3,e3,Y,hb3,hz3⟩:=box3 w2 34 (.int .i64 f.kind) (.int .i64 f.num) (.slice s' f.kids.length c');rw [e3];rw [hz1] at X;rw [hz2,hz1] at Y;have hB:Below w.heap.size w w3:=(hb1.trans (hb2.mono (by omega))).trans (hb3.mono (by omega));replace X:=X.below hb3;replace G:=(G.below hb2).below hb3;clear e1 e2 e3 hb1 hb2 hb3 hz1 hz2 hz3;obtain ⟨cd,hcd⟩:∃cd,bothC t a e f=cd:=⟨_,rfl⟩;obtain ⟨v,hv⟩:∃v,eqR t a e f=v:=⟨_,rfl⟩;have HC:=Lib.hid hcd;have HV:=Lib.hid hv;refine (specEqualExprs_l (HR.out.ok _ hB) (HR'.out.ok _ hB) h1 h2).mono ?_;rintro z w4 ⟨rfl,hb⟩;have hB4:=Below.on hB hb hB.size;replace X:=X.below hb;replace G:=G.below hb;replace Y:=Y.below hb;rw [hcd,hv];clear hb hB hcd hv;obtain ⟨g0,g1,lG⟩:=G.all2;obtain ⟨x0,x1,x2, -, -, -, lX⟩:=X.all3;obtain ⟨y0,y1,y2, -, -, -, lY⟩:=Y.all3;clear G X Y;go_wp2_with fail;clear g0 g1 lG x0 x1 x2 lX y0 y1 y2 lY;refine (implEqualExprs_l (HR.out.ok _ hB4) (HR'.out.ok _ hB4) h1 h2).mono ?_;rintro z w5 ⟨rfl,hb⟩;have hB5:=Below.on hB4 hb hB4.size;rw [HC.out,HV.out];clear hb hB4
 have q1:(cd !=cd)=false:=by simp
 by_cases c0:cd=0
 ·
  subst c0
  cases v
  ·
   go_wp2_with fail;go_ret;exact ⟨ret_int (by unfold eqlR; rw [if_pos HC.out,if_neg (by rw [HV.out]; decide)]),hB5⟩
  ·
   go_wp2_with fail;go_ret;exact ⟨ret_int (by unfold eqlR; rw [if_pos HC.out,if_pos HV.out]),hB5⟩
 ·
  have q2:(cd !=0)=true:=by simpa using c0
  have HN:=Lib.hid c0;clear c0;go_wp2_with fail;go_ret;exact ⟨ret_int (by unfold eqlR; rw [if_neg (by rw [HC.out]; exact HN.out)]),hB5⟩
theorem nevR_eql {t a:Int} {e f:Ex}:nevR t a e f=(eqlR t a e f !=1&&eqlR t a e f !=2):=by
 unfold nevR eqlR
 by_cases hc:bothC t a e f=0
 ·
  rw [if_pos hc,hc]
  cases eqR t a e f<;>decide
 ·
  rw [if_neg hc,beq_eq_false_iff_ne.2 hc,Bool.false_and]
  decide
set_option maxHeartbeats 4000000 in
theorem a2Never_i {t a:Int} {e f:Ex} {s s':Option Addr} {c c':Nat} {w:World} (hr:Rd w (kidsD e.kids) (.slice s e.kids.length c)) (hr':Rd w (kidsD f.kids) (.slice s' f.kids.length c')) (h1:e.size≤1000) (h2:f.size≤1000):
  Calls Tryz.prog 52 #[.agg #[.int .i64 t, .int .i64 a], .agg #[.int .i64 e.kind, .int .i64 e.num, .slice s e.kids.length c], .agg #[.int .i64 f.kind, .int .i64 f.num, .slice s' f.kids.length c']] w fun z w'=>z= .returned (.bool (nevR t a e f))∧Below w.heap.size w w':=by
 have HR:=Lib.hid (Later.rd hr);have HR':=Lib.hid (Later.rd hr');clear hr hr';rw [nevR_eql]
 go_enter Tryz.func52,Tryz.ntmps52
 go_wp2_with fail;obtain ⟨w1,e1,G,hb1,hz1⟩:=box2 w 37 (.int .i64 t) (.int .i64 a);rw [e1];obtain ⟨w2,e2,X,hb2,hz2⟩:=box3 w1 34 (.int .i64 e.kind) (.int .i64 e.num) (.slice s e.kids.length c);rw [e2];obtain ⟨w3,e3,Y,hb3,hz3⟩:=box3 w2 34 (.int .i64 f.kind) (.int .i64 f.num) (.slice s' f.kids.length c');rw [e3];have hB:Below w.heap.size w w3:=(hb1.trans (hb2.mono (by omega))).trans (hb3.mono (by omega));clear e1 e2 e3 hb1 hb2 hb3 hz1 hz2 hz3 G X Y;refine (a2Equal_i (HR.out.ok _ hB) (HR'.out.ok _ hB) h1 h2).mono ?_;rintro z w4 ⟨rfl,hb⟩;have hB4:=Below.on hB hb hB.size
 have hq:eqlR t a e f=0∨eqlR t a e f=1∨eqlR t a e f=2:=by
  unfold eqlR
  split
  ·
   split
   ·
    exact Or.inr (Or.inl rfl)
   ·
    exact Or.inl rfl
  ·
   exact Or.inr (Or.inr rfl)
 obtain ⟨v,hv⟩:∃v,eqlR t a e f=v:=⟨_,rfl⟩;rw [hv] at hq ⊢;have HV:=Lib.hid hv;clear hb hB hv
 rcases hq with rfl|rfl|rfl
 all_goals
  go_wp2_with fail;go_ret;exact ⟨ret_bool (by rw [HV.out]; decide),hB4⟩
theorem never_no {t a:Int} {e f:Ex} {s s':Option Addr} {c c':Nat} {w:World} (hn:nevR t a e f=false) (hr:Rd w (kidsD e.kids) (.slice s e.kids.length c)) (hr':Rd w (kidsD f.kids) (.slice s' f.kids.length c')) (h1:e.size≤1000) (h2:f.size≤1000):
  Calls Tryz.prog 52 #[.agg #[.int .i64 t, .int .i64 a], .agg #[.int .i64 e.kind, .int .i64 e.num, .slice s e.kids.length c], .agg #[.int .i64 f.kind, .int .i64 f.num, .slice s' f.kids.length c']] w fun z w'=>z= .returned (.bool false)∧Below w.heap.size w w':=by
 have:=a2Never_i (t:=t) (a:=a) hr hr' h1 h2;rw [hn] at this;exact this
end Go.Proofs.YtfopdcdbelaapaaGreatDoor
