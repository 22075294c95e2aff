/-
  Parts of a proof, joined: Lang, LangA, Kleene, LwA. No condition.
-/
import Derived.Test.YtfopdcdbelaapaaGreatDoorPk38
namespace Go.Proofs.YtfopdcdbelaapaaGreatDoor
set_option linter.unusedVariables false
set_option linter.unusedSimpArgs false
theorem dotG_sum_right (J K L:Lng):dotG J (sumG K L)=sumG (dotG J K) (dotG J L):=Lng.ext fun ws m=>by
 constructor
 ·
  rintro ⟨u,v,rfl,h,hv|hv⟩
  ·
   exact Or.inl ⟨u,v,rfl,h,hv⟩
  ·
   exact Or.inr ⟨u,v,rfl,h,hv⟩
 ·
  rintro (⟨u,v,rfl,h,hv⟩|⟨u,v,rfl,h,hv⟩)
  ·
   exact ⟨u,v,rfl,h,Or.inl hv⟩
  ·
   exact ⟨u,v,rfl,h,Or.inr hv⟩
theorem StarG.mono {K L:Lng} (h:∀ws m,K ws m→L ws m) {ws:List (Nat × Nat)} {m:Nat} (hs:StarG K ws m):StarG L ws m:=by
 induction hs with
 |nil=>exact StarG.nil _
 |cons u v m hu _ ih=>exact StarG.cons u v m (h _ _ hu) ih
section
variable {α:Type} [DecidableEq α]
end
section
variable {t a:Int} {ac bc:List (List Bool)} {nx ny:List (List (List Int))}
end
theorem bothC_swap {t a:Int} {e f:Ex} (hc:bothC t a e f=0):bothC t a f e=0:=by
 obtain ⟨hce,hcf⟩:=both_ok hc;rw [both_two (au_ok hcf).1 (au_ok hce).1 hcf];exact hce
theorem eqR_iff {t a:Int} {e f:Ex} (hc:bothC t a e f=0):eqR t a e f=true↔∀ws m,okW (atomsN t).toNat a.toNat ws m→(e.lng ws m↔f.lng ws m):=by
 unfold eqR;rw [if_pos hc,Bool.and_eq_true,atB_iff hc,atB_iff (bothC_swap hc)];exact ⟨fun h ws m ho=>⟨h.1 ws m ho,h.2 ws m ho⟩,fun h=>⟨fun ws m ho=>(h ws m ho).1,fun ws m ho=>(h ws m ho).2⟩⟩
theorem sumG_comm (K L:Lng):sumG K L=sumG L K:=Lng.ext fun _ _=>or_comm
theorem star_unroll (K:Lng):StarG K=sumG oneG (dotG K (StarG K)):=Lng.ext fun ws m=>by
 constructor
 ·
  intro h
  cases h with
  |nil=>exact Or.inl rfl
  |cons u v m hu hv=>exact Or.inr ⟨u,v,rfl,hu,hv⟩
 ·
  rintro (h|⟨u,v,rfl,hu,hv⟩)
  ·
   unfold oneG at h;subst h;exact StarG.nil _
  ·
   exact StarG.cons u v m hu hv
theorem star_back {K:Lng} {ws:List (Nat × Nat)} {m:Nat} (h:StarG K ws m):ws=[]∨dotG (StarG K) K ws m:=by
 induction h with
 |nil=>exact Or.inl rfl
 |cons u v m hu _ ih=>
  rcases ih with rfl|⟨p,q,rfl,hp,hq⟩
  ·
   exact Or.inr ⟨[],u,by simp,StarG.nil _,hu⟩
  ·
   refine Or.inr ⟨u++p,q,by simp, ?_,hq⟩;rw [hdA_append] at hu;exact StarG.cons u p _ hu hp
theorem star_unroll' (K:Lng):StarG K=sumG (dotG (StarG K) K) oneG:=Lng.ext fun ws m=>by
 constructor
 ·
  intro h;exact (star_back h).symm
 ·
  rintro (⟨u,v,rfl,hu,hv⟩|h)
  ·
   exact StarG.append hu (StarG.one hv)
  ·
   unfold oneG at h;subst h;exact StarG.nil _
theorem star_slide (K L:Lng):dotG (StarG (dotG K L)) K=dotG K (StarG (dotG L K)):=Lng.ext fun ws m=>by
 constructor
 ·
  rintro ⟨u,v,rfl,hu,hv⟩;generalize hx:hdA v m=x at hu
  induction hu with
  |nil=>subst hx; exact ⟨v,[],by simp,hv,StarG.nil _⟩
  |cons p q y hp hq ih=>
   subst hx;obtain ⟨r,s,h1,hr,hs⟩:=ih rfl;obtain ⟨k,l,rfl,hk,hl⟩:=hp
   have e1:hdA ((l++r)++s) m=hdA l (hdA q (hdA v m)):=by rw [List.append_assoc,←h1,hdA_append,hdA_append]
   have e2:hdA r (hdA s m)=hdA q (hdA v m):=by rw [←hdA_append,←h1,hdA_append]
   exact ⟨k,(l++r)++s,by simp only [List.append_assoc]; rw [h1],Eq.mpr (congrArg (K k) e1) hk,StarG.cons _ _ _ ⟨l,r,rfl,Eq.mpr (congrArg (L l) e2) hl,hr⟩ hs⟩
 ·
  rintro ⟨u,v,rfl,hu,hv⟩
  induction hv generalizing u with
  |nil=>exact ⟨[],u,by simp,StarG.nil _,hu⟩
  |cons p q y hp hq ih=>
   obtain ⟨l,k,rfl,hl,hk⟩:=hp;obtain ⟨r,s,h1,hr,hs⟩:=ih k hk
   have e1:hdA l (hdA r (hdA s y))=hdA (l++k++q) y:=by rw [List.append_assoc,hdA_append,h1,hdA_append]
   have e2:hdA r (hdA s y)=hdA k (hdA q y):=by rw [←hdA_append,←h1,hdA_append]
   exact ⟨(u++l)++r,s,by simp only [List.append_assoc]; rw [←h1],StarG.cons _ _ _ ⟨u,l,rfl,Eq.mpr (congrArg (K u) e1) hu,Eq.mpr (congrArg (L l) e2) hl⟩ hr,hs⟩
theorem star_denest (K L:Lng):StarG (sumG K L)=dotG (StarG K) (StarG (dotG L (StarG K))):=Lng.ext fun ws m=>by
 constructor
 ·
  intro h
  induction h with
  |nil=>exact ⟨[],[],rfl,StarG.nil _,StarG.nil _⟩
  |cons u v m hu _ ih=>
   obtain ⟨p,q,rfl,hp,hq⟩:=ih
   rcases hu with hu|hu
   ·
    refine ⟨u++p,q,by simp, ?_,hq⟩;rw [hdA_append] at hu;exact StarG.cons u p _ hu hp
   ·
    refine ⟨[],(u++p)++q,by simp,StarG.nil _,StarG.cons _ _ _ ⟨u,p,rfl, ?_,hp⟩ hq⟩;rw [hdA_append] at hu;exact hu
 ·
  rintro ⟨u,v,rfl,hu,hv⟩;refine StarG.append (StarG.mono (fun _ _ h=>Or.inl h) hu) ?_;refine StarG.star (StarG.mono (fun ws m h=> ?_) hv);obtain ⟨p,q,rfl,hp,hq⟩:=h;exact StarG.cons p q m (Or.inr hp) (StarG.mono (fun _ _ h=>Or.inl h) hq)
theorem eqR_of {t a:Int} {e f:Ex} (hc:bothC t a e f=0) (h:e.lng=f.lng):eqR t a e f=true:=(eqR_iff hc).2 fun _ _ _=>by rw [h]
noncomputable def nevR (t a:Int) (e f:Ex):Bool:=(bothC t a e f==0)&& !eqR t a e f
theorem nevR_of {t a:Int} {e f:Ex} (h:e.lng=f.lng):nevR t a e f=false:=by
 unfold nevR
 by_cases hc:bothC t a e f=0
 ·
  rw [eqR_of hc h,Bool.not_true,Bool.and_false]
 ·
  rw [beq_eq_false_iff_ne.2 hc,Bool.false_and]
theorem kl_dist (t a:Int) (e f h:Ex):nevR t a (e.dotE (f.sumE h)) ((e.dotE h).sumE (e.dotE f))=false:=nevR_of (by rw [lng_dotE,lng_sumE,lng_sumE,lng_dotE,lng_dotE,dotG_sum_right,sumG_comm])
theorem kl_unroll (t a:Int) {o:Ex} (ho:o.kind=2) (e:Ex):nevR t a e.starE (o.sumE (e.dotE e.starE))=false:=nevR_of (by rw [lng_sumE,lng_dotE,lng_starE,lng_kind2 ho]; exact star_unroll _)
theorem kl_unroll' (t a:Int) {o:Ex} (ho:o.kind=2) (e:Ex):nevR t a e.starE ((e.starE.dotE e).sumE o)=false:=nevR_of (by rw [lng_sumE,lng_dotE,lng_starE,lng_kind2 ho]; exact star_unroll' _)
theorem kl_slide (t a:Int) (e f:Ex):nevR t a ((e.dotE f).starE.dotE e) (e.dotE (f.dotE e).starE)=false:=nevR_of (by rw [lng_dotE,lng_starE,lng_dotE,lng_dotE,lng_starE,lng_dotE,star_slide])
theorem kl_denest (t a:Int) (e f:Ex):nevR t a (e.sumE f).starE (e.starE.dotE (f.dotE e.starE).starE)=false:=nevR_of (by rw [lng_starE,lng_sumE,lng_dotE,lng_starE,lng_starE,lng_dotE,lng_starE,star_denest])
end Go.Proofs.YtfopdcdbelaapaaGreatDoor
namespace Go.Proofs.YtfopdcdbelaapaaGreatDoor
set_option linter.unusedVariables false
set_option linter.unusedSimpArgs false
open Go.ChangeShapes Go.WideShapes Go.ChangeAt Go.RowKit Go.Deep Go.Sort
theorem specEqualExprs_l {t a:Int} {e f:Ex} {s s':Option Addr} {c c':Nat} {w:World} (hr:Rd w (kidsD e.kids) (.slice s e.kids.length c)) (hr':Rd w (kidsD f.kids) (.slice s' f.kids.length c')) (h1:e.size≤1000) (h2:f.size≤1000):
  Calls Tryz.prog 26 #[.agg #[.int .i64 t, .int .i64 a], .agg #[.int .i64 e.kind, .int .i64 e.num, .slice s e.kids.length c], .agg #[.int .i64 f.kind, .int .i64 f.num, .slice s' f.kids.length c']] w fun z w'=>z= .returned (.tuple #[.bool (eqR t a e f), .int .i64 (bothC t a e f)])∧Below w.heap.size w w':=by
 obtain ⟨k,n,ks⟩:=e;obtain ⟨k',n',ks'⟩:=f;rw [Ex.size_eq] at h1 h2;exact specEqualExprs_i hr hr' (by omega) (by omega)
theorem implEqualExprs_l {t a:Int} {e f:Ex} {s s':Option Addr} {c c':Nat} {w:World} (hr:Rd w (kidsD e.kids) (.slice s e.kids.length c)) (hr':Rd w (kidsD f.kids) (.slice s' f.kids.length c')) (h1:e.size≤1000) (h2:f.size≤1000):
  Calls Tryz.prog 27 #[.agg #[.int .i64 t, .int .i64 a], .agg #[.int .i64 e.kind, .int .i64 e.num, .slice s e.kids.length c], .agg #[.int .i64 f.kind, .int .i64 f.num, .slice s' f.kids.length c']] w fun z w'=>z= .returned (.tuple #[.bool (eqR t a e f), .int .i64 (bothC t a e f)])∧Below w.heap.size w w':=by
 obtain ⟨k,n,ks⟩:=e;obtain ⟨k',n',ks'⟩:=f;rw [Ex.size_eq] at h1 h2;exact implEqualExprs_i hr hr' (by omega) (by omega)
noncomputable def eqlR (t a:Int) (e f:Ex):Int:=if bothC t a e f=0 then (if eqR t a e f=true then 1 else 0) else 2
set_option maxHeartbeats 4000000 in
theorem a2Equal_i {t a:Int} {e f:Ex} {s s':Option Addr} {c c':Nat} {w:World} (hr:Rd w (kidsD e.kids) (.slice s e.kids.length c)) (hr':Rd w (kidsD f.kids) (.slice s' f.kids.length c')) (h1:e.size≤1000) (h2:f.size≤1000):
  Calls Tryz.prog 51 #[.agg #[.int .i64 t, .int .i64 a], .agg #[.int .i64 e.kind, .int .i64 e.num, .slice s e.kids.length c], .agg #[.int .i64 f.kind, .int .i64 f.num, .slice s' f.kids.length c']] w fun z w'=>z= .returned (.int .i64 (eqlR t a e f))∧Below w.heap.size w w':=by
 have HR:=Lib.hid (Later.rd hr);have HR':=Lib.hid (Later.rd hr');clear hr hr'
 go_enter Tryz.func51,Tryz.ntmps51
 go_wp2_with fail;obtain ⟨w1,e1,G,hb1,hz1⟩:=box2 w 37 (.int .i64 t) (.int .i64 a);rw [e1];obtain ⟨w2,e2,X,hb2,hz2⟩:=box3 w1 34 (.int .i64 e.kind) (.int .i64 e.num) (.slice s e.kids.length c);rw [e2];obtain ⟨w3,e3,Y,hb3,hz3⟩:=box3 w2 34 (.int .i64 f.kind) (.int .i64 f.num) (.slice s' f.kids.length c');rw [e3];rw [hz1] at X;rw [hz2,hz1] at Y;have hB:Below w.heap.size w w3:=(hb1.trans (hb2.mono (by omega))).trans (hb3.mono (by omega));replace X:=X.below hb3;replace G:=(G.below hb2).below hb3;clear e1 e2 e3 hb1 hb2 hb3 hz1 hz2 hz3;obtain ⟨cd,hcd⟩:∃cd,bothC t a e f=cd:=⟨_,rfl⟩;obtain ⟨v,hv⟩:∃v,eqR t a e f=v:=⟨_,rfl⟩;have HC:=Lib.hid hcd;have HV:=Lib.hid hv;refine (specEqualExprs_l (HR.out.ok _ hB) (HR'.out.ok _ hB) h1 h2).mono ?_;rintro z w4 ⟨rfl,hb⟩;have hB4:=Below.on hB hb hB.size;replace X:=X.below hb;replace G:=G.below hb;replace Y:=Y.below hb;rw [hcd,hv];clear hb hB hcd hv;obtain ⟨g0,g1,lG⟩:=G.all2;obtain ⟨x0,x1,x2, -, -, -, lX⟩:=X.all3;obtain ⟨y0,y1,y2, -, -, -, lY⟩:=Y.all3;clear G X Y;go_wp2_with fail;clear g0 g1 lG x0 x1 x2 lX y0 y1 y2 lY;refine (implEqualExprs_l (HR.out.ok _ hB4) (HR'.out.ok _ hB4) h1 h2).mono ?_;rintro z w5 ⟨rfl,hb⟩;have hB5:=Below.on hB4 hb hB4.size;rw [HC.out,HV.out];clear hb hB4
 have q1:(cd !=cd)=false:=by simp
 by_cases c0:cd=0
 ·
  subst c0
  cases v
  ·
   go_wp2_with fail;go_ret;exact ⟨ret_int (by unfold eqlR; rw [if_pos HC.out,if_neg (by rw [HV.out]; decide)]),hB5⟩
  ·
   go_wp2_with fail;go_ret;exact ⟨ret_int (by unfold eqlR; rw [if_pos HC.out,if_pos HV.out]),hB5⟩
 ·
  have q2:(cd !=0)=true:=by simpa using c0
  have HN:=Lib.hid c0;clear c0;go_wp2_with fail;go_ret;exact ⟨ret_int (by unfold eqlR; rw [if_neg (by rw [HC.out]; exact HN.out)]),hB5⟩
theorem nevR_eql {t a:Int} {e f:Ex}:nevR t a e f=(eqlR t a e f !=1&&eqlR t a e f !=2):=by
 unfold nevR eqlR
 by_cases hc:bothC t a e f=0
 ·
  rw [if_pos hc,hc]
  cases eqR t a e f<;>decide
 ·
  rw [if_neg hc,beq_eq_false_iff_ne.2 hc,Bool.false_and]
  decide
set_option maxHeartbeats 4000000 in
theorem a2Never_i {t a:Int} {e f:Ex} {s s':Option Addr} {c c':Nat} {w:World} (hr:Rd w (kidsD e.kids) (.slice s e.kids.length c)) (hr':Rd w (kidsD f.kids) (.slice s' f.kids.length c')) (h1:e.size≤1000) (h2:f.size≤1000):
  Calls Tryz.prog 52 #[.agg #[.int .i64 t, .int .i64 a], .agg #[.int .i64 e.kind, .int .i64 e.num, .slice s e.kids.length c], .agg #[.int .i64 f.kind, .int .i64 f.num, .slice s' f.kids.length c']] w fun z w'=>z= .returned (.bool (nevR t a e f))∧Below w.heap.size w w':=by
 have HR:=Lib.hid (Later.rd hr);have HR':=Lib.hid (Later.rd hr');clear hr hr';rw [nevR_eql]
 go_enter Tryz.func52,Tryz.ntmps52
 go_wp2_with fail;obtain ⟨w1,e1,G,hb1,hz1⟩:=box2 w 37 (.int .i64 t) (.int .i64 a);rw [e1];obtain ⟨w2,e2,X,hb2,hz2⟩:=box3 w1 34 (.int .i64 e.kind) (.int .i64 e.num) (.slice s e.kids.length c);rw [e2];obtain ⟨w3,e3,Y,hb3,hz3⟩:=box3 w2 34 (.int .i64 f.kind) (.int .i64 f.num) (.slice s' f.kids.length c');rw [e3];have hB:Below w.heap.size w w3:=(hb1.trans (hb2.mono (by omega))).trans (hb3.mono (by omega));clear e1 e2 e3 hb1 hb2 hb3 hz1 hz2 hz3 G X Y;refine (a2Equal_i (HR.out.ok _ hB) (HR'.out.ok _ hB) h1 h2).mono ?_;rintro z w4 ⟨rfl,hb⟩;have hB4:=Below.on hB hb hB.size
 have hq:eqlR t a e f=0∨eqlR t a e f=1∨eqlR t a e f=2:=by
  unfold eqlR
  split
  ·
   split
   ·
    exact Or.inr (Or.inl rfl)
   ·
    exact Or.inl rfl
  ·
   exact Or.inr (Or.inr rfl)
 obtain ⟨v,hv⟩:∃v,eqlR t a e f=v:=⟨_,rfl⟩;rw [hv] at hq ⊢;have HV:=Lib.hid hv;clear hb hB hv
 rcases hq with rfl|rfl|rfl
 all_goals
  go_wp2_with fail;go_ret;exact ⟨ret_bool (by rw [HV.out]; decide),hB4⟩
theorem never_no {t a:Int} {e f:Ex} {s s':Option Addr} {c c':Nat} {w:World} (hn:nevR t a e f=false) (hr:Rd w (kidsD e.kids) (.slice s e.kids.length c)) (hr':Rd w (kidsD f.kids) (.slice s' f.kids.length c')) (h1:e.size≤1000) (h2:f.size≤1000):
  Calls Tryz.prog 52 #[.agg #[.int .i64 t, .int .i64 a], .agg #[.int .i64 e.kind, .int .i64 e.num, .slice s e.kids.length c], .agg #[.int .i64 f.kind, .int .i64 f.num, .slice s' f.kids.length c']] w fun z w'=>z= .returned (.bool false)∧Below w.heap.size w w':=by
 have:=a2Never_i (t:=t) (a:=a) hr hr' h1 h2;rw [hn] at this;exact this
end Go.Proofs.YtfopdcdbelaapaaGreatDoor
