/-
  Parts of a proof, joined: LwA, Rpl. No condition.
-/
import Derived.Test.YtlchgfbkdjjngaaGreatDoorPk23
import Derived.Test.YtlchgfbkdjjngaaGreatDoorPk27
import Derived.Test.YtlchgfbkdjjngaaGreatDoorPk38
set_option linter.unusedVariables false
set_option linter.unusedSimpArgs false
namespace Go.Proofs.YtlchgfbkdjjngaaGreatDoor
open Go.ChangeShapes Go.WideShapes Go.ChangeAt Go.RowKit Go.Deep Go.Sort
theorem Lv {t a:Int} {e f:Ex} {s s':Option Addr} {c c':Nat} {w:World} (hr:Rd w (Ae e.kids) (.slice s e.kids.length c)) (hr':Rd w (Ae f.kids) (.slice s' f.kids.length c')) (h1:e.size≤1000) (h2:f.size≤1000):
  Calls Tryz.prog 25 #[.agg #[.int .i64 t,.int .i64 a],.agg #[.int .i64 e.kind,.int .i64 e.num,.slice s e.kids.length c],.agg #[.int .i64 f.kind,.int .i64 f.num,.slice s' f.kids.length c']] w fun z w'=>z= .returned (.tuple #[.bool (eqR t a e f),.int .i64 (Bs t a e f)])∧Below w.heap.size w w':=by
 obtain ⟨k,n,ks⟩:=e;obtain ⟨k',n',ks'⟩:=f;rw [Ex.size_eq] at h1 h2;exact Ly hr hr' (by omega) (by omega)
theorem Mi {t a:Int} {e f:Ex} {s s':Option Addr} {c c':Nat} {w:World} (hr:Rd w (Ae e.kids) (.slice s e.kids.length c)) (hr':Rd w (Ae f.kids) (.slice s' f.kids.length c')) (h1:e.size≤1000) (h2:f.size≤1000):
  Calls Tryz.prog 26 #[.agg #[.int .i64 t,.int .i64 a],.agg #[.int .i64 e.kind,.int .i64 e.num,.slice s e.kids.length c],.agg #[.int .i64 f.kind,.int .i64 f.num,.slice s' f.kids.length c']] w fun z w'=>z= .returned (.tuple #[.bool (eqR t a e f),.int .i64 (Bs t a e f)])∧Below w.heap.size w w':=by
 obtain ⟨k,n,ks⟩:=e;obtain ⟨k',n',ks'⟩:=f;rw [Ex.size_eq] at h1 h2;exact L8 hr hr' (by omega) (by omega)
noncomputable def F0 (t a:Int) (e f:Ex):Int:=if Bs t a e f=0 then (if eqR t a e f=true then 1 else 0) else 2
set_option maxHeartbeats 4000000 in
theorem O3 {t a:Int} {e f:Ex} {s s':Option Addr} {c c':Nat} {w:World} (hr:Rd w (Ae e.kids) (.slice s e.kids.length c)) (hr':Rd w (Ae f.kids) (.slice s' f.kids.length c')) (h1:e.size≤1000) (h2:f.size≤1000):
  Calls Tryz.prog 11 #[.agg #[.int .i64 t,.int .i64 a],.agg #[.int .i64 e.kind,.int .i64 e.num,.slice s e.kids.length c],.agg #[.int .i64 f.kind,.int .i64 f.num,.slice s' f.kids.length c']] w fun z w'=>z= .returned (.int .i64 (F0 t a e f))∧Below w.heap.size w w':=by
 have HR:=hid (Ca.rd hr);have HR':=hid (Ca.rd hr');clear hr hr'
 go_enter Tryz.func11,Tryz.ntmps11
 go_wp2_with fail;obtain ⟨w1,e1,G,hb1,hz1⟩:=Dl w 25 (.int .i64 t) (.int .i64 a);rw [e1];obtain ⟨w2,e2,X,hb2,hz2⟩:=A7 w1 28 (.int .i64 e.kind) (.int .i64 e.num) (.slice s e.kids.length c);rw [e2];obtain ⟨w3,e3,Y,hb3,hz3⟩:=A7 w2 28 (.int .i64 f.kind) (.int .i64 f.num) (.slice s' f.kids.length c');rw [e3];rw [hz1] at X;rw [hz2,hz1] at Y;have hB:Below w.heap.size w w3:=(hb1.trans (hb2.mono (by omega))).trans (hb3.mono (by omega));replace X:=X.below hb3;replace G:=(G.below hb2).below hb3;clear e1 e2 e3 hb1 hb2 hb3 hz1 hz2 hz3;obtain ⟨cd,hcd⟩:∃cd,Bs t a e f=cd:=⟨_,rfl⟩;obtain ⟨v,hv⟩:∃v,eqR t a e f=v:=⟨_,rfl⟩;have HC:=hid hcd;have HV:=hid hv;refine (Lv (HR.out.ok _ hB) (HR'.out.ok _ hB) h1 h2).mono ?_;rintro z w4 ⟨rfl,hb⟩;have hB4:=Below.on hB hb hB.size;replace X:=X.below hb;replace G:=G.below hb;replace Y:=Y.below hb;rw [hcd,hv];clear hb hB hcd hv;obtain ⟨g0,g1,lG⟩:=G.all2;obtain ⟨x0,x1,x2, -, -, -, lX⟩:=X.all3;obtain ⟨y0,y1,y2, -, -, -, lY⟩:=Y.all3;clear G X Y;go_wp2_with fail;clear g0 g1 lG x0 x1 x2 lX y0 y1 y2 lY;refine (Mi (HR.out.ok _ hB4) (HR'.out.ok _ hB4) h1 h2).mono ?_;rintro z w5 ⟨rfl,hb⟩;have hB5:=Below.on hB4 hb hB4.size;rw [HC.out,HV.out];clear hb hB4
 have q1:(cd !=cd)=false:=by simp
 by_cases c0:cd=0
 ·subst c0
  cases v
  ·go_wp2_with fail;go_ret;exact ⟨Di (by unfold F0; rw [if_pos HC.out,if_neg (by rw [HV.out]; decide)]),hB5⟩
  go_wp2_with fail;go_ret;exact ⟨Di (by unfold F0; rw [if_pos HC.out,if_pos HV.out]),hB5⟩
 have q2:(cd !=0)=true:=by simpa using c0
 have HN:=hid c0;clear c0;go_wp2_with fail;go_ret;exact ⟨Di (by unfold F0; rw [if_neg (by rw [HC.out]; exact HN.out)]),hB5⟩
theorem W8 {t a:Int} {e f:Ex}:Mc t a e f=(F0 t a e f !=1&&F0 t a e f !=2):=by
 unfold Mc F0
 by_cases hc:Bs t a e f=0
 ·rw [if_pos hc,hc]
  cases eqR t a e f<;>decide
 rw [if_neg hc,beq_eq_false_iff_ne.2 hc,Bool.false_and]
 decide
set_option maxHeartbeats 4000000 in
theorem Vw {t a:Int} {e f:Ex} {s s':Option Addr} {c c':Nat} {w:World} (hr:Rd w (Ae e.kids) (.slice s e.kids.length c)) (hr':Rd w (Ae f.kids) (.slice s' f.kids.length c')) (h1:e.size≤1000) (h2:f.size≤1000):
  Calls Tryz.prog 12 #[.agg #[.int .i64 t,.int .i64 a],.agg #[.int .i64 e.kind,.int .i64 e.num,.slice s e.kids.length c],.agg #[.int .i64 f.kind,.int .i64 f.num,.slice s' f.kids.length c']] w fun z w'=>z= .returned (.bool (Mc t a e f))∧Below w.heap.size w w':=by
 have HR:=hid (Ca.rd hr);have HR':=hid (Ca.rd hr');clear hr hr';rw [W8]
 go_enter Tryz.func12,Tryz.ntmps12
 go_wp2_with fail;obtain ⟨w1,e1,G,hb1,hz1⟩:=Dl w 25 (.int .i64 t) (.int .i64 a);rw [e1];obtain ⟨w2,e2,X,hb2,hz2⟩:=A7 w1 28 (.int .i64 e.kind) (.int .i64 e.num) (.slice s e.kids.length c);rw [e2];obtain ⟨w3,e3,Y,hb3,hz3⟩:=A7 w2 28 (.int .i64 f.kind) (.int .i64 f.num) (.slice s' f.kids.length c');rw [e3];have hB:Below w.heap.size w w3:=(hb1.trans (hb2.mono (by omega))).trans (hb3.mono (by omega));clear e1 e2 e3 hb1 hb2 hb3 hz1 hz2 hz3 G X Y;refine (O3 (HR.out.ok _ hB) (HR'.out.ok _ hB) h1 h2).mono ?_;rintro z w4 ⟨rfl,hb⟩;have hB4:=Below.on hB hb hB.size
 have hq:F0 t a e f=0∨F0 t a e f=1∨F0 t a e f=2:=by
  unfold F0
  split
  ·split
   ·exact Or.inr (Or.inl rfl)
   exact Or.inl rfl
  exact Or.inr (Or.inr rfl)
 obtain ⟨v,hv⟩:∃v,F0 t a e f=v:=⟨_,rfl⟩;rw [hv] at hq ⊢;have HV:=hid hv;clear hb hB hv
 rcases hq with rfl|rfl|rfl
 all_goals
  go_wp2_with fail;go_ret;exact ⟨Av (by rw [HV.out]; decide),hB4⟩
theorem Wy {t a:Int} {e f:Ex} {s s':Option Addr} {c c':Nat} {w:World} (hn:Mc t a e f=false) (hr:Rd w (Ae e.kids) (.slice s e.kids.length c)) (hr':Rd w (Ae f.kids) (.slice s' f.kids.length c')) (h1:e.size≤1000) (h2:f.size≤1000):
  Calls Tryz.prog 12 #[.agg #[.int .i64 t,.int .i64 a],.agg #[.int .i64 e.kind,.int .i64 e.num,.slice s e.kids.length c],.agg #[.int .i64 f.kind,.int .i64 f.num,.slice s' f.kids.length c']] w fun z w'=>z= .returned (.bool false)∧Below w.heap.size w w':=by
 have:=Vw (t:=t) (a:=a) hr hr' h1 h2;rw [hn] at this;exact this
theorem Ep {t a:Int} {e:Ex} {bs:List Ex} {s s2:Option Addr} {c c2 m:Nat} {w:World} (hm:bs.length=m) (hr:Rd w (Ae e.kids) (.slice s e.kids.length c)) (hy:Rd w (Ae bs) (.slice s2 m c2)) (h1:e.size≤1000) (h2:Ex.sizeL bs≤1000):
  Calls Tryz.prog 8 #[.agg #[.int .i64 t,.int .i64 a],.agg #[.int .i64 e.kind,.int .i64 e.num,.slice s e.kids.length c],.slice s2 m c2] w fun f w'=>∃(x:Ex) (s':Option Addr) (c':Nat) (q:Int),f= .returned (.tuple #[.agg #[.int .i64 x.kind,.int .i64 x.num,.slice s' x.kids.length c'],.int .i64 q])∧
   (x=Bv t a e bs∧q=Ck t a e bs)∧Rd w' (Ae x.kids) (.slice s' x.kids.length c')∧Below w.heap.size w w':=by
 subst hm
 cases e with
 |mk k n ks=>
  have hs:=Ex.size_eq (.mk k n ks);simp only [Ex.kids] at hs;refine (Jw (k:=k) (n:=n) (ks:=ks) hr hy (by omega) (by omega)).mono ?_;rintro f w' ⟨s',c',h1,h2,h3⟩;exact ⟨_,s',c',_,h1,⟨rfl,rfl⟩,h2.rd1,h3⟩
theorem Gk {t a:Int} {e:Ex} {bs:List Ex} {s s2:Option Addr} {c c2 m:Nat} {w:World} (hm:bs.length=m) (hr:Rd w (Ae e.kids) (.slice s e.kids.length c)) (hy:Rd w (Ae bs) (.slice s2 m c2)) (h1:e.size≤1000) (h2:Ex.sizeL bs≤1000):
  Calls Tryz.prog 10 #[.agg #[.int .i64 t,.int .i64 a],.agg #[.int .i64 e.kind,.int .i64 e.num,.slice s e.kids.length c],.slice s2 m c2] w fun f w'=>∃(x:Ex) (s':Option Addr) (c':Nat) (q:Int),f= .returned (.tuple #[.agg #[.int .i64 x.kind,.int .i64 x.num,.slice s' x.kids.length c'],.int .i64 q])∧
   (x=Bv t a e bs∧q=Ck t a e bs)∧Rd w' (Ae x.kids) (.slice s' x.kids.length c')∧Below w.heap.size w w':=by
 subst hm
 cases e with
 |mk k n ks=>
  have hs:=Ex.size_eq (.mk k n ks);simp only [Ex.kids] at hs;refine (J7 (k:=k) (n:=n) (ks:=ks) hr hy (by omega) (by omega)).mono ?_;rintro f w' ⟨s',c',h1,h2,h3⟩;exact ⟨_,s',c',_,h1,⟨rfl,rfl⟩,h2.rd1,h3⟩
theorem Ke (n:Nat):(Eb n).length=n:=by simp [Eb]
theorem Sz (n:Nat):Ex.cellsL (Eb (n+1))=Ex.cellsL (Eb n)++[.int 4,.int n,Ae []]:=by
 unfold Eb;rw [List.range_succ,List.map_append,Ex.cellsL_append]
 rfl
theorem Nm:∀n,Ex.sizeL (Eb n)=n
 |0=>rfl
 |n+1=>by
  have:=Nm n;unfold Eb at this ⊢;rw [List.range_succ,List.map_append,Ex.sizeL_append,this]
  rfl
theorem Qy {t a:Int} {e:Ex} (hs:Cj t a=true) (ht:e.tree (t - 1) (a - 1)=true) (hz:e.size≤40):okB t a e=true:=by
 have:=Ex.depth_le e;simp only [okB,hs,ht,Bool.true_and,Bool.and_true,Bool.and_eq_true,decide_eq_true_eq];omega
theorem Yf {t:Int} {n:Nat} {e:Ex} (hs:Cj t n=true) (ht:e.tree (t - 1) ((n:Int) - 1)=true) (hz:e.size≤40):Bv t n e (Eb n)=e∧Ck t n e (Eb n)=0:=by
 have h1:=Qy hs ht hz;have h2:=Xb (t - 1) ((n:Int) - 1) (n:=n) (by omega) _ e (Nat.le_refl _) ht
 have h3:Dk t n e (Eb n)=true:=by
  unfold Dk;rw [h1,Bool.true_and,List.all_eq_true];intro x hx;unfold Eb at hx;obtain ⟨i,hi,rfl⟩:=List.mem_map.1 hx;have hi':=List.mem_range.1 hi;refine Qy hs (Dh ?_) (by simp [Ex.size_eq,Ex.kids,Ex.sizeL]);exact Or.inr (Or.inr ⟨rfl,by omega,by omega⟩)
 unfold Bv Ck;rw [h2,h3,h1,Ke]
 simp
theorem Qu {t a:Int} {e x:Ex} {bs:List Ex} (hx:x=Bv t a e bs) (h:Ck t a e bs=0):x=e.put bs∧((e.put bs).size≤200∧e.tree (t - 1) (a - 1)=true):=by
 unfold Ck at h
 split at h
 ·rename_i h1
  split at h
  ·rename_i h2
   split at h
   ·rename_i h3
    unfold Bv at hx;rw [if_pos h1,if_pos h2,if_pos h3] at hx;simp only [Dk,Bool.and_eq_true] at h1;exact ⟨hx,Gq h3,Gt h1.1⟩
   omega
  omega
 omega
set_option maxRecDepth 100000 in
set_option maxHeartbeats 16000000 in
theorem S0 {xs ys:List Int} {s s':Option Addr} {c c':Nat} {w:World} (hr:Rd w (Eu xs) (.slice s xs.length c)) (hx:∀x∈xs,0≤x∧x≤255) (hr':Rd w (Eu ys) (.slice s' ys.length c')) (hx':∀x∈ys,0≤x∧x≤255):
  Calls Tryz.prog 3 #[.slice s xs.length c,.slice s' ys.length c'] w fun f w'=>f= .returned (.bool true)∧Below w.heap.size w w':=by
 obtain ⟨-, hl1,hl2, -⟩:=hr.sl_at;obtain ⟨-, hl3,hl4, -⟩:=hr'.sl_at;have HX:=hid hx;have HX':=hid hx';have HR:=hid hr;have HR':=hid hr';have HL:=hid (And.intro hl1 (And.intro hl2 (And.intro hl3 hl4)));clear hx hx' hr hr' hl1 hl2 hl3 hl4
 go_enter Tryz.func3,Tryz.ntmps3
 go_wp2_with fail;refine (W9 HL.out.1 HL.out.2.1 HL.out.2.2.1 HL.out.2.2.2).mono ?_;rintro z wq ⟨rfl,hwq⟩;subst hwq;obtain ⟨v,hv⟩:∃v,(decide (3000<xs.length)||decide (3000<ys.length))=v:=⟨_,rfl⟩;rw [hv];clear hv
 cases v
 rotate_left
 ·go_wp2_with fail;go_ret;exact ⟨rfl,Below.refl _ _⟩
 go_wp2_with fail;refine (Yz HR.out HX.out).mono ?_;rintro z wa ⟨t,a,e,f,s1,s2,c1,c2,rfl,he,hf,hsig,htr,z1,z2,hb⟩;obtain ⟨h0,h1,h2,h3⟩:=Db hsig;obtain ⟨n,rfl⟩:∃n:Nat,a=(n:Int):=⟨a.toNat,by omega⟩;have Hsig:=hid hsig;have HTR:=hid htr;have HE:=hid (((Ca.rd he).and (Ca.rd hf)).and (Ca.rd (HR'.out.below hb)));have HB0:=hid hb;have hza:=hb.size;clear he hf hb hsig htr;go_wp2_with fail;obtain ⟨w2,e2,B5,hb2,hz2⟩:=Dl wa 25 (.int .i64 t) (.int .i64 n);rw [e2];obtain ⟨w3,e3,B6,hb3,hz3⟩:=A7 w2 28 (.int .i64 e.kind) (.int .i64 e.num) (.slice s1 e.kids.length c1);rw [e3];obtain ⟨wb,e4,B7,hb4,hz4⟩:=A7 w3 28 (.int .i64 f.kind) (.int .i64 f.num) (.slice s2 f.kids.length c2);rw [e4];rw [hz2] at B6;rw [hz3,hz2] at B7;have hbB2:=hb2.trans ((hb3.mono (by omega)).trans (hb4.mono (by omega)));replace B5:=B5.below (hb3.trans (hb4.mono (by omega)));replace B6:=B6.below hb4;have HB1:=hid (HB0.out.trans (hbB2.mono hza));have HF:=hid ((((HE.out.on hbB2).and (Ca.blk B5)).and (Ca.blk B6)).and (Ca.blk B7))
 have hzb:wb.heap.size=wa.heap.size+1+1+1:=by omega
 clear e2 e3 e4 hb2 hb3 hb4 hz2 hz3 hz4 hbB2 B5 B6 B7 HE HB0;have E0:Blk (wb.alloc (.cells #[] 28)) wb.heap.size 28 []:=Blk.made _ _ #[];obtain ⟨wc,e5,hb5,hz5⟩:∃v,wb.alloc (.cells #[] 28)=v∧Below wb.heap.size wb v∧v.heap.size=wb.heap.size+1:=⟨_,rfl,Below.alloc (Below.refl _ _) (Nat.le_refl _) _,by simp⟩;rw [e5] at E0 ⊢;have E1:Blk (wc.alloc (.cells #[] 28)) wc.heap.size 28 []:=Blk.made _ _ #[];obtain ⟨wd,e6,hb6,hz6⟩:∃v,wc.alloc (.cells #[] 28)=v∧Below wc.heap.size wc v∧v.heap.size=wc.heap.size+1:=⟨_,rfl,Below.alloc (Below.refl _ _) (Nat.le_refl _) _,by simp⟩;rw [e6] at E1 ⊢
 have hBu:Bun wb.heap.size wd [.app 28 3 0 [] (.slice (some ⟨wa.heap.size+1+1+1,0,none⟩) 0 0),.app 28 3 0 [] (.slice (some ⟨wa.heap.size+1+1+1+1,0,none⟩) 0 0)]:=by
  rw [hzb] at E0;rw [hz5,hzb] at E1;have h:=(Bun.single (Al.empty (size:=3) (S:=fun b=>wb.heap.size≤b∧b<wc.heap.size) E0 ⟨by omega,by omega⟩)).push (it:= .app 28 3 0 [] (.slice (some ⟨wa.heap.size+1+1+1+1,0,none⟩) 0 0)) hb6 (Al.empty (size:=3) E1 ⟨by omega,by omega,by omega⟩);exact h
 have hbd:=hb5.trans (hb6.mono (by omega));clear e5 e6 E0 E1 hb5 hb6
 go_loopw [8,9,10] (fun v u i wr=>∃(k:Nat) (bs:List Ex),i= .int .i64 k∧k≤n∧Hid (bs.length=k∧Ex.sizeL bs≤11*k)∧Bun wb.heap.size wr [.app 28 3 k (Ex.cellsL (Eb k)) v,.app 28 3 k (Ex.cellsL bs) u]∧Below wb.heap.size wb wr) (fun _ _ i _=>n - (intOf i).toNat)
 case atStart=>exact ⟨0,[],rfl,by omega,⟨rfl,by simp [Ex.sizeL]⟩,hBu,hbd⟩
 case round=>
  clear hBu hbd;obtain ⟨k,bs,rfl,hk,hbs,hbun,hbe⟩:=hrel;obtain ⟨wo,rfl⟩:∃v,v=wr:=⟨_,rfl⟩;obtain ⟨p8,q8,rfl,k81,k82⟩:=hbun.shape 0 rfl;obtain ⟨p9,q9,rfl,k91,k92⟩:=hbun.shape 1 rfl;have hk0:=Int.natCast_nonneg k;have hzo:=hbe.size;obtain ⟨⟨⟨⟨⟨re,rf⟩,ry⟩,g5⟩,g6⟩,g7⟩:=HF.out.ok wo hbe;obtain ⟨g50,g51,l5⟩:=g5.all2
  by_cases hlt:(k:Int)<(n:Int)
  rotate_left
  ·obtain rfl:k=n:=by omega
   obtain ⟨m1,m2⟩:=hbs.out
   have hown:Rd wo (Ae (Eb k)) (.slice p8 k q8):=by
    have hf:=(hbun.fresh (W:=wb) (Nat.le_refl _) 0 rfl).rd;have hl:=Ke k
    simpa [Ae,hl] using hf
   have hby:Rd wo (Ae bs) (.slice p9 k q9):=by
    have hf:=(hbun.fresh (W:=wb) (Nat.le_refl _) 1 rfl).rd
    simpa [Ae,m1] using hf
   have HG:=hid ((((HF.out.on hbe).and (Ca.rd hown)).and (Ca.rd hby)));have HB2:=hid (HB1.out.trans (hbe.mono HB1.out.size));clear re rf ry g5 g6 g7 g50 g51 l5 hbun hbe hown hby HF HB1 k81 k82 k91 k92 hzo hzb hz5 hz6 hlt hk m2;obtain ⟨⟨⟨⟨⟨⟨⟨re,rf⟩,ry⟩,g5⟩,g6⟩,g7⟩,ro⟩,rb⟩:=HG.out.now;obtain ⟨g50,g51,l5⟩:=g5.all2;obtain ⟨g60,g61,g62, -, -, -, l6⟩:=g6.all3;obtain ⟨g70,g71,g72, -, -, -, l7⟩:=g7.all3;clear g5 g6 g7;go_wp2_with fail;clear g50 g51 l5 g60 g61 g62 l6 g70 g71 g72 l7;obtain ⟨w0,w1,w2,w3⟩:=Yf (t:=t) Hsig.out HTR.out z1 |>.elim (fun p q=>And.intro p (And.intro q (And.intro p q)));refine (Ep (Ke k) re ro (by omega) (by rw [Nm]; omega)).mono ?_;rintro z v1 ⟨x1,sx1,cx1,q1,rfl,⟨hx1,hq1⟩,hr1,hb⟩
   obtain rfl:e=x1:=by rw [hx1,w0]
   obtain rfl:q1=0:=by rw [hq1,w1]
   clear hx1 hq1 w0 w1 w2 w3;replace hr1:=Ca.rd hr1;replace HG:=hid (HG.out.on hb);replace HB2:=hid (HB2.out.trans (hb.mono HB2.out.size));clear re rf ry ro rb;obtain ⟨v2,eb,K,hbz,hzz⟩:=A7 v1 28 (.int .i64 e.kind) (.int .i64 e.num) (.slice sx1 e.kids.length cx1);clear hzz;replace HG:=hid (HG.out.on hbz);replace HB2:=hid (HB2.out.trans (hbz.mono HB2.out.size));obtain ⟨⟨⟨⟨⟨⟨⟨re,rf⟩,ry⟩,g5⟩,g6⟩,g7⟩,ro⟩,rb⟩:=HG.out.now;obtain ⟨g50,g51,l5⟩:=g5.all2;obtain ⟨g60,g61,g62, -, -, -, l6⟩:=g6.all3;obtain ⟨g70,g71,g72, -, -, -, l7⟩:=g7.all3;clear g5 g6 g7;obtain ⟨u0,u1,u2, -, -, -, lu⟩:=K.all3;have hrA:=(hr1.on hbz).now;clear hr1 K hb hbz;go_wp2_with fail;clear eb u0 u1 u2 lu;clear g50 g51 l5 g60 g61 g62 l6 g70 g71 g72 l7;refine (Oe hrA re).mono ?_;rintro z v3 ⟨rfl,hb⟩
   have heq:eqb (Ex.mk e.kind e.num e.kids) (Ex.mk e.kind e.num e.kids)=true:=by simp [Ff]
   rw [heq];replace HG:=hid (HG.out.on hb);replace HB2:=hid (HB2.out.trans (hb.mono HB2.out.size));clear hb hrA re rf ry ro rb heq;obtain ⟨⟨⟨⟨⟨⟨⟨re,rf⟩,ry⟩,g5⟩,g6⟩,g7⟩,ro⟩,rb⟩:=HG.out.now;obtain ⟨g50,g51,l5⟩:=g5.all2;obtain ⟨g60,g61,g62, -, -, -, l6⟩:=g6.all3;obtain ⟨g70,g71,g72, -, -, -, l7⟩:=g7.all3;clear g5 g6 g7;go_wp2_with fail;clear g50 g51 l5 g60 g61 g62 l6 g70 g71 g72 l7
   have hbz2:Ex.sizeL bs≤44:=by have:=hbs.out.2; omega
   refine (Ep m1 re rb (by omega) (by omega)).mono ?_;rintro z v4 ⟨x2,sx2,cx2,q2,rfl,h2',hr2,hb⟩;replace HG:=hid (HG.out.on hb);replace HB2:=hid (HB2.out.trans (hb.mono HB2.out.size));clear re rf ry ro rb;obtain ⟨v5,eb,K,hbz,hzz⟩:=A7 v4 28 (.int .i64 x2.kind) (.int .i64 x2.num) (.slice sx2 x2.kids.length cx2);clear hzz;replace HG:=hid (HG.out.on hbz);replace HB2:=hid (HB2.out.trans (hbz.mono HB2.out.size));obtain ⟨⟨⟨⟨⟨⟨⟨re,rf⟩,ry⟩,g5⟩,g6⟩,g7⟩,ro⟩,rb⟩:=HG.out.now;obtain ⟨g50,g51,l5⟩:=g5.all2;obtain ⟨g60,g61,g62, -, -, -, l6⟩:=g6.all3;obtain ⟨g70,g71,g72, -, -, -, l7⟩:=g7.all3;clear g5 g6 g7;have H2:=hid h2';have HP2:=hid (((Ca.rd hr2).on hbz).and (Ca.blk K));clear h2' hr2 K hb hbz;go_wp2_with fail;clear eb;clear g50 g51 l5 g60 g61 g62 l6 g70 g71 g72 l7;refine (Ep m1 rf rb (by omega) (by omega)).mono ?_;rintro z v6 ⟨x3,sx3,cx3,q3,rfl,h3',hr3,hb⟩;replace HG:=hid (HG.out.on hb);replace HB2:=hid (HB2.out.trans (hb.mono HB2.out.size));clear re rf ry ro rb;obtain ⟨v7,eb,K,hbz,hzz⟩:=A7 v6 28 (.int .i64 x3.kind) (.int .i64 x3.num) (.slice sx3 x3.kids.length cx3);clear hzz;replace HG:=hid (HG.out.on hbz);replace HB2:=hid (HB2.out.trans (hbz.mono HB2.out.size));obtain ⟨⟨⟨⟨⟨⟨⟨re,rf⟩,ry⟩,g5⟩,g6⟩,g7⟩,ro⟩,rb⟩:=HG.out.now;obtain ⟨g50,g51,l5⟩:=g5.all2;obtain ⟨g60,g61,g62, -, -, -, l6⟩:=g6.all3;obtain ⟨g70,g71,g72, -, -, -, l7⟩:=g7.all3;clear g5 g6 g7;have H3:=hid h3';have HP3:=hid (((Ca.rd hr3).on hbz).and (Ca.blk K));replace HP2:=hid ((HP2.out.on hb).on hbz);clear h3' hr3 K hb hbz;go_wp2_with fail;clear eb;clear g50 g51 l5 g60 g61 g62 l6 g70 g71 g72 l7;refine (Gk m1 re rb (by omega) (by omega)).mono ?_;rintro z v8 ⟨x4,sx4,cx4,q4,rfl,⟨-, hq4⟩, -, hb⟩
   obtain rfl:q2=q4:=by rw [H2.out.2,hq4]
   replace HG:=hid (HG.out.on hb);replace HB2:=hid (HB2.out.trans (hb.mono HB2.out.size));clear re rf ry ro rb;obtain ⟨v9,eb,K,hbz,hzz⟩:=A7 v8 28 (.int .i64 x4.kind) (.int .i64 x4.num) (.slice sx4 x4.kids.length cx4);clear hzz;replace HG:=hid (HG.out.on hbz);replace HB2:=hid (HB2.out.trans (hbz.mono HB2.out.size));obtain ⟨⟨⟨⟨⟨⟨⟨re,rf⟩,ry⟩,g5⟩,g6⟩,g7⟩,ro⟩,rb⟩:=HG.out.now;obtain ⟨g50,g51,l5⟩:=g5.all2;obtain ⟨g60,g61,g62, -, -, -, l6⟩:=g6.all3;obtain ⟨g70,g71,g72, -, -, -, l7⟩:=g7.all3;clear g5 g6 g7;replace HP2:=hid ((HP2.out.on hb).on hbz);replace HP3:=hid ((HP3.out.on hb).on hbz);clear hq4 K hb hbz;go_wp2_with fail;clear eb;clear g50 g51 l5 g60 g61 g62 l6 g70 g71 g72 l7;refine (Gk m1 rf rb (by omega) (by omega)).mono ?_;rintro z v10 ⟨x5,sx5,cx5,q5,rfl,⟨-, hq5⟩, -, hb⟩
   obtain rfl:q3=q5:=by rw [H3.out.2,hq5]
   replace HG:=hid (HG.out.on hb);replace HB2:=hid (HB2.out.trans (hb.mono HB2.out.size));clear re rf ry ro rb;obtain ⟨v11,eb,K,hbz,hzz⟩:=A7 v10 28 (.int .i64 x5.kind) (.int .i64 x5.num) (.slice sx5 x5.kids.length cx5);clear hzz;replace HG:=hid (HG.out.on hbz);replace HB2:=hid (HB2.out.trans (hbz.mono HB2.out.size));obtain ⟨⟨⟨⟨⟨⟨⟨re,rf⟩,ry⟩,g5⟩,g6⟩,g7⟩,ro⟩,rb⟩:=HG.out.now;obtain ⟨g50,g51,l5⟩:=g5.all2;obtain ⟨g60,g61,g62, -, -, -, l6⟩:=g6.all3;obtain ⟨g70,g71,g72, -, -, -, l7⟩:=g7.all3;clear g5 g6 g7;replace HP2:=hid ((HP2.out.on hb).on hbz);replace HP3:=hid ((HP3.out.on hb).on hbz);clear hq5 K hb hbz
   have n1:(q2 !=q2)=false:=by simp
   have n2:(q3 !=q3)=false:=by simp
   by_cases c2:q2=0
   rotate_left
   ·have b2:(q2 !=0)=true:=by simpa using c2
    clear c2;go_wp2_with fail;go_ret;exact ⟨rfl,HB2.out⟩
   subst c2
   by_cases c3:q3=0
   rotate_left
   ·have b3:(q3 !=0)=true:=by simpa using c3
    clear c3;go_wp2_with fail;go_ret;exact ⟨rfl,HB2.out⟩
   subst c3;obtain ⟨rfl,hx2⟩:=Qu H2.out.1 H2.out.2.symm;obtain ⟨rfl,hx3⟩:=Qu H3.out.1 H3.out.2.symm;go_wp2_with fail;clear eb;clear g50 g51 l5 g60 g61 g62 l6 g70 g71 g72 l7;obtain ⟨q,hq⟩:∃q,F0 t k e f=q:=⟨_,rfl⟩;have HQ:=hid hq;clear hq;refine (O3 re rf (by omega) (by omega)).mono ?_;rintro z v12 ⟨rfl,hb⟩;rw [HQ.out]
   have hqv:0≤q:=by
    rw [←HQ.out];unfold F0
    split
    ·split<;>omega
    omega
   replace HG:=hid (HG.out.on hb);replace HB2:=hid (HB2.out.trans (hb.mono HB2.out.size));replace HP2:=hid (HP2.out.on hb);replace HP3:=hid (HP3.out.on hb);clear hb re rf ry ro rb n1 n2
   by_cases cq:q=1
   rotate_left
   ·have b1:(q !=1)=true:=by simpa using cq
    have b2:decide (0≤q)=true:=by simpa using hqv
    clear cq hqv;go_wp2_with fail;go_ret;exact ⟨Av (by simp),HB2.out⟩
   subst cq;obtain ⟨⟨⟨⟨⟨⟨⟨re,rf⟩,ry⟩,g5⟩,g6⟩,g7⟩,ro⟩,rb⟩:=HG.out.now;obtain ⟨g50,g51,l5⟩:=g5.all2;obtain ⟨r2,K2⟩:=HP2.out.now;obtain ⟨r3,K3⟩:=HP3.out.now;obtain ⟨a0,a1,a2, -, -, -, la⟩:=K2.all3;obtain ⟨b0,b1,b2, -, -, -, lb⟩:=K3.all3
   have hnev:Mc t k (e.put bs) (f.put bs)=false:=by
    have h:=HQ.out;unfold F0 at h
    split at h
    ·rename_i hc
     split at h
     ·rename_i hy
      exact Wq HTR.out hx3.2 hc hy
     omega
    omega
   have HN:=hid hnev;clear hnev g5 g6 g7 K2 K3 ry ro rb re rf;go_wp2_with fail;clear g50 g51 l5 a0 a1 a2 la b0 b1 b2 lb;refine (Wy HN.out r2 r3 (by omega) (by omega)).mono ?_;rintro z v13 ⟨rfl,hb⟩;go_wp2_with fail;go_ret;exact ⟨Av (by simp),HB2.out.trans (hb.mono HB2.out.size)⟩
  have HB1:=hid (hbun.push_own (Below.refl _ _) hzo (Nw (x:= .mk 4 (k:Int) []) (Dd (w:=wo) (w':=wo))));have hBl:=HB1.out.alloc (.cells #[.int .i64 4,.int .i64 k,.slice none 0 0] 28);have hNl:=Blk.new3 wo 28 (.int .i64 4) (.int .i64 k) (.slice none 0 0);clear re rf g5 g6 g7
  go_wp2_with (at_builtin; go_must (refine Do _ rfl _ _ 26 rfl 28 (.agg #[.int .i64 0,.int .i64 0,.slice none 0 0]) 3 40 Tryz.underlying26 Bb rfl (by decide) hBl (by simp; omega) 0 _ rfl rfl 2 (by decide) rfl ⟨wo.heap.size,0,none⟩ 1 1 rfl (Ax hNl) rfl (by simp [Value.oneCell']) (by omega) (by omega) (by unfold maxLen; omega) ?_); intro gg5 cap5 w4 hbun5 hb5; have hbe4:=(hbe.alloc hzo (.cells #[.int .i64 4,.int .i64 k,.slice none 0 0] 28)).trans hb5; obtain ⟨⟨⟨⟨⟨-, -⟩,ry⟩,g5⟩, -⟩, -⟩:=HF.out.ok w4 hbe4; obtain ⟨g50,g51,l5⟩:=g5.all2)
  have hA4:Bun wb.heap.size w4 [.app 28 3 (k+1) (Ex.cellsL (Eb (k+1))) (.slice (some ⟨gg5,0,none⟩) (k+1) cap5),.app 28 3 k (Ex.cellsL bs) (.slice p9 k q9)]:=by
   rw [Sz];exact hbun5.take 2
  have hz4:wb.heap.size≤w4.heap.size:=hbe4.size;clear hbun hbe hbun5 hb5 hBl hNl HB1 g50 g51 l5 g5 k81 k82;obtain ⟨w5,e5,X5,hbx,hzx⟩:=A7 w4 28 (.int .i64 4) (.int .i64 ((n:Int) - 1 - k)) (.slice none 0 0);rw [e5];have hA5:=hA4.push_one hz4 hbx (P:=fun w=>Blk w w4.heap.size 28 [.int .i64 4,.int .i64 ((n:Int) - 1 - k),.slice none 0 0]) (by omega) (fun w1 h=>X5.keep h);have hbe5:=hbe4.trans (hbx.mono hz4);have ry5:=ry.below hbx;clear e5 hbx X5 hA4 ry hbe4;refine (Ze ry5 HX'.out (by omega) (by omega) (by omega) (by omega)).mono ?_;rintro z wq ⟨rfl,hwq⟩;subst hwq;have hz5:wb.heap.size≤w5.heap.size:=hbe5.size
  by_cases hat:(k:Int)=atF ys 0 n
  ·have hbt:((k:Int)==atF ys 0 n)=true:=by simpa using hat
   clear hat;obtain ⟨⟨⟨⟨⟨-, -⟩, -⟩,g5⟩, -⟩, -⟩:=HF.out.ok w5 hbe5;obtain ⟨g50,g51,l5⟩:=g5.all2;clear g5;go_wp2_with fail;clear g50 g51 l5;refine (U9 ry5 HX'.out Hsig.out).mono ?_;rintro z w6 ⟨x,sx,cx,rfl,hfx, -, hxs,hb⟩;have hA6:=hA5.push_own hb hz5 (Nw hfx);have hbe6:=hbe5.trans (hb.mono hz5);have hz6:wb.heap.size≤w6.heap.size:=hbe6.size;have X6:=(hA6.one 2 rfl).1;obtain ⟨v0,v1,v2,y0,y1,y2,vl⟩:=X6.all3;obtain ⟨w7,e7,X7,hs7⟩:=Dy X6 (.int .i64 x.kind) (.int .i64 x.num) (.slice sx x.kids.length cx)
   have ho7:Dn [w4.heap.size] w6 w7:=by rw [←e7]; exact (((Dn.refl _ _).setCell (by simp) _).setCell (by simp) _).setCell (by simp) _
   have hA7:=hA6.turn_one 2 rfl ho7 (Q:=fun w=>Blk w w4.heap.size 28 [.int .i64 x.kind,.int .i64 x.num,.slice sx x.kids.length cx]) (fun w1 h=>X7.keep h);have hbe7:=hbe6.trans (ho7.below hz6 (fun b hb=>by simp at hb; omega));clear hA5 hA6 X6 X7 hb hfx hbe5 hbe6 ry5;obtain ⟨v0,v1,v2, -, -, -, vl⟩:=(hA7.one 2 rfl).1.all3;have hxz:x.size≤11:=(by omega);have hBl:=hA7.alloc (.cells #[.int .i64 x.kind,.int .i64 x.num,.slice sx x.kids.length cx] 28);have hNl:=Blk.new3 w7 28 (.int .i64 x.kind) (.int .i64 x.num) (.slice sx x.kids.length cx);have hzW:wb.heap.size≤w7.heap.size:=hbe7.size
   go_wp2_with (at_builtin; go_must (refine Do _ rfl _ _ 26 rfl 28 (.agg #[.int .i64 0,.int .i64 0,.slice none 0 0]) 3 40 Tryz.underlying26 Bb rfl (by decide) hBl (by simp; omega) 1 _ rfl rfl 3 (by decide) rfl ⟨w7.heap.size,0,none⟩ 1 1 rfl (Ax hNl) rfl (by simp [Value.oneCell']) (by omega) (by omega) (by unfold maxLen; omega) ?_); intro gg9 cap9 w9 hbun9 hb9)
   have Hfin:=hid (And.intro (hbun9.take 2) ((hbe7.alloc hzW (.cells #[.int .i64 x.kind,.int .i64 x.num,.slice sx x.kids.length cx] 28)).trans hb9));clear hbun9 hb9 hBl hNl v0 v1 v2 vl hA7;go_wp2_with fail
   go_roundw
   case rel=>
    obtain ⟨q1,q2⟩:=Hfin.out;obtain ⟨m1,m2⟩:=hbs.out;refine ⟨k+1,bs++[x],by go_num,by omega,⟨by simp [m1],by rw [Ex.sizeL_append]; simp only [Ex.sizeL]; omega⟩, ?_,q2⟩;rw [I6];exact q1
   case measure=>simp [intOf]; omega
  have hbt:((k:Int)==atF ys 0 n)=false:=by simpa using hat
  clear hat hzx;have hA7:=hA5.push_own (Below.refl _ _) hz5 (Nw (x:= .mk 4 ((n:Int) - 1 - k) []) (Dd (w:=w5) (w':=w5)));clear hA5 ry5;obtain ⟨v0,v1,v2, -, -, -, vl⟩:=(hA7.one 2 rfl).1.all3;have hxz:(Ex.mk 4 ((n:Int) - 1 - k) []).size≤11:=(by simp [Ex.size_eq,Ex.kids,Ex.sizeL]);have hBl:=hA7.alloc (.cells #[.int .i64 4,.int .i64 ((n:Int) - 1 - k),.slice none 0 0] 28);have hNl:=Blk.new3 w5 28 (.int .i64 4) (.int .i64 ((n:Int) - 1 - k)) (.slice none 0 0);have hzW:wb.heap.size≤w5.heap.size:=hbe5.size
  go_wp2_with (at_builtin; go_must (refine Do _ rfl _ _ 26 rfl 28 (.agg #[.int .i64 0,.int .i64 0,.slice none 0 0]) 3 40 Tryz.underlying26 Bb rfl (by decide) hBl (by simp; omega) 1 _ rfl rfl 3 (by decide) rfl ⟨w5.heap.size,0,none⟩ 1 1 rfl (Ax hNl) rfl (by simp [Value.oneCell']) (by omega) (by omega) (by unfold maxLen; omega) ?_); intro gg9 cap9 w9 hbun9 hb9)
  have Hfin:=hid (And.intro (hbun9.take 2) ((hbe5.alloc hzW (.cells #[.int .i64 4,.int .i64 ((n:Int) - 1 - k),.slice none 0 0] 28)).trans hb9));clear hbun9 hb9 hBl hNl v0 v1 v2 vl hA7;go_wp2_with fail
  go_roundw
  case rel=>
   obtain ⟨q1,q2⟩:=Hfin.out;obtain ⟨m1,m2⟩:=hbs.out;refine ⟨k+1,bs++[(Ex.mk 4 ((n:Int) - 1 - k) [])],by go_num,by omega,⟨by simp [m1],by rw [Ex.sizeL_append]; simp only [Ex.sizeL]; omega⟩, ?_,q2⟩;rw [I6];exact q1
  case measure=>simp [intOf]; omega
set_option maxRecDepth 100000 in
theorem N7 {H:Type} {enc:TypeId × Value→H} (W:World) (args:Array Value) (ds:List (DataW H)) (ps:List MemPlace) (hA:DataW.TrodAll enc Tryz.prog W 0 (fun _=>true) true Tryz.f3.params.toList args.toList ds ps)
  (hval:∀(j:Nat) t v,Tryz.f3.params[j]? =some t→args[j]? =some v→∃base,Value.okWide Tryz.prog W .any base t v):
  Calls Tryz.prog 3 args W fun e W'=>e= .returned (.bool true)∧Below W.heap.size W W':=by
 rw [Tryz.params3] at hA hval;obtain ⟨v0,vs0,d0',ds0,p0,q0,hargs,rfl,rfl,h0,ra0⟩:=trodAll_cons hA;obtain ⟨v1,vs1,d1',ds1,p1,q1,rfl,rfl,rfl,h1,ra1⟩:=trodAll_cons ra0;obtain ⟨rfl,rfl,rfl⟩:=trodAll_nil ra1;obtain rfl:args= #[v0,v1]:=Array.toList_inj.1 hargs;obtain ⟨b0,hv0⟩:=hval 0 22 v0 rfl rfl;obtain ⟨b1,hv1⟩:=hval 1 22 v1 rfl rfl;obtain ⟨xs,s,c,rfl,hr,hx⟩:=Na hv0 h0;obtain ⟨ys,s',c',rfl,hr',hx'⟩:=Na hv1 h1;exact S0 hr hx hr' hx'
end Go.Proofs.YtlchgfbkdjjngaaGreatDoor
