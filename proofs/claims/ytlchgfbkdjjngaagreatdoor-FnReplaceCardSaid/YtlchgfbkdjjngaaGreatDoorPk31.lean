/-
  Parts of a proof, joined: StS, MadP. No condition.
-/
import Derived.Test.YtlchgfbkdjjngaaGreatDoorPk30
set_option linter.unusedVariables false
set_option linter.unusedSimpArgs false
namespace Go.Proofs.YtlchgfbkdjjngaaGreatDoor
open Go.ChangeShapes Go.WideShapes Go.ChangeAt Go.RowKit Go.Deep
theorem Al.made {S:Nat→Prop} {w:World} {t size m:Nat} {es:List D} {news:List Value} (h:OwS S w es news) (hS:∀b,S b→b<w.heap.size) (hl:news.length=m*size) (hm:m≤maxLen):
  Al (fun b=>S b∨b=w.heap.size) (w.alloc (.cells news.toArray t)) t size m es (.slice (some ⟨w.heap.size,0,none⟩) m m):=by
 obtain ⟨F,h1,h2,h3⟩:=h;have hb:=Blk.made w t news.toArray;refine ⟨news,F,⟨hl,Or.inr ⟨w.heap.size,m,news.toArray,rfl,Nat.zero_le _,by simpa [Blk] using hb,Nat.le_refl _,hm,by simp [hl], ?_⟩⟩,h1.keep fun b hm=>Below.heap_alloc w _ b (h1.lt b hm),h2,fun b hb'=>⟨Or.inl (h3 b hb'), ?_⟩,fun b hb'=> ?_⟩
 ·rw [←hl]; simp
 ·have:=hS b (h3 b hb');simp only [Value.ownBlock,ne_eq,Option.some.injEq];omega
 simp only [Value.ownBlock,Option.some.injEq] at hb';exact Or.inr hb'.symm
theorem Bun.single {B:Nat} {w:World} {t size n:Nat} {ds:List D} {v:Value} (h:Al (fun b=>B≤b∧b<w.heap.size) w t size n ds v):Bun B w [.app t size n ds v]:=by
 refine ⟨fun _=>0,fun i it hi=> ?_⟩
 match i,hi with
 |0,hi=>
  simp at hi;subst hi;exact Al.more h fun b _ hb=>⟨hb.1,hb.2,rfl⟩
 |i+1,hi=>simp at hi
theorem Yd {w1 w2:World} {x:Ex} {s:Option Addr} {c t:Nat} (hf:Ag w1 w2 [Ae x.kids] [.slice s x.kids.length c]) (hb:w1.heap.size≤w2.heap.size):
  Bun w1.heap.size (w2.alloc (.cells #[.int .i64 x.kind,.int .i64 x.num,.slice s x.kids.length c] t)) [.app t 3 1 (Ex.cellsL [x]) (.slice (some ⟨w2.heap.size,0,none⟩) 1 1)]:=by
 obtain ⟨F,h1,h2,h3⟩:=hf.single
 have ho:OwS (fun b=>w1.heap.size≤b∧b<w2.heap.size) w2 (Ex.cellsL [x]) [.int .i64 x.kind,.int .i64 x.num,.slice s x.kids.length c]:=by
  refine ⟨F, ?_,h2,fun b hb=>⟨h3 b hb,h1.lt b hb⟩⟩;simp only [Ex.cellsL,List.append_nil];rw [Ex.cells_eq];exact Ows.three h1
 refine Bun.single (Al.more (Al.made (t:=t) (size:=3) (m:=1) ho (fun b h=>h.2) rfl (by unfold maxLen; omega)) fun b _ hc=> ?_)
 have hz:(w2.alloc (.cells #[.int .i64 x.kind,.int .i64 x.num,.slice s x.kids.length c] t)).heap.size=w2.heap.size+1:=by simp
 rcases hc with hc|hc<;>omega
theorem Nw {w1 w2:World} {x:Ex} {s:Option Addr} {c:Nat} (hf:Ag w1 w2 [Ae x.kids] [.slice s x.kids.length c]):Ag w1 w2 [.int x.kind,.int x.num,Ae x.kids] [.int .i64 x.kind,.int .i64 x.num,.slice s x.kids.length c]:=by
 obtain ⟨F,h1,h2,h3⟩:=hf.single;exact ⟨F,Ows.three h1,h2,h3⟩
theorem I6 (L:List Ex) (x:Ex):Ex.cellsL (L++[x])=Ex.cellsL L++[.int x.kind,.int x.num,Ae x.kids]:=by
 rw [Ex.cellsL_append,←Ex.cells_eq]
 simp [Ex.cellsL]
theorem El {w:World} {v:Int}:OwS (fun _=>False) w [D.int v] [.int .i64 v]:=⟨[],Ows.cons (F:=[]) (by simp [Ow]) Ows.nil,by simp,by simp⟩
theorem Ua {m k:Nat} {x d:Ex} (h:x.step m k=some d):x.step m k≠none:=by rw [h]; simp
theorem Vi {w w':World} (a b:Addr):Ag w w' [Ae [],Ek []] [.slice (some a) 0 0,.slice (some b) 0 0]:=by
 refine ⟨[],Ows.cons (F:=[]) (G:=[]) ?_ (Ows.cons (F:=[]) (G:=[]) ?_ Ows.nil),by simp,by simp⟩
 ·simp only [Ae,Ow];exact ⟨_,0,rfl,by simp,by simp [maxLen],by simp [Ex.cellsL],by simp,Or.inl (by simp)⟩
 simp only [Ek,Da,Ow];exact ⟨_,0,rfl,by simp,by simp [maxLen],by simp,by simp,Or.inl (by simp)⟩
set_option maxRecDepth 100000 in
set_option maxHeartbeats 16000000 in
theorem Sy {t:Int} {n:Nat} {e:Ex} {b o:Nat} {w:World} (ht0:0≤t) (ht3:t≤3) (hn:n≤4) (hx:Ap w b o e) (htr:e.tree (t - 1) ((n:Int) - 1)=true) (hs:e.size≤200):
  Calls Tryz.prog 69 #[.agg #[.int .i64 t,.int .i64 n],.pointer (some ⟨b,o,none⟩)] w fun f w'=>∃s c s' c',f= .returned (.tuple #[.slice s (C8 (Ah t).toNat n e).length c,.slice s' (Cu (Ah t).toNat n e).length c',.int .i64 (Ef (Ah t).toNat n e)])∧
   Ag w w' [Ae (C8 (Ah t).toNat n e),Ek (Cu (Ah t).toNat n e)] [.slice s (C8 (Ah t).toNat n e).length c,.slice s' (Cu (Ah t).toNat n e).length c']∧Below w.heap.size w w':=by
 obtain ⟨hat1,hat8⟩:=Ec t;obtain ⟨A,hA⟩:∃A:Nat,Ah t=(A:Int):=⟨(Ah t).toNat,by omega⟩
 have hA8:A≤8:=by omega
 rw [show (Ah t).toNat=A by omega];have HA:=hid hA;clear hA hat1 hat8;obtain ⟨F,hF⟩:∃F,F=stL A n e 60:=⟨_,rfl⟩;have HF:=hid hF;have Htr:=hid htr;clear hF htr
 go_enter Tryz.func69,Tryz.ntmps69
 go_wp2_with fail;obtain ⟨w1,e1,G,hb1,hz1⟩:=Dl w 25 (.int .i64 t) (.int .i64 (n:Int));rw [e1];clear e1;refine (E3 (t - 1) ((n:Int) - 1) (by omega) (by omega) _ e b o w1 (Nat.le_refl _) (hx.below hb1) Htr.out (by omega)).mono ?_;rintro f w2 ⟨s2,c2,rfl,hf2,hb2⟩;have hz2:=hb2.size;have hB1:=Yd (t:=28) hf2 hz2;have hbe3:Below w1.heap.size w1 (w2.alloc (.cells #[.int .i64 e.tidy.kind,.int .i64 e.tidy.num,.slice s2 e.tidy.kids.length c2] 28)):=hb2.alloc hz2 _;go_wp2_with fail;obtain ⟨w3,e3, -, -, hz3⟩:=A7 w2 28 (.int .i64 e.tidy.kind) (.int .i64 e.tidy.num) (.slice s2 e.tidy.kids.length c2);rw [e3] at hB1 hbe3 ⊢;have hB2:=hB1.push_empty (hbe3.size) 122 1;have hbe4:=hbe3.alloc hbe3.size (.cells #[] 122);rw [hz3] at hB2;clear e3 hB1 hbe3 hf2 hb2
 go_loopw [7,8,9] (fun v0 v1 i wr=>∃k:Nat,i= .int .i64 k∧k≤60∧Hid (Gi A n e k)∧(stL A n e k).length≤60∧k≤(stL A n e k).length∧
  Bun w1.heap.size wr [.app 28 3 (stL A n e k).length (Ex.cellsL (stL A n e k)) v0,.app 122 1 k ((stR A n e k).map iiD) v1]∧Below w1.heap.size w1 wr) (fun _ _ i _=>61 - (intOf i).toNat)
 case atStart=>exact ⟨0,rfl,by omega,Gi.zero,by simp [stL,Bg],by simp,by simpa [stL,Bg,stR] using hB2,hbe4⟩
 case round=>
  clear hB2;obtain ⟨k,rfl,hk60,HG,hlen,hkl,hbun,hbe⟩:=hrel;obtain ⟨wo,rfl⟩:∃v,v=wr:=⟨_,rfl⟩;obtain ⟨L,hL⟩:∃L,stL A n e k=L:=⟨_,rfl⟩;rw [hL] at hbun hlen hkl;obtain ⟨a0,c0,rfl,hc1,hc2⟩:=hbun.shape 0 rfl;obtain ⟨a1,c1,rfl,hd1,hd2⟩:=hbun.shape 1 rfl;unfold maxLen at hc2 hd2;have HL:=hid hL;have HB:=hid hbun;have HBe:=hid hbe;have hk0:=Int.natCast_nonneg k;have hzo:=hbe.size;clear hL hbun hbe
  by_cases hlt:k<L.length
  rotate_left
  ·have hdone:(stL A n e k).length≤k:=by rw [HL.out]; omega
   obtain ⟨q1,q2,q3⟩:=Dm (Po hdone hk60 HG.out)
   have q4:Hid (C8 A n e=L):=by show _=_; rw [q1,Fy hdone hk60,HL.out]
   have q5:Hid (Cu A n e=stR A n e k):=by show _=_; rw [q2,Rl hdone hk60]
   have hRl:Hid ((stR A n e k).length=k):=by
    show _=_
    unfold stR;rw [List.length_map,List.length_take,Fy hdone hk60,HL.out];omega
   have Hf:=hid (HB.out.fresh2 (W:=w) (by omega) 0 1 (by decide) rfl rfl);have Q3:=hid q3;clear hdone q1 q2 q3;go_wp2_with fail
   go_ret3
   refine ⟨a0,c0,a1,c1,by rw [q4.out,q5.out,hRl.out,Q3.out]; rfl, ?_,hb1.trans (HBe.out.mono (by omega))⟩;rw [q4.out,q5.out]
   show Ag w _ [.sl 3 L.length (Ex.cellsL L),.sl 1 (stR A n e k).length ((stR A n e k).map iiD)] _
   rw [hRl.out];exact Hf.out
  obtain ⟨x,hx'⟩:∃x,L[k]? =some x:=⟨_,List.getElem?_eq_getElem hlt⟩
  have HX:Hid ((stL A n e k)[k]? =some x):=by show _=_; rw [HL.out]; exact hx'
  clear hx'
  have hk6:k<60:=by omega
  have Hlen:Hid (L.length=(stC A n e k x 0 0).length):=by show _=_; rw [Jt,HL.out]
  go_wp2_with fail;have hB3:=HB.out.push_empty hzo 79 1;have hbe5:=HBe.out.alloc hzo (.cells #[] 79)
  go_loopw [7,10,11] (fun v0 v2 i wr=>∃m:Nat,i= .int .i64 m∧m≤A∧Hid (Dg n x m 0)∧
   Bun w1.heap.size wr [.app 28 3 (stC A n e k x m 0).length (Ex.cellsL (stC A n e k x m 0)) v0,.app 122 1 k ((stR A n e k).map iiD) (.slice a1 k c1),.app 79 1 m (((C5 F A n x).take m).map Cm) v2]∧Below w1.heap.size w1 wr) (fun _ _ i _=>A - (intOf i).toNat)
  case atStart=>exact ⟨0,rfl,by omega,Dg.zero,by rw [←Hlen.out,Jt,HL.out]; simpa using hB3,hbe5⟩
  case round=>
   clear hB3 hbe5;obtain ⟨m,rfl,hmA,HG0,hbun,hbe⟩:=hrel;obtain ⟨wm,rfl⟩:∃v,v=wr:=⟨_,rfl⟩;obtain ⟨a3,c3,rfl,hc3,hc4⟩:=hbun.shape 0 rfl;obtain ⟨a4,c4,rfl,hd3,hd4⟩:=hbun.shape 2 rfl;unfold maxLen at hc4 hd4;have HB4:=hid hbun;have HBe4:=hid hbe;have hm0:=Int.natCast_nonneg m;have hzm:=hbe.size;have Gm:=G.below hbe;obtain ⟨g0,g1,ltG⟩:=Gm.all2;have hbound:=Tm (A:=A) (a:=n) (e:=e) (i:=k) (x:=x) (m:=m) (k:=0) hA8 hn;rw [HL.out] at hbound;clear hbun hbe Gm;go_wp2_with fail;clear g0 g1 ltG;refine (H8 ht0 ht3).mono ?_;rintro f w5 ⟨rfl,hb5⟩;rw [HA.out];have HB5:=hid (HB4.out.below hb5);have HBe5:=hid (HBe4.out.trans (hb5.mono hzm));have hz5:=hb5.size
   by_cases hmlt:m<A
   rotate_left
   ·obtain rfl:A=m:=by omega
    have Heq:Hid ((stR A n e (k+1)).map iiD=(stR A n e k).map iiD++[D.sl 1 A (((C5 F A n x).take A).map Cm)]):=by
     show _=_
     rw [Ro HX.out hk6,List.map_append,HF.out,List.take_of_length_le (by rw [Fc]; omega)]
     show _++[Da Cm _]=_
     unfold Da;rw [Fc]
    have HEL:Hid (stL A n e (k+1)=stC A n e k x A 0):=by show _=_; rw [Tr HX.out]
    have HG2:Hid (Gi A n e (k+1)):=HG.out.succ HX.out HG0.out;have hlen2:=C7 (Jg (A:=A) (a:=n) (e:=e) (i:=k) (x:=x) (m:=A) (k:=0));rw [HL.out] at hlen2;obtain ⟨M,hM⟩:∃M,(stC A n e k x A 0).length=M:=⟨_,rfl⟩;have HM:=hid hM;rw [hM] at hbound hlen2 HB5 ⊢;clear hM;have hBu:=HB5.out.alloc (.cells #[.slice a4 A c4] 122);have hNb:=Blk.new1 w5 122 (.slice a4 A c4)
    by_cases h60:M≤60
    ·have c60:decide ((60:Int)<(M:Int))=false:=by simp; omega
     go_wp2_with (at_builtin; go_must (refine B1 _ rfl _ _ 71 rfl 122 24 Tryz.underlying71 Jn hBu (by simp; omega) 1 _ rfl rfl 2 (by decide) _ rfl ⟨w5.heap.size,0,none⟩ rfl (Ax hNb) (by omega) (by unfold maxLen; omega) ?_); intro g6 cap6 w6 hbun6 hb6)
     have Hfin:=hid (And.intro (hbun6.take 2) ((HBe5.out.alloc (by omega) (.cells #[.slice a4 A c4] 122)).trans hb6));clear hbun6 hb6 hBu hNb;go_wp2_with fail
     go_roundw
     case rel=>
      refine ⟨k+1,by go_num,by omega,HG2,by rw [HEL.out,HM.out]; omega,by rw [HEL.out,HM.out]; omega, ?_,Hfin.out.2⟩;have h:=Hfin.out.1;rw [Heq.out,HEL.out,HM.out];exact h
     case measure=>simp [intOf]; omega
    have c60:decide ((60:Int)<(M:Int))=true:=by simp; omega
    have HNO:=hid (Ul (A:=A) (a:=n) (e:=e) (i:=k+1) (by omega) (by rw [HEL.out,HM.out]; omega))
    go_wp2_with (at_builtin; go_must (refine B1 _ rfl _ _ 71 rfl 122 24 Tryz.underlying71 Jn hBu (by simp; omega) 1 _ rfl rfl 2 (by decide) _ rfl ⟨w5.heap.size,0,none⟩ rfl (Ax hNb) (by omega) (by unfold maxLen; omega) ?_); intro g6 cap6 w6 hbun6 hb6)
    have Hfin:=hid (((HBe5.out.alloc (by omega) (.cells #[.slice a4 A c4] 122)).trans hb6));clear hbun6 hb6 hBu hNb;obtain ⟨q1,q2,q3⟩:=Dr HNO.out;have HBQ:=hid (hb1.trans ((Hfin.out).mono (by omega)));go_wp2_with fail
    go_ret3
    refine ⟨_,_,_,_,by rw [q1,q2,q3]; rfl, ?_, ?_⟩
    ·rw [q1,q2];exact Vi _ _
    have hBQ:=HBQ.out;have hzQ:=hBQ.size
    (repeat' first|exact Below.refl _ _|assumption|apply Below.alloc|apply Below.drew|apply Below.setCell|omega|(simp; done)|(simp; omega))
   have hm1:(m:Int)<(A:Int):=by omega
   go_wp2_with fail;have hB6:=HB5.out.push_empty (by omega) 2 1;have hbe6:=HBe5.out.alloc (by omega) (.cells #[] 2);clear hb5
   go_loopw [7,12,13] (fun v0 v3 i wr=>∃q:Nat,i= .int .i64 q∧q≤n∧Hid (Dg n x m q)∧
    Bun w1.heap.size wr [.app 28 3 (stC A n e k x m q).length (Ex.cellsL (stC A n e k x m q)) v0,.app 122 1 k ((stR A n e k).map iiD) (.slice a1 k c1),.app 79 1 m (((C5 F A n x).take m).map Cm) (.slice a4 m c4),.app 2 1 q (((Co F n m x).take q).map D.int) v3]∧Below w1.heap.size w1 wr) (fun _ _ i _=>n - (intOf i).toNat)
   case atStart=>exact ⟨0,rfl,by omega,HG0,by simpa using hB6,hbe6⟩
   case round=>
    clear hB6 hbe6;obtain ⟨q,rfl,hqn,HG1,hbun,hbe⟩:=hrel;obtain ⟨wq,rfl⟩:∃v,v=wr:=⟨_,rfl⟩;obtain ⟨Lc,hLc⟩:∃Lc,stC A n e k x m q=Lc:=⟨_,rfl⟩;have hbound:=Tm (A:=A) (a:=n) (e:=e) (i:=k) (x:=x) (m:=m) (k:=q) hA8 hn;have hat:=V9 (m:=m) (k:=q) HX.out;have hlen2:=C7 (Jg (A:=A) (a:=n) (e:=e) (i:=k) (x:=x) (m:=m) (k:=q));have hnd:=Pc (A:=A) (a:=n) (e:=e) (i:=k) (x:=x) (m:=m) (k:=q);rw [hLc] at hbun hbound hat hlen2 hnd;rw [HL.out] at hbound hlen2;obtain ⟨a5,c5,rfl,hc5,hc6⟩:=hbun.shape 0 rfl;obtain ⟨a6,c6,rfl,hd5,hd6⟩:=hbun.shape 3 rfl;unfold maxLen at hc6 hd6;have HLc:=hid hLc;have HB6:=hid hbun;have HBe6:=hid hbe;have Hat:=hid hat;have Hnd:=hid hnd;have hq0:=Int.natCast_nonneg q;have hzq:=hbe.size;obtain ⟨g0,g1,ltG⟩:=(G.below hbe).all2;clear hbun hbe hLc hat hnd
    by_cases hqlt:q<n
    rotate_left
    ·obtain rfl:n=q:=by omega
     have Heq:Hid (((C5 F A n x).take (m+1)).map Cm=((C5 F A n x).take m).map Cm++[D.sl 1 n (((Co F n m x).take n).map D.int)]):=by
      show _=_
      rw [Nl hmlt,List.map_append,List.take_of_length_le (l:=Co F n m x) (by rw [Fv]; omega)]
      show _++[D.sl 1 (Co F n m x).length _]=_
      rw [Fv]
     have HEL:Hid (stC A n e k x (m+1) 0=Lc):=by show _=_; rw [←Q6,HLc.out]
     have HG2:Hid (Dg n x (m+1) 0):=HG1.out.line;have hBu:=HB6.out.alloc (.cells #[.slice a6 n c6] 79);have hNb:=Blk.new1 wq 79 (.slice a6 n c6)
     go_wp2_with (at_builtin; go_must (refine B1 _ rfl _ _ 122 rfl 79 24 Tryz.underlying122 Pn hBu (by simp; omega) 2 _ rfl rfl 3 (by decide) _ rfl ⟨wq.heap.size,0,none⟩ rfl (Ax hNb) (by omega) (by unfold maxLen; omega) ?_); intro g6 cap6 w6 hbun6 hb6)
     have Hfin:=hid (And.intro (hbun6.take 3) ((HBe6.out.alloc hzq (.cells #[.slice a6 n c6] 79)).trans hb6));clear hbun6 hb6 hBu hNb;go_wp2_with fail
     go_roundw
     case rel=>
      refine ⟨m+1,by go_num,by omega,HG2, ?_,Hfin.out.2⟩;have h:=Hfin.out.1;rw [Heq.out,HEL.out];exact h
     case measure=>simp [intOf]; omega
    have hrd:Rd wq (Ae Lc) (.slice a5 Lc.length c5):=HB6.out.rd 0 rfl;obtain ⟨kb,ko,rfl⟩:=An hrd (fun h=>by have h0:Lc.length=0:=congrArg List.length h; omega);obtain ⟨hkb,sx,cx,i0,i1,i2,hxr⟩:=A3 hrd Hat.out
    have hk1:(k:Int)<(Lc.length:Int):=by omega
    have hq1:(q:Int)<(n:Int):=by omega
    clear hrd;go_wp2_with fail;clear g0 g1 ltG i0 i1 i2;obtain ⟨w6,e6,N1,hb6,hz6⟩:=A7 wq 28 (.int .i64 x.kind) (.int .i64 x.num) (.slice sx x.kids.length cx);rw [e6];have HB7:=hid (HB6.out.below hb6);have HBe7:=hid (HBe6.out.trans (hb6.mono hzq));have hxat:Ap w6 wq.heap.size 0 x:=⟨N1.c0,N1.c1,sx,cx,N1.c2,hxr.below hb6⟩;obtain ⟨hxt,hxs⟩:=Gu Htr.out hs k x (List.mem_of_getElem? HX.out);clear e6 hb6 N1 hxr
    cases ho:x.step m q with
    |none=>
     have HNO:=hid (Ry HX.out hk6 hmlt hqlt ho);have Ho:=hid ho;clear ho;refine (Uv (by omega) (by omega) (by omega) (by omega) hxat hxt (by omega) Ho).mono ?_;rintro f w7 ⟨y,s7,c7,rfl,hb7⟩;have hz7:=hb7.size;obtain ⟨q1,q2,q3⟩:=Dr HNO.out;have HBQ:=hid (hb1.trans ((HBe7.out.trans (hb7.mono (by omega))).mono (by omega)));go_wp2_with fail
     go_ret3
     refine ⟨_,_,_,_,by rw [q1,q2,q3]; rfl, ?_, ?_⟩
     ·rw [q1,q2];exact Vi _ _
     have hBQ:=HBQ.out;have hzQ:=hBQ.size
     (repeat' first|exact Below.refl _ _|assumption|apply Below.alloc|apply Below.drew|apply Below.setCell|omega|(simp; done)|(simp; omega))
    |some d=>
     have HG2:=hid (HG1.out.cell (Ua ho));have Ho:=hid ho;clear ho;refine (T6 (by omega) (by omega) (by omega) (by omega) hxat hxt (by omega) Ho).mono ?_;rintro f w7 ⟨s7,c7,rfl,hf7,hb7⟩;have hz7:=hb7.size;have hfd:=Nw hf7;have HBe8:=hid (HBe7.out.trans (hb7.mono (by omega)))
     by_cases hd1:d.kind=1
     ·have c1:(d.kind !=1)=false:=by simp [hd1]
      have hde:=Ku Ho.out hd1
      have HEV:Hid (Dc F (Bo m q x)= -1):=by show _=_; exact Tq hde
      have HEL:Hid (stC A n e k x m (q+1)=Lc):=by show _=_; rw [Re hmlt hqlt hde,HLc.out]
      have HB8:=hid ((HB7.out.below hb7).alloc (.cells #[.int .i64 d.kind,.int .i64 d.num,.slice s7 d.kids.length c7] 28));have hBu:=HB8.out.alloc (.cells #[.int .i64 (-1)] 2);have hNb:=Blk.new1 (w7.alloc (.cells #[.int .i64 d.kind,.int .i64 d.num,.slice s7 d.kids.length c7] 28)) 2 (.int .i64 (-1));clear hde hfd hf7 hb7 hd1;simp at hNb
      go_wp2_with
       (at_builtin; go_must (refine Bf _ rfl _ _ 79 rfl 2 (.int .i64 0) 1 8 Tryz.underlying79 Df rfl (by decide) (hBu) (by simp<;>omega) 3 _ rfl rfl ⟨w7.heap.size+1,0,none⟩ 1 1 [.int .i64 (-1)] rfl (Ax hNb) El rfl (by simp [Value.oneCell']) (by omega) (by omega) (by unfold maxLen; omega) ?_); intro g6 cap6 w6 hbun6 hb6)
      have Hds:Hid (((Co F n m x).take (q+1)).map D.int=((Co F n m x).take q).map D.int++[D.int (-1)]):=by show _=_; rw [F7 hqlt,List.map_append,HEV.out]; rfl
      have Hfin:=hid (And.intro hbun6 ((((HBe8.out.alloc (by omega) (.cells #[.int .i64 d.kind,.int .i64 d.num,.slice s7 d.kids.length c7] 28)).alloc (by simp; omega) (.cells #[.int .i64 (-1)] 2))).trans hb6));clear hbun6 hb6;go_wp2_with fail
      go_roundw
      case rel=>
       refine ⟨q+1,by go_num,by omega,HG2, ?_,Hfin.out.2⟩;have h:=Hfin.out.1;rw [Hds.out,HEL.out];exact h
      case measure=>simp [intOf]; omega
     have c1:(d.kind !=1)=true:=by simp [hd1]
     have hdl:=Kt Ho.out hd1;have hwas:= @Vx A n e k x m q HX.out hk6 hmlt hqlt d hdl;have hnew:= @Vn A n e k x m q HX.out hk6 hmlt hqlt d hdl;have hLw:= @N4 A n e k x m q hmlt hqlt d hdl;have hLn:= @Nx A n e k x m q hmlt hqlt d hdl;rw [HLc.out,←HF.out] at hwas hnew;rw [HLc.out] at hLw hLn;have Hwas:=hid hwas;have Hnew:=hid hnew;have HLw:=hid hLw;have HLn:=hid hLn;have HB8:=hid (HB7.out.push_own hb7 (by omega) hfd);have hdr:=Rds.one hf7.rds;clear hdl hwas hnew hLw hLn hfd hf7 hb7 hd1;go_wp2_with fail;obtain ⟨w8,e8,N2,hb8,hz8⟩:=A7 w7 28 (.int .i64 d.kind) (.int .i64 d.num) (.slice s7 d.kids.length c7);rw [e8];have HB9:=hid (HB8.out.below hb8);have HBe9:=hid (HBe8.out.trans (hb8.mono (by omega)));have hda:Ap w8 w7.heap.size 0 d:=⟨N2.c0,N2.c1,s7,c7,N2.c2,hdr.below hb8⟩;have hrd:Rd w8 (Ae Lc) (.slice (some ⟨kb,ko,none⟩) Lc.length c5):=HB9.out.rd 0 rfl;clear e8 hb8 hdr;refine (Vy hrd hda Hnd.out).mono ?_;rintro f w9 ⟨rfl,hb9⟩;have HB10:=hid (HB9.out.below hb9);have HBe10:=hid (HBe9.out.trans (hb9.mono (by omega)));have hz9:=hb9.size;obtain ⟨f1,f2⟩:=W7 Lc d
     by_cases hin:d∈Lc
     ·have hge:=Wg hin
      have HEV:Hid (Dc F (Bo m q x)=C9 Lc d):=by show _=_; exact Hwas.out hin
      have HEL:Hid (stC A n e k x m (q+1)=Lc):=by show _=_; exact HLw.out hin
      have hBu:=(HB10.out.take 4).alloc (.cells #[.int .i64 (C9 Lc d)] 2);have hNb:=Blk.new1 w9 2 (.int .i64 (C9 Lc d));obtain ⟨Z,hZ⟩:∃Z,C9 Lc d=Z:=⟨_,rfl⟩;rw [hZ] at hge HEV f1 f2 hBu hNb ⊢;clear hZ hin N2 hda hrd hb9
      go_wp2_with
       (at_builtin; go_must (refine Bf _ rfl _ _ 79 rfl 2 (.int .i64 0) 1 8 Tryz.underlying79 Df rfl (by decide) (hBu) (by simp<;>omega) 3 _ rfl rfl ⟨w9.heap.size,0,none⟩ 1 1 [.int .i64 Z] rfl (Ax hNb) El rfl (by simp [Value.oneCell']) (by omega) (by omega) (by unfold maxLen; omega) ?_); intro g6 cap6 w6 hbun6 hb6)
      have Hds:Hid (((Co F n m x).take (q+1)).map D.int=((Co F n m x).take q).map D.int++[D.int Z]):=by show _=_; rw [F7 hqlt,List.map_append,HEV.out]; rfl
      have Hfin:=hid (And.intro hbun6 (((HBe10.out.alloc (by omega) (.cells #[.int .i64 Z] 2))).trans hb6));clear hbun6 hb6;go_wp2_with fail
      go_roundw
      case rel=>
       refine ⟨q+1,by go_num,by omega,HG2, ?_,Hfin.out.2⟩;have h:=Hfin.out.1;rw [Hds.out,HEL.out];exact h
      case measure=>simp [intOf]; omega
     have hfi:=Vo hin
     have HEV:Hid (Dc F (Bo m q x)=(Lc.length:Int)):=by show _=_; exact Hnew.out hin
     have HEL:Hid (stC A n e k x m (q+1)=Lc++[d]):=by show _=_; exact HLn.out hin
     have N3:=N2.below hb9;have n0:=N3.c0;have n1:=N3.c1;have n2:=N3.c2;have ltN:=N3.lt;have hBl:=HB10.out.alloc (.cells #[.int .i64 d.kind,.int .i64 d.num,.slice s7 d.kids.length c7] 28);have hNl:=Blk.new3 w9 28 (.int .i64 d.kind) (.int .i64 d.num) (.slice s7 d.kids.length c7);rw [hfi];clear hfi f1 f2 hin N2 N3 hda hrd hb9
     go_wp2_with (first
      |(at_builtin; (refine Do _ rfl _ _ 26 rfl 28 (.agg #[.int .i64 0,.int .i64 0,.slice none 0 0]) 3 40 Tryz.underlying26 Mv rfl (by decide) hBl (by simp; omega) 0 _ rfl rfl 4 (by decide) rfl ⟨w9.heap.size,0,none⟩ 1 1 rfl (Ax hNl) rfl (by simp [Value.oneCell']) (by omega) (by omega) (by unfold maxLen; omega) ?_); intro g5 cap5 w10 hbun5 hb10; have hz10:w9.heap.size+1≤w10.heap.size:=(by have q:=hb10.size; simpa using q); have hBu:=(hbun5.take 4).alloc (.cells #[.int .i64 (Lc.length:Int)] 2); have hNb:=Blk.new1 w10 2 (.int .i64 (Lc.length:Int)); have Hb10:=hid hb10; clear hbun5 hb10)
      |
       (at_builtin; go_must (refine Bf _ rfl _ _ 79 rfl 2 (.int .i64 0) 1 8 Tryz.underlying79 Df rfl (by decide) (hBu) (by simp<;>omega) 3 _ rfl rfl ⟨w10.heap.size,0,none⟩ 1 1 [.int .i64 (Lc.length:Int)] rfl (Ax hNb) El rfl (by simp [Value.oneCell']) (by omega) (by omega) (by unfold maxLen; omega) ?_); intro g6 cap6 w6 hbun6 hb6)
       )
     have Hds:Hid (((Co F n m x).take (q+1)).map D.int=((Co F n m x).take q).map D.int++[D.int (Lc.length:Int)]):=by show _=_; rw [F7 hqlt,List.map_append,HEV.out]; rfl
     have Hfin:=hid (And.intro hbun6 ((((((HBe10.out.alloc (by omega) (.cells #[.int .i64 d.kind,.int .i64 d.num,.slice s7 d.kids.length c7] 28)).trans Hb10.out).alloc (by omega) (.cells #[.int .i64 (Lc.length:Int)] 2)))).trans hb6));clear hbun6 hb6;go_wp2_with fail
     go_roundw
     case rel=>
      refine ⟨q+1,by go_num,by omega,HG2, ?_,Hfin.out.2⟩;have h:=Hfin.out.1;rw [Hds.out,HEL.out,I6,List.length_append];exact h
     case measure=>simp [intOf]; omega
noncomputable def Ed (A:Nat) (x:Ex):List Bool:=(List.range A).map fun m:Nat=>x.emp (m:Int)
theorem Gl (A:Nat) (x:Ex):(Ed A x).length=A:=by simp [Ed]
theorem Oz {A m:Nat} {x:Ex} (hm:m<A):(Ed A x).take (m+1)=(Ed A x).take m++[x.emp m]:=by
 have hl:m<(Ed A x).length:=by rw [Gl]; exact hm
 rw [List.take_succ_eq_append_getElem hl]
 simp [Ed]
noncomputable def Du (A a:Nat) (e:Ex):List (List Bool):=(C8 A a e).map (Ed A)
theorem F4 (A a:Nat) (e:Ex):(Du A a e).length=(C8 A a e).length:=by simp [Du]
theorem Oq {A a:Nat} {e:Ex} {k:Nat} {x:Ex} (h:(C8 A a e)[k]? =some x):(Du A a e).take (k+1)=(Du A a e).take k++[Ed A x]:=by
 obtain ⟨hl,hx⟩:=List.getElem?_eq_some_iff.1 h
 have hl':k<(Du A a e).length:=by rw [F4]; exact hl
 rw [List.take_succ_eq_append_getElem hl']
 simp [Du,hx]
theorem Mr {A a:Nat} {e:Ex}:(Cu A a e).length=(C8 A a e).length:=by
 by_cases h:Eh A a e
 ·rw [(Dm h).1,(Dm h).2.1]; simp [stN]
 rw [(Dr h).1,(Dr h).2.1]; rfl
theorem Dx (w:World) (t:TypeId) (a b c d:Value):∃w',w.alloc (.cells #[a,b,c,d] t)=w'∧Blk w' w.heap.size t [a,b,c,d]∧Below w.heap.size w w'∧w'.heap.size=w.heap.size+1:=
 ⟨_,rfl,Blk.new4 w t a b c d,Below.alloc (Below.refl _ _) (Nat.le_refl _) _,by simp⟩
theorem Blk.all4 {w:World} {g t:Nat} {a b c d:Value} (h:Blk w g t [a,b,c,d]):w.cell? ⟨g,0,none⟩=some a∧w.cell? ⟨g,1,none⟩=some b∧w.cell? ⟨g,2,none⟩=some c∧w.cell? ⟨g,3,none⟩=some d∧
  w.frozen? ⟨g,0,none⟩=false∧w.frozen? ⟨g,1,none⟩=false∧w.frozen? ⟨g,2,none⟩=false∧w.frozen? ⟨g,3,none⟩=false∧g<w.heap.size:=
 ⟨h.c0,h.c1,h.c2,h.c3,h.frozen 0,h.frozen 1,h.frozen 2,h.frozen 3,h.lt⟩
theorem Eg {w:World} {g t:Nat} {a b c d:Value} (h:Blk w g t [a,b,c,d]) (x y z u:Value):∃w',(((w.setCell ⟨g,0,none⟩ x).setCell ⟨g,1,none⟩ y).setCell ⟨g,2,none⟩ z).setCell ⟨g,3,none⟩ u=w'∧Blk w' g t [x,y,z,u]∧Aa (fun i=>i=g) w w':=
 ⟨_,rfl,(((h.set 0 x).set 1 y).set 2 z).set 3 u,Aa.set (Aa.set (Aa.set (Aa.set (Aa.refl w))))⟩
theorem OwS.two {S:Nat→Prop} {w:World} {d e:D} {u v:Value} (h:OwS S w [d,e] [u,v]):OwS S w [d] [u]∧OwS S w [e] [v]:=by
 obtain ⟨F,h1,h2,h3⟩:=h;obtain ⟨G,K,rfl,hx,hy⟩:=Tb h1;have hn:=List.nodup_append.1 h2;refine ⟨⟨G++[],Ows.cons hx Ows.nil,by simpa using hn.1,fun b hb=>h3 b (by simp at hb; simp [hb])⟩,⟨K++[],Ows.cons hy Ows.nil,by simpa using hn.2.1,fun b hb=>h3 b (by simp at hb; simp [hb])⟩⟩
theorem Bun.own {B:Nat} {w:World} {items:List A6} (h:Bun B w items) (k:Nat) {ds:List D} {vs:List Value} (hk:items[k]? =some (.own ds vs)):∃own:Nat→Nat,OwS (fun b=>B≤b∧b<w.heap.size∧own b=k) w ds vs:=by
 obtain ⟨own,h⟩:=h;exact ⟨own,h k _ hk⟩
theorem Bun.own_rds {B:Nat} {w:World} {items:List A6} (h:Bun B w items) (k:Nat) {ds:List D} {vs:List Value} (hk:items[k]? =some (.own ds vs)):Rds w ds vs:=by
 obtain ⟨own,h⟩:=h.own k hk;exact h.rds
theorem Bun.fresh_app_own {B:Nat} {W w:World} {items:List A6} (h:Bun B w items) (hB:W.heap.size≤B) (i k:Nat) (hne:i≠k) {t size n:Nat} {ds:List D} {v:Value} (hi:items[i]? =some (.app t size n ds v)) {d e:D} {u u':Value} (hk:items[k]? =some (.own [d,e] [u,u'])):
  Ag W w [.sl size n ds,e] [v,u']:=by
 obtain ⟨own,h⟩:=h;obtain ⟨F,f1,f2,f3⟩:=Al.foot (h i _ hi);have hk':OwS (fun b=>B≤b∧b<w.heap.size∧own b=k) w [d,e] [u,u']:=h k _ hk;obtain ⟨G,g1,g2,g3⟩:=hk'.two.2;refine ⟨F++G,Ows.cons f1 g1, ?_, ?_⟩
 ·rw [List.nodup_append];refine ⟨f2,g2,fun p hp q hq hpq=> ?_⟩;have h1:=(f3 p hp).2.2;have h2:=(g3 q hq).2.2;rw [hpq] at h1;omega
 intro b hb
 rcases List.mem_append.1 hb with hb|hb
 ·have:=(f3 b hb).1; omega
 have:=(g3 b hb).1; omega
end Go.Proofs.YtlchgfbkdjjngaaGreatDoor
