/-
  Parts of a proof, joined: MadS, MadI, AutU, CountF, LiveT, PrS. No condition.
-/
import Derived.Test.YtlchgfbkdjjngaaGreatDoorPk33
set_option linter.unusedVariables false
set_option linter.unusedSimpArgs false
namespace Go.Proofs.YtlchgfbkdjjngaaGreatDoor
open Go.ChangeShapes Go.WideShapes Go.ChangeAt Go.RowKit Go.Deep
theorem Ta:(Tryz.prog.info? 4).map (fun i=>(i.zero,i.size,i.bytes))=some (some (.bool false),1,1):=by kernel_rfl
theorem Qt:(Tryz.prog.info? 113).map (fun i=>(i.zero,i.size,i.bytes))=some (some (.slice none 0 0),1,24):=by kernel_rfl
theorem Pj {w:World} {v:Bool}:OwS (fun _=>False) w [D.bool v] [.bool v]:=⟨[],Ows.cons (F:=[]) (by simp [Ow]) Ows.nil,by simp,by simp⟩
theorem Vt {w w':World}:Ag w w' (Gc [] []) [.slice none 0 0,.slice none 0 0]:=by
 refine ⟨[],Ows.cons (F:=[]) (G:=[]) ?_ (Ows.cons (F:=[]) (G:=[]) ?_ Ows.nil),by simp,by simp⟩
 ·simp only [bbD,Da,Ow];exact ⟨_,0,rfl,by simp,by simp [maxLen],by simp,by simp,Or.inl (by simp)⟩
 simp only [Ek,Da,Ow];exact ⟨_,0,rfl,by simp,by simp [maxLen],by simp,by simp,Or.inl (by simp)⟩
set_option maxRecDepth 100000 in
set_option maxHeartbeats 8000000 in
theorem Va {t a:Int} {e:Ex} {b o:Nat} {w:World} (hok:okB t a e=true) (hx:Ap w b o e):
  Calls Tryz.prog 56 #[.agg #[.int .i64 t,.int .i64 a],.pointer (some ⟨b,o,none⟩)] w fun f w'=>∃s c s' c',f= .returned (.tuple #[.agg #[.int .i64 (Fm (Ah t).toNat a.toNat e t),.int .i64 (Fm (Ah t).toNat a.toNat e a),.slice s (Du (Ah t).toNat a.toNat e).length c,.slice s' (Cu (Ah t).toNat a.toNat e).length c'],.int .i64 (Ef (Ah t).toNat a.toNat e)])∧
   Ag w w' (Gc (Du (Ah t).toNat a.toNat e) (Cu (Ah t).toNat a.toNat e)) [.slice s (Du (Ah t).toNat a.toNat e).length c,.slice s' (Cu (Ah t).toNat a.toNat e).length c']∧Below w.heap.size w w':=by
 obtain ⟨ht0,ht3,ha0,ha4,hes,htr⟩:=Gp hok;obtain ⟨hat1,hat8⟩:=Ec t;have hst:=fun w hx=>Si (w:=w) (b:=b) (o:=o) hok hx;have hLs:=Pd hok;have hL60:=(Pm hok).1;obtain ⟨A,hA⟩:∃A,(Ah t).toNat=A:=⟨_,rfl⟩;obtain ⟨n,hn⟩:∃n,a.toNat=n:=⟨_,rfl⟩;rw [hA,hn] at hst hLs hL60 ⊢
 have HAI:Hid (Ah t=(A:Int)):=by show _=_; omega
 have hA8:A≤8:=by omega
 have hno:=Tw (A:=A) (a:=n) (e:=e);have hyes:=Oh (A:=A) (a:=n) (e:=e);have hpos:=Of A n e 60;have hyl:=Dm (A:=A) (a:=n) (e:=e);have hT1:Fm A n e t=if Ef A n e=0 then t else 0:=rfl;have hT2:Fm A n e a=if Ef A n e=0 then a else 0:=rfl;have hN:=Mr (A:=A) (a:=n) (e:=e);have hml:=F4 A n e;have htk:=fun k x (h:(C8 A n e)[k]? =some x)=>Oq (k:=k) h;generalize Fm A n e t=t1 at hT1 ⊢;generalize Fm A n e a=a1 at hT2 ⊢;generalize Du A n e=M at*;generalize Cu A n e=N at*;generalize C8 A n e=L at*;clear hA hn hat1 hat8 htr hes
 by_cases hc0:Ef A n e=0
 rotate_left
 ·obtain ⟨q1,q2,q3⟩:=hno hc0;rw [if_neg hc0] at hT1 hT2;rw [q1] at hst ⊢;rw [hT1,hT2];clear hT1 hT2;subst q2 q3;obtain rfl:M=[]:=List.eq_nil_of_length_eq_zero (by rw [hml]; rfl);clear hyes hno hpos hyl hN hml htk hc0
  go_enter Tryz.func56,Tryz.ntmps56
  go_wp2_with fail;obtain ⟨w1,e1,G,hb1,hz1⟩:=Dl w 25 (.int .i64 t) (.int .i64 a);rw [e1];clear e1;obtain ⟨w0,e0,R,hb2,hz2⟩:=Dx w1 73 (.int .i64 0) (.int .i64 0) (.slice none 0 0) (.slice none 0 0);rw [e0];clear e0;rw [hz1] at R;have hB0:Below w.heap.size w w0:=hb1.trans (hb2.mono (by omega));replace G:=G.below hb2;clear hb1 hb2
  have hz0:w0.heap.size=w.heap.size+2:=by omega
  clear hz1 hz2;refine (hst w0 (hx.below hB0)).mono ?_;rintro f w2 ⟨s2,c2,s3,c3,rfl,hf2,hb2⟩;have hz2:=hb2.size;clear hst;have hB:=hB0.trans (hb2.mono (by omega));replace R:=R.below hb2;clear hf2;obtain ⟨r0,r1,r2,r3,z0,z1,z2,z3,ltR⟩:=R.all4;go_wp2_with fail;obtain ⟨w5,e5,T2,hs5⟩:=Eg R (.int .i64 0) (.int .i64 0) (.slice none 0 0) (.slice none 0 0);rw [e5];clear e5 r0 r1 r2 r3 z0 z1 z2 z3 ltR;obtain ⟨t0,t1,t2,t3, -, -, -, -, -⟩:=T2.all4;have hzB5:=hB.size;have hB5:=hB.trans (hs5.below (B:=w.heap.size) (by omega) (fun y hy=>by omega));refine bodyPost_ret (v:= .tuple #[.agg #[.int .i64 0,.int .i64 0,.slice none 0 0,.slice none 0 0],.int .i64 3]) (by simp [results,Tryz.results56,go_sem,t0,t1,t2,t3]) rfl ?_;exact ⟨none,0,none,0,rfl,Vt,hB5⟩
 rw [if_pos hc0] at hT1 hT2
 have hLp:L≠[]:=by
  intro h;have h2:=(hyl (hyes hc0)).1;rw [h] at h2;rw [←h2] at hpos;simp at hpos
 rw [hc0] at hst ⊢;rw [hT1,hT2];clear hT1 hT2 t1 a1;have Htk:=hid htk;have HLs:=hid hLs;have Hml:=hid hml;have HLp:=hid hLp;clear hLp hc0 hno hyes hpos hyl hml htk hLs hN
 go_enter Tryz.func56,Tryz.ntmps56
 go_wp2_with fail;obtain ⟨w1,e1,G,hb1,hz1⟩:=Dl w 25 (.int .i64 t) (.int .i64 a);rw [e1];clear e1;obtain ⟨w0,e0,R,hb2,hz2⟩:=Dx w1 73 (.int .i64 0) (.int .i64 0) (.slice none 0 0) (.slice none 0 0);rw [e0];clear e0;rw [hz1] at R;have hB0:Below w.heap.size w w0:=hb1.trans (hb2.mono (by omega));replace G:=G.below hb2;clear hb1 hb2
 have hz0:w0.heap.size=w.heap.size+2:=by omega
 clear hz1 hz2;refine (hst w0 (hx.below hB0)).mono ?_;rintro f w2 ⟨s2,c2,s3,c3,rfl,hf2,hb2⟩;have hz2:=hb2.size;clear hst;obtain ⟨kb,ko,rfl⟩:=An hf2.rds.two.1 HLp.out;have hB1:Bun w0.heap.size w2 [.own [Ae L,Ek N] [.slice (some ⟨kb,ko,none⟩) L.length c2,.slice s3 N.length c3]]:=Bun.nil.push_own hb2 (Nat.le_refl _) hf2;clear hf2;have G2:=G.below hb2;obtain ⟨g0,g1,ltG⟩:=G2.all2;go_wp2_with fail;clear g0 g1 ltG G2;have hB2:=(hB1.push_box (by omega) 73 #[.int .i64 t,.int .i64 a,.slice none 0 0,.slice s3 N.length c3]).push_nil 113 1;obtain ⟨w3,e3, -, hb3,hz3⟩:=Dx w2 73 (.int .i64 t) (.int .i64 a) (.slice none 0 0) (.slice s3 N.length c3);rw [e3] at hB2 ⊢;have hbe3:=hb2.trans (hb3.mono (by omega));obtain ⟨g,hg⟩:∃g,w2.heap.size=g:=⟨_,rfl⟩;rw [hg] at hB2 ⊢;clear e3 hB1 hb3 hb2 hg
 go_loopw [10] (fun i wr=>∃(k:Nat) (va:Option Addr) (ca:Nat),i= .int .i64 k∧k≤L.length∧Bun w0.heap.size wr [.own [Ae L,Ek N] [.slice (some ⟨kb,ko,none⟩) L.length c2,.slice s3 N.length c3],.box g 73 [.int .i64 t,.int .i64 a,.slice va k ca,.slice s3 N.length c3],.app 113 1 k ((M.take k).map D6) (.slice va k ca)]∧Below w0.heap.size w0 wr) (fun i _=>L.length - (intOf i).toNat)
 case atStart=>exact ⟨0,none,0,rfl,by omega,by simpa using hB2,hbe3⟩
 case round=>
  clear hB2 hbe3;obtain ⟨k,va,ca,rfl,hk,hbun,hbe⟩:=hrel;obtain ⟨wo,rfl⟩:∃v,v=wr:=⟨_,rfl⟩;have hk0:=Int.natCast_nonneg k;have hzo:=hbe.size
  by_cases hlt:k<L.length
  rotate_left
  ·obtain rfl:k=L.length:=by omega
   obtain ⟨x0,x1,x2,x3, -, -, -, -, ltx⟩:=(hbun.box 1 rfl).1.all4;have hw0:w.heap.size≤w0.heap.size:=hB0.size;have hFr:=hbun.fresh_app_own (W:=w0) (Nat.le_refl _) 2 0 (by decide) rfl rfl
   have HF:Hid (Ag w0 wo (Gc M N) [.slice va M.length ca,.slice s3 N.length c3]):=by
    show Ag w0 wo [.sl 1 M.length (M.map D6),Ek N] _
    rw [List.take_of_length_le (by rw [Hml.out]; exact Nat.le_refl _)] at hFr;rw [Hml.out];exact hFr
   have hB:=hB0.trans (hbe.mono (by omega));replace R:=R.below hbe;clear hbun hFr;obtain ⟨r0,r1,r2,r3,z0,z1,z2,z3,ltR⟩:=R.all4;go_wp2_with fail;obtain ⟨w5,e5,T2,hs5⟩:=Eg R (.int .i64 t) (.int .i64 a) (.slice va L.length ca) (.slice s3 N.length c3);rw [e5];clear e5 r0 r1 r2 r3 z0 z1 z2 z3 ltR;obtain ⟨t0,t1,t2,t3, -, -, -, -, -⟩:=T2.all4;have hzB5:=hB.size;have hB5:=hB.trans (hs5.below (B:=w.heap.size) (by omega) (fun y hy=>by omega));refine bodyPost_ret (v:= .tuple #[.agg #[.int .i64 t,.int .i64 a,.slice va L.length ca,.slice s3 N.length c3],.int .i64 0]) (by simp [results,Tryz.results56,go_sem,t0,t1,t2,t3]) rfl ?_;refine ⟨va,ca,s3,c3,by rw [Hml.out],(HF.out.keep fun b hb1 hb2=>hs5.block b hb2 (fun hy=>by omega)).from hw0,hB5⟩
  obtain ⟨x,hx'⟩:∃x,L[k]? =some x:=⟨_,List.getElem?_eq_getElem hlt⟩;obtain ⟨hxt, -⟩:=HLs.out x (List.mem_of_getElem? hx');have Hxt:=hid hxt;have Hx:=hid hx';have HMk:=hid (Htk.out k x hx');have HB:=hid hbun;have HBe:=hid hbe
  have hkL:(k:Int)<(L.length:Int):=by omega
  clear hx' hbun hbe hxt;go_wp2_with fail;have hB3:=HB.out.push_empty hzo 4 1;have hbe5:=HBe.out.alloc hzo (.cells #[] 4)
  go_loopw [11,12] (fun v3 i wr=>∃m:Nat,i= .int .i64 m∧m≤A∧Bun w0.heap.size wr [.own [Ae L,Ek N] [.slice (some ⟨kb,ko,none⟩) L.length c2,.slice s3 N.length c3],.box g 73 [.int .i64 t,.int .i64 a,.slice va k ca,.slice s3 N.length c3],.app 113 1 k ((M.take k).map D6) (.slice va k ca),.app 4 1 m (((Ed A x).take m).map D.bool) v3]∧Below w0.heap.size w0 wr) (fun _ i _=>A - (intOf i).toNat)
  case atStart=>exact ⟨0,rfl,by omega,by simpa using hB3,hbe5⟩
  case round=>
   clear hB3 hbe5;obtain ⟨m,rfl,hmA,hbun,hbe⟩:=hrel;obtain ⟨wm,rfl⟩:∃v,v=wr:=⟨_,rfl⟩;obtain ⟨a3,c4,rfl,hc3,hc4⟩:=hbun.shape 3 rfl;obtain ⟨_,_,q9,hd3,hd4⟩:=hbun.shape 2 rfl;simp only [Value.slice.injEq,true_and] at q9;obtain ⟨rfl,rfl⟩:=q9;have hg0:=(hbun.box 1 rfl).2;unfold maxLen at hc4 hd4;have HB4:=hid hbun;have HBe4:=hid hbe;have hm0:=Int.natCast_nonneg m;have hzm:=hbe.size;have G4:=G.below hbe;obtain ⟨g0,g1,ltG⟩:=G4.all2;clear hbun hbe G4;go_wp2_with fail;clear g0 g1 ltG;refine (H8 ht0 ht3).mono ?_;rintro f w5 ⟨rfl,hb5⟩;rw [HAI.out];have HB5:=hid (HB4.out.below hb5);have HBe5:=hid (HBe4.out.trans (hb5.mono hzm));have hz5:=hb5.size;clear hb5
   by_cases hmlt:m<A
   rotate_left
   ·obtain rfl:A=m:=by omega
    have Heq:Hid ((M.take (k+1)).map D6=(M.take k).map D6++[D.sl 1 A (((Ed A x).take A).map D.bool)]):=by
     show _=_
     rw [HMk.out,List.map_append,List.take_of_length_le (l:=Ed A x) (by rw [Gl]; exact Nat.le_refl _)]
     show _++[Da D.bool _]=_
     unfold Da;rw [Gl]
    obtain ⟨x0,x1,x2,x3,z0,z1,z2,z3,ltx⟩:=(HB5.out.box 1 rfl).1.all4;have hBu:=HB5.out.alloc (.cells #[.slice a3 A c4] 113);have hNb:=Blk.new1 w5 113 (.slice a3 A c4)
    go_wp2_with (at_builtin; go_must (refine B1 _ rfl _ _ 70 rfl 113 24 Tryz.underlying70 Qt hBu (by simp; omega) 2 _ rfl rfl 3 (by decide) _ rfl ⟨w5.heap.size,0,none⟩ rfl (Ax hNb) (by omega) (by unfold maxLen; omega) ?_); intro g6 cap6 w6 hbun6 hb6; obtain ⟨y0,y1,y2,y3,f0,f1,f2,f3,lty⟩:=(hbun6.box 1 rfl).1.all4)
    have Hfin:=hid (And.intro ((hbun6.take 3).store 1 rfl 2 (.slice (some ⟨g6,0,none⟩) (k+1) cap6)) (Below.setCell (p:=⟨g,2,none⟩) ((HBe5.out.alloc (by omega) (.cells #[.slice a3 A c4] 113)).trans hb6) hg0 (.slice (some ⟨g6,0,none⟩) (k+1) cap6)));clear hbun6 hb6 hBu hNb x0 x1 x2 x3 z0 z1 z2 z3 ltx y0 y1 y2 y3;go_wp2_with fail
    go_roundw
    case rel=>
     refine ⟨k+1,some ⟨g6,0,none⟩,cap6,by go_num,by omega, ?_,Hfin.out.2⟩;have h:=Hfin.out.1;rw [Heq.out];exact h
    case measure=>simp [intOf]; omega
   have hm1:(m:Int)<(A:Int):=by omega
   have hrd:Rd w5 (Ae L) (.slice (some ⟨kb,ko,none⟩) L.length c2):=(HB5.out.own_rds 0 rfl).two.1;obtain ⟨hkb,sx,cx,i0,i1,i2,hxr⟩:=A3 hrd Hx.out;have hxa:Ap w5 kb (ko+k*3) x:=⟨i0,i1,sx,cx,i2,hxr⟩;obtain ⟨-, kl2,kl3, -⟩:=A0 hrd;unfold maxLen at kl3;clear hrd i0 i1 i2 hxr;go_wp2_with fail;refine (Kf (t - 1) (a - 1) (m:Int) (by omega) (by omega) (by omega) _ x _ _ w5 (Nat.le_refl _) hxa Hxt.out).mono ?_;rintro f w6 ⟨rfl,rfl⟩
   have Hds:Hid (((Ed A x).take (m+1)).map D.bool=((Ed A x).take m).map D.bool++[D.bool (x.emp m)]):=by show _=_; rw [Oz hmlt,List.map_append]; rfl
   obtain ⟨z,hz⟩:∃z,x.emp (m:Int)=z:=⟨_,rfl⟩;rw [hz] at Hds ⊢;have hBu:=HB5.out.alloc (.cells #[.bool z] 4);have hNb:=Blk.new1 w5 4 (.bool z);clear hz hxa
   go_wp2_with (at_builtin; go_must (refine Bf _ rfl _ _ 113 rfl 4 (.bool false) 1 1 Tryz.underlying113 Ta rfl (by decide) hBu (by simp<;>omega) 3 _ rfl rfl ⟨w5.heap.size,0,none⟩ 1 1 [.bool z] rfl (Ax hNb) Pj rfl (by simp [Value.oneCell']) (by omega) (by omega) (by unfold maxLen; omega) ?_); intro g6 cap6 w6 hbun6 hb6)
   have Hfin:=hid (And.intro hbun6 ((HBe5.out.alloc (by omega) (.cells #[.bool z] 4)).trans hb6));clear hbun6 hb6 hBu hNb;go_wp2_with fail
   go_roundw
   case rel=>
    refine ⟨m+1,by go_num,by omega, ?_,Hfin.out.2⟩;have h:=Hfin.out.1;rw [Hds.out];exact h
   case measure=>simp [intOf]; omega
theorem Ny {w0 w2 w':World} {d e:D} {u v:Value} (h:En w0 w2 e v) (k:En w2 w' d u) (hb:Below w2.heap.size w2 w') (hz:w0.heap.size≤w2.heap.size):Ag w0 w' [d,e] [u,v]:=by
 obtain ⟨F,h1,h2,h3⟩:=h;obtain ⟨G,k1,k2,k3⟩:=k;refine ⟨G++(F++[]),Ows.cons k1 (Ows.cons (h1.keep fun b hm=>hb.block b (h1.lt b hm)) Ows.nil), ?_, ?_⟩
 ·rw [List.append_nil,List.nodup_append];refine ⟨k2,h2,fun a ha b hb'=> ?_⟩;have:=h1.lt b hb';have:=k3 a ha;omega
 intro b hm;rw [List.append_nil] at hm
 rcases List.mem_append.1 hm with hm|hm
 ·have:=k3 b hm; omega
 exact h3 b hm
set_option maxRecDepth 100000 in
set_option maxHeartbeats 8000000 in
theorem Pz {t a:Int} {e:Ex} {s:Option Addr} {c:Nat} {w:World} (hok:okB t a e=true) (hr:Rd w (Ae e.kids) (.slice s e.kids.length c)):
  Calls Tryz.prog 60 #[.agg #[.int .i64 t,.int .i64 a],.agg #[.int .i64 e.kind,.int .i64 e.num,.slice s e.kids.length c]] w fun f w'=>∃s c s' c',f= .returned (.tuple #[.agg #[.int .i64 (Fm (Ah t).toNat a.toNat e t),.int .i64 (Fm (Ah t).toNat a.toNat e a),.slice s (Du (Ah t).toNat a.toNat e).length c,.slice s' (Cu (Ah t).toNat a.toNat e).length c'],.int .i64 (Ef (Ah t).toNat a.toNat e)])∧
   Ag w w' (Gc (Du (Ah t).toNat a.toNat e) (Cu (Ah t).toNat a.toNat e)) [.slice s (Du (Ah t).toNat a.toNat e).length c,.slice s' (Cu (Ah t).toNat a.toNat e).length c']∧Below w.heap.size w w':=by
 obtain ⟨ht0,ht3,ha0,ha4,hes,htr⟩:=Gp hok;obtain ⟨hat1,hat8⟩:=Ec t;have hst:=fun w hr=>Uk (w:=w) (s:=s) (c:=c) hok hr;have hLs:=Pd hok;have hL60:=(Pm hok).1;obtain ⟨A,hA⟩:∃A,(Ah t).toNat=A:=⟨_,rfl⟩;obtain ⟨n,hn⟩:∃n,a.toNat=n:=⟨_,rfl⟩;rw [hA,hn] at hst hLs hL60 ⊢
 have HAI:Hid (Ah t=(A:Int)):=by show _=_; omega
 have hA8:A≤8:=by omega
 have hno:=Tw (A:=A) (a:=n) (e:=e);have hyes:=Oh (A:=A) (a:=n) (e:=e);have hpos:=Of A n e 60;have hyl:=Dm (A:=A) (a:=n) (e:=e);have hT1:Fm A n e t=if Ef A n e=0 then t else 0:=rfl;have hT2:Fm A n e a=if Ef A n e=0 then a else 0:=rfl;have hN:=Mr (A:=A) (a:=n) (e:=e);have hml:=F4 A n e;have htk:=fun k x (h:(C8 A n e)[k]? =some x)=>Oq (k:=k) h;generalize Fm A n e t=t1 at hT1 ⊢;generalize Fm A n e a=a1 at hT2 ⊢;generalize Du A n e=M at*;generalize Cu A n e=N at*;generalize C8 A n e=L at*;clear hA hn hat1 hat8 htr hes
 by_cases hc0:Ef A n e=0
 rotate_left
 ·obtain ⟨q1,q2,q3⟩:=hno hc0;rw [if_neg hc0] at hT1 hT2;rw [q1] at hst ⊢;rw [hT1,hT2];clear hT1 hT2;subst q2 q3;obtain rfl:M=[]:=List.eq_nil_of_length_eq_zero (by rw [hml]; rfl);clear hyes hno hpos hyl hN hml htk hc0
  go_enter Tryz.func60,Tryz.ntmps60
  go_wp2_with fail;obtain ⟨w1,e1,G,hb1,hz1⟩:=Dl w 25 (.int .i64 t) (.int .i64 a);rw [e1];clear e1;obtain ⟨w1',e1',E,hb1',hz1'⟩:=A7 w1 28 (.int .i64 e.kind) (.int .i64 e.num) (.slice s e.kids.length c);rw [e1'];clear e1';obtain ⟨w0,e0,R,hb2,hz2⟩:=Dx w1' 73 (.int .i64 0) (.int .i64 0) (.slice none 0 0) (.slice none 0 0);rw [e0];clear e0;rw [show w1'.heap.size=w.heap.size+2 by omega] at R;have hB0:Below w.heap.size w w0:=(hb1.trans (hb1'.mono (by omega))).trans (hb2.mono (by omega));replace G:=(G.below hb1').below hb2;clear hb1 hb2 hb1' E
  have hz0:w0.heap.size=w.heap.size+3:=by omega
  clear hz1 hz2 hz1';refine (hst w0 (hr.below hB0)).mono ?_;rintro f w2 ⟨s2,c2,s3,c3,rfl,hrd,hf2,hb2⟩;have hz2:=hb2.size;clear hst;have hB:=hB0.trans (hb2.mono (by omega));replace R:=R.below hb2;clear hf2 hrd;obtain ⟨r0,r1,r2,r3,z0,z1,z2,z3,ltR⟩:=R.all4;go_wp2_with fail;obtain ⟨w5,e5,T2,hs5⟩:=Eg R (.int .i64 0) (.int .i64 0) (.slice none 0 0) (.slice none 0 0);rw [e5];clear e5 r0 r1 r2 r3 z0 z1 z2 z3 ltR;obtain ⟨t0,t1,t2,t3, -, -, -, -, -⟩:=T2.all4;have hzB5:=hB.size;have hB5:=hB.trans (hs5.below (B:=w.heap.size) (by omega) (fun y hy=>by omega));refine bodyPost_ret (v:= .tuple #[.agg #[.int .i64 0,.int .i64 0,.slice none 0 0,.slice none 0 0],.int .i64 3]) (by simp [results,Tryz.results60,go_sem,t0,t1,t2,t3]) rfl ?_;exact ⟨none,0,none,0,rfl,Vt,hB5⟩
 rw [if_pos hc0] at hT1 hT2
 have hLp:L≠[]:=by
  intro h;have h2:=(hyl (hyes hc0)).1;rw [h] at h2;rw [←h2] at hpos;simp at hpos
 rw [hc0] at hst ⊢;rw [hT1,hT2];clear hT1 hT2 t1 a1;have Htk:=hid htk;have HLs:=hid hLs;have Hml:=hid hml;have HLp:=hid hLp;clear hLp hc0 hno hyes hpos hyl hml htk hLs hN
 go_enter Tryz.func60,Tryz.ntmps60
 go_wp2_with fail;obtain ⟨w1,e1,G,hb1,hz1⟩:=Dl w 25 (.int .i64 t) (.int .i64 a);rw [e1];clear e1;obtain ⟨w1',e1',E,hb1',hz1'⟩:=A7 w1 28 (.int .i64 e.kind) (.int .i64 e.num) (.slice s e.kids.length c);rw [e1'];clear e1';obtain ⟨w0,e0,R,hb2,hz2⟩:=Dx w1' 73 (.int .i64 0) (.int .i64 0) (.slice none 0 0) (.slice none 0 0);rw [e0];clear e0;rw [show w1'.heap.size=w.heap.size+2 by omega] at R;have hB0:Below w.heap.size w w0:=(hb1.trans (hb1'.mono (by omega))).trans (hb2.mono (by omega));replace G:=(G.below hb1').below hb2;clear hb1 hb2 hb1' E
 have hz0:w0.heap.size=w.heap.size+3:=by omega
 clear hz1 hz2 hz1';refine (hst w0 (hr.below hB0)).mono ?_;rintro f w2 ⟨s2,c2,s3,c3,rfl,hrd,hf2,hb2⟩;have hz2:=hb2.size;clear hst;obtain ⟨kb,ko,rfl⟩:=An hrd HLp.out;have G2:=G.below hb2;have R2:=R.below hb2;obtain ⟨g0,g1,ltG⟩:=G2.all2;obtain ⟨-, kl2,kl3, -⟩:=A0 hrd;unfold maxLen at kl3;have Hrd:=hid hrd;have HFN:=hid hf2.single;have HB02:=hid (hB0.trans (hb2.mono (by omega)));clear hrd hf2 R G hB0;go_wp2_with fail;clear g0 g1 ltG;have hB2:=(((Bun.nil (B:=w2.heap.size) (w:=w2)).push_box (by omega) 73 #[.int .i64 t,.int .i64 a,.slice none 0 0,.slice s3 N.length c3])).push_nil 113 1;obtain ⟨w3,e3, -, hb3,hz3⟩:=Dx w2 73 (.int .i64 t) (.int .i64 a) (.slice none 0 0) (.slice s3 N.length c3);rw [e3] at hB2 ⊢;clear e3 hb2
 go_loopw [30] (fun i wr=>∃(k:Nat) (va:Option Addr) (ca:Nat),i= .int .i64 k∧k≤L.length∧Bun w2.heap.size wr [.box w2.heap.size 73 [.int .i64 t,.int .i64 a,.slice va k ca,.slice s3 N.length c3],.app 113 1 k ((M.take k).map D6) (.slice va k ca)]∧Below w2.heap.size w2 wr) (fun i _=>L.length - (intOf i).toNat)
 case atStart=>exact ⟨0,none,0,rfl,by omega,by simpa using hB2,hb3⟩
 case round=>
  clear hB2 hb3;obtain ⟨k,va,ca,rfl,hk,hbun,hbe⟩:=hrel;obtain ⟨wo,rfl⟩:∃v,v=wr:=⟨_,rfl⟩;have hk0:=Int.natCast_nonneg k;have hzo:=hbe.size
  by_cases hlt:k<L.length
  rotate_left
  ·obtain rfl:k=L.length:=by omega
   obtain ⟨x0,x1,x2,x3, -, -, -, -, ltx⟩:=(hbun.box 0 rfl).1.all4;have hFr:=hbun.fresh (W:=w2) (Nat.le_refl _) 1 rfl
   have HF:Hid (Ag w0 wo (Gc M N) [.slice va M.length ca,.slice s3 N.length c3]):=by
    show Ag w0 wo [.sl 1 M.length (M.map D6),Ek N] _
    rw [List.take_of_length_le (by rw [Hml.out]; exact Nat.le_refl _)] at hFr;rw [Hml.out];exact Ny HFN.out hFr hbe hz2
   have hB:=HB02.out.trans (hbe.mono (by omega));have R:=R2.below hbe;clear hbun hFr R2 G2;obtain ⟨r0,r1,r2,r3,z0,z1,z2,z3,ltR⟩:=R.all4;go_wp2_with fail;obtain ⟨w5,e5,T2,hs5⟩:=Eg R (.int .i64 t) (.int .i64 a) (.slice va L.length ca) (.slice s3 N.length c3);rw [e5];clear e5 r0 r1 r2 r3 z0 z1 z2 z3 ltR;obtain ⟨t0,t1,t2,t3, -, -, -, -, -⟩:=T2.all4;have hzB5:=hB.size;have hB5:=hB.trans (hs5.below (B:=w.heap.size) (by omega) (fun y hy=>by omega));refine bodyPost_ret (v:= .tuple #[.agg #[.int .i64 t,.int .i64 a,.slice va L.length ca,.slice s3 N.length c3],.int .i64 0]) (by simp [results,Tryz.results60,go_sem,t0,t1,t2,t3]) rfl ?_;refine ⟨va,ca,s3,c3,by rw [Hml.out],(HF.out.keep fun b hb1 hb2=>hs5.block b hb2 (fun hy=>by omega)).from (by omega),hB5⟩
  obtain ⟨x,hx'⟩:∃x,L[k]? =some x:=⟨_,List.getElem?_eq_getElem hlt⟩;obtain ⟨hxt, -⟩:=HLs.out x (List.mem_of_getElem? hx')
  have Hxt:Hid (Ex.tree (t - 1) (a - 1) (.mk x.kind x.num x.kids)=true):=by show _=_; rw [←Ex.eta]; exact hxt
  have Heta:Hid (∀m:Int,Ex.emp m (.mk x.kind x.num x.kids)=x.emp m):=fun m=>by rw [←Ex.eta]
  have HMk:=hid (Htk.out k x hx');have HB:=hid hbun;have HBe:=hid hbe
  have hkL:(k:Int)<(L.length:Int):=by omega
  obtain ⟨hkb,sx,cx,i0,i1,i2,hxr⟩:=A3 Hrd.out hx';replace i0:=(hbe.cell (p:=⟨kb,ko+k*3,none⟩) hkb).trans i0;replace i1:=(hbe.cell (p:=⟨kb,ko+k*3+1,none⟩) hkb).trans i1;replace i2:=(hbe.cell (p:=⟨kb,ko+k*3+2,none⟩) hkb).trans i2
  have hkb2:kb<wo.heap.size:=by omega
  have Hxr:=hid hxr;have G4:=G2.below hbe;obtain ⟨g0,g1,ltG⟩:=G4.all2;clear hx' hbun hbe hxt hxr G4;go_wp2_with fail;clear i0 i1 i2 g0 g1 ltG;have hB3:=((HB.out.push_box hzo 28 #[.int .i64 x.kind,.int .i64 x.num,.slice sx x.kids.length cx])).push_empty (by simp; omega) 4 1;have hbe3:=(HBe.out.alloc hzo (.cells #[.int .i64 x.kind,.int .i64 x.num,.slice sx x.kids.length cx] 28)).alloc (by simp; omega) (.cells #[] 4);rw [show (wo.alloc (.cells #[.int .i64 x.kind,.int .i64 x.num,.slice sx x.kids.length cx] 28)).heap.size=wo.heap.size+1 by simp] at hB3;obtain ⟨xb,hxb⟩:∃xb,wo.heap.size=xb:=⟨_,rfl⟩;rw [hxb] at hB3 ⊢;clear hxb;refine (It ht0 ht3).mono ?_;rintro f w5 ⟨rfl,hb5⟩;rw [HAI.out];have HB5:=hid (hB3.below hb5);have HBe5:=hid (hbe3.trans (hb5.mono hbe3.size));clear hB3 hbe3 hb5;go_wp2_with fail
  go_loopw [12,37] (fun v3 i wr=>∃m:Nat,i= .int .i64 m∧m≤A∧Bun w2.heap.size wr [.box w2.heap.size 73 [.int .i64 t,.int .i64 a,.slice va k ca,.slice s3 N.length c3],.app 113 1 k ((M.take k).map D6) (.slice va k ca),.box xb 28 [.int .i64 x.kind,.int .i64 x.num,.slice sx x.kids.length cx],.app 4 1 m (((Ed A x).take m).map D.bool) v3]∧Below w2.heap.size w2 wr) (fun _ i _=>A - (intOf i).toNat)
  case atStart=>exact ⟨0,rfl,by omega,by simpa using HB5.out,HBe5.out⟩
  case round=>
   clear HB5 HBe5;obtain ⟨m,rfl,hmA,hbun,hbe⟩:=hrel;obtain ⟨wm,rfl⟩:∃v,v=wr:=⟨_,rfl⟩;obtain ⟨a3,c4,rfl,hc3,hc4⟩:=hbun.shape 3 rfl;obtain ⟨_,_,q9,hd3,hd4⟩:=hbun.shape 1 rfl;simp only [Value.slice.injEq,true_and] at q9;obtain ⟨rfl,rfl⟩:=q9;unfold maxLen at hc4 hd4;have HB5:=hid hbun;have HBe5:=hid hbe;have hm0:=Int.natCast_nonneg m;have hz5:=hbe.size
   by_cases hmlt:m<A
   rotate_left
   ·obtain rfl:A=m:=by omega
    have Heq:Hid ((M.take (k+1)).map D6=(M.take k).map D6++[D.sl 1 A (((Ed A x).take A).map D.bool)]):=by
     show _=_
     rw [HMk.out,List.map_append,List.take_of_length_le (l:=Ed A x) (by rw [Gl]; exact Nat.le_refl _)]
     show _++[Da D.bool _]=_
     unfold Da;rw [Gl]
    obtain ⟨x0,x1,x2,x3,z0,z1,z2,z3,ltx⟩:=(hbun.box 0 rfl).1.all4;have hBu:=hbun.alloc (.cells #[.slice a3 A c4] 113);have hNb:=Blk.new1 wm 113 (.slice a3 A c4);clear hbun hbe
    go_wp2_with (at_builtin; go_must (refine B1 _ rfl _ _ 70 rfl 113 24 Tryz.underlying70 Qt hBu (by simp; omega) 1 _ rfl rfl 3 (by decide) _ rfl ⟨wm.heap.size,0,none⟩ rfl (Ax hNb) (by omega) (by unfold maxLen; omega) ?_); intro g6 cap6 w6 hbun6 hb6; obtain ⟨y0,y1,y2,y3,f0,f1,f2,f3,lty⟩:=(hbun6.box 0 rfl).1.all4)
    have Hfin:=hid (And.intro ((hbun6.take 2).store 0 rfl 2 (.slice (some ⟨g6,0,none⟩) (k+1) cap6)) (Below.setCell (p:=⟨w2.heap.size,2,none⟩) ((HBe5.out.alloc (by omega) (.cells #[.slice a3 A c4] 113)).trans hb6) (Nat.le_refl _) (.slice (some ⟨g6,0,none⟩) (k+1) cap6)));clear hbun6 hb6 hBu hNb x0 x1 x2 x3 z0 z1 z2 z3 ltx y0 y1 y2 y3;go_wp2_with fail
    go_roundw
    case rel=>
     refine ⟨k+1,some ⟨g6,0,none⟩,cap6,by go_num,by omega, ?_,Hfin.out.2⟩;have h:=Hfin.out.1;rw [Heq.out];exact h
    case measure=>simp [intOf]; omega
   have hm1:(m:Int)<(A:Int):=by omega
   obtain ⟨x0,x1,x2, -, -, -, ltx⟩:=(hbun.box 2 rfl).1.all3;have hxr:=Hxr.out.below hbe;have HXr:=hid hxr;clear hbun hbe hxr;go_wp2_with fail;refine (Lh (t - 1) (a - 1) (m:Int) (by omega) (by omega) (by omega) _ x.kind x.num x.kids sx cx wm (Nat.le_refl _) HXr.out Hxt.out).mono ?_;rintro f w6 ⟨rfl,hb6⟩;rw [Heta.out]
   have Hds:Hid (((Ed A x).take (m+1)).map D.bool=((Ed A x).take m).map D.bool++[D.bool (x.emp m)]):=by show _=_; rw [Oz hmlt,List.map_append]; rfl
   obtain ⟨z,hz⟩:∃z,x.emp (m:Int)=z:=⟨_,rfl⟩;rw [hz] at Hds ⊢;have HB6:=hid (HB5.out.below hb6);have HBe6:=hid (HBe5.out.trans (hb6.mono hz5));have hz6:=hb6.size;have hBu:=HB6.out.alloc (.cells #[.bool z] 4);have hNb:=Blk.new1 w6 4 (.bool z);clear hz hb6 x0 x1 x2 ltx
   go_wp2_with (at_builtin; go_must (refine Bf _ rfl _ _ 113 rfl 4 (.bool false) 1 1 Tryz.underlying113 Ta rfl (by decide) hBu (by simp<;>omega) 3 _ rfl rfl ⟨w6.heap.size,0,none⟩ 1 1 [.bool z] rfl (Ax hNb) Pj rfl (by simp [Value.oneCell']) (by omega) (by omega) (by unfold maxLen; omega) ?_); intro g7 cap7 w7 hbun7 hb7)
   have Hfin:=hid (And.intro hbun7 ((HBe6.out.alloc (by omega) (.cells #[.bool z] 4)).trans hb7));clear hbun7 hb7 hBu hNb;go_wp2_with fail
   go_roundw
   case rel=>
    refine ⟨m+1,by go_num,by omega, ?_,Hfin.out.2⟩;have h:=Hfin.out.1;rw [Hds.out];exact h
   case measure=>simp [intOf]; omega
def G8 (t a:Int) (e:Ex) (w:World) (f:Ending) (w':World):Prop:=∃s c u d,f= .returned (.tuple #[.agg #[.int .i64 (auT t a e),.int .i64 (auN t a e),.slice s (auA t a e).length c,.slice u (auX t a e).length d],.int .i64 (auC t a e)])∧
 Ag w w' (Gc (auA t a e) (auX t a e)) [.slice s (auA t a e).length c,.slice u (auX t a e).length d]∧Below w.heap.size w w'
theorem G8.yes {t a:Int} {e:Ex} {w w':World} {f:Ending} (h:G8 t a e w f w') (hc:auC t a e=0):∃s c u d,f= .returned (.tuple #[.agg #[.int .i64 t,.int .i64 a,.slice s (auA t a e).length c,.slice u (auX t a e).length d],.int .i64 0])∧
  Ag w w' (Gc (auA t a e) (auX t a e)) [.slice s (auA t a e).length c,.slice u (auX t a e).length d]∧Below w.heap.size w w':=by
 obtain ⟨s,c,u,d,rfl,h1,h2⟩:=h;obtain ⟨-, e1,e2, -⟩:=Fr hc;exact ⟨s,c,u,d,by rw [e1,e2,hc],h1,h2⟩
theorem G8.no {t a:Int} {e:Ex} {w w':World} {f:Ending} (h:G8 t a e w f w'):∃(t' a':Int) (s u:Option Addr) (l c m d:Nat),f= .returned (.tuple #[.agg #[.int .i64 t',.int .i64 a',.slice s l c,.slice u m d],.int .i64 (auC t a e)])∧Below w.heap.size w w':=by
 obtain ⟨s,c,u,d,rfl,h1,h2⟩:=h;exact ⟨_,_,_,_,_,_,_,_,rfl,h2⟩
theorem Nv {t a:Int} {e:Ex} {b o:Nat} {w:World} (hok:okB t a e=true) (hx:Ap w b o e):
  Calls Tryz.prog 56 #[.agg #[.int .i64 t,.int .i64 a],.pointer (some ⟨b,o,none⟩)] w (G8 t a e w):=by
 refine (Va hok hx).mono ?_;rintro f w' ⟨s,c,u,d,rfl,h1,h2⟩;obtain ⟨e1,e2,e3,e4,e5⟩:=M9 hok;unfold G8;rw [e1,e2,e3,e4,e5];exact ⟨s,c,u,d,rfl,h1,h2⟩
theorem Je {t a:Int} {e:Ex} {s:Option Addr} {c:Nat} {w:World} (hok:okB t a e=true) (hr:Rd w (Ae e.kids) (.slice s e.kids.length c)):
  Calls Tryz.prog 60 #[.agg #[.int .i64 t,.int .i64 a],.agg #[.int .i64 e.kind,.int .i64 e.num,.slice s e.kids.length c]] w (G8 t a e w):=by
 refine (Pz hok hr).mono ?_;rintro f w' ⟨s,c,u,d,rfl,h1,h2⟩;obtain ⟨e1,e2,e3,e4,e5⟩:=M9 hok;unfold G8;rw [e1,e2,e3,e4,e5];exact ⟨s,c,u,d,rfl,h1,h2⟩
open Go.Sort
theorem Blk.autAt' {w:World} {g T:Nat} {t a:Int} {ac:List (List Bool)} {nx:List (List (List Int))} {s u:Option Addr} {c d:Nat} (L:Blk w g T [.int .i64 t,.int .i64 a,.slice s ac.length c,.slice u nx.length d]) (hr:Rd w (bbD ac) (.slice s ac.length c)) (hq:Rd w (Ek nx) (.slice u nx.length d)):Fl w g 0 t a ac nx s u c d:=
 ⟨L.c0,L.c1,L.c2,L.c3,hr,hq⟩
theorem Pw {w:World} {g T:Nat} {t a:Int} {ac:List (List Bool)} {nx:List (List (List Int))} {s u:Option Addr} {c d:Nat} (L:Blk w g T [.int .i64 t,.int .i64 a,.slice s ac.length c,.slice u nx.length d]) (h:Rds w (Gc ac nx) [.slice s ac.length c,.slice u nx.length d]):Fl w g 0 t a ac nx s u c d:=
 L.autAt' (Rds.two h).1 (Rds.two h).2
theorem Ts {nx:List (List (List Int))} {s:Int} {m k:Nat} (h:s<0):goN nx s m k= -1:=if_pos h
theorem Tn {nx:List (List (List Int))} {s m k:Nat}:goN nx (s:Int) m k=M7 nx s m k:=by
 unfold goN;rw [if_neg (by omega),Int.toNat_natCast]
theorem Q4 {ac:List (List Bool)} {s:Int} {m:Nat} (h:s<0):Br ac s m=false:=by unfold Br; rw [decide_eq_false (by omega:¬0≤s)]; rfl
theorem Qv {ac:List (List Bool)} {s m:Nat}:Br ac (s:Int) m=(ac.getD s []).getD m false:=by unfold Br; simp
set_option maxHeartbeats 4000000 in
theorem S4 {t a s:Int} {m k b o:Nat} {ac:List (List Bool)} {nx:List (List (List Int))} {sa u:Option Addr} {c d:Nat} {w:World} (h:Fl w b o t a ac nx sa u c d) (hok:By t a ac nx) (hs:s<ac.length) (hm:(m:Int)<Ah t) (hk:(k:Int)<a):
  Calls Tryz.prog 71 #[.pointer (some ⟨b,o,none⟩),.int .i64 s,.int .i64 m,.int .i64 k] w fun e w'=>e= .returned (.int .i64 (goN nx s m k))∧w'=w:=by
 by_cases h0:s<0
 ·rw [Ts h0];clear h hok
  go_enter Tryz.func71,Tryz.ntmps71
  go_wp2_with fail;go_ret;exact ⟨rfl,rfl⟩
 obtain ⟨s,rfl⟩:∃n:Nat,s=(n:Int):=⟨s.toNat,by omega⟩;obtain ⟨nr,row,z,hnr,hrow,hz, -, -, e1⟩:=hok.next (s:=s) (x:=m) (y:=k) (by omega) hm hk
 have HE:Hid (goN nx (s:Int) m k=z):=by show _=_; rw [Tn,e1]
 rw [HE.out];obtain ⟨c0,c1',c2',c3',hr,hq⟩:=h;clear e1 HE;have hs0:=Int.natCast_nonneg s;have hm0:=Int.natCast_nonneg m;have hlen:=hok.len;obtain ⟨ub,uo,rfl⟩:=Cl (f:=iiD) hq (by omega);obtain ⟨hcap1,hcap2⟩:=E5 hq;unfold maxLen at hcap2;obtain ⟨hul,sn,cn,b0,rb⟩:=Ia (g:=Cm) hq hnr;have hml:=(List.getElem?_eq_some_iff.1 hrow).1;have hkl:=(List.getElem?_eq_some_iff.1 hz).1;obtain ⟨vb,vo,rfl⟩:=Cl (f:=Cm) rb (by omega);obtain ⟨hcap3,hcap4⟩:=E5 rb;unfold maxLen at hcap4;obtain ⟨hvl,sr,cr,r0,rr⟩:=Ia (g:=D.int) rb hrow;obtain ⟨tb,to',rfl⟩:=Cl (f:=D.int) rr (by omega);obtain ⟨hcap5,hcap6⟩:=E5 rr;unfold maxLen at hcap6;obtain ⟨htl,q0⟩:=G9 rr hz;have hk0:=Int.natCast_nonneg k
 have i1:(s:Int)<(nx.length:Int):=by omega
 have i2:(m:Int)<(nr.length:Int):=by omega
 have i3:(k:Int)<(row.length:Int):=by omega
 clear hnr hrow hz rb rr;clear hr hq hok
 go_enter Tryz.func71,Tryz.ntmps71
 go_wp2_with fail;go_ret;exact ⟨rfl,rfl⟩
set_option maxHeartbeats 4000000 in
theorem Ql {t a s:Int} {m b o:Nat} {ac:List (List Bool)} {nx:List (List (List Int))} {sa u:Option Addr} {c d:Nat} {w:World} (h:Fl w b o t a ac nx sa u c d) (hok:By t a ac nx) (hs:s<ac.length) (hm:(m:Int)<Ah t):
  Calls Tryz.prog 59 #[.pointer (some ⟨b,o,none⟩),.int .i64 s,.int .i64 m] w fun e w'=>e= .returned (.bool (Br ac s m))∧w'=w:=by
 by_cases h0:s<0
 ·rw [Q4 h0]
  have hge:decide ((0:Int)≤s)=false:=by simp; omega
  clear h hok
  go_enter Tryz.func59,Tryz.ntmps59
  go_wp2_with fail;go_ret;exact ⟨rfl,rfl⟩
 obtain ⟨s,rfl⟩:∃n:Nat,s=(n:Int):=⟨s.toNat,by omega⟩;obtain ⟨ar,z,har,hz,e1⟩:=hok.acc (s:=s) (x:=m) (by omega) hm
 have HE:Hid (Br ac (s:Int) m=z):=by show _=_; rw [Qv,e1]
 rw [HE.out];obtain ⟨c0,c1',c2',c3',hr,hq⟩:=h;clear e1 HE;have hs0:=Int.natCast_nonneg s;have hm0:=Int.natCast_nonneg m;obtain ⟨ub,uo,rfl⟩:=Cl (f:=D6) hr (by omega);obtain ⟨hcap1,hcap2⟩:=E5 hr;unfold maxLen at hcap2;obtain ⟨hul,sn,cn,b0,rb⟩:=Ia (g:=D.bool) hr har;have hml:=(List.getElem?_eq_some_iff.1 hz).1;obtain ⟨vb,vo,rfl⟩:=Cl (f:=D.bool) rb (by omega);obtain ⟨hcap3,hcap4⟩:=E5 rb;unfold maxLen at hcap4;obtain ⟨hvl,q0⟩:=Th rb hz
 have i1:(s:Int)<(ac.length:Int):=by omega
 have i2:(m:Int)<(ar.length:Int):=by omega
 clear har hz rb;clear hr hq hok
 go_enter Tryz.func59,Tryz.ntmps59
 go_wp2_with fail;go_ret;exact ⟨rfl,rfl⟩
set_option maxHeartbeats 4000000 in
theorem Qz {t a s:Int} {m k:Nat} {ac:List (List Bool)} {nx:List (List (List Int))} {sa u:Option Addr} {c d:Nat} {w:World} (hr:Rd w (bbD ac) (.slice sa ac.length c)) (hq:Rd w (Ek nx) (.slice u nx.length d)) (hok:By t a ac nx) (hs:s<ac.length) (hm:(m:Int)<Ah t) (hk:(k:Int)<a):
  Calls Tryz.prog 74 #[.agg #[.int .i64 t,.int .i64 a,.slice sa ac.length c,.slice u nx.length d],.int .i64 s,.int .i64 m,.int .i64 k] w fun e w'=>e= .returned (.int .i64 (goN nx s m k))∧Below w.heap.size w w':=by
 by_cases h0:s<0
 ·rw [Ts h0];clear hr hq hok
  go_enter Tryz.func74,Tryz.ntmps74
  go_wp2_with fail;go_ret;exact ⟨rfl,bel⟩
 obtain ⟨s,rfl⟩:∃n:Nat,s=(n:Int):=⟨s.toNat,by omega⟩;obtain ⟨nr,row,z,hnr,hrow,hz, -, -, e1⟩:=hok.next (s:=s) (x:=m) (y:=k) (by omega) hm hk
 have HE:Hid (goN nx (s:Int) m k=z):=by show _=_; rw [Tn,e1]
 rw [HE.out];clear e1 HE;have hs0:=Int.natCast_nonneg s;have hm0:=Int.natCast_nonneg m;have hlen:=hok.len;obtain ⟨ub,uo,rfl⟩:=Cl (f:=iiD) hq (by omega);obtain ⟨hcap1,hcap2⟩:=E5 hq;unfold maxLen at hcap2;obtain ⟨hul,sn,cn,b0,rb⟩:=Ia (g:=Cm) hq hnr;have hml:=(List.getElem?_eq_some_iff.1 hrow).1;have hkl:=(List.getElem?_eq_some_iff.1 hz).1;obtain ⟨vb,vo,rfl⟩:=Cl (f:=Cm) rb (by omega);obtain ⟨hcap3,hcap4⟩:=E5 rb;unfold maxLen at hcap4;obtain ⟨hvl,sr,cr,r0,rr⟩:=Ia (g:=D.int) rb hrow;obtain ⟨tb,to',rfl⟩:=Cl (f:=D.int) rr (by omega);obtain ⟨hcap5,hcap6⟩:=E5 rr;unfold maxLen at hcap6;obtain ⟨htl,q0⟩:=G9 rr hz;have hk0:=Int.natCast_nonneg k
 have i1:(s:Int)<(nx.length:Int):=by omega
 have i2:(m:Int)<(nr.length:Int):=by omega
 have i3:(k:Int)<(row.length:Int):=by omega
 clear hnr hrow hz rb rr;clear hr hq hok
 go_enter Tryz.func74,Tryz.ntmps74
 go_wp2_with fail;go_ret;exact ⟨rfl,bel⟩
set_option maxHeartbeats 4000000 in
theorem Oo {t a s:Int} {m:Nat} {ac:List (List Bool)} {nx:List (List (List Int))} {sa u:Option Addr} {c d:Nat} {w:World} (hr:Rd w (bbD ac) (.slice sa ac.length c)) (hq:Rd w (Ek nx) (.slice u nx.length d)) (hok:By t a ac nx) (hs:s<ac.length) (hm:(m:Int)<Ah t):
  Calls Tryz.prog 63 #[.agg #[.int .i64 t,.int .i64 a,.slice sa ac.length c,.slice u nx.length d],.int .i64 s,.int .i64 m] w fun e w'=>e= .returned (.bool (Br ac s m))∧Below w.heap.size w w':=by
 by_cases h0:s<0
 ·rw [Q4 h0]
  have hge:decide ((0:Int)≤s)=false:=by simp; omega
  clear hr hq hok
  go_enter Tryz.func63,Tryz.ntmps63
  go_wp2_with fail;go_ret;exact ⟨rfl,bel⟩
 obtain ⟨s,rfl⟩:∃n:Nat,s=(n:Int):=⟨s.toNat,by omega⟩;obtain ⟨ar,z,har,hz,e1⟩:=hok.acc (s:=s) (x:=m) (by omega) hm
 have HE:Hid (Br ac (s:Int) m=z):=by show _=_; rw [Qv,e1]
 rw [HE.out];clear e1 HE;have hs0:=Int.natCast_nonneg s;have hm0:=Int.natCast_nonneg m;obtain ⟨ub,uo,rfl⟩:=Cl (f:=D6) hr (by omega);obtain ⟨hcap1,hcap2⟩:=E5 hr;unfold maxLen at hcap2;obtain ⟨hul,sn,cn,b0,rb⟩:=Ia (g:=D.bool) hr har;have hml:=(List.getElem?_eq_some_iff.1 hz).1;obtain ⟨vb,vo,rfl⟩:=Cl (f:=D.bool) rb (by omega);obtain ⟨hcap3,hcap4⟩:=E5 rb;unfold maxLen at hcap4;obtain ⟨hvl,q0⟩:=Th rb hz
 have i1:(s:Int)<(ac.length:Int):=by omega
 have i2:(m:Int)<(ar.length:Int):=by omega
 clear har hz rb;clear hr hq hok
 go_enter Tryz.func63,Tryz.ntmps63
 go_wp2_with fail;go_ret;exact ⟨rfl,bel⟩
end Go.Proofs.YtlchgfbkdjjngaaGreatDoor
