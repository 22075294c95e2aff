/-
  Parts of a proof, joined: Dif, EqI. No condition.
-/
import Derived.Test.YtlchgfbkdjjngaaGreatDoorPk37
set_option linter.unusedVariables false
set_option linter.unusedSimpArgs false
namespace Go.Proofs.YtlchgfbkdjjngaaGreatDoor
open Go.ChangeShapes Go.WideShapes Go.ChangeAt Go.RowKit Go.Deep Go.Sort
def Nb (ac bc:List (List Bool)) (A:Nat) (L:List (Int × Int)) (k:Nat):Prop:=∀(i:Nat) (p:Int × Int),i<k→L[i]? =some p→Gx ac bc A p=true
def Ri (ac bc:List (List Bool)) (p:Int × Int) (m:Nat):Prop:=∀j,j<m→Br ac p.1 j=Br bc p.2 j
theorem Nb.succ {ac bc:List (List Bool)} {A:Nat} {L:List (Int × Int)} {k:Nat} {p:Int × Int} (h:Nb ac bc A L k) (hp:L[k]? =some p) (he:Gx ac bc A p=true):Nb ac bc A L (k+1):=fun i q hi hq=>by
 by_cases hik:i=k
 ·subst hik;rw [hp] at hq;obtain rfl:=Option.some.inj hq;exact he
 exact h i q (by omega) hq
theorem Ri.succ {ac bc:List (List Bool)} {p:Int × Int} {m:Nat} (h:Ri ac bc p m) (he:Br ac p.1 m=Br bc p.2 m):Ri ac bc p (m+1):=fun j hj=>by
 by_cases hjm:j=m
 ·subst hjm; exact he
 exact h j (by omega)
theorem Wz {ac bc:List (List Bool)} {A:Nat} {p:Int × Int} (h:Ri ac bc p A):Gx ac bc A p=true:=by
 unfold Gx;rw [List.all_eq_true];intro m hm;rw [h m (List.mem_range.1 hm)]
 simp
theorem Yk {ac bc:List (List Bool)} {A m:Nat} {p:Int × Int} (hm:m<A) (h:Br ac p.1 m≠Br bc p.2 m):Gx ac bc A p=false:=by
 cases hb:Gx ac bc A p
 ·rfl
 unfold Gx at hb;rw [List.all_eq_true] at hb;have:=hb m (List.mem_range.2 hm);simp only [beq_iff_eq] at this;exact absurd this h
set_option maxRecDepth 100000 in
set_option maxHeartbeats 16000000 in
theorem Qm {t a:Int} {ac bc:List (List Bool)} {nx ny:List (List (List Int))} {s u s' u':Option Addr} {c d c' d':Nat} {w:World} (hr:Rds w (Gc ac nx) [.slice s ac.length c,.slice u nx.length d]) (hr':Rds w (Gc bc ny) [.slice s' bc.length c',.slice u' ny.length d']) (hok:By t a ac nx) (hok':By t a bc ny):
  Calls Tryz.prog 43 #[.agg #[.int .i64 t,.int .i64 a,.slice s ac.length c,.slice u nx.length d],.agg #[.int .i64 t,.int .i64 a,.slice s' bc.length c',.slice u' ny.length d']] w fun e w'=>∃(p p':Option Addr) (n q n' q':Nat) (b1:Bool),e= .returned (.tuple #[.agg #[.slice p n q,.slice p' n' q'],.bool b1,.bool (!Nt ac bc nx ny (Ah t).toNat a.toNat)])∧Below w.heap.size w w':=by
 obtain ⟨ht0,ht3,ha0,ha4⟩:=Db hok.sig;obtain ⟨hat1,hat8⟩:=Ec t;have hmany:=Fw hok hok' 3721;have hall:=fun p hp=>Mt hok hok' 3721 p hp;obtain ⟨A,hA⟩:∃A:Nat,Ah t=(A:Int):=⟨(Ah t).toNat,by omega⟩
 have hA':(Ah t).toNat=A:=by omega
 have Hd1:=hid hr;have Hd2:=hid hr';have Hoke:=hid hok;have Hokf:=hid hok';clear hr hr' hok hok';obtain ⟨rb,hrb⟩:∃rb,rb=Nt ac bc nx ny (Ah t).toNat a.toNat:=⟨_,rfl⟩;rw [←hrb];have HRB:=hid hrb;clear hrb
 go_enter Tryz.func43,Tryz.ntmps43
 go_wp2_with fail;obtain ⟨w1,e1,A1,hb1,hz1⟩:=Dx w 73 (.int .i64 t) (.int .i64 a) (.slice s ac.length c) (.slice u nx.length d);rw [e1];obtain ⟨w2,e2,A2,hb2,hz2⟩:=Dx w1 73 (.int .i64 t) (.int .i64 a) (.slice s' bc.length c') (.slice u' ny.length d');rw [e2];obtain ⟨w3,e3,R0,hb3,hz3⟩:=Dl w2 81 (.slice none 0 0) (.slice none 0 0);rw [e3];rw [hz1] at A2;rw [show w2.heap.size=w.heap.size+1+1 by omega] at R0;have hB:=(hb1.trans (hb2.mono (by omega))).trans (hb3.mono (by omega));replace A1:=(A1.below hb2).below hb3;replace A2:=A2.below hb3;clear e1 e2 e3 hb1 hb2 hb3 hz1 hz2 hz3;refine (Yc (Hd1.out.below hB) (Hd2.out.below hB) Hoke.out Hokf.out).mono ?_;rintro g w6 ⟨R,sa,ca,rfl,hrd,hRm,hfo,hb6⟩;have hF:rb=(prF nx ny (Ah t).toNat a.toNat).all (Gx ac bc (Ah t).toNat):=HRB.out;have hall':∀p∈prF nx ny (Ah t).toNat a.toNat,Ii ac.length bc.length p:=hall;have hmany':(prF nx ny (Ah t).toNat a.toNat).length≤3721:=hmany;rw [←hRm,hA'] at hF;rw [←hRm] at hall' hmany';rw [List.length_map] at hmany';have HF:=hid hF;have HA:=hid hA;have Hall:=hid hall';have Hfo:=hid hfo;have Hrd:=hid hrd;have HB6:=hid (hB.trans (hb6.mono hB.size));have HA1:=hid (A1.below hb6);have HA2:=hid (A2.below hb6);have HR0:=hid (R0.below hb6);have Hd1':=hid (Hd1.out.below HB6.out);have Hd2':=hid (Hd2.out.below HB6.out);have hz6:=HB6.out.size
 have hz6':w.heap.size+3≤w6.heap.size:=by have:=R0.lt; have:=hb6.size; omega
 clear hF hA hA' hall hall' hmany hRm hrd hb6 A1 A2 R0 hB Hd1 Hd2 hat1 hfo;go_wp2_with fail
 go_loopw [19] (fun i wr=>∃k:Nat,i= .int .i64 k∧k≤R.length∧Hid (Nb ac bc A (R.map Rch.p) k)∧Below w6.heap.size w6 wr) (fun i _=>R.length - (intOf i).toNat)
 case atStart=>exact ⟨0,rfl,by omega,fun i p hi=>by omega,Below.refl _ _⟩
 case round=>
  obtain ⟨i,rfl,hi,HW,hbe⟩:=hrel;obtain ⟨wo,rfl⟩:∃v,v=wr:=⟨_,rfl⟩;have hi0:=Int.natCast_nonneg i;have hzo:=hbe.size;have HBe:=hid hbe
  by_cases hlt:i<R.length
  rotate_left
  ·obtain rfl:i=R.length:=by omega
   have HR:Hid (rb=true):=by show _=_; rw [HF.out]; exact S7 fun j p hj hp=>HW.out j p (by rw [List.length_map] at hj; exact hj) hp
   obtain ⟨r0,r1,rl⟩:=(HR0.out.below hbe).all2;have rz0:=(HR0.out.below hbe).frozen 0;have rz1:=(HR0.out.below hbe).frozen 1;have K0:=HR0.out.below hbe;clear hbe;go_wp2_with fail;have K1:=(K0.set 0 (.slice none 0 0)).set 1 (.slice none 0 0);have k0:=K1.c0;have k1:=K1.c1;refine bodyPost_ret (v:= .tuple #[.agg #[.slice none 0 0,.slice none 0 0],.bool false,.bool false]) (by simp [results,Tryz.results43,go_sem,k0,k1]) rfl ?_;have hBf:=HB6.out.trans (HBe.out.mono hz6);exact ⟨none,none,0,0,0,0,false,by rw [HR.out]; rfl,bel⟩
  obtain ⟨r,hr0⟩:∃r,R[i]? =some r:=⟨_,List.getElem?_eq_getElem hlt⟩;obtain ⟨x,hxe⟩:∃x,r.p=x:=⟨_,rfl⟩
  have hx:(R.map Rch.p)[i]? =some x:=by rw [List.getElem?_map,hr0,←hxe]; rfl
  have hxok:=Hall.out x (List.mem_of_getElem? hx);have Hx:=hid hx;have hrd:=Hrd.out.below hbe
  obtain ⟨b0,o0,rfl⟩:∃b0 o0,sa=some ⟨b0,o0,none⟩:=by
   obtain ⟨_,_,_,_,_,h4⟩:=hrd.sl_at
   rcases h4 with h4|⟨b,o,e,_⟩
   ·omega
   exact ⟨b,o,e⟩
  obtain ⟨-, k2,k3, -⟩:=hrd.sl_at;unfold maxLen at k3;obtain ⟨hbl,y0,y1,y2,y3,y4⟩:=I9 hrd hr0;rw [hxe] at y0 y1
  have hil:(i:Int)<(R.length:Int):=by omega
  obtain ⟨x0,x1,x2,x3, -, -, -, -, ltX⟩:=(HA1.out.below hbe).all4;clear hr0 hxe hx hrd hbe;go_wp2_with fail;clear y0 y1 y2 y3 y4 x0 x1 x2 x3 ltX;obtain ⟨w7,e7,N,hb7,hz7⟩:=box5 wo 103 (.int .i64 x.1) (.int .i64 x.2) (.int .i64 r.f) (.int .i64 r.m) (.int .i64 r.k);rw [e7];have HBe7:=hid (HBe.out.trans (hb7.mono hzo));have HN:=hid N;obtain ⟨nb,hnb⟩:∃nb,wo.heap.size=nb:=⟨_,rfl⟩;rw [hnb] at HN ⊢
  have hz7':w6.heap.size≤w7.heap.size:=by omega
  clear e7 hb7 N hnb;refine (It ht0 ht3).mono ?_;rintro g w8 ⟨rfl,hb8⟩;rw [HA.out];have HBe8:=hid (HBe7.out.trans (hb8.mono hz7'));have HN8:=hid (HN.out.below hb8);clear hb8;go_wp2_with fail
  go_loopw [27] (fun j wr=>∃m:Nat,j= .int .i64 m∧m≤A∧Hid (Ri ac bc x m)∧Below w8.heap.size w8 wr) (fun j _=>A - (intOf j).toNat)
  case atStart=>exact ⟨0,rfl,by omega,fun m hm=>by omega,Below.refl _ _⟩
  case round=>
   obtain ⟨m,rfl,hmA,HI,hbe⟩:=hrel;obtain ⟨wm,rfl⟩:∃v,v=wr:=⟨_,rfl⟩;have hm0:=Int.natCast_nonneg m;have hz8:=HBe8.out.size;have hbe8:=HBe8.out.trans (hbe.mono hz8);have HBe9:=hid hbe8
   by_cases hmlt:m<A
   rotate_left
   ·obtain rfl:A=m:=by omega
    have HW2:=hid (HW.out.succ Hx.out (Wz HI.out));clear hbe hbe8;go_wp2_with fail
    go_roundw
    case rel=>exact ⟨i+1,by go_num,by omega,HW2.out,HBe9.out⟩
    case measure=>simp [intOf]; omega
   have hm1:(m:Int)<(A:Int):=by omega
   have hmat:(m:Int)<Ah t:=by rw [HA.out]; exact hm1
   obtain ⟨x0,x1,x2,x3, -, -, -, -, ltX⟩:=(HA1.out.below hbe8).all4;have N9:=HN8.out.below hbe;have n0:=N9.c0;have n1:=N9.c1;have ltN:=N9.lt;have hz9:=hbe.size;have HBm:=hid hbe;have HD1:=hid (Hd1'.out.below hbe8);clear hbe hbe8 N9;go_wp2_with fail;refine (Oo (Rds.two HD1.out).1 (Rds.two HD1.out).2 Hoke.out hxok.2.1 hmat).mono ?_;rintro g w9 ⟨rfl,hb9⟩;have HBe10:=hid (HBe9.out.trans (hb9.mono (by omega)));have HBm10:=hid (HBm.out.trans (hb9.mono hz9));clear x0 x1 x2 x3 ltX n0 n1 ltN hb9;obtain ⟨v1,hv1⟩:∃v1,Br ac x.1 m=v1:=⟨_,rfl⟩;rw [hv1];have HV1:=hid hv1;clear hv1;obtain ⟨x0,x1,x2,x3, -, -, -, -, ltX⟩:=(HA2.out.below HBe10.out).all4;have N10:=HN8.out.below HBm10.out;have n0:=N10.c0;have n1:=N10.c1;have ltN:=N10.lt;have HD2:=hid (Hd2'.out.below HBe10.out);clear N10;go_wp2_with fail;refine (Oo (Rds.two HD2.out).1 (Rds.two HD2.out).2 Hokf.out hxok.2.2.2 hmat).mono ?_;rintro g w10 ⟨rfl,hb10⟩;have HBe11:=hid (HBe10.out.trans (hb10.mono (by have:=HBe10.out.size; omega)));have HBm11:=hid (HBm10.out.trans (hb10.mono HBm10.out.size));clear x0 x1 x2 x3 ltX n0 n1 ltN hb10;obtain ⟨v2,hv2⟩:∃v2,Br bc x.2 m=v2:=⟨_,rfl⟩;rw [hv2];have HV2:=hid hv2;clear hv2
   by_cases hvv:v1=v2
   ·subst hvv;have HI2:=hid (HI.out.succ (by rw [HV1.out,HV2.out]))
    have q0:(v1==v1)=true:=by simp
    go_wp2_with fail
    go_roundw
    case rel=>exact ⟨m+1,by go_num,by omega,HI2.out,HBm11.out⟩
    case measure=>simp [intOf]; omega
   have HR:Hid (rb=false):=by
    show _=_
    rw [HF.out];exact Sd (List.mem_of_getElem? Hx.out) (Yk hmlt (by rw [HV1.out,HV2.out]; exact hvv))
   have q0:(v1==v2)=false:=by simpa using hvv
   clear hvv HV1 HV2;go_wp2_with fail;have hW:=WdB.one w10 (m:Int);obtain ⟨w11,e11⟩:∃w11,(w10.alloc (.cells #[.int .i64 m] 2)).alloc (.cells #[.slice (some ⟨w10.heap.size,0,none⟩) 1 1,.slice none 0 0] 81)=w11:=⟨_,rfl⟩
   have hb11:Below w10.heap.size w10 w11:=by rw [←e11]; exact (Below.alloc (Below.alloc (Below.refl _ _) (Nat.le_refl _) _) (by simp) _)
   rw [e11] at hW ⊢;obtain ⟨wb,hwb⟩:∃wb,w10.heap.size+1=wb:=⟨_,rfl⟩
   have hwl:w.heap.size+3≤w10.heap.size:=by have:=HBe11.out.size; omega
   rw [hwb] at hW ⊢;have HRD:=hid ((Ca.rd Hrd.out).on (HBe11.out));have HW0:=hid hW;have HB0:=hid hb11;clear e11 hW hb11 hwb q0
   go_loopw [13] (fun v wr=>∃(k:Nat) (xs ys:List Int) (va vb:Value),v= .int .i64 k∧k<R.length∧xs.length+k≤R.length+1∧ys.length+k≤R.length∧WdB w10.heap.size wr wb xs ys va vb∧Below w10.heap.size w10 wr) (fun v _=>(intOf v).toNat)
   case atStart=>exact ⟨i,[(m:Int)],[],_,_,rfl,hlt,by simp; omega,by simp; omega,HW0.out,HB0.out⟩
   case round=>
    clear HW0 HB0;obtain ⟨k,xs,ys,va,vb,rfl,hk,hk1,hk2,hwd,hbr⟩:=hrel;obtain ⟨wk,rfl⟩:∃v,v=wr:=⟨_,rfl⟩;obtain ⟨av,av2,rfl,av3,av4⟩:=hwd.shapeA;obtain ⟨bv,bv2,rfl,bv3,bv4⟩:=hwd.shapeB;unfold maxLen at av4 bv4;obtain ⟨r',hr'⟩:∃r',R[k]? =some r':=⟨_,List.getElem?_eq_getElem hk⟩;have hfk:=Hfo.out k r' hr';have hk0:=Int.natCast_nonneg k
    have hkl:(k:Int)<(R.length:Int):=by omega
    have HWD:=hid hwd;have HBr:=hid hbr;have Hr:=hid hr';obtain ⟨hbl,y0,y1,y2,y3,y4⟩:=I9 (HRD.out.ok _ hbr) hr';clear hwd hbr hr';obtain ⟨p1,hp1⟩:∃p,r'.f=p:=⟨_,rfl⟩;rw [hp1] at y2 hfk;have Hp1:=hid hp1;clear hp1
    by_cases hneg:0≤p1
    rotate_left
    ·obtain ⟨F,G,hF,hFn,hG,hGn,hFd,hGd⟩:=HWD.out.owns;obtain ⟨z0,z1,zl⟩:=HWD.out.box.1.all2;have HK:=hid HWD.out.box.1;have hwb:=HWD.out.box.2;have HFd:=hid hFd;have HGd:=hid hGd;have HG:=hid hG;have R7:=(HR0.out.below HBe11.out).keep (HBr.out.block _ (by omega));have hzk:=HBr.out.size;have h10:=HBe11.out.size;clear hFd hGd hG;go_wp2_with fail;refine (Kk hF hFn (by omega)).mono ?_;rintro g wr1 ⟨rfl, -, ho1⟩;have K1:=HK.out.keep (ho1.block wb zl (fun q=>(HFd.out _ q).2.1 rfl));have hG1:=HG.out.keep (fun b hb=>ho1.block b (HG.out.lt b hb) (fun q=>(HFd.out b q).2.2 hb));have R8:=R7.keep (ho1.block _ R7.lt (fun q=>by have:=(HFd.out _ q).1; omega));have hB1:=(HB6.out.trans (HBe11.out.mono hz6)).trans (HBr.out.mono (by omega));have hB2:=hB1.trans (ho1.below (B:=w.heap.size) (by omega) (fun b q=>by have:=(HFd.out _ q).1; omega));clear z0 z1 hF HK HG R7 ho1;obtain ⟨z0,z1,zl1⟩:=K1.all2;go_wp2_with fail;refine (Kk hG1 hGn (by omega)).mono ?_;rintro g wr2 ⟨rfl, -, ho2⟩;have K3:=K1.keep (ho2.block wb zl1 (fun q=>(HGd.out _ q).2 rfl));have R9:=R8.keep (ho2.block _ R8.lt (fun q=>by have:=(HGd.out _ q).1; omega));have hB3:=hB2.trans (ho2.below (B:=w.heap.size) hB2.size (fun b q=>by have:=(HGd.out _ q).1; omega));clear z0 z1 hG1 K1 R8 ho2;obtain ⟨z0,z1,zl3⟩:=K3.all2;obtain ⟨r0,r1,rl⟩:=R9.all2;have rz0:=R9.frozen 0;have rz1:=R9.frozen 1;go_wp2_with fail;have K5:=(R9.set 0 (.slice av xs.length av2)).set 1 (.slice bv ys.length bv2);have k0:=K5.c0;have k1:=K5.c1;refine bodyPost_ret (v:= .tuple #[.agg #[.slice av xs.length av2,.slice bv ys.length bv2],.bool v1,.bool true]) (by simp [results,Tryz.results43,go_sem,k0,k1]) rfl ?_;exact ⟨av,bv,_,_,_,_,v1,by rw [HR.out]; rfl,bel⟩
    obtain ⟨j,rfl⟩:=Int.eq_ofNat_of_zero_le hneg;go_wp2_with fail;clear y0 y1 y2 y3 y4 hbl;obtain ⟨own,how1,hwl,hwlt,hA0,hA2,tA,tB⟩:=HWD.out.parts;have HtA:=hid tA;have HtB:=hid tB;have V:=hA0;have Vf:=fun (b:Nat) (h:w10.heap.size≤b∧b<wk.heap.size∧own b=0)=>And.intro h.1 h.2.1;have K2:=HWD.out.box.1;have hz0wx1:=HBr.out.size;clear hA0 hA2 tA tB;obtain ⟨x4,hx4⟩:=Aj ?a2_4;obtain ⟨x5,hx5⟩:=Aj ?a2_5
    have hGb:∀m b,(fun m b=>(m=0∧(w10.heap.size≤b∧b<wk.heap.size∧own b=0))∨(m=1∧b=wb)) m b→(w10.heap.size)≤b∧b<(wk).heap.size:=by
     intro m b hg
     rcases hg with ⟨rfl,hg⟩|⟨rfl,hg⟩
     ·have q:=Vf b hg;omega
     subst hg;have q:=K2.lt;omega
    have hGd:∀m m' b,(fun m b=>(m=0∧(w10.heap.size≤b∧b<wk.heap.size∧own b=0))∨(m=1∧b=wb)) m b→(fun m b=>(m=0∧(w10.heap.size≤b∧b<wk.heap.size∧own b=0))∨(m=1∧b=wb)) m' b→m=m':=by
     intro m m' b h h'
     rcases h with ⟨rfl,h⟩|⟨rfl,h⟩<;>rcases h' with ⟨rfl,h'⟩|⟨rfl,h'⟩
     ·rfl
     ·exfalso; rw [h'] at h; have:=h.2.2; omega
     ·exfalso; rw [h] at h'; have:=h'.2.2; omega
     rfl
    refine Aw [] [(8,0),(10,1)] (fun m b=>(m=0∧(w10.heap.size≤b∧b<wk.heap.size∧own b=0))∨(m=1∧b=wb)) (w10.heap.size) (fun i iv vs wx=>match i with
     |0=>vs 0= .pointer (some ⟨wb,0,none⟩)
     |1=>vs 1= .slice av xs.length av2
     |2=>vs 2= .slice (some ⟨b0,o0,none⟩) R.length ca
     |3=>vs 3= .int .i64 k
     |4=>vs 4=x4
     |5=>vs 5=x5
     |6=>vs 6= .int .i64 r'.m
     |7=>vs 7= .slice (some ⟨(iv 7).1,0,none⟩) 1 1∧(iv 7).2=(iv 7).1+1∧Blk wx (iv 7).1 2 [.int .i64 r'.m]
     |8=>∃g cap,vs 8= .slice (some ⟨g,0,none⟩) (xs.length+1) cap∧Al (foot [] [(8,0),(10,1)] (fun m b=>(m=0∧(w10.heap.size≤b∧b<wk.heap.size∧own b=0))∨(m=1∧b=wb)) 11 8 iv) wx 2 1 (xs.length+1) (xs.map D.int++[.int r'.m]) (.slice (some ⟨g,0,none⟩) (xs.length+1) cap)
     |9=>vs 9= .pointer (some ⟨wb,0,none⟩)
     |10=>Blk wx (wb) 81 [vs 8,.slice bv ys.length bv2]
     |_=>True) (fun i iv vs=>match i with
     |0=>vs 0= .pointer (some ⟨wb,0,none⟩)
     |1=>vs 1= .slice av xs.length av2
     |2=>vs 2= .slice (some ⟨b0,o0,none⟩) R.length ca
     |3=>vs 3= .int .i64 k
     |4=>vs 4=x4
     |5=>vs 5=x5
     |6=>vs 6= .int .i64 r'.m
     |7=>vs 7= .slice (some ⟨(iv 7).1,0,none⟩) 1 1∧(iv 7).2=(iv 7).1+1
     |8=>∃g cap,vs 8= .slice (some ⟨g,0,none⟩) (xs.length+1) cap
     |9=>vs 9= .pointer (some ⟨wb,0,none⟩)
     |10=>True
     |_=>True) (by kernel_rfl) (by kernel_rfl) [0,1,2,3,4,5,6,7,8,9,10] (by kernel_rfl) ?hbase ?hGb ?hG ?hJ ?hE ?hEE ?hstep ?hQ
    case hbase=>first|exact Nat.le_refl _|omega|(simp; omega)
    case hGb=>
     exact hGb
    case hG=>
     exact hGd
    case hJ=>
     intro i hi iv iv' vs vs' wx wx' ha hv hz hk hj;simp at hi
     rcases hi with rfl|rfl|rfl|rfl|rfl|rfl|rfl|rfl|rfl|rfl|rfl
     all_goals try exact (aG hv _).symm.trans hj
     ·have e7:=aG hv 7;have g7:=aG ha 7;obtain ⟨q1,q3,q2⟩:=hj
      show vs' 7= .slice (some ⟨(iv' 7).1,0,none⟩) 1 1∧(iv' 7).2=(iv' 7).1+1∧Blk wx' (iv' 7).1 2 [.int .i64 r'.m]
      rw [←e7,←g7];exact ⟨q1,q3,q2.keep (hk.out _ q2.lt (Au (Nat.le_refl _) (by omega)))⟩
     ·have e8:=aG hv 8;obtain ⟨g,cap,q1,q2⟩:=hj;exact ⟨g,cap,e8 ▸ q1,(q2.keep (fun b hb h1=>hk.out b hb h1)).more (fun b hb h1=>At (l:=Am _ 11 8) (by exact of_decide_eq_true (by kernel_rfl)) ha.out h1)⟩
     have e8:=aG hv 8;have hj':Blk wx (wb) 81 [vs 8,.slice bv ys.length bv2]:=hj
     show Blk wx' (wb) 81 [vs' 8,.slice bv ys.length bv2]
     rw [←e8];exact hj'.keep (hk.out _ hj'.lt (Ao 1 (by decide) (Or.inr ⟨rfl,rfl⟩)))
    case hE=>
     intro i hi iv vs wx hj;simp at hi
     rcases hi with rfl|rfl|rfl|rfl|rfl|rfl|rfl|rfl|rfl|rfl|rfl
     all_goals try exact hj
     ·exact ⟨hj.1,hj.2.1⟩
     ·obtain ⟨g,cap,q1, -⟩:=hj;exact ⟨g,cap,q1⟩
     trivial
    case hEE=>
     intro i hi iv iv' vs vs' ha hv hj;simp at hi
     rcases hi with rfl|rfl|rfl|rfl|rfl|rfl|rfl|rfl|rfl|rfl|rfl
     all_goals try exact (aG hv _).symm.trans hj
     ·have e7:=aG hv 7;have g7:=aG ha 7;have hj':vs 7= .slice (some ⟨(iv 7).1,0,none⟩) 1 1∧(iv 7).2=(iv 7).1+1:=hj
      show vs' 7= .slice (some ⟨(iv' 7).1,0,none⟩) 1 1∧(iv' 7).2=(iv' 7).1+1
      rw [←e7,←g7];exact hj'
     ·have e8:=aG hv 8;have hj':∃g cap,vs 8= .slice (some ⟨g,0,none⟩) (xs.length+1) cap:=hj
      show ∃g cap,vs' 8= .slice (some ⟨g,0,none⟩) (xs.length+1) cap
      rw [←e8];exact hj'
     trivial
    case hstep=>
     intro i hi opr ho iv vs w1 hB hS hSo hd he hbd hsep hun K hK;simp at hi;have hzB:=hB.size;have HGb:=hid hGb;clear hGb hGd;obtain ⟨hbl,y0,y1,y2,y3,y4⟩:=I9 (HRD.out.ok w1 (HBr.out.trans hB)) Hr.out;generalize hA:Af _ 0 vs _=A at hK ⊢;simp only [Af,Ac] at hA
     rcases hi with rfl|rfl|rfl|rfl|rfl|rfl|rfl|rfl|rfl|rfl|rfl
     all_goals
      simp at ho;subst ho;subst hA
     ·go_wp2_with fail;exact Ab.mk (hK _ _ _ nn (by first|rfl|(simp only [Ac])) (Aa.refl _) (fun iv' _ _=>rfl))
     ·have h0:vs 0=_:=dN hd 0;have K21:=K2.keep (hS.out 1 _ (by kernel_rfl) (Or.inr ⟨rfl,rfl⟩));have k2c0:=K21.c0;have k2z0:=K21.frozen 0;have k2c1:=K21.c1;have k2z1:=K21.frozen 1;have k2lt:=K21.lt;go_wp2_with fail;exact Ab.mk (hK _ _ _ nn (by first|rfl|(simp only [Ac,h0])) (Aa.refl _) (fun iv' _ _=>rfl))
     ·go_wp2_with fail;exact Ab.mk (hK _ _ _ nn (by first|rfl|(simp only [Ac])) (Aa.refl _) (fun iv' _ _=>rfl))
     ·go_wp2_with fail;exact Ab.mk (hK _ _ _ nn (by first|rfl|(simp only [Ac])) (Aa.refl _) (fun iv' _ _=>rfl))
     ·have h2:vs 2=_:=dN hd 2;have h3:vs 3=_:=dN hd 3;go_wp2_with fail;refine Ab.mk (hK ?val2_4 _ _ nn ?eqA (Aa.refl _) (fun iv' _ _=> ?ja))
      case eqA=>first|rfl|(simp only [Ac,h2,h3]; rfl)
      case ja=>exact hx4.out.symm
     ·have h4:=(dN hd 4).trans hx4.out;go_wp2_with fail;refine Ab.mk (hK ?val2_5 _ _ nn ?eqA (Aa.refl _) (fun iv' _ _=> ?ja))
      case eqA=>first|rfl|(simp only [Ac,h4]; rfl)
      case ja=>exact hx5.out.symm
     ·have h5:=(dN hd 5).trans hx5.out;go_wp2_with fail;exact Ab.mk (hK _ _ _ nn (by first|rfl|(simp only [Ac,h5])) (Aa.refl _) (fun iv' _ _=>rfl))
     ·have h6:vs 6=_:=dN hd 6;go_wp2_with fail
      exact Ab.mk (hK (.slice (some ⟨w1.heap.size,0,none⟩) 1 1) _ _ nn (by first|rfl|(simp only [Ac,h6])) (Aa.of_below (Below.alloc (Below.refl _ _) (Nat.le_refl _) _)) (fun iv' _ hi=>by
       show Value.slice (some ⟨w1.heap.size,0,none⟩) 1 1= .slice (some ⟨(iv' 7).1,0,none⟩) 1 1∧(iv' 7).2=(iv' 7).1+1∧Blk _ (iv' 7).1 2 [.int .i64 r'.m]
       rw [hi]
       exact ⟨rfl,by simp,Blk.new1 _ _ _⟩))
     ·have h1:vs 1=_:=dN hd 1;obtain ⟨h7,q7,f7⟩:=dN hd 7;have V1:=V.keep (fun b _ hb=>hS.out 0 b (by kernel_rfl) (Or.inl ⟨rfl,hb⟩));simp only [h1,h7]
      have f7':Blk w1 (iv 7).1 2 [.int .i64 r'.m]:=by first|exact f7|(rw [h7] at f7; exact f7)
      refine Be w1 (by rfl) _ _ 79 (by rfl) 2 ((.int .i64 0)) 1 8 Tryz.underlying79 Df rfl (by decide) (S:=(fun b=>(w10.heap.size≤b∧b<wk.heap.size∧own b=0))) (T:=(fun _=>False)) _ (by rfl) V1 ⟨(iv 7).1,0,none⟩ 1 1 [.int .i64 r'.m] (by rfl) (Ax f7') (Tj w1 r'.m) (fun _ _ _ h=>h) (by simp) (by simp [Value.oneCell']) (by omega) (by omega) (by unfold maxLen; omega) ?_;intro g cap w2 hap ht;go_wp2_with fail;exact Ab.mk (hK (.slice (some ⟨g,0,none⟩) (xs.length+1) cap) _ _ nn (by first|rfl|(simp only [Ac,h1,h7])) (ht.more (fun b h=>Or.inl ⟨0,by decide,(Or.inl ⟨rfl,h⟩)⟩)) (fun iv' ag hi=>⟨g,cap,rfl,hap.more (fun b _ h=>by rcases h with h|h|h; exact Ao 0 (by decide) (Or.inl ⟨rfl,h⟩); exact h.elim; exact A5 hi h.1 h.2)⟩))
     ·go_wp2_with fail;exact Ab.mk (hK _ _ _ nn (by first|rfl|(simp only [Ac])) (Aa.refl _) (fun iv' _ _=>rfl))
     obtain ⟨g8,cap8,h8,f8⟩:=dN hd 8;have h9:vs 9=_:=dN hd 9;have K21:=K2.keep (hS.out 1 _ (by kernel_rfl) (Or.inr ⟨rfl,rfl⟩));have k2c0:=K21.c0;have k2z0:=K21.frozen 0;have k2c1:=K21.c1;have k2z1:=K21.frozen 1;have k2lt:=K21.lt;go_wp2_with fail
     exact Ab.mk (hK undef _ _ (fun _=>rfl) (by simp only [Ac,h8,h9]) ((Ar (b0:=wb) (by repeat (first|exact Aa.refl _|apply Aa.set))).more (fun b h=>Or.inl ⟨1,by decide,(Or.inr ⟨rfl,h⟩)⟩)) (fun iv' ag hi=>by
      show Blk _ (wb) 81 [vs 8,.slice bv ys.length bv2]
      rw [h8]
      exact (K21.set 0 _)))
    case hQ=>
     intro iv vs wx hB hSp hd he hbd hsep;have hzB:=hB.size;have h0:vs 0=_:=dE hd 0;have h1:vs 1=_:=dE hd 1;have h2:vs 2=_:=dE hd 2;have h3:vs 3=_:=dE hd 3;have h4:=(dE hd 4).trans hx4.out;have h5:=(dE hd 5).trans hx5.out;have h6:vs 6=_:=dE hd 6;obtain ⟨h7,q7,f7⟩:=dE hd 7;obtain ⟨g8,cap8,h8,f8⟩:=dE hd 8;have h9:vs 9=_:=dE hd 9;have f10:Blk _ (wb) 81 [vs 8,.slice bv ys.length bv2]:=dE hd 10
     have lo8:∀b,foot [] [(8,0),(10,1)] (fun m b=>(m=0∧(w10.heap.size≤b∧b<wk.heap.size∧own b=0))∨(m=1∧b=wb)) 11 8 iv b→(w10.heap.size)≤b:=by
      rintro b ⟨j,hj,hh⟩;have hj':=of_decide_eq_true (List.all_eq_true.1 (show ((A9 [] 11 8).all fun j=>decide (j∈[8]))=true from by kernel_rfl) j hj);simp only [List.mem_cons,List.not_mem_nil,or_false] at hj'
      rcases hj' with rfl
      have q:=(dM hbd 8).1
      rcases hh with hh|⟨m,hm,hg⟩
      ·omega
      simp at hm;subst hm;simp at hg;have q':=Vf b hg;omega
     simp only [Af,Ac]
     have so8:∀b,(foot [] [(8,0),(10,1)] (fun m b=>(m=0∧(w10.heap.size≤b∧b<wk.heap.size∧own b=0))∨(m=1∧b=wb)) 11 8 iv) b→(w10.heap.size≤b∧b<wk.heap.size∧own b=0)∨(wk).heap.size≤b:=by
      rintro b ⟨j,hj,hh⟩;have hj':=of_decide_eq_true (List.all_eq_true.1 (show ((A9 [] 11 8).all fun j=>decide (j∈[8]))=true from by kernel_rfl) j hj);simp only [List.mem_cons,List.not_mem_nil,or_false] at hj'
      rcases hj' with rfl
      have q:=(dM hbd 8).1
      rcases hh with hh|⟨m,hm,hg⟩
      ·exact Or.inr (by omega)
      simp at hm; subst hm; simp at hg; exact Or.inl hg
     rw [h8] at f10;have HW2:=hid (HtA.out wx _ _ _ hz0wx1 hSp.out.size (fun b hb h1 h2=>hSp.out.block b hb (fun ⟨m,hm⟩=>by rcases hm with ⟨_,h⟩|⟨_,h⟩; exact h1 (h.2.2); exact h2 (by rw [h]; exact how1))) f8 (fun b _ h=>so8 b h) f10);have HB2:=hid (HBr.out.trans hB);clear hd he hbd hsep h0 h1 h2 h3 h6 h7 h8 h9 so8 lo8 f8 f10 how1 hwl hwlt HtA HtB V Vf K2 HWD HBr hB hSp;obtain ⟨wx1,rfl⟩:∃v,v=wx:=⟨_,rfl⟩;have HWD:=HW2;have HBr:=HB2;clear HW2 HB2;obtain ⟨ga,rfl⟩:∃v,v=g8:=⟨_,rfl⟩;obtain ⟨ca8,rfl⟩:∃v,v=cap8:=⟨_,rfl⟩;go_wp2_with fail;obtain ⟨own,how1,hwl,hwlt,hA0,hA2,tA,tB⟩:=HWD.out.parts;have HtA:=hid tA;have HtB:=hid tB;have V:=hA2;have Vf:=fun (b:Nat) (h:w10.heap.size≤b∧b<wx1.heap.size∧own b=2)=>And.intro h.1 h.2.1;have K2:=HWD.out.box.1;have hz0wx2:=HBr.out.size;clear hA0 hA2 tA tB;obtain ⟨x4,hx4⟩:=Aj ?a1_4;obtain ⟨x5,hx5⟩:=Aj ?a1_5
     have hGb:∀m b,(fun m b=>(m=0∧(w10.heap.size≤b∧b<wx1.heap.size∧own b=2))∨(m=1∧b=wb)) m b→(w10.heap.size)≤b∧b<(wx1).heap.size:=by
      intro m b hg
      rcases hg with ⟨rfl,hg⟩|⟨rfl,hg⟩
      ·have q:=Vf b hg;omega
      subst hg;have q:=K2.lt;omega
     have hGd:∀m m' b,(fun m b=>(m=0∧(w10.heap.size≤b∧b<wx1.heap.size∧own b=2))∨(m=1∧b=wb)) m b→(fun m b=>(m=0∧(w10.heap.size≤b∧b<wx1.heap.size∧own b=2))∨(m=1∧b=wb)) m' b→m=m':=by
      intro m m' b h h'
      rcases h with ⟨rfl,h⟩|⟨rfl,h⟩<;>rcases h' with ⟨rfl,h'⟩|⟨rfl,h'⟩
      ·rfl
      ·exfalso; rw [h'] at h; have:=h.2.2; omega
      ·exfalso; rw [h] at h'; have:=h'.2.2; omega
      rfl
     refine Aw [] [(8,0),(10,1)] (fun m b=>(m=0∧(w10.heap.size≤b∧b<wx1.heap.size∧own b=2))∨(m=1∧b=wb)) (w10.heap.size) (fun i iv vs wx=>match i with
      |0=>vs 0= .pointer (some ⟨wb,1,none⟩)
      |1=>vs 1= .slice bv ys.length bv2
      |2=>vs 2= .slice (some ⟨b0,o0,none⟩) R.length ca
      |3=>vs 3= .int .i64 k
      |4=>vs 4=x4
      |5=>vs 5=x5
      |6=>vs 6= .int .i64 r'.k
      |7=>vs 7= .slice (some ⟨(iv 7).1,0,none⟩) 1 1∧(iv 7).2=(iv 7).1+1∧Blk wx (iv 7).1 2 [.int .i64 r'.k]
      |8=>∃g cap,vs 8= .slice (some ⟨g,0,none⟩) (ys.length+1) cap∧Al (foot [] [(8,0),(10,1)] (fun m b=>(m=0∧(w10.heap.size≤b∧b<wx1.heap.size∧own b=2))∨(m=1∧b=wb)) 11 8 iv) wx 2 1 (ys.length+1) (ys.map D.int++[.int r'.k]) (.slice (some ⟨g,0,none⟩) (ys.length+1) cap)
      |9=>vs 9= .pointer (some ⟨wb,1,none⟩)
      |10=>Blk wx (wb) 81 [.slice (some ⟨ga,0,none⟩) (xs.length+1) ca8,vs 8]
      |_=>True) (fun i iv vs=>match i with
      |0=>vs 0= .pointer (some ⟨wb,1,none⟩)
      |1=>vs 1= .slice bv ys.length bv2
      |2=>vs 2= .slice (some ⟨b0,o0,none⟩) R.length ca
      |3=>vs 3= .int .i64 k
      |4=>vs 4=x4
      |5=>vs 5=x5
      |6=>vs 6= .int .i64 r'.k
      |7=>vs 7= .slice (some ⟨(iv 7).1,0,none⟩) 1 1∧(iv 7).2=(iv 7).1+1
      |8=>∃g cap,vs 8= .slice (some ⟨g,0,none⟩) (ys.length+1) cap
      |9=>vs 9= .pointer (some ⟨wb,1,none⟩)
      |10=>True
      |_=>True) (by kernel_rfl) (by kernel_rfl) [0,1,2,3,4,5,6,7,8,9,10] (by kernel_rfl) ?hbase ?hGb ?hG ?hJ ?hE ?hEE ?hstep ?hQ
     case hbase=>first|exact Nat.le_refl _|omega|(simp; omega)
     case hGb=>
      exact hGb
     case hG=>
      exact hGd
     case hJ=>
      intro i hi iv iv' vs vs' wx wx' ha hv hz hk hj;simp at hi
      rcases hi with rfl|rfl|rfl|rfl|rfl|rfl|rfl|rfl|rfl|rfl|rfl
      all_goals try exact (aG hv _).symm.trans hj
      ·have e7:=aG hv 7;have g7:=aG ha 7;obtain ⟨q1,q3,q2⟩:=hj
       show vs' 7= .slice (some ⟨(iv' 7).1,0,none⟩) 1 1∧(iv' 7).2=(iv' 7).1+1∧Blk wx' (iv' 7).1 2 [.int .i64 r'.k]
       rw [←e7,←g7];exact ⟨q1,q3,q2.keep (hk.out _ q2.lt (Au (Nat.le_refl _) (by omega)))⟩
      ·have e8:=aG hv 8;obtain ⟨g,cap,q1,q2⟩:=hj;exact ⟨g,cap,e8 ▸ q1,(q2.keep (fun b hb h1=>hk.out b hb h1)).more (fun b hb h1=>At (l:=Am _ 11 8) (by exact of_decide_eq_true (by kernel_rfl)) ha.out h1)⟩
      have e8:=aG hv 8;have hj':Blk wx (wb) 81 [.slice (some ⟨ga,0,none⟩) (xs.length+1) ca8,vs 8]:=hj
      show Blk wx' (wb) 81 [.slice (some ⟨ga,0,none⟩) (xs.length+1) ca8,vs' 8]
      rw [←e8];exact hj'.keep (hk.out _ hj'.lt (Ao 1 (by decide) (Or.inr ⟨rfl,rfl⟩)))
     case hE=>
      intro i hi iv vs wx hj;simp at hi
      rcases hi with rfl|rfl|rfl|rfl|rfl|rfl|rfl|rfl|rfl|rfl|rfl
      all_goals try exact hj
      ·exact ⟨hj.1,hj.2.1⟩
      ·obtain ⟨g,cap,q1, -⟩:=hj;exact ⟨g,cap,q1⟩
      trivial
     case hEE=>
      intro i hi iv iv' vs vs' ha hv hj;simp at hi
      rcases hi with rfl|rfl|rfl|rfl|rfl|rfl|rfl|rfl|rfl|rfl|rfl
      all_goals try exact (aG hv _).symm.trans hj
      ·have e7:=aG hv 7;have g7:=aG ha 7;have hj':vs 7= .slice (some ⟨(iv 7).1,0,none⟩) 1 1∧(iv 7).2=(iv 7).1+1:=hj
       show vs' 7= .slice (some ⟨(iv' 7).1,0,none⟩) 1 1∧(iv' 7).2=(iv' 7).1+1
       rw [←e7,←g7];exact hj'
      ·have e8:=aG hv 8;have hj':∃g cap,vs 8= .slice (some ⟨g,0,none⟩) (ys.length+1) cap:=hj
       show ∃g cap,vs' 8= .slice (some ⟨g,0,none⟩) (ys.length+1) cap
       rw [←e8];exact hj'
      trivial
     case hstep=>
      intro i hi opr ho iv vs w1 hB hS hSo hd he hbd hsep hun K hK;simp at hi;have hzB:=hB.size;have HGb:=hid hGb;clear hGb hGd;obtain ⟨hbl,y0,y1,y2,y3,y4⟩:=I9 (HRD.out.ok w1 (HBr.out.trans hB)) Hr.out;generalize hA:Af _ 0 vs _=A at hK ⊢;simp only [Af,Ac] at hA
      rcases hi with rfl|rfl|rfl|rfl|rfl|rfl|rfl|rfl|rfl|rfl|rfl
      all_goals
       simp at ho;subst ho;subst hA
      ·go_wp2_with fail;exact Ab.mk (hK _ _ _ nn (by first|rfl|(simp only [Ac])) (Aa.refl _) (fun iv' _ _=>rfl))
      ·have h0:vs 0=_:=dN hd 0;have K21:=K2.keep (hS.out 1 _ (by kernel_rfl) (Or.inr ⟨rfl,rfl⟩));have k2c0:=K21.c0;have k2z0:=K21.frozen 0;have k2c1:=K21.c1;have k2z1:=K21.frozen 1;have k2lt:=K21.lt;go_wp2_with fail;exact Ab.mk (hK _ _ _ nn (by first|rfl|(simp only [Ac,h0])) (Aa.refl _) (fun iv' _ _=>rfl))
      ·go_wp2_with fail;exact Ab.mk (hK _ _ _ nn (by first|rfl|(simp only [Ac])) (Aa.refl _) (fun iv' _ _=>rfl))
      ·go_wp2_with fail;exact Ab.mk (hK _ _ _ nn (by first|rfl|(simp only [Ac])) (Aa.refl _) (fun iv' _ _=>rfl))
      ·have h2:vs 2=_:=dN hd 2;have h3:vs 3=_:=dN hd 3;go_wp2_with fail;refine Ab.mk (hK ?val1_4 _ _ nn ?eqA (Aa.refl _) (fun iv' _ _=> ?ja))
       case eqA=>first|rfl|(simp only [Ac,h2,h3]; rfl)
       case ja=>exact hx4.out.symm
      ·have h4:=(dN hd 4).trans hx4.out;go_wp2_with fail;refine Ab.mk (hK ?val1_5 _ _ nn ?eqA (Aa.refl _) (fun iv' _ _=> ?ja))
       case eqA=>first|rfl|(simp only [Ac,h4]; rfl)
       case ja=>exact hx5.out.symm
      ·have h5:=(dN hd 5).trans hx5.out;go_wp2_with fail;exact Ab.mk (hK _ _ _ nn (by first|rfl|(simp only [Ac,h5])) (Aa.refl _) (fun iv' _ _=>rfl))
      ·have h6:vs 6=_:=dN hd 6;go_wp2_with fail
       exact Ab.mk (hK (.slice (some ⟨w1.heap.size,0,none⟩) 1 1) _ _ nn (by first|rfl|(simp only [Ac,h6])) (Aa.of_below (Below.alloc (Below.refl _ _) (Nat.le_refl _) _)) (fun iv' _ hi=>by
        show Value.slice (some ⟨w1.heap.size,0,none⟩) 1 1= .slice (some ⟨(iv' 7).1,0,none⟩) 1 1∧(iv' 7).2=(iv' 7).1+1∧Blk _ (iv' 7).1 2 [.int .i64 r'.k]
        rw [hi]
        exact ⟨rfl,by simp,Blk.new1 _ _ _⟩))
      ·have h1:vs 1=_:=dN hd 1;obtain ⟨h7,q7,f7⟩:=dN hd 7;have V1:=V.keep (fun b _ hb=>hS.out 0 b (by kernel_rfl) (Or.inl ⟨rfl,hb⟩));simp only [h1,h7]
       have f7':Blk w1 (iv 7).1 2 [.int .i64 r'.k]:=by first|exact f7|(rw [h7] at f7; exact f7)
       refine Be w1 (by rfl) _ _ 79 (by rfl) 2 ((.int .i64 0)) 1 8 Tryz.underlying79 Df rfl (by decide) (S:=(fun b=>(w10.heap.size≤b∧b<wx1.heap.size∧own b=2))) (T:=(fun _=>False)) _ (by rfl) V1 ⟨(iv 7).1,0,none⟩ 1 1 [.int .i64 r'.k] (by rfl) (Ax f7') (Tj w1 r'.k) (fun _ _ _ h=>h) (by simp) (by simp [Value.oneCell']) (by omega) (by omega) (by unfold maxLen; omega) ?_;intro g cap w2 hap ht;go_wp2_with fail;exact Ab.mk (hK (.slice (some ⟨g,0,none⟩) (ys.length+1) cap) _ _ nn (by first|rfl|(simp only [Ac,h1,h7])) (ht.more (fun b h=>Or.inl ⟨0,by decide,(Or.inl ⟨rfl,h⟩)⟩)) (fun iv' ag hi=>⟨g,cap,rfl,hap.more (fun b _ h=>by rcases h with h|h|h; exact Ao 0 (by decide) (Or.inl ⟨rfl,h⟩); exact h.elim; exact A5 hi h.1 h.2)⟩))
      ·go_wp2_with fail;exact Ab.mk (hK _ _ _ nn (by first|rfl|(simp only [Ac])) (Aa.refl _) (fun iv' _ _=>rfl))
      obtain ⟨g8,cap8,h8,f8⟩:=dN hd 8;have h9:vs 9=_:=dN hd 9;have K21:=K2.keep (hS.out 1 _ (by kernel_rfl) (Or.inr ⟨rfl,rfl⟩));have k2c0:=K21.c0;have k2z0:=K21.frozen 0;have k2c1:=K21.c1;have k2z1:=K21.frozen 1;have k2lt:=K21.lt;go_wp2_with fail
      exact Ab.mk (hK undef _ _ (fun _=>rfl) (by simp only [Ac,h8,h9]) ((Ar (b0:=wb) (by repeat (first|exact Aa.refl _|apply Aa.set))).more (fun b h=>Or.inl ⟨1,by decide,(Or.inr ⟨rfl,h⟩)⟩)) (fun iv' ag hi=>by
       show Blk _ (wb) 81 [.slice (some ⟨ga,0,none⟩) (xs.length+1) ca8,vs 8]
       rw [h8]
       exact (K21.set 1 _)))
     intro iv vs wx hB hSp hd he hbd hsep;have hzB:=hB.size;have h0:vs 0=_:=dE hd 0;have h1:vs 1=_:=dE hd 1;have h2:vs 2=_:=dE hd 2;have h3:vs 3=_:=dE hd 3;have h4:=(dE hd 4).trans hx4.out;have h5:=(dE hd 5).trans hx5.out;have h6:vs 6=_:=dE hd 6;obtain ⟨h7,q7,f7⟩:=dE hd 7;obtain ⟨g8,cap8,h8,f8⟩:=dE hd 8;have h9:vs 9=_:=dE hd 9;have f10:Blk _ (wb) 81 [.slice (some ⟨ga,0,none⟩) (xs.length+1) ca8,vs 8]:=dE hd 10
     have lo8:∀b,foot [] [(8,0),(10,1)] (fun m b=>(m=0∧(w10.heap.size≤b∧b<wx1.heap.size∧own b=2))∨(m=1∧b=wb)) 11 8 iv b→(w10.heap.size)≤b:=by
      rintro b ⟨j,hj,hh⟩;have hj':=of_decide_eq_true (List.all_eq_true.1 (show ((A9 [] 11 8).all fun j=>decide (j∈[8]))=true from by kernel_rfl) j hj);simp only [List.mem_cons,List.not_mem_nil,or_false] at hj'
      rcases hj' with rfl
      have q:=(dM hbd 8).1
      rcases hh with hh|⟨m,hm,hg⟩
      ·omega
      simp at hm;subst hm;simp at hg;have q':=Vf b hg;omega
     simp only [Af,Ac]
     have so8:∀b,(foot [] [(8,0),(10,1)] (fun m b=>(m=0∧(w10.heap.size≤b∧b<wx1.heap.size∧own b=2))∨(m=1∧b=wb)) 11 8 iv) b→(w10.heap.size≤b∧b<wx1.heap.size∧own b=2)∨(wx1).heap.size≤b:=by
      rintro b ⟨j,hj,hh⟩;have hj':=of_decide_eq_true (List.all_eq_true.1 (show ((A9 [] 11 8).all fun j=>decide (j∈[8]))=true from by kernel_rfl) j hj);simp only [List.mem_cons,List.not_mem_nil,or_false] at hj'
      rcases hj' with rfl
      have q:=(dM hbd 8).1
      rcases hh with hh|⟨m,hm,hg⟩
      ·exact Or.inr (by omega)
      simp at hm; subst hm; simp at hg; exact Or.inl hg
     rw [h8] at f10;have HW2:=hid (HtB.out wx _ _ _ hz0wx2 hSp.out.size (fun b hb h1 h2=>hSp.out.block b hb (fun ⟨m,hm⟩=>by rcases hm with ⟨_,h⟩|⟨_,h⟩; exact h1 (h.2.2); exact h2 (by rw [h]; exact how1))) f8 (fun b _ h=>so8 b h) f10);have HB2:=hid (HBr.out.trans hB);clear hd he hbd hsep h0 h1 h2 h3 h6 h7 h8 h9 so8 lo8 f8 f10 how1 hwl hwlt HtA HtB V Vf K2 HWD HBr hB hSp;obtain ⟨wx2,rfl⟩:∃v,v=wx:=⟨_,rfl⟩;have HWD:=HW2;have HBr:=HB2;clear HW2 HB2;obtain ⟨hbl,y0,y1,y2,y3,y4⟩:=I9 (HRD.out.ok _ HBr.out) Hr.out;rw [Hp1.out] at y2;go_wp2_with fail
     go_roundw
     case rel=>exact ⟨j,xs++[r'.m],ys++[r'.k],_,_,rfl,by omega,by simp; omega,by simp; omega,HWD.out,HBr.out⟩
     case measure=>simp [intOf]; omega
set_option maxRecDepth 100000 in
set_option maxHeartbeats 8000000 in
theorem L8 {t a k n k' n':Int} {ks ks':List Ex} {s s':Option Addr} {c c':Nat} {w:World} (hr:Rd w (Ae ks) (.slice s ks.length c)) (hr':Rd w (Ae ks') (.slice s' ks'.length c')) (h1:Ex.sizeL ks≤1048576) (h2:Ex.sizeL ks'≤1048576):
  Calls Tryz.prog 26 #[.agg #[.int .i64 t,.int .i64 a],.agg #[.int .i64 k,.int .i64 n,.slice s ks.length c],.agg #[.int .i64 k',.int .i64 n',.slice s' ks'.length c']] w fun e w'=>e= .returned (.tuple #[.bool (eqR t a (.mk k n ks) (.mk k' n' ks')),.int .i64 (Bs t a (.mk k n ks) (.mk k' n' ks'))])∧Below w.heap.size w w':=by
 have Hsz:Hid (Ex.size (.mk k n ks)≤1073741824):=by show _≤_; rw [Ex.size_eq]; simp only [Ex.kids]; omega
 have Hsz':Hid (Ex.size (.mk k' n' ks')≤1073741824):=by show _≤_; rw [Ex.size_eq]; simp only [Ex.kids]; omega
 obtain ⟨e,he⟩:∃e,Ex.mk k n ks=e:=⟨_,rfl⟩;obtain ⟨f,hf⟩:∃f,Ex.mk k' n' ks'=f:=⟨_,rfl⟩;rw [he] at Hsz ⊢;rw [hf] at Hsz' ⊢;have He:=hid he;have Hf:=hid hf;clear he hf h1 h2
 cases hcb:(Bs t a e f !=0)
 rotate_left
 ·have HE:Hid (eqR t a e f=false):=by show _=_; unfold eqR; rw [if_neg (by simpa using hcb)]
  go_enter Tryz.func26,Tryz.ntmps26
  go_wp2_with fail;obtain ⟨w1,e1,G,hb1,hz1⟩:=Dl w 25 (.int .i64 t) (.int .i64 a);rw [e1];obtain ⟨w2,e2,X,hb2,hz2⟩:=A7 w1 28 (.int .i64 k) (.int .i64 n) (.slice s ks.length c);rw [e2];obtain ⟨w0,e0,Y,hb3,hz3⟩:=A7 w2 28 (.int .i64 k') (.int .i64 n') (.slice s' ks'.length c');rw [e0];have hB:Below w.heap.size w w0:=(hb1.trans (hb2.mono (by omega))).trans (hb3.mono (by omega));rw [hz1] at X;rw [show w2.heap.size=w.heap.size+1+1 by omega] at Y;replace X:=X.below hb3;replace G:=(G.below hb2).below hb3;clear e1 e2 e0 hb1 hb2 hb3 hz1 hz2 hz3;refine (Jd (e:= .mk k n ks) (f:= .mk k' n' ks') (hr.below hB) (hr'.below hB)).mono ?_;intro g w3 hpost;rw [He.out,Hf.out] at hpost;obtain ⟨v1,v2,rfl,⟨t1,a1,s1,u1,l1,c1,m1,d1,rfl⟩,⟨t2,a2,s2,u2,l2,c2,m2,d2,rfl⟩,hb, -⟩:=hpost;replace hB:=Below.on hB hb hB.size;have hzB:=hB.size;clear hb;go_wp2_with fail;go_ret2;exact ⟨Kl HE.out.symm rfl,bel⟩
 skip
 have hc:Bs t a e f=0:=by simpa using hcb
 obtain ⟨hce,hcf⟩:=Kz hc;obtain ⟨-, -, -, hoke⟩:=Fr hce;obtain ⟨-, -, -, hokf⟩:=Fr hcf;have Hoke:=hid hoke;have Hokf:=hid hokf;have Hc:=hid hc;clear hcb hc hce hcf hoke hokf
 have HE:Hid (eqR t a e f=Nt (auA t a e) (auA t a f) (auX t a e) (auX t a f) (Ah t).toNat a.toNat):=by show _=_; unfold eqR; rw [if_pos Hc.out,Sm]; rfl
 go_enter Tryz.func26,Tryz.ntmps26
 go_wp2_with fail;obtain ⟨w1,e1,G,hb1,hz1⟩:=Dl w 25 (.int .i64 t) (.int .i64 a);rw [e1];obtain ⟨w2,e2,X,hb2,hz2⟩:=A7 w1 28 (.int .i64 k) (.int .i64 n) (.slice s ks.length c);rw [e2];obtain ⟨w0,e0,Y,hb3,hz3⟩:=A7 w2 28 (.int .i64 k') (.int .i64 n') (.slice s' ks'.length c');rw [e0];have hB:Below w.heap.size w w0:=(hb1.trans (hb2.mono (by omega))).trans (hb3.mono (by omega));rw [hz1] at X;rw [show w2.heap.size=w.heap.size+1+1 by omega] at Y;replace X:=X.below hb3;replace G:=(G.below hb2).below hb3;clear e1 e2 e0 hb1 hb2 hb3 hz1 hz2 hz3;refine (Jd (e:= .mk k n ks) (f:= .mk k' n' ks') (hr.below hB) (hr'.below hB)).mono ?_;intro g w3 hpost;rw [He.out,Hf.out] at hpost;obtain ⟨v1,v2,rfl, -, -, hb,hgot⟩:=hpost;obtain ⟨s1,c1,u1,d1,s2,c2,u2,d2,rfl,rfl,hd1,hd2⟩:=hgot Hc.out;rw [Hc.out];replace hB:=Below.on hB hb hB.size;replace G:=G.below hb;clear hb hgot X Y;go_wp2_with fail;obtain ⟨w4,e4,A1,hb4,hz4⟩:=Dx w3 73 (.int .i64 t) (.int .i64 a) (.slice s1 (auA t a e).length c1) (.slice u1 (auX t a e).length d1);rw [e4];obtain ⟨w5,e5,A2,hb5,hz5⟩:=Dx w4 73 (.int .i64 t) (.int .i64 a) (.slice s2 (auA t a f).length c2) (.slice u2 (auX t a f).length d2);rw [e5];replace hB:=(hB.trans (hb4.mono hB.size)).trans (hb5.mono (by have:=hB.size; omega));rw [hz4] at A2;replace A1:=A1.below hb5;replace G:=(G.below hb4).below hb5;have Hd1:=hid ((hd1.below hb4).below hb5);have Hd2:=hid ((hd2.below hb4).below hb5);clear e4 e5 hb4 hb5 hd1 hd2 hz5;refine (Qm Hd1.out Hd2.out Hoke.out Hokf.out).mono ?_;rintro g w6 ⟨p,p',n1,q,n2,q',b1,rfl,hb6⟩;rw [←HE.out];have HB6:=hid (hB.trans (hb6.mono hB.size));have hz6:=hb6.size;have hz6':=HB6.out.size;clear hb6 G A1 A2;obtain ⟨v,hv⟩:∃v,eqR t a e f=v:=⟨_,rfl⟩;rw [hv]
 cases v
 all_goals
  go_wp2_with fail;go_ret2;exact ⟨Kl (by simp [hv]) Hc.out.symm,by have hBx:=HB6.out; (repeat' first|exact Below.refl _ _|assumption|apply Below.alloc|apply Below.drew|apply Below.setCell|omega|(simp; done)|(simp; omega))⟩
end Go.Proofs.YtlchgfbkdjjngaaGreatDoor
