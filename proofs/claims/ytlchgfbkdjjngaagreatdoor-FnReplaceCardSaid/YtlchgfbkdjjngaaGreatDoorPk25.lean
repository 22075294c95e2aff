/-
  Parts of a proof, joined: PutS. No condition.
-/
import Derived.Test.YtlchgfbkdjjngaaGreatDoorPk7
import Derived.Test.YtlchgfbkdjjngaaGreatDoorPk10
import Derived.Test.YtlchgfbkdjjngaaGreatDoorPk24
set_option linter.unusedVariables false
set_option linter.unusedSimpArgs false
namespace Go.Proofs.YtlchgfbkdjjngaaGreatDoor
open Go.ChangeShapes Go.WideShapes Go.ChangeAt Go.RowKit Go.Deep Go.Sort
theorem Ex.tree_act {tm am:Int} {e:Ex} (h:e.tree tm am=true) (hk:e.kind=4):0≤e.num∧e.num≤am:=by
 obtain ⟨k,n,ks⟩:=e;obtain ⟨-, hnum, -, -⟩:=Aq h;simp only [Ex.kind] at hk;subst hk;simp only [Ex.num]
 simp [Ci,inB] at hnum
 omega
theorem U3 {x:Ex} {b o:Nat} {w:World} (h:Ap w b o x) (h1:x.size≤1073741824):Calls Tryz.prog 39 #[.pointer (some ⟨b,o,none⟩)] w fun f w'=>f= .returned (.int .i64 x.size)∧Below w.heap.size w w':=
 (Fp _ x b o w (Nat.le_refl _) h h1).mono fun _ _ ⟨h1,h2⟩=>⟨h1,Cc h2⟩
theorem Cp {w w':World}:Ag w w' [Ae Ex.zerP.kids] [.slice none 0 0]:=by
 refine ⟨[], ?_,by simp,by simp⟩;simp only [Ows,Ex.zerP,Ex.kids,Ae,Ow,Ex.cellsL];exact ⟨_,_,[],[],rfl,rfl,⟨none,0,rfl,by simp,by simp [maxLen],by simp,by simp,Or.inl (by simp)⟩,rfl,rfl⟩
set_option maxRecDepth 100000 in
set_option maxHeartbeats 16000000 in
theorem Uz (W0:World) (bs:List Ex) (pb:Option Addr) (bc lb:Nat) (tm am:Int) (hby:Rd W0 (Ae bs) (.slice pb bs.length bc)) (hlen:(bs.length:Int)=am+1) (hsz:∀x∈bs,x.size≤200) (hlb:W0.heap.size≤lb) (N:Nat):
  ∀(e:Ex) (b o:Nat) (w:World) (left:Int),e.size≤N→Ap W0 b o e→e.size≤1000000→e.tree tm am=true→Below W0.heap.size W0 w→Blk w lb 2 [.int .i64 left]→0≤left→left≤200→
  Calls Tryz.prog 24 #[.pointer (some ⟨b,o,none⟩),.slice pb bs.length bc,.pointer (some ⟨lb,0,none⟩)] w fun f w'=>∃s' c',f= .returned (.agg #[.int .i64 (e.putG bs left).1.kind,.int .i64 (e.putG bs left).1.num,.slice s' (e.putG bs left).1.kids.length c'])∧
   Ag w w' [Ae (e.putG bs left).1.kids] [.slice s' (e.putG bs left).1.kids.length c']∧Aa (fun x=>x=lb) w w'∧Blk w' lb 2 [.int .i64 (e.putG bs left).2]:=by
 have Hbsz:=hid hsz;clear hsz
 induction N using Nat.strongRecOn with
 |_ N ih=>
 intro e b o w left hN hat h1 htr hW0 LB hl0 hl1;have hbl:=hat.lt;obtain ⟨i0,i1,s,c,i2,g3⟩:=hat;have hat:Ap W0 b o e:=⟨i0,i1,s,c,i2,g3⟩;have g0:=(hW0.cell (p:=⟨b,o,none⟩) hbl).trans i0;have g1:=(hW0.cell (p:=⟨b,o+1,none⟩) hbl).trans i1;have g2:=(hW0.cell (p:=⟨b,o+2,none⟩) hbl).trans i2;have hW0z:=hW0.size
 have hblw:b<w.heap.size:=by omega
 have Hlen:=hid hlen
 by_cases hk:e.kind=4
 ·obtain ⟨n0,n1⟩:=Ex.tree_act htr hk;obtain ⟨n,hn⟩:∃n:Nat,e.num=(n:Int):=⟨e.num.toNat,by omega⟩;obtain ⟨x,hx⟩:∃x,bs[n]? =some x:=⟨_,List.getElem?_eq_getElem (by omega)⟩;obtain ⟨pb',po,rfl⟩:=An hby (by intro h; rw [h] at hx; simp at hx);have hxat:=Ay hby hx;have hx2:=Hbsz.out x (List.mem_of_getElem? hx)
  have HR:Hid (e.putG bs left=(if left - (x.size:Int)<0 then Ex.zerP else x,left - (x.size:Int))):=by
   obtain ⟨k,m,ks⟩:=e;simp only [Ex.kind] at hk;simp only [Ex.num] at hn;subst hk hn
   show _=_
   rw [Ex.putG];simp only [if_true,Int.toNat_natCast,List.getD_eq_getElem?_getD,hx,Option.getD_some]
  have d1:(e.kind==4)=true:=by simp [hk]
  have hnl:n<bs.length:=(List.getElem?_eq_some_iff.1 hx).1;have q1:IntKind.i64.wrap (left - (x.size:Int))=left - (x.size:Int):=Ew (by omega) (by omega);have hnz:=Int.natCast_nonneg n
  have hnb:(n:Int)<(bs.length:Int):=by omega
  clear hx hlen n0 n1;have Hk:=hid hk;clear hk htr
  go_enter Tryz.func24,Tryz.ntmps24
  go_wp2_with fail;have R:=Blk.new3 w 28 (.int .i64 0) (.int .i64 0) (.slice none 0 0);have LB2:=LB.alloc (.cells #[.int .i64 0,.int .i64 0,.slice none 0 0] 28);have hBa:Below w.heap.size w (w.alloc (.cells #[.int .i64 0,.int .i64 0,.slice none 0 0] 28)):=Below.alloc (Below.refl _ _) (Nat.le_refl _) _
  have hza:(w.alloc (.cells #[.int .i64 0,.int .i64 0,.slice none 0 0] 28)).heap.size=w.heap.size+1:=by simp
  generalize w.alloc (.cells #[.int .i64 0,.int .i64 0,.slice none 0 0] 28)=w0 at R LB2 hBa hza ⊢;have ltLB:=LB.lt;have hW1:=hW0.trans (hBa.mono (by omega));have Hn:=hid hn;clear g0 g1 g2 hn LB;obtain ⟨x0,hx0⟩:=Aj ?a1_0;obtain ⟨x1,hx1⟩:=Aj ?a1_1;obtain ⟨x3,hx3⟩:=Aj ?a1_3;obtain ⟨x4,hx4⟩:=Aj ?a1_4;obtain ⟨x5,hx5⟩:=Aj ?a1_5;obtain ⟨x6,hx6⟩:=Aj ?a1_6;obtain ⟨x11,hx11⟩:=Aj ?a1_11
  have hGb:∀m b,(fun m b=>(m=0∧b=lb)) m b→(W0.heap.size)≤b∧b<(w0).heap.size:=by
   intro m b hg
   rcases hg with ⟨rfl,hg⟩
   subst hg;have q:=LB2.lt;omega
  have hGd:∀m m' b,(fun m b=>(m=0∧b=lb)) m b→(fun m b=>(m=0∧b=lb)) m' b→m=m':=by
   intro m m' b h h'
   rcases h with ⟨rfl,h⟩<;>rcases h' with ⟨rfl,h'⟩<;>first
    |rfl
  refine Aw [] [(12,0)] (fun m b=>(m=0∧b=lb)) (W0.heap.size) (fun i iv vs wx=>match i with
   |0=>vs 0=x0
   |1=>vs 1=x1
   |2=>vs 2= .int .i64 left
   |3=>vs 3=x3
   |4=>vs 4=x4
   |5=>vs 5=x5
   |6=>vs 6=x6
   |7=>vs 7= .int .i64 n
   |8=>vs 8= .pointer (some ⟨pb',po+n*3,none⟩)
   |9=>vs 9= .int .i64 x.size
   |10=>vs 10= .int .i64 (left - ↑x.size)
   |11=>vs 11=x11
   |12=>Blk wx (lb) 2 [.int .i64 (left - ↑x.size)]
   |_=>True) (fun i iv vs=>match i with
   |0=>vs 0=x0
   |1=>vs 1=x1
   |2=>vs 2= .int .i64 left
   |3=>vs 3=x3
   |4=>vs 4=x4
   |5=>vs 5=x5
   |6=>vs 6=x6
   |7=>vs 7= .int .i64 n
   |8=>vs 8= .pointer (some ⟨pb',po+n*3,none⟩)
   |9=>vs 9= .int .i64 x.size
   |10=>vs 10= .int .i64 (left - ↑x.size)
   |11=>vs 11=x11
   |12=>True
   |_=>True) (by kernel_rfl) (by kernel_rfl) [0,1,2,3,4,5,6,7,8,9,10,11,12] (by kernel_rfl) ?hbase ?hGb ?hG ?hJ ?hE ?hEE ?hstep ?hQ
  case hbase=>first|exact Nat.le_refl _|omega|(simp; omega)
  case hGb=>
   exact hGb
  case hG=>
   exact hGd
  case hJ=>
   intro i hi iv iv' vs vs' wx wx' ha hv hz hk hj;simp at hi
   rcases hi with rfl|rfl|rfl|rfl|rfl|rfl|rfl|rfl|rfl|rfl|rfl|rfl|rfl
   all_goals try exact (aG hv _).symm.trans hj
   have hj':Blk wx (lb) 2 [.int .i64 (left - ↑x.size)]:=hj
   show Blk wx' (lb) 2 [.int .i64 (left - ↑x.size)]
   exact hj'.keep (hk.out _ hj'.lt (Ao 0 (by decide) ⟨rfl,rfl⟩))
  case hE=>
   intro i hi iv vs wx hj;simp at hi
   rcases hi with rfl|rfl|rfl|rfl|rfl|rfl|rfl|rfl|rfl|rfl|rfl|rfl|rfl
   all_goals try exact hj
   trivial
  case hEE=>
   intro i hi iv iv' vs vs' ha hv hj;simp at hi
   rcases hi with rfl|rfl|rfl|rfl|rfl|rfl|rfl|rfl|rfl|rfl|rfl|rfl|rfl
   all_goals try exact (aG hv _).symm.trans hj
   trivial
  case hstep=>
   intro i hi opr ho iv vs w1 hB hS hSo hd he hbd hsep hun K hK;simp at hi;have hzB:=hB.size;have HGb:=hid hGb;clear hGb hGd;have cg1:=((hW1.trans hB).cell (p:=⟨b,o+1,none⟩) hbl).trans (by rw [i1,Hn.out]);generalize hA:Af _ 0 vs _=A at hK ⊢;simp only [Af,Ac] at hA
   rcases hi with rfl|rfl|rfl|rfl|rfl|rfl|rfl|rfl|rfl|rfl|rfl|rfl|rfl
   all_goals
    simp at ho;subst ho;subst hA
   ·go_wp2_with fail;refine Ab.mk (hK ?val1_0 _ _ nn ?eqA (Aa.refl _) (fun iv' _ _=> ?ja))
    case eqA=>first|rfl|(simp only [Ac]; rfl)
    case ja=>exact hx0.out.symm
   ·have h0:=(dN hd 0).trans hx0.out;go_wp2_with fail;refine Ab.mk (hK ?val1_1 _ _ nn ?eqA (Aa.refl _) (fun iv' _ _=> ?ja))
    case eqA=>first|rfl|(simp only [Ac,h0]; rfl)
    case ja=>exact hx1.out.symm
   ·have h1:=(dN hd 1).trans hx1.out;have LB21:=LB2.keep (hS.out 0 _ (by kernel_rfl) ⟨rfl,rfl⟩);have lb2c0:=LB21.c0;have lb2z0:=LB21.frozen 0;have lb2lt:=LB21.lt;go_wp2_with fail;exact Ab.mk (hK _ _ _ nn (by first|rfl|(simp only [Ac,h1])) (Aa.refl _) (fun iv' _ _=>rfl))
   ·go_wp2_with fail;refine Ab.mk (hK ?val1_3 _ _ nn ?eqA (Aa.refl _) (fun iv' _ _=> ?ja))
    case eqA=>first|rfl|(simp only [Ac]; rfl)
    case ja=>exact hx3.out.symm
   ·go_wp2_with fail;refine Ab.mk (hK ?val1_4 _ _ nn ?eqA (Aa.refl _) (fun iv' _ _=> ?ja))
    case eqA=>first|rfl|(simp only [Ac]; rfl)
    case ja=>exact hx4.out.symm
   ·have h4:=(dN hd 4).trans hx4.out;go_wp2_with fail;refine Ab.mk (hK ?val1_5 _ _ nn ?eqA (Aa.refl _) (fun iv' _ _=> ?ja))
    case eqA=>first|rfl|(simp only [Ac,h4]; rfl)
    case ja=>exact hx5.out.symm
   ·have h5:=(dN hd 5).trans hx5.out;go_wp2_with fail;refine Ab.mk (hK ?val1_6 _ _ nn ?eqA (Aa.refl _) (fun iv' _ _=> ?ja))
    case eqA=>first|rfl|(simp only [Ac,h5]; rfl)
    case ja=>exact hx6.out.symm
   ·have h6:=(dN hd 6).trans hx6.out;go_wp2_with fail;exact Ab.mk (hK _ _ _ nn (by first|rfl|(simp only [Ac,h6])) (Aa.refl _) (fun iv' _ _=>rfl))
   ·have h3:=(dN hd 3).trans hx3.out;have h7:vs 7=_:=dN hd 7;go_wp2_with fail;exact Ab.mk (hK _ _ _ nn (by first|rfl|(simp only [Ac,h3,h7])) (Aa.refl _) (fun iv' _ _=>rfl))
   ·have h8:vs 8=_:=dN hd 8;go_wp2_with fail;refine (U3 (hxat.below (hW1.trans hB)) (by omega)).mono ?_;rintro e w2 ⟨rfl,hb⟩;go_wp2_with fail;exact Ab.mk (hK (.int .i64 x.size) _ _ nn (by first|rfl|(simp only [Ac,h8])) (Aa.of_below hb) (fun iv' _ _=>rfl))
   ·have h2:vs 2=_:=dN hd 2;have h9:vs 9=_:=dN hd 9;go_wp2_with fail;exact Ab.mk (hK _ _ _ nn (by first|rfl|(simp only [Ac,h2,h9])) (Aa.refl _) (fun iv' _ _=>rfl))
   ·have h0:=(dN hd 0).trans hx0.out;go_wp2_with fail;refine Ab.mk (hK ?val1_11 _ _ nn ?eqA (Aa.refl _) (fun iv' _ _=> ?ja))
    case eqA=>first|rfl|(simp only [Ac,h0]; rfl)
    case ja=>exact hx11.out.symm
   have h11:=(dN hd 11).trans hx11.out;have h10:vs 10=_:=dN hd 10;have LB21:=LB2.keep (hS.out 0 _ (by kernel_rfl) ⟨rfl,rfl⟩);have lb2c0:=LB21.c0;have lb2z0:=LB21.frozen 0;have lb2lt:=LB21.lt;go_wp2_with fail
   exact Ab.mk (hK undef _ _ (fun _=>rfl) (by simp only [Ac,h11,h10]) ((Ar (b0:=lb) (by repeat (first|exact Aa.refl _|apply Aa.set))).more (fun b h=>Or.inl ⟨0,by decide,⟨rfl,h⟩⟩)) (fun iv' ag hi=>by
    show Blk _ (lb) 2 [.int .i64 (left - ↑x.size)]
    exact (LB21.set 0 _)))
  case hQ=>
   intro iv vs wx hB hSp hd he hbd hsep;have hzB:=hB.size;have h0:=(dE hd 0).trans hx0.out;have h1:=(dE hd 1).trans hx1.out;have h2:vs 2=_:=dE hd 2;have h3:=(dE hd 3).trans hx3.out;have h4:=(dE hd 4).trans hx4.out;have h5:=(dE hd 5).trans hx5.out;have h6:=(dE hd 6).trans hx6.out;have h7:vs 7=_:=dE hd 7;have h8:vs 8=_:=dE hd 8;have h9:vs 9=_:=dE hd 9;have h10:vs 10=_:=dE hd 10;have h11:=(dE hd 11).trans hx11.out;have f12:Blk _ (lb) 2 [.int .i64 (left - ↑x.size)]:=dE hd 12;simp only [Af,Ac];have RX:=R.keep (hSp.out.block _ R.lt (by rintro ⟨m,hm⟩; have q:=hm.2; omega));have hSpx:Aa (fun x=>x=lb) w wx:=⟨hSp.out.os.trans hBa.os,hSp.out.tape.trans hBa.tape,hSp.out.output.trans hBa.output,by have:=hSp.out.size; omega,fun y hy hn=>(hSp.out.block y (by omega) (by rintro ⟨m,hm⟩; exact hn hm.2)).trans (hBa.block y hy)⟩;have hWx:=hW1.trans hB;clear hd he hbd hsep h0 h1 h2 h3 h4 h5 h6 h7 h8 h9 h10 h11 R LB2 hSp hB;have lc0:=f12.c0;obtain ⟨r0,r1,r2,z0,z1,z2,ltX⟩:=RX.all3;have szX:=hSpx.size;simp only [Nat.zero_add,Nat.reduceAdd]
   by_cases hneg:left - (x.size:Int)<0
   ·have hd1:decide (left - (x.size:Int)<0)=true:=by simpa using hneg
    have HR':Hid (e.putG bs left=(Ex.zerP,left - (x.size:Int))):=by have q:=HR.out; rw [if_pos hneg] at q; exact q
    clear HR hneg;obtain ⟨w5,e5,T2,hs5⟩:=zZ3 RX (.int .i64 0) (.int .i64 0) (.slice none 0 0);go_wp2_with fail;clear e5;have t0:=T2.c0;have t1:=T2.c1;have t2:=T2.c2;have f5:=f12.keep (hs5.block _ f12.lt (by omega));have hSp5:Aa (fun y=>y=lb) w w5:=⟨hs5.os.trans hSpx.os,hs5.tape.trans hSpx.tape,hs5.output.trans hSpx.output,by have:=hs5.size; omega,fun y hy hn=>(hs5.block y (by omega) (by omega)).trans (hSpx.block y hy hn)⟩;refine bodyPost_ret (v:= .agg #[.int .i64 0,.int .i64 0,.slice none 0 0]) (by simp [results,Tryz.results24,go_sem,t0,t1,t2]) rfl ?_;rw [HR'.out];exact ⟨none,0,rfl,Cp,hSp5,f5⟩
   have hd1:decide (left - (x.size:Int)<0)=false:=by simpa using hneg
   have HR':Hid (e.putG bs left=(x,left - (x.size:Int))):=by have q:=HR.out; rw [if_neg hneg] at q; exact q
   have cg1:=(hWx.cell (p:=⟨b,o+1,none⟩) hbl).trans (by rw [i1,Hn.out]);clear HR hneg;go_wp2_with fail;clear r0 r1 r2 z0 z1 z2 lc0 cg1;refine (Ll _ x _ _ _ (Nat.le_refl _) (hxat.below hWx) (by omega)).mono ?_;rintro f w4 ⟨s',c',rfl,hf,hb⟩;simp only [Ex.same] at hf ⊢;have RX4:=RX.below hb;have f4:=f12.below hb;have sz4:=hb.size;obtain ⟨r0,r1,r2,z0,z1,z2,lt4⟩:=RX4.all3;obtain ⟨w5,e5,T2,hs5⟩:=zZ3 RX4 (.int .i64 x.kind) (.int .i64 x.num) (.slice s' x.kids.length c');go_wp2_with fail;clear e5;have t0:=T2.c0;have t1:=T2.c1;have t2:=T2.c2;have f5:=f4.keep (hs5.block _ f4.lt (by omega));have hSp5:Aa (fun y=>y=lb) w w5:=⟨hs5.os.trans (hb.os.trans hSpx.os),hs5.tape.trans (hb.tape.trans hSpx.tape),hs5.output.trans (hb.output.trans hSpx.output),by have:=hs5.size; omega,fun y hy hn=>(hs5.block y (by omega) (by omega)).trans ((hb.block y (by omega)).trans (hSpx.block y hy hn))⟩;refine bodyPost_ret (v:= .agg #[.int .i64 x.kind,.int .i64 x.num,.slice s' x.kids.length c']) (by simp [results,Tryz.results24,go_sem,t0,t1,t2]) rfl ?_;rw [HR'.out];obtain ⟨F,F1,F2,F3⟩:=hf;exact ⟨s',c',rfl,⟨F,F1.keep fun y hy=>hs5.block y (F1.lt y hy) (by have:=F3 y hy; omega),F2,fun y hy=>by have:=F3 y hy; omega⟩,hSp5,f5⟩
 have HR:Hid (e.putG bs left=(.mk e.kind e.num (Ex.putsG bs e.kids (left - 1)).1,(Ex.putsG bs e.kids (left - 1)).2)):=by
  obtain ⟨k,m,ks⟩:=e;simp only [Ex.kind] at hk
  show _=_
  rw [Ex.putG];simp only [if_neg hk,Ex.kind,Ex.num,Ex.kids]
 have d1:(e.kind==4)=false:=by simp [hk]
 have q1:IntKind.i64.wrap (left - 1)=left - 1:=Ew (by omega) (by omega)
 have hkid:∀(i:Nat) x,e.kids[i]? =some x→x.tree tm am=true∧x.size<N∧x.size≤1000000:=by
  intro i x hx;obtain ⟨k,m,ks⟩:=e;have hm:=List.mem_of_getElem? hx;have h2:=Ex.sizeL_mem hm;have h3:=Ex.size_eq (.mk k m ks);exact ⟨Ex.treeL_mem (Aq htr).2.2.2 hm,by omega,by omega⟩
 have Hkid:=hid hkid;obtain ⟨-, hklen,hkcap, -, -⟩:=A0 g3;unfold maxLen at hkcap
 have hkm:e.kids.length≤1000000:=by have h2:=Ex.length_le_sizeL e.kids; have h3:=Ex.size_eq e; omega
 have Hbd:=hid (Ex.putsG_bd bs 200 Hbsz.out (by omega));have lc0:=LB.c0;have lz0:=LB.frozen 0;have ltLB:=LB.lt;clear hkid hk htr hlen
 go_enter Tryz.func24,Tryz.ntmps24
 go_wp2_with fail;clear lc0 lz0 g0 g1 g2;have LB1:=LB.set 0 (.int .i64 (left - 1));have hsa:Aa (fun x=>x=lb) w (w.setCell ⟨lb,0,none⟩ (.int .i64 (left - 1))):=Aa.set (Aa.refl w)
 have hz0:(w.setCell ⟨lb,0,none⟩ (.int .i64 (left - 1))).heap.size=w.heap.size:=by simp [World.setCell]
 generalize w.setCell ⟨lb,0,none⟩ (.int .i64 (left - 1))=w0 at LB1 hsa hz0 ⊢;have R1:=Blk.new3 w0 28 (.int .i64 0) (.int .i64 0) (.slice none 0 0);rw [hz0] at R1;have LB2:=LB1.alloc (.cells #[.int .i64 0,.int .i64 0,.slice none 0 0] 28);have hBa:Below w0.heap.size w0 (w0.alloc (.cells #[.int .i64 0,.int .i64 0,.slice none 0 0] 28)):=Below.alloc (Below.refl _ _) (Nat.le_refl _) _
 have hza:(w0.alloc (.cells #[.int .i64 0,.int .i64 0,.slice none 0 0] 28)).heap.size=w.heap.size+1:=by simp [hz0]
 generalize w0.alloc (.cells #[.int .i64 0,.int .i64 0,.slice none 0 0] 28)=w1 at R1 LB2 hBa hza ⊢;have hSa:Aa (fun x=>x=lb) w w1:=hsa.trans (Aa.of_below hBa);have hW1:=hW0.trans (hSa.below (B:=W0.heap.size) (by omega) (fun y hy=>by omega));clear LB LB1 hBa hsa hz0;obtain ⟨x0,hx0⟩:=Aj ?a3_0;obtain ⟨x1,hx1⟩:=Aj ?a3_1;obtain ⟨x2,hx2⟩:=Aj ?a3_2;obtain ⟨x4,hx4⟩:=Aj ?a3_4;obtain ⟨x5,hx5⟩:=Aj ?a3_5;obtain ⟨x6,hx6⟩:=Aj ?a3_6
 refine Aw [(10,9)] [] (fun _ _=>False) (w1.heap.size) (fun i iv vs wx=>match i with
  |0=>vs 0=x0
  |1=>vs 1=x1
  |2=>vs 2=x2
  |3=>vs 3= .int .i64 e.kind
  |4=>vs 4=x4
  |5=>vs 5=x5
  |6=>vs 6=x6
  |7=>vs 7= .int .i64 e.num
  |8=>vs 8= .agg #[.int .i64 e.kind,.int .i64 e.num,.slice none 0 0]
  |9=>vs 9= .pointer (some ⟨(iv 9).1,0,none⟩)∧(iv 9).2=(iv 9).1+1∧Blk wx (iv 9).1 28 [.int .i64 0,.int .i64 0,.slice none 0 0]
  |10=>(iv 9).2=(iv 9).1+1∧Blk wx ((iv 9).1) 28 [.int .i64 e.kind,.int .i64 e.num,.slice none 0 0]
  |_=>True) (fun i iv vs=>match i with
  |0=>vs 0=x0
  |1=>vs 1=x1
  |2=>vs 2=x2
  |3=>vs 3= .int .i64 e.kind
  |4=>vs 4=x4
  |5=>vs 5=x5
  |6=>vs 6=x6
  |7=>vs 7= .int .i64 e.num
  |8=>vs 8= .agg #[.int .i64 e.kind,.int .i64 e.num,.slice none 0 0]
  |9=>vs 9= .pointer (some ⟨(iv 9).1,0,none⟩)∧(iv 9).2=(iv 9).1+1
  |10=>True
  |_=>True) (by kernel_rfl) (by kernel_rfl) [0,1,2,3,4,5,6,7,8,9,10] (by kernel_rfl) ?hbase ?hGb ?hG ?hJ ?hE ?hEE ?hstep ?hQ
 case hbase=>first|exact Nat.le_refl _|omega|(simp; omega)
 case hGb=>
  exact fun _ _ h=>h.elim
 case hG=>
  exact fun _ _ _ h=>h.elim
 case hJ=>
  intro i hi iv iv' vs vs' wx wx' ha hv hz hk hj;simp at hi
  rcases hi with rfl|rfl|rfl|rfl|rfl|rfl|rfl|rfl|rfl|rfl|rfl
  all_goals try exact (aG hv _).symm.trans hj
  ·have e9:=aG hv 9;have g9:=aG ha 9;obtain ⟨q1,q3,q2⟩:=hj
   show vs' 9= .pointer (some ⟨(iv' 9).1,0,none⟩)∧(iv' 9).2=(iv' 9).1+1∧Blk wx' (iv' 9).1 28 [.int .i64 0,.int .i64 0,.slice none 0 0]
   rw [←e9,←g9];exact ⟨q1,q3,q2.keep (hk.out _ q2.lt (Au (Nat.le_refl _) (by omega)))⟩
  have g9:=aG ha 9;have hj':(iv 9).2=(iv 9).1+1∧Blk wx ((iv 9).1) 28 [.int .i64 e.kind,.int .i64 e.num,.slice none 0 0]:=hj
  show (iv' 9).2=(iv' 9).1+1∧Blk wx' ((iv' 9).1) 28 [.int .i64 e.kind,.int .i64 e.num,.slice none 0 0]
  rw [←g9];exact ⟨hj'.1,hj'.2.keep (hk.out _ hj'.2.lt ⟨9,Az (by kernel_rfl),Or.inl ⟨Nat.le_refl _,by omega⟩⟩)⟩
 case hE=>
  intro i hi iv vs wx hj;simp at hi
  rcases hi with rfl|rfl|rfl|rfl|rfl|rfl|rfl|rfl|rfl|rfl|rfl
  all_goals try exact hj
  ·exact ⟨hj.1,hj.2.1⟩
  trivial
 case hEE=>
  intro i hi iv iv' vs vs' ha hv hj;simp at hi
  rcases hi with rfl|rfl|rfl|rfl|rfl|rfl|rfl|rfl|rfl|rfl|rfl
  all_goals try exact (aG hv _).symm.trans hj
  ·have e9:=aG hv 9;have g9:=aG ha 9;have hj':vs 9= .pointer (some ⟨(iv 9).1,0,none⟩)∧(iv 9).2=(iv 9).1+1:=hj
   show vs' 9= .pointer (some ⟨(iv' 9).1,0,none⟩)∧(iv' 9).2=(iv' 9).1+1
   rw [←e9,←g9];exact hj'
  trivial
 case hstep=>
  intro i hi opr ho iv vs w1 hB hS hSo hd he hbd hsep hun K hK;simp at hi;have hzB:=hB.size;have cg0:=((hW1.trans (hB.mono (by omega))).cell (p:=⟨b,o,none⟩) hbl).trans i0;have cg1:=((hW1.trans (hB.mono (by omega))).cell (p:=⟨b,o+1,none⟩) hbl).trans i1;generalize hA:Af _ 0 vs _=A at hK ⊢;simp only [Af,Ac] at hA
  rcases hi with rfl|rfl|rfl|rfl|rfl|rfl|rfl|rfl|rfl|rfl|rfl
  all_goals
   simp at ho;subst ho;subst hA
  ·go_wp2_with fail;refine Ab.mk (hK ?val3_0 _ _ nn ?eqA (Aa.refl _) (fun iv' _ _=> ?ja))
   case eqA=>first|rfl|(simp only [Ac]; rfl)
   case ja=>exact hx0.out.symm
  ·have h0:=(dN hd 0).trans hx0.out;go_wp2_with fail;refine Ab.mk (hK ?val3_1 _ _ nn ?eqA (Aa.refl _) (fun iv' _ _=> ?ja))
   case eqA=>first|rfl|(simp only [Ac,h0]; rfl)
   case ja=>exact hx1.out.symm
  ·have h1:=(dN hd 1).trans hx1.out;go_wp2_with fail;refine Ab.mk (hK ?val3_2 _ _ nn ?eqA (Aa.refl _) (fun iv' _ _=> ?ja))
   case eqA=>first|rfl|(simp only [Ac,h1]; rfl)
   case ja=>exact hx2.out.symm
  ·have h2:=(dN hd 2).trans hx2.out;go_wp2_with fail;exact Ab.mk (hK _ _ _ nn (by first|rfl|(simp only [Ac,h2])) (Aa.refl _) (fun iv' _ _=>rfl))
  ·go_wp2_with fail;refine Ab.mk (hK ?val3_4 _ _ nn ?eqA (Aa.refl _) (fun iv' _ _=> ?ja))
   case eqA=>first|rfl|(simp only [Ac]; rfl)
   case ja=>exact hx4.out.symm
  ·have h4:=(dN hd 4).trans hx4.out;go_wp2_with fail;refine Ab.mk (hK ?val3_5 _ _ nn ?eqA (Aa.refl _) (fun iv' _ _=> ?ja))
   case eqA=>first|rfl|(simp only [Ac,h4]; rfl)
   case ja=>exact hx5.out.symm
  ·have h5:=(dN hd 5).trans hx5.out;go_wp2_with fail;refine Ab.mk (hK ?val3_6 _ _ nn ?eqA (Aa.refl _) (fun iv' _ _=> ?ja))
   case eqA=>first|rfl|(simp only [Ac,h5]; rfl)
   case ja=>exact hx6.out.symm
  ·have h6:=(dN hd 6).trans hx6.out;go_wp2_with fail;exact Ab.mk (hK _ _ _ nn (by first|rfl|(simp only [Ac,h6])) (Aa.refl _) (fun iv' _ _=>rfl))
  ·have h3:vs 3=_:=dN hd 3;have h7:vs 7=_:=dN hd 7;go_wp2_with fail;exact Ab.mk (hK _ _ _ nn (by first|rfl|(simp only [Ac,h3,h7])) (Aa.refl _) (fun iv' _ _=>rfl))
  ·go_wp2_with fail
   exact Ab.mk (hK (.pointer (some ⟨w1.heap.size,0,none⟩)) _ _ nn (by first|rfl|(simp only [Ac])) (Aa.of_below (Below.alloc (Below.refl _ _) (Nat.le_refl _) _)) (fun iv' _ hi=>by
    show Value.pointer (some ⟨w1.heap.size,0,none⟩)= .pointer (some ⟨(iv' 9).1,0,none⟩)∧(iv' 9).2=(iv' 9).1+1∧Blk _ (iv' 9).1 28 [.int .i64 0,.int .i64 0,.slice none 0 0]
    rw [hi]
    exact ⟨rfl,by simp,Blk.new3 _ _ _ _ _⟩))
  have h8:vs 8=_:=dN hd 8;obtain ⟨h9,q9,f9⟩:=dN hd 9;have bc0:=f9.c0;have bz0:=f9.frozen 0;have bc1:=f9.c1;have bz1:=f9.frozen 1;have bc2:=f9.c2;have bz2:=f9.frozen 2;have blt:=f9.lt;go_wp2_with fail
  exact Ab.mk (hK undef _ _ (fun _=>rfl) (by simp only [Ac,h8,h9]) ((Ar (b0:=(iv 9).1) (by repeat (first|exact Aa.refl _|apply Aa.set))).more (fun b h=>Or.inr ⟨9,by decide,Au (by omega) (by omega)⟩)) (fun iv' ag hi=>by
   show (iv' 9).2=(iv' 9).1+1∧Blk _ ((iv' 9).1) 28 [.int .i64 e.kind,.int .i64 e.num,.slice none 0 0]
   rw [←ag.out 9 (Az (by kernel_rfl))]
   exact ⟨q9,(((f9.set 0 _).set 1 _).set 2 _)⟩))
 case hQ=>
  intro iv vs wx hB hSp hd he hbd hsep;have hzB:=hB.size;have h0:=(dE hd 0).trans hx0.out;have h1:=(dE hd 1).trans hx1.out;have h2:=(dE hd 2).trans hx2.out;have h3:vs 3=_:=dE hd 3;have h4:=(dE hd 4).trans hx4.out;have h5:=(dE hd 5).trans hx5.out;have h6:=(dE hd 6).trans hx6.out;have h7:vs 7=_:=dE hd 7;have h8:vs 8=_:=dE hd 8;obtain ⟨h9,q9⟩:=dM he 9;obtain ⟨q10,f10⟩:=dE hd 10;simp only [Af,Ac];obtain ⟨rb,hrb⟩:∃rb,(iv 9).1=rb:=⟨_,rfl⟩;have b9:=(dM hbd 9).1;rw [hrb] at h9 f10 b9;simp only [h9];simp only [Nat.zero_add,Nat.reduceAdd];clear hd he hbd hsep h0 h1 h2 h3 h4 h5 h6 h7 h8 h9 q9 q10 hrb hSp;have RZ:=R1.below hB;have LBZ:=LB2.below hB;have hSz:Aa (fun x=>x=lb) w wx:=hSa.trans (Aa.of_below (hB.mono (Nat.le_refl _)));have hWz:=hW1.trans (hB.mono (by omega));have ltR:=f10.lt;have szz:=hB.size;obtain ⟨wz,rfl⟩:∃wz:World,wz=wx:=⟨_,rfl⟩;clear R1 LB2 hSa hW1 hB;go_wp2_with fail
  go_loopw [8] (fun i wr=>∃(v:Value) (l:Int) (es:List Ex),es.length≤e.kids.length∧i= .int .i64 es.length∧Hid (Ex.putsG bs (e.kids.take es.length) (left - 1)=(es,l))∧ -200≤l∧l≤200∧
    Blk wr rb 28 [.int .i64 e.kind,.int .i64 e.num,v]∧App wz wr 28 3 es.length (Ex.cellsL es) v∧Blk wr lb 2 [.int .i64 l]∧Aa (fun x=>x=lb∨w.heap.size+1≤x) wz wr) (fun i _=>e.kids.length - (intOf i).toNat)
  case atStart=>exact ⟨.slice none 0 0,left - 1,[],by simp,rfl,by show _=_; simp [Ex.putsG],by omega,by omega,f10,by simpa [Ex.cellsL] using App.nil,LBZ,Aa.refl _⟩
  case round=>
   clear f10 LBZ;obtain ⟨v,l,es,hle,rfl,HP,hl2,hl3,R,happ,LB2,hFr⟩:=hrel;have szr:=hFr.size;have hWr:Below W0.heap.size W0 wr:=hWz.trans (hFr.below (by omega) (fun y hy=>by omega));have lc0:=LB2.c0;have g2r:=(hWr.cell (p:=⟨b,o+2,none⟩) hbl).trans i2
   by_cases hgo:es.length<e.kids.length∧0≤l
   ·obtain ⟨hlt,hl0'⟩:=hgo;obtain ⟨x,hx⟩:∃x,e.kids[es.length]? =some x:=⟨_,List.getElem?_eq_getElem hlt⟩;obtain ⟨k1,k2,k3⟩:=Hkid.out _ x hx;obtain ⟨kb,ko,rfl⟩:=An g3 (by intro h; simp [h] at hlt);have hxat:=Ay g3 hx;obtain ⟨y,l2,hy⟩:∃y l2,x.putG bs l=(y,l2):=⟨_,_,rfl⟩;have hlb2:=Hbd.out x l hl0';rw [hy] at hlb2;simp only at hlb2;obtain ⟨hb2,hb3⟩:=hlb2
    have HP2:Hid (Ex.putsG bs (e.kids.take (es.length+1)) (left - 1)=(es++[y],l2)):=by
     have h2:=(List.getElem?_eq_some_iff.1 hx).2
     show _=_
     rw [List.take_succ_eq_append_getElem hlt,h2,Ex.putsG_snoc,HP.out];simp only [if_neg (show ¬l<0 by omega),hy]
    have ihp:=fun (wq:World) (p1:Below W0.heap.size W0 wq) (p2:Blk wq lb 2 [.int .i64 l])=>ih _ k2 x kb (ko+es.length*3) wq l (Nat.le_refl _) hxat k3 k1 p1 p2 hl0' (by omega);rw [hy] at ihp;simp only at ihp;have Hih:=hid ihp
    have Hds:Hid (Ex.cellsL (es++[y])=Ex.cellsL es++[.int y.kind,.int y.num,Ae y.kids]):=by show _=_; rw [Ex.cellsL_append]; simp [Ex.cellsL,Ex.cells_eq]
    obtain ⟨Fs,V,Vf⟩:=happ.foot
    have hd2:decide (0≤l)=true:=by simpa using hl0'
    have hesz:=Int.natCast_nonneg es.length
    have hesb:(es.length:Int)<(e.kids.length:Int):=by omega
    have ltLr:=LB2.lt;clear hx hy ihp;go_wp2_with fail;clear lc0 g2r
    have hGb:∀m b,(fun m b=>(m=0∧b∈Fs)∨(m=1∧b=rb)∨(m=2∧b=lb)) m b→(W0.heap.size)≤b∧b<(wr).heap.size:=by
     intro m b hg
     rcases hg with ⟨rfl,hg⟩|⟨rfl,hg⟩|⟨rfl,hg⟩
     ·have q:=Vf b hg;omega
     ·subst hg;have q:=R.lt;omega
     subst hg;have q:=LB2.lt;omega
    have hGd:∀m m' b,(fun m b=>(m=0∧b∈Fs)∨(m=1∧b=rb)∨(m=2∧b=lb)) m b→(fun m b=>(m=0∧b∈Fs)∨(m=1∧b=rb)∨(m=2∧b=lb)) m' b→m=m':=by
     intro m m' b h h'
     rcases h with ⟨rfl,h⟩|⟨rfl,h⟩|⟨rfl,h⟩<;>rcases h' with ⟨rfl,h'⟩|⟨rfl,h'⟩|⟨rfl,h'⟩<;>first
      |rfl
      |(exfalso; have q:=Vf b h; omega)|(exfalso; have q:=Vf b h'; omega)
      |(exfalso; have q:=Vf b h; omega)|(exfalso; have q:=Vf b h'; omega)
      |(exfalso; omega)
    refine Aw [(12,10)] [(10,2),(12,0),(14,1)] (fun m b=>(m=0∧b∈Fs)∨(m=1∧b=rb)∨(m=2∧b=lb)) (W0.heap.size) (fun i iv vs wx=>match i with
     |0=>vs 0= .pointer (some ⟨rb,2,none⟩)
     |1=>vs 1=v
     |2=>vs 2= .pointer (some ⟨b,o,none⟩)
     |3=>vs 3= .pointer (some ⟨b,o,none⟩)
     |4=>vs 4= .pointer (some ⟨b,o+2,none⟩)
     |5=>vs 5= .slice (some ⟨kb,ko,none⟩) e.kids.length c
     |6=>vs 6= .int .i64 es.length
     |7=>vs 7= .pointer (some ⟨kb,ko+es.length*3,none⟩)
     |8=>vs 8= .slice pb bs.length bc
     |9=>vs 9= .pointer (some ⟨lb,0,none⟩)
     |10=>∃s2 c2,vs 10= .agg #[.int .i64 y.kind,.int .i64 y.num,.slice s2 y.kids.length c2]∧B3 (iv 10) wx [Ae y.kids] [.slice s2 y.kids.length c2]∧Blk wx (lb) 2 [.int .i64 l2]
     |11=>vs 11= .slice (some ⟨(iv 11).1,0,none⟩) 1 1∧(iv 11).2=(iv 11).1+1∧Blk wx (iv 11).1 28 [Ad (vs 10) 0,Ad (vs 10) 1,Ad (vs 10) 2]
     |12=>∃g cap,vs 12= .slice (some ⟨g,0,none⟩) (es.length+1) cap∧Al (fun b=>(foot [(12,10)] [(10,2),(12,0),(14,1)] (fun m b=>(m=0∧b∈Fs)∨(m=1∧b=rb)∨(m=2∧b=lb)) 15 12 iv) b∧b≠lb) wx 28 3 (es.length+1) (Ex.cellsL es++[.int y.kind,.int y.num,Ae y.kids]) (.slice (some ⟨g,0,none⟩) (es.length+1) cap)∧Blk wx (lb) 2 [.int .i64 l2]
     |13=>vs 13= .pointer (some ⟨rb,2,none⟩)
     |14=>Blk wx (rb) 28 [.int .i64 e.kind,.int .i64 e.num,vs 12]
     |_=>True) (fun i iv vs=>match i with
     |0=>vs 0= .pointer (some ⟨rb,2,none⟩)
     |1=>vs 1=v
     |2=>vs 2= .pointer (some ⟨b,o,none⟩)
     |3=>vs 3= .pointer (some ⟨b,o,none⟩)
     |4=>vs 4= .pointer (some ⟨b,o+2,none⟩)
     |5=>vs 5= .slice (some ⟨kb,ko,none⟩) e.kids.length c
     |6=>vs 6= .int .i64 es.length
     |7=>vs 7= .pointer (some ⟨kb,ko+es.length*3,none⟩)
     |8=>vs 8= .slice pb bs.length bc
     |9=>vs 9= .pointer (some ⟨lb,0,none⟩)
     |10=>∃s2 c2,vs 10= .agg #[.int .i64 y.kind,.int .i64 y.num,.slice s2 y.kids.length c2]
     |11=>vs 11= .slice (some ⟨(iv 11).1,0,none⟩) 1 1∧(iv 11).2=(iv 11).1+1
     |12=>∃g cap,vs 12= .slice (some ⟨g,0,none⟩) (es.length+1) cap
     |13=>vs 13= .pointer (some ⟨rb,2,none⟩)
     |14=>True
     |_=>True) (by kernel_rfl) (by kernel_rfl) [0,1,2,3,4,5,6,7,8,9,10,11,12,13,14] (by kernel_rfl) ?hbase ?hGb ?hG ?hJ ?hE ?hEE ?hstep ?hQ
    case hbase=>first|exact Nat.le_refl _|omega|(simp; omega)
    case hGb=>
     exact hGb
    case hG=>
     exact hGd
    case hJ=>
     intro i hi iv iv' vs vs' wx wx' ha hv hz hk hj;simp at hi
     rcases hi with rfl|rfl|rfl|rfl|rfl|rfl|rfl|rfl|rfl|rfl|rfl|rfl|rfl|rfl|rfl
     all_goals try exact (aG hv _).symm.trans hj
     ·have e10:=aG hv 10;have g10:=aG ha 10;obtain ⟨s2,c2,q1,q2,q3⟩:=hj;exact ⟨s2,c2,e10 ▸ q1,g10 ▸ q2.keep (fun b hb h1 h2=>hk.out b hb (Au h1 h2)),q3.keep (hk.out _ q3.lt (Ao 2 (by decide) (Or.inr (Or.inr ⟨rfl,rfl⟩))))⟩
     ·have e10:=aG hv 10;have e11:=aG hv 11;have g11:=aG ha 11;obtain ⟨q1,q3,q2⟩:=hj
      show vs' 11= .slice (some ⟨(iv' 11).1,0,none⟩) 1 1∧(iv' 11).2=(iv' 11).1+1∧Blk wx' (iv' 11).1 28 [Ad (vs' 10) 0,Ad (vs' 10) 1,Ad (vs' 10) 2]
      rw [←e10,←e11,←g11];exact ⟨q1,q3,q2.keep (hk.out _ q2.lt (Au (Nat.le_refl _) (by omega)))⟩
     ·have e12:=aG hv 12;obtain ⟨g,cap,q1,q2,q3⟩:=hj;exact ⟨g,cap,e12 ▸ q1,(q2.keep (fun b hb h1=>hk.out b hb h1.1)).more (fun b hb h1=>⟨At (l:=Am _ 15 12) (by exact of_decide_eq_true (by kernel_rfl)) ha.out h1.1,h1.2⟩),q3.keep (hk.out _ q3.lt ⟨10,Az (by kernel_rfl),Or.inr ⟨2,by decide,(Or.inr (Or.inr ⟨rfl,rfl⟩))⟩⟩)⟩
     have e12:=aG hv 12;have hj':Blk wx (rb) 28 [.int .i64 e.kind,.int .i64 e.num,vs 12]:=hj
     show Blk wx' (rb) 28 [.int .i64 e.kind,.int .i64 e.num,vs' 12]
     rw [←e12];exact hj'.keep (hk.out _ hj'.lt (Ao 1 (by decide) (Or.inr (Or.inl ⟨rfl,rfl⟩))))
    case hE=>
     intro i hi iv vs wx hj;simp at hi
     rcases hi with rfl|rfl|rfl|rfl|rfl|rfl|rfl|rfl|rfl|rfl|rfl|rfl|rfl|rfl|rfl
     all_goals try exact hj
     ·obtain ⟨s2,c2,q1, -⟩:=hj;exact ⟨s2,c2,q1⟩
     ·exact ⟨hj.1,hj.2.1⟩
     ·obtain ⟨g,cap,q1, -⟩:=hj;exact ⟨g,cap,q1⟩
     trivial
    case hEE=>
     intro i hi iv iv' vs vs' ha hv hj;simp at hi
     rcases hi with rfl|rfl|rfl|rfl|rfl|rfl|rfl|rfl|rfl|rfl|rfl|rfl|rfl|rfl|rfl
     all_goals try exact (aG hv _).symm.trans hj
     ·have e10:=aG hv 10;have hj':∃s2 c2,vs 10= .agg #[.int .i64 y.kind,.int .i64 y.num,.slice s2 y.kids.length c2]:=hj
      show ∃s2 c2,vs' 10= .agg #[.int .i64 y.kind,.int .i64 y.num,.slice s2 y.kids.length c2]
      rw [←e10];exact hj'
     ·have e11:=aG hv 11;have g11:=aG ha 11;have hj':vs 11= .slice (some ⟨(iv 11).1,0,none⟩) 1 1∧(iv 11).2=(iv 11).1+1:=hj
      show vs' 11= .slice (some ⟨(iv' 11).1,0,none⟩) 1 1∧(iv' 11).2=(iv' 11).1+1
      rw [←e11,←g11];exact hj'
     ·have e12:=aG hv 12;have hj':∃g cap,vs 12= .slice (some ⟨g,0,none⟩) (es.length+1) cap:=hj
      show ∃g cap,vs' 12= .slice (some ⟨g,0,none⟩) (es.length+1) cap
      rw [←e12];exact hj'
     trivial
    case hstep=>
     intro i hi opr ho iv vs w1 hB hS hSo hd he hbd hsep hun K hK;simp at hi;have hzB:=hB.size;have HGb:=hid hGb;clear hGb hGd;have g2':=((hWr.trans hB).cell (p:=⟨b,o+2,none⟩) hbl).trans i2;generalize hA:Af _ 0 vs _=A at hK ⊢;simp only [Af,Ac] at hA
     rcases hi with rfl|rfl|rfl|rfl|rfl|rfl|rfl|rfl|rfl|rfl|rfl|rfl|rfl|rfl|rfl
     all_goals
      simp at ho;subst ho;subst hA
     ·go_wp2_with fail;exact Ab.mk (hK _ _ _ nn (by first|rfl|(simp only [Ac])) (Aa.refl _) (fun iv' _ _=>rfl))
     ·have h0:vs 0=_:=dN hd 0;have R1:=R.keep (hS.out 1 _ (by kernel_rfl) (Or.inr (Or.inl ⟨rfl,rfl⟩)));have rc0:=R1.c0;have rz0:=R1.frozen 0;have rc1:=R1.c1;have rz1:=R1.frozen 1;have rc2:=R1.c2;have rz2:=R1.frozen 2;have rlt:=R1.lt;go_wp2_with fail;exact Ab.mk (hK _ _ _ nn (by first|rfl|(simp only [Ac,h0])) (Aa.refl _) (fun iv' _ _=>rfl))
     ·go_wp2_with fail;exact Ab.mk (hK _ _ _ nn (by first|rfl|(simp only [Ac])) (Aa.refl _) (fun iv' _ _=>rfl))
     ·have h2:vs 2=_:=dN hd 2;go_wp2_with fail;exact Ab.mk (hK _ _ _ nn (by first|rfl|(simp only [Ac,h2])) (Aa.refl _) (fun iv' _ _=>rfl))
     ·have h3:vs 3=_:=dN hd 3;go_wp2_with fail;exact Ab.mk (hK _ _ _ nn (by first|rfl|(simp only [Ac,h3])) (Aa.refl _) (fun iv' _ _=>rfl))
     ·have h4:vs 4=_:=dN hd 4;go_wp2_with fail;exact Ab.mk (hK _ _ _ nn (by first|rfl|(simp only [Ac,h4])) (Aa.refl _) (fun iv' _ _=>rfl))
     ·go_wp2_with fail;exact Ab.mk (hK _ _ _ nn (by first|rfl|(simp only [Ac])) (Aa.refl _) (fun iv' _ _=>rfl))
     ·have h5:vs 5=_:=dN hd 5;have h6:vs 6=_:=dN hd 6;go_wp2_with fail;exact Ab.mk (hK _ _ _ nn (by first|rfl|(simp only [Ac,h5,h6])) (Aa.refl _) (fun iv' _ _=>rfl))
     ·go_wp2_with fail;exact Ab.mk (hK _ _ _ nn (by first|rfl|(simp only [Ac])) (Aa.refl _) (fun iv' _ _=>rfl))
     ·go_wp2_with fail;exact Ab.mk (hK _ _ _ nn (by first|rfl|(simp only [Ac])) (Aa.refl _) (fun iv' _ _=>rfl))
     ·have h7:vs 7=_:=dN hd 7;have h8:vs 8=_:=dN hd 8;have h9:vs 9=_:=dN hd 9;have LB21:=LB2.keep (hS.out 2 _ (by kernel_rfl) (Or.inr (Or.inr ⟨rfl,rfl⟩)));have lb2c0:=LB21.c0;have lb2z0:=LB21.frozen 0;have lb2lt:=LB21.lt;go_wp2_with fail;refine (Hih.out _ (hWr.trans hB) LB21).mono ?_;rintro e w2 ⟨s2,c2,rfl,hf,hs,hbk⟩;go_wp2_with fail;exact Ab.mk (hK (.agg #[.int .i64 y.kind,.int .i64 y.num,.slice s2 y.kids.length c2]) _ _ nn (by first|rfl|(simp only [Ac,h7,h8,h9])) (hs.more (fun b h=>Or.inl ⟨2,by decide,(Or.inr (Or.inr ⟨rfl,h⟩))⟩)) (fun iv' _ hi=>⟨s2,c2,rfl,by rw [hi]; exact Ag.stretch (hf),hbk⟩))
     ·obtain ⟨s2,c2,h10,f10,fb10⟩:=dN hd 10;go_wp2_with fail
      exact Ab.mk (hK (.slice (some ⟨w1.heap.size,0,none⟩) 1 1) _ _ nn (by first|rfl|(simp only [Ac,h10])) (Aa.of_below (Below.alloc (Below.refl _ _) (Nat.le_refl _) _)) (fun iv' _ hi=>by
       show Value.slice (some ⟨w1.heap.size,0,none⟩) 1 1= .slice (some ⟨(iv' 11).1,0,none⟩) 1 1∧(iv' 11).2=(iv' 11).1+1∧Blk _ (iv' 11).1 28 [Ad (vs 10) 0,Ad (vs 10) 1,Ad (vs 10) 2]
       rw [hi,h10]
       exact ⟨rfl,by simp,Blk.new3 _ _ _ _ _⟩))
     ·have h1:vs 1=v:=dN hd 1;obtain ⟨s2,c2,h10,f10,fb10⟩:=dN hd 10;obtain ⟨h11,q11,f11⟩:=dN hd 11;have V1:=V.keep (fun b _ hb=>hS.out 0 b (by kernel_rfl) (Or.inl ⟨rfl,hb⟩));simp only [h1,h10,h11]
      have f11':Blk w1 (iv 11).1 28 [.int .i64 y.kind,.int .i64 y.num,.slice s2 y.kids.length c2]:=by first|exact f11|(rw [h10] at f11; exact f11)
      refine Be w1 (by rfl) _ _ 26 (by rfl) 28 (.agg #[.int .i64 0,.int .i64 0,.slice none 0 0]) 3 40 Tryz.underlying26 Bb rfl (by decide) (S:=(fun b=>b∈Fs)) (T:=(fun b=>(iv 10).1≤b∧b<(iv 10).2)) _ (by rfl) V1 ⟨(iv 11).1,0,none⟩ 1 1 [.int .i64 y.kind,.int .i64 y.num,.slice s2 y.kids.length c2] (by rfl) (Ax f11') f10.three (fun b _ h1 h2=>by have q:=(dL hbd 10).1; have q':=(HGb.out 0 b (Or.inl ⟨rfl,h1⟩)).2; omega) (by simp) (by simp [Value.oneCell']) (by omega) (by omega) (by unfold maxLen; omega) ?_;intro g cap w2 hap ht;go_wp2_with fail;exact Ab.mk (hK (.slice (some ⟨g,0,none⟩) (es.length+1) cap) _ _ nn (by first|rfl|(simp only [Ac,h1,h10,h11])) (ht.more (fun b h=>Or.inl ⟨0,by decide,(Or.inl ⟨rfl,h⟩)⟩)) (fun iv' ag hi=>⟨g,cap,rfl,hap.more (fun b _ h=>by rcases h with h|h|h; exact ⟨Ao 0 (by decide) (Or.inl ⟨rfl,h⟩),by intro e; have q:=Vf b h; omega⟩; exact ⟨Ib (by kernel_rfl) ag h.1 h.2,by intro e; have q:=(dL hbd 10).1; have q':=h.1; omega⟩; exact ⟨A5 hi h.1 h.2,by intro e; have q:=fb10.lt; have q':=h.1; omega⟩),fb10.keep (ht.block _ fb10.lt (fun h=>by have q:=Vf _ h; omega))⟩))
     ·go_wp2_with fail;exact Ab.mk (hK _ _ _ nn (by first|rfl|(simp only [Ac])) (Aa.refl _) (fun iv' _ _=>rfl))
     obtain ⟨g12,cap12,h12,f12,fb12⟩:=dN hd 12;have h13:vs 13=_:=dN hd 13;have R1:=R.keep (hS.out 1 _ (by kernel_rfl) (Or.inr (Or.inl ⟨rfl,rfl⟩)));have rc0:=R1.c0;have rz0:=R1.frozen 0;have rc1:=R1.c1;have rz1:=R1.frozen 1;have rc2:=R1.c2;have rz2:=R1.frozen 2;have rlt:=R1.lt;go_wp2_with fail
     exact Ab.mk (hK undef _ _ (fun _=>rfl) (by simp only [Ac,h12,h13]) ((Ar (b0:=rb) (by repeat (first|exact Aa.refl _|apply Aa.set))).more (fun b h=>Or.inl ⟨1,by decide,(Or.inr (Or.inl ⟨rfl,h⟩))⟩)) (fun iv' ag hi=>by
      show Blk _ (rb) 28 [.int .i64 e.kind,.int .i64 e.num,vs 12]
      rw [h12]
      exact (R1.set 2 _)))
    intro iv vs wx hB hSp hd he hbd hsep;have hzB:=hB.size;have h0:vs 0=_:=dE hd 0;have h1:vs 1=v:=dE hd 1;have h2:vs 2=_:=dE hd 2;have h3:vs 3=_:=dE hd 3;have h4:vs 4=_:=dE hd 4;have h5:vs 5=_:=dE hd 5;have h6:vs 6=_:=dE hd 6;have h7:vs 7=_:=dE hd 7;have h8:vs 8=_:=dE hd 8;have h9:vs 9=_:=dE hd 9;obtain ⟨s2,c2,h10⟩:=dM he 10;obtain ⟨h11,q11,f11⟩:=dE hd 11;obtain ⟨g12,cap12,h12,f12,fb12⟩:=dE hd 12;have h13:vs 13=_:=dE hd 13;have f14:Blk _ (rb) 28 [.int .i64 e.kind,.int .i64 e.num,vs 12]:=dE hd 14
    have lo12:∀b,(fun b=>(foot [(12,10)] [(10,2),(12,0),(14,1)] (fun m b=>(m=0∧b∈Fs)∨(m=1∧b=rb)∨(m=2∧b=lb)) 15 12 iv) b∧b≠lb) b→(wz.heap.size)≤b:=by
     rintro b ⟨⟨j,hj,hh⟩,hne⟩;have hj':=of_decide_eq_true (List.all_eq_true.1 (show ((A9 [(12,10)] 15 12).all fun j=>decide (j∈[12,10]))=true from by kernel_rfl) j hj);simp only [List.mem_cons,List.not_mem_nil,or_false] at hj'
     rcases hj' with rfl|rfl
     ·have q:=(dM hbd 12).1
      rcases hh with hh|⟨m,hm,hg⟩
      ·omega
      simp at hm;subst hm;simp at hg;have q':=Vf b hg;omega
     have q:=(dM hbd 10).1
     rcases hh with hh|⟨m,hm,hg⟩
     ·omega
     simp at hm;subst hm;simp at hg;exact absurd hg hne
    simp only [Af,Ac];rw [h12] at f14;have hap:=f12.app (W:=wz) lo12;rw [←Hds.out] at hap
    have hFr2:Aa (fun x=>x=lb∨w.heap.size+1≤x) wz wx:=hFr.trans (hSp.out.more (by
     rintro y ⟨m,hm⟩
     rcases hm with ⟨-, hm⟩|⟨-, hm⟩|⟨-, hm⟩
     ·have:=Vf y hm; right; omega
     ·right; omega
     left; exact hm))
    have hll:(es++[y]).length=es.length+1:=by simp
    have HN:=hid hap;have HF:=hid hFr2;have HL2:=hid hll;clear hd he hbd hsep h0 h1 h2 h3 h4 h5 h6 h7 h8 h9 h10 h11 h12 h13 lo12 f12 hSp hFr hap hFr2 hll;go_wp2_with fail
    go_roundw
    case rel=>exact ⟨_,l2,es++[y],by rw [HL2.out]; omega,by rw [HL2.out]; go_num,by rw [HL2.out]; exact HP2,hb2,by omega,f14,by rw [HL2.out]; exact HN.out,fb12,HF.out⟩
    case measure=>simp [intOf]; omega
   have hfin:Ex.putsG bs e.kids (left - 1)=(es,l):=by
    by_cases hl0':l<0
    ·have h2:=Ex.putsG_stop bs (e.kids.take es.length) (e.kids.drop es.length) (left - 1) (by rw [HP.out]; exact hl0');rw [List.take_append_drop] at h2;rw [h2,HP.out]
    have h2:=HP.out
    rwa [List.take_of_length_le (by omega)] at h2
   have HRf:Hid (e.putG bs left=(.mk e.kind e.num es,l)):=by show _=_; rw [HR.out,hfin]
   obtain ⟨a',cap',rfl, -⟩:=happ.shape
   have hdone:es.length=e.kids.length∨l<0:=by omega
   have r0:=R.c0;have r1:=R.c1;have r2:=R.c2;have Q2:=RZ.keep (hFr.block _ RZ.lt (by omega));have q0:=Q2.c0;have q1':=Q2.c1;have q2':=Q2.c2;have z0:=Q2.frozen 0;have z1:=Q2.frozen 1;have z2:=Q2.frozen 2;have ltQ:=Q2.lt;clear hgo hfin;have hesz:=Int.natCast_nonneg es.length
   by_cases hlt:es.length<e.kids.length
   ·have hl9:l<0:=by omega
    have hesb:(es.length:Int)<(e.kids.length:Int):=by omega
    have hd2:decide (0≤l)=false:=by simpa using hl9
    clear hdone;obtain ⟨w5,e5,T2,hs5⟩:=zZ3 Q2 (.int .i64 e.kind) (.int .i64 e.num) (.slice a' es.length cap');go_wp2_with fail;clear e5;have t0:=T2.c0;have t1:=T2.c1;have t2:=T2.c2;have f5:=LB2.keep (hs5.block _ LB2.lt (by omega));have sz5:=hs5.size;have hSp5:Aa (fun y=>y=lb) w w5:=⟨hs5.os.trans (hFr.os.trans hSz.os),hs5.tape.trans (hFr.tape.trans hSz.tape),hs5.output.trans (hFr.output.trans hSz.output),by have:=hSz.size; omega,fun y hy hn=>(hs5.block y (by have:=hSz.size; omega) (by omega)).trans ((hFr.block y (by have:=hSz.size; omega) (by omega)).trans (hSz.block y hy hn))⟩;refine bodyPost_ret (v:= .agg #[.int .i64 e.kind,.int .i64 e.num,.slice a' es.length cap']) (by simp [results,Tryz.results24,go_sem,t0,t1,t2]) rfl ?_;rw [HRf.out];exact ⟨a',cap',rfl,Ag.one (d:=Ae es) ((happ.fresh.keep fun bb hb1 hb2=>hs5.block bb hb2 (by have:=hSz.size; omega)).from (by have:=hSz.size; omega)),hSp5,f5⟩
   have hesb:¬(es.length:Int)<(e.kids.length:Int):=by omega
   have hesd:decide ((es.length:Int)<(e.kids.length:Int))=false:=by simpa using hesb
   clear hdone hesb;obtain ⟨w5,e5,T2,hs5⟩:=zZ3 Q2 (.int .i64 e.kind) (.int .i64 e.num) (.slice a' es.length cap');go_wp2_with fail;clear e5;have t0:=T2.c0;have t1:=T2.c1;have t2:=T2.c2;have f5:=LB2.keep (hs5.block _ LB2.lt (by omega));have sz5:=hs5.size;have hSp5:Aa (fun y=>y=lb) w w5:=⟨hs5.os.trans (hFr.os.trans hSz.os),hs5.tape.trans (hFr.tape.trans hSz.tape),hs5.output.trans (hFr.output.trans hSz.output),by have:=hSz.size; omega,fun y hy hn=>(hs5.block y (by have:=hSz.size; omega) (by omega)).trans ((hFr.block y (by have:=hSz.size; omega) (by omega)).trans (hSz.block y hy hn))⟩;refine bodyPost_ret (v:= .agg #[.int .i64 e.kind,.int .i64 e.num,.slice a' es.length cap']) (by simp [results,Tryz.results24,go_sem,t0,t1,t2]) rfl ?_;rw [HRf.out];exact ⟨a',cap',rfl,Ag.one (d:=Ae es) ((happ.fresh.keep fun bb hb1 hb2=>hs5.block bb hb2 (by have:=hSz.size; omega)).from (by have:=hSz.size; omega)),hSp5,f5⟩
end Go.Proofs.YtlchgfbkdjjngaaGreatDoor
