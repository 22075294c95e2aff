/-
  Parts of a proof, joined: PutI, RepS. No condition.
-/
import Derived.Test.YtlchgfbkdjjngaaGreatDoorPk25
set_option linter.unusedVariables false
set_option linter.unusedSimpArgs false
namespace Go.Proofs.YtlchgfbkdjjngaaGreatDoor
open Go.ChangeShapes Go.WideShapes Go.ChangeAt Go.RowKit Go.Deep Go.Sort
theorem Ex.put_other {bs:List Ex} {k n:Int} {ks:List Ex} (hk:k≠4):Ex.put bs (.mk k n ks)= .mk k n (Ex.putL bs ks):=by rw [Ex.put,if_neg hk]
set_option maxHeartbeats 16000000 in
theorem Mw (bs:List Ex) (pb:Option Addr) (bc:Nat) (tm am:Int) (hlen2:(bs.length:Int)=am+1) (hbz:∀x∈bs,x.size≤1000000) (N:Nat):∀(k0 n0:Int) (ks:List Ex) (s:Option Addr) (c:Nat) (w:World),Ex.sizeL ks≤N→Rd w (Ae ks) (.slice s ks.length c)→Ex.sizeL ks≤1073741824→Rd w (Ae bs) (.slice pb bs.length bc)→Ex.tree tm am (.mk k0 n0 ks)=true→
  Calls Tryz.prog 20 #[.agg #[.int .i64 k0,.int .i64 n0,.slice s ks.length c],.slice none 0 0,.slice pb bs.length bc] w fun f w'=>∃s' c',f= .returned (.agg #[.int .i64 (Ex.put bs (.mk k0 n0 ks)).kind,.int .i64 (Ex.put bs (.mk k0 n0 ks)).num,.slice s' (Ex.put bs (.mk k0 n0 ks)).kids.length c'])∧
   Ag w w' [Ae (Ex.put bs (.mk k0 n0 ks)).kids] [.slice s' (Ex.put bs (.mk k0 n0 ks)).kids.length c']∧Below w.heap.size w w':=by
 induction N using Nat.strongRecOn with
 |_ N ih=>
 intro k0 n0 ks s c w hN g3 hsl hby htr;obtain ⟨-, hlen,hcap, -, -⟩:=A0 g3;unfold maxLen at hcap;have hkl:=Ex.length_le_sizeL ks
 have hkm:ks.length≤1073741824:=by omega
 clear hkl;have Hlen2:=hid hlen2;have Hbz:=hid hbz;clear hlen2 hbz
 by_cases hk4:k0=4
 ·subst hk4;obtain ⟨n1,n2⟩:=Ex.tree_act htr rfl;simp only [Ex.num] at n1 n2;obtain ⟨n,rfl⟩:∃n:Nat,n0=(n:Int):=⟨n0.toNat,by omega⟩;obtain ⟨x,hx⟩:∃x,bs[n]? =some x:=⟨_,List.getElem?_eq_getElem (by have:=Hlen2.out; omega)⟩;obtain ⟨pb',po,rfl⟩:=An hby (by intro h; rw [h] at hx; simp at hx);obtain ⟨hbl,sx,cx,j0,j1,j2,jr⟩:=A3 hby hx;have hx2:=Hbz.out x (List.mem_of_getElem? hx)
  have hx3:Ex.sizeL x.kids≤1073741824:=by have:=Ex.size_eq x; omega
  have HR:Hid (Ex.put bs (.mk 4 (n:Int) ks)=x):=by
   show _=_
   rw [Ex.put,if_pos rfl,Int.toNat_natCast,List.getD_eq_getElem?_getD,hx]
   rfl
  have hnz:=Int.natCast_nonneg n
  have hnb:(n:Int)<(bs.length:Int):=by have:=(List.getElem?_eq_some_iff.1 hx).1; omega
  clear hx htr n1 n2 hx2;obtain ⟨xk,xn,xks⟩:=x;simp only [Ex.kind,Ex.num,Ex.kids] at j0 j1 j2 jr hx3
  go_enter Tryz.func20,Tryz.ntmps20
  go_wp2_with fail;have R:=Blk.new3 (w.alloc (.cells #[.int .i64 4,.int .i64 n,.slice s ks.length c] 28)) 28 (.int .i64 0) (.int .i64 0) (.slice none 0 0);have hBx:Below w.heap.size w ((w.alloc (.cells #[.int .i64 4,.int .i64 n,.slice s ks.length c] 28)).alloc (.cells #[.int .i64 0,.int .i64 0,.slice none 0 0] 28)):=bel
  have hzx:((w.alloc (.cells #[.int .i64 4,.int .i64 n,.slice s ks.length c] 28)).alloc (.cells #[.int .i64 0,.int .i64 0,.slice none 0 0] 28)).heap.size=w.heap.size+2:=by simp
  simp at R;generalize (w.alloc (.cells #[.int .i64 4,.int .i64 n,.slice s ks.length c] 28)).alloc (.cells #[.int .i64 0,.int .i64 0,.slice none 0 0] 28)=w1 at R hBx hzx ⊢;clear j0 j1 j2;refine (J9 _ xk xn xks sx cx _ (Nat.le_refl _) (jr.below hBx) hx3).mono ?_;rintro f w4 ⟨s',c',rfl,hf,hb⟩;simp only [Ex.same,Ex.kind,Ex.num,Ex.kids] at hf ⊢;have RX4:=R.below hb;have sz4:=hb.size;have hB4:=hBx.trans (hb.mono (by omega));obtain ⟨r0,r1,r2,z0,z1,z2,lt4⟩:=RX4.all3;obtain ⟨w5,e5,T2,hs5⟩:=zZ3 RX4 (.int .i64 xk) (.int .i64 xn) (.slice s' xks.length c');go_wp2_with fail;clear e5;have t0:=T2.c0;have t1:=T2.c1;have t2:=T2.c2;have hB5:=hB4.trans (hs5.below (B:=w.heap.size) (by omega) (fun y hy=>by omega));refine bodyPost_ret (v:= .agg #[.int .i64 xk,.int .i64 xn,.slice s' xks.length c']) (by simp [results,Tryz.results20,go_sem,t0,t1,t2]) rfl ?_;rw [HR.out];obtain ⟨F,F1,F2,F3⟩:=hf;exact ⟨s',c',rfl,⟨F,F1.keep fun y hy=>hs5.block y (F1.lt y hy) (by have:=F3 y hy; omega),F2,fun y hy=>by have:=F3 y hy; omega⟩,hB5⟩
 have e4:(k0==4)=false:=by simp [hk4]
 have Hp:Hid (Ex.put bs (.mk k0 n0 ks)= .mk k0 n0 (Ex.putL bs ks)):=Ex.put_other hk4
 have Hpk:Hid ((Ex.put bs (.mk k0 n0 ks)).kids=Ex.putL bs ks):=by show _=_; rw [Hp.out]; rfl
 clear hk4;obtain ⟨v3,e3⟩:∃v,(k0==3)=v:=⟨_,rfl⟩
 cases v3
 all_goals
  have Hl:Hid (ks.length=(Ex.put bs (.mk k0 n0 ks)).kids.length):=by show _=_; rw [Hpk.out,Ex.putL_length]
  have Hk:Hid ((Ex.put bs (.mk k0 n0 ks)).kind=k0):=by show _=_; rw [Hp.out]; rfl
  have Hn:Hid ((Ex.put bs (.mk k0 n0 ks)).num=n0):=by show _=_; rw [Hp.out]; rfl
  have Hf:Hid (D.sl 3 ks.length (Ex.cellsL (Ex.put bs (.mk k0 n0 ks)).kids)=Ae (Ex.put bs (.mk k0 n0 ks)).kids):=by show _=_; unfold Ae; rw [Hl.out]
  go_enter Tryz.func20,Tryz.ntmps20
  go_wp2_with fail;have M:=((Blk.new3 w 28 (.int .i64 k0) (.int .i64 n0) (.slice s ks.length c)).alloc (.cells #[.int .i64 0,.int .i64 0,.slice none 0 0] 28)).alloc (.cells #[.int .i64 k0,.int .i64 n0,.slice none 0 0] 28);have R2:=(Blk.new3 (w.alloc (.cells #[.int .i64 k0,.int .i64 n0,.slice s ks.length c] 28)) 28 (.int .i64 0) (.int .i64 0) (.slice none 0 0)).alloc (.cells #[.int .i64 k0,.int .i64 n0,.slice none 0 0] 28);have R:=Blk.new3 ((w.alloc (.cells #[.int .i64 k0,.int .i64 n0,.slice s ks.length c] 28)).alloc (.cells #[.int .i64 0,.int .i64 0,.slice none 0 0] 28)) 28 (.int .i64 k0) (.int .i64 n0) (.slice none 0 0);simp at R2 R;have hBx:Below w.heap.size w (((w.alloc (.cells #[.int .i64 k0,.int .i64 n0,.slice s ks.length c] 28)).alloc (.cells #[.int .i64 0,.int .i64 0,.slice none 0 0] 28)).alloc (.cells #[.int .i64 k0,.int .i64 n0,.slice none 0 0] 28)):=bel;generalize (((w.alloc (.cells #[.int .i64 k0,.int .i64 n0,.slice s ks.length c] 28)).alloc (.cells #[.int .i64 0,.int .i64 0,.slice none 0 0] 28)).alloc (.cells #[.int .i64 k0,.int .i64 n0,.slice none 0 0] 28))=wz at M R2 R hBx ⊢;have ltR:=R.lt;have szx:=hBx.size
  go_loopw [46] (fun i wr=>∃(k:Nat) (v:Value),k≤ks.length∧i= .int .i64 k∧Blk wr (w.heap.size+1+1) 28 [.int .i64 k0,.int .i64 n0,v]∧App wz wr 28 3 k (Ex.cellsL ((Ex.putL bs ks).take k)) v∧Below (w.heap.size+1+1) wz wr) (fun i _=>ks.length - (intOf i).toNat)
  case atStart=>exact ⟨0,.slice none 0 0,by omega,rfl,R,by simpa [Ex.cellsL] using App.nil,Below.refl _ _⟩
  case round=>
   clear R;obtain ⟨k,v,hk,rfl,R,happ,hBr⟩:=hrel;have hBw:Below w.heap.size w wr:=hBx.trans (hBr.mono (by omega));have szr:=hBr.size
   by_cases hlt:k<ks.length
   ·obtain ⟨x,hx⟩:∃x,ks[k]? =some x:=⟨_,List.getElem?_eq_getElem (by omega)⟩
    have hy:(Ex.putL bs ks)[k]? =some (Ex.put bs (.mk x.kind x.num x.kids)):=by rw [Ex.putL_at bs hx,←Ex.eta x]
    obtain ⟨kb,ko,rfl⟩:=An g3 (by intro h; simp [h] at hlt);have hxm:=Ex.sizeL_mem (List.mem_of_getElem? hx);have hse:=Ex.size_eq x
    have hxs:Ex.sizeL x.kids<N:=by omega
    have hx1:Ex.sizeL x.kids≤1073741824:=by omega
    clear hxm hse;have Hds:=hid (Ex.cellsL_take_succ hy);clear hy;obtain ⟨-, sx,cx,g0,g1,g2,gr⟩:=A3 (g3.below hBw) hx;obtain ⟨-, sy,cy,i0,i1,i2,hgr0⟩:=A3 g3 hx
    obtain ⟨rfl,rfl⟩:sx=sy∧cx=cy:=by
     have:=((hBw.cell (p:=⟨kb,ko+k*3+2,none⟩) (World.block_lt_of_cell? w _ i2)).trans i2).symm.trans g2;simp at this;exact ⟨this.1.symm,this.2.symm⟩
    clear i0 i1 i2;obtain ⟨Fs,V,Vf⟩:=happ.foot
    have hxt:Ex.tree tm am (.mk x.kind x.num x.kids)=true:=by rw [←Ex.eta x]; exact Ex.treeL_mem (Aq htr).2.2.2 (List.mem_of_getElem? hx)
    go_wp2_with fail;clear g0 g1 g2 gr;have Kb:=Blk.new3 wr 28 (.int .i64 x.kind) (.int .i64 x.num) (.slice sx x.kids.length cx);replace R:=R.alloc (.cells #[.int .i64 x.kind,.int .i64 x.num,.slice sx x.kids.length cx] 28);have V:=V.keep (w':=wr.alloc (.cells #[.int .i64 x.kind,.int .i64 x.num,.slice sx x.kids.length cx] 28)) (fun b hb _=>Below.heap_alloc _ _ _ hb);replace hBr:Below (w.heap.size+1+1) wz (wr.alloc (.cells #[.int .i64 x.kind,.int .i64 x.num,.slice sx x.kids.length cx] 28)):=hBr.alloc (by omega) _;replace hBw:Below w.heap.size w (wr.alloc (.cells #[.int .i64 x.kind,.int .i64 x.num,.slice sx x.kids.length cx] 28)):=hBw.alloc (by omega) _
    have sza:(wr.alloc (.cells #[.int .i64 x.kind,.int .i64 x.num,.slice sx x.kids.length cx] 28)).heap.size=wr.heap.size+1:=by simp
    generalize (wr.alloc (.cells #[.int .i64 x.kind,.int .i64 x.num,.slice sx x.kids.length cx] 28))=wa at Kb R V hBr hBw sza ⊢;obtain ⟨kq,hkq⟩:∃kq,wr.heap.size=kq:=⟨_,rfl⟩
    have Vf':∀b∈Fs,wz.heap.size≤b∧b<kq:=fun b hb=>by have:=Vf b hb; omega
    clear Vf
    have Vf:∀b∈Fs,wz.heap.size≤b∧b<wa.heap.size:=fun b hb=>by have:=Vf' b hb; omega
    rw [hkq] at Kb;simp only [hkq]
    have szk:wa.heap.size=kq+1∧wz.heap.size≤kq:=by omega
    clear sza szr hkq;obtain ⟨szk1,szk2⟩:=szk;have Hszk:=hid szk1
    have szk3:kq<wa.heap.size:=by omega
    clear szk1
    have hGb:∀m b,(fun m b=>(m=0∧b∈Fs)∨(m=1∧b=w.heap.size+1+1)∨(m=2∧b=kq)) m b→(w.heap.size+1+1)≤b∧b<(wa).heap.size:=by
     intro m b hg
     rcases hg with ⟨rfl,hg⟩|⟨rfl,hg⟩|⟨rfl,hg⟩
     ·have q:=Vf b hg;omega
     ·subst hg;have q:=R.lt;omega
     subst hg;have q:=Kb.lt;omega
    have hGd:∀m m' b,(fun m b=>(m=0∧b∈Fs)∨(m=1∧b=w.heap.size+1+1)∨(m=2∧b=kq)) m b→(fun m b=>(m=0∧b∈Fs)∨(m=1∧b=w.heap.size+1+1)∨(m=2∧b=kq)) m' b→m=m':=by
     intro m m' b h h'
     rcases h with ⟨rfl,h⟩|⟨rfl,h⟩|⟨rfl,h⟩<;>rcases h' with ⟨rfl,h'⟩|⟨rfl,h'⟩|⟨rfl,h'⟩<;>first
      |rfl
      |(exfalso; omega)
      |(exfalso; have q:=Vf' b h; omega)
      |(exfalso; have q:=Vf' b h'; omega)
    refine Aw [(7,5)] [(7,0),(9,1)] (fun m b=>(m=0∧b∈Fs)∨(m=1∧b=w.heap.size+1+1)∨(m=2∧b=kq)) (w.heap.size+1+1) (fun i iv vs wx=>match i with
     |0=>vs 0= .pointer (some ⟨w.heap.size+1+1,2,none⟩)
     |1=>vs 1=v
     |2=>vs 2= .agg #[.int .i64 x.kind,.int .i64 x.num,.slice sx x.kids.length cx]
     |3=>vs 3= .slice none 0 0
     |4=>vs 4= .slice pb bs.length bc
     |5=>∃s2 c2,vs 5= .agg #[.int .i64 (Ex.put bs (.mk x.kind x.num x.kids)).kind,.int .i64 (Ex.put bs (.mk x.kind x.num x.kids)).num,.slice s2 (Ex.put bs (.mk x.kind x.num x.kids)).kids.length c2]∧B3 (iv 5) wx [Ae (Ex.put bs (.mk x.kind x.num x.kids)).kids] [.slice s2 (Ex.put bs (.mk x.kind x.num x.kids)).kids.length c2]
     |6=>vs 6= .slice (some ⟨(iv 6).1,0,none⟩) 1 1∧(iv 6).2=(iv 6).1+1∧Blk wx (iv 6).1 28 [Ad (vs 5) 0,Ad (vs 5) 1,Ad (vs 5) 2]
     |7=>∃g cap,vs 7= .slice (some ⟨g,0,none⟩) (k+1) cap∧Al (foot [(7,5)] [(7,0),(9,1)] (fun m b=>(m=0∧b∈Fs)∨(m=1∧b=w.heap.size+1+1)∨(m=2∧b=kq)) 10 7 iv) wx 28 3 (k+1) (Ex.cellsL ((Ex.putL bs ks).take k)++[.int (Ex.put bs (.mk x.kind x.num x.kids)).kind,.int (Ex.put bs (.mk x.kind x.num x.kids)).num,Ae (Ex.put bs (.mk x.kind x.num x.kids)).kids]) (.slice (some ⟨g,0,none⟩) (k+1) cap)
     |8=>vs 8= .pointer (some ⟨w.heap.size+1+1,2,none⟩)
     |9=>Blk wx (w.heap.size+1+1) 28 [.int .i64 k0,.int .i64 n0,vs 7]
     |_=>True) (fun i iv vs=>match i with
     |0=>vs 0= .pointer (some ⟨w.heap.size+1+1,2,none⟩)
     |1=>vs 1=v
     |2=>vs 2= .agg #[.int .i64 x.kind,.int .i64 x.num,.slice sx x.kids.length cx]
     |3=>vs 3= .slice none 0 0
     |4=>vs 4= .slice pb bs.length bc
     |5=>∃s2 c2,vs 5= .agg #[.int .i64 (Ex.put bs (.mk x.kind x.num x.kids)).kind,.int .i64 (Ex.put bs (.mk x.kind x.num x.kids)).num,.slice s2 (Ex.put bs (.mk x.kind x.num x.kids)).kids.length c2]
     |6=>vs 6= .slice (some ⟨(iv 6).1,0,none⟩) 1 1∧(iv 6).2=(iv 6).1+1
     |7=>∃g cap,vs 7= .slice (some ⟨g,0,none⟩) (k+1) cap
     |8=>vs 8= .pointer (some ⟨w.heap.size+1+1,2,none⟩)
     |9=>True
     |_=>True) (by kernel_rfl) (by kernel_rfl) [0,1,2,3,4,5,6,7,8,9] (by kernel_rfl) ?hbase ?hGb ?hG ?hJ ?hE ?hEE ?hstep ?hQ
    case hbase=>first|exact Nat.le_refl _|omega|(simp; omega)
    case hGb=>
     exact hGb
    case hG=>
     exact hGd
    case hJ=>
     intro i hi iv iv' vs vs' wx wx' ha hv hz hk hj;simp at hi
     rcases hi with rfl|rfl|rfl|rfl|rfl|rfl|rfl|rfl|rfl|rfl
     all_goals try exact (aG hv _).symm.trans hj
     ·have e5:=aG hv 5;have g5:=aG ha 5;obtain ⟨s2,c2,q1,q2⟩:=hj;exact ⟨s2,c2,e5 ▸ q1,g5 ▸ q2.keep (fun b hb h1 h2=>hk.out b hb (Au h1 h2))⟩
     ·have e5:=aG hv 5;have e6:=aG hv 6;have g6:=aG ha 6;obtain ⟨q1,q3,q2⟩:=hj
      show vs' 6= .slice (some ⟨(iv' 6).1,0,none⟩) 1 1∧(iv' 6).2=(iv' 6).1+1∧Blk wx' (iv' 6).1 28 [Ad (vs' 5) 0,Ad (vs' 5) 1,Ad (vs' 5) 2]
      rw [←e5,←e6,←g6];exact ⟨q1,q3,q2.keep (hk.out _ q2.lt (Au (Nat.le_refl _) (by omega)))⟩
     ·have e7:=aG hv 7;obtain ⟨g,cap,q1,q2⟩:=hj;exact ⟨g,cap,e7 ▸ q1,(q2.keep (fun b hb h1=>hk.out b hb h1)).more (fun b hb h1=>At (l:=Am _ 10 7) (by exact of_decide_eq_true (by kernel_rfl)) ha.out h1)⟩
     have e7:=aG hv 7;have hj':Blk wx (w.heap.size+1+1) 28 [.int .i64 k0,.int .i64 n0,vs 7]:=hj
     show Blk wx' (w.heap.size+1+1) 28 [.int .i64 k0,.int .i64 n0,vs' 7]
     rw [←e7];exact hj'.keep (hk.out _ hj'.lt (Ao 1 (by decide) (Or.inr (Or.inl ⟨rfl,rfl⟩))))
    case hE=>
     intro i hi iv vs wx hj;simp at hi
     rcases hi with rfl|rfl|rfl|rfl|rfl|rfl|rfl|rfl|rfl|rfl
     all_goals try exact hj
     ·obtain ⟨s2,c2,q1, -⟩:=hj;exact ⟨s2,c2,q1⟩
     ·exact ⟨hj.1,hj.2.1⟩
     ·obtain ⟨g,cap,q1, -⟩:=hj;exact ⟨g,cap,q1⟩
     trivial
    case hEE=>
     intro i hi iv iv' vs vs' ha hv hj;simp at hi
     rcases hi with rfl|rfl|rfl|rfl|rfl|rfl|rfl|rfl|rfl|rfl
     all_goals try exact (aG hv _).symm.trans hj
     ·have e5:=aG hv 5;have hj':∃s2 c2,vs 5= .agg #[.int .i64 (Ex.put bs (.mk x.kind x.num x.kids)).kind,.int .i64 (Ex.put bs (.mk x.kind x.num x.kids)).num,.slice s2 (Ex.put bs (.mk x.kind x.num x.kids)).kids.length c2]:=hj
      show ∃s2 c2,vs' 5= .agg #[.int .i64 (Ex.put bs (.mk x.kind x.num x.kids)).kind,.int .i64 (Ex.put bs (.mk x.kind x.num x.kids)).num,.slice s2 (Ex.put bs (.mk x.kind x.num x.kids)).kids.length c2]
      rw [←e5];exact hj'
     ·have e6:=aG hv 6;have g6:=aG ha 6;have hj':vs 6= .slice (some ⟨(iv 6).1,0,none⟩) 1 1∧(iv 6).2=(iv 6).1+1:=hj
      show vs' 6= .slice (some ⟨(iv' 6).1,0,none⟩) 1 1∧(iv' 6).2=(iv' 6).1+1
      rw [←e6,←g6];exact hj'
     ·have e7:=aG hv 7;have hj':∃g cap,vs 7= .slice (some ⟨g,0,none⟩) (k+1) cap:=hj
      show ∃g cap,vs' 7= .slice (some ⟨g,0,none⟩) (k+1) cap
      rw [←e7];exact hj'
     trivial
    case hstep=>
     intro i hi opr ho iv vs w1 hB hS hSo hd he hbd hsep hun K hK;simp at hi;have hzB:=hB.size;have HGb:=hid hGb;clear hGb hGd;have gr1:=hgr0.below (hBw.trans (hB.mono (by omega)));have by1:=hby.below (hBw.trans (hB.mono (by omega)))
     skip
     generalize hA:Af _ 0 vs _=A at hK ⊢;simp only [Af,Ac] at hA
     rcases hi with rfl|rfl|rfl|rfl|rfl|rfl|rfl|rfl|rfl|rfl
     all_goals
      simp at ho;subst ho;subst hA
     ·go_wp2_with fail;exact Ab.mk (hK _ _ _ nn (by first|rfl|(simp only [Ac])) (Aa.refl _) (fun iv' _ _=>rfl))
     ·have h0:vs 0=_:=dN hd 0;have R1:=R.keep (hS.out 1 _ (by kernel_rfl) (Or.inr (Or.inl ⟨rfl,rfl⟩)));have rc0:=R1.c0;have rz0:=R1.frozen 0;have rc1:=R1.c1;have rz1:=R1.frozen 1;have rc2:=R1.c2;have rz2:=R1.frozen 2;have rlt:=R1.lt;go_wp2_with fail;exact Ab.mk (hK _ _ _ nn (by first|rfl|(simp only [Ac,h0])) (Aa.refl _) (fun iv' _ _=>rfl))
     ·have Kb1:=Kb.keep (hS.out 2 _ (by kernel_rfl) (Or.inr (Or.inr ⟨rfl,rfl⟩)));have kbc0:=Kb1.c0;have kbz0:=Kb1.frozen 0;have kbc1:=Kb1.c1;have kbz1:=Kb1.frozen 1;have kbc2:=Kb1.c2;have kbz2:=Kb1.frozen 2;have kblt:=Kb1.lt;go_wp2_with fail;exact Ab.mk (hK _ _ _ nn (by first|rfl|(simp only [Ac])) (Aa.refl _) (fun iv' _ _=>rfl))
     ·go_wp2_with fail;exact Ab.mk (hK _ _ _ nn (by first|rfl|(simp only [Ac])) (Aa.refl _) (fun iv' _ _=>rfl))
     ·go_wp2_with fail;exact Ab.mk (hK _ _ _ nn (by first|rfl|(simp only [Ac])) (Aa.refl _) (fun iv' _ _=>rfl))
     ·have h2:vs 2=_:=dN hd 2;have h3:vs 3=_:=dN hd 3;have h4:vs 4=_:=dN hd 4;go_wp2_with fail;refine (ih _ hxs _ _ _ _ _ _ (Nat.le_refl _) gr1 hx1 by1 hxt).mono ?_;rintro e w2 ⟨s2,c2,rfl,hf,hb⟩;go_wp2_with fail;exact Ab.mk (hK (.agg #[.int .i64 (Ex.put bs (.mk x.kind x.num x.kids)).kind,.int .i64 (Ex.put bs (.mk x.kind x.num x.kids)).num,.slice s2 (Ex.put bs (.mk x.kind x.num x.kids)).kids.length c2]) _ _ nn (by first|rfl|(simp only [Ac,h2,h3,h4])) (Aa.of_below hb) (fun iv' _ hi=>⟨s2,c2,rfl,by rw [hi]; exact Ag.stretch (hf)⟩))
     ·obtain ⟨s2,c2,h5,f5⟩:=dN hd 5;go_wp2_with fail
      exact Ab.mk (hK (.slice (some ⟨w1.heap.size,0,none⟩) 1 1) _ _ nn (by first|rfl|(simp only [Ac,h5])) (Aa.of_below (Below.alloc (Below.refl _ _) (Nat.le_refl _) _)) (fun iv' _ hi=>by
       show Value.slice (some ⟨w1.heap.size,0,none⟩) 1 1= .slice (some ⟨(iv' 6).1,0,none⟩) 1 1∧(iv' 6).2=(iv' 6).1+1∧Blk _ (iv' 6).1 28 [Ad (vs 5) 0,Ad (vs 5) 1,Ad (vs 5) 2]
       rw [hi,h5]
       exact ⟨rfl,by simp,Blk.new3 _ _ _ _ _⟩))
     ·have h1:vs 1=v:=dN hd 1;obtain ⟨s2,c2,h5,f5⟩:=dN hd 5;obtain ⟨h6,q6,f6⟩:=dN hd 6;have V1:=V.keep (fun b _ hb=>hS.out 0 b (by kernel_rfl) (Or.inl ⟨rfl,hb⟩));simp only [h1,h5,h6]
      have f6':Blk w1 (iv 6).1 28 [.int .i64 (Ex.put bs (.mk x.kind x.num x.kids)).kind,.int .i64 (Ex.put bs (.mk x.kind x.num x.kids)).num,.slice s2 (Ex.put bs (.mk x.kind x.num x.kids)).kids.length c2]:=by first|exact f6|(rw [h5] at f6; exact f6)
      refine Be w1 (by rfl) _ _ 26 (by rfl) 28 (.agg #[.int .i64 0,.int .i64 0,.slice none 0 0]) 3 40 Tryz.underlying26 Bb rfl (by decide) (S:=(fun b=>b∈Fs)) (T:=(fun b=>(iv 5).1≤b∧b<(iv 5).2)) _ (by rfl) V1 ⟨(iv 6).1,0,none⟩ 1 1 [.int .i64 (Ex.put bs (.mk x.kind x.num x.kids)).kind,.int .i64 (Ex.put bs (.mk x.kind x.num x.kids)).num,.slice s2 (Ex.put bs (.mk x.kind x.num x.kids)).kids.length c2] (by rfl) (Ax f6') f5.three (fun b _ h1 h2=>by have q:=(dL hbd 5).1; have q':=(HGb.out 0 b (Or.inl ⟨rfl,h1⟩)).2; omega) (by simp) (by simp [Value.oneCell']) (by omega) (by omega) (by unfold maxLen; omega) ?_;intro g cap w2 hap ht;go_wp2_with fail;exact Ab.mk (hK (.slice (some ⟨g,0,none⟩) (k+1) cap) _ _ nn (by first|rfl|(simp only [Ac,h1,h5,h6])) (ht.more (fun b h=>Or.inl ⟨0,by decide,(Or.inl ⟨rfl,h⟩)⟩)) (fun iv' ag hi=>⟨g,cap,rfl,hap.more (fun b _ h=>by rcases h with h|h|h; exact Ao 0 (by decide) (Or.inl ⟨rfl,h⟩); exact Ib (by kernel_rfl) ag h.1 h.2; exact A5 hi h.1 h.2)⟩))
     ·go_wp2_with fail;exact Ab.mk (hK _ _ _ nn (by first|rfl|(simp only [Ac])) (Aa.refl _) (fun iv' _ _=>rfl))
     obtain ⟨g7,cap7,h7,f7⟩:=dN hd 7;have h8:vs 8=_:=dN hd 8;have R1:=R.keep (hS.out 1 _ (by kernel_rfl) (Or.inr (Or.inl ⟨rfl,rfl⟩)));have rc0:=R1.c0;have rz0:=R1.frozen 0;have rc1:=R1.c1;have rz1:=R1.frozen 1;have rc2:=R1.c2;have rz2:=R1.frozen 2;have rlt:=R1.lt;go_wp2_with fail
     exact Ab.mk (hK undef _ _ (fun _=>rfl) (by simp only [Ac,h7,h8]) ((Ar (b0:=w.heap.size+1+1) (by repeat (first|exact Aa.refl _|apply Aa.set))).more (fun b h=>Or.inl ⟨1,by decide,(Or.inr (Or.inl ⟨rfl,h⟩))⟩)) (fun iv' ag hi=>by
      show Blk _ (w.heap.size+1+1) 28 [.int .i64 k0,.int .i64 n0,vs 7]
      rw [h7]
      exact (R1.set 2 _)))
    case hQ=>
     intro iv vs wx hB hSp hd he hbd hsep;have hzB:=hB.size;have h0:vs 0=_:=dE hd 0;have h1:vs 1=v:=dE hd 1;have h2:vs 2=_:=dE hd 2;have h3:vs 3=_:=dE hd 3;have h4:vs 4=_:=dE hd 4;obtain ⟨s2,c2,h5⟩:=dM he 5;obtain ⟨h6,q6,f6⟩:=dE hd 6;obtain ⟨g7,cap7,h7,f7⟩:=dE hd 7;have h8:vs 8=_:=dE hd 8;have f9:Blk _ (w.heap.size+1+1) 28 [.int .i64 k0,.int .i64 n0,vs 7]:=dE hd 9
     have lo7:∀b,foot [(7,5)] [(7,0),(9,1)] (fun m b=>(m=0∧b∈Fs)∨(m=1∧b=w.heap.size+1+1)∨(m=2∧b=kq)) 10 7 iv b→(wz.heap.size)≤b:=by
      rintro b ⟨j,hj,hh⟩;have hj':=of_decide_eq_true (List.all_eq_true.1 (show ((A9 [(7,5)] 10 7).all fun j=>decide (j∈[7,5]))=true from by kernel_rfl) j hj);simp only [List.mem_cons,List.not_mem_nil,or_false] at hj'
      rcases hj' with rfl|rfl
      ·have q:=(dM hbd 7).1
       rcases hh with hh|⟨m,hm,hg⟩
       ·omega
       simp at hm;subst hm;simp at hg;have q':=Vf b hg;omega
      have q:=(dM hbd 5).1
      rcases hh with hh|⟨m,hm,hg⟩
      ·omega
      simp at hm
     simp only [Af,Ac];rw [h7] at f9;have hap:=f7.app (W:=wz) lo7;rw [←Hds.out] at hap;clear hd he hbd hsep h0 h1 h2 h3 h4 h5 h6 h7 h8 lo7 f7;go_wp2_with fail
     go_roundw
     case rel=>exact ⟨k+1,_,by omega,by go_num,f9,hap,hBr.trans hB⟩
     case measure=>simp [intOf]; omega
   obtain rfl:k=ks.length:=by omega
   rw [List.take_of_length_le (by rw [Ex.putL_length]; omega)] at happ;obtain ⟨a',cap',rfl, -⟩:=happ.shape;obtain ⟨r0,r1,r2,z0,z1,z2, -⟩:=R.all3;have Q2:=R2.keep (hBr.block _ (by omega));obtain ⟨q0,q1,q2,y0,y1,y2, -⟩:=Q2.all3;have M2:=M.keep (hBr.block _ (by omega));have m0:=M2.c0;have m1:=M2.c1;have m2:=M2.c2;rw [←Hpk.out] at happ;go_wp2_with fail;have T2:=((Q2.set 0 (.int .i64 k0)).set 1 (.int .i64 n0)).set 2 (.slice a' ks.length cap');have t0:=T2.c0;have t1:=T2.c1;have t2:=T2.c2;refine bodyPost_ret (v:= .agg #[.int .i64 k0,.int .i64 n0,.slice a' ks.length cap']) (by simp [results,Tryz.results20,go_sem,t0,t1,t2]) rfl ⟨a',cap',by rw [Hk.out,Hn.out,←Hl.out], ?_,bel⟩;rw [←Hf.out,←Hl.out];refine Ag.one ((happ.fresh.keep fun bb hb1 hb2=> ?_).from szx);rw [Below.heap_setCell _ _ _ _ (by show bb≠w.heap.size+1; omega),Below.heap_setCell _ _ _ _ (by show bb≠w.heap.size+1; omega),Below.heap_setCell _ _ _ _ (by show bb≠w.heap.size+1; omega)]
set_option maxHeartbeats 4000000 in
theorem Px {t a tm am:Int} {bs:List Ex} {s:Option Addr} {c:Nat} {w:World} (q1:IntKind.i64.wrap (t - 1)=tm) (q2:IntKind.i64.wrap (a - 1)=am) (hr:Rd w (Ae bs) (.slice s bs.length c)):
  Calls Tryz.prog 19 #[.agg #[.int .i64 t,.int .i64 a],.slice s bs.length c] w fun f w'=>f= .returned (.bool (bs.all (fun e=>shF tm am e 200 40)&&Cj t a))∧Below w.heap.size w w':=by
 have Hq1:=hid q1;have Hq2:=hid q2;clear q1 q2;obtain ⟨-, hlen,hcap, -, -⟩:=A0 hr;unfold maxLen at hcap
 go_enter Tryz.func19,Tryz.ntmps19
 go_wp2_with fail;have L:=Blk.new2 w 25 (.int .i64 t) (.int .i64 a);have hB0:Below w.heap.size w (w.alloc (.cells #[.int .i64 t,.int .i64 a] 25)):=bel;generalize w.alloc (.cells #[.int .i64 t,.int .i64 a] 25)=w1 at L hB0 ⊢
 go_loopw [9] (fun i wr=>∃k:Nat,k≤bs.length∧i= .int .i64 k∧Hid (∀(j:Nat) (x:Ex),j<k→bs[j]? =some x→shF tm am x 200 40=true)∧Blk wr w.heap.size 25 [.int .i64 t,.int .i64 a]∧Below w.heap.size w wr) (fun i _=>bs.length - (intOf i).toNat)
 case atStart=>exact ⟨0,by omega,rfl,fun j x hj=>by omega,L,hB0⟩
 case round=>
  clear L hB0;obtain ⟨k,hk,rfl,Hpre,L,hB⟩:=hrel;have l0:=L.c0;have l1:=L.c1;have ltL:=L.lt
  by_cases hlt:k<bs.length
  rotate_left
  ·obtain rfl:k=bs.length:=by omega
   have C2:Hid (bs.all (fun e=>shF tm am e 200 40)=true):=by
    show _=_
    rw [List.all_eq_true];intro x hx;obtain ⟨j,hj⟩:=List.mem_iff_getElem?.1 hx;exact Hpre.out j x (List.getElem?_eq_some_iff.1 hj).1 hj
   go_wp2_with fail;refine (Fz _ _ _).mono ?_;rintro x w2 ⟨rfl,hb⟩;have hB2:=Below.on hB hb hB.size;go_wp2_with fail;go_ret;exact ⟨by rw [C2.out]; rfl,hB2⟩
  obtain ⟨x,hx⟩:∃e,bs[k]? =some e:=⟨_,List.getElem?_eq_getElem hlt⟩;obtain ⟨b,o,rfl⟩:=An hr (by intro h; simp [h] at hlt);obtain ⟨hbl,sx,cx,i0,i1,i2,gr⟩:=A3 hr hx;have g0:=(hB.cell (p:=⟨b,o+k*3,none⟩) hbl).trans i0;have g1:=(hB.cell (p:=⟨b,o+k*3+1,none⟩) hbl).trans i1;have g2:=(hB.cell (p:=⟨b,o+k*3+2,none⟩) hbl).trans i2
  have hblr:b<wr.heap.size:=by have:=hB.size; omega
  have ha:=Int.natCast_nonneg k
  have hb0:(k:Int)<(bs.length:Int):=by omega
  have Hx:=hid hx;have hszr:=hB.size;clear hx i0 i1 i2;go_wp2_with fail;have L1:=L.alloc (.cells #[.int .i64 x.kind,.int .i64 x.num,.slice sx x.kids.length cx] 28);have hB1:=hB.alloc hszr (.cells #[.int .i64 x.kind,.int .i64 x.num,.slice sx x.kids.length cx] 28);generalize wr.alloc (.cells #[.int .i64 x.kind,.int .i64 x.num,.slice sx x.kids.length cx] 28)=w2 at L1 hB1 ⊢;refine (Ma tm am Hq1.out Hq2.out (gr.below hB1)).mono ?_;rintro f w3 ⟨rfl,hb⟩
  have e1:shF tm am (Ex.mk x.kind x.num x.kids) 200 40=shF tm am x 200 40:=by rw [←Ex.eta]
  rw [e1];have hB3:=Below.on hB1 hb hB1.size;have L3:=L1.below hb;clear hb e1 l0 l1 g0 g1 g2
  cases h1:shF tm am x 200 40
  ·have C1:Hid (bs.all (fun e=>shF tm am e 200 40)=false):=by
    show _=_
    rw [List.all_eq_false];exact ⟨x,List.mem_of_getElem? Hx.out,by simp [h1]⟩
   go_wp2_with fail;go_ret;exact ⟨by rw [C1.out]; rfl,hB3⟩
  have Hpre2:Hid (∀(j:Nat) (x:Ex),j<k+1→bs[j]? =some x→shF tm am x 200 40=true):=by
   show ∀(j:Nat) (x:Ex),_
   intro j y hj hy
   by_cases hjk:j=k
   ·subst hjk;have:=Hx.out;rw [hy] at this
    cases this
    exact h1
   exact Hpre.out j y (by omega) hy
  clear Hpre;go_wp2_with fail
  go_roundw
  case rel=>exact ⟨k+1,by omega,by go_num,Hpre2,L3,hB3⟩
  case measure=>simp [intOf]; omega
def Dk (t a:Int) (e:Ex) (bs:List Ex):Bool:=okB t a e&&bs.all (okB t a)
def Bv (t a:Int) (e:Ex) (bs:List Ex):Ex:=if Dk t a e bs=true then (if (bs.length:Int)=a then (if okB t a (e.put bs)=true then e.put bs else Ex.zerP) else Ex.zerP) else Ex.zerP
def Ck (t a:Int) (e:Ex) (bs:List Ex):Int:=if Dk t a e bs=true then (if (bs.length:Int)=a then (if okB t a (e.put bs)=true then 0 else 3) else 2) else 1
theorem Gq {t a:Int} {e:Ex} (h:okB t a e=true):e.size≤200:=by
 unfold okB at h;simp only [Bool.and_eq_true,decide_eq_true_eq] at h;exact h.2.1.1
set_option maxRecDepth 100000 in
set_option maxHeartbeats 8000000 in
theorem J7 {t a k n:Int} {ks bs:List Ex} {s s2:Option Addr} {c c2:Nat} {w:World} (hr:Rd w (Ae ks) (.slice s ks.length c)) (hy:Rd w (Ae bs) (.slice s2 bs.length c2)) (h1:Ex.sizeL ks≤1048576) (h2:Ex.sizeL bs≤1048576):
  Calls Tryz.prog 10 #[.agg #[.int .i64 t,.int .i64 a],.agg #[.int .i64 k,.int .i64 n,.slice s ks.length c],.slice s2 bs.length c2] w fun f w'=>∃s' c',f= .returned (.tuple #[.agg #[.int .i64 (Bv t a (.mk k n ks) bs).kind,.int .i64 (Bv t a (.mk k n ks) bs).num,.slice s' (Bv t a (.mk k n ks) bs).kids.length c'],.int .i64 (Ck t a (.mk k n ks) bs)])∧
   Ag w w' [Ae (Bv t a (.mk k n ks) bs).kids] [.slice s' (Bv t a (.mk k n ks) bs).kids.length c']∧Below w.heap.size w w':=by
 have Hsz:Hid (Ex.size (.mk k n ks)≤1073741824):=by show _≤_; rw [Ex.size_eq]; simp only [Ex.kids]; omega
 have Hbz:Hid (∀x∈bs,x.size≤1073741824):=fun x hx=>by have:=Ex.sizeL_mem hx; omega
 obtain ⟨-, hlen,hcap, -, -⟩:=A0 hy;unfold maxLen at hcap;have hbl:=Ex.length_le_sizeL bs
 go_enter Tryz.func10,Tryz.ntmps10
 go_wp2_with fail;have L:=((Blk.new2 w 25 (.int .i64 t) (.int .i64 a)).alloc (.cells #[.int .i64 k,.int .i64 n,.slice s ks.length c] 28)).alloc (.cells #[.int .i64 0,.int .i64 0,.slice none 0 0] 28);have M:=(Blk.new3 (w.alloc (.cells #[.int .i64 t,.int .i64 a] 25)) 28 (.int .i64 k) (.int .i64 n) (.slice s ks.length c)).alloc (.cells #[.int .i64 0,.int .i64 0,.slice none 0 0] 28);have R:=Blk.new3 ((w.alloc (.cells #[.int .i64 t,.int .i64 a] 25)).alloc (.cells #[.int .i64 k,.int .i64 n,.slice s ks.length c] 28)) 28 (.int .i64 0) (.int .i64 0) (.slice none 0 0);have hB0:Below w.heap.size w (((w.alloc (.cells #[.int .i64 t,.int .i64 a] 25)).alloc (.cells #[.int .i64 k,.int .i64 n,.slice s ks.length c] 28)).alloc (.cells #[.int .i64 0,.int .i64 0,.slice none 0 0] 28)):=bel
 have hz0:(((w.alloc (.cells #[.int .i64 t,.int .i64 a] 25)).alloc (.cells #[.int .i64 k,.int .i64 n,.slice s ks.length c] 28)).alloc (.cells #[.int .i64 0,.int .i64 0,.slice none 0 0] 28)).heap.size=w.heap.size+3:=by simp
 simp at M R;generalize ((w.alloc (.cells #[.int .i64 t,.int .i64 a] 25)).alloc (.cells #[.int .i64 k,.int .i64 n,.slice s ks.length c] 28)).alloc (.cells #[.int .i64 0,.int .i64 0,.slice none 0 0] 28)=w1 at L M R hB0 hz0 ⊢;refine (Ic (e:= .mk k n ks) (M.exAt (hr.below hB0)) Hsz.out).mono ?_;rintro f w2 ⟨rfl,hb⟩;have hB:=Below.on hB0 hb hB0.size;replace L:=L.below hb;replace M:=M.below hb;replace R:=R.below hb;clear hb hB0
 cases he:okB t a (.mk k n ks)
 ·have E1:Hid (Bv t a (.mk k n ks) bs=Ex.zerP):=by show _=_; simp [Bv,Dk,he]
  have E2:Hid (Ck t a (.mk k n ks) bs=1):=by show _=_; simp [Ck,Dk,he]
  -- the answer is the zero expression and a code; the world is V
  obtain ⟨r0,r1,r2,z0,z1,z2,ltR⟩:=R.all3;obtain ⟨w5,e5,T2,hs5⟩:=zZ3 R (.int .i64 0) (.int .i64 0) (.slice none 0 0);go_wp2_with fail;clear e5;have t0:=T2.c0;have t1:=T2.c1;have t2:=T2.c2;have hB5:=hB.trans (hs5.below (B:=w.heap.size) (by omega) (fun y hy=>by omega));refine bodyPost_ret (v:= .tuple #[.agg #[.int .i64 0,.int .i64 0,.slice none 0 0],.int .i64 1]) (by simp [results,Tryz.results10,go_sem,t0,t1,t2]) rfl ?_;rw [E1.out,E2.out];exact ⟨none,0,rfl,Cp,hB5⟩
 have He:=hid he;clear he;go_wp2_with fail
 go_loopw [8] (fun i wr=>∃j:Nat,j≤bs.length∧i= .int .i64 j∧Hid (∀(m:Nat) (x:Ex),m<j→bs[m]? =some x→okB t a x=true)∧Blk wr w.heap.size 25 [.int .i64 t,.int .i64 a]∧Blk wr (w.heap.size+1) 28 [.int .i64 k,.int .i64 n,.slice s ks.length c]∧
   Blk wr (w.heap.size+1+1) 28 [.int .i64 0,.int .i64 0,.slice none 0 0]∧Below w.heap.size w wr) (fun i _=>bs.length - (intOf i).toNat)
 case atStart=>exact ⟨0,by omega,rfl,fun m x hm=>by omega,L,M,R,hB⟩
 case round=>
  clear L M R hB;obtain ⟨j,hj,rfl,Hpre,L,M,R,hB⟩:=hrel
  by_cases hlt:j<bs.length
  ·obtain ⟨x,hx⟩:∃e,bs[j]? =some e:=⟨_,List.getElem?_eq_getElem hlt⟩;obtain ⟨b,o,rfl⟩:=An hy (by intro h; simp [h] at hlt);have hxat:=(Ay hy hx).below hB;have hxz:=Hbz.out x (List.mem_of_getElem? hx);have ha:=Int.natCast_nonneg j
   have hb0:(j:Int)<(bs.length:Int):=by omega
   have gl0:=fun d os=>cell_regrown L.c0 d os;have gl1:=fun d os=>cell_regrown L.c1 d os;have Hx:=hid hx;clear hx;go_wp2_with fail;refine Go.wp_region_quiet_below (by kernel_rfl) (by kernel_rfl) ?_
   repeat (first|go_big_quiet_step ((exact Calls.regrown_of (Ic (hxat.below (below_regrown _ _ _)) hxz)))|quiet_step ((exact Calls.regrown_of (Ic (hxat.below (below_regrown _ _ _)) hxz))))
   refine wpQuiet_nil ?_; intro _ hw'; obtain ⟨⟨dq,osq⟩,hw''⟩:=hw'; subst hw''; have hq:=below_regrown wr dq osq; revert hq; generalize grow (redrawn wr dq) osq=w3; intro hq;have hB3:=Below.on hB hq hB.size;have L3:=L.below hq;have M3:=M.below hq;have R3:=R.below hq;clear hq gl0 gl1 L M R hB
   cases h3:okB t a x
   ·have hall:bs.all (okB t a)=false:=by
     rw [List.all_eq_false];exact ⟨x,List.mem_of_getElem? Hx.out,by simp [h3]⟩
    have E1:Hid (Bv t a (.mk k n ks) bs=Ex.zerP):=by show _=_; simp [Bv,Dk,hall]
    have E2:Hid (Ck t a (.mk k n ks) bs=1):=by show _=_; simp [Ck,Dk,hall]
    have R:=R3;have hB:=hB3;clear hall R3 hB3
    -- the answer is the zero expression and a code; the world is V
    obtain ⟨r0,r1,r2,z0,z1,z2,ltR⟩:=R.all3;obtain ⟨w5,e5,T2,hs5⟩:=zZ3 R (.int .i64 0) (.int .i64 0) (.slice none 0 0);go_wp2_with fail;clear e5;have t0:=T2.c0;have t1:=T2.c1;have t2:=T2.c2;have hB5:=hB.trans (hs5.below (B:=w.heap.size) (by omega) (fun y hy=>by omega));refine bodyPost_ret (v:= .tuple #[.agg #[.int .i64 0,.int .i64 0,.slice none 0 0],.int .i64 1]) (by simp [results,Tryz.results10,go_sem,t0,t1,t2]) rfl ?_;rw [E1.out,E2.out];exact ⟨none,0,rfl,Cp,hB5⟩
   have Hpre2:Hid (∀(m:Nat) (x:Ex),m<j+1→bs[m]? =some x→okB t a x=true):=by
    show ∀(m:Nat) (x:Ex),_
    intro m y hm hy2
    by_cases hmj:m=j
    ·subst hmj;have:=Hx.out;rw [hy2] at this
     cases this
     exact h3
    exact Hpre.out m y (by omega) hy2
   clear Hpre;go_wp2_with fail
   go_roundw
   case rel=>exact ⟨j+1,by omega,by go_num,Hpre2,L3,M3,R3,hB3⟩
   case measure=>simp [intOf]; omega
  obtain rfl:j=bs.length:=by omega
  have Hall:Hid (bs.all (okB t a)=true):=by
   show _=_
   rw [List.all_eq_true];intro x hx;obtain ⟨m,hm⟩:=List.mem_iff_getElem?.1 hx;exact Hpre.out m x (List.getElem?_eq_some_iff.1 hm).1 hm
  have l1:=L.c1
  by_cases hla:(bs.length:Int)=a
  rotate_left
  ·have d2:((bs.length:Int) !=a)=true:=by simp [hla]
   have E1:Hid (Bv t a (.mk k n ks) bs=Ex.zerP):=by show _=_; simp [Bv,hla]
   have E2:Hid (Ck t a (.mk k n ks) bs=2):=by show _=_; simp [Ck,Dk,hla,Hall.out,He.out]
   clear hla
   -- the answer is the zero expression and a code; the world is V
   obtain ⟨r0,r1,r2,z0,z1,z2,ltR⟩:=R.all3;obtain ⟨w5,e5,T2,hs5⟩:=zZ3 R (.int .i64 0) (.int .i64 0) (.slice none 0 0);go_wp2_with fail;clear e5;have t0:=T2.c0;have t1:=T2.c1;have t2:=T2.c2;have hB5:=hB.trans (hs5.below (B:=w.heap.size) (by omega) (fun y hy=>by omega));refine bodyPost_ret (v:= .tuple #[.agg #[.int .i64 0,.int .i64 0,.slice none 0 0],.int .i64 2]) (by simp [results,Tryz.results10,go_sem,t0,t1,t2]) rfl ?_;rw [E1.out,E2.out];exact ⟨none,0,rfl,Cp,hB5⟩
  have d2:((bs.length:Int) !=a)=false:=by simp [hla]
  have Hla:=hid hla;clear hla;go_wp2_with fail;have LB:=Blk.new1 wr 2 (.int .i64 200);have hBa:Below wr.heap.size wr (wr.alloc (.cells #[.int .i64 200] 2)):=Below.alloc (Below.refl _ _) (Nat.le_refl _) _
  have hza:(wr.alloc (.cells #[.int .i64 200] 2)).heap.size=wr.heap.size+1:=by simp
  have L1:=L.below hBa;have R1:=R.below hBa;have ltRr:=R.lt;generalize wr.alloc (.cells #[.int .i64 200] 2)=w4 at LB hBa hza L1 R1 ⊢;have hszr:=hB.size;have hbs2:∀x∈bs,x.size≤200:=fun x hx=>Gq (List.all_eq_true.1 Hall.out x hx);have hesz:=Gq He.out;refine (Uz wr bs s2 c2 wr.heap.size (t - 1) (a - 1) (hy.below hB) (by have:=Hla.out; omega) hbs2 (Nat.le_refl _) _ (.mk k n ks) _ _ _ 200 (Nat.le_refl _) (M.exAt (hr.below hB)) (by omega) (Gt He.out) hBa LB (by omega) (by omega)).mono ?_;have HP:=hid (Ex.putG_spec bs (.mk k n ks) 200 (by omega));obtain ⟨y,l,hyl⟩:∃y l,Ex.putG bs (.mk k n ks) 200=(y,l):=⟨_,_,rfl⟩;have Hyl:=hid hyl;rw [hyl];clear hyl hbs2 hesz l1;rintro f w5 ⟨s',c',rfl,hf,hsp,LB5⟩;simp only at hf LB5 ⊢;have sz5:=hsp.size;have L5:=L1.keep (hsp.block _ L1.lt (by omega));have R5:=R1.keep (hsp.block _ R1.lt (by omega));have hB5:=hB.trans ((hBa.mono (by omega)).trans (hsp.below (B:=w.heap.size) (by omega) (fun y hy=>by omega)));clear L M R hB L1 R1 hBa LB hsp;have lb0:=LB5.c0;have ltB:=LB5.lt;obtain ⟨ra0,ra1,ra2,rz0,rz1,rz2,ltR5⟩:=R5.all3;have la0:=L5.c0;have la1:=L5.c1;have ltL5:=L5.lt;have Y:=Blk.new3 w5 28 (.int .i64 y.kind) (.int .i64 y.num) (.slice s' y.kids.length c');have hBy:Below w5.heap.size w5 (w5.alloc (.cells #[.int .i64 y.kind,.int .i64 y.num,.slice s' y.kids.length c'] 28)):=Below.alloc (Below.refl _ _) (Nat.le_refl _) _
  have hzy:(w5.alloc (.cells #[.int .i64 y.kind,.int .i64 y.num,.slice s' y.kids.length c'] 28)).heap.size=w5.heap.size+1:=by simp
  have szB5:=hB5.size
  by_cases hl:l<0
  ·have hd3:decide (l<0)=true:=by simpa using hl
   have hno:okB t a (Ex.put bs (.mk k n ks))=false:=by
    cases hq:okB t a (Ex.put bs (.mk k n ks)) with
    |false=>rfl
    |true=>
     have h5:=Gq hq;have h6:=HP.out.1 (by omega);rw [Hyl.out] at h6;simp only [Prod.mk.injEq] at h6;omega
   have E1:Hid (Bv t a (.mk k n ks) bs=Ex.zerP):=by show _=_; simp [Bv,hno]
   have E2:Hid (Ck t a (.mk k n ks) bs=3):=by show _=_; simp [Ck,Dk,hno,Hall.out,He.out,Hla.out]
   clear hno hl;obtain ⟨w6,e5,T2,hs5⟩:=zZ3 R5 (.int .i64 0) (.int .i64 0) (.slice none 0 0);go_wp2_with fail;clear e5;have T3:=T2.alloc (.cells #[.int .i64 y.kind,.int .i64 y.num,.slice s' y.kids.length c'] 28);have t0:=T3.c0;have t1:=T3.c1;have t2:=T3.c2;have hB6:=hB5.trans (hs5.below (B:=w.heap.size) (by omega) (fun y hy=>by omega));refine bodyPost_ret (v:= .tuple #[.agg #[.int .i64 0,.int .i64 0,.slice none 0 0],.int .i64 3]) (by simp [results,Tryz.results10,go_sem,t0,t1,t2]) rfl ?_;rw [E1.out,E2.out];exact ⟨none,0,rfl,Cp,hB6.alloc hB6.size _⟩
  have hd3:decide (l<0)=false:=by simpa using hl
  have hyy:y=Ex.put bs (.mk k n ks)∧(Ex.put bs (.mk k n ks)).size≤200:=by
   by_cases hq:((Ex.put bs (.mk k n ks)).size:Int)≤200
   ·have h6:=HP.out.1 hq;rw [Hyl.out] at h6;simp only [Prod.mk.injEq] at h6;exact ⟨h6.1,by omega⟩
   have h6:=HP.out.2 (by omega);rw [Hyl.out] at h6;exact absurd h6 hl
  obtain ⟨rfl,hysz⟩:=hyy;clear hl;go_wp2_with fail;clear lb0 ra0 ra1 ra2 rz0 rz1 rz2 la0 la1 ltR5 ltL5;have L6:=L5.below hBy;have R6:=R5.below hBy;have hf6:=hf.on hBy;have hB6:=hB5.trans (hBy.mono (by omega));generalize w5.alloc (.cells #[.int .i64 (Ex.put bs (.mk k n ks)).kind,.int .i64 (Ex.put bs (.mk k n ks)).num,.slice s' (Ex.put bs (.mk k n ks)).kids.length c'] 28)=w6 at Y L6 R6 hf6 hB6 hzy ⊢;refine (Ic (e:=Ex.put bs (.mk k n ks)) ⟨Y.c0,Y.c1,s',c',Y.c2,hf6.rds.one⟩ (by omega)).mono ?_;rintro f w7 ⟨rfl,hb⟩;have sz7:=hb.size;have hf7:=hf6.on hb;have R7:=R6.below hb;have Y7:=Y.below hb;have hB7:=hB6.trans (hb.mono (by omega));clear hb hf hf6 R5 R6 L5 L6 Y hBy hB5 hB6
  cases hq:okB t a (Ex.put bs (.mk k n ks))
  ·have E1:Hid (Bv t a (.mk k n ks) bs=Ex.zerP):=by show _=_; simp [Bv,hq]
   have E2:Hid (Ck t a (.mk k n ks) bs=3):=by show _=_; simp [Ck,Dk,hq,Hall.out,He.out,Hla.out]
   have R:=R7;have hB:=hB7;clear R7 hB7
   -- the answer is the zero expression and a code; the world is V
   obtain ⟨r0,r1,r2,z0,z1,z2,ltR⟩:=R.all3;obtain ⟨w5,e5,T2,hs5⟩:=zZ3 R (.int .i64 0) (.int .i64 0) (.slice none 0 0);go_wp2_with fail;clear e5;have t0:=T2.c0;have t1:=T2.c1;have t2:=T2.c2;have hB5:=hB.trans (hs5.below (B:=w.heap.size) (by omega) (fun y hy=>by omega));refine bodyPost_ret (v:= .tuple #[.agg #[.int .i64 0,.int .i64 0,.slice none 0 0],.int .i64 3]) (by simp [results,Tryz.results10,go_sem,t0,t1,t2]) rfl ?_;rw [E1.out,E2.out];exact ⟨none,0,rfl,Cp,hB5⟩
  have E1:Hid (Bv t a (.mk k n ks) bs=Ex.put bs (.mk k n ks)):=by show _=_; simp [Bv,Dk,hq,Hall.out,He.out,Hla.out]
  have E2:Hid (Ck t a (.mk k n ks) bs=0):=by show _=_; simp [Ck,Dk,hq,Hall.out,He.out,Hla.out]
  have y0:=Y7.c0;have y1:=Y7.c1;have y2:=Y7.c2;obtain ⟨r0,r1,r2,z0,z1,z2,ltR⟩:=R7.all3;have ltY:=Y7.lt;go_wp2_with fail;obtain ⟨P,hP⟩:∃P,Ex.put bs (.mk k n ks)=P:=⟨_,rfl⟩;rw [hP] at E1 hf7 ⊢;have T2:=((R7.set 0 (.int .i64 P.kind)).set 1 (.int .i64 P.num)).set 2 (.slice s' P.kids.length c');have hs5:Aa (fun y=>y=w.heap.size+1+1) w7 (((w7.setCell ⟨w.heap.size+1+1,0,none⟩ (.int .i64 P.kind)).setCell ⟨w.heap.size+1+1,1,none⟩ (.int .i64 P.num)).setCell ⟨w.heap.size+1+1,2,none⟩ (.slice s' P.kids.length c')):=Aa.set (Aa.set (Aa.set (Aa.refl w7)));generalize (((w7.setCell ⟨w.heap.size+1+1,0,none⟩ (.int .i64 P.kind)).setCell ⟨w.heap.size+1+1,1,none⟩ (.int .i64 P.num)).setCell ⟨w.heap.size+1+1,2,none⟩ (.slice s' P.kids.length c'))=w8 at T2 hs5 ⊢;have t0:=T2.c0;have t1:=T2.c1;have t2:=T2.c2;have hB8:=hB7.trans (hs5.below (B:=w.heap.size) (by omega) (fun y hy=>by omega));refine bodyPost_ret (v:= .tuple #[.agg #[.int .i64 P.kind,.int .i64 P.num,.slice s' P.kids.length c'],.int .i64 0]) (by simp [results,Tryz.results10,go_sem,t0,t1,t2]) rfl ?_;rw [E1.out,E2.out];obtain ⟨F,F1,F2,F3⟩:=hf7;exact ⟨s',c',rfl,⟨F,F1.keep fun q hq2=>hs5.block q (F1.lt q hq2) (by have:=F3 q hq2; omega),F2,fun q hq2=>by have:=F3 q hq2; omega⟩,hB8⟩
end Go.Proofs.YtlchgfbkdjjngaaGreatDoor
