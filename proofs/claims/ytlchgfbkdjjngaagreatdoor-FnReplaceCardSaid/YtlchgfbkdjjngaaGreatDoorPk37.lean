/-
  Parts of a proof, joined: Rch, WdB, AtI, Bytes, Lw. No condition.
-/
import Derived.Test.YtlchgfbkdjjngaaGreatDoorPk36
set_option linter.unusedVariables false
set_option linter.unusedSimpArgs false
namespace Go.Proofs.YtlchgfbkdjjngaaGreatDoor
open Go.ChangeShapes Go.WideShapes Go.ChangeAt Go.RowKit Go.Deep Go.ChangeMaps Go.MapKept
structure Rch where
 p:Int × Int
 f:Int
 m:Int
 k:Int
def Rch.cells (r:Rch):List Value:=[.int .i64 r.p.1,.int .i64 r.p.2,.int .i64 r.f,.int .i64 r.m,.int .i64 r.k]
def Rch.ds (r:Rch):List D:=[.int r.p.1,.int r.p.2,.int r.f,.int r.m,.int r.k]
def If (R:List Rch):List D:=R.flatMap Rch.ds
theorem Vg (R:List Rch) (r:Rch):If (R++[r])=If R++r.ds:=by simp [If]
theorem Td:∀(R:List Rch) (i:Nat) (r:Rch),R[i]? =some r→∀j,j<5→(If R)[i*5+j]? =r.ds[j]?
 |[],i,r,h=>by simp at h
 |x::R,0,r,h=>by
  simp at h;subst h;intro j hj;rw [Nat.zero_mul,Nat.zero_add]
  show (x.ds++If R)[j]? =_
  rw [List.getElem?_append_left (by simp [Rch.ds]; omega)]
 |x::R,i+1,r,h=>by
  intro j hj;have:=Td R i r (by simpa using h) j hj
  show (x.ds++If R)[(i+1)*5+j]? =_
  rw [List.getElem?_append_right (by simp [Rch.ds]; omega)];rw [show (i+1)*5+j - x.ds.length=i*5+j by simp [Rch.ds]; omega];exact this
theorem I9 {w:World} {R:List Rch} {b o n cap:Nat} (h:Rd w (.sl 5 R.length (If R)) (.slice (some ⟨b,o,none⟩) n cap)) {i:Nat} {r:Rch} (hr:R[i]? =some r):
  b<w.heap.size∧w.cell? ⟨b,o+i*5,none⟩=some (.int .i64 r.p.1)∧w.cell? ⟨b,o+i*5+1,none⟩=some (.int .i64 r.p.2)∧w.cell? ⟨b,o+i*5+2,none⟩=some (.int .i64 r.f)∧w.cell? ⟨b,o+i*5+3,none⟩=some (.int .i64 r.m)∧w.cell? ⟨b,o+i*5+4,none⟩=some (.int .i64 r.k):=by
 obtain ⟨_,_,_,_,_,h4⟩:=h.sl_at;have hi:=(List.getElem?_eq_some_iff.1 hr).1
 rcases h4 with h4|⟨b',o',e1,h4⟩
 ·omega
 simp only [Option.some.injEq,Addr.mk.injEq,and_true] at e1;obtain ⟨rfl,rfl⟩:=e1
 have c:∀j,j<5→∀v:Int,r.ds[j]? =some (.int v)→w.cell? ⟨b,o+(i*5+j),none⟩=some (.int .i64 v):=by
  intro j hj v hv;obtain ⟨x,h5,h6⟩:=h4 (i*5+j) (.int v) (by rw [Td R i r hr j hj,hv]);simp only [Rd] at h6;rw [h6] at h5;exact h5
 have c0:=c 0 (by omega) _ rfl;have c1:=c 1 (by omega) _ rfl;have c2:=c 2 (by omega) _ rfl;have c3:=c 3 (by omega) _ rfl;have c4:=c 4 (by omega) _ rfl;exact ⟨World.block_lt_of_cell? w _ c0,by simpa using c0,by rw [←c1]; congr 2,by rw [←c2]; congr 2,by rw [←c3]; congr 2,by rw [←c4]; congr 2⟩
theorem Pe {w:World} (r:Rch):OwS (fun _=>False) w r.ds r.cells:=
 ⟨[],Ows.cons (F:=[]) (by simp [Ow]) (Ows.cons (F:=[]) (by simp [Ow]) (Ows.cons (F:=[]) (by simp [Ow]) (Ows.cons (F:=[]) (by simp [Ow]) (Ows.cons (F:=[]) (by simp [Ow]) Ows.nil)))),by simp,by simp⟩
def Gh (g:Nat) (L:List (Int × Int)) (w:World):Prop:=∃M,Bm Tryz.prog 101 kfP Value.bool w g M∧∀q,Bn M q=if q∈L∨q=(-1, -1) then some true else none
theorem Gh.hold {g:Nat} {L:List (Int × Int)} {w:World} (h:Gh g L w):∀w1:World,w1.heap[g]? =w.heap[g]? →Gh g L w1:=fun w1 h1=>by
 obtain ⟨M,hm,hf⟩:=h;exact ⟨M,hm.keep h1,hf⟩
theorem Xi {L:List (Int × Int)} {M:List ((Int × Int) × Bool)} {z:Int × Int} (hf:∀q,Bn M q=if q∈L∨q=(-1, -1) then some true else none):∀q,Bn (Dv M z true) q=if q∈L++[z]∨q=(-1, -1) then some true else none:=by
 intro q;rw [Fk,hf]
 by_cases h:z=q
 ·subst h
  simp
 rw [if_neg h];have h':¬q=z:=fun e=>h e.symm
 simp [h']
theorem Wp (w:World):(zeroValue 4).run Tryz.prog w= .ok (.bool false) w:=by kernel_rfl
theorem Xa:(Tryz.prog.info? 103).map (fun i=>(i.zero,i.size,i.bytes))=some (some (.agg #[.int .i64 0,.int .i64 0,.int .i64 0,.int .i64 0,.int .i64 0]),5,40):=by kernel_rfl
theorem Yh {B:Nat} {w:World} {items:List A6} (h:Bun B w items) (hB:B≤w.heap.size) {t:Nat} (r:Rch):Bun B (w.alloc (.cells r.cells.toArray t)) (items++[.app t 5 1 r.ds (.slice (some ⟨w.heap.size,0,none⟩) 1 1)]):=by
 refine h.push (Below.alloc (Below.refl _ _) (Nat.le_refl _) _) ?_;refine Al.more (Al.made (t:=t) (size:=5) (m:=1) (S:=fun _=>False) (Pe (w:=w) r) (fun b h=>h.elim) rfl (by unfold maxLen; omega)) fun b _ hc=> ?_
 have hz:(w.alloc (.cells r.cells.toArray t)).heap.size=w.heap.size+1:=by simp
 rcases hc with hc|hc
 ·exact hc.elim
 omega
def Ja (R:List Rch):Prop:=∀(j:Nat) (r:Rch),R[j]? =some r→ -1≤r.f∧r.f<j
theorem Ja.snoc {R:List Rch} {r:Rch} (h:Ja R) (h1: -1≤r.f) (h2:r.f<R.length):Ja (R++[r]):=fun j q hq=>by
 by_cases hj:j<R.length
 ·rw [List.getElem?_append_left hj] at hq;exact h j q hq
 have hl:=(List.getElem?_eq_some_iff.1 hq).1;simp at hl
 obtain rfl:j=R.length:=by omega
 simp at hq;subst hq;exact ⟨h1,h2⟩
def Oc (B g T:Nat) (w0 wr:World) (L:List (Int × Int)) (v:Value):Prop:=
 ∃R:List Rch,Bun B wr [.app T 5 R.length (If R) v,.one g (Gh g L)]∧R.map Rch.p=L∧Ja R∧Below B w0 wr
def Ie (B g T pb Tp:Nat) (x:Int × Int) (w0 wr:World) (L:List (Int × Int)) (v:Value):Prop:=
 ∃R:List Rch,Bun B wr [.app T 5 R.length (If R) v,.one g (Gh g L),.box pb Tp [.int .i64 x.1,.int .i64 x.2]]∧R.map Rch.p=L∧Ja R∧Below B w0 wr
theorem Ie.drop {B g T pb Tp:Nat} {x:Int × Int} {w0 wr:World} {L:List (Int × Int)} {v:Value} (h:Ie B g T pb Tp x w0 wr L v):Oc B g T w0 wr L v:=by
 obtain ⟨R,h1,h2⟩:=h;exact ⟨R,h1.take 2,h2⟩
theorem Ie.below {B g T pb Tp:Nat} {x:Int × Int} {w0 wr w2:World} {L:List (Int × Int)} {v:Value} (h:Ie B g T pb Tp x w0 wr L v) (hB:B≤wr.heap.size) (hb:Below wr.heap.size wr w2):Ie B g T pb Tp x w0 w2 L v:=by
 obtain ⟨R,h1,h2,h3,h4⟩:=h;exact ⟨R,h1.below hb,h2,h3,h4.trans (hb.mono hB)⟩
theorem Ue:∀q:Int × Int,Bn (Dv (Dv ([]:List ((Int × Int) × Bool)) (0,0) true) (-1, -1) true) q=if q∈[((0:Int),(0:Int))]∨q=(-1, -1) then some true else none:=by
 intro q;rw [Fk,Fk]
 by_cases h1:((-1:Int),(-1:Int))=q
 ·subst h1; simp
 by_cases h2:((0:Int),(0:Int))=q
 ·subst h2; simp
 have h1':¬q=(-1, -1):=fun e=>h1 e.symm;have h2':¬q=(0,0):=fun e=>h2 e.symm
 simp [h1,h2,h1',h2',Bn]
theorem Sp:∀q:Int × Int,Bn (Dv (Dv ([]:List ((Int × Int) × Bool)) (-1, -1) true) (0,0) true) q=if q∈[((0:Int),(0:Int))]∨q=(-1, -1) then some true else none:=by
 intro q;rw [Fk,Fk]
 by_cases h1:((-1:Int),(-1:Int))=q
 ·subst h1; simp
 by_cases h2:((0:Int),(0:Int))=q
 ·subst h2; simp
 have h1':¬q=(-1, -1):=fun e=>h1 e.symm;have h2':¬q=(0,0):=fun e=>h2 e.symm
 simp [h1,h2,h1',h2',Bn]
set_option maxRecDepth 100000 in
set_option maxHeartbeats 16000000 in
theorem Yc {t a:Int} {ac bc:List (List Bool)} {nx ny:List (List (List Int))} {s u s' u':Option Addr} {c d c' d':Nat} {w:World} (hr:Rds w (Gc ac nx) [.slice s ac.length c,.slice u nx.length d]) (hr':Rds w (Gc bc ny) [.slice s' bc.length c',.slice u' ny.length d']) (hok:By t a ac nx) (hok':By t a bc ny):
  Calls Tryz.prog 61 #[.agg #[.int .i64 t,.int .i64 a,.slice s ac.length c,.slice u nx.length d],.agg #[.int .i64 t,.int .i64 a,.slice s' bc.length c',.slice u' ny.length d']] w fun e w'=>∃(R:List Rch) (sa:Option Addr) (ca:Nat),e= .returned (.slice sa R.length ca)∧Rd w' (.sl 5 R.length (If R)) (.slice sa R.length ca)∧R.map Rch.p=prF nx ny (Ah t).toNat a.toNat∧Ja R∧Below w.heap.size w w':=by
 obtain ⟨ht0,ht3,ha0,ha4⟩:=Db hok.sig;obtain ⟨hat1,hat8⟩:=Ec t;have hP1:=fun (i:Nat) (h:(prL nx ny (Ah t).toNat a.toNat i).length≤i)=>To hok hok' h;have hP2:=fun (i:Nat) (x:Int × Int) (m k:Nat) (hx:(prL nx ny (Ah t).toNat a.toNat i)[i]? =some x)=>U6 (m:=m) (k:=k) hok hok' hx;have hP3:=fun (i:Nat)=>Fw hok hok' i;obtain ⟨n,hn⟩:∃n:Nat,a=(n:Int):=⟨a.toNat,by omega⟩;obtain ⟨A,hA⟩:∃A:Nat,Ah t=(A:Int):=⟨(Ah t).toNat,by omega⟩;rw [show (Ah t).toNat=A by omega,show a.toNat=n by omega] at*;have HA:=hid hA;have Hn:=hid hn;have HP1:=hid hP1;have HP2:=hid hP2;have HP3:=hid hP3;have Hok:=hid hok;have Hok':=hid hok';have Hr:=hid hr;have Hr':=hid hr'
 have hA8:A≤8:=by omega
 have hn4:n≤4:=by omega
 have hhi1:=hok.hi;have hhi2:=hok'.hi;clear hP1 hP2 hP3 hok hok' hr hr' hA hat1 hat8
 have hn1:a≤(n:Int):=by omega
 have hn2:(n:Int)≤a:=by omega
 clear hn;have hmm:= @run_makeMap Tryz.prog
 go_enter Tryz.func61,Tryz.ntmps61
 go_wp2_with fail;obtain ⟨w1,e1,X,hb1,hz1⟩:=Dx w 73 (.int .i64 t) (.int .i64 a) (.slice s ac.length c) (.slice u nx.length d);rw [e1];obtain ⟨w2,e2,Y,hb2,hz2⟩:=Dx w1 73 (.int .i64 t) (.int .i64 a) (.slice s' bc.length c') (.slice u' ny.length d');rw [e2];rw [hz1] at Y;have hB2:Below w.heap.size w w2:=hb1.trans (hb2.mono (by omega));replace X:=X.below hb2;have hBun:=Yh (Bun.nil (B:=w2.heap.size) (w:=w2)) (Nat.le_refl _) (t:=103) ⟨(0,0), -1,0,0⟩;obtain ⟨w3,e3⟩:∃w3,w2.alloc (.cells #[.int .i64 0,.int .i64 0,.int .i64 (-1),.int .i64 0,.int .i64 0] 103)=w3:=⟨_,rfl⟩
 have hb3:Below w2.heap.size w2 w3:=by rw [←e3]; exact Below.alloc (Below.refl _ _) (Nat.le_refl _) _
 have hz3:w3.heap.size=w2.heap.size+1:=by rw [←e3]; simp
 have ha2:w2.heap.size=w.heap.size+1+1:=by omega
 have hBun2:Bun w2.heap.size w3 [.app 103 5 1 (If [⟨(0,0), -1,0,0⟩]) (.slice (some ⟨w.heap.size+1+1,0,none⟩) 1 1)]:=by rw [←e3,←ha2]; exact hBun
 rw [e3];clear e1 e2 e3 hb1 hb2 hBun ha2;have hM0:Bm Tryz.prog 101 kfP Value.bool (w3.alloc (.map #[] 0)) w3.heap.size ([]:List ((Int × Int) × Bool)):=Bm.made w3
 have hM:Bm Tryz.prog 101 kfP Value.bool (w3.alloc (.map #[] 0)).drew (w.heap.size+1+1+1) ([]:List ((Int × Int) × Bool)):=by
  rw [show w.heap.size+1+1+1=w3.heap.size by omega];exact hM0.keep rfl
 have k0:∃l,keyOf Tryz.prog 101 (kfP (0,0))=some l:=keyP (by simp) (by simp);have k1:∃l,keyOf Tryz.prog 101 (kfP (-1, -1))=some l:=keyP (by simp) (by simp);obtain ⟨wA,rA,mA,oA⟩:=hM.update L0 Gv Tryz.underlying118 k0 true;obtain ⟨wB,rB,mB,oB⟩:=mA.update L0 Gv Tryz.underlying118 k1 true;obtain ⟨wC,rC,mC,oC⟩:=hM.update L0 Gv Tryz.underlying118 k1 true;obtain ⟨wD,rD,mD,oD⟩:=mC.update L0 Gv Tryz.underlying118 k0 true;simp only [kfP] at rA rB rC rD;have MB:=hid mB;have OB:=hid (oA.trans oB);have MD:=hid mD;have OD:=hid (oC.trans oD);have hBun3:=hBun2.push_one (P:=fun _=>True) (by omega) (Below.alloc (Below.refl _ _) (Nat.le_refl _) (.map #[] 0)) (by simp) (fun _ _=>trivial);rw [show w3.heap.size=w.heap.size+1+1+1 by omega] at hBun3;have hBun4:=Bun.keep (w':=(w3.alloc (.map #[] 0)).drew) hBun3 (Nat.le_refl _) (fun _ _ _=>rfl);have hbe4:Below w2.heap.size w2 (w3.alloc (.map #[] 0)).drew:=(hb3.alloc hb3.size _).drew
 have hgl:w2.heap.size≤w.heap.size+1+1+1:=by omega
 have hgl2:w2.heap.size≤(w3.alloc (.map #[] 0)).drew.heap.size:=hbe4.size
 have HB:Hid (Oc w2.heap.size (w.heap.size+1+1+1) 103 w2 wB (prL nx ny A n 0) (.slice (some ⟨w.heap.size+1+1,0,none⟩) 1 1)):=
  ⟨[⟨(0,0), -1,0,0⟩],hBun4.turn_one 1 rfl OB.out (Gh.hold ⟨_,MB.out,Ue⟩),rfl,(fun j r hr=>by
   cases j with
   |zero=>simp at hr; subst hr; simp
   |succ j=>simp at hr),hbe4.trans (OB.out.below hgl2 (fun b hb=>by simp at hb; omega))⟩
 have HD:Hid (Oc w2.heap.size (w.heap.size+1+1+1) 103 w2 wD (prL nx ny A n 0) (.slice (some ⟨w.heap.size+1+1,0,none⟩) 1 1)):=
  ⟨[⟨(0,0), -1,0,0⟩],hBun4.turn_one 1 rfl OD.out (Gh.hold ⟨_,MD.out,Sp⟩),rfl,(fun j r hr=>by
   cases j with
   |zero=>simp at hr; subst hr; simp
   |succ j=>simp at hr),hbe4.trans (OD.out.below hgl2 (fun b hb=>by simp at hb; omega))⟩
 clear hM hM0 mA mB mC mD oA oB oC oD k0 k1 MB MD OB OD hBun2 hBun3 hBun4 hbe4 hgl2;have HX:=hid X;have HY:=hid Y;clear X Y
 go_region
 rotate_left
 revert HD;generalize wD=wz;clear rA rB rC rD HB
 rotate_left
 revert HB;generalize wB=wz;clear rA rB rC rD HD
 all_goals
  intro Hst;obtain ⟨g,hg⟩:∃g,w.heap.size+1+1+1=g:=⟨_,rfl⟩;rw [hg] at Hst ⊢;go_wp2_with fail
  go_loopw [5,7] (fun v0 i wr=>∃k:Nat,i= .int .i64 k∧k≤(prL nx ny A n k).length∧Oc w2.heap.size g 103 w2 wr (prL nx ny A n k) v0) (fun _ i _=>3722 - (intOf i).toNat)
  case atStart=>exact ⟨0,rfl,by omega,Hst.out⟩
  case round=>
   clear Hst;obtain ⟨i,rfl,hil,R,hbun,hRm,hfo,hbe⟩:=hrel;obtain ⟨wo,rfl⟩:∃v,v=wr:=⟨_,rfl⟩;have hmany:=HP3.out i;obtain ⟨a0,c0,rfl,q1,q2⟩:=hbun.shape 0 rfl;unfold maxLen at q2
   have hRl:R.length=(prL nx ny A n i).length:=by rw [←hRm,List.length_map]
   have hmany2:R.length≤3721:=by omega
   have HRm:=hid hRm;have Hfo:=hid hfo;have HB:=hid hbun;have HBe:=hid hbe;have hi0:=Int.natCast_nonneg i;have hzo:=hbe.size;clear hRm hfo
   by_cases hlt:i<R.length
   rotate_left
   ·have hd:(prL nx ny A n i).length≤i:=by omega
    have HF:Hid (R.map Rch.p=prF nx ny A n):=by show _=_; unfold prF; rw [←HP1.out i hd,HRm.out]
    have Hrd:=hid (hbun.rd 0 rfl);clear hd hbun hbe hRl;go_wp2_with fail;go_ret;exact ⟨R,a0,c0,rfl,Hrd.out,HF.out,Hfo.out,hB2.trans (HBe.out.mono hB2.size)⟩
   obtain ⟨r,hrr⟩:∃r,R[i]? =some r:=⟨_,List.getElem?_eq_getElem hlt⟩;obtain ⟨x,hxe⟩:∃x,r.p=x:=⟨_,rfl⟩
   have hX:(prL nx ny A n i)[i]? =some x:=by rw [←HRm.out,List.getElem?_map,hrr,←hxe]; rfl
   have HXi:=hid hX;have hxok:=(HP2.out i x 0 0 hX).1 x (List.mem_of_getElem? (Jh hX));have hrd:=hbun.rd 0 rfl
   obtain ⟨b0,o0,rfl⟩:∃b0 o0,a0=some ⟨b0,o0,none⟩:=by
    obtain ⟨_,_,_,_,_,h4⟩:=hrd.sl_at
    rcases h4 with h4|⟨b,o,e,_⟩
    ·omega
    exact ⟨b,o,e⟩
   obtain ⟨hbl,y0,y1, -, -, -⟩:=I9 hrd hrr;rw [hxe] at y0 y1
   have hil2:(i:Int)<(R.length:Int):=by omega
   have X4:=HX.out.below hbe;obtain ⟨g0,g1, -, -, -, -, -, -, ltX⟩:=X4.all4;clear hrr hxe hX hrd hbun hbe hRl X4;go_wp2_with fail;clear y0 y1 g0 g1 ltX;have hBp:=HB.out.push_box hzo 101 #[.int .i64 x.1,.int .i64 x.2];obtain ⟨w4,e4, -, hb4,hz4⟩:=Dl wo 101 (.int .i64 x.1) (.int .i64 x.2);rw [e4] at hBp ⊢;obtain ⟨pb,hpb⟩:∃pb,wo.heap.size=pb:=⟨_,rfl⟩;rw [hpb] at hBp ⊢;have hst:Ie w2.heap.size g 103 pb 101 x w2 w4 (prL nx ny A n i) (.slice (some ⟨b0,o0,none⟩) R.length c0):=⟨R,by simpa using hBp,HRm.out,Hfo.out,HBe.out.trans (hb4.mono hzo)⟩;refine (It ht0 ht3).mono ?_;rintro f w5 ⟨rfl,hb5⟩;rw [HA.out];have Hst5:=hid (hst.below (by omega) hb5);clear e4 hb4 hBp hst hb5 hpb HB HRm Hfo HBe;go_wp2_with fail
   go_loopw [5,33] (fun v0 j wr=>∃m:Nat,j= .int .i64 m∧m≤A∧Ie w2.heap.size g 103 pb 101 x w2 wr (prC nx ny A n i x m 0) v0) (fun _ j _=>A - (intOf j).toNat)
   case atStart=>exact ⟨0,rfl,by omega,by rw [Ru]; exact Hst5.out⟩
   case round=>
    clear Hst5;obtain ⟨m,rfl,hmA,hW⟩:=hrel;obtain ⟨wm,rfl⟩:∃v,v=wr:=⟨_,rfl⟩;have hm0:=Int.natCast_nonneg m;obtain ⟨R1,hbun1,hR1,hf1,hbe1⟩:=hW;obtain ⟨a1,c1,rfl,q3,q4⟩:=hbun1.shape 0 rfl;have HW:Hid (Ie w2.heap.size g 103 pb 101 x w2 wm (prC nx ny A n i x m 0) (.slice a1 R1.length c1)):=⟨R1,hbun1,hR1,hf1,hbe1⟩
    by_cases hmlt:m<A
    rotate_left
    ·obtain rfl:A=m:=by omega
     have HW6:Hid (Oc w2.heap.size g 103 w2 wm (prL nx ny A n (i+1)) (.slice a1 R1.length c1)):=by show Oc ..; rw [←Lg HXi.out]; exact HW.out.drop
     have hi1:i+1≤(prL nx ny A n (i+1)).length:=by
      have h1:=Jh (m:=A) (k:=0) HXi.out;rw [Lg HXi.out] at h1;exact (List.getElem?_eq_some_iff.1 h1).1
     clear hbun1 hR1 hf1 hbe1;go_wp2_with fail
     go_roundw
     case rel=>exact ⟨i+1,by go_num,hi1,HW6.out⟩
     case measure=>simp [intOf]; omega
    have hm1:(m:Int)<(A:Int):=by omega
    have hmat:(m:Int)<Ah t:=by rw [HA.out]; exact hm1
    obtain ⟨g0,g1, -, -, -, -, -, -, ltX⟩:=(HX.out.below hbe1).all4;clear hbun1 hR1 hf1 hbe1;go_wp2_with fail;clear g0 g1 ltX
    go_loopw [5,39] (fun v0 j wr=>∃q:Nat,j= .int .i64 q∧q≤n∧Ie w2.heap.size g 103 pb 101 x w2 wr (prC nx ny A n i x m q) v0) (fun _ j _=>n - (intOf j).toNat)
    case atStart=>exact ⟨0,rfl,by omega,HW.out⟩
    case round=>
     clear HW;obtain ⟨q,rfl,hqn,R2,hbun2,hR2,hf2,hbe2⟩:=hrel;obtain ⟨wq,rfl⟩:∃v,v=wr:=⟨_,rfl⟩;obtain ⟨a2,c2,rfl,q5,q6⟩:=hbun2.shape 0 rfl;unfold maxLen at q6;have hq0:=Int.natCast_nonneg q;have hzq:=hbe2.size
     by_cases hqlt:q<n
     rotate_left
     ·obtain rfl:n=q:=by omega
      have HW6:Hid (Ie w2.heap.size g 103 pb 101 x w2 wq (prC nx ny A n i x (m+1) 0) (.slice a2 R2.length c2)):=by show Ie ..; rw [←Qf]; exact ⟨R2,hbun2,hR2,hf2,hbe2⟩
      clear hbun2 hR2 hf2 hbe2;go_wp2_with fail
      go_roundw
      case rel=>exact ⟨m+1,by go_num,by omega,HW6.out⟩
      case measure=>simp [intOf]; omega
     have hqa:(q:Int)<a:=by omega
     obtain ⟨hall,hmany3⟩:=HP2.out i x m q HXi.out;have hat:=Jh (m:=m) (k:=q) HXi.out
     have hR2l:R2.length=(prC nx ny A n i x m q).length:=by rw [←hR2,List.length_map]
     have hR2m:R2.length≤3721:=by omega
     have hilR:i<R2.length:=by rw [hR2l]; exact (List.getElem?_eq_some_iff.1 hat).1
     have Hpb:=hid (hbun2.box 2 rfl).1;have HB2:=hid hbun2;have HBe2:=hid hbe2;have HR2:=hid hR2;have Hf2:=hid hf2;have hgb:=(hbun2.one 1 rfl).2;clear hbun2 hR2 hf2 hbe2 hall hat hR2l;go_wp2_with fail
     refine Vk 14 [] [0,1,2,3,4,5,6,7,8,9,10,11,12,13] (fun i iv vs wx=>match i with
      |0=>vs 0= .agg #[.int .i64 t,.int .i64 a,.slice s ac.length c,.slice u nx.length d]
      |1=>vs 1= .pointer (some ⟨pb,0,none⟩)
      |2=>vs 2= .int .i64 x.1
      |3=>vs 3= .int .i64 m
      |4=>vs 4= .int .i64 q
      |5=>vs 5= .int .i64 (goN nx x.1 m q)
      |6=>vs 6= .agg #[.int .i64 t,.int .i64 a,.slice s' bc.length c',.slice u' ny.length d']
      |7=>vs 7= .pointer (some ⟨pb,1,none⟩)
      |8=>vs 8= .int .i64 x.2
      |9=>vs 9= .int .i64 m
      |10=>vs 10= .int .i64 q
      |11=>vs 11= .int .i64 (goN ny x.2 m q)
      |12=>vs 12= .agg #[vs 5,vs 11]
      |13=>vs 13= .pointer (some ⟨(iv 13).1,0,none⟩)∧(iv 13).2=(iv 13).1+1∧Blk wx (iv 13).1 101 [.int .i64 0,.int .i64 0]
      |_=>True) (fun vs wx=>∃p,vs 13= .pointer (some ⟨p,0,none⟩)∧wq.heap.size≤p∧Blk wx p 101 [.int .i64 (goN nx x.1 m q),.int .i64 (goN ny x.2 m q)]∧Below wq.heap.size wq wx)
      (by kernel_rfl) (by kernel_rfl) (by kernel_rfl) (by kernel_rfl) ?hJ ?hX ?hF ?hstep ?hstore ?hQ (by kernel_rfl)
     case hX=>
      intro i o t k hi ho hop iv vs w hj;simp at hi
     case hF=>
      intro vs vs' wx h hf;have e13:=h 13 (Az (by kernel_rfl))
      show ∃p,vs' 13= .pointer (some ⟨p,0,none⟩)∧wq.heap.size≤p∧Blk wx p 101 [.int .i64 (goN nx x.1 m q),.int .i64 (goN ny x.2 m q)]∧Below wq.heap.size wq wx
      rw [←e13];exact hf
     case hJ=>
      intro i hi iv iv' vs vs' wx wx' ha hv hb hj;simp at hi
      rcases hi with rfl|rfl|rfl|rfl|rfl|rfl|rfl|rfl|rfl|rfl|rfl|rfl|rfl|rfl
      ·have e0:=aG hv 0;have hj':vs 0= .agg #[.int .i64 t,.int .i64 a,.slice s ac.length c,.slice u nx.length d]:=hj
       show vs' 0= .agg #[.int .i64 t,.int .i64 a,.slice s ac.length c,.slice u nx.length d]
       rw [←e0];exact hj'
      ·have e1:=aG hv 1;have hj':vs 1= .pointer (some ⟨pb,0,none⟩):=hj
       show vs' 1= .pointer (some ⟨pb,0,none⟩)
       rw [←e1];exact hj'
      ·have e2:=aG hv 2;have hj':vs 2= .int .i64 x.1:=hj
       show vs' 2= .int .i64 x.1
       rw [←e2];exact hj'
      ·have e3:=aG hv 3;have hj':vs 3= .int .i64 m:=hj
       show vs' 3= .int .i64 m
       rw [←e3];exact hj'
      ·have e4:=aG hv 4;have hj':vs 4= .int .i64 q:=hj
       show vs' 4= .int .i64 q
       rw [←e4];exact hj'
      ·have e5:=aG hv 5;have hj':vs 5= .int .i64 (goN nx x.1 m q):=hj
       show vs' 5= .int .i64 (goN nx x.1 m q)
       rw [←e5];exact hj'
      ·have e6:=aG hv 6;have hj':vs 6= .agg #[.int .i64 t,.int .i64 a,.slice s' bc.length c',.slice u' ny.length d']:=hj
       show vs' 6= .agg #[.int .i64 t,.int .i64 a,.slice s' bc.length c',.slice u' ny.length d']
       rw [←e6];exact hj'
      ·have e7:=aG hv 7;have hj':vs 7= .pointer (some ⟨pb,1,none⟩):=hj
       show vs' 7= .pointer (some ⟨pb,1,none⟩)
       rw [←e7];exact hj'
      ·have e8:=aG hv 8;have hj':vs 8= .int .i64 x.2:=hj
       show vs' 8= .int .i64 x.2
       rw [←e8];exact hj'
      ·have e9:=aG hv 9;have hj':vs 9= .int .i64 m:=hj
       show vs' 9= .int .i64 m
       rw [←e9];exact hj'
      ·have e10:=aG hv 10;have hj':vs 10= .int .i64 q:=hj
       show vs' 10= .int .i64 q
       rw [←e10];exact hj'
      ·have e11:=aG hv 11;have hj':vs 11= .int .i64 (goN ny x.2 m q):=hj
       show vs' 11= .int .i64 (goN ny x.2 m q)
       rw [←e11];exact hj'
      ·have e12:=aG hv 12;have e5:=aG hv 5;have e11:=aG hv 11;have hj':vs 12= .agg #[vs 5,vs 11]:=hj
       show vs' 12= .agg #[vs' 5,vs' 11]
       rw [←e5,←e11,←e12];exact hj'
      have e13:=aG hv 13;have g13:=aG ha 13;obtain ⟨q1,q3,q2⟩:=hj
      show vs' 13= .pointer (some ⟨(iv' 13).1,0,none⟩)∧(iv' 13).2=(iv' 13).1+1∧Blk wx' (iv' 13).1 101 [.int .i64 0,.int .i64 0]
      rw [←e13,←g13];exact ⟨q1,q3,q2.below hb⟩
     case hstep=>
      intro i hi o ho iv vs w1 hB hd hbd hsep K hK;simp at hi;have hbw:=HBe2.out.trans (hB.mono hzq);have hrA:=Hr.out.below (hB2.trans (hbw.mono hB2.size));have hrB:=Hr'.out.below (hB2.trans (hbw.mono hB2.size));obtain ⟨xa0,xa1,xa2,xa3, -, -, -, -, ltA⟩:=(HX.out.below hbw).all4;obtain ⟨ya0,ya1,ya2,ya3, -, -, -, -, ltB⟩:=(HY.out.below hbw).all4;obtain ⟨pp0,pp1,ltP⟩:=(Hpb.out.below hB).all2
      rcases hi with rfl|rfl|rfl|rfl|rfl|rfl|rfl|rfl|rfl|rfl|rfl|rfl|rfl|rfl
      all_goals
       simp at ho;subst ho;simp only [Af,Ac]
      ·go_wp2_with fail;exact Ab.mk (hK (.agg #[.int .i64 t,.int .i64 a,.slice s ac.length c,.slice u nx.length d]) _ _ (by simp only [Af,Ac]) (Below.refl _ _) (fun iv' _ _=>rfl))
      ·go_wp2_with fail;exact Ab.mk (hK (.pointer (some ⟨pb,0,none⟩)) _ _ (by simp only [Af,Ac]) (Below.refl _ _) (fun iv' _ _=>rfl))
      ·have h1:vs 1= .pointer (some ⟨pb,0,none⟩):=hd.out 1 (Az (by kernel_rfl)) (by decide);go_wp2_with fail;exact Ab.mk (hK (.int .i64 x.1) _ _ (by simp only [Af,Ac,h1]) (Below.refl _ _) (fun iv' _ _=>rfl))
      ·go_wp2_with fail;exact Ab.mk (hK (.int .i64 m) _ _ (by simp only [Af,Ac]) (Below.refl _ _) (fun iv' _ _=>rfl))
      ·go_wp2_with fail;exact Ab.mk (hK (.int .i64 q) _ _ (by simp only [Af,Ac]) (Below.refl _ _) (fun iv' _ _=>rfl))
      ·have h0:vs 0= .agg #[.int .i64 t,.int .i64 a,.slice s ac.length c,.slice u nx.length d]:=hd.out 0 (Az (by kernel_rfl)) (by decide);have h2:vs 2= .int .i64 x.1:=hd.out 2 (Az (by kernel_rfl)) (by decide);have h3:vs 3= .int .i64 m:=hd.out 3 (Az (by kernel_rfl)) (by decide);have h4:vs 4= .int .i64 q:=hd.out 4 (Az (by kernel_rfl)) (by decide);go_wp2_with fail;refine (Qz (Rds.two hrA).1 (Rds.two hrA).2 Hok.out hxok.2.1 hmat hqa).mono ?_;rintro e w2 ⟨rfl,hb⟩;go_wp2_with fail;exact Ab.mk (hK (.int .i64 (goN nx x.1 m q)) _ _ (by simp only [Af,Ac,h0,h2,h3,h4]) hb (fun iv' _ _=>rfl))
      ·go_wp2_with fail;exact Ab.mk (hK (.agg #[.int .i64 t,.int .i64 a,.slice s' bc.length c',.slice u' ny.length d']) _ _ (by simp only [Af,Ac]) (Below.refl _ _) (fun iv' _ _=>rfl))
      ·go_wp2_with fail;exact Ab.mk (hK (.pointer (some ⟨pb,1,none⟩)) _ _ (by simp only [Af,Ac]) (Below.refl _ _) (fun iv' _ _=>rfl))
      ·have h7:vs 7= .pointer (some ⟨pb,1,none⟩):=hd.out 7 (Az (by kernel_rfl)) (by decide);go_wp2_with fail;exact Ab.mk (hK (.int .i64 x.2) _ _ (by simp only [Af,Ac,h7]) (Below.refl _ _) (fun iv' _ _=>rfl))
      ·go_wp2_with fail;exact Ab.mk (hK (.int .i64 m) _ _ (by simp only [Af,Ac]) (Below.refl _ _) (fun iv' _ _=>rfl))
      ·go_wp2_with fail;exact Ab.mk (hK (.int .i64 q) _ _ (by simp only [Af,Ac]) (Below.refl _ _) (fun iv' _ _=>rfl))
      ·have h6:vs 6= .agg #[.int .i64 t,.int .i64 a,.slice s' bc.length c',.slice u' ny.length d']:=hd.out 6 (Az (by kernel_rfl)) (by decide);have h8:vs 8= .int .i64 x.2:=hd.out 8 (Az (by kernel_rfl)) (by decide);have h9:vs 9= .int .i64 m:=hd.out 9 (Az (by kernel_rfl)) (by decide);have h10:vs 10= .int .i64 q:=hd.out 10 (Az (by kernel_rfl)) (by decide);go_wp2_with fail;refine (Qz (Rds.two hrB).1 (Rds.two hrB).2 Hok'.out hxok.2.2.2 hmat hqa).mono ?_;rintro e w2 ⟨rfl,hb⟩;go_wp2_with fail;exact Ab.mk (hK (.int .i64 (goN ny x.2 m q)) _ _ (by simp only [Af,Ac,h6,h8,h9,h10]) hb (fun iv' _ _=>rfl))
      ·have h5:vs 5= .int .i64 (goN nx x.1 m q):=hd.out 5 (Az (by kernel_rfl)) (by decide);have h11:vs 11= .int .i64 (goN ny x.2 m q):=hd.out 11 (Az (by kernel_rfl)) (by decide);go_wp2_with fail
       exact Ab.mk (hK (.agg #[.int .i64 (goN nx x.1 m q),.int .i64 (goN ny x.2 m q)]) _ _ (by simp only [Af,Ac,h5,h11]) (Below.refl _ _) (fun iv' _ _=>by
        show (.agg #[.int .i64 (goN nx x.1 m q),.int .i64 (goN ny x.2 m q)]:Value)= .agg #[vs 5,vs 11]
        simp only [h5,h11]))
      go_wp2_with fail
      exact Ab.mk (hK (.pointer (some ⟨w1.heap.size,0,none⟩)) _ _ (by simp only [Af,Ac]) (Below.alloc (Below.refl _ _) (Nat.le_refl _) _) (fun iv' _ hi=>by
       show Value.pointer (some ⟨w1.heap.size,0,none⟩)= .pointer (some ⟨(iv' 13).1,0,none⟩)∧(iv' 13).2=(iv' 13).1+1∧Blk _ (iv' 13).1 101 [.int .i64 0,.int .i64 0]
       rw [hi]
       exact ⟨rfl,by simp,Blk.new2 _ _ _ _⟩))
     case hstore=>
      intro o ho iv vs w1 hB hd hsep K hK;simp at ho;subst ho;simp only [Af,Ac];have h0:vs 0= .agg #[.int .i64 t,.int .i64 a,.slice s ac.length c,.slice u nx.length d]:=(hd.out 0 (Az (by kernel_rfl))).1;have h1:vs 1= .pointer (some ⟨pb,0,none⟩):=(hd.out 1 (Az (by kernel_rfl))).1;have h2:vs 2= .int .i64 x.1:=(hd.out 2 (Az (by kernel_rfl))).1;have h3:vs 3= .int .i64 m:=(hd.out 3 (Az (by kernel_rfl))).1;have h4:vs 4= .int .i64 q:=(hd.out 4 (Az (by kernel_rfl))).1;have h5:vs 5= .int .i64 (goN nx x.1 m q):=(hd.out 5 (Az (by kernel_rfl))).1;have h6:vs 6= .agg #[.int .i64 t,.int .i64 a,.slice s' bc.length c',.slice u' ny.length d']:=(hd.out 6 (Az (by kernel_rfl))).1;have h7:vs 7= .pointer (some ⟨pb,1,none⟩):=(hd.out 7 (Az (by kernel_rfl))).1;have h8:vs 8= .int .i64 x.2:=(hd.out 8 (Az (by kernel_rfl))).1;have h9:vs 9= .int .i64 m:=(hd.out 9 (Az (by kernel_rfl))).1;have h10:vs 10= .int .i64 q:=(hd.out 10 (Az (by kernel_rfl))).1;have h11:vs 11= .int .i64 (goN ny x.2 m q):=(hd.out 11 (Az (by kernel_rfl))).1;have h12:vs 12= .agg #[vs 5,vs 11]:=(hd.out 12 (Az (by kernel_rfl))).1;obtain ⟨⟨h13,q13,f13⟩,b13, -, u13⟩:=hd.out 13 (Az (by kernel_rfl))
      have k12:vs 12= .agg #[.int .i64 (goN nx x.1 m q),.int .i64 (goN ny x.2 m q)]:=by rw [h12,h5,h11]
      obtain ⟨p,hp⟩:∃p,(iv 13).1=p:=⟨_,rfl⟩;rw [hp] at h13 f13 b13;have r0:=f13.c0;have r1:=f13.c1;have z0:=f13.frozen 0;have z1:=f13.frozen 1;have ltF:=f13.lt;clear h0 h1 h2 h3 h4 h5 h6 h7 h8 h9 h10 h11 h12;go_wp2_with fail;refine Ab.mk (hK _ _ (by simp only [Af,Ac,h13,k12]) ⟨p,h13,b13,(f13.set 0 _).set 1 _, ?_⟩);exact Below.setCell (Below.setCell hB (by simp; omega) _) (by simp; omega) _
     case hQ=>
      rintro zs wn hE ⟨p,h8,lp,hP,hb⟩;simp only [Af,Ac,h8];clear h8 hE;obtain ⟨X0,hXe⟩:∃X0,goN nx x.1 m q=X0:=⟨_,rfl⟩;obtain ⟨Y0,hYe⟩:∃Y0,goN ny x.2 m q=Y0:=⟨_,rfl⟩;have hXb:=M4 Hok.out (s:=x.1) (m:=m) (k:=q) hxok.2.1 hmat hqa;have hYb:=M4 Hok'.out (s:=x.2) (m:=m) (k:=q) hxok.2.2.2 hmat hqa;rw [hXe] at hP hXb;rw [hYe] at hP hYb;have HXe:=hid hXe;have HYe:=hid hYe;have Hkey:=hid (keyP (p:=(X0,Y0)) ⟨hXb.1,by omega⟩ ⟨hYb.1,by omega⟩);have HB3:=hid (HB2.out.below hb);have HBe3:=hid (HBe2.out.trans (hb.mono hzq));have hz3:=hb.size;have n0:=hP.c0;have n1:=hP.c1;have ltN:=hP.lt;have HN:=hid hP;obtain ⟨M,hM,hfd⟩:=(HB3.out.one 1 rfl).1;obtain ⟨Lc,hLc⟩:∃Lc,prC nx ny A n i x m q=Lc:=⟨_,rfl⟩;rw [hLc] at hfd HR2 HB3;have Hfd:=hid hfd;have HLc:=hid hLc;clear hXe hYe hb hP hLc HB2 HBe2 Hpb
      by_cases hsn:(X0,Y0)∈Lc∨(X0,Y0)=(-1, -1)
      ·have HEL:Hid (prC nx ny A n i x m (q+1)=Lc):=by
        show _=_
        by_cases hneg:X0<0∧Y0<0
        ·rw [Rq hmlt hqlt (Pl HXe.out HYe.out hneg.1 hneg.2),HLc.out]
        rcases hsn with hin|he
        ·rw [Ti hmlt hqlt (Kr HXe.out HYe.out hneg) (by rw [HLc.out]; exact hin),HLc.out]
        simp only [Prod.mk.injEq] at he;exact absurd (by omega) hneg
       have Hfind:Hid (Bn M (X0,Y0)=some true):=by show _=_; rw [Hfd.out,if_pos hsn]
       clear hsn hfd
       go_wp2_with (at_lookup; refine Ct _ rfl _ _ 118 false rfl 101 4 L0 Tryz.underlying118 (.bool false) (Wp _) Gv g hM (X0,Y0) Hkey.out rfl rfl (some true) Hfind.out ?_; simp only [Ge,Bool.false_eq_true,if_false])
       go_roundw
       case rel=>exact ⟨q+1,by go_num,by omega,R2,by rw [HEL.out]; exact HB3.out,by rw [HEL.out]; exact HR2.out,Hf2.out,HBe3.out⟩
       case measure=>simp [intOf]; omega
      have hneg:¬(X0<0∧Y0<0):=fun h=>hsn (Or.inr (Prod.ext (show X0= -1 by omega) (show Y0= -1 by omega)))
      have HEL:Hid (prC nx ny A n i x m (q+1)=Lc++[(X0,Y0)]):=by
       show _=_
       rw [Tg hmlt hqlt (Kr HXe.out HYe.out hneg) (by rw [HLc.out]; exact fun h=>hsn (Or.inl h)),HLc.out]
      have Hfind:Hid (Bn M (X0,Y0)=none):=by show _=_; rw [Hfd.out,if_neg hsn]
      clear hsn hfd hneg
      go_wp2_with (first
       |(at_lookup; refine Ct _ rfl _ _ 118 false rfl 101 4 L0 Tryz.underlying118 (.bool false) (Wp _) Gv g hM (X0,Y0) Hkey.out rfl rfl none Hfind.out ?_; simp only [Ge,Bool.false_eq_true,if_false])
       |(at_mapUpdate; (refine E7 _ rfl _ _ _ 118 rfl 101 4 L0 Tryz.underlying118 Gv g hM (X0,Y0) Hkey.out true rfl rfl rfl ?_); intro w10 hM10 ho10; have hz10:=ho10.size; have N3:=HN.out.keep (ho10.block _ HN.out.lt (by simp; omega)); have n0:=N3.c0; have n1:=N3.c1; have ltN:=N3.lt; have hBl:=(HB3.out.turn_one (Q:=Gh g (Lc++[(X0,Y0)])) 1 rfl ho10 (Gh.hold ⟨_,hM10,Xi Hfd.out⟩)).alloc (.cells #[.int .i64 X0,.int .i64 Y0,.int .i64 i,.int .i64 m,.int .i64 q] 103); have hNl:=Blk.made w10 103 #[.int .i64 X0,.int .i64 Y0,.int .i64 i,.int .i64 m,.int .i64 q]; have Hbe10:=hid (HBe3.out.trans (ho10.below (by omega) (fun b hb=>by simp at hb; omega))); have hzB:=Hbe10.out.size; clear hM10 ho10)
       |(at_builtin; go_must (refine Bf _ rfl _ _ 99 rfl 103 (.agg #[.int .i64 0,.int .i64 0,.int .i64 0,.int .i64 0,.int .i64 0]) 5 40 Tryz.underlying99 Xa rfl (by decide) hBl (by simp; omega) 0 _ rfl rfl ⟨w10.heap.size,0,none⟩ 1 1 (Rch.cells ⟨(X0,Y0),i,m,q⟩) rfl (Ax hNl) (Pe _) rfl (by simp [Rch.cells,Value.oneCell']) (by omega) (by omega) (by unfold maxLen; omega) ?_); intro g7 cap7 w7 hbun7 hb7))
      have Hfin:=hid (And.intro hbun7 ((Hbe10.out.alloc (by omega) (.cells #[.int .i64 X0,.int .i64 Y0,.int .i64 i,.int .i64 m,.int .i64 q] 103)).trans hb7));clear hbun7 hb7 hBl hNl hM;go_wp2_with fail
      go_roundw
      case rel=>
       refine ⟨q+1,by go_num,by omega,R2++[⟨(X0,Y0),i,m,q⟩], ?_,by rw [HEL.out,List.map_append,HR2.out]; rfl,Hf2.out.snoc (by show (-1:Int)≤(i:Int); omega) (by show (i:Int)<_; omega),Hfin.out.2⟩;rw [HEL.out,Vg,List.length_append];exact Hfin.out.1
      case measure=>simp [intOf]; omega
theorem Tf {B:Nat} {w w':World} {items:List A6} {own:Nat→Nat} (h:∀(i:Nat) (it:A6),items[i]? =some it→it.on (fun b=>B≤b∧b<w.heap.size∧own b=i) w) (hB:B≤w.heap.size) (hz:w.heap.size≤w'.heap.size) (k j:Nat) {it jt:A6} (hkj:k≠j)
  (ho:∀b,b<w.heap.size→own b≠k→own b≠j→w'.heap[b]? =w.heap[b]?) (hk:it.on (fun b=>B≤b∧b<w'.heap.size∧(w.heap.size≤b∨own b=k)) w') (hj:jt.on (fun b=>B≤b∧b<w.heap.size∧own b=j) w'):
  Bun B w' ((items.set j jt).set k it):=by
 refine ⟨fun b=>if w.heap.size≤b then k else own b,fun i x hi=> ?_⟩
 by_cases hik:k=i
 ·subst hik
  have hl:k<(items.set j jt).length:=by have:=(List.getElem?_eq_some_iff.1 hi).1; simpa using this
  rw [List.getElem?_set_self hl] at hi;obtain rfl:=Option.some.inj hi;refine A6.more hk fun b _ hb=>⟨hb.1,hb.2.1, ?_⟩
  dsimp only
  split
  ·rfl
  omega
 rw [List.getElem?_set_ne hik] at hi
 by_cases hij:j=i
 ·subst hij
  have hl:j<items.length:=by have:=(List.getElem?_eq_some_iff.1 hi).1; simpa using this
  rw [List.getElem?_set_self hl] at hi;obtain rfl:=Option.some.inj hi;refine A6.more hj fun b _ hb=>⟨hb.1,by omega, ?_⟩
  dsimp only
  rw [if_neg (by omega)];exact hb.2.2
 rw [List.getElem?_set_ne hij] at hi;have h1:=A6.keep (w':=w') hz (h i x hi) fun b hb hs=>ho b hb (by rw [hs.2.2]; omega) (by rw [hs.2.2]; omega);refine A6.more h1 fun b _ hb=>⟨hb.1,by omega, ?_⟩
 dsimp only
 rw [if_neg (by omega)];exact hb.2.2
theorem Tj (w:World) (x:Int):OwS (fun _=>False) w [.int x] [.int .i64 x]:=⟨[],Ows.cons (F:=[]) (by simp [Ow]) Ows.nil,by simp,by simp⟩
def WdB (B:Nat) (w:World) (wb:Nat) (xs ys:List Int) (va vb:Value):Prop:=
 Bun B w [.app 2 1 xs.length (xs.map D.int) va,.box wb 81 [va,vb],.app 2 1 ys.length (ys.map D.int) vb]
theorem WdB.box {B:Nat} {w:World} {wb:Nat} {xs ys:List Int} {va vb:Value} (h:WdB B w wb xs ys va vb):Blk w wb 81 [va,vb]∧B≤wb:=Bun.box h 1 rfl
theorem WdB.shapeA {B:Nat} {w:World} {wb:Nat} {xs ys:List Int} {va vb:Value} (h:WdB B w wb xs ys va vb):∃a cap,va= .slice a xs.length cap∧xs.length≤cap∧cap≤maxLen:=Bun.shape h 0 rfl
theorem WdB.shapeB {B:Nat} {w:World} {wb:Nat} {xs ys:List Int} {va vb:Value} (h:WdB B w wb xs ys va vb):∃a cap,vb= .slice a ys.length cap∧ys.length≤cap∧cap≤maxLen:=Bun.shape h 2 rfl
theorem WdB.parts {B:Nat} {w:World} {wb:Nat} {xs ys:List Int} {va vb:Value} (h:WdB B w wb xs ys va vb):∃own:Nat→Nat,own wb=1∧B≤wb∧wb<w.heap.size∧Al (fun b=>B≤b∧b<w.heap.size∧own b=0) w 2 1 xs.length (xs.map D.int) va∧
  Al (fun b=>B≤b∧b<w.heap.size∧own b=2) w 2 1 ys.length (ys.map D.int) vb∧
  (∀(w':World) (v:Value) (x:Int) (S:Nat→Prop),B≤w.heap.size→w.heap.size≤w'.heap.size→(∀b,b<w.heap.size→own b≠0→own b≠1→w'.heap[b]? =w.heap[b]?)→Al S w' 2 1 (xs.length+1) (xs.map D.int++[.int x]) v→(∀b,b<w'.heap.size→S b→(B≤b∧b<w.heap.size∧own b=0)∨w.heap.size≤b)→Blk w' wb 81 [v,vb]→WdB B w' wb (xs++[x]) ys v vb)∧
  (∀(w':World) (v:Value) (x:Int) (S:Nat→Prop),B≤w.heap.size→w.heap.size≤w'.heap.size→(∀b,b<w.heap.size→own b≠2→own b≠1→w'.heap[b]? =w.heap[b]?)→Al S w' 2 1 (ys.length+1) (ys.map D.int++[.int x]) v→(∀b,b<w'.heap.size→S b→(B≤b∧b<w.heap.size∧own b=2)∨w.heap.size≤b)→Blk w' wb 81 [va,v]→WdB B w' wb xs (ys++[x]) va v):=by
 obtain ⟨own,h⟩:=h;have h0:=h 0 _ rfl;have h1:=h 1 _ rfl;have h2:=h 2 _ rfl;refine ⟨own,h1.1.2.2,h1.1.1,h1.1.2.1,h0,h2, ?_, ?_⟩
 ·intro w' v x S hB hz ho ha hS hb;have:=Tf (w':=w') h hB hz 0 1 (it:= .app 2 1 (xs++[x]).length ((xs++[x]).map D.int) v) (jt:= .box wb 81 [v,vb]) (by decide) ho ?_ ⟨⟨h1.1.1,h1.1.2.1,h1.1.2.2⟩,hb⟩
  ·exact this
  rw [List.length_append,List.map_append]
  exact Al.more ha fun b hl hs=>by
   rcases hS b hl hs with q|q
   ·exact ⟨q.1,hl,Or.inr q.2.2⟩
   exact ⟨by omega,hl,Or.inl q⟩
 intro w' v x S hB hz ho ha hS hb;have:=Tf (w':=w') h hB hz 2 1 (it:= .app 2 1 (ys++[x]).length ((ys++[x]).map D.int) v) (jt:= .box wb 81 [va,v]) (by decide) ho ?_ ⟨⟨h1.1.1,h1.1.2.1,h1.1.2.2⟩,hb⟩
 ·exact this
 rw [List.length_append,List.map_append]
 exact Al.more ha fun b hl hs=>by
  rcases hS b hl hs with q|q
  ·exact ⟨q.1,hl,Or.inr q.2.2⟩
  exact ⟨by omega,hl,Or.inl q⟩
theorem WdB.owns {B:Nat} {w:World} {wb:Nat} {xs ys:List Int} {va vb:Value} (h:WdB B w wb xs ys va vb):∃F G:List Nat,Ow w (Cm xs) va F∧F.Nodup∧Ow w (Cm ys) vb G∧G.Nodup∧(∀b∈F,B≤b∧b≠wb∧b∉G)∧∀b∈G,B≤b∧b≠wb:=by
 obtain ⟨own,h⟩:=h;have h0:=h 0 _ rfl;have h1:=h 1 _ rfl;have h2:=h 2 _ rfl;have h0':Al (fun b=>B≤b∧b<w.heap.size∧own b=0) w 2 1 xs.length (xs.map D.int) va:=h0;have h2':Al (fun b=>B≤b∧b<w.heap.size∧own b=2) w 2 1 ys.length (ys.map D.int) vb:=h2;obtain ⟨F,f1,f2,f3⟩:=h0'.foot;obtain ⟨G,g1,g2,g3⟩:=h2'.foot;have hw:own wb=1:=h1.1.2.2;refine ⟨F,G,f1,f2,g1,g2,fun b hb=> ?_,fun b hb=> ?_⟩
 ·have q:=f3 b hb;refine ⟨q.1,fun e=> ?_,fun hg=> ?_⟩
  ·rw [e,hw] at q; omega
  have:=g3 b hg; omega
 have q:=g3 b hb;exact ⟨q.1,fun e=>by rw [e,hw] at q; omega⟩
theorem WdB.one (w:World) (x:Int):WdB w.heap.size ((w.alloc (.cells #[.int .i64 x] 2)).alloc (.cells #[.slice (some ⟨w.heap.size,0,none⟩) 1 1,.slice none 0 0] 81)) (w.heap.size+1) [x] [] (.slice (some ⟨w.heap.size,0,none⟩) 1 1) (.slice none 0 0):=by
 have h0:Bun w.heap.size (w.alloc (.cells #[.int .i64 x] 2)) [.app 2 1 1 [.int x] (.slice (some ⟨w.heap.size,0,none⟩) 1 1)]:=by
  refine (Bun.nil (B:=w.heap.size) (w:=w)).push (Below.alloc (Below.refl _ _) (Nat.le_refl _) _) ?_;refine Al.more (Al.made (t:=2) (size:=1) (m:=1) (S:=fun _=>False) (w:=w) (es:=[.int x]) (news:=[.int .i64 x]) ⟨[],Ows.cons (F:=[]) (by simp [Ow]) Ows.nil,by simp,by simp⟩ (fun b h=>h.elim) rfl (by unfold maxLen; omega)) fun b _ hc=> ?_
  have hz:(w.alloc (.cells #[.int .i64 x] 2)).heap.size=w.heap.size+1:=by simp
  rcases hc with hc|hc
  ·exact hc.elim
  subst hc; exact ⟨Nat.le_refl _,by omega,Nat.le_refl _⟩
 have h1:=h0.push_box (by simp) 81 #[.slice (some ⟨w.heap.size,0,none⟩) 1 1,.slice none 0 0];have h2:=h1.push_nil 2 1
 have hz:(w.alloc (.cells #[.int .i64 x] 2)).heap.size=w.heap.size+1:=by simp
 rw [hz] at h2;exact h2
theorem box5 (w:World) (t:TypeId) (a b c d e:Value):∃w',w.alloc (.cells #[a,b,c,d,e] t)=w'∧Blk w' w.heap.size t [a,b,c,d,e]∧Below w.heap.size w w'∧w'.heap.size=w.heap.size+1:=
 ⟨_,rfl,Blk.made w t _,Below.alloc (Below.refl _ _) (Nat.le_refl _) _,by simp⟩
open Go.Sort
theorem M6:∀rows:List (List D),(∀r∈rows,∃n:Int,r=[D.raw (.int .u8 n)]∧0≤n∧n≤255)→∃zs:List Int,rows.length=zs.length∧rows.flatten=zs.map (fun x=>D.raw (.int .u8 x))∧∀x∈zs,0≤x∧x≤255
 |[],_=>⟨[],rfl,rfl,by simp⟩
 |r::rows,h=>by
  obtain ⟨n,rfl,hn⟩:=h r (List.mem_cons_self ..);obtain ⟨zs,h1,h2,h3⟩:=M6 rows fun r hr=>h r (List.mem_cons_of_mem _ hr);refine ⟨n::zs,by simp [h1],by simp [h2],fun x hx=> ?_⟩
  rcases List.mem_cons.1 hx with rfl|hx
  ·exact hn
  exact h3 x hx
section
variable {H:Type} {enc:TypeId × Value→H} {P:Program} {w:World} {base:Nat} {sp:Nat→Bool} {hd:Bool}
theorem Um {ti ts:TypeId} (hs:P.underlying ts=some (.slice ti)) (hi:P.underlying ti=some (.int .u8)) (ci:P.cellsOf ti=1) {fuel:Nat} {cs:List Value} {x:DataW H × List MemPlace}
  (h:DataW.trod enc P w base sp hd fuel ts cs=some x):∃v,∃zs:List Int,cs=[v]∧Rd w (Eu zs) v∧∀x∈zs,0≤x∧x≤255:=by
 obtain ⟨v,rows,e,hrows,hr⟩:=Yn (size:=1) (Q:=fun r=>∃n:Int,r=[D.raw (.int .u8 n)]∧0≤n∧n≤255) hs ci (by omega) (fun m _ cs x hx=>by
  obtain ⟨n,rfl,_,hw⟩:=DataW.trod_int hi hx
  have hn:0≤n∧n≤255:=by simp [Lit.wf,IntKind.min,IntKind.max,IntKind.bits,IntKind.signed] at hw; omega
  exact ⟨_,⟨n,rfl,hn⟩,rfl,by simp [Rds,Rd,Value.oneCell']⟩) h
 obtain ⟨zs,h1,h2,h3⟩:=M6 rows hrows;rw [h1,h2] at hr;exact ⟨v,zs,e,hr,h3⟩
end
theorem W9 {s s':Option Addr} {n m c c':Nat} {w:World} (h1:n≤c) (h2:c≤maxLen) (h3:m≤c') (h4:c'≤maxLen):
  Calls Tryz.prog 4 #[.slice s n c,.slice s' m c'] w fun f w'=>f= .returned (.bool (decide (3000<n)||decide (3000<m)))∧w=w':=by
 unfold maxLen at h2 h4
 by_cases hn:(3000:Int)<(n:Int)
 ·have q:decide (3000<n)=true:=by simp; omega
  go_enter Tryz.func4,Tryz.ntmps4
  go_wp2_with fail;go_ret;exact ⟨Av (by first|rfl|(rw [q]; rfl)),rfl⟩
 have q:decide (3000<n)=false:=by simp; omega
 by_cases hm:(3000:Int)<(m:Int)
 ·have q2:decide (3000<m)=true:=by simp; omega
  go_enter Tryz.func4,Tryz.ntmps4
  go_wp2_with fail;go_ret;exact ⟨Av (by first|rfl|(rw [q,q2]; rfl)),rfl⟩
 have q2:decide (3000<m)=false:=by simp; omega
 go_enter Tryz.func4,Tryz.ntmps4
 go_wp2_with fail;go_ret;exact ⟨Av (by first|rfl|(rw [q,q2]; rfl)),rfl⟩
def atF (xs:List Int) (i n:Int):Int:=if (xs.length:Int)≤i∨n<1 then 0 else (xs.getD i.toNat 0) % n
theorem Ze {xs:List Int} {s:Option Addr} {c:Nat} {i n:Int} {w:World} (hr:Rd w (Eu xs) (.slice s xs.length c)) (hx:∀x∈xs,0≤x∧x≤255) (h0:0≤i) (h1:i≤1000) (h2:1≤n) (h3:n≤1000):
  Calls Tryz.prog 6 #[.slice s xs.length c,.int .i64 i,.int .i64 n] w fun f w'=>f= .returned (.int .i64 (atF xs i n))∧w=w':=by
 obtain ⟨-, hl,hc, -⟩:=hr.sl_at;unfold maxLen at hc
 by_cases hlt:i<xs.length
 ·obtain ⟨k,rfl⟩:=Int.eq_ofNat_of_zero_le h0;obtain ⟨x,hxp⟩:∃x,xs[k]? =some x:=⟨_,List.getElem?_eq_getElem (by omega)⟩;obtain ⟨hx0,hx1⟩:=hx x (List.mem_of_getElem? hxp);obtain ⟨sb,so,rfl⟩:=Ph hr (by omega);obtain ⟨ltS,g0⟩:=S5 hr hxp
  have e:Hid (atF xs k n=x % n):=by
   show _=_
   unfold atF;rw [if_neg (by omega),Int.toNat_natCast,List.getD_eq_getElem?_getD,hxp]
   rfl
  have hm:0≤x % n∧x % n<n:=⟨Int.emod_nonneg _ (by omega),Int.emod_lt_of_pos _ (by omega)⟩
  have hb:((xs.length:Int)≤(k:Int))=False:=by simp; omega
  have Hr:=hid hr;clear hxp hx hr
  go_enter Tryz.func6,Tryz.ntmps6
  go_wp2_with fail;go_ret;exact ⟨Di e.out.symm,rfl⟩
 have e:Hid (atF xs i n=0):=by
  show _=_
  unfold atF;rw [if_pos (by omega)]
 clear hx hr
 go_enter Tryz.func6,Tryz.ntmps6
 go_wp2_with fail;go_ret;exact ⟨Di e.out.symm,rfl⟩
structure Ca (w:World) (F:World→Prop):Prop where
 ok:∀w',Below w.heap.size w w'→F w'
theorem Ca.now {w:World} {F:World→Prop} (h:Ca w F):F w:=h.ok w (Below.refl _ _)
theorem Ca.on {w w':World} {F:World→Prop} (h:Ca w F) (hb:Below w.heap.size w w'):Ca w' F:=⟨fun w2 k=>h.ok w2 (hb.trans (k.mono hb.size))⟩
theorem Ca.and {w:World} {F G:World→Prop} (h:Ca w F) (k:Ca w G):Ca w (fun w=>F w∧G w):=⟨fun w' b=>⟨h.ok w' b,k.ok w' b⟩⟩
theorem Ca.rd {w:World} {d:D} {v:Value} (h:Rd w d v):Ca w (fun w=>Rd w d v):=⟨fun _ b=>h.below b⟩
theorem Ca.blk {w:World} {g t:Nat} {cur:List Value} (h:Blk w g t cur):Ca w (fun w=>Blk w g t cur):=⟨fun _ b=>h.below b⟩
theorem Ag.rd1 {w w':World} {d:D} {v:Value} (h:Ag w w' [d] [v]):Rd w' d v:=h.rds.one
set_option maxRecDepth 10000
section
variable {H:Type} {enc:TypeId × Value→H} {W:World} {base:Nat} {sp:Nat→Bool} {hd:Bool} {v:Value} {d:DataW H} {ps:List MemPlace}
theorem Su:Tryz.prog.cellsOf 5=1:=by kernel_rfl
theorem Na {r:Reach} {b0:Nat} (hval:Value.okWide Tryz.prog W r b0 22 v) (h:DataW.Trod enc Tryz.prog W base sp hd 22 v d ps):
  ∃(zs:List Int) (s:Option Addr) (cap:Nat),v= .slice s zs.length cap∧Rd W (Eu zs) (.slice s zs.length cap)∧∀x∈zs,0≤x∧x≤255:=by
 obtain ⟨a,len,cap,rfl⟩:=okWide_slice Tryz.underlying22 hval;obtain ⟨fuel,hf⟩:=h;obtain ⟨v',zs,e,hr,hz⟩:=Um Tryz.underlying22 Tryz.underlying5 Su hf
 have e3:v'= .slice a len cap:=by simpa [Value.cells] using e.symm
 subst e3;obtain ⟨rfl,_⟩:=hr.sl_at;exact ⟨zs,a,cap,rfl,hr,hz⟩
end
end Go.Proofs.YtlchgfbkdjjngaaGreatDoor
