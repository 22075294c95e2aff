/-
  Parts of a proof, joined: Rch, PrW, AtS, AtI, Bytes. No condition.
-/
import Derived.Test.YtfopdcdbelaapaaGreatDoorPk29
namespace Go.Proofs.YtfopdcdbelaapaaGreatDoor
set_option linter.unusedVariables false
set_option linter.unusedSimpArgs false
open Go.ChangeShapes Go.WideShapes Go.ChangeAt Go.RowKit Go.Deep Go.ChangeMaps Go.MapKept
structure Rch where
 p:Int × Int
 f:Int
 m:Int
 k:Int
def Rch.cells (r:Rch):List Value:=[.int .i64 r.p.1, .int .i64 r.p.2, .int .i64 r.f, .int .i64 r.m, .int .i64 r.k]
def Rch.ds (r:Rch):List D:=[.int r.p.1, .int r.p.2, .int r.f, .int r.m, .int r.k]
def rchD (R:List Rch):List D:=R.flatMap Rch.ds
theorem rchD_snoc (R:List Rch) (r:Rch):rchD (R++[r])=rchD R++r.ds:=by simp [rchD]
theorem rchD_at:∀(R:List Rch) (i:Nat) (r:Rch),R[i]? =some r→∀j,j<5→(rchD R)[i*5+j]? =r.ds[j]?
 |[],i,r,h=>by simp at h
 |x::R,0,r,h=>by
  simp at h;subst h;intro j hj;rw [Nat.zero_mul,Nat.zero_add]
  show (x.ds++rchD R)[j]? =_
  rw [List.getElem?_append_left (by simp [Rch.ds]; omega)]
 |x::R,i+1,r,h=>by
  intro j hj;have:=rchD_at R i r (by simpa using h) j hj
  show (x.ds++rchD R)[(i+1)*5+j]? =_
  rw [List.getElem?_append_right (by simp [Rch.ds]; omega)];rw [show (i+1)*5+j - x.ds.length=i*5+j by simp [Rch.ds]; omega];exact this
theorem rch_in {w:World} {R:List Rch} {b o n cap:Nat} (h:Rd w (.sl 5 R.length (rchD R)) (.slice (some ⟨b,o,none⟩) n cap)) {i:Nat} {r:Rch} (hr:R[i]? =some r):
  b<w.heap.size∧w.cell? ⟨b,o+i*5,none⟩=some (.int .i64 r.p.1)∧w.cell? ⟨b,o+i*5+1,none⟩=some (.int .i64 r.p.2)∧w.cell? ⟨b,o+i*5+2,none⟩=some (.int .i64 r.f)∧w.cell? ⟨b,o+i*5+3,none⟩=some (.int .i64 r.m)∧w.cell? ⟨b,o+i*5+4,none⟩=some (.int .i64 r.k):=by
 obtain ⟨_,_,_,_,_,h4⟩:=h.sl_at;have hi:=(List.getElem?_eq_some_iff.1 hr).1
 rcases h4 with h4|⟨b',o',e1,h4⟩
 ·
  omega
 ·
  simp only [Option.some.injEq,Addr.mk.injEq,and_true] at e1;obtain ⟨rfl,rfl⟩:=e1
  have c:∀j,j<5→∀v:Int,r.ds[j]? =some (.int v)→w.cell? ⟨b,o+(i*5+j),none⟩=some (.int .i64 v):=by
   intro j hj v hv;obtain ⟨x,h5,h6⟩:=h4 (i*5+j) (.int v) (by rw [rchD_at R i r hr j hj,hv]);simp only [Rd] at h6;rw [h6] at h5;exact h5
  have c0:=c 0 (by omega) _ rfl;have c1:=c 1 (by omega) _ rfl;have c2:=c 2 (by omega) _ rfl;have c3:=c 3 (by omega) _ rfl;have c4:=c 4 (by omega) _ rfl;exact ⟨World.block_lt_of_cell? w _ c0,by simpa using c0,by rw [←c1]; congr 2,by rw [←c2]; congr 2,by rw [←c3]; congr 2,by rw [←c4]; congr 2⟩
theorem none_own5 {w:World} (r:Rch):OwS (fun _=>False) w r.ds r.cells:=
 ⟨[],Ows.cons (F:=[]) (by simp [Ow]) (Ows.cons (F:=[]) (by simp [Ow]) (Ows.cons (F:=[]) (by simp [Ow]) (Ows.cons (F:=[]) (by simp [Ow]) (Ows.cons (F:=[]) (by simp [Ow]) Ows.nil)))),by simp,by simp⟩
def SeenAt (g:Nat) (L:List (Int × Int)) (w:World):Prop:=∃M,MapAt Tryz.prog 159 kfP Value.bool w g M∧∀q,findM M q=if q∈L∨q=(-1, -1) then some true else none
theorem SeenAt.hold {g:Nat} {L:List (Int × Int)} {w:World} (h:SeenAt g L w):∀w1:World,w1.heap[g]? =w.heap[g]? →SeenAt g L w1:=fun w1 h1=>by
 obtain ⟨M,hm,hf⟩:=h;exact ⟨M,hm.keep h1,hf⟩
theorem seen_put {L:List (Int × Int)} {M:List ((Int × Int) × Bool)} {z:Int × Int} (hf:∀q,findM M q=if q∈L∨q=(-1, -1) then some true else none):∀q,findM (putM M z true) q=if q∈L++[z]∨q=(-1, -1) then some true else none:=by
 intro q;rw [findM_putM,hf]
 by_cases h:z=q
 ·
  subst h
  simp
 ·
  rw [if_neg h];have h':¬q=z:=fun e=>h e.symm
  simp [h']
theorem zeroBl (w:World):(zeroValue 4).run Tryz.prog w= .ok (.bool false) w:=by kernel_rfl
theorem info_rch:(Tryz.prog.info? 161).map (fun i=>(i.zero,i.size,i.bytes))=some (some (.agg #[.int .i64 0, .int .i64 0, .int .i64 0, .int .i64 0, .int .i64 0]),5,40):=by kernel_rfl
theorem bun_row {B:Nat} {w:World} {items:List Item} (h:Bun B w items) (hB:B≤w.heap.size) {t:Nat} (r:Rch):Bun B (w.alloc (.cells r.cells.toArray t)) (items++[.app t 5 1 r.ds (.slice (some ⟨w.heap.size,0,none⟩) 1 1)]):=by
 refine h.push (Below.alloc (Below.refl _ _) (Nat.le_refl _) _) ?_;refine AppS.more (AppS.made (t:=t) (size:=5) (m:=1) (S:=fun _=>False) (none_own5 (w:=w) r) (fun b h=>h.elim) rfl (by unfold maxLen; omega)) fun b _ hc=> ?_
 have hz:(w.alloc (.cells r.cells.toArray t)).heap.size=w.heap.size+1:=by simp
 rcases hc with hc|hc
 ·
  exact hc.elim
 ·
  omega
def FromOk (R:List Rch):Prop:=∀(j:Nat) (r:Rch),R[j]? =some r→ -1≤r.f∧r.f<j
theorem FromOk.snoc {R:List Rch} {r:Rch} (h:FromOk R) (h1: -1≤r.f) (h2:r.f<R.length):FromOk (R++[r]):=fun j q hq=>by
 by_cases hj:j<R.length
 ·
  rw [List.getElem?_append_left hj] at hq;exact h j q hq
 ·
  have hl:=(List.getElem?_eq_some_iff.1 hq).1;simp at hl
  obtain rfl:j=R.length:=by omega
  simp at hq;subst hq;exact ⟨h1,h2⟩
def RchW (B g T:Nat) (w0 wr:World) (L:List (Int × Int)) (v:Value):Prop:=
 ∃R:List Rch,Bun B wr [.app T 5 R.length (rchD R) v, .one g (SeenAt g L)]∧R.map Rch.p=L∧FromOk R∧Below B w0 wr
def RchX (B g T pb Tp:Nat) (x:Int × Int) (w0 wr:World) (L:List (Int × Int)) (v:Value):Prop:=
 ∃R:List Rch,Bun B wr [.app T 5 R.length (rchD R) v, .one g (SeenAt g L), .box pb Tp [.int .i64 x.1, .int .i64 x.2]]∧R.map Rch.p=L∧FromOk R∧Below B w0 wr
theorem RchX.drop {B g T pb Tp:Nat} {x:Int × Int} {w0 wr:World} {L:List (Int × Int)} {v:Value} (h:RchX B g T pb Tp x w0 wr L v):RchW B g T w0 wr L v:=by
 obtain ⟨R,h1,h2⟩:=h;exact ⟨R,h1.take 2,h2⟩
theorem RchX.below {B g T pb Tp:Nat} {x:Int × Int} {w0 wr w2:World} {L:List (Int × Int)} {v:Value} (h:RchX B g T pb Tp x w0 wr L v) (hB:B≤wr.heap.size) (hb:Below wr.heap.size wr w2):RchX B g T pb Tp x w0 w2 L v:=by
 obtain ⟨R,h1,h2,h3,h4⟩:=h;exact ⟨R,h1.below hb,h2,h3,h4.trans (hb.mono hB)⟩
theorem start_seen:∀q:Int × Int,findM (putM (putM ([]:List ((Int × Int) × Bool)) (0,0) true) (-1, -1) true) q=if q∈[((0:Int),(0:Int))]∨q=(-1, -1) then some true else none:=by
 intro q;rw [findM_putM,findM_putM]
 by_cases h1:((-1:Int),(-1:Int))=q
 ·
  subst h1; simp
 ·
  by_cases h2:((0:Int),(0:Int))=q
  ·
   subst h2; simp
  ·
   have h1':¬q=(-1, -1):=fun e=>h1 e.symm;have h2':¬q=(0,0):=fun e=>h2 e.symm
   simp [h1,h2,h1',h2',findM]
theorem start_seen':∀q:Int × Int,findM (putM (putM ([]:List ((Int × Int) × Bool)) (-1, -1) true) (0,0) true) q=if q∈[((0:Int),(0:Int))]∨q=(-1, -1) then some true else none:=by
 intro q;rw [findM_putM,findM_putM]
 by_cases h1:((-1:Int),(-1:Int))=q
 ·
  subst h1; simp
 ·
  by_cases h2:((0:Int),(0:Int))=q
  ·
   subst h2; simp
  ·
   have h1':¬q=(-1, -1):=fun e=>h1 e.symm;have h2':¬q=(0,0):=fun e=>h2 e.symm
   simp [h1,h2,h1',h2',findM]
set_option maxRecDepth 100000 in
set_option maxHeartbeats 16000000 in
theorem reach_i {t a:Int} {ac bc:List (List Bool)} {nx ny:List (List (List Int))} {s u s' u':Option Addr} {c d c' d':Nat} {w:World} (hr:Rds w (autD ac nx) [.slice s ac.length c, .slice u nx.length d]) (hr':Rds w (autD bc ny) [.slice s' bc.length c', .slice u' ny.length d']) (hok:AutOk t a ac nx) (hok':AutOk t a bc ny):
  Calls Tryz.prog 126 #[.agg #[.int .i64 t, .int .i64 a, .slice s ac.length c, .slice u nx.length d], .agg #[.int .i64 t, .int .i64 a, .slice s' bc.length c', .slice u' ny.length d']] w fun e w'=>∃(R:List Rch) (sa:Option Addr) (ca:Nat),e= .returned (.slice sa R.length ca)∧Rd w' (.sl 5 R.length (rchD R)) (.slice sa R.length ca)∧R.map Rch.p=prF nx ny (atomsN t).toNat a.toNat∧FromOk R∧Below w.heap.size w w':=by
 obtain ⟨ht0,ht3,ha0,ha4⟩:=sigB_bd hok.sig;obtain ⟨hat1,hat8⟩:=atomsN_bd t;have hP1:=fun (i:Nat) (h:(prL nx ny (atomsN t).toNat a.toNat i).length≤i)=>prL_all hok hok' h;have hP2:=fun (i:Nat) (x:Int × Int) (m k:Nat) (hx:(prL nx ny (atomsN t).toNat a.toNat i)[i]? =some x)=>prC_ok (m:=m) (k:=k) hok hok' hx;have hP3:=fun (i:Nat)=>prL_many hok hok' i;obtain ⟨n,hn⟩:∃n:Nat,a=(n:Int):=⟨a.toNat,by omega⟩;obtain ⟨A,hA⟩:∃A:Nat,atomsN t=(A:Int):=⟨(atomsN t).toNat,by omega⟩;rw [show (atomsN t).toNat=A by omega,show a.toNat=n by omega] at*;have HA:=Lib.hid hA;have Hn:=Lib.hid hn;have HP1:=Lib.hid hP1;have HP2:=Lib.hid hP2;have HP3:=Lib.hid hP3;have Hok:=Lib.hid hok;have Hok':=Lib.hid hok';have Hr:=Lib.hid hr;have Hr':=Lib.hid hr'
 have hA8:A≤8:=by omega
 have hn4:n≤4:=by omega
 have hhi1:=hok.hi;have hhi2:=hok'.hi;clear hP1 hP2 hP3 hok hok' hr hr' hA hat1 hat8
 have hn1:a≤(n:Int):=by omega
 have hn2:(n:Int)≤a:=by omega
 clear hn;have hmm:= @run_makeMap Tryz.prog
 go_enter Tryz.func126,Tryz.ntmps126
 go_wp2_with fail;obtain ⟨w1,e1,X,hb1,hz1⟩:=box4 w 107 (.int .i64 t) (.int .i64 a) (.slice s ac.length c) (.slice u nx.length d);rw [e1];obtain ⟨w2,e2,Y,hb2,hz2⟩:=box4 w1 107 (.int .i64 t) (.int .i64 a) (.slice s' bc.length c') (.slice u' ny.length d');rw [e2];rw [hz1] at Y;have hB2:Below w.heap.size w w2:=hb1.trans (hb2.mono (by omega));replace X:=X.below hb2;have hBun:=bun_row (Bun.nil (B:=w2.heap.size) (w:=w2)) (Nat.le_refl _) (t:=161) ⟨(0,0), -1,0,0⟩;obtain ⟨w3,e3⟩:∃w3,w2.alloc (.cells #[.int .i64 0, .int .i64 0, .int .i64 (-1), .int .i64 0, .int .i64 0] 161)=w3:=⟨_,rfl⟩
 have hb3:Below w2.heap.size w2 w3:=by rw [←e3]; exact Below.alloc (Below.refl _ _) (Nat.le_refl _) _
 have hz3:w3.heap.size=w2.heap.size+1:=by rw [←e3]; simp
 have ha2:w2.heap.size=w.heap.size+1+1:=by omega
 have hBun2:Bun w2.heap.size w3 [.app 161 5 1 (rchD [⟨(0,0), -1,0,0⟩]) (.slice (some ⟨w.heap.size+1+1,0,none⟩) 1 1)]:=by rw [←e3,←ha2]; exact hBun
 rw [e3];clear e1 e2 e3 hb1 hb2 hBun ha2;have hM0:MapAt Tryz.prog 159 kfP Value.bool (w3.alloc (.map #[] 0)) w3.heap.size ([]:List ((Int × Int) × Bool)):=MapAt.made w3
 have hM:MapAt Tryz.prog 159 kfP Value.bool (w3.alloc (.map #[] 0)).drew (w.heap.size+1+1+1) ([]:List ((Int × Int) × Bool)):=by
  rw [show w.heap.size+1+1+1=w3.heap.size by omega];exact hM0.keep rfl
 have k0:∃l,keyOf Tryz.prog 159 (kfP (0,0))=some l:=keyP (by simp) (by simp);have k1:∃l,keyOf Tryz.prog 159 (kfP (-1, -1))=some l:=keyP (by simp) (by simp);obtain ⟨wA,rA,mA,oA⟩:=hM.update lawP kfP_inj Tryz.underlying200 k0 true;obtain ⟨wB,rB,mB,oB⟩:=mA.update lawP kfP_inj Tryz.underlying200 k1 true;obtain ⟨wC,rC,mC,oC⟩:=hM.update lawP kfP_inj Tryz.underlying200 k1 true;obtain ⟨wD,rD,mD,oD⟩:=mC.update lawP kfP_inj Tryz.underlying200 k0 true;simp only [kfP] at rA rB rC rD;have MB:=Lib.hid mB;have OB:=Lib.hid (oA.trans oB);have MD:=Lib.hid mD;have OD:=Lib.hid (oC.trans oD);have hBun3:=hBun2.push_one (P:=fun _=>True) (by omega) (Below.alloc (Below.refl _ _) (Nat.le_refl _) (.map #[] 0)) (by simp) (fun _ _=>trivial);rw [show w3.heap.size=w.heap.size+1+1+1 by omega] at hBun3;have hBun4:=Bun.keep (w':=(w3.alloc (.map #[] 0)).drew) hBun3 (Nat.le_refl _) (fun _ _ _=>rfl);have hbe4:Below w2.heap.size w2 (w3.alloc (.map #[] 0)).drew:=(hb3.alloc hb3.size _).drew
 have hgl:w2.heap.size≤w.heap.size+1+1+1:=by omega
 have hgl2:w2.heap.size≤(w3.alloc (.map #[] 0)).drew.heap.size:=hbe4.size
 have HB:Hid (RchW w2.heap.size (w.heap.size+1+1+1) 161 w2 wB (prL nx ny A n 0) (.slice (some ⟨w.heap.size+1+1,0,none⟩) 1 1)):=
  ⟨[⟨(0,0), -1,0,0⟩],hBun4.turn_one 1 rfl OB.out (SeenAt.hold ⟨_,MB.out,start_seen⟩),rfl,(fun j r hr=>by
   cases j with
   |zero=>simp at hr; subst hr; simp
   |succ j=>simp at hr),hbe4.trans (OB.out.below hgl2 (fun b hb=>by simp at hb; omega))⟩
 have HD:Hid (RchW w2.heap.size (w.heap.size+1+1+1) 161 w2 wD (prL nx ny A n 0) (.slice (some ⟨w.heap.size+1+1,0,none⟩) 1 1)):=
  ⟨[⟨(0,0), -1,0,0⟩],hBun4.turn_one 1 rfl OD.out (SeenAt.hold ⟨_,MD.out,start_seen'⟩),rfl,(fun j r hr=>by
   cases j with
   |zero=>simp at hr; subst hr; simp
   |succ j=>simp at hr),hbe4.trans (OD.out.below hgl2 (fun b hb=>by simp at hb; omega))⟩
 clear hM hM0 mA mB mC mD oA oB oC oD k0 k1 MB MD OB OD hBun2 hBun3 hBun4 hbe4 hgl2;have HX:=Lib.hid X;have HY:=Lib.hid Y;clear X Y
 go_region
 rotate_left
 revert HD;generalize wD=wz;clear rA rB rC rD HB
 rotate_left
 revert HB;generalize wB=wz;clear rA rB rC rD HD
 all_goals
  intro Hst;obtain ⟨g,hg⟩:∃g,w.heap.size+1+1+1=g:=⟨_,rfl⟩;rw [hg] at Hst ⊢;go_wp2_with fail
  go_loopw [5,7] (fun v0 i wr=>∃k:Nat,i= .int .i64 k∧k≤(prL nx ny A n k).length∧RchW w2.heap.size g 161 w2 wr (prL nx ny A n k) v0) (fun _ i _=>3722 - (intOf i).toNat)
  case atStart=>exact ⟨0,rfl,by omega,Hst.out⟩
  case round=>
   clear Hst;obtain ⟨i,rfl,hil,R,hbun,hRm,hfo,hbe⟩:=hrel;obtain ⟨wo,rfl⟩:∃v,v=wr:=⟨_,rfl⟩;have hmany:=HP3.out i;obtain ⟨a0,c0,rfl,q1,q2⟩:=hbun.shape 0 rfl;unfold maxLen at q2
   have hRl:R.length=(prL nx ny A n i).length:=by rw [←hRm,List.length_map]
   have hmany2:R.length≤3721:=by omega
   have HRm:=Lib.hid hRm;have Hfo:=Lib.hid hfo;have HB:=Lib.hid hbun;have HBe:=Lib.hid hbe;have hi0:=Int.natCast_nonneg i;have hzo:=hbe.size;clear hRm hfo
   by_cases hlt:i<R.length
   rotate_left
   ·
    have hd:(prL nx ny A n i).length≤i:=by omega
    have HF:Hid (R.map Rch.p=prF nx ny A n):=by show _=_; unfold prF; rw [←HP1.out i hd,HRm.out]
    have Hrd:=Lib.hid (hbun.rd 0 rfl);clear hd hbun hbe hRl;go_wp2_with fail;go_ret;exact ⟨R,a0,c0,rfl,Hrd.out,HF.out,Hfo.out,hB2.trans (HBe.out.mono hB2.size)⟩
   obtain ⟨r,hrr⟩:∃r,R[i]? =some r:=⟨_,List.getElem?_eq_getElem hlt⟩;obtain ⟨x,hxe⟩:∃x,r.p=x:=⟨_,rfl⟩
   have hX:(prL nx ny A n i)[i]? =some x:=by rw [←HRm.out,List.getElem?_map,hrr,←hxe]; rfl
   have HXi:=Lib.hid hX;have hxok:=(HP2.out i x 0 0 hX).1 x (List.mem_of_getElem? (prL_at hX));have hrd:=hbun.rd 0 rfl
   obtain ⟨b0,o0,rfl⟩:∃b0 o0,a0=some ⟨b0,o0,none⟩:=by
    obtain ⟨_,_,_,_,_,h4⟩:=hrd.sl_at
    rcases h4 with h4|⟨b,o,e,_⟩
    ·
     omega
    ·
     exact ⟨b,o,e⟩
   obtain ⟨hbl,y0,y1, -, -, -⟩:=rch_in hrd hrr;rw [hxe] at y0 y1
   have hil2:(i:Int)<(R.length:Int):=by omega
   have X4:=HX.out.below hbe;obtain ⟨g0,g1, -, -, -, -, -, -, ltX⟩:=X4.all4;clear hrr hxe hX hrd hbun hbe hRl X4;go_wp2_with fail;clear y0 y1 g0 g1 ltX;have hBp:=HB.out.push_box hzo 159 #[.int .i64 x.1, .int .i64 x.2];obtain ⟨w4,e4, -, hb4,hz4⟩:=box2 wo 159 (.int .i64 x.1) (.int .i64 x.2);rw [e4] at hBp ⊢;obtain ⟨pb,hpb⟩:∃pb,wo.heap.size=pb:=⟨_,rfl⟩;rw [hpb] at hBp ⊢;have hst:RchX w2.heap.size g 161 pb 159 x w2 w4 (prL nx ny A n i) (.slice (some ⟨b0,o0,none⟩) R.length c0):=⟨R,by simpa using hBp,HRm.out,Hfo.out,HBe.out.trans (hb4.mono hzo)⟩;refine (atomsIn_i ht0 ht3).mono ?_;rintro f w5 ⟨rfl,hb5⟩;rw [HA.out];have Hst5:=Lib.hid (hst.below (by omega) hb5);clear e4 hb4 hBp hst hb5 hpb HB HRm Hfo HBe;go_wp2_with fail
   go_loopw [5,33] (fun v0 j wr=>∃m:Nat,j= .int .i64 m∧m≤A∧RchX w2.heap.size g 161 pb 159 x w2 wr (prC nx ny A n i x m 0) v0) (fun _ j _=>A - (intOf j).toNat)
   case atStart=>exact ⟨0,rfl,by omega,by rw [prC_zero]; exact Hst5.out⟩
   case round=>
    clear Hst5;obtain ⟨m,rfl,hmA,hW⟩:=hrel;obtain ⟨wm,rfl⟩:∃v,v=wr:=⟨_,rfl⟩;have hm0:=Int.natCast_nonneg m;obtain ⟨R1,hbun1,hR1,hf1,hbe1⟩:=hW;obtain ⟨a1,c1,rfl,q3,q4⟩:=hbun1.shape 0 rfl;have HW:Hid (RchX w2.heap.size g 161 pb 159 x w2 wm (prC nx ny A n i x m 0) (.slice a1 R1.length c1)):=⟨R1,hbun1,hR1,hf1,hbe1⟩
    by_cases hmlt:m<A
    rotate_left
    ·
     obtain rfl:A=m:=by omega
     have HW6:Hid (RchW w2.heap.size g 161 w2 wm (prL nx ny A n (i+1)) (.slice a1 R1.length c1)):=by show RchW ..; rw [←prC_all HXi.out]; exact HW.out.drop
     have hi1:i+1≤(prL nx ny A n (i+1)).length:=by
      have h1:=prL_at (m:=A) (k:=0) HXi.out;rw [prC_all HXi.out] at h1;exact (List.getElem?_eq_some_iff.1 h1).1
     clear hbun1 hR1 hf1 hbe1;go_wp2_with fail
     go_roundw
     case rel=>exact ⟨i+1,by go_num,hi1,HW6.out⟩
     case measure=>simp [intOf]; omega
    have hm1:(m:Int)<(A:Int):=by omega
    have hmat:(m:Int)<atomsN t:=by rw [HA.out]; exact hm1
    obtain ⟨g0,g1, -, -, -, -, -, -, ltX⟩:=(HX.out.below hbe1).all4;clear hbun1 hR1 hf1 hbe1;go_wp2_with fail;clear g0 g1 ltX
    go_loopw [5,39] (fun v0 j wr=>∃q:Nat,j= .int .i64 q∧q≤n∧RchX w2.heap.size g 161 pb 159 x w2 wr (prC nx ny A n i x m q) v0) (fun _ j _=>n - (intOf j).toNat)
    case atStart=>exact ⟨0,rfl,by omega,HW.out⟩
    case round=>
     clear HW;obtain ⟨q,rfl,hqn,R2,hbun2,hR2,hf2,hbe2⟩:=hrel;obtain ⟨wq,rfl⟩:∃v,v=wr:=⟨_,rfl⟩;obtain ⟨a2,c2,rfl,q5,q6⟩:=hbun2.shape 0 rfl;unfold maxLen at q6;have hq0:=Int.natCast_nonneg q;have hzq:=hbe2.size
     by_cases hqlt:q<n
     rotate_left
     ·
      obtain rfl:n=q:=by omega
      have HW6:Hid (RchX w2.heap.size g 161 pb 159 x w2 wq (prC nx ny A n i x (m+1) 0) (.slice a2 R2.length c2)):=by show RchX ..; rw [←prC_line]; exact ⟨R2,hbun2,hR2,hf2,hbe2⟩
      clear hbun2 hR2 hf2 hbe2;go_wp2_with fail
      go_roundw
      case rel=>exact ⟨m+1,by go_num,by omega,HW6.out⟩
      case measure=>simp [intOf]; omega
     have hqa:(q:Int)<a:=by omega
     obtain ⟨hall,hmany3⟩:=HP2.out i x m q HXi.out;have hat:=prL_at (m:=m) (k:=q) HXi.out
     have hR2l:R2.length=(prC nx ny A n i x m q).length:=by rw [←hR2,List.length_map]
     have hR2m:R2.length≤3721:=by omega
     have hilR:i<R2.length:=by rw [hR2l]; exact (List.getElem?_eq_some_iff.1 hat).1
     have Hpb:=Lib.hid (hbun2.box 2 rfl).1;have HB2:=Lib.hid hbun2;have HBe2:=Lib.hid hbe2;have HR2:=Lib.hid hR2;have Hf2:=Lib.hid hf2;have hgb:=(hbun2.one 1 rfl).2;clear hbun2 hR2 hf2 hbe2 hall hat hR2l;go_wp2_with fail
     refine region_rg 14 [] [0,1,2,3,4,5,6,7,8,9,10,11,12,13] (fun i iv vs wx=>match i with
      |0=>vs 0= .agg #[.int .i64 t, .int .i64 a, .slice s ac.length c, .slice u nx.length d]
      |1=>vs 1= .pointer (some ⟨pb,0,none⟩)
      |2=>vs 2= .int .i64 x.1
      |3=>vs 3= .int .i64 m
      |4=>vs 4= .int .i64 q
      |5=>vs 5= .int .i64 (goN nx x.1 m q)
      |6=>vs 6= .agg #[.int .i64 t, .int .i64 a, .slice s' bc.length c', .slice u' ny.length d']
      |7=>vs 7= .pointer (some ⟨pb,1,none⟩)
      |8=>vs 8= .int .i64 x.2
      |9=>vs 9= .int .i64 m
      |10=>vs 10= .int .i64 q
      |11=>vs 11= .int .i64 (goN ny x.2 m q)
      |12=>vs 12= .agg #[vs 5,vs 11]
      |13=>vs 13= .pointer (some ⟨(iv 13).1,0,none⟩)∧(iv 13).2=(iv 13).1+1∧Blk wx (iv 13).1 159 [.int .i64 0, .int .i64 0]
      |_=>True) (fun vs wx=>∃p,vs 13= .pointer (some ⟨p,0,none⟩)∧wq.heap.size≤p∧Blk wx p 159 [.int .i64 (goN nx x.1 m q), .int .i64 (goN ny x.2 m q)]∧Below wq.heap.size wq wx)
      (by kernel_rfl) (by kernel_rfl) (by kernel_rfl) (by kernel_rfl) ?hJ ?hX ?hF ?hstep ?hstore ?hQ (by kernel_rfl)
     case hX=>
      intro i o t k hi ho hop iv vs w hj;simp at hi
     case hF=>
      intro vs vs' wx h hf;have e13:=h 13 (mem_of (by kernel_rfl))
      show ∃p,vs' 13= .pointer (some ⟨p,0,none⟩)∧wq.heap.size≤p∧Blk wx p 159 [.int .i64 (goN nx x.1 m q), .int .i64 (goN ny x.2 m q)]∧Below wq.heap.size wq wx
      rw [←e13];exact hf
     case hJ=>
      intro i hi iv iv' vs vs' wx wx' ha hv hb hj;simp only [List.mem_cons,List.not_mem_nil,or_false] at hi
      rcases hi with rfl|rfl|rfl|rfl|rfl|rfl|rfl|rfl|rfl|rfl|rfl|rfl|rfl|rfl
      ·
       have e0:=aG hv 0;have hj':vs 0= .agg #[.int .i64 t, .int .i64 a, .slice s ac.length c, .slice u nx.length d]:=hj
       show vs' 0= .agg #[.int .i64 t, .int .i64 a, .slice s ac.length c, .slice u nx.length d]
       rw [←e0];exact hj'
      ·
       have e1:=aG hv 1;have hj':vs 1= .pointer (some ⟨pb,0,none⟩):=hj
       show vs' 1= .pointer (some ⟨pb,0,none⟩)
       rw [←e1];exact hj'
      ·
       have e2:=aG hv 2;have hj':vs 2= .int .i64 x.1:=hj
       show vs' 2= .int .i64 x.1
       rw [←e2];exact hj'
      ·
       have e3:=aG hv 3;have hj':vs 3= .int .i64 m:=hj
       show vs' 3= .int .i64 m
       rw [←e3];exact hj'
      ·
       have e4:=aG hv 4;have hj':vs 4= .int .i64 q:=hj
       show vs' 4= .int .i64 q
       rw [←e4];exact hj'
      ·
       have e5:=aG hv 5;have hj':vs 5= .int .i64 (goN nx x.1 m q):=hj
       show vs' 5= .int .i64 (goN nx x.1 m q)
       rw [←e5];exact hj'
      ·
       have e6:=aG hv 6;have hj':vs 6= .agg #[.int .i64 t, .int .i64 a, .slice s' bc.length c', .slice u' ny.length d']:=hj
       show vs' 6= .agg #[.int .i64 t, .int .i64 a, .slice s' bc.length c', .slice u' ny.length d']
       rw [←e6];exact hj'
      ·
       have e7:=aG hv 7;have hj':vs 7= .pointer (some ⟨pb,1,none⟩):=hj
       show vs' 7= .pointer (some ⟨pb,1,none⟩)
       rw [←e7];exact hj'
      ·
       have e8:=aG hv 8;have hj':vs 8= .int .i64 x.2:=hj
       show vs' 8= .int .i64 x.2
       rw [←e8];exact hj'
      ·
       have e9:=aG hv 9;have hj':vs 9= .int .i64 m:=hj
       show vs' 9= .int .i64 m
       rw [←e9];exact hj'
      ·
       have e10:=aG hv 10;have hj':vs 10= .int .i64 q:=hj
       show vs' 10= .int .i64 q
       rw [←e10];exact hj'
      ·
       have e11:=aG hv 11;have hj':vs 11= .int .i64 (goN ny x.2 m q):=hj
       show vs' 11= .int .i64 (goN ny x.2 m q)
       rw [←e11];exact hj'
      ·
       have e12:=aG hv 12;have e5:=aG hv 5;have e11:=aG hv 11;have hj':vs 12= .agg #[vs 5,vs 11]:=hj
       show vs' 12= .agg #[vs' 5,vs' 11]
       rw [←e5,←e11,←e12];exact hj'
      ·
       have e13:=aG hv 13;have g13:=aG ha 13;obtain ⟨q1,q3,q2⟩:=hj
       show vs' 13= .pointer (some ⟨(iv' 13).1,0,none⟩)∧(iv' 13).2=(iv' 13).1+1∧Blk wx' (iv' 13).1 159 [.int .i64 0, .int .i64 0]
       rw [←e13,←g13];exact ⟨q1,q3,q2.below hb⟩
     case hstep=>
      intro i hi o ho iv vs w1 hB hd hbd hsep K hK;simp only [List.mem_cons,List.not_mem_nil,or_false] at hi;have hbw:=HBe2.out.trans (hB.mono hzq);have hrA:=Hr.out.below (hB2.trans (hbw.mono hB2.size));have hrB:=Hr'.out.below (hB2.trans (hbw.mono hB2.size));obtain ⟨xa0,xa1,xa2,xa3, -, -, -, -, ltA⟩:=(HX.out.below hbw).all4;obtain ⟨ya0,ya1,ya2,ya3, -, -, -, -, ltB⟩:=(HY.out.below hbw).all4;obtain ⟨pp0,pp1,ltP⟩:=(Hpb.out.below hB).all2
      rcases hi with rfl|rfl|rfl|rfl|rfl|rfl|rfl|rfl|rfl|rfl|rfl|rfl|rfl|rfl
      all_goals
       simp at ho;subst ho;simp only [putFrom,puts]
      ·
       go_wp2_with fail;exact Onward.mk (hK (.agg #[.int .i64 t, .int .i64 a, .slice s ac.length c, .slice u nx.length d]) _ _ (by simp only [putFrom,puts]) (Below.refl _ _) (fun iv' _ _=>rfl))
      ·
       go_wp2_with fail;exact Onward.mk (hK (.pointer (some ⟨pb,0,none⟩)) _ _ (by simp only [putFrom,puts]) (Below.refl _ _) (fun iv' _ _=>rfl))
      ·
       have h1:vs 1= .pointer (some ⟨pb,0,none⟩):=hd.out 1 (mem_of (by kernel_rfl)) (by decide);go_wp2_with fail;exact Onward.mk (hK (.int .i64 x.1) _ _ (by simp only [putFrom,puts,h1]) (Below.refl _ _) (fun iv' _ _=>rfl))
      ·
       go_wp2_with fail;exact Onward.mk (hK (.int .i64 m) _ _ (by simp only [putFrom,puts]) (Below.refl _ _) (fun iv' _ _=>rfl))
      ·
       go_wp2_with fail;exact Onward.mk (hK (.int .i64 q) _ _ (by simp only [putFrom,puts]) (Below.refl _ _) (fun iv' _ _=>rfl))
      ·
       have h0:vs 0= .agg #[.int .i64 t, .int .i64 a, .slice s ac.length c, .slice u nx.length d]:=hd.out 0 (mem_of (by kernel_rfl)) (by decide);have h2:vs 2= .int .i64 x.1:=hd.out 2 (mem_of (by kernel_rfl)) (by decide);have h3:vs 3= .int .i64 m:=hd.out 3 (mem_of (by kernel_rfl)) (by decide);have h4:vs 4= .int .i64 q:=hd.out 4 (mem_of (by kernel_rfl)) (by decide);go_wp2_with fail;refine (nextOf_i (Rds.two hrA).1 (Rds.two hrA).2 Hok.out hxok.2.1 hmat hqa).mono ?_;rintro e w2 ⟨rfl,hb⟩;go_wp2_with fail;exact Onward.mk (hK (.int .i64 (goN nx x.1 m q)) _ _ (by simp only [putFrom,puts,h0,h2,h3,h4]) hb (fun iv' _ _=>rfl))
      ·
       go_wp2_with fail;exact Onward.mk (hK (.agg #[.int .i64 t, .int .i64 a, .slice s' bc.length c', .slice u' ny.length d']) _ _ (by simp only [putFrom,puts]) (Below.refl _ _) (fun iv' _ _=>rfl))
      ·
       go_wp2_with fail;exact Onward.mk (hK (.pointer (some ⟨pb,1,none⟩)) _ _ (by simp only [putFrom,puts]) (Below.refl _ _) (fun iv' _ _=>rfl))
      ·
       have h7:vs 7= .pointer (some ⟨pb,1,none⟩):=hd.out 7 (mem_of (by kernel_rfl)) (by decide);go_wp2_with fail;exact Onward.mk (hK (.int .i64 x.2) _ _ (by simp only [putFrom,puts,h7]) (Below.refl _ _) (fun iv' _ _=>rfl))
      ·
       go_wp2_with fail;exact Onward.mk (hK (.int .i64 m) _ _ (by simp only [putFrom,puts]) (Below.refl _ _) (fun iv' _ _=>rfl))
      ·
       go_wp2_with fail;exact Onward.mk (hK (.int .i64 q) _ _ (by simp only [putFrom,puts]) (Below.refl _ _) (fun iv' _ _=>rfl))
      ·
       have h6:vs 6= .agg #[.int .i64 t, .int .i64 a, .slice s' bc.length c', .slice u' ny.length d']:=hd.out 6 (mem_of (by kernel_rfl)) (by decide);have h8:vs 8= .int .i64 x.2:=hd.out 8 (mem_of (by kernel_rfl)) (by decide);have h9:vs 9= .int .i64 m:=hd.out 9 (mem_of (by kernel_rfl)) (by decide);have h10:vs 10= .int .i64 q:=hd.out 10 (mem_of (by kernel_rfl)) (by decide);go_wp2_with fail;refine (nextOf_i (Rds.two hrB).1 (Rds.two hrB).2 Hok'.out hxok.2.2.2 hmat hqa).mono ?_;rintro e w2 ⟨rfl,hb⟩;go_wp2_with fail;exact Onward.mk (hK (.int .i64 (goN ny x.2 m q)) _ _ (by simp only [putFrom,puts,h6,h8,h9,h10]) hb (fun iv' _ _=>rfl))
      ·
       have h5:vs 5= .int .i64 (goN nx x.1 m q):=hd.out 5 (mem_of (by kernel_rfl)) (by decide);have h11:vs 11= .int .i64 (goN ny x.2 m q):=hd.out 11 (mem_of (by kernel_rfl)) (by decide);go_wp2_with fail
       exact Onward.mk (hK (.agg #[.int .i64 (goN nx x.1 m q), .int .i64 (goN ny x.2 m q)]) _ _ (by simp only [putFrom,puts,h5,h11]) (Below.refl _ _) (fun iv' _ _=>by
        show (.agg #[.int .i64 (goN nx x.1 m q), .int .i64 (goN ny x.2 m q)]:Value)= .agg #[vs 5,vs 11]
        simp only [h5,h11]))
      ·
       go_wp2_with fail
       exact Onward.mk (hK (.pointer (some ⟨w1.heap.size,0,none⟩)) _ _ (by simp only [putFrom,puts]) (Below.alloc (Below.refl _ _) (Nat.le_refl _) _) (fun iv' _ hi=>by
        show Value.pointer (some ⟨w1.heap.size,0,none⟩)= .pointer (some ⟨(iv' 13).1,0,none⟩)∧(iv' 13).2=(iv' 13).1+1∧Blk _ (iv' 13).1 159 [.int .i64 0, .int .i64 0]
        rw [hi]
        exact ⟨rfl,by simp,Blk.new2 _ _ _ _⟩))
     case hstore=>
      intro o ho iv vs w1 hB hd hsep K hK;simp at ho;subst ho;simp only [putFrom,puts];have h0:vs 0= .agg #[.int .i64 t, .int .i64 a, .slice s ac.length c, .slice u nx.length d]:=(hd.out 0 (mem_of (by kernel_rfl))).1;have h1:vs 1= .pointer (some ⟨pb,0,none⟩):=(hd.out 1 (mem_of (by kernel_rfl))).1;have h2:vs 2= .int .i64 x.1:=(hd.out 2 (mem_of (by kernel_rfl))).1;have h3:vs 3= .int .i64 m:=(hd.out 3 (mem_of (by kernel_rfl))).1;have h4:vs 4= .int .i64 q:=(hd.out 4 (mem_of (by kernel_rfl))).1;have h5:vs 5= .int .i64 (goN nx x.1 m q):=(hd.out 5 (mem_of (by kernel_rfl))).1;have h6:vs 6= .agg #[.int .i64 t, .int .i64 a, .slice s' bc.length c', .slice u' ny.length d']:=(hd.out 6 (mem_of (by kernel_rfl))).1;have h7:vs 7= .pointer (some ⟨pb,1,none⟩):=(hd.out 7 (mem_of (by kernel_rfl))).1;have h8:vs 8= .int .i64 x.2:=(hd.out 8 (mem_of (by kernel_rfl))).1;have h9:vs 9= .int .i64 m:=(hd.out 9 (mem_of (by kernel_rfl))).1;have h10:vs 10= .int .i64 q:=(hd.out 10 (mem_of (by kernel_rfl))).1;have h11:vs 11= .int .i64 (goN ny x.2 m q):=(hd.out 11 (mem_of (by kernel_rfl))).1;have h12:vs 12= .agg #[vs 5,vs 11]:=(hd.out 12 (mem_of (by kernel_rfl))).1;obtain ⟨⟨h13,q13,f13⟩,b13, -, u13⟩:=hd.out 13 (mem_of (by kernel_rfl))
      have k12:vs 12= .agg #[.int .i64 (goN nx x.1 m q), .int .i64 (goN ny x.2 m q)]:=by rw [h12,h5,h11]
      obtain ⟨p,hp⟩:∃p,(iv 13).1=p:=⟨_,rfl⟩;rw [hp] at h13 f13 b13;have r0:=f13.c0;have r1:=f13.c1;have z0:=f13.frozen 0;have z1:=f13.frozen 1;have ltF:=f13.lt;clear h0 h1 h2 h3 h4 h5 h6 h7 h8 h9 h10 h11 h12;go_wp2_with fail;refine Onward.mk (hK _ _ (by simp only [putFrom,puts,h13,k12]) ⟨p,h13,b13,(f13.set 0 _).set 1 _, ?_⟩);exact Below.setCell (Below.setCell hB (by simp; omega) _) (by simp; omega) _
     case hQ=>
      rintro zs wn hE ⟨p,h8,lp,hP,hb⟩;simp only [putFrom,puts,h8];clear h8 hE;obtain ⟨X0,hXe⟩:∃X0,goN nx x.1 m q=X0:=⟨_,rfl⟩;obtain ⟨Y0,hYe⟩:∃Y0,goN ny x.2 m q=Y0:=⟨_,rfl⟩;have hXb:=goN_bd Hok.out (s:=x.1) (m:=m) (k:=q) hxok.2.1 hmat hqa;have hYb:=goN_bd Hok'.out (s:=x.2) (m:=m) (k:=q) hxok.2.2.2 hmat hqa;rw [hXe] at hP hXb;rw [hYe] at hP hYb;have HXe:=Lib.hid hXe;have HYe:=Lib.hid hYe;have Hkey:=Lib.hid (keyP (p:=(X0,Y0)) ⟨hXb.1,by omega⟩ ⟨hYb.1,by omega⟩);have HB3:=Lib.hid (HB2.out.below hb);have HBe3:=Lib.hid (HBe2.out.trans (hb.mono hzq));have hz3:=hb.size;have n0:=hP.c0;have n1:=hP.c1;have ltN:=hP.lt;have HN:=Lib.hid hP;obtain ⟨M,hM,hfd⟩:=(HB3.out.one 1 rfl).1;obtain ⟨Lc,hLc⟩:∃Lc,prC nx ny A n i x m q=Lc:=⟨_,rfl⟩;rw [hLc] at hfd HR2 HB3;have Hfd:=Lib.hid hfd;have HLc:=Lib.hid hLc;clear hXe hYe hb hP hLc HB2 HBe2 Hpb
      by_cases hsn:(X0,Y0)∈Lc∨(X0,Y0)=(-1, -1)
      ·
       have HEL:Hid (prC nx ny A n i x m (q+1)=Lc):=by
        show _=_
        by_cases hneg:X0<0∧Y0<0
        ·
         rw [prC_none hmlt hqlt (nxtP_none HXe.out HYe.out hneg.1 hneg.2),HLc.out]
        ·
         rcases hsn with hin|he
         ·
          rw [prC_was hmlt hqlt (nxtP_some HXe.out HYe.out hneg) (by rw [HLc.out]; exact hin),HLc.out]
         ·
          simp only [Prod.mk.injEq] at he;exact absurd (by omega) hneg
       have Hfind:Hid (findM M (X0,Y0)=some true):=by show _=_; rw [Hfd.out,if_pos hsn]
       clear hsn hfd
       go_wp2_with (at_lookup; refine wpList_lookup_at _ rfl _ _ 200 false rfl 159 4 lawP Tryz.underlying200 (.bool false) (zeroBl _) kfP_inj g hM (X0,Y0) Hkey.out rfl rfl (some true) Hfind.out ?_; simp only [lookV,Bool.false_eq_true,if_false])
       go_roundw
       case rel=>exact ⟨q+1,by go_num,by omega,R2,by rw [HEL.out]; exact HB3.out,by rw [HEL.out]; exact HR2.out,Hf2.out,HBe3.out⟩
       case measure=>simp [intOf]; omega
      ·
       have hneg:¬(X0<0∧Y0<0):=fun h=>hsn (Or.inr (Prod.ext (show X0= -1 by omega) (show Y0= -1 by omega)))
       have HEL:Hid (prC nx ny A n i x m (q+1)=Lc++[(X0,Y0)]):=by
        show _=_
        rw [prC_new hmlt hqlt (nxtP_some HXe.out HYe.out hneg) (by rw [HLc.out]; exact fun h=>hsn (Or.inl h)),HLc.out]
       have Hfind:Hid (findM M (X0,Y0)=none):=by show _=_; rw [Hfd.out,if_neg hsn]
       clear hsn hfd hneg
       go_wp2_with (first
        |(at_lookup; refine wpList_lookup_at _ rfl _ _ 200 false rfl 159 4 lawP Tryz.underlying200 (.bool false) (zeroBl _) kfP_inj g hM (X0,Y0) Hkey.out rfl rfl none Hfind.out ?_; simp only [lookV,Bool.false_eq_true,if_false])
        |(at_mapUpdate; (refine wpList_mapUpdate_at _ rfl _ _ _ 200 rfl 159 4 lawP Tryz.underlying200 kfP_inj g hM (X0,Y0) Hkey.out true rfl rfl rfl ?_); intro w10 hM10 ho10; have hz10:=ho10.size; have N3:=HN.out.keep (ho10.block _ HN.out.lt (by simp; omega)); have n0:=N3.c0; have n1:=N3.c1; have ltN:=N3.lt; have hBl:=(HB3.out.turn_one (Q:=SeenAt g (Lc++[(X0,Y0)])) 1 rfl ho10 (SeenAt.hold ⟨_,hM10,seen_put Hfd.out⟩)).alloc (.cells #[.int .i64 X0, .int .i64 Y0, .int .i64 i, .int .i64 m, .int .i64 q] 161); have hNl:=Blk.made w10 161 #[.int .i64 X0, .int .i64 Y0, .int .i64 i, .int .i64 m, .int .i64 q]; have Hbe10:=Lib.hid (HBe3.out.trans (ho10.below (by omega) (fun b hb=>by simp at hb; omega))); have hzB:=Hbe10.out.size; clear hM10 ho10)
        |(at_builtin; go_must (refine wpList_append_bun _ rfl _ _ 157 rfl 161 (.agg #[.int .i64 0, .int .i64 0, .int .i64 0, .int .i64 0, .int .i64 0]) 5 40 Tryz.underlying157 info_rch rfl (by decide) hBl (by simp; omega) 0 _ rfl rfl ⟨w10.heap.size,0,none⟩ 1 1 (Rch.cells ⟨(X0,Y0),i,m,q⟩) rfl (news_blk hNl) (none_own5 _) rfl (by simp [Rch.cells,Value.oneCell']) (by omega) (by omega) (by unfold maxLen; omega) ?_); intro g7 cap7 w7 hbun7 hb7))
       have Hfin:=Lib.hid (And.intro hbun7 ((Hbe10.out.alloc (by omega) (.cells #[.int .i64 X0, .int .i64 Y0, .int .i64 i, .int .i64 m, .int .i64 q] 161)).trans hb7));clear hbun7 hb7 hBl hNl hM;go_wp2_with fail
       go_roundw
       case rel=>
        refine ⟨q+1,by go_num,by omega,R2++[⟨(X0,Y0),i,m,q⟩], ?_,by rw [HEL.out,List.map_append,HR2.out]; rfl,Hf2.out.snoc (by show (-1:Int)≤(i:Int); omega) (by show (i:Int)<_; omega),Hfin.out.2⟩;rw [HEL.out,rchD_snoc,List.length_append];exact Hfin.out.1
       case measure=>simp [intOf]; omega
end Go.Proofs.YtfopdcdbelaapaaGreatDoor
namespace Go.Proofs.YtfopdcdbelaapaaGreatDoor
set_option linter.unusedVariables false
set_option linter.unusedSimpArgs false
open Go.ChangeShapes Go.WideShapes Go.ChangeAt Go.RowKit Go.Deep
theorem all_no {α:Type} {L:List α} {p:α→Bool} {x:α} (hx:x∈L) (hp:p x=false):L.all p=false:=by
 rw [List.all_eq_false];exact ⟨x,hx,by rw [hp]; simp⟩
theorem all_yes {α:Type} {L:List α} {p:α→Bool} (h:∀(i:Nat) (x:α),i<L.length→L[i]? =some x→p x=true):L.all p=true:=by
 rw [List.all_eq_true];intro x hx;obtain ⟨i,hi⟩:=List.mem_iff_getElem?.1 hx;exact h i x (List.getElem?_eq_some_iff.1 hi).1 hi
theorem inAt_no {ac bc:List (List Bool)} {A m:Nat} {p:Int × Int} (hm:m<A) (h1:hasN ac p.1 m=true) (h2:hasN bc p.2 m=false):inAtB ac bc A p=false:=by
 unfold inAtB;refine all_no (x:=m) (List.mem_range.2 hm) ?_;rw [h1,h2]
 rfl
theorem inAt_yes {ac bc:List (List Bool)} {A:Nat} {p:Int × Int} (h:∀m:Nat,m<A→(hasN ac p.1 m&& !hasN bc p.2 m)=false):inAtB ac bc A p=true:=by
 unfold inAtB;rw [List.all_eq_true];intro m hm;rw [h m (List.mem_range.1 hm)]
 rfl
def InTo (ac bc:List (List Bool)) (p:Int × Int) (k:Nat):Prop:=∀m:Nat,m<k→(hasN ac p.1 m&& !hasN bc p.2 m)=false
theorem InTo.succ {ac bc:List (List Bool)} {p:Int × Int} {k:Nat} (h:InTo ac bc p k) (hk:(hasN ac p.1 k&& !hasN bc p.2 k)=false):InTo ac bc p (k+1):=fun m hm=>by
 by_cases he:m=k
 ·
  rw [he]; exact hk
 ·
  exact h m (by omega)
def WithinTo (ac bc:List (List Bool)) (A:Nat) (L:List (Int × Int)) (k:Nat):Prop:=∀(i:Nat) (p:Int × Int),i<k→L[i]? =some p→inAtB ac bc A p=true
theorem WithinTo.succ {ac bc:List (List Bool)} {A:Nat} {L:List (Int × Int)} {k:Nat} {p:Int × Int} (h:WithinTo ac bc A L k) (hp:L[k]? =some p) (hk:inAtB ac bc A p=true):WithinTo ac bc A L (k+1):=fun i q hi hq=>by
 by_cases he:i=k
 ·
  rw [he,hp] at hq;rw [←Option.some.inj hq];exact hk
 ·
  exact h i q (by omega) hq
set_option maxRecDepth 100000 in
set_option maxHeartbeats 16000000 in
theorem l03Within_i {t a:Int} {ac bc:List (List Bool)} {nx ny:List (List (List Int))} {s u s' u':Option Addr} {c d c' d' b o b' o':Nat} {w:World} (h:AutAt w b o t a ac nx s u c d) (h':AutAt w b' o' t a bc ny s' u' c' d') (hok:AutOk t a ac nx) (hok':AutOk t a bc ny):
  Calls Tryz.prog 84 #[.pointer (some ⟨b,o,none⟩), .pointer (some ⟨b',o',none⟩)] w fun e w'=>e= .returned (.bool (withinB ac bc nx ny (atomsN t).toNat a.toNat))∧Below w.heap.size w w':=by
 obtain ⟨ht0,ht3,ha0,ha4⟩:=sigB_bd hok.sig;obtain ⟨hat1,hat8⟩:=atomsN_bd t;have hst:=l03Pairs_i h h' hok hok';have hall:=fun p hp=>prL_ok hok hok' 3721 p hp;have hmany:=prL_many hok hok' 3721;obtain ⟨A,hA⟩:∃A:Nat,atomsN t=(A:Int):=⟨(atomsN t).toNat,by omega⟩
 have hA':(atomsN t).toNat=A:=by omega
 have hF:withinB ac bc nx ny (atomsN t).toNat a.toNat=(prF nx ny (atomsN t).toNat a.toNat).all (inAtB ac bc (atomsN t).toNat):=rfl;have hall':∀p∈prF nx ny (atomsN t).toNat a.toNat,PairOk ac.length bc.length p:=hall;have hmany':(prF nx ny (atomsN t).toNat a.toNat).length≤3721:=hmany;obtain ⟨F,hFe⟩:∃F,prF nx ny (atomsN t).toNat a.toNat=F:=⟨_,rfl⟩;rw [hFe] at hst hF hall' hmany';rw [hF,hA'];have HA:=Lib.hid hA;have Hall:=Lib.hid hall';have Hh:=Lib.hid h;have Hh':=Lib.hid h';have Hok:=Lib.hid hok;have Hok':=Lib.hid hok';clear hA hA' hF hFe hall hmany hall' h h' hok hok' hat1
 go_enter Tryz.func84,Tryz.ntmps84
 go_wp2_with fail;refine hst.mono ?_;rintro f w2 ⟨v0,v1,rfl,hr1,hr2,hb2⟩;obtain ⟨s0,k0,rfl,q1,q2, -⟩:=Rd.slice (size:=1) (n:=(F.map Prod.fst).length) hr1;obtain ⟨s1,k1,rfl,q3,q4, -⟩:=Rd.slice (size:=1) (n:=(F.map Prod.snd).length) hr2;unfold maxLen at q2 q4;simp only [List.length_map] at q1 q3;have Hr1:=Lib.hid hr1;have Hr2:=Lib.hid hr2;have Hb2:=Lib.hid hb2;have hz2:=hb2.size;rw [List.length_map,List.length_map];clear hr1 hr2 hb2 hst;go_wp2_with fail
 go_loopw [7] (fun i wr=>∃k:Nat,i= .int .i64 k∧k≤F.length∧Hid (WithinTo ac bc A F k)∧Below w2.heap.size w2 wr) (fun i _=>F.length - (intOf i).toNat)
 case atStart=>exact ⟨0,rfl,by omega,fun i p hi=>by omega,Below.refl _ _⟩
 case round=>
  obtain ⟨i,rfl,hi,HW,hbe⟩:=hrel;obtain ⟨wo,rfl⟩:∃v,v=wr:=⟨_,rfl⟩;have hi0:=Int.natCast_nonneg i;have hzo:=hbe.size;have HBe:=Lib.hid hbe;clear hbe
  by_cases hlt:i<F.length
  rotate_left
  ·
   obtain rfl:i=F.length:=by omega
   have HR:Hid (F.all (inAtB ac bc A)=true):=all_yes fun j p hj hp=>HW.out j p hj hp;go_wp2_with fail;go_ret;exact ⟨ret_bool HR.out.symm,Hb2.out.trans (HBe.out.mono hz2)⟩
  obtain ⟨x,hx⟩:∃x,F[i]? =some x:=⟨_,List.getElem?_eq_getElem hlt⟩;have hxok:=Hall.out x (List.mem_of_getElem? hx);have Hx:=Lib.hid hx
  have hil:(i:Int)<(F.length:Int):=by omega
  clear hx;go_wp2_with fail
  go_loopw [8] (fun j wr=>∃m:Nat,j= .int .i64 m∧m≤A∧Hid (InTo ac bc x m)∧Below w2.heap.size w2 wr) (fun j _=>A - (intOf j).toNat)
  case atStart=>exact ⟨0,rfl,by omega,fun m hm=>by omega,HBe.out⟩
  case round=>
   clear HBe;obtain ⟨m,rfl,hmA,HI,hbe⟩:=hrel;obtain ⟨wm,rfl⟩:∃v,v=wr:=⟨_,rfl⟩;have hm0:=Int.natCast_nonneg m;have hAt:=Hh.out.below (Hb2.out.trans (hbe.mono hz2));obtain ⟨g0,g1,g2,g3, -, -⟩:=hAt;have hzm:=hbe.size;have HBe:=Lib.hid hbe;clear hbe;go_wp2_with fail;clear g0 g1 g2 g3;refine (l01Atoms_i ht0 ht3).mono ?_;rintro f w5 ⟨rfl,hb5⟩;rw [HA.out];have hbe5:=HBe.out.trans (hb5.mono hzm);have HBe5:=Lib.hid hbe5;have hz5:=hb5.size;have HAt:=Lib.hid (Hh.out.below (Hb2.out.trans (hbe5.mono hz2)));have HAt':=Lib.hid (Hh'.out.below (Hb2.out.trans (hbe5.mono hz2)));have r1:=Hr1.out.below hbe5;have r2:=Hr2.out.below hbe5;obtain ⟨b2,o2,rfl⟩:=nest_some (f:=D.int) r1 (by simp; omega);obtain ⟨b3,o3,rfl⟩:=nest_some (f:=D.int) r2 (by simp; omega);obtain ⟨-, x0⟩:=int_in r1 (part_at (f:=Prod.fst) Hx.out);obtain ⟨-, x1⟩:=int_in r2 (part_at (f:=Prod.snd) Hx.out);clear hb5 hbe5 HBe r1 r2
   by_cases hmlt:m<A
   rotate_left
   ·
    obtain rfl:A=m:=by omega
    have HW2:=Lib.hid (HW.out.succ Hx.out (inAt_yes HI.out));go_wp2_with fail
    go_roundw
    case rel=>exact ⟨i+1,by go_num,by omega,HW2.out,HBe5.out⟩
    case measure=>simp [intOf]; omega
   have hm1:(m:Int)<(A:Int):=by omega
   have hmat:(m:Int)<atomsN t:=by rw [HA.out]; exact hm1
   go_wp2_with fail;refine (l02Has_i HAt.out Hok.out hxok.2.1 hmat).mono ?_;rintro e w6 ⟨rfl,rfl⟩
   cases h1:hasN ac x.1 m
   ·
    have HI2:=Lib.hid (HI.out.succ (by rw [h1]; rfl));clear h1;go_wp2_with fail
    go_roundw
    case rel=>exact ⟨m+1,by go_num,by omega,HI2.out,HBe5.out⟩
    case measure=>simp [intOf]; omega
   ·
    have H1:=Lib.hid h1;clear h1;go_wp2_with fail;refine (l02Has_i HAt'.out Hok'.out hxok.2.2.2 hmat).mono ?_;rintro e w7 ⟨rfl,rfl⟩
    cases h2:hasN bc x.2 m
    ·
     have HR:Hid (F.all (inAtB ac bc A)=false):=all_no (List.mem_of_getElem? Hx.out) (inAt_no hmlt H1.out h2);clear h2;go_wp2_with fail;go_ret;exact ⟨ret_bool HR.out.symm,Hb2.out.trans (HBe5.out.mono hz2)⟩
    ·
     have HI2:=Lib.hid (HI.out.succ (by rw [H1.out,h2]; rfl));clear h2;go_wp2_with fail
     go_roundw
     case rel=>exact ⟨m+1,by go_num,by omega,HI2.out,HBe5.out⟩
     case measure=>simp [intOf]; omega
noncomputable def atB (t a:Int) (e f:Ex):Bool:=withinB (auA t a e) (auA t a f) (auX t a e) (auX t a f) (atomsN t).toNat a.toNat
noncomputable def atR (t a:Int) (e f:Ex):Bool:=if bothC t a e f=0 then atB t a e f else false
set_option maxHeartbeats 8000000 in
theorem specAtMost_i {t a k n k' n':Int} {ks ks':List Ex} {s s':Option Addr} {c c':Nat} {w:World} (hr:Rd w (kidsD ks) (.slice s ks.length c)) (hr':Rd w (kidsD ks') (.slice s' ks'.length c')) (h1:Ex.sizeL ks≤1048576) (h2:Ex.sizeL ks'≤1048576):
  Calls Tryz.prog 62 #[.agg #[.int .i64 t, .int .i64 a], .agg #[.int .i64 k, .int .i64 n, .slice s ks.length c], .agg #[.int .i64 k', .int .i64 n', .slice s' ks'.length c']] w fun e w'=>e= .returned (.tuple #[.bool (atR t a (.mk k n ks) (.mk k' n' ks')), .int .i64 (bothC t a (.mk k n ks) (.mk k' n' ks'))])∧Below w.heap.size w w':=by
 have Hsz:Hid (Ex.size (.mk k n ks)≤1073741824):=by show _≤_; rw [Ex.size_eq]; simp only [Ex.kids]; omega
 have Hsz':Hid (Ex.size (.mk k' n' ks')≤1073741824):=by show _≤_; rw [Ex.size_eq]; simp only [Ex.kids]; omega
 obtain ⟨e,he⟩:∃e,Ex.mk k n ks=e:=⟨_,rfl⟩;obtain ⟨f,hf⟩:∃f,Ex.mk k' n' ks'=f:=⟨_,rfl⟩;rw [he] at Hsz ⊢;rw [hf] at Hsz' ⊢;have He:=Lib.hid he;have Hf:=Lib.hid hf;clear he hf h1 h2
 cases hcb:(bothC t a e f !=0)
 rotate_left
 ·
  have HE:Hid (atR t a e f=false):=by show _=_; unfold atR; rw [if_neg (by simpa using hcb)]
  go_enter Tryz.func62,Tryz.ntmps62
  go_wp2_with fail;obtain ⟨w1,e1,G,hb1,hz1⟩:=box2 w 37 (.int .i64 t) (.int .i64 a);rw [e1];obtain ⟨w2,e2,X,hb2,hz2⟩:=box3 w1 34 (.int .i64 k) (.int .i64 n) (.slice s ks.length c);rw [e2];obtain ⟨w0,e0,Y,hb3,hz3⟩:=box3 w2 34 (.int .i64 k') (.int .i64 n') (.slice s' ks'.length c');rw [e0];have hB:Below w.heap.size w w0:=(hb1.trans (hb2.mono (by omega))).trans (hb3.mono (by omega));rw [hz1] at X;rw [show w2.heap.size=w.heap.size+1+1 by omega] at Y;replace X:=X.below hb3;replace G:=(G.below hb2).below hb3;clear e1 e2 e0 hb1 hb2 hb3 hz1 hz2 hz3
  have hxa:ExAt w0 (w.heap.size+1) 0 e:=by rw [←He.out]; exact X.exAt (hr.below hB)
  have hya:ExAt w0 (w.heap.size+1+1) 0 f:=by rw [←Hf.out]; exact Y.exAt (hr'.below hB)
  clear X Y G;refine (l03Both_i hxa hya Hsz.out Hsz'.out).mono ?_;rintro g w3 ⟨v1,v2,rfl,⟨t1,a1,s1,u1,l1,c1,m1,d1,rfl⟩,⟨t2,a2,s2,u2,l2,c2,m2,d2,rfl⟩,hb, -⟩;replace hB:=Below.on hB hb hB.size;have hzB:=hB.size;clear hb hxa hya;go_wp2_with fail;go_ret2;exact ⟨ret_bi HE.out.symm rfl,by (repeat' first|exact Below.refl _ _|assumption|apply Below.alloc|apply Below.drew|apply Below.setCell|omega|(simp; done)|(simp; omega))⟩
 ·
  skip
  have hc:bothC t a e f=0:=by simpa using hcb
  obtain ⟨hce,hcf⟩:=both_ok hc;obtain ⟨-, -, -, hoke⟩:=au_ok hce;obtain ⟨-, -, -, hokf⟩:=au_ok hcf;have Hoke:=Lib.hid hoke;have Hokf:=Lib.hid hokf;have Hc:=Lib.hid hc;clear hcb hc hce hcf hoke hokf
  have HE:Hid (atR t a e f=atB t a e f):=by show _=_; unfold atR; rw [if_pos Hc.out]
  go_enter Tryz.func62,Tryz.ntmps62
  go_wp2_with fail;obtain ⟨w1,e1,G,hb1,hz1⟩:=box2 w 37 (.int .i64 t) (.int .i64 a);rw [e1];obtain ⟨w2,e2,X,hb2,hz2⟩:=box3 w1 34 (.int .i64 k) (.int .i64 n) (.slice s ks.length c);rw [e2];obtain ⟨w0,e0,Y,hb3,hz3⟩:=box3 w2 34 (.int .i64 k') (.int .i64 n') (.slice s' ks'.length c');rw [e0];have hB:Below w.heap.size w w0:=(hb1.trans (hb2.mono (by omega))).trans (hb3.mono (by omega));rw [hz1] at X;rw [show w2.heap.size=w.heap.size+1+1 by omega] at Y;replace X:=X.below hb3;replace G:=(G.below hb2).below hb3;clear e1 e2 e0 hb1 hb2 hb3 hz1 hz2 hz3
  have hxa:ExAt w0 (w.heap.size+1) 0 e:=by rw [←He.out]; exact X.exAt (hr.below hB)
  have hya:ExAt w0 (w.heap.size+1+1) 0 f:=by rw [←Hf.out]; exact Y.exAt (hr'.below hB)
  clear X Y G;refine (l03Both_i hxa hya Hsz.out Hsz'.out).mono ?_;rintro g w3 ⟨v1,v2,rfl, -, -, hb,hgot⟩;obtain ⟨s1,c1,u1,d1,s2,c2,u2,d2,rfl,rfl,hd1,hd2⟩:=hgot Hc.out;rw [Hc.out];replace hB:=Below.on hB hb hB.size;clear hb hxa hya hgot;go_wp2_with fail;obtain ⟨w4,e4,A1,hb4,hz4⟩:=box4 w3 107 (.int .i64 t) (.int .i64 a) (.slice s1 (auA t a e).length c1) (.slice u1 (auX t a e).length d1);rw [e4];obtain ⟨w5,e5,A2,hb5,hz5⟩:=box4 w4 107 (.int .i64 t) (.int .i64 a) (.slice s2 (auA t a f).length c2) (.slice u2 (auX t a f).length d2);rw [e5];replace hB:=(hB.trans (hb4.mono hB.size)).trans (hb5.mono (by have:=hB.size; omega));rw [hz4] at A2;have HA1:=Lib.hid (autAt_box (A1.below hb5) ((hd1.below hb4).below hb5));have HA2:=Lib.hid (autAt_box A2 ((hd2.below hb4).below hb5));clear e4 e5 hb4 hb5 hd1 hd2 A1 A2 hz5;refine (l03Within_i HA1.out HA2.out Hoke.out Hokf.out).mono ?_;rintro g w6 ⟨rfl,hb6⟩;have hB6:=hB.trans (hb6.mono hB.size);have HE2:Hid (withinB (auA t a e) (auA t a f) (auX t a e) (auX t a f) (atomsN t).toNat a.toNat=atR t a e f):=HE.out.symm;rw [HE2.out];clear hb6;go_wp2_with fail;go_ret2;exact ⟨ret_bi rfl Hc.out.symm,hB6⟩
theorem box5 (w:World) (t:TypeId) (a b c d e:Value):∃w',w.alloc (.cells #[a,b,c,d,e] t)=w'∧Blk w' w.heap.size t [a,b,c,d,e]∧Below w.heap.size w w'∧w'.heap.size=w.heap.size+1:=
 ⟨_,rfl,Blk.made w t _,Below.alloc (Below.refl _ _) (Nat.le_refl _) _,by simp⟩
end Go.Proofs.YtfopdcdbelaapaaGreatDoor
namespace Go.Proofs.YtfopdcdbelaapaaGreatDoor
set_option linter.unusedVariables false
set_option linter.unusedSimpArgs false
open Go.ChangeShapes Go.WideShapes Go.ChangeAt Go.RowKit Go.Deep Go.Sort
theorem rows_bytes:∀rows:List (List D),(∀r∈rows,∃n:Int,r=[D.raw (.int .u8 n)]∧0≤n∧n≤255)→∃zs:List Int,rows.length=zs.length∧rows.flatten=zs.map (fun x=>D.raw (.int .u8 x))∧∀x∈zs,0≤x∧x≤255
 |[],_=>⟨[],rfl,rfl,by simp⟩
 |r::rows,h=>by
  obtain ⟨n,rfl,hn⟩:=h r (List.mem_cons_self ..);obtain ⟨zs,h1,h2,h3⟩:=rows_bytes rows fun r hr=>h r (List.mem_cons_of_mem _ hr);refine ⟨n::zs,by simp [h1],by simp [h2],fun x hx=> ?_⟩
  rcases List.mem_cons.1 hx with rfl|hx
  ·
   exact hn
  ·
   exact h3 x hx
section
variable {H:Type} {enc:TypeId × Value→H} {P:Program} {w:World} {base:Nat} {sp:Nat→Bool} {hd:Bool}
theorem open_bytes {ti ts:TypeId} (hs:P.underlying ts=some (.slice ti)) (hi:P.underlying ti=some (.int .u8)) (ci:P.cellsOf ti=1) {fuel:Nat} {cs:List Value} {x:DataW H × List MemPlace}
  (h:DataW.trod enc P w base sp hd fuel ts cs=some x):∃v,∃zs:List Int,cs=[v]∧Rd w (bytesD zs) v∧∀x∈zs,0≤x∧x≤255:=by
 obtain ⟨v,rows,e,hrows,hr⟩:=open_sl (size:=1) (Q:=fun r=>∃n:Int,r=[D.raw (.int .u8 n)]∧0≤n∧n≤255) hs ci (by omega) (fun m _ cs x hx=>by
  obtain ⟨n,rfl,_,hw⟩:=DataW.trod_int hi hx
  have hn:0≤n∧n≤255:=by simp [Lit.wf,IntKind.min,IntKind.max,IntKind.bits,IntKind.signed] at hw; omega
  exact ⟨_,⟨n,rfl,hn⟩,rfl,by simp [Rds,Rd,Value.oneCell']⟩) h
 obtain ⟨zs,h1,h2,h3⟩:=rows_bytes rows hrows;rw [h1,h2] at hr;exact ⟨v,zs,e,hr,h3⟩
end
theorem a2Long_i {s s':Option Addr} {n m c c':Nat} {w:World} (h1:n≤c) (h2:c≤maxLen) (h3:m≤c') (h4:c'≤maxLen):
  Calls Tryz.prog 44 #[.slice s n c, .slice s' m c'] w fun f w'=>f= .returned (.bool (decide (3000<n)||decide (3000<m)))∧w=w':=by
 unfold maxLen at h2 h4
 by_cases hn:(3000:Int)<(n:Int)
 ·
  have q:decide (3000<n)=true:=by simp; omega
  go_enter Tryz.func44,Tryz.ntmps44
  go_wp2_with fail;go_ret;exact ⟨ret_bool (by first|rfl|(rw [q]; rfl)),rfl⟩
 ·
  have q:decide (3000<n)=false:=by simp; omega
  by_cases hm:(3000:Int)<(m:Int)
  ·
   have q2:decide (3000<m)=true:=by simp; omega
   go_enter Tryz.func44,Tryz.ntmps44
   go_wp2_with fail;go_ret;exact ⟨ret_bool (by first|rfl|(rw [q,q2]; rfl)),rfl⟩
  ·
   have q2:decide (3000<m)=false:=by simp; omega
   go_enter Tryz.func44,Tryz.ntmps44
   go_wp2_with fail;go_ret;exact ⟨ret_bool (by first|rfl|(rw [q,q2]; rfl)),rfl⟩
end Go.Proofs.YtfopdcdbelaapaaGreatDoor
