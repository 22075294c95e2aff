/-
  Parts of a proof, joined: RepI. No condition.
-/
import Derived.Test.YtlchgfbkdjjngaaGreatDoorPk26
set_option linter.unusedVariables false
set_option linter.unusedSimpArgs false
namespace Go.Proofs.YtlchgfbkdjjngaaGreatDoor
open Go.ChangeShapes Go.WideShapes Go.ChangeAt Go.RowKit Go.Deep Go.Sort
theorem M8 {P:Program} {F:FuncId} {args:Array Value} {w:World} {e p:Ex} (h:Calls P F args w fun f w'=>∃s' c',f= .returned (.agg #[.int .i64 e.kind,.int .i64 e.num,.slice s' e.kids.length c'])∧Ag w w' [Ae e.kids] [.slice s' e.kids.length c']∧Below w.heap.size w w') (he:e=p):
  Calls P F args w fun f w'=>∃s' c',f= .returned (.agg #[.int .i64 p.kind,.int .i64 p.num,.slice s' p.kids.length c'])∧Ag w w' [Ae p.kids] [.slice s' p.kids.length c']∧Below w.heap.size w w':=he ▸ h
theorem Te {w:World}:∀{cs:List D} {xs:List Value},Rds w cs xs→∀u∈xs,u.oneCell'=true
 |[],xs,h=>by simp only [Rds] at h; subst h; simp
 |c::cs,xs,h=>by
  simp only [Rds] at h;obtain ⟨x,r,rfl,h1,h2⟩:=h;intro u hu
  rcases List.mem_cons.1 hu with rfl|hu
  ·cases c with
   |int n=>simp only [Rd] at h1; subst h1; rfl
   |bool b=>simp only [Rd] at h1; subst h1; rfl
   |str b=>simp only [Rd] at h1; obtain ⟨rfl, -⟩:=h1; rfl
   |raw b=>simp only [Rd] at h1; obtain ⟨rfl,h⟩:=h1; exact h
   |sl size n cs=>simp only [Rd] at h1; obtain ⟨a,cap,rfl, -⟩:=h1; rfl
  exact Te h2 u hu
theorem Tt {w:World} {g T cap:Nat} {bs:List Ex} {xs rest:List Value} (h:Blk w g T (xs++rest)) (hr:Rds w (Ex.cellsL bs) xs) (h1:bs.length≤cap) (h2:cap≤maxLen):Rd w (Ae bs) (.slice (some ⟨g,0,none⟩) bs.length cap):=by
 unfold Ae;simp only [Rd];refine ⟨_,_,rfl,h1,h2,Ex.cellsL_length bs,by simp,Or.inr ⟨g,0,xs,rfl,fun i hi=> ?_,hr⟩⟩;rw [Nat.zero_add,h.cell,List.getElem?_append_left hi]
theorem Kw {P:Program} (w:World) {ops:Array Oper} {rest:List Oper} {o:Oper} {a:Act} {Q:Exit→Act→World→Prop} (hgd:o.guard=none) (s x:Operand) (t:TypeId)
  (ho:o.op= .call { callee:= .builtin .append,args:= #[s,x],argTypes:= #[t,t] })
  (e:TypeId) (ht:P.underlying t=some (.slice e)) (i:TypeInfo) (hi:P.info? e=some i) {g c:Nat} {sa:Option Addr} (hs:a.eval s= .slice (some ⟨g,0,none⟩) 0 0) (hx:a.eval x= .slice sa 0 c)
  (h:wpList P ops Q rest (a.put o.dst (.slice (some ⟨g,0,none⟩) 0 0)) w):wpList P ops Q (o::rest) a w:=by
 have hrun:(Builtin.append_ #[t,t] o.type #[.slice (some ⟨g,0,none⟩) 0 0,.slice sa 0 c]).run P w= .ok (.slice (some ⟨g,0,none⟩) 0 0) w:=by
  cases sa with
  |none=>simp [Builtin.append_,run_underlying ht,sizeOf,typeInfo,hi,Builtin.lenOf,Builtin.firstCells,storeCells]
  |some p=>simp [Builtin.append_,run_underlying ht,sizeOf,typeInfo,hi,Builtin.lenOf,Builtin.firstCells,storeCells,loadCells,loadCellsFrom]
 refine wpList_plain hgd fun K hK=> ?_;unfold Oper.wp execOp;simp only [ho,resolve,invoke,builtin,Sem.run_bind,Sem.run_pure,Result.andThen_ok,List.map_toArray,List.map_cons,List.map_nil,hs,hx,hrun];exact hK _ _ h
set_option maxRecDepth 100000 in
set_option maxHeartbeats 8000000 in
theorem Jw {t a k n:Int} {ks bs:List Ex} {s s2:Option Addr} {c c2:Nat} {w:World} (hr:Rd w (Ae ks) (.slice s ks.length c)) (hy:Rd w (Ae bs) (.slice s2 bs.length c2)) (h1:Ex.sizeL ks≤1048576) (h2:Ex.sizeL bs≤1048576):
  Calls Tryz.prog 8 #[.agg #[.int .i64 t,.int .i64 a],.agg #[.int .i64 k,.int .i64 n,.slice s ks.length c],.slice s2 bs.length c2] w fun f w'=>∃s' c',f= .returned (.tuple #[.agg #[.int .i64 (Bv t a (.mk k n ks) bs).kind,.int .i64 (Bv t a (.mk k n ks) bs).num,.slice s' (Bv t a (.mk k n ks) bs).kids.length c'],.int .i64 (Ck t a (.mk k n ks) bs)])∧
   Ag w w' [Ae (Bv t a (.mk k n ks) bs).kids] [.slice s' (Bv t a (.mk k n ks) bs).kids.length c']∧Below w.heap.size w w':=by
 obtain ⟨-, hlen,hcap, -, -⟩:=A0 hy;unfold maxLen at hcap;have hbl:=Ex.length_le_sizeL bs
 go_enter Tryz.func8,Tryz.ntmps8
 go_wp2_with fail;have L:=((Blk.new2 w 25 (.int .i64 t) (.int .i64 a)).alloc (.cells #[.int .i64 k,.int .i64 n,.slice s ks.length c] 28)).alloc (.cells #[.int .i64 0,.int .i64 0,.slice none 0 0] 28);have M:=(Blk.new3 (w.alloc (.cells #[.int .i64 t,.int .i64 a] 25)) 28 (.int .i64 k) (.int .i64 n) (.slice s ks.length c)).alloc (.cells #[.int .i64 0,.int .i64 0,.slice none 0 0] 28);have R:=Blk.new3 ((w.alloc (.cells #[.int .i64 t,.int .i64 a] 25)).alloc (.cells #[.int .i64 k,.int .i64 n,.slice s ks.length c] 28)) 28 (.int .i64 0) (.int .i64 0) (.slice none 0 0);have hB0:Below w.heap.size w (((w.alloc (.cells #[.int .i64 t,.int .i64 a] 25)).alloc (.cells #[.int .i64 k,.int .i64 n,.slice s ks.length c] 28)).alloc (.cells #[.int .i64 0,.int .i64 0,.slice none 0 0] 28)):=bel
 have hz0:(((w.alloc (.cells #[.int .i64 t,.int .i64 a] 25)).alloc (.cells #[.int .i64 k,.int .i64 n,.slice s ks.length c] 28)).alloc (.cells #[.int .i64 0,.int .i64 0,.slice none 0 0] 28)).heap.size=w.heap.size+3:=by simp
 simp at M R;generalize ((w.alloc (.cells #[.int .i64 t,.int .i64 a] 25)).alloc (.cells #[.int .i64 k,.int .i64 n,.slice s ks.length c] 28)).alloc (.cells #[.int .i64 0,.int .i64 0,.slice none 0 0] 28)=w1 at L M R hB0 hz0 ⊢;refine (Nc (hr.below hB0)).mono ?_;rintro f w2 ⟨rfl,hb⟩;have hB:=Below.on hB0 hb hB0.size;replace L:=L.below hb;replace M:=M.below hb;replace R:=R.below hb;clear hb hB0
 cases he:okB t a (.mk k n ks)
 ·have E1:Hid (Bv t a (.mk k n ks) bs=Ex.zerP):=by show _=_; simp [Bv,Dk,he]
  have E2:Hid (Ck t a (.mk k n ks) bs=1):=by show _=_; simp [Ck,Dk,he]
  -- the answer is the zero expression and a code; the world is V
  obtain ⟨r0,r1,r2,z0,z1,z2,ltR⟩:=R.all3;obtain ⟨w5,e5,T2,hs5⟩:=zZ3 R (.int .i64 0) (.int .i64 0) (.slice none 0 0);go_wp2_with fail;clear e5;have t0:=T2.c0;have t1:=T2.c1;have t2:=T2.c2;have hB5:=hB.trans (hs5.below (B:=w.heap.size) (by omega) (fun y hy=>by omega));refine bodyPost_ret (v:= .tuple #[.agg #[.int .i64 0,.int .i64 0,.slice none 0 0],.int .i64 1]) (by simp [results,Tryz.results8,go_sem,t0,t1,t2]) rfl ?_;rw [E1.out,E2.out];exact ⟨none,0,rfl,Cp,hB5⟩
 have He:=hid he;clear he;have l0:=L.c0;have l1:=L.c1;go_wp2_with fail;clear l0 l1;refine (Px (tm:=t - 1) (am:=a - 1) (by have:=Db (F6 He.out); exact Ew (by omega) (by omega)) (by have:=Db (F6 He.out); exact Ew (by omega) (by omega)) (hy.below hB)).mono ?_;rintro f w3 ⟨rfl,hb⟩
 have e3:(bs.all (fun e=>shF (t - 1) (a - 1) e 200 40)&&Cj t a)=bs.all (okB t a):=by
  rw [F6 He.out,Bool.and_true]
  congr 1
  funext e
  exact Qx (F6 He.out)
 rw [e3];replace hB:=Below.on hB hb hB.size;replace L:=L.below hb;replace M:=M.below hb;replace R:=R.below hb;clear hb e3
 cases hall:bs.all (okB t a)
 ·have E1:Hid (Bv t a (.mk k n ks) bs=Ex.zerP):=by show _=_; simp [Bv,Dk,hall]
  have E2:Hid (Ck t a (.mk k n ks) bs=1):=by show _=_; simp [Ck,Dk,hall]
  -- the answer is the zero expression and a code; the world is V
  obtain ⟨r0,r1,r2,z0,z1,z2,ltR⟩:=R.all3;obtain ⟨w5,e5,T2,hs5⟩:=zZ3 R (.int .i64 0) (.int .i64 0) (.slice none 0 0);go_wp2_with fail;clear e5;have t0:=T2.c0;have t1:=T2.c1;have t2:=T2.c2;have hB5:=hB.trans (hs5.below (B:=w.heap.size) (by omega) (fun y hy=>by omega));refine bodyPost_ret (v:= .tuple #[.agg #[.int .i64 0,.int .i64 0,.slice none 0 0],.int .i64 1]) (by simp [results,Tryz.results8,go_sem,t0,t1,t2]) rfl ?_;rw [E1.out,E2.out];exact ⟨none,0,rfl,Cp,hB5⟩
 have Hall:=hid hall;clear hall;have l1:=L.c1
 by_cases hla:(bs.length:Int)=a
 rotate_left
 ·have d2:((bs.length:Int) !=a)=true:=by simp [hla]
  have E1:Hid (Bv t a (.mk k n ks) bs=Ex.zerP):=by show _=_; simp [Bv,hla]
  have E2:Hid (Ck t a (.mk k n ks) bs=2):=by show _=_; simp [Ck,Dk,hla,Hall.out,He.out]
  clear hla
  -- the answer is the zero expression and a code; the world is V
  obtain ⟨r0,r1,r2,z0,z1,z2,ltR⟩:=R.all3;obtain ⟨w5,e5,T2,hs5⟩:=zZ3 R (.int .i64 0) (.int .i64 0) (.slice none 0 0);go_wp2_with fail;clear e5;have t0:=T2.c0;have t1:=T2.c1;have t2:=T2.c2;have hB5:=hB.trans (hs5.below (B:=w.heap.size) (by omega) (fun y hy=>by omega));refine bodyPost_ret (v:= .tuple #[.agg #[.int .i64 0,.int .i64 0,.slice none 0 0],.int .i64 2]) (by simp [results,Tryz.results8,go_sem,t0,t1,t2]) rfl ?_;rw [E1.out,E2.out];exact ⟨none,0,rfl,Cp,hB5⟩
 have d2:((bs.length:Int) !=a)=false:=by simp [hla]
 have Hla:=hid hla;clear hla;go_wp2_with fail;clear l1;have hszr:=hB.size;have hB':=hB;have ltM:=M.lt;have ltR3:=R.lt
 by_cases hnil:bs=[]
 ·have hn0:bs.length=0:=by simp [hnil]
  have Hn0:=hid hn0
  have hrds:Rds w (Ex.cellsL bs) []:=by rw [hnil]; simp [Ex.cellsL,Rds]
  have hbs2:∀x∈bs,x.size≤1000000:=fun x hx=>by have:=Gq (List.all_eq_true.1 Hall.out x hx); omega
  have hesz:Ex.sizeL ks≤1073741824:=by omega
  obtain ⟨iE,hiE,hzE,hsE,hbE⟩:=info_parts Bb;have Hb2:=hid hbs2;obtain ⟨PE,hPE⟩:∃P,Ex.put bs (.mk k n ks)=P:=⟨_,rfl⟩;clear hbs2 hnil hn0
  refine Aw [(3,1),(6,5)] [] (fun _ _=>False) (w3.heap.size) (fun i iv vs wx=>match i with
   |0=>vs 0= .agg #[.int .i64 k,.int .i64 n,.slice s ks.length c]
   |1=>vs 1= .slice (some ⟨(iv 1).1,0,none⟩) 0 0∧(iv 1).2=(iv 1).1+1∧Blk wx (iv 1).1 28 []
   |2=>vs 2= .slice s2 bs.length c2
   |3=>∃g cap rest,vs 3= .slice (some ⟨g,0,none⟩) (bs.length) cap∧(bs.length)≤cap∧cap≤maxLen∧(foot [(3,1),(6,5)] [] (fun _ _=>False) 7 3 iv) g∧Blk wx g 28 ([]++rest)
   |4=>∃s1 c1,vs 4= .agg #[.int .i64 PE.kind,.int .i64 PE.num,.slice s1 PE.kids.length c1]∧B3 (iv 4) wx [Ae PE.kids] [.slice s1 PE.kids.length c1]
   |5=>vs 5= .pointer (some ⟨(iv 5).1,0,none⟩)∧(iv 5).2=(iv 5).1+1∧Blk wx (iv 5).1 28 [.int .i64 0,.int .i64 0,.slice none 0 0]
   |6=>(iv 5).2=(iv 5).1+1∧Blk wx ((iv 5).1) 28 [Ad (vs 4) 0,Ad (vs 4) 1,Ad (vs 4) 2]
   |_=>True) (fun i iv vs=>match i with
   |0=>vs 0= .agg #[.int .i64 k,.int .i64 n,.slice s ks.length c]
   |1=>vs 1= .slice (some ⟨(iv 1).1,0,none⟩) 0 0∧(iv 1).2=(iv 1).1+1
   |2=>vs 2= .slice s2 bs.length c2
   |3=>∃g cap,vs 3= .slice (some ⟨g,0,none⟩) (bs.length) cap
   |4=>∃s1 c1,vs 4= .agg #[.int .i64 PE.kind,.int .i64 PE.num,.slice s1 PE.kids.length c1]
   |5=>vs 5= .pointer (some ⟨(iv 5).1,0,none⟩)∧(iv 5).2=(iv 5).1+1
   |6=>True
   |_=>True) (by kernel_rfl) (by kernel_rfl) [0,1,2,3,4,5,6] (by kernel_rfl) ?hbase ?hGb ?hG ?hJ ?hE ?hEE ?hstep ?hQ
  case hbase=>first|exact Nat.le_refl _|omega|(simp; omega)
  case hGb=>
   exact fun _ _ h=>h.elim
  case hG=>
   exact fun _ _ _ h=>h.elim
  case hJ=>
   intro i hi iv iv' vs vs' wx wx' ha hv hz hk hj;simp at hi
   rcases hi with rfl|rfl|rfl|rfl|rfl|rfl|rfl
   all_goals try exact (aG hv _).symm.trans hj
   ·have e1:=aG hv 1;have g1:=aG ha 1;obtain ⟨q1,q3,q2⟩:=hj
    show vs' 1= .slice (some ⟨(iv' 1).1,0,none⟩) 0 0∧(iv' 1).2=(iv' 1).1+1∧Blk wx' (iv' 1).1 28 []
    rw [←e1,←g1];exact ⟨q1,q3,q2.keep (hk.out _ q2.lt (Au (Nat.le_refl _) (by omega)))⟩
   ·have e3:=aG hv 3;obtain ⟨g,cap,rest,q1,qa,qb,q2,q3⟩:=hj;exact ⟨g,cap,rest,e3 ▸ q1,qa,qb,At (l:=Am _ 7 3) (by exact of_decide_eq_true (by kernel_rfl)) ha.out q2,q3.keep (hk.out _ q3.lt q2)⟩
   ·have e4:=aG hv 4;have g4:=aG ha 4;obtain ⟨s1,c1,q1,q2⟩:=hj;exact ⟨s1,c1,e4 ▸ q1,g4 ▸ q2.keep (fun b hb h1 h2=>hk.out b hb (Au h1 h2))⟩
   ·have e5:=aG hv 5;have g5:=aG ha 5;obtain ⟨q1,q3,q2⟩:=hj
    show vs' 5= .pointer (some ⟨(iv' 5).1,0,none⟩)∧(iv' 5).2=(iv' 5).1+1∧Blk wx' (iv' 5).1 28 [.int .i64 0,.int .i64 0,.slice none 0 0]
    rw [←e5,←g5];exact ⟨q1,q3,q2.keep (hk.out _ q2.lt (Au (Nat.le_refl _) (by omega)))⟩
   have e4:=aG hv 4;have g5:=aG ha 5;have hj':(iv 5).2=(iv 5).1+1∧Blk wx ((iv 5).1) 28 [Ad (vs 4) 0,Ad (vs 4) 1,Ad (vs 4) 2]:=hj
   show (iv' 5).2=(iv' 5).1+1∧Blk wx' ((iv' 5).1) 28 [Ad (vs' 4) 0,Ad (vs' 4) 1,Ad (vs' 4) 2]
   rw [←e4,←g5];exact ⟨hj'.1,hj'.2.keep (hk.out _ hj'.2.lt ⟨5,Az (by kernel_rfl),Or.inl ⟨Nat.le_refl _,by omega⟩⟩)⟩
  case hE=>
   intro i hi iv vs wx hj;simp at hi
   rcases hi with rfl|rfl|rfl|rfl|rfl|rfl|rfl
   all_goals try exact hj
   ·exact ⟨hj.1,hj.2.1⟩
   ·obtain ⟨g,cap,rest,q1, -⟩:=hj;exact ⟨g,cap,q1⟩
   ·obtain ⟨s1,c1,q1, -⟩:=hj;exact ⟨s1,c1,q1⟩
   ·exact ⟨hj.1,hj.2.1⟩
   trivial
  case hEE=>
   intro i hi iv iv' vs vs' ha hv hj;simp at hi
   rcases hi with rfl|rfl|rfl|rfl|rfl|rfl|rfl
   all_goals try exact (aG hv _).symm.trans hj
   ·have e1:=aG hv 1;have g1:=aG ha 1;have hj':vs 1= .slice (some ⟨(iv 1).1,0,none⟩) 0 0∧(iv 1).2=(iv 1).1+1:=hj
    show vs' 1= .slice (some ⟨(iv' 1).1,0,none⟩) 0 0∧(iv' 1).2=(iv' 1).1+1
    rw [←e1,←g1];exact hj'
   ·have e3:=aG hv 3;have hj':∃g cap,vs 3= .slice (some ⟨g,0,none⟩) (bs.length) cap:=hj
    show ∃g cap,vs' 3= .slice (some ⟨g,0,none⟩) (bs.length) cap
    rw [←e3];exact hj'
   ·have e4:=aG hv 4;have hj':∃s1 c1,vs 4= .agg #[.int .i64 PE.kind,.int .i64 PE.num,.slice s1 PE.kids.length c1]:=hj
    show ∃s1 c1,vs' 4= .agg #[.int .i64 PE.kind,.int .i64 PE.num,.slice s1 PE.kids.length c1]
    rw [←e4];exact hj'
   ·have e5:=aG hv 5;have g5:=aG ha 5;have hj':vs 5= .pointer (some ⟨(iv 5).1,0,none⟩)∧(iv 5).2=(iv 5).1+1:=hj
    show vs' 5= .pointer (some ⟨(iv' 5).1,0,none⟩)∧(iv' 5).2=(iv' 5).1+1
    rw [←e5,←g5];exact hj'
   trivial
  case hstep=>
   intro i hi opr ho iv vs w1 hB hS hSo hd he hbd hsep hun K hK;simp at hi;have hzB:=hB.size;have M1:=M.below hB;have m0:=M1.c0;have m1:=M1.c1;have m2:=M1.c2;generalize hA:Af _ 0 vs _=A at hK ⊢;simp only [Af,Ac] at hA
   rcases hi with rfl|rfl|rfl|rfl|rfl|rfl|rfl
   all_goals
    simp at ho;subst ho;subst hA
   ·go_wp2_with fail;exact Ab.mk (hK _ _ _ nn (by first|rfl|(simp only [Ac])) (Aa.refl _) (fun iv' _ _=>rfl))
   ·go_wp2_with fail
    exact Ab.mk (hK (.slice (some ⟨w1.heap.size,0,none⟩) 0 0) _ _ nn (by first|rfl|(simp only [Ac])) (Aa.of_below (Below.alloc (Below.refl _ _) (Nat.le_refl _) _)) (fun iv' _ hi=>by
     show Value.slice (some ⟨w1.heap.size,0,none⟩) 0 0= .slice (some ⟨(iv' 1).1,0,none⟩) 0 0∧(iv' 1).2=(iv' 1).1+1∧Blk _ (iv' 1).1 28 []
     rw [hi]
     exact ⟨rfl,by simp,Blk.made _ _ _⟩))
   ·go_wp2_with fail;exact Ab.mk (hK _ _ _ nn (by first|rfl|(simp only [Ac])) (Aa.refl _) (fun iv' _ _=>rfl))
   ·obtain ⟨h1,q1,f1⟩:=dN hd 1;have h2:vs 2=_:=dN hd 2;obtain ⟨h1x,q1x,f1x⟩:=dN hd 1;have h2x:vs 2=_:=dN hd 2;simp only [h1x,h2x];refine Kw w1 (by rfl) _ _ 26 (by rfl) 28 Tryz.underlying26 iE hiE (by rfl) (by show _=Value.slice s2 0 c2; rw [←Hn0.out]; rfl) ?_;go_wp2_with fail;have f1y:Blk w1 (iv 1).1 28 []:=f1x;exact Ab.mk (hK (.slice (some ⟨(iv 1).1,0,none⟩) 0 0) _ _ nn (by simp only [Act.put,List.setIfInBounds_toArray,List.set_cons_succ,List.set_cons_zero,h1x,h2x]) (Aa.refl w1) (fun iv' ag hi=>⟨_,0,[],by rw [Hn0.out]; rfl,by rw [Hn0.out]; exact Nat.le_refl _,Nat.zero_le _,Ib (j:=1) (by kernel_rfl) ag (Nat.le_refl _) (by omega),f1y⟩))
   ·have h0:vs 0=_:=dN hd 0;obtain ⟨g3,cap3,rest3,h3,ca3,cb3,t3,f3⟩:=dN hd 3;go_wp2_with fail;refine (M8 (Mw bs _ _ (t - 1) (a - 1) (by have:=Hla.out; omega) Hb2.out _ k n ks s c w1 (Nat.le_refl _) (hr.below (hB'.trans (hB.mono (by omega)))) hesz (Tt f3 (hrds.below (hB'.trans (hB.mono (by omega)))) ca3 cb3) (Gt He.out)) hPE).mono ?_;rintro e w2 ⟨s1,c1,rfl,hf,hb⟩;go_wp2_with fail;exact Ab.mk (hK (.agg #[.int .i64 PE.kind,.int .i64 PE.num,.slice s1 PE.kids.length c1]) _ _ nn (by first|rfl|(simp only [Ac,h0,h3])) (Aa.of_below hb) (fun iv' _ hi=>⟨s1,c1,rfl,by rw [hi]; exact Ag.stretch (hf)⟩))
   ·go_wp2_with fail
    exact Ab.mk (hK (.pointer (some ⟨w1.heap.size,0,none⟩)) _ _ nn (by first|rfl|(simp only [Ac])) (Aa.of_below (Below.alloc (Below.refl _ _) (Nat.le_refl _) _)) (fun iv' _ hi=>by
     show Value.pointer (some ⟨w1.heap.size,0,none⟩)= .pointer (some ⟨(iv' 5).1,0,none⟩)∧(iv' 5).2=(iv' 5).1+1∧Blk _ (iv' 5).1 28 [.int .i64 0,.int .i64 0,.slice none 0 0]
     rw [hi]
     exact ⟨rfl,by simp,Blk.new3 _ _ _ _ _⟩))
   obtain ⟨s1,c1,h4,f4⟩:=dN hd 4;obtain ⟨h5,q5,f5⟩:=dN hd 5;have bc0:=f5.c0;have bz0:=f5.frozen 0;have bc1:=f5.c1;have bz1:=f5.frozen 1;have bc2:=f5.c2;have bz2:=f5.frozen 2;have blt:=f5.lt;go_wp2_with fail
   exact Ab.mk (hK undef _ _ (fun _=>rfl) (by simp only [Ac,h4,h5]) ((Ar (b0:=(iv 5).1) (by repeat (first|exact Aa.refl _|apply Aa.set))).more (fun b h=>Or.inr ⟨5,by decide,Au (by omega) (by omega)⟩)) (fun iv' ag hi=>by
    show (iv' 5).2=(iv' 5).1+1∧Blk _ ((iv' 5).1) 28 [Ad (vs 4) 0,Ad (vs 4) 1,Ad (vs 4) 2]
    rw [←ag.out 5 (Az (by kernel_rfl)),h4]
    exact ⟨q5,(((f5.set 0 _).set 1 _).set 2 _)⟩))
  case hQ=>
   intro iv vs wx hB hSp hd he hbd hsep;have hzB:=hB.size;have h0:vs 0=_:=dE hd 0;obtain ⟨h1,q1⟩:=dM he 1;have h2:vs 2=_:=dE hd 2;obtain ⟨g3,cap3,rest3,h3,ca3,cb3,t3,f3⟩:=dE hd 3;obtain ⟨s1,c1,h4,f4⟩:=dE hd 4;obtain ⟨h5,q5⟩:=dM he 5;obtain ⟨q6,f6⟩:=dE hd 6;simp only [Af,Ac];obtain ⟨ob,hob⟩:∃ob,(iv 5).1=ob:=⟨_,rfl⟩;have b5:=(dM hbd 5).1;rw [hob] at h5 f6 b5;rw [h4] at f6;simp only [Ad] at f6;have b4:=(dM hbd 4).1;have hf4:=f4.freshs (W:=w3) (by omega);have L5:=L.below hB;have R5:=R.below hB;have hB5:=hB'.trans (hB.mono (by omega));simp only [h5];simp only [Nat.zero_add,Nat.reduceAdd];clear hd he hbd hsep h0 h1 h2 h3 h4 h5 f4 hSp hB hob;have y0:=f6.c0;have y1:=f6.c1;have y2:=f6.c2;have l0:=L5.c0;have l1:=L5.c1;have ltY:=f6.lt;go_wp2_with fail;clear y0 y1 y2 l0 l1;refine (Mg (F6 He.out) hf4.rds.one).mono ?_;rintro f w7 ⟨rfl,hb⟩
   have e9:okB t a (Ex.mk PE.kind PE.num PE.kids)=okB t a PE:=by rw [←Ex.eta]
   rw [e9];have sz7:=hb.size;have szx:=hB5.size;have hf7:=hf4.on hb;have R7:=R5.below hb;have Y7:=f6.below hb;have hB7:=hB5.trans (hb.mono (by omega));clear hb hf4 R5 L5 f6 hB5 e9
   cases hq:okB t a PE
   ·have E1:Hid (Bv t a (.mk k n ks) bs=Ex.zerP):=by show _=_; simp [Bv,hPE,hq]
    have E2:Hid (Ck t a (.mk k n ks) bs=3):=by show _=_; simp [Ck,Dk,hPE,hq,Hall.out,He.out,Hla.out]
    have R:=R7;have hB:=hB7;clear R7 hB7
    -- the answer is the zero expression and a code; the world is V
    obtain ⟨r0,r1,r2,z0,z1,z2,ltR⟩:=R.all3;obtain ⟨w5,e5,T2,hs5⟩:=zZ3 R (.int .i64 0) (.int .i64 0) (.slice none 0 0);go_wp2_with fail;clear e5;have t0:=T2.c0;have t1:=T2.c1;have t2:=T2.c2;have hB5:=hB.trans (hs5.below (B:=w.heap.size) (by omega) (fun y hy=>by omega));refine bodyPost_ret (v:= .tuple #[.agg #[.int .i64 0,.int .i64 0,.slice none 0 0],.int .i64 3]) (by simp [results,Tryz.results8,go_sem,t0,t1,t2]) rfl ?_;rw [E1.out,E2.out];exact ⟨none,0,rfl,Cp,hB5⟩
   have E1:Hid (Bv t a (.mk k n ks) bs=PE):=by show _=_; simp [Bv,Dk,hPE,hq,Hall.out,He.out,Hla.out]
   have E2:Hid (Ck t a (.mk k n ks) bs=0):=by show _=_; simp [Ck,Dk,hPE,hq,Hall.out,He.out,Hla.out]
   have y0:=Y7.c0;have y1:=Y7.c1;have y2:=Y7.c2;obtain ⟨r0,r1,r2,z0,z1,z2,ltR⟩:=R7.all3;have ltY7:=Y7.lt;obtain ⟨w8,e5,T2,hs5⟩:=zZ3 R7 (.int .i64 PE.kind) (.int .i64 PE.num) (.slice s1 PE.kids.length c1);go_wp2_with fail;clear e5;have t0:=T2.c0;have t1:=T2.c1;have t2:=T2.c2;have hB8:=hB7.trans (hs5.below (B:=w.heap.size) (by omega) (fun y hy=>by omega));refine bodyPost_ret (v:= .tuple #[.agg #[.int .i64 PE.kind,.int .i64 PE.num,.slice s1 PE.kids.length c1],.int .i64 0]) (by simp [results,Tryz.results8,go_sem,t0,t1,t2]) rfl ?_;rw [E1.out,E2.out];obtain ⟨F,F1,F2,F3⟩:=hf7;exact ⟨s1,c1,rfl,⟨F,F1.keep fun q hq2=>hs5.block q (F1.lt q hq2) (by have:=F3 q hq2; omega),F2,fun q hq2=>by have:=F3 q hq2; omega⟩,hB8⟩
 have hpos:0<bs.length:=List.length_pos_iff.2 hnil;obtain ⟨pb,po,rfl⟩:=An hy hnil;have hyR:=hy;unfold Ae at hyR;simp only [Rd] at hyR;obtain ⟨a0,cap0,e0, -, -, hxl, -, hx0⟩:=hyR
 rcases hx0 with hx0|⟨b0,o0,xs,e1,hrow,hrds⟩
 ·omega
 simp only [Value.slice.injEq,true_and] at e0;obtain ⟨rfl,rfl⟩:=e0;simp only [Option.some.injEq,Addr.mk.injEq,and_true] at e1;obtain ⟨rfl,rfl⟩:=e1
 have hxs:xs.length=bs.length*3:=by rw [Rds.length hrds,Ex.cellsL_length]
 have hrw:∀j u,xs[j]? =some u→w.cell? ⟨pb,po+j,none⟩=some u:=fun j u hj=>by rw [hrow j (List.getElem?_eq_some_iff.1 hj).1,hj]
 have hpbl:pb<w.heap.size:=by
  obtain ⟨u,hu⟩:∃u,xs[0]? =some u:=⟨_,List.getElem?_eq_getElem (by omega)⟩;exact World.block_lt_of_cell? w _ (hrw 0 u hu)
 have hbs2:∀x∈bs,x.size≤1000000:=fun x hx=>by have:=Gq (List.all_eq_true.1 Hall.out x hx); omega
 have hesz:Ex.sizeL ks≤1073741824:=by omega
 obtain ⟨iE,hiE,hzE,hsE,hbE⟩:=info_parts Bb;have Hrw:=hid hrw;have Hb2:=hid hbs2;obtain ⟨PE,hPE⟩:∃P,Ex.put bs (.mk k n ks)=P:=⟨_,rfl⟩;clear hrw hrow hbs2
 refine Aw [(3,1),(6,5)] [] (fun _ _=>False) (w3.heap.size) (fun i iv vs wx=>match i with
  |0=>vs 0= .agg #[.int .i64 k,.int .i64 n,.slice s ks.length c]
  |1=>vs 1= .slice (some ⟨(iv 1).1,0,none⟩) 0 0∧(iv 1).2=(iv 1).1+1∧Blk wx (iv 1).1 28 []
  |2=>vs 2= .slice (some ⟨pb,po,none⟩) bs.length c2
  |3=>∃g cap rest,vs 3= .slice (some ⟨g,0,none⟩) (bs.length) cap∧(bs.length)≤cap∧cap≤maxLen∧(foot [(3,1),(6,5)] [] (fun _ _=>False) 7 3 iv) g∧Blk wx g 28 (xs++rest)
  |4=>∃s1 c1,vs 4= .agg #[.int .i64 PE.kind,.int .i64 PE.num,.slice s1 PE.kids.length c1]∧B3 (iv 4) wx [Ae PE.kids] [.slice s1 PE.kids.length c1]
  |5=>vs 5= .pointer (some ⟨(iv 5).1,0,none⟩)∧(iv 5).2=(iv 5).1+1∧Blk wx (iv 5).1 28 [.int .i64 0,.int .i64 0,.slice none 0 0]
  |6=>(iv 5).2=(iv 5).1+1∧Blk wx ((iv 5).1) 28 [Ad (vs 4) 0,Ad (vs 4) 1,Ad (vs 4) 2]
  |_=>True) (fun i iv vs=>match i with
  |0=>vs 0= .agg #[.int .i64 k,.int .i64 n,.slice s ks.length c]
  |1=>vs 1= .slice (some ⟨(iv 1).1,0,none⟩) 0 0∧(iv 1).2=(iv 1).1+1
  |2=>vs 2= .slice (some ⟨pb,po,none⟩) bs.length c2
  |3=>∃g cap,vs 3= .slice (some ⟨g,0,none⟩) (bs.length) cap
  |4=>∃s1 c1,vs 4= .agg #[.int .i64 PE.kind,.int .i64 PE.num,.slice s1 PE.kids.length c1]
  |5=>vs 5= .pointer (some ⟨(iv 5).1,0,none⟩)∧(iv 5).2=(iv 5).1+1
  |6=>True
  |_=>True) (by kernel_rfl) (by kernel_rfl) [0,1,2,3,4,5,6] (by kernel_rfl) ?hbase ?hGb ?hG ?hJ ?hE ?hEE ?hstep ?hQ
 case hbase=>first|exact Nat.le_refl _|omega|(simp; omega)
 case hGb=>
  exact fun _ _ h=>h.elim
 case hG=>
  exact fun _ _ _ h=>h.elim
 case hJ=>
  intro i hi iv iv' vs vs' wx wx' ha hv hz hk hj;simp at hi
  rcases hi with rfl|rfl|rfl|rfl|rfl|rfl|rfl
  all_goals try exact (aG hv _).symm.trans hj
  ·have e1:=aG hv 1;have g1:=aG ha 1;obtain ⟨q1,q3,q2⟩:=hj
   show vs' 1= .slice (some ⟨(iv' 1).1,0,none⟩) 0 0∧(iv' 1).2=(iv' 1).1+1∧Blk wx' (iv' 1).1 28 []
   rw [←e1,←g1];exact ⟨q1,q3,q2.keep (hk.out _ q2.lt (Au (Nat.le_refl _) (by omega)))⟩
  ·have e3:=aG hv 3;obtain ⟨g,cap,rest,q1,qa,qb,q2,q3⟩:=hj;exact ⟨g,cap,rest,e3 ▸ q1,qa,qb,At (l:=Am _ 7 3) (by exact of_decide_eq_true (by kernel_rfl)) ha.out q2,q3.keep (hk.out _ q3.lt q2)⟩
  ·have e4:=aG hv 4;have g4:=aG ha 4;obtain ⟨s1,c1,q1,q2⟩:=hj;exact ⟨s1,c1,e4 ▸ q1,g4 ▸ q2.keep (fun b hb h1 h2=>hk.out b hb (Au h1 h2))⟩
  ·have e5:=aG hv 5;have g5:=aG ha 5;obtain ⟨q1,q3,q2⟩:=hj
   show vs' 5= .pointer (some ⟨(iv' 5).1,0,none⟩)∧(iv' 5).2=(iv' 5).1+1∧Blk wx' (iv' 5).1 28 [.int .i64 0,.int .i64 0,.slice none 0 0]
   rw [←e5,←g5];exact ⟨q1,q3,q2.keep (hk.out _ q2.lt (Au (Nat.le_refl _) (by omega)))⟩
  have e4:=aG hv 4;have g5:=aG ha 5;have hj':(iv 5).2=(iv 5).1+1∧Blk wx ((iv 5).1) 28 [Ad (vs 4) 0,Ad (vs 4) 1,Ad (vs 4) 2]:=hj
  show (iv' 5).2=(iv' 5).1+1∧Blk wx' ((iv' 5).1) 28 [Ad (vs' 4) 0,Ad (vs' 4) 1,Ad (vs' 4) 2]
  rw [←e4,←g5];exact ⟨hj'.1,hj'.2.keep (hk.out _ hj'.2.lt ⟨5,Az (by kernel_rfl),Or.inl ⟨Nat.le_refl _,by omega⟩⟩)⟩
 case hE=>
  intro i hi iv vs wx hj;simp at hi
  rcases hi with rfl|rfl|rfl|rfl|rfl|rfl|rfl
  all_goals try exact hj
  ·exact ⟨hj.1,hj.2.1⟩
  ·obtain ⟨g,cap,rest,q1, -⟩:=hj;exact ⟨g,cap,q1⟩
  ·obtain ⟨s1,c1,q1, -⟩:=hj;exact ⟨s1,c1,q1⟩
  ·exact ⟨hj.1,hj.2.1⟩
  trivial
 case hEE=>
  intro i hi iv iv' vs vs' ha hv hj;simp at hi
  rcases hi with rfl|rfl|rfl|rfl|rfl|rfl|rfl
  all_goals try exact (aG hv _).symm.trans hj
  ·have e1:=aG hv 1;have g1:=aG ha 1;have hj':vs 1= .slice (some ⟨(iv 1).1,0,none⟩) 0 0∧(iv 1).2=(iv 1).1+1:=hj
   show vs' 1= .slice (some ⟨(iv' 1).1,0,none⟩) 0 0∧(iv' 1).2=(iv' 1).1+1
   rw [←e1,←g1];exact hj'
  ·have e3:=aG hv 3;have hj':∃g cap,vs 3= .slice (some ⟨g,0,none⟩) (bs.length) cap:=hj
   show ∃g cap,vs' 3= .slice (some ⟨g,0,none⟩) (bs.length) cap
   rw [←e3];exact hj'
  ·have e4:=aG hv 4;have hj':∃s1 c1,vs 4= .agg #[.int .i64 PE.kind,.int .i64 PE.num,.slice s1 PE.kids.length c1]:=hj
   show ∃s1 c1,vs' 4= .agg #[.int .i64 PE.kind,.int .i64 PE.num,.slice s1 PE.kids.length c1]
   rw [←e4];exact hj'
  ·have e5:=aG hv 5;have g5:=aG ha 5;have hj':vs 5= .pointer (some ⟨(iv 5).1,0,none⟩)∧(iv 5).2=(iv 5).1+1:=hj
   show vs' 5= .pointer (some ⟨(iv' 5).1,0,none⟩)∧(iv' 5).2=(iv' 5).1+1
   rw [←e5,←g5];exact hj'
  trivial
 case hstep=>
  intro i hi opr ho iv vs w1 hB hS hSo hd he hbd hsep hun K hK;simp at hi;have hzB:=hB.size;have M1:=M.below hB;have m0:=M1.c0;have m1:=M1.c1;have m2:=M1.c2;generalize hA:Af _ 0 vs _=A at hK ⊢;simp only [Af,Ac] at hA
  rcases hi with rfl|rfl|rfl|rfl|rfl|rfl|rfl
  all_goals
   simp at ho;subst ho;subst hA
  ·go_wp2_with fail;exact Ab.mk (hK _ _ _ nn (by first|rfl|(simp only [Ac])) (Aa.refl _) (fun iv' _ _=>rfl))
  ·go_wp2_with fail
   exact Ab.mk (hK (.slice (some ⟨w1.heap.size,0,none⟩) 0 0) _ _ nn (by first|rfl|(simp only [Ac])) (Aa.of_below (Below.alloc (Below.refl _ _) (Nat.le_refl _) _)) (fun iv' _ hi=>by
    show Value.slice (some ⟨w1.heap.size,0,none⟩) 0 0= .slice (some ⟨(iv' 1).1,0,none⟩) 0 0∧(iv' 1).2=(iv' 1).1+1∧Blk _ (iv' 1).1 28 []
    rw [hi]
    exact ⟨rfl,by simp,Blk.made _ _ _⟩))
  ·go_wp2_with fail;exact Ab.mk (hK _ _ _ nn (by first|rfl|(simp only [Ac])) (Aa.refl _) (fun iv' _ _=>rfl))
  ·obtain ⟨h1,q1,f1⟩:=dN hd 1;have h2:vs 2=_:=dN hd 2;obtain ⟨h1x,q1x,f1x⟩:=dN hd 1;have h2x:vs 2=_:=dN hd 2;have f1':w1.heap[(iv 1).1]? =some (.cells #[] 28 (0,0)):=f1x;have hown:w1.ownsRow 0 28 3 (.slice (some ⟨(iv 1).1,0,none⟩) 0 0) 0 []:=⟨by simp,Or.inr ⟨(iv 1).1,0, #[],rfl,Nat.zero_le _,f1',Nat.le_refl _,by unfold maxLen; omega,rfl,by simp⟩⟩;have hWx:=hB'.trans (hB.mono (by omega));simp only [h1x,h2x];refine wpList_append_own_at w1 (by rfl) _ _ 26 (by rfl) 0 28 iE (.agg #[.int .i64 0,.int .i64 0,.slice none 0 0]) 3 40 Tryz.underlying26 hiE hzE hsE hbE rfl (by decide) (.slice (some ⟨(iv 1).1,0,none⟩) 0 0) 0 [] (by rfl) hown ⟨pb,po,none⟩ bs.length c2 xs (by rfl) hxs (fun j u hj=>by rw [add_plain]; exact (hWx.cell (p:=⟨pb,po+j,none⟩) hpbl).trans (Hrw.out j u hj)) (Te hrds) (by unfold maxLen; omega) (by omega) (Nat.zero_le _) ?_;intro v' w2 k1 k2 k3 k4;go_wp2_with fail
   rcases k1.2 with ⟨-, e0⟩|⟨g,cap,cur,rfl, -, hbk,hn,hm,hsz,htk⟩
   ·omega
   have hcur:cur.toList=xs++cur.toList.drop (bs.length*3):=by
    conv=>lhs; rw [←List.take_append_drop (bs.length*3) cur.toList]
    congr 1
    simpa using htk
   have hblk:Blk w2 g 28 (xs++cur.toList.drop (bs.length*3)):=by rw [←hcur]; simpa [Blk] using hbk
   have hgg:g=(iv 1).1∨g=w1.heap.size:=by simpa [Value.ownBlock] using k4
   simp only [Nat.zero_add];have hspw:Aa (fun b=>b=(iv 1).1) w1 w2:=⟨k2.os,k2.tape,k2.output,k2.size,fun b hb hn=>k2.block b hb (fun e=>hn (by simpa [Value.ownBlock] using e))⟩;exact Ab.mk (hK (.slice (some ⟨g,0,none⟩) bs.length cap) _ _ nn (by simp only [Act.put,List.setIfInBounds_toArray,List.set_cons_succ,List.set_cons_zero,h1x,h2x]) (hspw.more (fun b h=>Or.inr ⟨1,by decide,Au (by omega) (by omega)⟩)) (fun iv' ag hi=>⟨g,cap,_,rfl,by omega,hm,by rcases hgg with h|h; exact Ib (j:=1) (by kernel_rfl) ag (by omega) (by omega); exact A5 hi (by omega) (by have:=hblk.lt; omega),hblk⟩))
  ·have h0:vs 0=_:=dN hd 0;obtain ⟨g3,cap3,rest3,h3,ca3,cb3,t3,f3⟩:=dN hd 3;go_wp2_with fail;refine (M8 (Mw bs _ _ (t - 1) (a - 1) (by have:=Hla.out; omega) Hb2.out _ k n ks s c w1 (Nat.le_refl _) (hr.below (hB'.trans (hB.mono (by omega)))) hesz (Tt f3 (hrds.below (hB'.trans (hB.mono (by omega)))) ca3 cb3) (Gt He.out)) hPE).mono ?_;rintro e w2 ⟨s1,c1,rfl,hf,hb⟩;go_wp2_with fail;exact Ab.mk (hK (.agg #[.int .i64 PE.kind,.int .i64 PE.num,.slice s1 PE.kids.length c1]) _ _ nn (by first|rfl|(simp only [Ac,h0,h3])) (Aa.of_below hb) (fun iv' _ hi=>⟨s1,c1,rfl,by rw [hi]; exact Ag.stretch (hf)⟩))
  ·go_wp2_with fail
   exact Ab.mk (hK (.pointer (some ⟨w1.heap.size,0,none⟩)) _ _ nn (by first|rfl|(simp only [Ac])) (Aa.of_below (Below.alloc (Below.refl _ _) (Nat.le_refl _) _)) (fun iv' _ hi=>by
    show Value.pointer (some ⟨w1.heap.size,0,none⟩)= .pointer (some ⟨(iv' 5).1,0,none⟩)∧(iv' 5).2=(iv' 5).1+1∧Blk _ (iv' 5).1 28 [.int .i64 0,.int .i64 0,.slice none 0 0]
    rw [hi]
    exact ⟨rfl,by simp,Blk.new3 _ _ _ _ _⟩))
  obtain ⟨s1,c1,h4,f4⟩:=dN hd 4;obtain ⟨h5,q5,f5⟩:=dN hd 5;have bc0:=f5.c0;have bz0:=f5.frozen 0;have bc1:=f5.c1;have bz1:=f5.frozen 1;have bc2:=f5.c2;have bz2:=f5.frozen 2;have blt:=f5.lt;go_wp2_with fail
  exact Ab.mk (hK undef _ _ (fun _=>rfl) (by simp only [Ac,h4,h5]) ((Ar (b0:=(iv 5).1) (by repeat (first|exact Aa.refl _|apply Aa.set))).more (fun b h=>Or.inr ⟨5,by decide,Au (by omega) (by omega)⟩)) (fun iv' ag hi=>by
   show (iv' 5).2=(iv' 5).1+1∧Blk _ ((iv' 5).1) 28 [Ad (vs 4) 0,Ad (vs 4) 1,Ad (vs 4) 2]
   rw [←ag.out 5 (Az (by kernel_rfl)),h4]
   exact ⟨q5,(((f5.set 0 _).set 1 _).set 2 _)⟩))
 intro iv vs wx hB hSp hd he hbd hsep;have hzB:=hB.size;have h0:vs 0=_:=dE hd 0;obtain ⟨h1,q1⟩:=dM he 1;have h2:vs 2=_:=dE hd 2;obtain ⟨g3,cap3,rest3,h3,ca3,cb3,t3,f3⟩:=dE hd 3;obtain ⟨s1,c1,h4,f4⟩:=dE hd 4;obtain ⟨h5,q5⟩:=dM he 5;obtain ⟨q6,f6⟩:=dE hd 6;simp only [Af,Ac];obtain ⟨ob,hob⟩:∃ob,(iv 5).1=ob:=⟨_,rfl⟩;have b5:=(dM hbd 5).1;rw [hob] at h5 f6 b5;rw [h4] at f6;simp only [Ad] at f6;have b4:=(dM hbd 4).1;have hf4:=f4.freshs (W:=w3) (by omega);have L5:=L.below hB;have R5:=R.below hB;have hB5:=hB'.trans (hB.mono (by omega));simp only [h5];simp only [Nat.zero_add,Nat.reduceAdd];clear hd he hbd hsep h0 h1 h2 h3 h4 h5 f4 hSp hB hob;have y0:=f6.c0;have y1:=f6.c1;have y2:=f6.c2;have l0:=L5.c0;have l1:=L5.c1;have ltY:=f6.lt;go_wp2_with fail;clear y0 y1 y2 l0 l1;refine (Mg (F6 He.out) hf4.rds.one).mono ?_;rintro f w7 ⟨rfl,hb⟩
 have e9:okB t a (Ex.mk PE.kind PE.num PE.kids)=okB t a PE:=by rw [←Ex.eta]
 rw [e9];have sz7:=hb.size;have szx:=hB5.size;have hf7:=hf4.on hb;have R7:=R5.below hb;have Y7:=f6.below hb;have hB7:=hB5.trans (hb.mono (by omega));clear hb hf4 R5 L5 f6 hB5 e9
 cases hq:okB t a PE
 ·have E1:Hid (Bv t a (.mk k n ks) bs=Ex.zerP):=by show _=_; simp [Bv,hPE,hq]
  have E2:Hid (Ck t a (.mk k n ks) bs=3):=by show _=_; simp [Ck,Dk,hPE,hq,Hall.out,He.out,Hla.out]
  have R:=R7;have hB:=hB7;clear R7 hB7
  -- the answer is the zero expression and a code; the world is V
  obtain ⟨r0,r1,r2,z0,z1,z2,ltR⟩:=R.all3;obtain ⟨w5,e5,T2,hs5⟩:=zZ3 R (.int .i64 0) (.int .i64 0) (.slice none 0 0);go_wp2_with fail;clear e5;have t0:=T2.c0;have t1:=T2.c1;have t2:=T2.c2;have hB5:=hB.trans (hs5.below (B:=w.heap.size) (by omega) (fun y hy=>by omega));refine bodyPost_ret (v:= .tuple #[.agg #[.int .i64 0,.int .i64 0,.slice none 0 0],.int .i64 3]) (by simp [results,Tryz.results8,go_sem,t0,t1,t2]) rfl ?_;rw [E1.out,E2.out];exact ⟨none,0,rfl,Cp,hB5⟩
 have E1:Hid (Bv t a (.mk k n ks) bs=PE):=by show _=_; simp [Bv,Dk,hPE,hq,Hall.out,He.out,Hla.out]
 have E2:Hid (Ck t a (.mk k n ks) bs=0):=by show _=_; simp [Ck,Dk,hPE,hq,Hall.out,He.out,Hla.out]
 have y0:=Y7.c0;have y1:=Y7.c1;have y2:=Y7.c2;obtain ⟨r0,r1,r2,z0,z1,z2,ltR⟩:=R7.all3;have ltY7:=Y7.lt;obtain ⟨w8,e5,T2,hs5⟩:=zZ3 R7 (.int .i64 PE.kind) (.int .i64 PE.num) (.slice s1 PE.kids.length c1);go_wp2_with fail;clear e5;have t0:=T2.c0;have t1:=T2.c1;have t2:=T2.c2;have hB8:=hB7.trans (hs5.below (B:=w.heap.size) (by omega) (fun y hy=>by omega));refine bodyPost_ret (v:= .tuple #[.agg #[.int .i64 PE.kind,.int .i64 PE.num,.slice s1 PE.kids.length c1],.int .i64 0]) (by simp [results,Tryz.results8,go_sem,t0,t1,t2]) rfl ?_;rw [E1.out,E2.out];obtain ⟨F,F1,F2,F3⟩:=hf7;exact ⟨s1,c1,rfl,⟨F,F1.keep fun q hq2=>hs5.block q (F1.lt q hq2) (by have:=F3 q hq2; omega),F2,fun q hq2=>by have:=F3 q hq2; omega⟩,hB8⟩
end Go.Proofs.YtlchgfbkdjjngaaGreatDoor
