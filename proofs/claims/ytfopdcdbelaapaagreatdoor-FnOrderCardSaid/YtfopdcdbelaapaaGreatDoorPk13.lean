/-
  Parts of a proof, joined: Small. No condition.
-/
import Derived.Test.YtfopdcdbelaapaaGreatDoorPk9
import Derived.Test.YtfopdcdbelaapaaGreatDoorPk12
namespace Go.Proofs.YtfopdcdbelaapaaGreatDoor
set_option linter.unusedVariables false
set_option linter.unusedSimpArgs false
open Go.ChangeShapes Go.WideShapes Go.ChangeAt Go.RowKit Go.Deep Go.Sort
theorem FreshIn.rd {p:Nat × Nat} {w:World} {d:D} {v:Value} (h:FreshIn p w [d] [v]):Rd w d v:=by
 obtain ⟨F,h1, -, -⟩:=h;exact Rds.one h1.rds
theorem RdX.made {w w':World} {d:D} {v:Value} (h:Freshs w w' [d] [v]):RdX (fun i=>i<w.heap.size∨w'.heap.size≤i) w' d v:=by
 obtain ⟨F,h1,h2,h3⟩:=h;intro w2 k;exact Rds.one (h1.keep fun b hb=>k.2 b (h1.lt b hb) fun hx=>by have:=h3 b hb; have:=h1.lt b hb; omega).rds
theorem own_rdX {X:Nat→Prop} {e:Ex} {b o:Nat} {w:World} (hX:∀b,X b→b<w.heap.size) (h:ExAt w b o e) (h1:e.size≤1073741824):
  Calls Tryz.prog 69 #[.pointer (some ⟨b,o,none⟩)] w fun f w'=>∃s c,f= .returned (.agg #[.int .i64 e.kind, .int .i64 e.num, .slice s e.kids.length c])∧RdX X w' (kidsD e.kids) (.slice s e.kids.length c)∧Below w.heap.size w w':=by
 refine (l01Own_e h h1).mono ?_;rintro f w' ⟨s,c,h1,h2,h3⟩;exact ⟨s,c,h1,RdX.fresh h2 hX,h3⟩
theorem pair_rdX {X:Nat→Prop} {k:Int} {x y:Ex} {sx sy:Option Addr} {cx cy:Nat} {w:World} (hX:∀b,X b→b<w.heap.size) (hx:RdX X w (kidsD x.kids) (.slice sx x.kids.length cx)) (hy:RdX X w (kidsD y.kids) (.slice sy y.kids.length cy)):
  Calls Tryz.prog 125 #[.int .i64 k, .agg #[.int .i64 x.kind, .int .i64 x.num, .slice sx x.kids.length cx], .agg #[.int .i64 y.kind, .int .i64 y.num, .slice sy y.kids.length cy]] w fun f w'=>∃g,f= .returned (.agg #[.int .i64 k, .int .i64 0, .slice (some ⟨g,0,none⟩) 2 2])∧RdX X w' (kidsD [x,y]) (.slice (some ⟨g,0,none⟩) 2 2)∧Below w.heap.size w w':=by
 refine (l02Pair_i).mono ?_;rintro f w' ⟨g,h1,h2,h3,h4⟩;exact ⟨g,h1,kidsD_two h3 (fun q=>by have:=hX g q; omega) (hx.below h4) (hy.below h4),h4⟩
theorem from_j {B:Nat} {xs:List Int} {s:Option Addr} {c:Nat} {w:World} (hr:RdX (fun i=>B≤i) w (bytesD xs) (.slice s xs.length c)) (hx:∀x∈xs,0≤x∧x≤255) (hB:B≤w.heap.size):
  Calls Tryz.prog 112 #[.slice s xs.length c] w fun f w'=>∃b,f= .returned (.pointer (some ⟨b,0,none⟩))∧w.heap.size≤b∧SrcW B b 0 w'∧Below w.heap.size w w':=by
 go_enter Tryz.func112,Tryz.ntmps112
 go_wp2_with fail;obtain ⟨w1,e1,K,hb,hz⟩:=box3 w 190 (.slice s xs.length c) (.int .i64 0) (.int .u64 0);rw [e1];go_ret;exact ⟨_,rfl,Nat.le_refl _,⟨by omega,xs,s,c,0,0,K,hr.below hb,hx,Nat.le_refl _⟩,hb⟩
structure DrawnE (n:Int) where
 e:Ex
 s:Option Addr
 c:Nat
 cs:Option Addr
 cl:Nat
 cc:Nat
 p:Nat
 y:Int
 h:(e.size:Int)≤2*n - 1
theorem drawn_at {B b N:Nat} {t a n:Int} {w:World} (h:SrcW B b N w) (hN:N≤10000000) (hB:B≤w.heap.size) (hs:sigB t a=true) (hn:1≤n) (hn2:n≤1000):
  Calls Tryz.prog 114 #[.pointer (some ⟨b,0,none⟩), .agg #[.int .i64 t, .int .i64 a], .int .i64 n] w fun f w'=>∃u:DrawnE n,f= .returned (.agg #[.int .i64 u.e.kind, .int .i64 u.e.num, .slice u.s u.e.kids.length u.c])∧Freshs w w' [kidsD u.e.kids] [.slice u.s u.e.kids.length u.c]∧
   Spares (fun i=>i=b) w w'∧Blk w' b 190 [.slice u.cs u.cl u.cc, .int .i64 u.p, .int .u64 u.y]:=by
 refine (drawn_i h hN hB hs hn hn2).mono ?_;rintro f w' ⟨e,s,c,h1,h2,h3,h4,⟨h5,xs,cs,cc,p,y,k1,k2⟩,h6⟩;exact ⟨⟨e,s,c,cs,xs.length,cc,p,y,h4⟩,h1,h2,h6,k1⟩
set_option maxRecDepth 100000 in
set_option maxHeartbeats 8000000 in
theorem a2Small_i {xs:List Int} {s:Option Addr} {c:Nat} {w:World} (hr:Rd w (bytesD xs) (.slice s xs.length c)) (hx:∀x∈xs,0≤x∧x≤255):
  Calls Tryz.prog 59 #[.slice s xs.length c] w fun z w'=>∃(t a:Int) (e f h:Ex) (s1 s2 s3:Option Addr) (c1 c2 c3:Nat),z= .returned (.tuple #[.agg #[.int .i64 t, .int .i64 a], .agg #[.int .i64 e.kind, .int .i64 e.num, .slice s1 e.kids.length c1], .agg #[.int .i64 f.kind, .int .i64 f.num, .slice s2 f.kids.length c2], .agg #[.int .i64 h.kind, .int .i64 h.num, .slice s3 h.kids.length c3]])∧
   Rd w' (kidsD e.kids) (.slice s1 e.kids.length c1)∧Rd w' (kidsD f.kids) (.slice s2 f.kids.length c2)∧Rd w' (kidsD h.kids) (.slice s3 h.kids.length c3)∧(e.size:Int)≤30∧(f.size:Int)≤30∧(h.size:Int)≤30∧Below w.heap.size w w':=by
 have HX:=Lib.hid hx;clear hx
 go_enter Tryz.func59,Tryz.ntmps59
 go_wp2_with fail;obtain ⟨w1,e1,RA,hb1,hz1⟩:=box2 w 37 (.int .i64 0) (.int .i64 0);rw [e1];obtain ⟨w2,e2,RB,hb2,hz2⟩:=box3 w1 34 (.int .i64 0) (.int .i64 0) (.slice none 0 0);rw [e2];obtain ⟨w3,e3,RC,hb3,hz3⟩:=box3 w2 34 (.int .i64 0) (.int .i64 0) (.slice none 0 0);rw [e3];obtain ⟨w4,e4,RD,hb4,hz4⟩:=box3 w3 34 (.int .i64 0) (.int .i64 0) (.slice none 0 0);rw [e4];rw [hz1] at RB;rw [hz2,hz1] at RC;rw [hz3,hz2,hz1] at RD;replace RA:=((RA.below hb2).below hb3).below hb4;replace RB:=(RB.below hb3).below hb4;replace RC:=RC.below hb4;have hB:=((hb1.trans (hb2.mono (by omega))).trans (hb3.mono (by omega))).trans (hb4.mono (by omega))
 have hz4':w4.heap.size=w.heap.size+1+1+1+1:=by omega
 clear e1 e2 e3 e4 hb1 hb2 hb3 hb4 hz1 hz2 hz3 hz4;obtain ⟨B,hBv1,hBv2⟩:∃B,w.heap.size≤B∧B≤w.heap.size:=⟨_,Nat.le_refl _,Nat.le_refl _⟩;refine (from_j (B:=B) ((RdX.of_rd hr (fun b hb=>by omega)).below hB) HX.out (by omega)).mono ?_;rintro f w5 ⟨sb,rfl,hsB,S,hb⟩;have hsl:=S.lt;replace RA:=RA.below hb;replace RB:=RB.below hb;replace RC:=RC.below hb;replace RD:=RD.below hb;have HB5:=Lib.hid (Below.on hB hb hB.size);have hz5:=hb.size;have D:=S.drew;clear hb hB hr;go_wp2_with fail;refine (pick_i D.1 (by omega) (by omega)).mono ?_;rintro f w6 ⟨x,rfl,x0,x1,D1⟩;replace RA:=D1.blk RA (by omega);replace RB:=D1.blk RB (by omega);replace RC:=D1.blk RC (by omega);replace RD:=D1.blk RD (by omega);replace D:=D.trans D1;have hz6:=D1.size;clear D1;go_wp2_with fail;refine (pick_i D.1 (by omega) (by omega)).mono ?_;rintro f w7 ⟨y,rfl,y0,y1,D1⟩;replace RA:=D1.blk RA (by omega);replace RB:=D1.blk RB (by omega);replace RC:=D1.blk RC (by omega);replace RD:=D1.blk RD (by omega);replace D:=D.trans D1;have hz7:=D1.size;clear D1;go_wp2_with fail;obtain ⟨w8,e8,SG,hb8,hz8⟩:=box2 w7 37 (.int .i64 x) (.int .i64 (1+y));rw [e8];replace RA:=RA.below hb8;replace RB:=RB.below hb8;replace RC:=RC.below hb8;replace RD:=RD.below hb8;replace D:=D.on hb8
 have hsig:sigB x (1+y)=true:=by simp only [sigB,inB,Bool.and_eq_true,decide_eq_true_eq]; omega
 have Hsig:=Lib.hid hsig;clear e8 hb8 hsig;refine (drawn_i (n:=6) D.1 (by omega) (by omega) Hsig.out (by omega) (by omega)).mono ?_;rintro f w9 ⟨e,s1,c1,rfl,hf, -, hsz1,D1⟩;replace RA:=D1.blk RA (by omega);replace RB:=D1.blk RB (by omega);replace RC:=D1.blk RC (by omega);replace RD:=D1.blk RD (by omega);replace SG:=D1.blk SG (by omega);replace D:=D.trans D1;have hz9:=D1.size;have HE:=Lib.hid (RdX.made hf);have HSE:=Lib.hid hsz1;clear D1 hf hsz1;obtain ⟨w10,e10,E8,hb10,hz10⟩:=box3 w9 34 (.int .i64 e.kind) (.int .i64 e.num) (.slice s1 e.kids.length c1);replace RA:=RA.below hb10;replace RB:=RB.below hb10;replace RC:=RC.below hb10;replace RD:=RD.below hb10;replace SG:=SG.below hb10;replace D:=D.on hb10;replace HE:=Lib.hid (HE.out.below hb10);obtain ⟨sg0,sg1,sgl⟩:=SG.all2;clear hb10;go_wp2_with fail;clear e10 sg0 sg1 sgl;refine (drawn_i (n:=6) D.1 (by omega) (by omega) Hsig.out (by omega) (by omega)).mono ?_;rintro f w11 ⟨f,s2,c2,rfl,hf, -, hsz2,D1⟩;replace RA:=D1.blk RA (by omega);replace RB:=D1.blk RB (by omega);replace RC:=D1.blk RC (by omega);replace RD:=D1.blk RD (by omega);replace SG:=D1.blk SG (by omega);replace E8:=D1.blk E8 (by omega);replace D:=D.trans D1;have hz11:=D1.size;replace HE:=Lib.hid (HE.out.keep (KeptX.of_spares D1.spares (fun b _ h=>Or.inl (by omega))));have HF:=Lib.hid (RdX.made hf);have HSF:=Lib.hid hsz2;clear D1 hf hsz2;obtain ⟨w12,e12,E9,hb12,hz12⟩:=box3 w11 34 (.int .i64 f.kind) (.int .i64 f.num) (.slice s2 f.kids.length c2);replace RA:=RA.below hb12;replace RB:=RB.below hb12;replace RC:=RC.below hb12;replace RD:=RD.below hb12;replace SG:=SG.below hb12;replace E8:=E8.below hb12;replace D:=D.on hb12;replace HE:=Lib.hid (HE.out.below hb12);replace HF:=Lib.hid (HF.out.below hb12);clear hb12;go_wp2_with fail;clear e12;refine (one_i (n:=3) D.1 (by omega) (by omega)).mono ?_;rintro f2 w13 ⟨v,rfl,D1⟩;replace RA:=D1.blk RA (by omega);replace RB:=D1.blk RB (by omega);replace RC:=D1.blk RC (by omega);replace RD:=D1.blk RD (by omega);replace SG:=D1.blk SG (by omega);replace E8:=D1.blk E8 (by omega);replace E9:=D1.blk E9 (by omega);replace D:=D.trans D1;have hz13:=D1.size;replace HE:=Lib.hid (HE.out.keep (KeptX.of_spares D1.spares (fun b _ h=>Or.inl (by omega))));replace HF:=Lib.hid (HF.out.keep (KeptX.of_spares D1.spares (fun b _ h=>Or.inl (by omega))));clear D1
 have n1:sb<w7.heap.size:=by omega
 have n2:w7.heap.size<w9.heap.size:=by omega
 have n3:w9.heap.size<w11.heap.size:=by omega
 have n4:w11.heap.size<w13.heap.size:=by omega
 have n5:w.heap.size+1+1+1<sb:=by omega
 have n6:w7.heap.size<w8.heap.size:=by omega
 have n7:w8.heap.size≤w9.heap.size∧w9.heap.size<w10.heap.size∧w10.heap.size≤w11.heap.size:=by omega
 have HBW:=Lib.hid (HB5.out.trans (D.2.below (B:=w.heap.size) (by omega) (fun i hi=>by omega)));have HS:=Lib.hid (D.1.more (M:=20000) (by omega))
 have HSE2:Hid ((e.size:Int)≤30):=by show _≤_; have:=HSE.out; omega
 have HSF2:Hid ((f.size:Int)≤30):=by show _≤_; have:=HSF.out; omega
 have HSF3:=Lib.hid (And.intro HSE.out HSF.out);clear hz4' hz5 hz6 hz7 hz8 hz9 hz10 hz11 hz12 hz13 hsB x0 x1 y0 y1 S hsl D HSE HSF
 cases v
 ·
  go_wp2_with fail;have HSG:=Lib.hid SG;have HE8:=Lib.hid E8;have HE9:=Lib.hid E9;clear SG E8 E9;obtain ⟨hb0,xs',cs,cc,p,z,KS,hrx,hxs,hpN⟩:=HS.out;have HRX:=Lib.hid hrx;have HXS:=Lib.hid hxs;have hsW:=KS.lt;have hWw:w.heap.size≤w13.heap.size:=HBW.out.size;have HSRC0:∀w1:World,Below w.heap.size w13 w1→Blk w1 sb 190 [.slice cs xs'.length cc, .int .i64 p, .int .u64 z]→SrcW B sb 20000 w1:=fun w1 hB K1=>⟨hb0,xs',cs,cc,p,z,K1,HRX.out.keep ⟨hB.size,fun i hi hn=>hB.block i (by omega)⟩,HXS.out,by omega⟩;have HSRC:=Lib.hid HSRC0;clear hrx hxs hpN HSRC0;obtain ⟨x3,hx3⟩:=mkval ?a1_3
  have hGb:∀m b,(fun m b=>(m=0∧b=sb)∨(m=1∧b=w.heap.size)∨(m=2∧b=w.heap.size+1)∨(m=3∧b=w.heap.size+1+1)∨(m=4∧b=w.heap.size+1+1+1)) m b→(w.heap.size)≤b∧b<(w13).heap.size:=by
   intro m b hg;have q:=KS.lt;have q2:=RD.lt;omega
  have hGd:∀m m' b,(fun m b=>(m=0∧b=sb)∨(m=1∧b=w.heap.size)∨(m=2∧b=w.heap.size+1)∨(m=3∧b=w.heap.size+1+1)∨(m=4∧b=w.heap.size+1+1+1)) m b→(fun m b=>(m=0∧b=sb)∨(m=1∧b=w.heap.size)∨(m=2∧b=w.heap.size+1)∨(m=3∧b=w.heap.size+1+1)∨(m=4∧b=w.heap.size+1+1+1)) m' b→m=m':=by
   intro m m' b h h';omega
  refine region_rs [] [(5,0),(6,1),(7,2),(8,3),(9,4)] (fun m b=>(m=0∧b=sb)∨(m=1∧b=w.heap.size)∨(m=2∧b=w.heap.size+1)∨(m=3∧b=w.heap.size+1+1)∨(m=4∧b=w.heap.size+1+1+1)) (w.heap.size) (fun i iv vs wx=>match i with
   |0=>vs 0= .agg #[.int .i64 x, .int .i64 (1+y)]
   |1=>vs 1= .agg #[.int .i64 e.kind, .int .i64 e.num, .slice s1 e.kids.length c1]
   |2=>vs 2= .agg #[.int .i64 f.kind, .int .i64 f.num, .slice s2 f.kids.length c2]
   |3=>vs 3=x3
   |4=>vs 4= .agg #[.int .i64 x, .int .i64 (1+y)]
   |5=>∃u,vs 5= .agg #[.int .i64 (DrawnE.e (n:=5) u).kind, .int .i64 u.e.num, .slice u.s u.e.kids.length u.c]∧FreshIn (iv 5) wx [kidsD u.e.kids] [.slice u.s u.e.kids.length u.c]∧Blk wx (sb) 190 [.slice u.cs u.cl u.cc, .int .i64 u.p, .int .u64 u.y]
   |6=>Blk wx (w.heap.size) 37 [.int .i64 x, .int .i64 (1+y)]
   |7=>Blk wx (w.heap.size+1) 34 [.int .i64 e.kind, .int .i64 e.num, .slice s1 e.kids.length c1]
   |8=>Blk wx (w.heap.size+1+1) 34 [.int .i64 f.kind, .int .i64 f.num, .slice s2 f.kids.length c2]
   |9=>Blk wx (w.heap.size+1+1+1) 34 [aggAt (vs 5) 0,aggAt (vs 5) 1,aggAt (vs 5) 2]
   |_=>True) (fun i iv vs=>match i with
   |0=>vs 0= .agg #[.int .i64 x, .int .i64 (1+y)]
   |1=>vs 1= .agg #[.int .i64 e.kind, .int .i64 e.num, .slice s1 e.kids.length c1]
   |2=>vs 2= .agg #[.int .i64 f.kind, .int .i64 f.num, .slice s2 f.kids.length c2]
   |3=>vs 3=x3
   |4=>vs 4= .agg #[.int .i64 x, .int .i64 (1+y)]
   |5=>∃u,vs 5= .agg #[.int .i64 (DrawnE.e (n:=5) u).kind, .int .i64 u.e.num, .slice u.s u.e.kids.length u.c]
   |6=>True
   |7=>True
   |8=>True
   |9=>True
   |_=>True) (by kernel_rfl) (by kernel_rfl) [0,1,2,3,4,5,6,7,8,9] (by kernel_rfl) ?hbase ?hGb ?hG ?hJ ?hE ?hEE ?hstep ?hQ
  case hbase=>first|exact Nat.le_refl _|omega|(simp; omega)
  case hGb=>
   exact hGb
  case hG=>
   exact hGd
  case hJ=>
   intro i hi iv iv' vs vs' wx wx' ha hv hz hk hj;simp only [List.mem_cons,List.not_mem_nil,or_false] at hi
   rcases hi with rfl|rfl|rfl|rfl|rfl|rfl|rfl|rfl|rfl|rfl
   all_goals try exact (aG hv _).symm.trans hj
   ·
    have e5:=aG hv 5;have g5:=aG ha 5;obtain ⟨u,q1,q2,q3⟩:=hj;exact ⟨u,e5 ▸ q1,g5 ▸ q2.keep (fun b hb h1 h2=>hk.out b hb (foot_own h1 h2)),q3.keep (hk.out _ q3.lt (foot_given 0 (by decide) (Or.inl ⟨rfl,rfl⟩)))⟩
   ·
    have hj':Blk wx (w.heap.size) 37 [.int .i64 x, .int .i64 (1+y)]:=hj
    show Blk wx' (w.heap.size) 37 [.int .i64 x, .int .i64 (1+y)]
    exact hj'.keep (hk.out _ hj'.lt (foot_given 1 (by decide) (Or.inr (Or.inl ⟨rfl,rfl⟩))))
   ·
    have hj':Blk wx (w.heap.size+1) 34 [.int .i64 e.kind, .int .i64 e.num, .slice s1 e.kids.length c1]:=hj
    show Blk wx' (w.heap.size+1) 34 [.int .i64 e.kind, .int .i64 e.num, .slice s1 e.kids.length c1]
    exact hj'.keep (hk.out _ hj'.lt (foot_given 2 (by decide) (Or.inr (Or.inr (Or.inl ⟨rfl,rfl⟩)))))
   ·
    have hj':Blk wx (w.heap.size+1+1) 34 [.int .i64 f.kind, .int .i64 f.num, .slice s2 f.kids.length c2]:=hj
    show Blk wx' (w.heap.size+1+1) 34 [.int .i64 f.kind, .int .i64 f.num, .slice s2 f.kids.length c2]
    exact hj'.keep (hk.out _ hj'.lt (foot_given 3 (by decide) (Or.inr (Or.inr (Or.inr (Or.inl ⟨rfl,rfl⟩))))))
   ·
    have e5:=aG hv 5;have hj':Blk wx (w.heap.size+1+1+1) 34 [aggAt (vs 5) 0,aggAt (vs 5) 1,aggAt (vs 5) 2]:=hj
    show Blk wx' (w.heap.size+1+1+1) 34 [aggAt (vs' 5) 0,aggAt (vs' 5) 1,aggAt (vs' 5) 2]
    rw [←e5];exact hj'.keep (hk.out _ hj'.lt (foot_given 4 (by decide) (Or.inr (Or.inr (Or.inr (Or.inr ⟨rfl,rfl⟩))))))
  case hE=>
   intro i hi iv vs wx hj;simp only [List.mem_cons,List.not_mem_nil,or_false] at hi
   rcases hi with rfl|rfl|rfl|rfl|rfl|rfl|rfl|rfl|rfl|rfl
   all_goals try exact hj
   ·
    obtain ⟨u,q1, -⟩:=hj;exact ⟨u,q1⟩
   ·
    trivial
   ·
    trivial
   ·
    trivial
   ·
    trivial
  case hEE=>
   intro i hi iv iv' vs vs' ha hv hj;simp only [List.mem_cons,List.not_mem_nil,or_false] at hi
   rcases hi with rfl|rfl|rfl|rfl|rfl|rfl|rfl|rfl|rfl|rfl
   all_goals try exact (aG hv _).symm.trans hj
   ·
    have e5:=aG hv 5;have hj':∃u,vs 5= .agg #[.int .i64 (DrawnE.e (n:=5) u).kind, .int .i64 u.e.num, .slice u.s u.e.kids.length u.c]:=hj
    show ∃u,vs' 5= .agg #[.int .i64 (DrawnE.e (n:=5) u).kind, .int .i64 u.e.num, .slice u.s u.e.kids.length u.c]
    rw [←e5];exact hj'
   ·
    trivial
   ·
    trivial
   ·
    trivial
   ·
    trivial
  case hstep=>
   intro i hi opr ho iv vs w1 hB hS hSo hd he hbd hsep hun K hK;simp only [List.mem_cons,List.not_mem_nil,or_false] at hi;have hzB:=hB.size;have HGb:=Lib.hid hGb;clear hGb hGd;have hKeep:∀g,g<w13.heap.size→g≠sb→w.heap.size+1+1+1<g→w1.heap[g]? =w13.heap[g]? :=fun g hg h1 h2=>hSo.out.block g hg (fun ⟨m,hm⟩=>by rcases hm with ⟨_,h⟩|⟨_,h⟩|⟨_,h⟩|⟨_,h⟩|⟨_,h⟩<;>omega);obtain ⟨sg0,sg1,sgl⟩:=(HSG.out.keep (hKeep _ HSG.out.lt (by omega) (by omega))).all2;obtain ⟨ea0,ea1,ea2, -, -, -, eal⟩:=(HE8.out.keep (hKeep _ HE8.out.lt (by omega) (by omega))).all3;obtain ⟨eb0,eb1,eb2, -, -, -, ebl⟩:=(HE9.out.keep (hKeep _ HE9.out.lt (by omega) (by omega))).all3;clear hKeep;generalize hA:putFrom _ 0 vs _=A at hK ⊢;simp only [putFrom,puts] at hA
   rcases hi with rfl|rfl|rfl|rfl|rfl|rfl|rfl|rfl|rfl|rfl
   all_goals
    simp at ho;subst ho;subst hA
   ·
    go_wp2_with fail;exact Onward.mk (hK (.agg #[.int .i64 x, .int .i64 (1+y)]) _ _ (fun h=>by cases h) (by first|rfl|(simp only [puts])) (Spares.refl _) (fun iv' _ _=>rfl))
   ·
    go_wp2_with fail;exact Onward.mk (hK (.agg #[.int .i64 e.kind, .int .i64 e.num, .slice s1 e.kids.length c1]) _ _ (fun h=>by cases h) (by first|rfl|(simp only [puts])) (Spares.refl _) (fun iv' _ _=>rfl))
   ·
    go_wp2_with fail;exact Onward.mk (hK (.agg #[.int .i64 f.kind, .int .i64 f.num, .slice s2 f.kids.length c2]) _ _ (fun h=>by cases h) (by first|rfl|(simp only [puts])) (Spares.refl _) (fun iv' _ _=>rfl))
   ·
    go_wp2_with fail;refine Onward.mk (hK ?val1_3 _ _ (fun h=>by cases h) ?eqA (Spares.refl _) (fun iv' _ _=> ?ja))
    case eqA=>first|rfl|(simp only [puts]; rfl)
    case ja=>exact hx3.out.symm
   ·
    go_wp2_with fail;exact Onward.mk (hK (.agg #[.int .i64 x, .int .i64 (1+y)]) _ _ (fun h=>by cases h) (by first|rfl|(simp only [puts])) (Spares.refl _) (fun iv' _ _=>rfl))
   ·
    have h3:=(dN hd 3).trans hx3.out;have h4:vs 4= .agg #[.int .i64 x, .int .i64 (1+y)]:=dN hd 4;have KS1:=KS.keep (hS.out 0 _ (by kernel_rfl) (Or.inl ⟨rfl,rfl⟩));have ksc0:=KS1.c0;have ksz0:=KS1.frozen 0;have ksc1:=KS1.c1;have ksz1:=KS1.frozen 1;have ksc2:=KS1.c2;have ksz2:=KS1.frozen 2;have kslt:=KS1.lt;go_wp2_with fail;refine (drawn_at (n:=5) (B:=B) (N:=20000) (t:=x) (a:=1+y) (HSRC.out w1 hB KS1) (by omega) (by omega) Hsig.out (by omega) (by omega)).mono ?_;rintro e w2 ⟨u,rfl,hf,hs,hbk⟩;go_wp2_with fail;exact Onward.mk (hK (.agg #[.int .i64 (DrawnE.e (n:=5) u).kind, .int .i64 u.e.num, .slice u.s u.e.kids.length u.c]) _ _ (fun h=>by cases h) (by first|rfl|(simp only [puts,h3,h4])) (hs.more (fun b h=>Or.inl ⟨0,by decide,(Or.inl ⟨rfl,h⟩)⟩)) (fun iv' _ hi=>⟨u,rfl,by rw [hi]; exact Freshs.stretch (hf),hbk⟩))
   ·
    have h0:vs 0= .agg #[.int .i64 x, .int .i64 (1+y)]:=dN hd 0;have RA1:=RA.keep (hS.out 1 _ (by kernel_rfl) (Or.inr (Or.inl ⟨rfl,rfl⟩)));have rac0:=RA1.c0;have raz0:=RA1.frozen 0;have rac1:=RA1.c1;have raz1:=RA1.frozen 1;have ralt:=RA1.lt;go_wp2_with fail
    exact Onward.mk (hK undef _ _ (fun _=>rfl) (by simp only [puts,h0]) ((spares_sets (b0:=w.heap.size) (by repeat (first|exact Spares.refl _|apply Spares.set))).more (fun b h=>Or.inl ⟨1,by decide,(Or.inr (Or.inl ⟨rfl,h⟩))⟩)) (fun iv' ag hi=>by
     show Blk _ (w.heap.size) 37 [.int .i64 x, .int .i64 (1+y)]
     exact ((RA1.set 0 _).set 1 _)))
   ·
    have h1:vs 1= .agg #[.int .i64 e.kind, .int .i64 e.num, .slice s1 e.kids.length c1]:=dN hd 1;have RB1:=RB.keep (hS.out 2 _ (by kernel_rfl) (Or.inr (Or.inr (Or.inl ⟨rfl,rfl⟩))));have rbc0:=RB1.c0;have rbz0:=RB1.frozen 0;have rbc1:=RB1.c1;have rbz1:=RB1.frozen 1;have rbc2:=RB1.c2;have rbz2:=RB1.frozen 2;have rblt:=RB1.lt;go_wp2_with fail
    exact Onward.mk (hK undef _ _ (fun _=>rfl) (by simp only [puts,h1]) ((spares_sets (b0:=w.heap.size+1) (by repeat (first|exact Spares.refl _|apply Spares.set))).more (fun b h=>Or.inl ⟨2,by decide,(Or.inr (Or.inr (Or.inl ⟨rfl,h⟩)))⟩)) (fun iv' ag hi=>by
     show Blk _ (w.heap.size+1) 34 [.int .i64 e.kind, .int .i64 e.num, .slice s1 e.kids.length c1]
     exact (((RB1.set 0 _).set 1 _).set 2 _)))
   ·
    have h2:vs 2= .agg #[.int .i64 f.kind, .int .i64 f.num, .slice s2 f.kids.length c2]:=dN hd 2;have RC1:=RC.keep (hS.out 3 _ (by kernel_rfl) (Or.inr (Or.inr (Or.inr (Or.inl ⟨rfl,rfl⟩)))));have rcc0:=RC1.c0;have rcz0:=RC1.frozen 0;have rcc1:=RC1.c1;have rcz1:=RC1.frozen 1;have rcc2:=RC1.c2;have rcz2:=RC1.frozen 2;have rclt:=RC1.lt;go_wp2_with fail
    exact Onward.mk (hK undef _ _ (fun _=>rfl) (by simp only [puts,h2]) ((spares_sets (b0:=w.heap.size+1+1) (by repeat (first|exact Spares.refl _|apply Spares.set))).more (fun b h=>Or.inl ⟨3,by decide,(Or.inr (Or.inr (Or.inr (Or.inl ⟨rfl,h⟩))))⟩)) (fun iv' ag hi=>by
     show Blk _ (w.heap.size+1+1) 34 [.int .i64 f.kind, .int .i64 f.num, .slice s2 f.kids.length c2]
     exact (((RC1.set 0 _).set 1 _).set 2 _)))
   ·
    obtain ⟨u,h5,f5,fb5⟩:=dN hd 5;have RD1:=RD.keep (hS.out 4 _ (by kernel_rfl) (Or.inr (Or.inr (Or.inr (Or.inr ⟨rfl,rfl⟩)))));have rdc0:=RD1.c0;have rdz0:=RD1.frozen 0;have rdc1:=RD1.c1;have rdz1:=RD1.frozen 1;have rdc2:=RD1.c2;have rdz2:=RD1.frozen 2;have rdlt:=RD1.lt;have h5':=h5;go_wp2_with fail
    exact Onward.mk (hK undef _ _ (fun _=>rfl) (by simp only [puts,h5]) ((spares_sets (b0:=w.heap.size+1+1+1) (by repeat (first|exact Spares.refl _|apply Spares.set))).more (fun b h=>Or.inl ⟨4,by decide,(Or.inr (Or.inr (Or.inr (Or.inr ⟨rfl,h⟩))))⟩)) (fun iv' ag hi=>by
     show Blk _ (w.heap.size+1+1+1) 34 [aggAt (vs 5) 0,aggAt (vs 5) 1,aggAt (vs 5) 2]
     rw [h5]
     exact (((RD1.set 0 _).set 1 _).set 2 _)))
  case hQ=>
   intro iv vs wx hB hSp hd he hbd hsep;have hzB:=hB.size;have h0:vs 0= .agg #[.int .i64 x, .int .i64 (1+y)]:=dE hd 0;have h1:vs 1= .agg #[.int .i64 e.kind, .int .i64 e.num, .slice s1 e.kids.length c1]:=dE hd 1;have h2:vs 2= .agg #[.int .i64 f.kind, .int .i64 f.num, .slice s2 f.kids.length c2]:=dE hd 2;have h3:=(dE hd 3).trans hx3.out;have h4:vs 4= .agg #[.int .i64 x, .int .i64 (1+y)]:=dE hd 4;obtain ⟨u,h5,f5,fb5⟩:=dE hd 5;have f6:Blk _ (w.heap.size) 37 [.int .i64 x, .int .i64 (1+y)]:=dE hd 6;have f7:Blk _ (w.heap.size+1) 34 [.int .i64 e.kind, .int .i64 e.num, .slice s1 e.kids.length c1]:=dE hd 7;have f8:Blk _ (w.heap.size+1+1) 34 [.int .i64 f.kind, .int .i64 f.num, .slice s2 f.kids.length c2]:=dE hd 8;have f9:Blk _ (w.heap.size+1+1+1) 34 [aggAt (vs 5) 0,aggAt (vs 5) 1,aggAt (vs 5) 2]:=dE hd 9;simp only [putFrom,puts];rw [h5] at f9
   have hG8:∀b,(∃m,(m=0∧b=sb)∨(m=1∧b=w.heap.size)∨(m=2∧b=w.heap.size+1)∨(m=3∧b=w.heap.size+1+1)∨(m=4∧b=w.heap.size+1+1+1))→b<w8.heap.size:=fun b ⟨m,hm⟩=>by omega
   have hre:=(HE.out.keep (KeptX.of_spares hSp.out (fun b _ h=>Or.inl (by have:=hG8 b h; omega)))).rd;have hrf:=(HF.out.keep (KeptX.of_spares hSp.out (fun b _ h=>Or.inl (by have:=hG8 b h; omega)))).rd;have hu:=u.h;obtain ⟨a0,a1,al⟩:=f6.all2;obtain ⟨b0,b1,b2, -, -, -, bl⟩:=f7.all3;obtain ⟨d0,d1,d2, -, -, -, dl⟩:=f8.all3;obtain ⟨k0,k1,k2, -, -, -, kl⟩:=f9.all3;simp only [aggAt] at k0 k1 k2;go_wp2_with fail;refine bodyPost_ret (v:= .tuple #[.agg #[.int .i64 x, .int .i64 (1+y)], .agg #[.int .i64 e.kind, .int .i64 e.num, .slice s1 e.kids.length c1], .agg #[.int .i64 f.kind, .int .i64 f.num, .slice s2 f.kids.length c2], .agg #[.int .i64 u.e.kind, .int .i64 u.e.num, .slice u.s u.e.kids.length u.c]]) (by simp [results,Tryz.results59,go_sem,a0,a1,b0,b1,b2,d0,d1,d2,k0,k1,k2]) rfl ?_;exact ⟨x,1+y,e,f,u.e,s1,s2,u.s,c1,c2,u.c,rfl,hre,hrf,f5.rd,HSE2.out,HSF2.out,by omega,HBW.out.trans hB⟩
 ·
  go_wp2_with fail;have HSG:=Lib.hid SG;have HE8:=Lib.hid E8
  have hXW:∀b,b<w8.heap.size∨b=w11.heap.size→b<w13.heap.size:=fun b h=>by omega
  have hWw0:w.heap.size≤w13.heap.size:=HBW.out.size;clear SG E8
  have hGb:∀m b,(fun m b=>(m=0∧b=w11.heap.size)) m b→(w.heap.size)≤b∧b<(w13).heap.size:=by
   intro m b hg
   rcases hg with ⟨rfl,hg⟩
   ·
    subst hg;have q:=E9.lt;omega
  have hGd:∀m m' b,(fun m b=>(m=0∧b=w11.heap.size)) m b→(fun m b=>(m=0∧b=w11.heap.size)) m' b→m=m':=by
   intro m m' b h h'
   rcases h with ⟨rfl,h⟩<;>rcases h' with ⟨rfl,h'⟩<;>first
    |rfl
  have hGX:∀m b,(fun m b=>(m=0∧b=w11.heap.size)) m b→(fun b=>b<w8.heap.size∨b=w11.heap.size) b:=by
   intro m b hg;exact Or.inr (by omega)
  refine region_rs [(2,0)] [(3,0)] (fun m b=>(m=0∧b=w11.heap.size)) (w.heap.size) (fun i iv vs wx=>match i with
   |0=>∃sa ca,vs 0= .agg #[.int .i64 e.kind, .int .i64 e.num, .slice sa e.kids.length ca]∧RdO w13 (fun b=>b<w8.heap.size∨b=w11.heap.size) (foot [(2,0)] [(3,0)] (fun m b=>(m=0∧b=w11.heap.size)) 4 0 iv) wx (kidsD e.kids) (.slice sa e.kids.length ca)
   |1=>vs 1= .agg #[.int .i64 f.kind, .int .i64 f.num, .slice s2 f.kids.length c2]
   |2=>∃g,vs 2= .agg #[.int .i64 7, .int .i64 0, .slice (some ⟨g,0,none⟩) 2 2]∧RdO w13 (fun b=>b<w8.heap.size∨b=w11.heap.size) (foot [(2,0)] [(3,0)] (fun m b=>(m=0∧b=w11.heap.size)) 4 2 iv) wx (kidsD [e,f]) (.slice (some ⟨g,0,none⟩) 2 2)
   |3=>Blk wx (w11.heap.size) 34 [aggAt (vs 2) 0,aggAt (vs 2) 1,aggAt (vs 2) 2]
   |_=>True) (fun i iv vs=>match i with
   |0=>∃sa ca,vs 0= .agg #[.int .i64 e.kind, .int .i64 e.num, .slice sa e.kids.length ca]
   |1=>vs 1= .agg #[.int .i64 f.kind, .int .i64 f.num, .slice s2 f.kids.length c2]
   |2=>∃g,vs 2= .agg #[.int .i64 7, .int .i64 0, .slice (some ⟨g,0,none⟩) 2 2]
   |3=>True
   |_=>True) (by kernel_rfl) (by kernel_rfl) [0,1,2,3] (by kernel_rfl) ?hbase ?hGb ?hG ?hJ ?hE ?hEE ?hstep ?hQ
  case hbase=>first|exact Nat.le_refl _|omega|(simp; omega)
  case hGb=>
   exact hGb
  case hG=>
   exact hGd
  case hJ=>
   intro i hi iv iv' vs vs' wx wx' ha hv hz hk hj;simp only [List.mem_cons,List.not_mem_nil,or_false] at hi
   rcases hi with rfl|rfl|rfl|rfl
   all_goals try exact (aG hv _).symm.trans hj
   ·
    have e0:=aG hv 0;obtain ⟨sa,ca,q1,q2⟩:=hj;exact ⟨sa,ca,e0 ▸ q1,q2.keep hz (fun b hb h1=>hk.out b hb h1) (fun b h1=>foot_agree (l:=ancs _ 4 0) (by exact of_decide_eq_true (by kernel_rfl)) ha.out h1)⟩
   ·
    have e2:=aG hv 2;obtain ⟨g,q1,q2⟩:=hj;exact ⟨g,e2 ▸ q1,q2.keep hz (fun b hb h1=>hk.out b hb h1) (fun b h1=>foot_agree (l:=ancs _ 4 2) (by exact of_decide_eq_true (by kernel_rfl)) ha.out h1)⟩
   ·
    have e2:=aG hv 2;have hj':Blk wx (w11.heap.size) 34 [aggAt (vs 2) 0,aggAt (vs 2) 1,aggAt (vs 2) 2]:=hj
    show Blk wx' (w11.heap.size) 34 [aggAt (vs' 2) 0,aggAt (vs' 2) 1,aggAt (vs' 2) 2]
    rw [←e2];exact hj'.keep (hk.out _ hj'.lt (foot_given 0 (by decide) ⟨rfl,rfl⟩))
  case hE=>
   intro i hi iv vs wx hj;simp only [List.mem_cons,List.not_mem_nil,or_false] at hi
   rcases hi with rfl|rfl|rfl|rfl
   all_goals try exact hj
   ·
    obtain ⟨sa,ca,q1, -⟩:=hj;exact ⟨sa,ca,q1⟩
   ·
    obtain ⟨g,q1, -⟩:=hj;exact ⟨g,q1⟩
   ·
    trivial
  case hEE=>
   intro i hi iv iv' vs vs' ha hv hj;simp only [List.mem_cons,List.not_mem_nil,or_false] at hi
   rcases hi with rfl|rfl|rfl|rfl
   all_goals try exact (aG hv _).symm.trans hj
   ·
    have e0:=aG hv 0;have hj':∃sa ca,vs 0= .agg #[.int .i64 e.kind, .int .i64 e.num, .slice sa e.kids.length ca]:=hj
    show ∃sa ca,vs' 0= .agg #[.int .i64 e.kind, .int .i64 e.num, .slice sa e.kids.length ca]
    rw [←e0];exact hj'
   ·
    have e2:=aG hv 2;have hj':∃g,vs 2= .agg #[.int .i64 7, .int .i64 0, .slice (some ⟨g,0,none⟩) 2 2]:=hj
    show ∃g,vs' 2= .agg #[.int .i64 7, .int .i64 0, .slice (some ⟨g,0,none⟩) 2 2]
    rw [←e2];exact hj'
   ·
    trivial
  case hstep=>
   intro i hi opr ho iv vs w1 hB hS hSo hd he hbd hsep hun K hK;simp only [List.mem_cons,List.not_mem_nil,or_false] at hi;have hzB:=hB.size;have HGb:=Lib.hid hGb;clear hGb hGd;have hat:=exAt_box (HE8.out.keep (hSo.out.block _ HE8.out.lt (fun ⟨_,_,h⟩=>by omega))) (HE.out.keep (KeptX.of_spares hSo.out (fun b _ ⟨_,_,h⟩=>Or.inr (by omega)))).rd;generalize hA:putFrom _ 0 vs _=A at hK ⊢;simp only [putFrom,puts] at hA
   rcases hi with rfl|rfl|rfl|rfl
   all_goals
    simp at ho;subst ho;subst hA
   ·
    go_wp2_with fail;have hO:KeptX (fun b=>b<w8.heap.size∨b=w11.heap.size) w13 w1:=KeptX.of_spares hSo.out (fun b _ ⟨m,hg⟩=>hGX m b hg);obtain ⟨XQ,hXQ⟩:∃XQ,XQ=OutX w13 (fun b=>b<w8.heap.size∨b=w11.heap.size) (fun b=>False) w1:=⟨_,rfl⟩
    have hXl:∀b,XQ b→b<w1.heap.size:=by rw [hXQ]; exact OutX.lt
    have hOld:∀(d:D) (v:Value),RdX (fun b=>b<w8.heap.size∨b=w11.heap.size) w13 d v→RdX XQ w1 d v:=by rw [hXQ]; exact fun d v h=>h.toOut hO
    refine (own_rdX (X:=XQ) hXl hat (by have:=HSE2.out; omega)).mono ?_;rintro e w2 ⟨sa,ca,rfl,hr,hb⟩;go_wp2_with fail;rw [hXQ] at hr;exact Onward.mk (hK (.agg #[.int .i64 e.kind, .int .i64 e.num, .slice sa e.kids.length ca]) _ _ (fun h=>by cases h) (by first|rfl|(simp only [puts])) (Spares.of_below hb) (fun iv' ag hi=>⟨sa,ca,rfl,RdO.ofX hr hb hO (fun b h=>by exact h.elim) (fun b h1 h2=>foot_new hi h1 h2)⟩))
   ·
    have E91:=E9.keep (hS.out 0 _ (by kernel_rfl) ⟨rfl,rfl⟩);have e9c0:=E91.c0;have e9z0:=E91.frozen 0;have e9c1:=E91.c1;have e9z1:=E91.frozen 1;have e9c2:=E91.c2;have e9z2:=E91.frozen 2;have e9lt:=E91.lt;go_wp2_with fail;exact Onward.mk (hK (.agg #[.int .i64 f.kind, .int .i64 f.num, .slice s2 f.kids.length c2]) _ _ (fun h=>by cases h) (by first|rfl|(simp only [puts])) (Spares.refl _) (fun iv' _ _=>rfl))
   ·
    obtain ⟨sa,ca,h0,f0⟩:=dN hd 0;have h1:vs 1= .agg #[.int .i64 f.kind, .int .i64 f.num, .slice s2 f.kids.length c2]:=dN hd 1;go_wp2_with fail;have hO:KeptX (fun b=>b<w8.heap.size∨b=w11.heap.size) w13 w1:=KeptX.of_spares hSo.out (fun b _ ⟨m,hg⟩=>hGX m b hg);obtain ⟨XQ,hXQ⟩:∃XQ,XQ=OutX w13 (fun b=>b<w8.heap.size∨b=w11.heap.size) (fun b=>(foot [(2,0)] [(3,0)] (fun m b=>(m=0∧b=w11.heap.size)) 4 0 iv) b) w1:=⟨_,rfl⟩
    have hXl:∀b,XQ b→b<w1.heap.size:=by rw [hXQ]; exact OutX.lt
    have x0:RdX XQ w1 (kidsD e.kids) (.slice sa e.kids.length ca):=by rw [hXQ]; exact f0.toX hO (fun b h=>h)
    have hOld:∀(d:D) (v:Value),RdX (fun b=>b<w8.heap.size∨b=w11.heap.size) w13 d v→RdX XQ w1 d v:=by rw [hXQ]; exact fun d v h=>h.toOut hO
    refine (pair_rdX (k:=7) (X:=XQ) hXl x0 (hOld _ _ (HF.out.less (fun b _ h=>by omega)))).mono ?_;rintro e w2 ⟨g,rfl,hr,hb⟩;go_wp2_with fail;rw [hXQ] at hr;exact Onward.mk (hK (.agg #[.int .i64 7, .int .i64 0, .slice (some ⟨g,0,none⟩) 2 2]) _ _ (fun h=>by cases h) (by first|rfl|(simp only [puts,h0,h1])) (Spares.of_below hb) (fun iv' ag hi=>⟨g,rfl,RdO.ofX hr hb hO (fun b h=>by exact foot_step (by kernel_rfl) ag h) (fun b h1 h2=>foot_new hi h1 h2)⟩))
   ·
    obtain ⟨g,h2,f2⟩:=dN hd 2;have E91:=E9.keep (hS.out 0 _ (by kernel_rfl) ⟨rfl,rfl⟩);have e9c0:=E91.c0;have e9z0:=E91.frozen 0;have e9c1:=E91.c1;have e9z1:=E91.frozen 1;have e9c2:=E91.c2;have e9z2:=E91.frozen 2;have e9lt:=E91.lt;go_wp2_with fail
    exact Onward.mk (hK undef _ _ (fun _=>rfl) (by simp only [puts,h2]) ((spares_sets (b0:=w11.heap.size) (by repeat (first|exact Spares.refl _|apply Spares.set))).more (fun b h=>Or.inl ⟨0,by decide,⟨rfl,h⟩⟩)) (fun iv' ag hi=>by
     show Blk _ (w11.heap.size) 34 [aggAt (vs 2) 0,aggAt (vs 2) 1,aggAt (vs 2) 2]
     rw [h2]
     exact (((E91.set 0 _).set 1 _).set 2 _)))
  case hQ=>
   intro iv vs wx hB hSp hd he hbd hsep;have hzB:=hB.size;obtain ⟨sa,ca,h0⟩:=dM he 0;have h1:vs 1= .agg #[.int .i64 f.kind, .int .i64 f.num, .slice s2 f.kids.length c2]:=dE hd 1;obtain ⟨g,h2,f2⟩:=dE hd 2;have f3:Blk _ (w11.heap.size) 34 [aggAt (vs 2) 0,aggAt (vs 2) 1,aggAt (vs 2) 2]:=dE hd 3;simp only [putFrom,puts];have hOq:KeptX (fun b=>b<w8.heap.size∨b=w11.heap.size) w13 wx:=KeptX.of_spares hSp.out (fun b _ ⟨m,hg⟩=>hGX m b hg);have r2:RdX (fun b=>b<w8.heap.size∨b=w11.heap.size) wx (kidsD [e,f]) (.slice (some ⟨g,0,none⟩) 2 2):=f2.done hOq (fun b hf hx=>by have q:=foot_no (l:=[0,1,2,3]) (by kernel_rfl) (by kernel_rfl) hbd.out hf; have q':=hXW b hx; omega);clear f2;rw [h2] at f3;obtain ⟨f2,hf2⟩:∃f2:Ex,f2= .mk 7 0 [e,f]:=⟨_,rfl⟩;obtain ⟨sf2,hsf2⟩:∃sf2:Option Addr,sf2=some ⟨g,0,none⟩:=⟨_,rfl⟩
   have E9n:Blk wx w11.heap.size 34 [.int .i64 f2.kind, .int .i64 f2.num, .slice sf2 f2.kids.length 2]:=by rw [hf2,hsf2]; exact f3
   have HFn:Hid (RdX (fun b=>b<w8.heap.size∨b=w11.heap.size) wx (kidsD f2.kids) (.slice sf2 f2.kids.length 2)):=by rw [hf2,hsf2]; exact r2
   have HSFn:Hid ((f2.size:Int)≤30):=by show _≤_; have:=HSF3.out; rw [hf2,Ex.size_eq]; simp only [Ex.kids,Ex.sizeL]; omega
   have ksp:=fun (b:Nat) (h:b<w13.heap.size) (hn:b≠w11.heap.size)=>hSp.out.block b h (fun ⟨_,_,q⟩=>hn q);have HEn:=Lib.hid (HE.out.keep (KeptX.of_spares hSp.out (fun b _ ⟨_,_,h⟩=>Or.inr (by omega))));have HSn:=Lib.hid (HS.out.keep (hB.mono (by omega)) (ksp sb (by omega) (by omega)));have HBn:=Lib.hid (HBW.out.trans hB);have SGn:=Lib.hid (HSG.out.keep (ksp _ HSG.out.lt (by omega)));have E8n:=Lib.hid (HE8.out.keep (ksp _ HE8.out.lt (by omega)));replace RA:=RA.keep (ksp _ (by omega) (by omega));replace RB:=RB.keep (ksp _ (by omega) (by omega));replace RC:=RC.keep (ksp _ (by omega) (by omega));replace RD:=RD.keep (ksp _ (by omega) (by omega));have n4':=hzB;obtain ⟨wy,rfl⟩:∃v,v=wx:=⟨_,rfl⟩;clear hd he hbd hsep h0 h1 h2 f3 r2 hf2 hsf2 ksp HE HF HS HBW HSG HE8 E9 HSF2 HSF3 hB hSp hOq;have HE:=HEn;have HF:=HFn;have HS:=HSn;have HBW:=HBn;have HSG:=SGn;have HE8:=E8n;have HE9:=Lib.hid E9n;have HSF2:=HSFn;clear HEn HFn HSn HBn SGn E8n E9n HSFn hXW;go_wp2_with fail;obtain ⟨hb0,xs',cs,cc,p,z,KS,hrx,hxs,hpN⟩:=HS.out;have HRX:=Lib.hid hrx;have HXS:=Lib.hid hxs;have hsW:=KS.lt;have hWw:w.heap.size≤wy.heap.size:=HBW.out.size;have HSRC0:∀w1:World,Below w.heap.size wy w1→Blk w1 sb 190 [.slice cs xs'.length cc, .int .i64 p, .int .u64 z]→SrcW B sb 20000 w1:=fun w1 hB K1=>⟨hb0,xs',cs,cc,p,z,K1,HRX.out.keep ⟨hB.size,fun i hi hn=>hB.block i (by omega)⟩,HXS.out,by omega⟩;have HSRC:=Lib.hid HSRC0;clear hrx hxs hpN HSRC0;obtain ⟨x3,hx3⟩:=mkval ?a2_3
   have hGb:∀m b,(fun m b=>(m=0∧b=sb)∨(m=1∧b=w.heap.size)∨(m=2∧b=w.heap.size+1)∨(m=3∧b=w.heap.size+1+1)∨(m=4∧b=w.heap.size+1+1+1)) m b→(w.heap.size)≤b∧b<(wy).heap.size:=by
    intro m b hg;have q:=KS.lt;have q2:=RD.lt;omega
   have hGd:∀m m' b,(fun m b=>(m=0∧b=sb)∨(m=1∧b=w.heap.size)∨(m=2∧b=w.heap.size+1)∨(m=3∧b=w.heap.size+1+1)∨(m=4∧b=w.heap.size+1+1+1)) m b→(fun m b=>(m=0∧b=sb)∨(m=1∧b=w.heap.size)∨(m=2∧b=w.heap.size+1)∨(m=3∧b=w.heap.size+1+1)∨(m=4∧b=w.heap.size+1+1+1)) m' b→m=m':=by
    intro m m' b h h';omega
   refine region_rs [] [(5,0),(6,1),(7,2),(8,3),(9,4)] (fun m b=>(m=0∧b=sb)∨(m=1∧b=w.heap.size)∨(m=2∧b=w.heap.size+1)∨(m=3∧b=w.heap.size+1+1)∨(m=4∧b=w.heap.size+1+1+1)) (w.heap.size) (fun i iv vs wx=>match i with
    |0=>vs 0= .agg #[.int .i64 x, .int .i64 (1+y)]
    |1=>vs 1= .agg #[.int .i64 e.kind, .int .i64 e.num, .slice s1 e.kids.length c1]
    |2=>vs 2= .agg #[.int .i64 f2.kind, .int .i64 f2.num, .slice sf2 f2.kids.length 2]
    |3=>vs 3=x3
    |4=>vs 4= .agg #[.int .i64 x, .int .i64 (1+y)]
    |5=>∃u,vs 5= .agg #[.int .i64 (DrawnE.e (n:=5) u).kind, .int .i64 u.e.num, .slice u.s u.e.kids.length u.c]∧FreshIn (iv 5) wx [kidsD u.e.kids] [.slice u.s u.e.kids.length u.c]∧Blk wx (sb) 190 [.slice u.cs u.cl u.cc, .int .i64 u.p, .int .u64 u.y]
    |6=>Blk wx (w.heap.size) 37 [.int .i64 x, .int .i64 (1+y)]
    |7=>Blk wx (w.heap.size+1) 34 [.int .i64 e.kind, .int .i64 e.num, .slice s1 e.kids.length c1]
    |8=>Blk wx (w.heap.size+1+1) 34 [.int .i64 f2.kind, .int .i64 f2.num, .slice sf2 f2.kids.length 2]
    |9=>Blk wx (w.heap.size+1+1+1) 34 [aggAt (vs 5) 0,aggAt (vs 5) 1,aggAt (vs 5) 2]
    |_=>True) (fun i iv vs=>match i with
    |0=>vs 0= .agg #[.int .i64 x, .int .i64 (1+y)]
    |1=>vs 1= .agg #[.int .i64 e.kind, .int .i64 e.num, .slice s1 e.kids.length c1]
    |2=>vs 2= .agg #[.int .i64 f2.kind, .int .i64 f2.num, .slice sf2 f2.kids.length 2]
    |3=>vs 3=x3
    |4=>vs 4= .agg #[.int .i64 x, .int .i64 (1+y)]
    |5=>∃u,vs 5= .agg #[.int .i64 (DrawnE.e (n:=5) u).kind, .int .i64 u.e.num, .slice u.s u.e.kids.length u.c]
    |6=>True
    |7=>True
    |8=>True
    |9=>True
    |_=>True) (by kernel_rfl) (by kernel_rfl) [0,1,2,3,4,5,6,7,8,9] (by kernel_rfl) ?hbase ?hGb ?hG ?hJ ?hE ?hEE ?hstep ?hQ
   case hbase=>first|exact Nat.le_refl _|omega|(simp; omega)
   case hGb=>
    exact hGb
   case hG=>
    exact hGd
   case hJ=>
    intro i hi iv iv' vs vs' wx wx' ha hv hz hk hj;simp only [List.mem_cons,List.not_mem_nil,or_false] at hi
    rcases hi with rfl|rfl|rfl|rfl|rfl|rfl|rfl|rfl|rfl|rfl
    all_goals try exact (aG hv _).symm.trans hj
    ·
     have e5:=aG hv 5;have g5:=aG ha 5;obtain ⟨u,q1,q2,q3⟩:=hj;exact ⟨u,e5 ▸ q1,g5 ▸ q2.keep (fun b hb h1 h2=>hk.out b hb (foot_own h1 h2)),q3.keep (hk.out _ q3.lt (foot_given 0 (by decide) (Or.inl ⟨rfl,rfl⟩)))⟩
    ·
     have hj':Blk wx (w.heap.size) 37 [.int .i64 x, .int .i64 (1+y)]:=hj
     show Blk wx' (w.heap.size) 37 [.int .i64 x, .int .i64 (1+y)]
     exact hj'.keep (hk.out _ hj'.lt (foot_given 1 (by decide) (Or.inr (Or.inl ⟨rfl,rfl⟩))))
    ·
     have hj':Blk wx (w.heap.size+1) 34 [.int .i64 e.kind, .int .i64 e.num, .slice s1 e.kids.length c1]:=hj
     show Blk wx' (w.heap.size+1) 34 [.int .i64 e.kind, .int .i64 e.num, .slice s1 e.kids.length c1]
     exact hj'.keep (hk.out _ hj'.lt (foot_given 2 (by decide) (Or.inr (Or.inr (Or.inl ⟨rfl,rfl⟩)))))
    ·
     have hj':Blk wx (w.heap.size+1+1) 34 [.int .i64 f2.kind, .int .i64 f2.num, .slice sf2 f2.kids.length 2]:=hj
     show Blk wx' (w.heap.size+1+1) 34 [.int .i64 f2.kind, .int .i64 f2.num, .slice sf2 f2.kids.length 2]
     exact hj'.keep (hk.out _ hj'.lt (foot_given 3 (by decide) (Or.inr (Or.inr (Or.inr (Or.inl ⟨rfl,rfl⟩))))))
    ·
     have e5:=aG hv 5;have hj':Blk wx (w.heap.size+1+1+1) 34 [aggAt (vs 5) 0,aggAt (vs 5) 1,aggAt (vs 5) 2]:=hj
     show Blk wx' (w.heap.size+1+1+1) 34 [aggAt (vs' 5) 0,aggAt (vs' 5) 1,aggAt (vs' 5) 2]
     rw [←e5];exact hj'.keep (hk.out _ hj'.lt (foot_given 4 (by decide) (Or.inr (Or.inr (Or.inr (Or.inr ⟨rfl,rfl⟩))))))
   case hE=>
    intro i hi iv vs wx hj;simp only [List.mem_cons,List.not_mem_nil,or_false] at hi
    rcases hi with rfl|rfl|rfl|rfl|rfl|rfl|rfl|rfl|rfl|rfl
    all_goals try exact hj
    ·
     obtain ⟨u,q1, -⟩:=hj;exact ⟨u,q1⟩
    ·
     trivial
    ·
     trivial
    ·
     trivial
    ·
     trivial
   case hEE=>
    intro i hi iv iv' vs vs' ha hv hj;simp only [List.mem_cons,List.not_mem_nil,or_false] at hi
    rcases hi with rfl|rfl|rfl|rfl|rfl|rfl|rfl|rfl|rfl|rfl
    all_goals try exact (aG hv _).symm.trans hj
    ·
     have e5:=aG hv 5;have hj':∃u,vs 5= .agg #[.int .i64 (DrawnE.e (n:=5) u).kind, .int .i64 u.e.num, .slice u.s u.e.kids.length u.c]:=hj
     show ∃u,vs' 5= .agg #[.int .i64 (DrawnE.e (n:=5) u).kind, .int .i64 u.e.num, .slice u.s u.e.kids.length u.c]
     rw [←e5];exact hj'
    ·
     trivial
    ·
     trivial
    ·
     trivial
    ·
     trivial
   case hstep=>
    intro i hi opr ho iv vs w1 hB hS hSo hd he hbd hsep hun K hK;simp only [List.mem_cons,List.not_mem_nil,or_false] at hi;have hzB:=hB.size;have HGb:=Lib.hid hGb;clear hGb hGd;have hKeep:∀g,g<wy.heap.size→g≠sb→w.heap.size+1+1+1<g→w1.heap[g]? =wy.heap[g]? :=fun g hg h1 h2=>hSo.out.block g hg (fun ⟨m,hm⟩=>by rcases hm with ⟨_,h⟩|⟨_,h⟩|⟨_,h⟩|⟨_,h⟩|⟨_,h⟩<;>omega);obtain ⟨sg0,sg1,sgl⟩:=(HSG.out.keep (hKeep _ HSG.out.lt (by omega) (by omega))).all2;obtain ⟨ea0,ea1,ea2, -, -, -, eal⟩:=(HE8.out.keep (hKeep _ HE8.out.lt (by omega) (by omega))).all3;obtain ⟨eb0,eb1,eb2, -, -, -, ebl⟩:=(HE9.out.keep (hKeep _ HE9.out.lt (by omega) (by omega))).all3;clear hKeep;generalize hA:putFrom _ 0 vs _=A at hK ⊢;simp only [putFrom,puts] at hA
    rcases hi with rfl|rfl|rfl|rfl|rfl|rfl|rfl|rfl|rfl|rfl
    all_goals
     simp at ho;subst ho;subst hA
    ·
     go_wp2_with fail;exact Onward.mk (hK (.agg #[.int .i64 x, .int .i64 (1+y)]) _ _ (fun h=>by cases h) (by first|rfl|(simp only [puts])) (Spares.refl _) (fun iv' _ _=>rfl))
    ·
     go_wp2_with fail;exact Onward.mk (hK (.agg #[.int .i64 e.kind, .int .i64 e.num, .slice s1 e.kids.length c1]) _ _ (fun h=>by cases h) (by first|rfl|(simp only [puts])) (Spares.refl _) (fun iv' _ _=>rfl))
    ·
     go_wp2_with fail;exact Onward.mk (hK (.agg #[.int .i64 f2.kind, .int .i64 f2.num, .slice sf2 f2.kids.length 2]) _ _ (fun h=>by cases h) (by first|rfl|(simp only [puts])) (Spares.refl _) (fun iv' _ _=>rfl))
    ·
     go_wp2_with fail;refine Onward.mk (hK ?val2_3 _ _ (fun h=>by cases h) ?eqA (Spares.refl _) (fun iv' _ _=> ?ja))
     case eqA=>first|rfl|(simp only [puts]; rfl)
     case ja=>exact hx3.out.symm
    ·
     go_wp2_with fail;exact Onward.mk (hK (.agg #[.int .i64 x, .int .i64 (1+y)]) _ _ (fun h=>by cases h) (by first|rfl|(simp only [puts])) (Spares.refl _) (fun iv' _ _=>rfl))
    ·
     have h3:=(dN hd 3).trans hx3.out;have h4:vs 4= .agg #[.int .i64 x, .int .i64 (1+y)]:=dN hd 4;have KS1:=KS.keep (hS.out 0 _ (by kernel_rfl) (Or.inl ⟨rfl,rfl⟩));have ksc0:=KS1.c0;have ksz0:=KS1.frozen 0;have ksc1:=KS1.c1;have ksz1:=KS1.frozen 1;have ksc2:=KS1.c2;have ksz2:=KS1.frozen 2;have kslt:=KS1.lt;go_wp2_with fail;refine (drawn_at (n:=5) (B:=B) (N:=20000) (t:=x) (a:=1+y) (HSRC.out w1 hB KS1) (by omega) (by omega) Hsig.out (by omega) (by omega)).mono ?_;rintro e w2 ⟨u,rfl,hf,hs,hbk⟩;go_wp2_with fail;exact Onward.mk (hK (.agg #[.int .i64 (DrawnE.e (n:=5) u).kind, .int .i64 u.e.num, .slice u.s u.e.kids.length u.c]) _ _ (fun h=>by cases h) (by first|rfl|(simp only [puts,h3,h4])) (hs.more (fun b h=>Or.inl ⟨0,by decide,(Or.inl ⟨rfl,h⟩)⟩)) (fun iv' _ hi=>⟨u,rfl,by rw [hi]; exact Freshs.stretch (hf),hbk⟩))
    ·
     have h0:vs 0= .agg #[.int .i64 x, .int .i64 (1+y)]:=dN hd 0;have RA1:=RA.keep (hS.out 1 _ (by kernel_rfl) (Or.inr (Or.inl ⟨rfl,rfl⟩)));have rac0:=RA1.c0;have raz0:=RA1.frozen 0;have rac1:=RA1.c1;have raz1:=RA1.frozen 1;have ralt:=RA1.lt;go_wp2_with fail
     exact Onward.mk (hK undef _ _ (fun _=>rfl) (by simp only [puts,h0]) ((spares_sets (b0:=w.heap.size) (by repeat (first|exact Spares.refl _|apply Spares.set))).more (fun b h=>Or.inl ⟨1,by decide,(Or.inr (Or.inl ⟨rfl,h⟩))⟩)) (fun iv' ag hi=>by
      show Blk _ (w.heap.size) 37 [.int .i64 x, .int .i64 (1+y)]
      exact ((RA1.set 0 _).set 1 _)))
    ·
     have h1:vs 1= .agg #[.int .i64 e.kind, .int .i64 e.num, .slice s1 e.kids.length c1]:=dN hd 1;have RB1:=RB.keep (hS.out 2 _ (by kernel_rfl) (Or.inr (Or.inr (Or.inl ⟨rfl,rfl⟩))));have rbc0:=RB1.c0;have rbz0:=RB1.frozen 0;have rbc1:=RB1.c1;have rbz1:=RB1.frozen 1;have rbc2:=RB1.c2;have rbz2:=RB1.frozen 2;have rblt:=RB1.lt;go_wp2_with fail
     exact Onward.mk (hK undef _ _ (fun _=>rfl) (by simp only [puts,h1]) ((spares_sets (b0:=w.heap.size+1) (by repeat (first|exact Spares.refl _|apply Spares.set))).more (fun b h=>Or.inl ⟨2,by decide,(Or.inr (Or.inr (Or.inl ⟨rfl,h⟩)))⟩)) (fun iv' ag hi=>by
      show Blk _ (w.heap.size+1) 34 [.int .i64 e.kind, .int .i64 e.num, .slice s1 e.kids.length c1]
      exact (((RB1.set 0 _).set 1 _).set 2 _)))
    ·
     have h2:vs 2= .agg #[.int .i64 f2.kind, .int .i64 f2.num, .slice sf2 f2.kids.length 2]:=dN hd 2;have RC1:=RC.keep (hS.out 3 _ (by kernel_rfl) (Or.inr (Or.inr (Or.inr (Or.inl ⟨rfl,rfl⟩)))));have rcc0:=RC1.c0;have rcz0:=RC1.frozen 0;have rcc1:=RC1.c1;have rcz1:=RC1.frozen 1;have rcc2:=RC1.c2;have rcz2:=RC1.frozen 2;have rclt:=RC1.lt;go_wp2_with fail
     exact Onward.mk (hK undef _ _ (fun _=>rfl) (by simp only [puts,h2]) ((spares_sets (b0:=w.heap.size+1+1) (by repeat (first|exact Spares.refl _|apply Spares.set))).more (fun b h=>Or.inl ⟨3,by decide,(Or.inr (Or.inr (Or.inr (Or.inl ⟨rfl,h⟩))))⟩)) (fun iv' ag hi=>by
      show Blk _ (w.heap.size+1+1) 34 [.int .i64 f2.kind, .int .i64 f2.num, .slice sf2 f2.kids.length 2]
      exact (((RC1.set 0 _).set 1 _).set 2 _)))
    ·
     obtain ⟨u,h5,f5,fb5⟩:=dN hd 5;have RD1:=RD.keep (hS.out 4 _ (by kernel_rfl) (Or.inr (Or.inr (Or.inr (Or.inr ⟨rfl,rfl⟩)))));have rdc0:=RD1.c0;have rdz0:=RD1.frozen 0;have rdc1:=RD1.c1;have rdz1:=RD1.frozen 1;have rdc2:=RD1.c2;have rdz2:=RD1.frozen 2;have rdlt:=RD1.lt;have h5':=h5;go_wp2_with fail
     exact Onward.mk (hK undef _ _ (fun _=>rfl) (by simp only [puts,h5]) ((spares_sets (b0:=w.heap.size+1+1+1) (by repeat (first|exact Spares.refl _|apply Spares.set))).more (fun b h=>Or.inl ⟨4,by decide,(Or.inr (Or.inr (Or.inr (Or.inr ⟨rfl,h⟩))))⟩)) (fun iv' ag hi=>by
      show Blk _ (w.heap.size+1+1+1) 34 [aggAt (vs 5) 0,aggAt (vs 5) 1,aggAt (vs 5) 2]
      rw [h5]
      exact (((RD1.set 0 _).set 1 _).set 2 _)))
   case hQ=>
    intro iv vs wx hB hSp hd he hbd hsep;have hzB:=hB.size;have h0:vs 0= .agg #[.int .i64 x, .int .i64 (1+y)]:=dE hd 0;have h1:vs 1= .agg #[.int .i64 e.kind, .int .i64 e.num, .slice s1 e.kids.length c1]:=dE hd 1;have h2:vs 2= .agg #[.int .i64 f2.kind, .int .i64 f2.num, .slice sf2 f2.kids.length 2]:=dE hd 2;have h3:=(dE hd 3).trans hx3.out;have h4:vs 4= .agg #[.int .i64 x, .int .i64 (1+y)]:=dE hd 4;obtain ⟨u,h5,f5,fb5⟩:=dE hd 5;have f6:Blk _ (w.heap.size) 37 [.int .i64 x, .int .i64 (1+y)]:=dE hd 6;have f7:Blk _ (w.heap.size+1) 34 [.int .i64 e.kind, .int .i64 e.num, .slice s1 e.kids.length c1]:=dE hd 7;have f8:Blk _ (w.heap.size+1+1) 34 [.int .i64 f2.kind, .int .i64 f2.num, .slice sf2 f2.kids.length 2]:=dE hd 8;have f9:Blk _ (w.heap.size+1+1+1) 34 [aggAt (vs 5) 0,aggAt (vs 5) 1,aggAt (vs 5) 2]:=dE hd 9;simp only [putFrom,puts];rw [h5] at f9
    have hG8:∀b,(∃m,(m=0∧b=sb)∨(m=1∧b=w.heap.size)∨(m=2∧b=w.heap.size+1)∨(m=3∧b=w.heap.size+1+1)∨(m=4∧b=w.heap.size+1+1+1))→b<w8.heap.size:=fun b ⟨m,hm⟩=>by omega
    have hre:=(HE.out.keep (KeptX.of_spares hSp.out (fun b _ h=>Or.inl (by have:=hG8 b h; omega)))).rd;have hrf:=(HF.out.keep (KeptX.of_spares hSp.out (fun b _ h=>Or.inl (by have:=hG8 b h; omega)))).rd;have hu:=u.h;obtain ⟨a0,a1,al⟩:=f6.all2;obtain ⟨b0,b1,b2, -, -, -, bl⟩:=f7.all3;obtain ⟨d0,d1,d2, -, -, -, dl⟩:=f8.all3;obtain ⟨k0,k1,k2, -, -, -, kl⟩:=f9.all3;simp only [aggAt] at k0 k1 k2;go_wp2_with fail;refine bodyPost_ret (v:= .tuple #[.agg #[.int .i64 x, .int .i64 (1+y)], .agg #[.int .i64 e.kind, .int .i64 e.num, .slice s1 e.kids.length c1], .agg #[.int .i64 f2.kind, .int .i64 f2.num, .slice sf2 f2.kids.length 2], .agg #[.int .i64 u.e.kind, .int .i64 u.e.num, .slice u.s u.e.kids.length u.c]]) (by simp [results,Tryz.results59,go_sem,a0,a1,b0,b1,b2,d0,d1,d2,k0,k1,k2]) rfl ?_;exact ⟨x,1+y,e,f2,u.e,s1,sf2,u.s,c1,2,u.c,rfl,hre,hrf,f5.rd,HSE2.out,HSF2.out,by omega,HBW.out.trans hB⟩
end Go.Proofs.YtfopdcdbelaapaaGreatDoor
