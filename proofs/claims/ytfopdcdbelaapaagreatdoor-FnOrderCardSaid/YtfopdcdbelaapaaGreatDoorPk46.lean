/-
  Parts of a proof, joined: Ord. No condition.
-/
import Derived.Test.YtfopdcdbelaapaaGreatDoorPk13
import Derived.Test.YtfopdcdbelaapaaGreatDoorPk45
namespace Go.Proofs.YtfopdcdbelaapaaGreatDoor
set_option linter.unusedVariables false
set_option linter.unusedSimpArgs false
open Go.ChangeShapes Go.WideShapes Go.ChangeAt Go.RowKit Go.Deep Go.Sort
theorem Later.left {w:World} {F G:World→Prop} (h:Later w (fun w=>F w∧G w)):Later w F:=⟨fun w' b=>(h.ok w' b).1⟩
theorem atMost_is {t a:Int} {e f:Ex} {s s':Option Addr} {c c':Nat} {w:World} {v:Bool} {k:Int} (hv:atR t a e f=v) (hk:bothC t a e f=k) (hr:Rd w (kidsD e.kids) (.slice s e.kids.length c)) (hr':Rd w (kidsD f.kids) (.slice s' f.kids.length c')) (h1:e.size≤1000) (h2:f.size≤1000):
  Calls Tryz.prog 63 #[.agg #[.int .i64 t, .int .i64 a], .agg #[.int .i64 e.kind, .int .i64 e.num, .slice s e.kids.length c], .agg #[.int .i64 f.kind, .int .i64 f.num, .slice s' f.kids.length c']] w fun z w'=>z= .returned (.tuple #[.bool v, .int .i64 k])∧Below w.heap.size w w':=by
 have:=implAtMost_l (t:=t) (a:=a) hr hr' h1 h2;rw [hv,hk] at this;exact this
set_option maxRecDepth 100000 in
set_option maxHeartbeats 8000000 in
theorem law_Order {xs ys:List Int} {s s':Option Addr} {c c':Nat} {w:World} (hr:Rd w (bytesD xs) (.slice s xs.length c)) (hx:∀x∈xs,0≤x∧x≤255) (hr':Rd w (bytesD ys) (.slice s' ys.length c')) (hx':∀x∈ys,0≤x∧x≤255):
  Calls Tryz.prog 13 #[.slice s xs.length c, .slice s' ys.length c'] w fun f w'=>f= .returned (.bool true)∧Below w.heap.size w w':=by
 obtain ⟨-, hl1,hl2, -⟩:=hr.sl_at;obtain ⟨-, hl3,hl4, -⟩:=hr'.sl_at;have HX:=Lib.hid hx;have HX':=Lib.hid hx';have HR:=Lib.hid hr;have HR':=Lib.hid hr';have HL:=Lib.hid (And.intro hl1 (And.intro hl2 (And.intro hl3 hl4)));clear hx hx' hr hr' hl1 hl2 hl3 hl4
 go_enter Tryz.func13,Tryz.ntmps13
 go_wp2_with fail;refine (a2Long_i HL.out.1 HL.out.2.1 HL.out.2.2.1 HL.out.2.2.2).mono ?_;rintro z wq ⟨rfl,hwq⟩;subst hwq;obtain ⟨v,hv⟩:∃v,(decide (3000<xs.length)||decide (3000<ys.length))=v:=⟨_,rfl⟩;rw [hv];clear hv
 cases v
 rotate_left
 ·
  go_wp2_with fail;go_ret;exact ⟨rfl,Below.refl _ _⟩
 go_wp2_with fail;refine (a2Small_i HR.out HX.out).mono ?_;rintro z wa ⟨t,a,e,f,h,s1,s2,s3,c1,c2,c3,rfl,he,hf,hh,z1,z2,z3,hb⟩;have HE:=Lib.hid (((Later.rd he).and (Later.rd hf)).and (Later.rd hh));have HB0:=Lib.hid hb;have hza:=hb.size;clear he hf hh hb;go_wp2_with fail;obtain ⟨w2,e2,B5,hb2,hz2⟩:=box2 wa 37 (.int .i64 t) (.int .i64 a);rw [e2];obtain ⟨w3,e3,B6,hb3,hz3⟩:=box3 w2 34 (.int .i64 e.kind) (.int .i64 e.num) (.slice s1 e.kids.length c1);rw [e3];obtain ⟨w4,e4,B7,hb4,hz4⟩:=box3 w3 34 (.int .i64 f.kind) (.int .i64 f.num) (.slice s2 f.kids.length c2);rw [e4];obtain ⟨wb,e5,B8,hb5,hz5⟩:=box3 w4 34 (.int .i64 h.kind) (.int .i64 h.num) (.slice s3 h.kids.length c3);rw [e5];rw [hz2] at B6;rw [hz3,hz2] at B7;rw [hz4,hz3,hz2] at B8;have hbB2:=hb2.trans (((hb3.mono (by omega)).trans (hb4.mono (by omega))).trans (hb5.mono (by omega)));replace B5:=B5.below ((hb3.trans (hb4.mono (by omega))).trans (hb5.mono (by omega)));replace B6:=B6.below (hb4.trans (hb5.mono (by omega)));replace B7:=B7.below hb5;have HB1:=Lib.hid (HB0.out.trans (hbB2.mono hza));have HF:=Lib.hid (((((HE.out.on hbB2).and (Later.blk B5)).and (Later.blk B6)).and (Later.blk B7)).and (Later.blk B8));clear e2 e3 e4 e5 hb2 hb3 hb4 hb5 hz2 hz3 hz4 hz5 hbB2 B5 B6 B7 B8 HE HB0 hza;obtain ⟨k0,hk0⟩:∃k,bothC t a e f=k:=⟨_,rfl⟩;obtain ⟨k9,hk9⟩:∃k,bothC t a f e=k:=⟨_,rfl⟩;obtain ⟨x,hx⟩:∃b,atR t a e f=b:=⟨_,rfl⟩;obtain ⟨y,hy⟩:∃b,atR t a f e=b:=⟨_,rfl⟩;obtain ⟨q,hq⟩:∃b,eqlR t a e f=b:=⟨_,rfl⟩;have HV:=Lib.hid (And.intro (And.intro (And.intro hk0 hk9) (And.intro hx hy)) hq);clear hk0 hk9 hx hy hq;refine (specAtMost_l HF.out.now.1.1.1.1.1.1 HF.out.now.1.1.1.1.1.2 (by omega) (by omega)).mono ?_;rintro z v1 ⟨rfl,hb⟩;rw [HV.out.1.1.1,HV.out.1.2.1];replace HF:=Lib.hid (HF.out.on hb);replace HB1:=Lib.hid (HB1.out.trans (hb.mono HB1.out.size));clear hb;obtain ⟨⟨⟨⟨⟨⟨-, -⟩, -⟩,g5⟩,g6⟩,g7⟩,g8⟩:=HF.out.now;obtain ⟨a50,a51,l5⟩:=g5.all2;obtain ⟨a60,a61,a62, -, -, -, l6⟩:=g6.all3;obtain ⟨a70,a71,a72, -, -, -, l7⟩:=g7.all3;clear g5 g6 g7 g8;go_wp2_with fail;clear a50 a51 l5 a60 a61 a62 l6 a70 a71 a72 l7;refine (atMost_is HV.out.1.2.1 HV.out.1.1.1 HF.out.now.1.1.1.1.1.1 HF.out.now.1.1.1.1.1.2 (by omega) (by omega)).mono ?_;rintro z v2 ⟨rfl,hb⟩;replace HF:=Lib.hid (HF.out.on hb);replace HB1:=Lib.hid (HB1.out.trans (hb.mono HB1.out.size));clear hb;obtain ⟨⟨⟨⟨⟨⟨-, -⟩, -⟩,g5⟩,g6⟩,g7⟩,g8⟩:=HF.out.now;obtain ⟨a50,a51,l5⟩:=g5.all2;obtain ⟨a60,a61,a62, -, -, -, l6⟩:=g6.all3;obtain ⟨a70,a71,a72, -, -, -, l7⟩:=g7.all3;clear g5 g6 g7 g8;go_wp2_with fail;clear a50 a51 l5 a60 a61 a62 l6 a70 a71 a72 l7;refine (atMost_is HV.out.1.2.2 HV.out.1.1.2 HF.out.now.1.1.1.1.1.2 HF.out.now.1.1.1.1.1.1 (by omega) (by omega)).mono ?_;rintro z v3 ⟨rfl,hb⟩;replace HF:=Lib.hid (HF.out.on hb);replace HB1:=Lib.hid (HB1.out.trans (hb.mono HB1.out.size));clear hb;obtain ⟨⟨⟨⟨⟨⟨-, -⟩, -⟩,g5⟩,g6⟩,g7⟩,g8⟩:=HF.out.now;obtain ⟨a50,a51,l5⟩:=g5.all2;obtain ⟨a60,a61,a62, -, -, -, l6⟩:=g6.all3;obtain ⟨a70,a71,a72, -, -, -, l7⟩:=g7.all3;clear g5 g6 g7 g8;go_wp2_with fail;clear a50 a51 l5 a60 a61 a62 l6 a70 a71 a72 l7;refine (a2Equal_i HF.out.now.1.1.1.1.1.1 HF.out.now.1.1.1.1.1.2 (by omega) (by omega)).mono ?_;rintro z v4 ⟨rfl,hb⟩;rw [HV.out.2];replace HF:=Lib.hid (HF.out.on hb);replace HB1:=Lib.hid (HB1.out.trans (hb.mono HB1.out.size));clear hb;obtain ⟨⟨⟨⟨⟨⟨-, -⟩, -⟩,g5⟩,g6⟩,g7⟩,g8⟩:=HF.out.now;obtain ⟨a50,a51,l5⟩:=g5.all2;obtain ⟨a60,a61,a62, -, -, -, l6⟩:=g6.all3;obtain ⟨a70,a71,a72, -, -, -, l7⟩:=g7.all3;clear g5 g6 g7 g8;go_wp2_with fail;clear a50 a51 l5 a60 a61 a62 l6 a70 a71 a72 l7;refine (specAtMost_l HF.out.now.1.1.1.1.1.2 HF.out.now.1.1.1.1.1.1 (by omega) (by omega)).mono ?_;rintro z v5 ⟨rfl,hb⟩;rw [HV.out.1.1.2,HV.out.1.2.2];replace HF:=Lib.hid (HF.out.on hb);replace HB1:=Lib.hid (HB1.out.trans (hb.mono HB1.out.size));clear hb
 have q0:(k0 !=k0)=false:=by simp
 have q9:(k9 !=k9)=false:=by simp
 have hqv:0≤q:=by
  rw [←HV.out.2];unfold eqlR
  split
  ·
   split<;>omega
  ·
   omega
 by_cases c0:k0=0
 rotate_left
 ·
  have q1:(k0 !=0)=true:=by simpa using c0
  clear c0;go_wp2_with fail;go_ret;exact ⟨rfl,HB1.out⟩
 subst c0;have HC0:=Lib.hid HV.out.1.1.1
 obtain rfl:k9=0:=by rw [←HV.out.1.1.2]; exact bothC_swap HC0.out
 have hqe:(x&&y)=(q==1):=by
  have h1:=or_anti HC0.out;rw [HV.out.1.2.1,HV.out.1.2.2] at h1;rw [h1,←HV.out.2];unfold eqlR;rw [if_pos HC0.out]
  cases eqR t a e f<;>rfl
 have q8:(q==1)=(x&&y):=hqe.symm
 have q7:decide (q<0)=false:=by simpa using hqv
 clear hqe hqv
 cases x
 ·
  rw [Bool.false_and] at q8;obtain ⟨⟨⟨⟨⟨⟨-, -⟩, -⟩,g5⟩,g6⟩,g7⟩,g8⟩:=HF.out.now;obtain ⟨a60,a61,a62, -, -, -, l6⟩:=g6.all3;obtain ⟨a70,a71,a72, -, -, -, l7⟩:=g7.all3;clear g5 g6 g7 g8;go_wp2_with fail;clear a60 a61 a62 l6 a70 a71 a72 l7;refine (a2Pair_l (k:=6) (x:=f) (y:=e) HF.out.now.1.1.1.1.1.2 HF.out.now.1.1.1.1.1.1 (by omega) (by omega)).mono ?_;rintro z v6 ⟨sm,s7,c7,rfl,hsm,hrs,hb⟩;have HSM:=Lib.hid hsm
  have hsz:sm.size≤100:=by rw [size_pairE hsm]; omega
  obtain ⟨k3,hk3⟩:∃k,bothC t a e sm=k:=⟨_,rfl⟩;obtain ⟨u3,hu3⟩:∃b,atR t a e sm=b:=⟨_,rfl⟩
  have hs3:((k3==0)=true∧u3=true)∨(k3==0)=false:=by
   by_cases c:k3=0
   ·
    refine Or.inl ⟨by simp [c], ?_⟩;rw [←hu3,hsm];exact or_sum (f:=f) (by rw [←c,←hk3,hsm]; rfl)
   ·
    exact Or.inr (by simpa using c)
  have HK3:=Lib.hid (And.intro hu3 hk3);have hrn:=Later.rd hrs;have HFn:=HF.out.on hb;have HBn:=HB1.out.trans (hb.mono HB1.out.size);clear hb hrs hsm hk3 hu3 HF HB1;obtain ⟨v6',e7,B18,hb7,hz7⟩:=box3 v6 34 (.int .i64 sm.kind) (.int .i64 sm.num) (.slice s7 sm.kids.length c7);obtain ⟨b18,hbb⟩:∃b,v6.heap.size=b:=⟨_,rfl⟩;rw [hbb] at B18;have HF:=Lib.hid (((HFn.on hb7).and (hrn.on hb7)).and (Later.blk B18));have HB1:=Lib.hid (HBn.trans (hb7.mono HBn.size));clear hb7 hz7 HFn HBn hrn;obtain ⟨⟨⟨⟨⟨⟨⟨⟨-, -⟩, -⟩,g5⟩,g6⟩,g7⟩,g8⟩, -⟩, -⟩:=HF.out.now;obtain ⟨a50,a51,l5⟩:=g5.all2;obtain ⟨a60,a61,a62, -, -, -, l6⟩:=g6.all3;obtain ⟨aS0,aS1,aS2, -, -, -, lS⟩:=B18.all3;clear g5 g6 g7 g8 B18;go_wp2_with fail;clear a50 a51 l5 a60 a61 a62 l6 aS0 aS1 aS2 lS e7 hbb;refine (atMost_is HK3.out.1 HK3.out.2 HF.out.now.1.1.1.1.1.1.1.1 HF.out.now.1.2 (by omega) (by omega)).mono ?_;rintro z v7 ⟨rfl,hb⟩;replace HF:=Lib.hid (HF.out.on hb);replace HB1:=Lib.hid (HB1.out.trans (hb.mono HB1.out.size));clear hb
  rcases hs3 with ⟨qk,rfl⟩|qk
  all_goals
   go_wp2_with fail;go_ret;exact ⟨rfl,HB1.out⟩
 ·
  rw [Bool.true_and] at q8;subst q8;have HX1:Hid (atR t a e f=true):=HV.out.1.2.1;obtain ⟨⟨⟨⟨⟨⟨-, -⟩, -⟩,g5⟩,g6⟩,g7⟩,g8⟩:=HF.out.now;obtain ⟨a60,a61,a62, -, -, -, l6⟩:=g6.all3;obtain ⟨a70,a71,a72, -, -, -, l7⟩:=g7.all3;clear g5 g6 g7 g8;go_wp2_with fail;clear a60 a61 a62 l6 a70 a71 a72 l7;refine (a2Pair_l (k:=6) (x:=f) (y:=e) HF.out.now.1.1.1.1.1.2 HF.out.now.1.1.1.1.1.1 (by omega) (by omega)).mono ?_;rintro z v6 ⟨sm,s7,c7,rfl,hsm,hrs,hb⟩;have HSM:=Lib.hid hsm
  have hsz:sm.size≤100:=by rw [size_pairE hsm]; omega
  obtain ⟨k3,hk3⟩:∃k,bothC t a e sm=k:=⟨_,rfl⟩;obtain ⟨u3,hu3⟩:∃b,atR t a e sm=b:=⟨_,rfl⟩
  have hs3:((k3==0)=true∧u3=true)∨(k3==0)=false:=by
   by_cases c:k3=0
   ·
    refine Or.inl ⟨by simp [c], ?_⟩;rw [←hu3,hsm];exact or_sum (f:=f) (by rw [←c,←hk3,hsm]; rfl)
   ·
    exact Or.inr (by simpa using c)
  have HK3:=Lib.hid (And.intro hu3 hk3);have hrn:=Later.rd hrs;have HFn:=HF.out.on hb;have HBn:=HB1.out.trans (hb.mono HB1.out.size);clear hb hrs hsm hk3 hu3 HF HB1;obtain ⟨v6',e7,B18,hb7,hz7⟩:=box3 v6 34 (.int .i64 sm.kind) (.int .i64 sm.num) (.slice s7 sm.kids.length c7);obtain ⟨b18,hbb⟩:∃b,v6.heap.size=b:=⟨_,rfl⟩;rw [hbb] at B18;have HF:=Lib.hid (((HFn.on hb7).and (hrn.on hb7)).and (Later.blk B18));have HB1:=Lib.hid (HBn.trans (hb7.mono HBn.size));clear hb7 hz7 HFn HBn hrn;obtain ⟨⟨⟨⟨⟨⟨⟨⟨-, -⟩, -⟩,g5⟩,g6⟩,g7⟩,g8⟩, -⟩, -⟩:=HF.out.now;obtain ⟨a50,a51,l5⟩:=g5.all2;obtain ⟨a60,a61,a62, -, -, -, l6⟩:=g6.all3;obtain ⟨aS0,aS1,aS2, -, -, -, lS⟩:=B18.all3;clear g5 g6 g7 g8 B18;go_wp2_with fail;clear a50 a51 l5 a60 a61 a62 l6 aS0 aS1 aS2 lS e7 hbb;refine (atMost_is HK3.out.1 HK3.out.2 HF.out.now.1.1.1.1.1.1.1.1 HF.out.now.1.2 (by omega) (by omega)).mono ?_;rintro z v7 ⟨rfl,hb⟩;replace HF:=Lib.hid (HF.out.on hb);replace HB1:=Lib.hid (HB1.out.trans (hb.mono HB1.out.size));clear hb
  rcases hs3 with ⟨qk,rfl⟩|qk
  all_goals
   obtain ⟨⟨⟨⟨⟨⟨⟨⟨-, -⟩, -⟩,g5⟩,g6⟩,g7⟩,g8⟩, -⟩,gS⟩:=HF.out.now;obtain ⟨a50,a51,l5⟩:=g5.all2;obtain ⟨a70,a71,a72, -, -, -, l7⟩:=g7.all3;obtain ⟨aS0,aS1,aS2, -, -, -, lS⟩:=gS.all3;clear g5 g6 g7 g8 gS;go_wp2_with fail;clear a50 a51 l5 a70 a71 a72 l7 aS0 aS1 aS2 lS;refine (never_no (by rw [HSM.out]; exact or_absorb HC0.out HX1.out) HF.out.now.1.2 HF.out.now.1.1.1.1.1.1.1.2 (by omega) (by omega)).mono ?_;rintro z v8 ⟨rfl,hb⟩;replace HF:=Lib.hid (HF.out.on hb);replace HB1:=Lib.hid (HB1.out.trans (hb.mono HB1.out.size));clear hb;have HFn:=Lib.hid (Later.left (Later.left HF.out));clear HF;have HF:=HFn;clear HFn;go_wp2_with fail;obtain ⟨up1,hup1⟩:∃b,atR t a (.mk 7 0 [e,h]) (.mk 7 0 [f,h])=b:=⟨_,rfl⟩;obtain ⟨k1,hk1⟩:∃k,bothC t a (.mk 7 0 [e,h]) (.mk 7 0 [f,h])=k:=⟨_,rfl⟩
   have hdot:k1=0→up1=true:=fun q=>by rw [←hup1]; exact or_dot (h:=h) HC0.out HX1.out (by rw [←q]; exact hk1)
   have HU1:=Lib.hid (And.intro hup1 hk1);have HDOT:=Lib.hid hdot;clear hup1 hk1 hdot;obtain ⟨x0,hx0⟩:=mkval ?a3_0;obtain ⟨x1,hx1⟩:=mkval ?a3_1;obtain ⟨x2,hx2⟩:=mkval ?a3_2;obtain ⟨x4,hx4⟩:=mkval ?a3_4;obtain ⟨x5,hx5⟩:=mkval ?a3_5
   refine region_rs [] [] (fun _ _=>False) (v8.heap.size) (fun i iv vs wx=>match i with
    |0=>vs 0=x0
    |1=>vs 1=x1
    |2=>vs 2=x2
    |3=>∃sa ca,vs 3= .agg #[.int .i64 7, .int .i64 0, .slice sa 2 ca]∧FreshIn (iv 3) wx [kidsD [e,h]] [.slice sa 2 ca]
    |4=>vs 4=x4
    |5=>vs 5=x5
    |6=>∃sb cb,vs 6= .agg #[.int .i64 7, .int .i64 0, .slice sb 2 cb]∧FreshIn (iv 6) wx [kidsD [f,h]] [.slice sb 2 cb]
    |7=>vs 7= .tuple #[.bool up1, .int .i64 k1]
    |8=>vs 8= .tuple #[.bool up1, .int .i64 k1]
    |9=>vs 9= .bool up1
    |10=>vs 10= .int .i64 k1
    |11=>vs 11= .bool up1
    |12=>vs 12= .int .i64 k1
    |_=>True) (fun i iv vs=>match i with
    |0=>vs 0=x0
    |1=>vs 1=x1
    |2=>vs 2=x2
    |3=>∃sa ca,vs 3= .agg #[.int .i64 7, .int .i64 0, .slice sa 2 ca]
    |4=>vs 4=x4
    |5=>vs 5=x5
    |6=>∃sb cb,vs 6= .agg #[.int .i64 7, .int .i64 0, .slice sb 2 cb]
    |7=>vs 7= .tuple #[.bool up1, .int .i64 k1]
    |8=>vs 8= .tuple #[.bool up1, .int .i64 k1]
    |9=>vs 9= .bool up1
    |10=>vs 10= .int .i64 k1
    |11=>vs 11= .bool up1
    |12=>vs 12= .int .i64 k1
    |_=>True) (by kernel_rfl) (by kernel_rfl) [0,1,2,3,4,5,6,7,8,9,10,11,12] (by kernel_rfl) ?hbase ?hGb ?hG ?hJ ?hE ?hEE ?hstep ?hQ
   case hbase=>first|exact Nat.le_refl _|omega|(simp; omega)
   case hGb=>
    exact fun _ _ h=>h.elim
   case hG=>
    exact fun _ _ _ h=>h.elim
   case hJ=>
    intro i hi iv iv' vs vs' wx wx' ha hv hz hk hj;simp only [List.mem_cons,List.not_mem_nil,or_false] at hi
    rcases hi with rfl|rfl|rfl|rfl|rfl|rfl|rfl|rfl|rfl|rfl|rfl|rfl|rfl
    all_goals try exact (aG hv _).symm.trans hj
    ·
     have e3:=aG hv 3;have g3:=aG ha 3;obtain ⟨sa,ca,q1,q2⟩:=hj;exact ⟨sa,ca,e3 ▸ q1,g3 ▸ q2.keep (fun b hb h1 h2=>hk.out b hb (foot_own h1 h2))⟩
    ·
     have e6:=aG hv 6;have g6:=aG ha 6;obtain ⟨sb,cb,q1,q2⟩:=hj;exact ⟨sb,cb,e6 ▸ q1,g6 ▸ q2.keep (fun b hb h1 h2=>hk.out b hb (foot_own h1 h2))⟩
   case hE=>
    intro i hi iv vs wx hj;simp only [List.mem_cons,List.not_mem_nil,or_false] at hi
    rcases hi with rfl|rfl|rfl|rfl|rfl|rfl|rfl|rfl|rfl|rfl|rfl|rfl|rfl
    all_goals try exact hj
    ·
     obtain ⟨sa,ca,q1, -⟩:=hj;exact ⟨sa,ca,q1⟩
    ·
     obtain ⟨sb,cb,q1, -⟩:=hj;exact ⟨sb,cb,q1⟩
   case hEE=>
    intro i hi iv iv' vs vs' ha hv hj;simp only [List.mem_cons,List.not_mem_nil,or_false] at hi
    rcases hi with rfl|rfl|rfl|rfl|rfl|rfl|rfl|rfl|rfl|rfl|rfl|rfl|rfl
    all_goals try exact (aG hv _).symm.trans hj
    ·
     have e3:=aG hv 3;have hj':∃sa ca,vs 3= .agg #[.int .i64 7, .int .i64 0, .slice sa 2 ca]:=hj
     show ∃sa ca,vs' 3= .agg #[.int .i64 7, .int .i64 0, .slice sa 2 ca]
     rw [←e3];exact hj'
    ·
     have e6:=aG hv 6;have hj':∃sb cb,vs 6= .agg #[.int .i64 7, .int .i64 0, .slice sb 2 cb]:=hj
     show ∃sb cb,vs' 6= .agg #[.int .i64 7, .int .i64 0, .slice sb 2 cb]
     rw [←e6];exact hj'
   case hstep=>
    intro i hi opr ho iv vs w1 hB hS hSo hd he hbd hsep hun K hK;simp only [List.mem_cons,List.not_mem_nil,or_false] at hi;have hzB:=hB.size;obtain ⟨⟨⟨⟨⟨⟨r1,r2⟩,r3⟩,g5⟩,g6⟩,g7⟩,g8⟩:=HF.out.ok w1 hB;obtain ⟨a50,a51,l5⟩:=g5.all2;obtain ⟨a60,a61,a62, -, -, -, l6⟩:=g6.all3;obtain ⟨a70,a71,a72, -, -, -, l7⟩:=g7.all3;obtain ⟨a80,a81,a82, -, -, -, l8⟩:=g8.all3;clear g5 g6 g7 g8;generalize hA:putFrom _ 0 vs _=A at hK ⊢;simp only [putFrom,puts] at hA
    rcases hi with rfl|rfl|rfl|rfl|rfl|rfl|rfl|rfl|rfl|rfl|rfl|rfl|rfl
    all_goals
     simp at ho;subst ho;subst hA
    ·
     go_wp2_with fail;refine Onward.mk (hK ?val3_0 _ _ (fun h=>by cases h) ?eqA (Spares.refl _) (fun iv' _ _=> ?ja))
     case eqA=>first|rfl|(simp only [puts]; rfl)
     case ja=>exact hx0.out.symm
    ·
     go_wp2_with fail;refine Onward.mk (hK ?val3_1 _ _ (fun h=>by cases h) ?eqA (Spares.refl _) (fun iv' _ _=> ?ja))
     case eqA=>first|rfl|(simp only [puts]; rfl)
     case ja=>exact hx1.out.symm
    ·
     go_wp2_with fail;refine Onward.mk (hK ?val3_2 _ _ (fun h=>by cases h) ?eqA (Spares.refl _) (fun iv' _ _=> ?ja))
     case eqA=>first|rfl|(simp only [puts]; rfl)
     case ja=>exact hx2.out.symm
    ·
     have h1:=(dN hd 1).trans hx1.out;have h2:=(dN hd 2).trans hx2.out;go_wp2_with fail;refine (a2Pair_i (k:=7) (x:=e) (y:=h) r1 r3 (by omega) (by omega)).mono ?_;rintro e w2 ⟨sa,ca,rfl,hf,hb⟩;go_wp2_with fail;exact Onward.mk (hK (.agg #[.int .i64 7, .int .i64 0, .slice sa 2 ca]) _ _ (fun h=>by cases h) (by first|rfl|(simp only [puts,h1,h2])) (Spares.of_below hb) (fun iv' _ hi=>⟨sa,ca,rfl,by rw [hi]; exact Freshs.stretch (hf)⟩))
    ·
     go_wp2_with fail;refine Onward.mk (hK ?val3_4 _ _ (fun h=>by cases h) ?eqA (Spares.refl _) (fun iv' _ _=> ?ja))
     case eqA=>first|rfl|(simp only [puts]; rfl)
     case ja=>exact hx4.out.symm
    ·
     go_wp2_with fail;refine Onward.mk (hK ?val3_5 _ _ (fun h=>by cases h) ?eqA (Spares.refl _) (fun iv' _ _=> ?ja))
     case eqA=>first|rfl|(simp only [puts]; rfl)
     case ja=>exact hx5.out.symm
    ·
     have h4:=(dN hd 4).trans hx4.out;have h5:=(dN hd 5).trans hx5.out;go_wp2_with fail;refine (a2Pair_i (k:=7) (x:=f) (y:=h) r2 r3 (by omega) (by omega)).mono ?_;rintro e w2 ⟨sb,cb,rfl,hf,hb⟩;go_wp2_with fail;exact Onward.mk (hK (.agg #[.int .i64 7, .int .i64 0, .slice sb 2 cb]) _ _ (fun h=>by cases h) (by first|rfl|(simp only [puts,h4,h5])) (Spares.of_below hb) (fun iv' _ hi=>⟨sb,cb,rfl,by rw [hi]; exact Freshs.stretch (hf)⟩))
    ·
     have h0:=(dN hd 0).trans hx0.out;obtain ⟨sa,ca,h3,f3⟩:=dN hd 3;obtain ⟨sb,cb,h6,f6⟩:=dN hd 6;go_wp2_with fail;refine (atMost_is (e:= .mk 7 0 [e,h]) (f:= .mk 7 0 [f,h]) HU1.out.1 HU1.out.2 f3.rd f6.rd (by rw [size_pairE rfl]; omega) (by rw [size_pairE rfl]; omega)).mono ?_;rintro e w2 ⟨rfl,hb⟩;go_wp2_with fail;exact Onward.mk (hK (.tuple #[.bool up1, .int .i64 k1]) _ _ (fun h=>by cases h) (by first|rfl|(simp only [puts,h0,h3,h6])) (Spares.of_below hb) (fun iv' _ _=>rfl))
    ·
     have h7:vs 7= .tuple #[.bool up1, .int .i64 k1]:=dN hd 7;go_wp2_with fail;exact Onward.mk (hK (.tuple #[.bool up1, .int .i64 k1]) _ _ (fun h=>by cases h) (by first|rfl|(simp only [puts,h7])) (Spares.refl _) (fun iv' _ _=>rfl))
    ·
     have h8:vs 8= .tuple #[.bool up1, .int .i64 k1]:=dN hd 8;go_wp2_with fail;exact Onward.mk (hK (.bool up1) _ _ (fun h=>by cases h) (by first|rfl|(simp only [puts,h8])) (Spares.refl _) (fun iv' _ _=>rfl))
    ·
     have h8:vs 8= .tuple #[.bool up1, .int .i64 k1]:=dN hd 8;go_wp2_with fail;exact Onward.mk (hK (.int .i64 k1) _ _ (fun h=>by cases h) (by first|rfl|(simp only [puts,h8])) (Spares.refl _) (fun iv' _ _=>rfl))
    ·
     have h9:vs 9= .bool up1:=dN hd 9;go_wp2_with fail;exact Onward.mk (hK (.bool up1) _ _ (fun h=>by cases h) (by first|rfl|(simp only [puts,h9])) (Spares.refl _) (fun iv' _ _=>rfl))
    ·
     have h10:vs 10= .int .i64 k1:=dN hd 10;go_wp2_with fail;exact Onward.mk (hK (.int .i64 k1) _ _ (fun h=>by cases h) (by first|rfl|(simp only [puts,h10])) (Spares.refl _) (fun iv' _ _=>rfl))
   case hQ=>
    intro iv vs wx hB hSp hd he hbd hsep;have hzB:=hB.size;have h0:=(dE hd 0).trans hx0.out;have h1:=(dE hd 1).trans hx1.out;have h2:=(dE hd 2).trans hx2.out;obtain ⟨sa,ca,h3,f3⟩:=dE hd 3;have h4:=(dE hd 4).trans hx4.out;have h5:=(dE hd 5).trans hx5.out;obtain ⟨sb,cb,h6,f6⟩:=dE hd 6;have h7:vs 7= .tuple #[.bool up1, .int .i64 k1]:=dE hd 7;have h8:vs 8= .tuple #[.bool up1, .int .i64 k1]:=dE hd 8;have h9:vs 9= .bool up1:=dE hd 9;have h10:vs 10= .int .i64 k1:=dE hd 10;have h11:vs 11= .bool up1:=dE hd 11;have h12:vs 12= .int .i64 k1:=dE hd 12;simp only [putFrom,puts];simp only [h11,h12];clear h0 h1 h2 h3 h4 h5 h6 h7 h8 h9 h10 h11 h12 f3 f6;have HFn:=Lib.hid (HF.out.on hB);have HBn:=Lib.hid (HB1.out.trans (hB.mono HB1.out.size));clear HF HB1;have HF:=HFn;have HB1:=HBn;clear HFn HBn;obtain ⟨wl,rfl⟩:∃u,u=wx:=⟨_,rfl⟩;clear hd he hbd hsep hB hSp hzB
    by_cases c1:k1=0
    ·
     subst c1;obtain rfl:up1=true:=HDOT.out rfl;go_wp2_with fail;obtain ⟨up2,hup2⟩:∃b,atR t a (.mk 8 0 [.mk 6 0 [e,h]]) (.mk 8 0 [.mk 6 0 [f,h]])=b:=⟨_,rfl⟩;obtain ⟨k2,hk2⟩:∃k,bothC t a (.mk 8 0 [.mk 6 0 [e,h]]) (.mk 8 0 [.mk 6 0 [f,h]])=k:=⟨_,rfl⟩
     have hst:k2=0→up2=true:=fun q=>by rw [←hup2]; exact or_star (h:=h) HC0.out HX1.out (by rw [←q]; exact hk2)
     have HU2:=Lib.hid (And.intro hup2 hk2);have HST:=Lib.hid hst;clear hup2 hk2 hst;obtain ⟨x0,hx0⟩:=mkval ?a1_0;obtain ⟨x1,hx1⟩:=mkval ?a1_1;obtain ⟨x2,hx2⟩:=mkval ?a1_2;obtain ⟨x5,hx5⟩:=mkval ?a1_5;obtain ⟨x6,hx6⟩:=mkval ?a1_6
     refine region_rs [] [] (fun _ _=>False) (wl.heap.size) (fun i iv vs wx=>match i with
      |0=>vs 0=x0
      |1=>vs 1=x1
      |2=>vs 2=x2
      |3=>∃sa ca,vs 3= .agg #[.int .i64 6, .int .i64 0, .slice sa 2 ca]∧FreshIn (iv 3) wx [kidsD [e,h]] [.slice sa 2 ca]
      |4=>∃sd cd,vs 4= .agg #[.int .i64 8, .int .i64 0, .slice sd 1 cd]∧FreshIn (iv 4) wx [kidsD [.mk 6 0 [e,h]]] [.slice sd 1 cd]
      |5=>vs 5=x5
      |6=>vs 6=x6
      |7=>∃sb cb,vs 7= .agg #[.int .i64 6, .int .i64 0, .slice sb 2 cb]∧FreshIn (iv 7) wx [kidsD [f,h]] [.slice sb 2 cb]
      |8=>∃se ce,vs 8= .agg #[.int .i64 8, .int .i64 0, .slice se 1 ce]∧FreshIn (iv 8) wx [kidsD [.mk 6 0 [f,h]]] [.slice se 1 ce]
      |9=>vs 9= .tuple #[.bool up2, .int .i64 k2]
      |10=>vs 10= .tuple #[.bool up2, .int .i64 k2]
      |11=>vs 11= .bool up2
      |12=>vs 12= .int .i64 k2
      |13=>vs 13= .bool up2
      |14=>vs 14= .int .i64 k2
      |_=>True) (fun i iv vs=>match i with
      |0=>vs 0=x0
      |1=>vs 1=x1
      |2=>vs 2=x2
      |3=>∃sa ca,vs 3= .agg #[.int .i64 6, .int .i64 0, .slice sa 2 ca]
      |4=>∃sd cd,vs 4= .agg #[.int .i64 8, .int .i64 0, .slice sd 1 cd]
      |5=>vs 5=x5
      |6=>vs 6=x6
      |7=>∃sb cb,vs 7= .agg #[.int .i64 6, .int .i64 0, .slice sb 2 cb]
      |8=>∃se ce,vs 8= .agg #[.int .i64 8, .int .i64 0, .slice se 1 ce]
      |9=>vs 9= .tuple #[.bool up2, .int .i64 k2]
      |10=>vs 10= .tuple #[.bool up2, .int .i64 k2]
      |11=>vs 11= .bool up2
      |12=>vs 12= .int .i64 k2
      |13=>vs 13= .bool up2
      |14=>vs 14= .int .i64 k2
      |_=>True) (by kernel_rfl) (by kernel_rfl) [0,1,2,3,4,5,6,7,8,9,10,11,12,13,14] (by kernel_rfl) ?hbase ?hGb ?hG ?hJ ?hE ?hEE ?hstep ?hQ
     case hbase=>first|exact Nat.le_refl _|omega|(simp; omega)
     case hGb=>
      exact fun _ _ h=>h.elim
     case hG=>
      exact fun _ _ _ h=>h.elim
     case hJ=>
      intro i hi iv iv' vs vs' wx wx' ha hv hz hk hj;simp only [List.mem_cons,List.not_mem_nil,or_false] at hi
      rcases hi with rfl|rfl|rfl|rfl|rfl|rfl|rfl|rfl|rfl|rfl|rfl|rfl|rfl|rfl|rfl
      all_goals try exact (aG hv _).symm.trans hj
      ·
       have e3:=aG hv 3;have g3:=aG ha 3;obtain ⟨sa,ca,q1,q2⟩:=hj;exact ⟨sa,ca,e3 ▸ q1,g3 ▸ q2.keep (fun b hb h1 h2=>hk.out b hb (foot_own h1 h2))⟩
      ·
       have e4:=aG hv 4;have g4:=aG ha 4;obtain ⟨sd,cd,q1,q2⟩:=hj;exact ⟨sd,cd,e4 ▸ q1,g4 ▸ q2.keep (fun b hb h1 h2=>hk.out b hb (foot_own h1 h2))⟩
      ·
       have e7:=aG hv 7;have g7:=aG ha 7;obtain ⟨sb,cb,q1,q2⟩:=hj;exact ⟨sb,cb,e7 ▸ q1,g7 ▸ q2.keep (fun b hb h1 h2=>hk.out b hb (foot_own h1 h2))⟩
      ·
       have e8:=aG hv 8;have g8:=aG ha 8;obtain ⟨se,ce,q1,q2⟩:=hj;exact ⟨se,ce,e8 ▸ q1,g8 ▸ q2.keep (fun b hb h1 h2=>hk.out b hb (foot_own h1 h2))⟩
     case hE=>
      intro i hi iv vs wx hj;simp only [List.mem_cons,List.not_mem_nil,or_false] at hi
      rcases hi with rfl|rfl|rfl|rfl|rfl|rfl|rfl|rfl|rfl|rfl|rfl|rfl|rfl|rfl|rfl
      all_goals try exact hj
      ·
       obtain ⟨sa,ca,q1, -⟩:=hj;exact ⟨sa,ca,q1⟩
      ·
       obtain ⟨sd,cd,q1, -⟩:=hj;exact ⟨sd,cd,q1⟩
      ·
       obtain ⟨sb,cb,q1, -⟩:=hj;exact ⟨sb,cb,q1⟩
      ·
       obtain ⟨se,ce,q1, -⟩:=hj;exact ⟨se,ce,q1⟩
     case hEE=>
      intro i hi iv iv' vs vs' ha hv hj;simp only [List.mem_cons,List.not_mem_nil,or_false] at hi
      rcases hi with rfl|rfl|rfl|rfl|rfl|rfl|rfl|rfl|rfl|rfl|rfl|rfl|rfl|rfl|rfl
      all_goals try exact (aG hv _).symm.trans hj
      ·
       have e3:=aG hv 3;have hj':∃sa ca,vs 3= .agg #[.int .i64 6, .int .i64 0, .slice sa 2 ca]:=hj
       show ∃sa ca,vs' 3= .agg #[.int .i64 6, .int .i64 0, .slice sa 2 ca]
       rw [←e3];exact hj'
      ·
       have e4:=aG hv 4;have hj':∃sd cd,vs 4= .agg #[.int .i64 8, .int .i64 0, .slice sd 1 cd]:=hj
       show ∃sd cd,vs' 4= .agg #[.int .i64 8, .int .i64 0, .slice sd 1 cd]
       rw [←e4];exact hj'
      ·
       have e7:=aG hv 7;have hj':∃sb cb,vs 7= .agg #[.int .i64 6, .int .i64 0, .slice sb 2 cb]:=hj
       show ∃sb cb,vs' 7= .agg #[.int .i64 6, .int .i64 0, .slice sb 2 cb]
       rw [←e7];exact hj'
      ·
       have e8:=aG hv 8;have hj':∃se ce,vs 8= .agg #[.int .i64 8, .int .i64 0, .slice se 1 ce]:=hj
       show ∃se ce,vs' 8= .agg #[.int .i64 8, .int .i64 0, .slice se 1 ce]
       rw [←e8];exact hj'
     case hstep=>
      intro i hi opr ho iv vs w1 hB hS hSo hd he hbd hsep hun K hK;simp only [List.mem_cons,List.not_mem_nil,or_false] at hi;have hzB:=hB.size;obtain ⟨⟨⟨⟨⟨⟨r1,r2⟩,r3⟩,g5⟩,g6⟩,g7⟩,g8⟩:=HF.out.ok w1 hB;obtain ⟨a50,a51,l5⟩:=g5.all2;obtain ⟨a60,a61,a62, -, -, -, l6⟩:=g6.all3;obtain ⟨a70,a71,a72, -, -, -, l7⟩:=g7.all3;obtain ⟨a80,a81,a82, -, -, -, l8⟩:=g8.all3;clear g5 g6 g7 g8;generalize hA:putFrom _ 0 vs _=A at hK ⊢;simp only [putFrom,puts] at hA
      rcases hi with rfl|rfl|rfl|rfl|rfl|rfl|rfl|rfl|rfl|rfl|rfl|rfl|rfl|rfl|rfl
      all_goals
       simp at ho;subst ho;subst hA
      ·
       go_wp2_with fail;refine Onward.mk (hK ?val1_0 _ _ (fun h=>by cases h) ?eqA (Spares.refl _) (fun iv' _ _=> ?ja))
       case eqA=>first|rfl|(simp only [puts]; rfl)
       case ja=>exact hx0.out.symm
      ·
       go_wp2_with fail;refine Onward.mk (hK ?val1_1 _ _ (fun h=>by cases h) ?eqA (Spares.refl _) (fun iv' _ _=> ?ja))
       case eqA=>first|rfl|(simp only [puts]; rfl)
       case ja=>exact hx1.out.symm
      ·
       go_wp2_with fail;refine Onward.mk (hK ?val1_2 _ _ (fun h=>by cases h) ?eqA (Spares.refl _) (fun iv' _ _=> ?ja))
       case eqA=>first|rfl|(simp only [puts]; rfl)
       case ja=>exact hx2.out.symm
      ·
       have h1:=(dN hd 1).trans hx1.out;have h2:=(dN hd 2).trans hx2.out;go_wp2_with fail;refine (a2Pair_i (k:=6) (x:=e) (y:=h) r1 r3 (by omega) (by omega)).mono ?_;rintro e w2 ⟨sa,ca,rfl,hf,hb⟩;go_wp2_with fail;exact Onward.mk (hK (.agg #[.int .i64 6, .int .i64 0, .slice sa 2 ca]) _ _ (fun h=>by cases h) (by first|rfl|(simp only [puts,h1,h2])) (Spares.of_below hb) (fun iv' _ hi=>⟨sa,ca,rfl,by rw [hi]; exact Freshs.stretch (hf)⟩))
      ·
       obtain ⟨sa,ca,h3,f3⟩:=dN hd 3;go_wp2_with fail;refine (a2Star_i (x:= .mk 6 0 [e,h]) f3.rd (by rw [size_pairE rfl]; omega)).mono ?_;rintro e w2 ⟨sd,cd,rfl,hf,hb⟩;go_wp2_with fail;exact Onward.mk (hK (.agg #[.int .i64 8, .int .i64 0, .slice sd 1 cd]) _ _ (fun h=>by cases h) (by first|rfl|(simp only [puts,h3])) (Spares.of_below hb) (fun iv' _ hi=>⟨sd,cd,rfl,by rw [hi]; exact Freshs.stretch (hf)⟩))
      ·
       go_wp2_with fail;refine Onward.mk (hK ?val1_5 _ _ (fun h=>by cases h) ?eqA (Spares.refl _) (fun iv' _ _=> ?ja))
       case eqA=>first|rfl|(simp only [puts]; rfl)
       case ja=>exact hx5.out.symm
      ·
       go_wp2_with fail;refine Onward.mk (hK ?val1_6 _ _ (fun h=>by cases h) ?eqA (Spares.refl _) (fun iv' _ _=> ?ja))
       case eqA=>first|rfl|(simp only [puts]; rfl)
       case ja=>exact hx6.out.symm
      ·
       have h5:=(dN hd 5).trans hx5.out;have h6:=(dN hd 6).trans hx6.out;go_wp2_with fail;refine (a2Pair_i (k:=6) (x:=f) (y:=h) r2 r3 (by omega) (by omega)).mono ?_;rintro e w2 ⟨sb,cb,rfl,hf,hb⟩;go_wp2_with fail;exact Onward.mk (hK (.agg #[.int .i64 6, .int .i64 0, .slice sb 2 cb]) _ _ (fun h=>by cases h) (by first|rfl|(simp only [puts,h5,h6])) (Spares.of_below hb) (fun iv' _ hi=>⟨sb,cb,rfl,by rw [hi]; exact Freshs.stretch (hf)⟩))
      ·
       obtain ⟨sb,cb,h7,f7⟩:=dN hd 7;go_wp2_with fail;refine (a2Star_i (x:= .mk 6 0 [f,h]) f7.rd (by rw [size_pairE rfl]; omega)).mono ?_;rintro e w2 ⟨se,ce,rfl,hf,hb⟩;go_wp2_with fail;exact Onward.mk (hK (.agg #[.int .i64 8, .int .i64 0, .slice se 1 ce]) _ _ (fun h=>by cases h) (by first|rfl|(simp only [puts,h7])) (Spares.of_below hb) (fun iv' _ hi=>⟨se,ce,rfl,by rw [hi]; exact Freshs.stretch (hf)⟩))
      ·
       have h0:=(dN hd 0).trans hx0.out;obtain ⟨sd,cd,h4,f4⟩:=dN hd 4;obtain ⟨se,ce,h8,f8⟩:=dN hd 8;go_wp2_with fail;refine (atMost_is (e:= .mk 8 0 [.mk 6 0 [e,h]]) (f:= .mk 8 0 [.mk 6 0 [f,h]]) HU2.out.1 HU2.out.2 f4.rd f8.rd (by rw [size_starE rfl,size_pairE rfl]; omega) (by rw [size_starE rfl,size_pairE rfl]; omega)).mono ?_;rintro e w2 ⟨rfl,hb⟩;go_wp2_with fail;exact Onward.mk (hK (.tuple #[.bool up2, .int .i64 k2]) _ _ (fun h=>by cases h) (by first|rfl|(simp only [puts,h0,h4,h8])) (Spares.of_below hb) (fun iv' _ _=>rfl))
      ·
       have h9:vs 9= .tuple #[.bool up2, .int .i64 k2]:=dN hd 9;go_wp2_with fail;exact Onward.mk (hK (.tuple #[.bool up2, .int .i64 k2]) _ _ (fun h=>by cases h) (by first|rfl|(simp only [puts,h9])) (Spares.refl _) (fun iv' _ _=>rfl))
      ·
       have h10:vs 10= .tuple #[.bool up2, .int .i64 k2]:=dN hd 10;go_wp2_with fail;exact Onward.mk (hK (.bool up2) _ _ (fun h=>by cases h) (by first|rfl|(simp only [puts,h10])) (Spares.refl _) (fun iv' _ _=>rfl))
      ·
       have h10:vs 10= .tuple #[.bool up2, .int .i64 k2]:=dN hd 10;go_wp2_with fail;exact Onward.mk (hK (.int .i64 k2) _ _ (fun h=>by cases h) (by first|rfl|(simp only [puts,h10])) (Spares.refl _) (fun iv' _ _=>rfl))
      ·
       have h11:vs 11= .bool up2:=dN hd 11;go_wp2_with fail;exact Onward.mk (hK (.bool up2) _ _ (fun h=>by cases h) (by first|rfl|(simp only [puts,h11])) (Spares.refl _) (fun iv' _ _=>rfl))
      ·
       have h12:vs 12= .int .i64 k2:=dN hd 12;go_wp2_with fail;exact Onward.mk (hK (.int .i64 k2) _ _ (fun h=>by cases h) (by first|rfl|(simp only [puts,h12])) (Spares.refl _) (fun iv' _ _=>rfl))
     case hQ=>
      intro iv vs wx hB hSp hd he hbd hsep;have hzB:=hB.size;have h0:=(dE hd 0).trans hx0.out;have h1:=(dE hd 1).trans hx1.out;have h2:=(dE hd 2).trans hx2.out;obtain ⟨sa,ca,h3,f3⟩:=dE hd 3;obtain ⟨sd,cd,h4,f4⟩:=dE hd 4;have h5:=(dE hd 5).trans hx5.out;have h6:=(dE hd 6).trans hx6.out;obtain ⟨sb,cb,h7,f7⟩:=dE hd 7;obtain ⟨se,ce,h8,f8⟩:=dE hd 8;have h9:vs 9= .tuple #[.bool up2, .int .i64 k2]:=dE hd 9;have h10:vs 10= .tuple #[.bool up2, .int .i64 k2]:=dE hd 10;have h11:vs 11= .bool up2:=dE hd 11;have h12:vs 12= .int .i64 k2:=dE hd 12;have h13:vs 13= .bool up2:=dE hd 13;have h14:vs 14= .int .i64 k2:=dE hd 14;simp only [putFrom,puts];simp only [h13,h14];clear h0 h1 h2 h3 h4 h5 h6 h7 h8 h9 h10 h11 h12 h13 h14 f3 f4 f7 f8;have HFn:=Lib.hid (HF.out.on hB);have HBn:=Lib.hid (HB1.out.trans (hB.mono HB1.out.size));clear HF HB1;have HF:=HFn;have HB1:=HBn;clear HFn HBn;obtain ⟨wm,rfl⟩:∃u,u=wx:=⟨_,rfl⟩;clear hd he hbd hsep hB hSp hzB
      by_cases c2:k2=0
      ·
       subst c2;obtain rfl:up2=true:=HST.out rfl;go_wp2_with fail;go_ret;exact ⟨rfl,HB1.out⟩
      ·
       have q2:(k2 !=0)=true:=by simpa using c2
       clear c2;go_wp2_with fail;go_ret;exact ⟨rfl,HB1.out⟩
    ·
     have q1:(k1==0)=false:=by simpa using c1
     clear c1;go_wp2_with fail;obtain ⟨up2,hup2⟩:∃b,atR t a (.mk 8 0 [.mk 6 0 [e,h]]) (.mk 8 0 [.mk 6 0 [f,h]])=b:=⟨_,rfl⟩;obtain ⟨k2,hk2⟩:∃k,bothC t a (.mk 8 0 [.mk 6 0 [e,h]]) (.mk 8 0 [.mk 6 0 [f,h]])=k:=⟨_,rfl⟩
     have hst:k2=0→up2=true:=fun q=>by rw [←hup2]; exact or_star (h:=h) HC0.out HX1.out (by rw [←q]; exact hk2)
     have HU2:=Lib.hid (And.intro hup2 hk2);have HST:=Lib.hid hst;clear hup2 hk2 hst;obtain ⟨x0,hx0⟩:=mkval ?a2_0;obtain ⟨x1,hx1⟩:=mkval ?a2_1;obtain ⟨x2,hx2⟩:=mkval ?a2_2;obtain ⟨x5,hx5⟩:=mkval ?a2_5;obtain ⟨x6,hx6⟩:=mkval ?a2_6
     refine region_rs [] [] (fun _ _=>False) (wl.heap.size) (fun i iv vs wx=>match i with
      |0=>vs 0=x0
      |1=>vs 1=x1
      |2=>vs 2=x2
      |3=>∃sa ca,vs 3= .agg #[.int .i64 6, .int .i64 0, .slice sa 2 ca]∧FreshIn (iv 3) wx [kidsD [e,h]] [.slice sa 2 ca]
      |4=>∃sd cd,vs 4= .agg #[.int .i64 8, .int .i64 0, .slice sd 1 cd]∧FreshIn (iv 4) wx [kidsD [.mk 6 0 [e,h]]] [.slice sd 1 cd]
      |5=>vs 5=x5
      |6=>vs 6=x6
      |7=>∃sb cb,vs 7= .agg #[.int .i64 6, .int .i64 0, .slice sb 2 cb]∧FreshIn (iv 7) wx [kidsD [f,h]] [.slice sb 2 cb]
      |8=>∃se ce,vs 8= .agg #[.int .i64 8, .int .i64 0, .slice se 1 ce]∧FreshIn (iv 8) wx [kidsD [.mk 6 0 [f,h]]] [.slice se 1 ce]
      |9=>vs 9= .tuple #[.bool up2, .int .i64 k2]
      |10=>vs 10= .tuple #[.bool up2, .int .i64 k2]
      |11=>vs 11= .bool up2
      |12=>vs 12= .int .i64 k2
      |13=>vs 13= .bool up2
      |14=>vs 14= .int .i64 k2
      |_=>True) (fun i iv vs=>match i with
      |0=>vs 0=x0
      |1=>vs 1=x1
      |2=>vs 2=x2
      |3=>∃sa ca,vs 3= .agg #[.int .i64 6, .int .i64 0, .slice sa 2 ca]
      |4=>∃sd cd,vs 4= .agg #[.int .i64 8, .int .i64 0, .slice sd 1 cd]
      |5=>vs 5=x5
      |6=>vs 6=x6
      |7=>∃sb cb,vs 7= .agg #[.int .i64 6, .int .i64 0, .slice sb 2 cb]
      |8=>∃se ce,vs 8= .agg #[.int .i64 8, .int .i64 0, .slice se 1 ce]
      |9=>vs 9= .tuple #[.bool up2, .int .i64 k2]
      |10=>vs 10= .tuple #[.bool up2, .int .i64 k2]
      |11=>vs 11= .bool up2
      |12=>vs 12= .int .i64 k2
      |13=>vs 13= .bool up2
      |14=>vs 14= .int .i64 k2
      |_=>True) (by kernel_rfl) (by kernel_rfl) [0,1,2,3,4,5,6,7,8,9,10,11,12,13,14] (by kernel_rfl) ?hbase ?hGb ?hG ?hJ ?hE ?hEE ?hstep ?hQ
     case hbase=>first|exact Nat.le_refl _|omega|(simp; omega)
     case hGb=>
      exact fun _ _ h=>h.elim
     case hG=>
      exact fun _ _ _ h=>h.elim
     case hJ=>
      intro i hi iv iv' vs vs' wx wx' ha hv hz hk hj;simp only [List.mem_cons,List.not_mem_nil,or_false] at hi
      rcases hi with rfl|rfl|rfl|rfl|rfl|rfl|rfl|rfl|rfl|rfl|rfl|rfl|rfl|rfl|rfl
      all_goals try exact (aG hv _).symm.trans hj
      ·
       have e3:=aG hv 3;have g3:=aG ha 3;obtain ⟨sa,ca,q1,q2⟩:=hj;exact ⟨sa,ca,e3 ▸ q1,g3 ▸ q2.keep (fun b hb h1 h2=>hk.out b hb (foot_own h1 h2))⟩
      ·
       have e4:=aG hv 4;have g4:=aG ha 4;obtain ⟨sd,cd,q1,q2⟩:=hj;exact ⟨sd,cd,e4 ▸ q1,g4 ▸ q2.keep (fun b hb h1 h2=>hk.out b hb (foot_own h1 h2))⟩
      ·
       have e7:=aG hv 7;have g7:=aG ha 7;obtain ⟨sb,cb,q1,q2⟩:=hj;exact ⟨sb,cb,e7 ▸ q1,g7 ▸ q2.keep (fun b hb h1 h2=>hk.out b hb (foot_own h1 h2))⟩
      ·
       have e8:=aG hv 8;have g8:=aG ha 8;obtain ⟨se,ce,q1,q2⟩:=hj;exact ⟨se,ce,e8 ▸ q1,g8 ▸ q2.keep (fun b hb h1 h2=>hk.out b hb (foot_own h1 h2))⟩
     case hE=>
      intro i hi iv vs wx hj;simp only [List.mem_cons,List.not_mem_nil,or_false] at hi
      rcases hi with rfl|rfl|rfl|rfl|rfl|rfl|rfl|rfl|rfl|rfl|rfl|rfl|rfl|rfl|rfl
      all_goals try exact hj
      ·
       obtain ⟨sa,ca,q1, -⟩:=hj;exact ⟨sa,ca,q1⟩
      ·
       obtain ⟨sd,cd,q1, -⟩:=hj;exact ⟨sd,cd,q1⟩
      ·
       obtain ⟨sb,cb,q1, -⟩:=hj;exact ⟨sb,cb,q1⟩
      ·
       obtain ⟨se,ce,q1, -⟩:=hj;exact ⟨se,ce,q1⟩
     case hEE=>
      intro i hi iv iv' vs vs' ha hv hj;simp only [List.mem_cons,List.not_mem_nil,or_false] at hi
      rcases hi with rfl|rfl|rfl|rfl|rfl|rfl|rfl|rfl|rfl|rfl|rfl|rfl|rfl|rfl|rfl
      all_goals try exact (aG hv _).symm.trans hj
      ·
       have e3:=aG hv 3;have hj':∃sa ca,vs 3= .agg #[.int .i64 6, .int .i64 0, .slice sa 2 ca]:=hj
       show ∃sa ca,vs' 3= .agg #[.int .i64 6, .int .i64 0, .slice sa 2 ca]
       rw [←e3];exact hj'
      ·
       have e4:=aG hv 4;have hj':∃sd cd,vs 4= .agg #[.int .i64 8, .int .i64 0, .slice sd 1 cd]:=hj
       show ∃sd cd,vs' 4= .agg #[.int .i64 8, .int .i64 0, .slice sd 1 cd]
       rw [←e4];exact hj'
      ·
       have e7:=aG hv 7;have hj':∃sb cb,vs 7= .agg #[.int .i64 6, .int .i64 0, .slice sb 2 cb]:=hj
       show ∃sb cb,vs' 7= .agg #[.int .i64 6, .int .i64 0, .slice sb 2 cb]
       rw [←e7];exact hj'
      ·
       have e8:=aG hv 8;have hj':∃se ce,vs 8= .agg #[.int .i64 8, .int .i64 0, .slice se 1 ce]:=hj
       show ∃se ce,vs' 8= .agg #[.int .i64 8, .int .i64 0, .slice se 1 ce]
       rw [←e8];exact hj'
     case hstep=>
      intro i hi opr ho iv vs w1 hB hS hSo hd he hbd hsep hun K hK;simp only [List.mem_cons,List.not_mem_nil,or_false] at hi;have hzB:=hB.size;obtain ⟨⟨⟨⟨⟨⟨r1,r2⟩,r3⟩,g5⟩,g6⟩,g7⟩,g8⟩:=HF.out.ok w1 hB;obtain ⟨a50,a51,l5⟩:=g5.all2;obtain ⟨a60,a61,a62, -, -, -, l6⟩:=g6.all3;obtain ⟨a70,a71,a72, -, -, -, l7⟩:=g7.all3;obtain ⟨a80,a81,a82, -, -, -, l8⟩:=g8.all3;clear g5 g6 g7 g8;generalize hA:putFrom _ 0 vs _=A at hK ⊢;simp only [putFrom,puts] at hA
      rcases hi with rfl|rfl|rfl|rfl|rfl|rfl|rfl|rfl|rfl|rfl|rfl|rfl|rfl|rfl|rfl
      all_goals
       simp at ho;subst ho;subst hA
      ·
       go_wp2_with fail;refine Onward.mk (hK ?val2_0 _ _ (fun h=>by cases h) ?eqA (Spares.refl _) (fun iv' _ _=> ?ja))
       case eqA=>first|rfl|(simp only [puts]; rfl)
       case ja=>exact hx0.out.symm
      ·
       go_wp2_with fail;refine Onward.mk (hK ?val2_1 _ _ (fun h=>by cases h) ?eqA (Spares.refl _) (fun iv' _ _=> ?ja))
       case eqA=>first|rfl|(simp only [puts]; rfl)
       case ja=>exact hx1.out.symm
      ·
       go_wp2_with fail;refine Onward.mk (hK ?val2_2 _ _ (fun h=>by cases h) ?eqA (Spares.refl _) (fun iv' _ _=> ?ja))
       case eqA=>first|rfl|(simp only [puts]; rfl)
       case ja=>exact hx2.out.symm
      ·
       have h1:=(dN hd 1).trans hx1.out;have h2:=(dN hd 2).trans hx2.out;go_wp2_with fail;refine (a2Pair_i (k:=6) (x:=e) (y:=h) r1 r3 (by omega) (by omega)).mono ?_;rintro e w2 ⟨sa,ca,rfl,hf,hb⟩;go_wp2_with fail;exact Onward.mk (hK (.agg #[.int .i64 6, .int .i64 0, .slice sa 2 ca]) _ _ (fun h=>by cases h) (by first|rfl|(simp only [puts,h1,h2])) (Spares.of_below hb) (fun iv' _ hi=>⟨sa,ca,rfl,by rw [hi]; exact Freshs.stretch (hf)⟩))
      ·
       obtain ⟨sa,ca,h3,f3⟩:=dN hd 3;go_wp2_with fail;refine (a2Star_i (x:= .mk 6 0 [e,h]) f3.rd (by rw [size_pairE rfl]; omega)).mono ?_;rintro e w2 ⟨sd,cd,rfl,hf,hb⟩;go_wp2_with fail;exact Onward.mk (hK (.agg #[.int .i64 8, .int .i64 0, .slice sd 1 cd]) _ _ (fun h=>by cases h) (by first|rfl|(simp only [puts,h3])) (Spares.of_below hb) (fun iv' _ hi=>⟨sd,cd,rfl,by rw [hi]; exact Freshs.stretch (hf)⟩))
      ·
       go_wp2_with fail;refine Onward.mk (hK ?val2_5 _ _ (fun h=>by cases h) ?eqA (Spares.refl _) (fun iv' _ _=> ?ja))
       case eqA=>first|rfl|(simp only [puts]; rfl)
       case ja=>exact hx5.out.symm
      ·
       go_wp2_with fail;refine Onward.mk (hK ?val2_6 _ _ (fun h=>by cases h) ?eqA (Spares.refl _) (fun iv' _ _=> ?ja))
       case eqA=>first|rfl|(simp only [puts]; rfl)
       case ja=>exact hx6.out.symm
      ·
       have h5:=(dN hd 5).trans hx5.out;have h6:=(dN hd 6).trans hx6.out;go_wp2_with fail;refine (a2Pair_i (k:=6) (x:=f) (y:=h) r2 r3 (by omega) (by omega)).mono ?_;rintro e w2 ⟨sb,cb,rfl,hf,hb⟩;go_wp2_with fail;exact Onward.mk (hK (.agg #[.int .i64 6, .int .i64 0, .slice sb 2 cb]) _ _ (fun h=>by cases h) (by first|rfl|(simp only [puts,h5,h6])) (Spares.of_below hb) (fun iv' _ hi=>⟨sb,cb,rfl,by rw [hi]; exact Freshs.stretch (hf)⟩))
      ·
       obtain ⟨sb,cb,h7,f7⟩:=dN hd 7;go_wp2_with fail;refine (a2Star_i (x:= .mk 6 0 [f,h]) f7.rd (by rw [size_pairE rfl]; omega)).mono ?_;rintro e w2 ⟨se,ce,rfl,hf,hb⟩;go_wp2_with fail;exact Onward.mk (hK (.agg #[.int .i64 8, .int .i64 0, .slice se 1 ce]) _ _ (fun h=>by cases h) (by first|rfl|(simp only [puts,h7])) (Spares.of_below hb) (fun iv' _ hi=>⟨se,ce,rfl,by rw [hi]; exact Freshs.stretch (hf)⟩))
      ·
       have h0:=(dN hd 0).trans hx0.out;obtain ⟨sd,cd,h4,f4⟩:=dN hd 4;obtain ⟨se,ce,h8,f8⟩:=dN hd 8;go_wp2_with fail;refine (atMost_is (e:= .mk 8 0 [.mk 6 0 [e,h]]) (f:= .mk 8 0 [.mk 6 0 [f,h]]) HU2.out.1 HU2.out.2 f4.rd f8.rd (by rw [size_starE rfl,size_pairE rfl]; omega) (by rw [size_starE rfl,size_pairE rfl]; omega)).mono ?_;rintro e w2 ⟨rfl,hb⟩;go_wp2_with fail;exact Onward.mk (hK (.tuple #[.bool up2, .int .i64 k2]) _ _ (fun h=>by cases h) (by first|rfl|(simp only [puts,h0,h4,h8])) (Spares.of_below hb) (fun iv' _ _=>rfl))
      ·
       have h9:vs 9= .tuple #[.bool up2, .int .i64 k2]:=dN hd 9;go_wp2_with fail;exact Onward.mk (hK (.tuple #[.bool up2, .int .i64 k2]) _ _ (fun h=>by cases h) (by first|rfl|(simp only [puts,h9])) (Spares.refl _) (fun iv' _ _=>rfl))
      ·
       have h10:vs 10= .tuple #[.bool up2, .int .i64 k2]:=dN hd 10;go_wp2_with fail;exact Onward.mk (hK (.bool up2) _ _ (fun h=>by cases h) (by first|rfl|(simp only [puts,h10])) (Spares.refl _) (fun iv' _ _=>rfl))
      ·
       have h10:vs 10= .tuple #[.bool up2, .int .i64 k2]:=dN hd 10;go_wp2_with fail;exact Onward.mk (hK (.int .i64 k2) _ _ (fun h=>by cases h) (by first|rfl|(simp only [puts,h10])) (Spares.refl _) (fun iv' _ _=>rfl))
      ·
       have h11:vs 11= .bool up2:=dN hd 11;go_wp2_with fail;exact Onward.mk (hK (.bool up2) _ _ (fun h=>by cases h) (by first|rfl|(simp only [puts,h11])) (Spares.refl _) (fun iv' _ _=>rfl))
      ·
       have h12:vs 12= .int .i64 k2:=dN hd 12;go_wp2_with fail;exact Onward.mk (hK (.int .i64 k2) _ _ (fun h=>by cases h) (by first|rfl|(simp only [puts,h12])) (Spares.refl _) (fun iv' _ _=>rfl))
     case hQ=>
      intro iv vs wx hB hSp hd he hbd hsep;have hzB:=hB.size;have h0:=(dE hd 0).trans hx0.out;have h1:=(dE hd 1).trans hx1.out;have h2:=(dE hd 2).trans hx2.out;obtain ⟨sa,ca,h3,f3⟩:=dE hd 3;obtain ⟨sd,cd,h4,f4⟩:=dE hd 4;have h5:=(dE hd 5).trans hx5.out;have h6:=(dE hd 6).trans hx6.out;obtain ⟨sb,cb,h7,f7⟩:=dE hd 7;obtain ⟨se,ce,h8,f8⟩:=dE hd 8;have h9:vs 9= .tuple #[.bool up2, .int .i64 k2]:=dE hd 9;have h10:vs 10= .tuple #[.bool up2, .int .i64 k2]:=dE hd 10;have h11:vs 11= .bool up2:=dE hd 11;have h12:vs 12= .int .i64 k2:=dE hd 12;have h13:vs 13= .bool up2:=dE hd 13;have h14:vs 14= .int .i64 k2:=dE hd 14;simp only [putFrom,puts];simp only [h13,h14];clear h0 h1 h2 h3 h4 h5 h6 h7 h8 h9 h10 h11 h12 h13 h14 f3 f4 f7 f8;have HFn:=Lib.hid (HF.out.on hB);have HBn:=Lib.hid (HB1.out.trans (hB.mono HB1.out.size));clear HF HB1;have HF:=HFn;have HB1:=HBn;clear HFn HBn;obtain ⟨wm,rfl⟩:∃u,u=wx:=⟨_,rfl⟩;clear hd he hbd hsep hB hSp hzB
      by_cases c2:k2=0
      ·
       subst c2;obtain rfl:up2=true:=HST.out rfl;go_wp2_with fail;go_ret;exact ⟨rfl,HB1.out⟩
      ·
       have q2:(k2 !=0)=true:=by simpa using c2
       clear c2;go_wp2_with fail;go_ret;exact ⟨rfl,HB1.out⟩
set_option maxRecDepth 100000 in
theorem law_Order_of {H:Type} {enc:TypeId × Value→H} (W:World) (args:Array Value) (ds:List (DataW H)) (ps:List MemPlace) (hA:DataW.TrodAll enc Tryz.prog W 0 (fun _=>true) true Tryz.f13.params.toList args.toList ds ps)
  (hval:∀(j:Nat) t v,Tryz.f13.params[j]? =some t→args[j]? =some v→∃base,Value.okWide Tryz.prog W .any base t v):
  Calls Tryz.prog 13 args W fun e W'=>e= .returned (.bool true)∧Below W.heap.size W W':=by
 rw [Tryz.params13] at hA hval;obtain ⟨v0,vs0,d0',ds0,p0,q0,hargs,rfl,rfl,h0,ra0⟩:=trodAll_cons hA;obtain ⟨v1,vs1,d1',ds1,p1,q1,rfl,rfl,rfl,h1,ra1⟩:=trodAll_cons ra0;obtain ⟨rfl,rfl,rfl⟩:=trodAll_nil ra1;obtain rfl:args= #[v0,v1]:=Array.toList_inj.1 hargs;obtain ⟨b0,hv0⟩:=hval 0 68 v0 rfl rfl;obtain ⟨b1,hv1⟩:=hval 1 68 v1 rfl rfl;obtain ⟨xs,s,c,rfl,hr,hx⟩:=open_byteS hv0 h0;obtain ⟨ys,s',c',rfl,hr',hx'⟩:=open_byteS hv1 h1;exact law_Order hr hx hr' hx'
end Go.Proofs.YtfopdcdbelaapaaGreatDoor
