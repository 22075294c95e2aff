/-
  Parts of a proof, joined: Ind. No condition.
-/
import Derived.Test.YtfopdcdbelaapaaGreatDoorPk13
import Derived.Test.YtfopdcdbelaapaaGreatDoorPk33
namespace Go.Proofs.YtfopdcdbelaapaaGreatDoor
set_option linter.unusedVariables false
set_option linter.unusedSimpArgs false
open Go.ChangeShapes Go.WideShapes Go.ChangeAt Go.RowKit Go.Deep Go.Sort
set_option maxRecDepth 100000 in
set_option maxHeartbeats 8000000 in
theorem law_Induction {xs ys:List Int} {s s':Option Addr} {c c':Nat} {w:World} (hr:Rd w (bytesD xs) (.slice s xs.length c)) (hx:∀x∈xs,0≤x∧x≤255) (hr':Rd w (bytesD ys) (.slice s' ys.length c')) (hx':∀x∈ys,0≤x∧x≤255):
  Calls Tryz.prog 11 #[.slice s xs.length c, .slice s' ys.length c'] w fun f w'=>f= .returned (.bool true)∧Below w.heap.size w w':=by
 obtain ⟨-, hl1,hl2, -⟩:=hr.sl_at;obtain ⟨-, hl3,hl4, -⟩:=hr'.sl_at;have HX:=Lib.hid hx;have HX':=Lib.hid hx';have HR:=Lib.hid hr;have HR':=Lib.hid hr';have HL:=Lib.hid (And.intro hl1 (And.intro hl2 (And.intro hl3 hl4)));clear hx hx' hr hr' hl1 hl2 hl3 hl4
 go_enter Tryz.func11,Tryz.ntmps11
 go_wp2_with fail;refine (a2Long_i HL.out.1 HL.out.2.1 HL.out.2.2.1 HL.out.2.2.2).mono ?_;rintro z wq ⟨rfl,hwq⟩;subst hwq;obtain ⟨v,hv⟩:∃v,(decide (3000<xs.length)||decide (3000<ys.length))=v:=⟨_,rfl⟩;rw [hv];clear hv
 cases v
 rotate_left
 ·
  go_wp2_with fail;go_ret;exact ⟨rfl,Below.refl _ _⟩
 go_wp2_with fail;refine (a2Small_i HR.out HX.out).mono ?_;rintro z wa ⟨t,a,e,f,h,s1,s2,s3,c1,c2,c3,rfl,he,hf,hh,z1,z2,z3,hb⟩;have HE:=Lib.hid (((Later.rd he).and (Later.rd hf)).and (Later.rd hh));have HB1:=Lib.hid hb;have HY:=Lib.hid (Later.rd (HR'.out.below hb));have hza:=hb.size;clear he hf hh hb;go_wp2_with fail;obtain ⟨w2,e2,B5,hb2,hz2⟩:=box2 wa 37 (.int .i64 t) (.int .i64 a);rw [e2];obtain ⟨w3,e3,B6,hb3,hz3⟩:=box3 w2 34 (.int .i64 e.kind) (.int .i64 e.num) (.slice s1 e.kids.length c1);rw [e3];obtain ⟨w4,e4,B7,hb4,hz4⟩:=box3 w3 34 (.int .i64 f.kind) (.int .i64 f.num) (.slice s2 f.kids.length c2);rw [e4];obtain ⟨w5,e5,B8,hb5,hz5⟩:=box3 w4 34 (.int .i64 h.kind) (.int .i64 h.num) (.slice s3 h.kids.length c3);rw [e5];obtain ⟨wb,e6,B9,hb6,hz6⟩:=box3 w5 34 (.int .i64 h.kind) (.int .i64 h.num) (.slice s3 h.kids.length c3);rw [e6];clear e2 e3 e4 e5 e6;have hbB2:=hb2.trans ((((hb3.mono (by omega)).trans (hb4.mono (by omega))).trans (hb5.mono (by omega))).trans (hb6.mono (by omega)));have k3:=((hb3.trans (hb4.mono (by omega))).trans (hb5.mono (by omega))).trans (hb6.mono (by omega));have k4:=(hb4.trans (hb5.mono (by omega))).trans (hb6.mono (by omega));have k5:=hb5.trans (hb6.mono (by omega));replace B5:=B5.below k3;replace B6:=B6.below k4;replace B7:=B7.below k5;replace B8:=B8.below hb6;rw [hz2] at B6;rw [hz3,hz2] at B7;rw [hz4,hz3,hz2] at B8;rw [hz5,hz4,hz3,hz2] at B9
 have hzb:wb.heap.size=wa.heap.size+1+1+1+1+1:=by omega
 have HBX:=Lib.hid hbB2;have H5:=Lib.hid B5;have H6:=Lib.hid B6;have H7:=Lib.hid B7;have H8:=Lib.hid B8;have H9:=Lib.hid B9;clear hb2 hb3 hb4 hb5 hb6 hz2 hz3 hz4 hz5 hz6 k3 k4 k5 hbB2 B5 B6 B7 B8 B9;refine (a2At_i (HY.out.ok _ HBX.out) HX'.out (by omega) (by omega) (by omega) (by omega)).mono ?_;rintro z wq ⟨rfl,hwq⟩;subst hwq;obtain ⟨v,hv⟩:∃v,atF ys 0 2=v:=⟨_,rfl⟩;rw [hv];have HV:=Lib.hid hv;clear hv
 have hzb2:wa.heap.size+1+1+1+1<wb.heap.size:=by omega
 clear hzb
 by_cases h0:v=0
 ·
  have q0:(v==0)=true:=by simp [h0]
  have H0:=Lib.hid h0;clear h0;go_wp2_with fail;clear q0;have K9:=H9.out;obtain ⟨x0,hx0⟩:=mkval ?a5_0;obtain ⟨x2,hx2⟩:=mkval ?a5_2;obtain ⟨x3,hx3⟩:=mkval ?a5_3
  have hGb:∀m b,(fun m b=>(m=0∧b=wa.heap.size+1+1+1+1)) m b→(wa.heap.size)≤b∧b<(wb).heap.size:=by
   intro m b hg
   rcases hg with ⟨rfl,hg⟩
   ·
    subst hg;have q:=K9.lt;omega
  have hGd:∀m m' b,(fun m b=>(m=0∧b=wa.heap.size+1+1+1+1)) m b→(fun m b=>(m=0∧b=wa.heap.size+1+1+1+1)) m' b→m=m':=by
   intro m m' b h h'
   rcases h with ⟨rfl,h⟩<;>rcases h' with ⟨rfl,h'⟩<;>first
    |rfl
  refine region_rs [] [(6,0)] (fun m b=>(m=0∧b=wa.heap.size+1+1+1+1)) (wa.heap.size) (fun i iv vs wx=>match i with
   |0=>vs 0=x0
   |1=>∃sa ca,vs 1= .agg #[.int .i64 8, .int .i64 0, .slice sa 1 ca]∧FreshIn (iv 1) wx [kidsD [e]] [.slice sa 1 ca]
   |2=>vs 2=x2
   |3=>vs 3=x3
   |4=>∃sb cb,vs 4= .agg #[.int .i64 6, .int .i64 0, .slice sb 2 cb]∧FreshIn (iv 4) wx [kidsD [f,h]] [.slice sb 2 cb]
   |5=>∃sc cc,vs 5= .agg #[.int .i64 7, .int .i64 0, .slice sc 2 cc]∧FreshIn (iv 5) wx [kidsD [.mk 8 0 [e], .mk 6 0 [f,h]]] [.slice sc 2 cc]
   |6=>Blk wx (wa.heap.size+1+1+1+1) 34 [aggAt (vs 5) 0,aggAt (vs 5) 1,aggAt (vs 5) 2]
   |_=>True) (fun i iv vs=>match i with
   |0=>vs 0=x0
   |1=>∃sa ca,vs 1= .agg #[.int .i64 8, .int .i64 0, .slice sa 1 ca]
   |2=>vs 2=x2
   |3=>vs 3=x3
   |4=>∃sb cb,vs 4= .agg #[.int .i64 6, .int .i64 0, .slice sb 2 cb]
   |5=>∃sc cc,vs 5= .agg #[.int .i64 7, .int .i64 0, .slice sc 2 cc]
   |6=>True
   |_=>True) (by kernel_rfl) (by kernel_rfl) [0,1,2,3,4,5,6] (by kernel_rfl) ?hbase ?hGb ?hG ?hJ ?hE ?hEE ?hstep ?hQ
  case hbase=>first|exact Nat.le_refl _|omega|(simp; omega)
  case hGb=>
   exact hGb
  case hG=>
   exact hGd
  case hJ=>
   intro i hi iv iv' vs vs' wx wx' ha hv hz hk hj;simp only [List.mem_cons,List.not_mem_nil,or_false] at hi
   rcases hi with rfl|rfl|rfl|rfl|rfl|rfl|rfl
   all_goals try exact (aG hv _).symm.trans hj
   ·
    have e1:=aG hv 1;have g1:=aG ha 1;obtain ⟨sa,ca,q1,q2⟩:=hj;exact ⟨sa,ca,e1 ▸ q1,g1 ▸ q2.keep (fun b hb h1 h2=>hk.out b hb (foot_own h1 h2))⟩
   ·
    have e4:=aG hv 4;have g4:=aG ha 4;obtain ⟨sb,cb,q1,q2⟩:=hj;exact ⟨sb,cb,e4 ▸ q1,g4 ▸ q2.keep (fun b hb h1 h2=>hk.out b hb (foot_own h1 h2))⟩
   ·
    have e5:=aG hv 5;have g5:=aG ha 5;obtain ⟨sc,cc,q1,q2⟩:=hj;exact ⟨sc,cc,e5 ▸ q1,g5 ▸ q2.keep (fun b hb h1 h2=>hk.out b hb (foot_own h1 h2))⟩
   ·
    have e5:=aG hv 5;have hj':Blk wx (wa.heap.size+1+1+1+1) 34 [aggAt (vs 5) 0,aggAt (vs 5) 1,aggAt (vs 5) 2]:=hj
    show Blk wx' (wa.heap.size+1+1+1+1) 34 [aggAt (vs' 5) 0,aggAt (vs' 5) 1,aggAt (vs' 5) 2]
    rw [←e5];exact hj'.keep (hk.out _ hj'.lt (foot_given 0 (by decide) ⟨rfl,rfl⟩))
  case hE=>
   intro i hi iv vs wx hj;simp only [List.mem_cons,List.not_mem_nil,or_false] at hi
   rcases hi with rfl|rfl|rfl|rfl|rfl|rfl|rfl
   all_goals try exact hj
   ·
    obtain ⟨sa,ca,q1, -⟩:=hj;exact ⟨sa,ca,q1⟩
   ·
    obtain ⟨sb,cb,q1, -⟩:=hj;exact ⟨sb,cb,q1⟩
   ·
    obtain ⟨sc,cc,q1, -⟩:=hj;exact ⟨sc,cc,q1⟩
   ·
    trivial
  case hEE=>
   intro i hi iv iv' vs vs' ha hv hj;simp only [List.mem_cons,List.not_mem_nil,or_false] at hi
   rcases hi with rfl|rfl|rfl|rfl|rfl|rfl|rfl
   all_goals try exact (aG hv _).symm.trans hj
   ·
    have e1:=aG hv 1;have hj':∃sa ca,vs 1= .agg #[.int .i64 8, .int .i64 0, .slice sa 1 ca]:=hj
    show ∃sa ca,vs' 1= .agg #[.int .i64 8, .int .i64 0, .slice sa 1 ca]
    rw [←e1];exact hj'
   ·
    have e4:=aG hv 4;have hj':∃sb cb,vs 4= .agg #[.int .i64 6, .int .i64 0, .slice sb 2 cb]:=hj
    show ∃sb cb,vs' 4= .agg #[.int .i64 6, .int .i64 0, .slice sb 2 cb]
    rw [←e4];exact hj'
   ·
    have e5:=aG hv 5;have hj':∃sc cc,vs 5= .agg #[.int .i64 7, .int .i64 0, .slice sc 2 cc]:=hj
    show ∃sc cc,vs' 5= .agg #[.int .i64 7, .int .i64 0, .slice sc 2 cc]
    rw [←e5];exact hj'
   ·
    trivial
  case hstep=>
   intro i hi opr ho iv vs w1 hB hS hSo hd he hbd hsep hun K hK;simp only [List.mem_cons,List.not_mem_nil,or_false] at hi;have hzB:=hB.size;have HGb:=Lib.hid hGb;clear hGb hGd;obtain ⟨⟨r1,r2⟩,r3⟩:=HE.out.ok w1 (HBX.out.trans hB);have hKeep:∀g,g<wa.heap.size+1+1+1+1→w1.heap[g]? =wb.heap[g]? :=fun g hg=>hSo.out.block g (by omega) (fun ⟨m,hm⟩=>by obtain ⟨_,h⟩:=hm; omega);obtain ⟨a0,a1,a2, -, -, -, al⟩:=(H6.out.keep (hKeep _ (by omega))).all3;obtain ⟨b0,b1,b2, -, -, -, bl⟩:=(H7.out.keep (hKeep _ (by omega))).all3;obtain ⟨d0,d1,d2, -, -, -, dl⟩:=(H8.out.keep (hKeep _ (by omega))).all3;clear hKeep;generalize hA:putFrom _ 0 vs _=A at hK ⊢;simp only [putFrom,puts] at hA
   rcases hi with rfl|rfl|rfl|rfl|rfl|rfl|rfl
   all_goals
    simp at ho;subst ho;subst hA
   ·
    go_wp2_with fail;refine Onward.mk (hK ?val5_0 _ _ (fun h=>by cases h) ?eqA (Spares.refl _) (fun iv' _ _=> ?ja))
    case eqA=>first|rfl|(simp only [puts]; rfl)
    case ja=>exact hx0.out.symm
   ·
    have h0:=(dN hd 0).trans hx0.out;go_wp2_with fail;refine (a2Star_i (x:=e) r1 (by omega)).mono ?_;rintro e w2 ⟨sa,ca,rfl,hf,hb⟩;go_wp2_with fail;exact Onward.mk (hK (.agg #[.int .i64 8, .int .i64 0, .slice sa 1 ca]) _ _ (fun h=>by cases h) (by first|rfl|(simp only [puts,h0])) (Spares.of_below hb) (fun iv' _ hi=>⟨sa,ca,rfl,by rw [hi]; exact Freshs.stretch (hf)⟩))
   ·
    go_wp2_with fail;refine Onward.mk (hK ?val5_2 _ _ (fun h=>by cases h) ?eqA (Spares.refl _) (fun iv' _ _=> ?ja))
    case eqA=>first|rfl|(simp only [puts]; rfl)
    case ja=>exact hx2.out.symm
   ·
    go_wp2_with fail;refine Onward.mk (hK ?val5_3 _ _ (fun h=>by cases h) ?eqA (Spares.refl _) (fun iv' _ _=> ?ja))
    case eqA=>first|rfl|(simp only [puts]; rfl)
    case ja=>exact hx3.out.symm
   ·
    have h2:=(dN hd 2).trans hx2.out;have h3:=(dN hd 3).trans hx3.out;go_wp2_with fail;refine (a2Pair_i (k:=6) (x:=f) (y:=h) r2 r3 (by omega) (by omega)).mono ?_;rintro e w2 ⟨sb,cb,rfl,hf,hb⟩;go_wp2_with fail;exact Onward.mk (hK (.agg #[.int .i64 6, .int .i64 0, .slice sb 2 cb]) _ _ (fun h=>by cases h) (by first|rfl|(simp only [puts,h2,h3])) (Spares.of_below hb) (fun iv' _ hi=>⟨sb,cb,rfl,by rw [hi]; exact Freshs.stretch (hf)⟩))
   ·
    obtain ⟨sa,ca,h1,f1⟩:=dN hd 1;obtain ⟨sb,cb,h4,f4⟩:=dN hd 4;go_wp2_with fail;refine (a2Pair_i (k:=7) (x:= .mk 8 0 [e]) (y:= .mk 6 0 [f,h]) f1.rd f4.rd (by rw [size_starE rfl]; omega) (by rw [size_pairE rfl]; omega)).mono ?_;rintro e w2 ⟨sc,cc,rfl,hf,hb⟩;go_wp2_with fail;exact Onward.mk (hK (.agg #[.int .i64 7, .int .i64 0, .slice sc 2 cc]) _ _ (fun h=>by cases h) (by first|rfl|(simp only [puts,h1,h4])) (Spares.of_below hb) (fun iv' _ hi=>⟨sc,cc,rfl,by rw [hi]; exact Freshs.stretch (hf)⟩))
   ·
    obtain ⟨sc,cc,h5,f5⟩:=dN hd 5;have K91:=K9.keep (hS.out 0 _ (by kernel_rfl) ⟨rfl,rfl⟩);have k9c0:=K91.c0;have k9z0:=K91.frozen 0;have k9c1:=K91.c1;have k9z1:=K91.frozen 1;have k9c2:=K91.c2;have k9z2:=K91.frozen 2;have k9lt:=K91.lt;go_wp2_with fail
    exact Onward.mk (hK undef _ _ (fun _=>rfl) (by simp only [puts,h5]) ((spares_sets (b0:=wa.heap.size+1+1+1+1) (by repeat (first|exact Spares.refl _|apply Spares.set))).more (fun b h=>Or.inl ⟨0,by decide,⟨rfl,h⟩⟩)) (fun iv' ag hi=>by
     show Blk _ (wa.heap.size+1+1+1+1) 34 [aggAt (vs 5) 0,aggAt (vs 5) 1,aggAt (vs 5) 2]
     rw [h5]
     exact (((K91.set 0 _).set 1 _).set 2 _)))
  case hQ=>
   intro iv vs wx hB hSp hd he hbd hsep;have hzB:=hB.size;have h0:=(dE hd 0).trans hx0.out;obtain ⟨sa,ca,h1,f1⟩:=dE hd 1;have h2:=(dE hd 2).trans hx2.out;have h3:=(dE hd 3).trans hx3.out;obtain ⟨sb,cb,h4,f4⟩:=dE hd 4;obtain ⟨sc,cc,h5,f5⟩:=dE hd 5;have f6:Blk _ (wa.heap.size+1+1+1+1) 34 [aggAt (vs 5) 0,aggAt (vs 5) 1,aggAt (vs 5) 2]:=dE hd 6;simp only [putFrom,puts];rw [h5] at f6;obtain ⟨x,hx⟩:∃x:Ex,x= .mk 7 0 [.mk 8 0 [e], .mk 6 0 [f,h]]:=⟨_,rfl⟩
   have K9n:Blk wx (wa.heap.size+1+1+1+1) 34 [.int .i64 x.kind, .int .i64 x.num, .slice sc x.kids.length cc]:=by rw [hx]; exact f6
   have hxr:Rd wx (kidsD x.kids) (.slice sc x.kids.length cc):=by rw [hx]; exact f5.rd
   have HG:Hid (v=0→x= .mk 7 0 [.mk 8 0 [e], .mk 6 0 [f,h]]):=fun _=>hx
   have hxz:x.size≤150:=by rw [size_pairE hx,size_starE rfl,size_pairE rfl]; omega
   have ksp:=fun (b:Nat) (h:b<wa.heap.size+1+1+1+1)=>hSp.out.block b (by omega) (fun ⟨_,_,q⟩=>by omega);have H5n:=Lib.hid (H5.out.keep (ksp _ (by omega)));have H6n:=Lib.hid (H6.out.keep (ksp _ (by omega)));have H7n:=Lib.hid (H7.out.keep (ksp _ (by omega)));have HBn:=Lib.hid (HBX.out.trans hB);have HEn:=Lib.hid ((HE.out.on HBn.out).and (Later.rd hxr));have HYn:=Lib.hid (HY.out.on HBn.out);have HB0:=Lib.hid (HB1.out.trans (HBn.out.mono hza));obtain ⟨wy,rfl⟩:∃u,u=wx:=⟨_,rfl⟩;clear hd he hbd hsep h0 h1 h2 h3 h4 h5 f1 f4 f5 f6 hB hSp hzB hxr H5 H6 H7 H8 H9 HBX HE HY HB1 ksp hx K9 H0 HBn;have H9n:=Lib.hid K9n;clear K9n;go_wp2_with fail;obtain ⟨x0,hx0⟩:=mkval ?a3_0;obtain ⟨x1,hx1⟩:=mkval ?a3_1;obtain ⟨x2,hx2⟩:=mkval ?a3_2
   refine region_rs [(6,5)] [] (fun _ _=>False) (wy.heap.size) (fun i iv vs wx=>match i with
    |0=>vs 0=x0
    |1=>vs 1=x1
    |2=>vs 2=x2
    |3=>∃sa ca,vs 3= .agg #[.int .i64 7, .int .i64 0, .slice sa 2 ca]∧FreshIn (iv 3) wx [kidsD [e,x]] [.slice sa 2 ca]
    |4=>∃sb cb,vs 4= .agg #[.int .i64 6, .int .i64 0, .slice sb 2 cb]∧FreshIn (iv 4) wx [kidsD [f, .mk 7 0 [e,x]]] [.slice sb 2 cb]
    |5=>vs 5= .pointer (some ⟨(iv 5).1,0,none⟩)∧(iv 5).2=(iv 5).1+1∧Blk wx (iv 5).1 34 [.int .i64 0, .int .i64 0, .slice none 0 0]
    |6=>(iv 5).2=(iv 5).1+1∧Blk wx ((iv 5).1) 34 [aggAt (vs 4) 0,aggAt (vs 4) 1,aggAt (vs 4) 2]
    |_=>True) (fun i iv vs=>match i with
    |0=>vs 0=x0
    |1=>vs 1=x1
    |2=>vs 2=x2
    |3=>∃sa ca,vs 3= .agg #[.int .i64 7, .int .i64 0, .slice sa 2 ca]
    |4=>∃sb cb,vs 4= .agg #[.int .i64 6, .int .i64 0, .slice sb 2 cb]
    |5=>vs 5= .pointer (some ⟨(iv 5).1,0,none⟩)∧(iv 5).2=(iv 5).1+1
    |6=>True
    |_=>True) (by kernel_rfl) (by kernel_rfl) [0,1,2,3,4,5,6] (by kernel_rfl) ?hbase ?hGb ?hG ?hJ ?hE ?hEE ?hstep ?hQ
   case hbase=>first|exact Nat.le_refl _|omega|(simp; omega)
   case hGb=>
    exact fun _ _ h=>h.elim
   case hG=>
    exact fun _ _ _ h=>h.elim
   case hJ=>
    intro i hi iv iv' vs vs' wx wx' ha hv hz hk hj;simp only [List.mem_cons,List.not_mem_nil,or_false] at hi
    rcases hi with rfl|rfl|rfl|rfl|rfl|rfl|rfl
    all_goals try exact (aG hv _).symm.trans hj
    ·
     have e3:=aG hv 3;have g3:=aG ha 3;obtain ⟨sa,ca,q1,q2⟩:=hj;exact ⟨sa,ca,e3 ▸ q1,g3 ▸ q2.keep (fun b hb h1 h2=>hk.out b hb (foot_own h1 h2))⟩
    ·
     have e4:=aG hv 4;have g4:=aG ha 4;obtain ⟨sb,cb,q1,q2⟩:=hj;exact ⟨sb,cb,e4 ▸ q1,g4 ▸ q2.keep (fun b hb h1 h2=>hk.out b hb (foot_own h1 h2))⟩
    ·
     have e5:=aG hv 5;have g5:=aG ha 5;obtain ⟨q1,q3,q2⟩:=hj
     show vs' 5= .pointer (some ⟨(iv' 5).1,0,none⟩)∧(iv' 5).2=(iv' 5).1+1∧Blk wx' (iv' 5).1 34 [.int .i64 0, .int .i64 0, .slice none 0 0]
     rw [←e5,←g5];exact ⟨q1,q3,q2.keep (hk.out _ q2.lt (foot_own (Nat.le_refl _) (by omega)))⟩
    ·
     have e4:=aG hv 4;have g5:=aG ha 5;have hj':(iv 5).2=(iv 5).1+1∧Blk wx ((iv 5).1) 34 [aggAt (vs 4) 0,aggAt (vs 4) 1,aggAt (vs 4) 2]:=hj
     show (iv' 5).2=(iv' 5).1+1∧Blk wx' ((iv' 5).1) 34 [aggAt (vs' 4) 0,aggAt (vs' 4) 1,aggAt (vs' 4) 2]
     rw [←e4,←g5];exact ⟨hj'.1,hj'.2.keep (hk.out _ hj'.2.lt ⟨5,mem_of (by kernel_rfl),Or.inl ⟨Nat.le_refl _,by omega⟩⟩)⟩
   case hE=>
    intro i hi iv vs wx hj;simp only [List.mem_cons,List.not_mem_nil,or_false] at hi
    rcases hi with rfl|rfl|rfl|rfl|rfl|rfl|rfl
    all_goals try exact hj
    ·
     obtain ⟨sa,ca,q1, -⟩:=hj;exact ⟨sa,ca,q1⟩
    ·
     obtain ⟨sb,cb,q1, -⟩:=hj;exact ⟨sb,cb,q1⟩
    ·
     exact ⟨hj.1,hj.2.1⟩
    ·
     trivial
   case hEE=>
    intro i hi iv iv' vs vs' ha hv hj;simp only [List.mem_cons,List.not_mem_nil,or_false] at hi
    rcases hi with rfl|rfl|rfl|rfl|rfl|rfl|rfl
    all_goals try exact (aG hv _).symm.trans hj
    ·
     have e3:=aG hv 3;have hj':∃sa ca,vs 3= .agg #[.int .i64 7, .int .i64 0, .slice sa 2 ca]:=hj
     show ∃sa ca,vs' 3= .agg #[.int .i64 7, .int .i64 0, .slice sa 2 ca]
     rw [←e3];exact hj'
    ·
     have e4:=aG hv 4;have hj':∃sb cb,vs 4= .agg #[.int .i64 6, .int .i64 0, .slice sb 2 cb]:=hj
     show ∃sb cb,vs' 4= .agg #[.int .i64 6, .int .i64 0, .slice sb 2 cb]
     rw [←e4];exact hj'
    ·
     have e5:=aG hv 5;have g5:=aG ha 5;have hj':vs 5= .pointer (some ⟨(iv 5).1,0,none⟩)∧(iv 5).2=(iv 5).1+1:=hj
     show vs' 5= .pointer (some ⟨(iv' 5).1,0,none⟩)∧(iv' 5).2=(iv' 5).1+1
     rw [←e5,←g5];exact hj'
    ·
     trivial
   case hstep=>
    intro i hi opr ho iv vs w1 hB hS hSo hd he hbd hsep hun K hK;simp only [List.mem_cons,List.not_mem_nil,or_false] at hi;have hzB:=hB.size;obtain ⟨⟨⟨r1,r2⟩,r3⟩,r4⟩:=HEn.out.ok w1 hB;obtain ⟨a0,a1,a2, -, -, -, al⟩:=(H6n.out.below hB).all3;obtain ⟨b0,b1,b2, -, -, -, bl⟩:=(H7n.out.below hB).all3;obtain ⟨d0,d1,d2, -, -, -, dl⟩:=(H9n.out.below hB).all3;generalize hA:putFrom _ 0 vs _=A at hK ⊢;simp only [putFrom,puts] at hA
    rcases hi with rfl|rfl|rfl|rfl|rfl|rfl|rfl
    all_goals
     simp at ho;subst ho;subst hA
    ·
     go_wp2_with fail;refine Onward.mk (hK ?val3_0 _ _ (fun h=>by cases h) ?eqA (Spares.refl _) (fun iv' _ _=> ?ja))
     case eqA=>first|rfl|(simp only [puts]; rfl)
     case ja=>exact hx0.out.symm
    ·
     go_wp2_with fail;refine Onward.mk (hK ?val3_1 _ _ (fun h=>by cases h) ?eqA (Spares.refl _) (fun iv' _ _=> ?ja))
     case eqA=>first|rfl|(simp only [puts]; rfl)
     case ja=>exact hx1.out.symm
    ·
     go_wp2_with fail;refine Onward.mk (hK ?val3_2 _ _ (fun h=>by cases h) ?eqA (Spares.refl _) (fun iv' _ _=> ?ja))
     case eqA=>first|rfl|(simp only [puts]; rfl)
     case ja=>exact hx2.out.symm
    ·
     have h1:=(dN hd 1).trans hx1.out;have h2:=(dN hd 2).trans hx2.out;go_wp2_with fail;refine (a2Pair_i (k:=7) (x:=e) (y:=x) r1 r4 (by omega) (by omega)).mono ?_;rintro e w2 ⟨sa,ca,rfl,hf,hb⟩;go_wp2_with fail;exact Onward.mk (hK (.agg #[.int .i64 7, .int .i64 0, .slice sa 2 ca]) _ _ (fun h=>by cases h) (by first|rfl|(simp only [puts,h1,h2])) (Spares.of_below hb) (fun iv' _ hi=>⟨sa,ca,rfl,by rw [hi]; exact Freshs.stretch (hf)⟩))
    ·
     have h0:=(dN hd 0).trans hx0.out;obtain ⟨sa,ca,h3,f3⟩:=dN hd 3;go_wp2_with fail;refine (a2Pair_i (k:=6) (x:=f) (y:= .mk 7 0 [e,x]) r2 f3.rd (by omega) (by rw [size_pairE rfl]; omega)).mono ?_;rintro e w2 ⟨sb,cb,rfl,hf,hb⟩;go_wp2_with fail;exact Onward.mk (hK (.agg #[.int .i64 6, .int .i64 0, .slice sb 2 cb]) _ _ (fun h=>by cases h) (by first|rfl|(simp only [puts,h0,h3])) (Spares.of_below hb) (fun iv' _ hi=>⟨sb,cb,rfl,by rw [hi]; exact Freshs.stretch (hf)⟩))
    ·
     go_wp2_with fail
     exact Onward.mk (hK (.pointer (some ⟨w1.heap.size,0,none⟩)) _ _ (fun h=>by cases h) (by first|rfl|(simp only [puts])) (Spares.of_below (Below.alloc (Below.refl _ _) (Nat.le_refl _) _)) (fun iv' _ hi=>by
      show Value.pointer (some ⟨w1.heap.size,0,none⟩)= .pointer (some ⟨(iv' 5).1,0,none⟩)∧(iv' 5).2=(iv' 5).1+1∧Blk _ (iv' 5).1 34 [.int .i64 0, .int .i64 0, .slice none 0 0]
      rw [hi]
      exact ⟨rfl,by simp,Blk.new3 _ _ _ _ _⟩))
    ·
     obtain ⟨sb,cb,h4,f4⟩:=dN hd 4;obtain ⟨h5,q5,f5⟩:=dN hd 5;have bc0:=f5.c0;have bz0:=f5.frozen 0;have bc1:=f5.c1;have bz1:=f5.frozen 1;have bc2:=f5.c2;have bz2:=f5.frozen 2;have blt:=f5.lt;go_wp2_with fail
     exact Onward.mk (hK undef _ _ (fun _=>rfl) (by simp only [puts,h4,h5]) ((spares_sets (b0:=(iv 5).1) (by repeat (first|exact Spares.refl _|apply Spares.set))).more (fun b h=>Or.inr ⟨5,by decide,foot_own (by omega) (by omega)⟩)) (fun iv' ag hi=>by
      show (iv' 5).2=(iv' 5).1+1∧Blk _ ((iv' 5).1) 34 [aggAt (vs 4) 0,aggAt (vs 4) 1,aggAt (vs 4) 2]
      rw [←ag.out 5 (mem_of (by kernel_rfl)),h4]
      exact ⟨q5,(((f5.set 0 _).set 1 _).set 2 _)⟩))
   case hQ=>
    intro iv vs wx hB hSp hd he hbd hsep;have hzB:=hB.size;have h0:=(dE hd 0).trans hx0.out;have h1:=(dE hd 1).trans hx1.out;have h2:=(dE hd 2).trans hx2.out;obtain ⟨sa,ca,h3,f3⟩:=dE hd 3;obtain ⟨sb,cb,h4,f4⟩:=dE hd 4;obtain ⟨h5,q5⟩:=dM he 5;obtain ⟨q6,f6⟩:=dE hd 6;simp only [putFrom,puts];obtain ⟨rb,hrb⟩:∃rb,(iv 5).1=rb:=⟨_,rfl⟩;have b5:=(dM hbd 5).1;rw [hrb] at h5 f6 b5;rw [h4] at f6;simp only [h5];obtain ⟨st,hst⟩:∃st:Ex,st= .mk 6 0 [f, .mk 7 0 [e,x]]:=⟨_,rfl⟩;have HST:=Lib.hid hst
    have KS:Hid (Blk wx rb 34 [.int .i64 st.kind, .int .i64 st.num, .slice sb st.kids.length cb]):=by rw [hst]; exact f6
    have hsr:Rd wx (kidsD st.kids) (.slice sb st.kids.length cb):=by rw [hst]; exact f4.rd
    have hsz:st.size≤300:=by rw [size_pairE hst,size_pairE rfl]; omega
    have HEm:=Lib.hid ((HEn.out.on hB).and (Later.rd hsr));have HYm:=Lib.hid (HYn.out.on hB);have HBm:=Lib.hid (HB0.out.trans (hB.mono HB0.out.size));have H5m:=Lib.hid (H5n.out.below hB);have H6m:=Lib.hid (H6n.out.below hB);have H7m:=Lib.hid (H7n.out.below hB);have H9m:=Lib.hid (H9n.out.below hB);obtain ⟨wv,rfl⟩:∃u,u=wx:=⟨_,rfl⟩;clear hd he hbd hsep h0 h1 h2 h3 h4 h5 f3 f4 f6 hB hSp hzB hsr hst hrb b5 H5n H6n H7n H9n HEn HYn HB0;go_wp2_with fail;obtain ⟨x0,hx0⟩:=mkval ?a1_0;obtain ⟨x2,hx2⟩:=mkval ?a1_2
    refine region_rs [(5,4)] [] (fun _ _=>False) (wv.heap.size) (fun i iv vs wx=>match i with
     |0=>vs 0=x0
     |1=>∃sa ca,vs 1= .agg #[.int .i64 8, .int .i64 0, .slice sa 1 ca]∧FreshIn (iv 1) wx [kidsD [e]] [.slice sa 1 ca]
     |2=>vs 2=x2
     |3=>∃sd cd,vs 3= .agg #[.int .i64 7, .int .i64 0, .slice sd 2 cd]∧FreshIn (iv 3) wx [kidsD [.mk 8 0 [e],f]] [.slice sd 2 cd]
     |4=>vs 4= .pointer (some ⟨(iv 4).1,0,none⟩)∧(iv 4).2=(iv 4).1+1∧Blk wx (iv 4).1 34 [.int .i64 0, .int .i64 0, .slice none 0 0]
     |5=>(iv 4).2=(iv 4).1+1∧Blk wx ((iv 4).1) 34 [aggAt (vs 3) 0,aggAt (vs 3) 1,aggAt (vs 3) 2]
     |_=>True) (fun i iv vs=>match i with
     |0=>vs 0=x0
     |1=>∃sa ca,vs 1= .agg #[.int .i64 8, .int .i64 0, .slice sa 1 ca]
     |2=>vs 2=x2
     |3=>∃sd cd,vs 3= .agg #[.int .i64 7, .int .i64 0, .slice sd 2 cd]
     |4=>vs 4= .pointer (some ⟨(iv 4).1,0,none⟩)∧(iv 4).2=(iv 4).1+1
     |5=>True
     |_=>True) (by kernel_rfl) (by kernel_rfl) [0,1,2,3,4,5] (by kernel_rfl) ?hbase ?hGb ?hG ?hJ ?hE ?hEE ?hstep ?hQ
    case hbase=>first|exact Nat.le_refl _|omega|(simp; omega)
    case hGb=>
     exact fun _ _ h=>h.elim
    case hG=>
     exact fun _ _ _ h=>h.elim
    case hJ=>
     intro i hi iv iv' vs vs' wx wx' ha hv hz hk hj;simp only [List.mem_cons,List.not_mem_nil,or_false] at hi
     rcases hi with rfl|rfl|rfl|rfl|rfl|rfl
     all_goals try exact (aG hv _).symm.trans hj
     ·
      have e1:=aG hv 1;have g1:=aG ha 1;obtain ⟨sa,ca,q1,q2⟩:=hj;exact ⟨sa,ca,e1 ▸ q1,g1 ▸ q2.keep (fun b hb h1 h2=>hk.out b hb (foot_own h1 h2))⟩
     ·
      have e3:=aG hv 3;have g3:=aG ha 3;obtain ⟨sd,cd,q1,q2⟩:=hj;exact ⟨sd,cd,e3 ▸ q1,g3 ▸ q2.keep (fun b hb h1 h2=>hk.out b hb (foot_own h1 h2))⟩
     ·
      have e4:=aG hv 4;have g4:=aG ha 4;obtain ⟨q1,q3,q2⟩:=hj
      show vs' 4= .pointer (some ⟨(iv' 4).1,0,none⟩)∧(iv' 4).2=(iv' 4).1+1∧Blk wx' (iv' 4).1 34 [.int .i64 0, .int .i64 0, .slice none 0 0]
      rw [←e4,←g4];exact ⟨q1,q3,q2.keep (hk.out _ q2.lt (foot_own (Nat.le_refl _) (by omega)))⟩
     ·
      have e3:=aG hv 3;have g4:=aG ha 4;have hj':(iv 4).2=(iv 4).1+1∧Blk wx ((iv 4).1) 34 [aggAt (vs 3) 0,aggAt (vs 3) 1,aggAt (vs 3) 2]:=hj
      show (iv' 4).2=(iv' 4).1+1∧Blk wx' ((iv' 4).1) 34 [aggAt (vs' 3) 0,aggAt (vs' 3) 1,aggAt (vs' 3) 2]
      rw [←e3,←g4];exact ⟨hj'.1,hj'.2.keep (hk.out _ hj'.2.lt ⟨4,mem_of (by kernel_rfl),Or.inl ⟨Nat.le_refl _,by omega⟩⟩)⟩
    case hE=>
     intro i hi iv vs wx hj;simp only [List.mem_cons,List.not_mem_nil,or_false] at hi
     rcases hi with rfl|rfl|rfl|rfl|rfl|rfl
     all_goals try exact hj
     ·
      obtain ⟨sa,ca,q1, -⟩:=hj;exact ⟨sa,ca,q1⟩
     ·
      obtain ⟨sd,cd,q1, -⟩:=hj;exact ⟨sd,cd,q1⟩
     ·
      exact ⟨hj.1,hj.2.1⟩
     ·
      trivial
    case hEE=>
     intro i hi iv iv' vs vs' ha hv hj;simp only [List.mem_cons,List.not_mem_nil,or_false] at hi
     rcases hi with rfl|rfl|rfl|rfl|rfl|rfl
     all_goals try exact (aG hv _).symm.trans hj
     ·
      have e1:=aG hv 1;have hj':∃sa ca,vs 1= .agg #[.int .i64 8, .int .i64 0, .slice sa 1 ca]:=hj
      show ∃sa ca,vs' 1= .agg #[.int .i64 8, .int .i64 0, .slice sa 1 ca]
      rw [←e1];exact hj'
     ·
      have e3:=aG hv 3;have hj':∃sd cd,vs 3= .agg #[.int .i64 7, .int .i64 0, .slice sd 2 cd]:=hj
      show ∃sd cd,vs' 3= .agg #[.int .i64 7, .int .i64 0, .slice sd 2 cd]
      rw [←e3];exact hj'
     ·
      have e4:=aG hv 4;have g4:=aG ha 4;have hj':vs 4= .pointer (some ⟨(iv 4).1,0,none⟩)∧(iv 4).2=(iv 4).1+1:=hj
      show vs' 4= .pointer (some ⟨(iv' 4).1,0,none⟩)∧(iv' 4).2=(iv' 4).1+1
      rw [←e4,←g4];exact hj'
     ·
      trivial
    case hstep=>
     intro i hi opr ho iv vs w1 hB hS hSo hd he hbd hsep hun K hK;simp only [List.mem_cons,List.not_mem_nil,or_false] at hi;have hzB:=hB.size;obtain ⟨⟨⟨⟨r1,r2⟩,r3⟩,r4⟩,r5⟩:=HEm.out.ok w1 hB;obtain ⟨a0,a1,a2, -, -, -, al⟩:=(H6m.out.below hB).all3;obtain ⟨b0,b1,b2, -, -, -, bl⟩:=(H7m.out.below hB).all3;generalize hA:putFrom _ 0 vs _=A at hK ⊢;simp only [putFrom,puts] at hA
     rcases hi with rfl|rfl|rfl|rfl|rfl|rfl
     all_goals
      simp at ho;subst ho;subst hA
     ·
      go_wp2_with fail;refine Onward.mk (hK ?val1_0 _ _ (fun h=>by cases h) ?eqA (Spares.refl _) (fun iv' _ _=> ?ja))
      case eqA=>first|rfl|(simp only [puts]; rfl)
      case ja=>exact hx0.out.symm
     ·
      have h0:=(dN hd 0).trans hx0.out;go_wp2_with fail;refine (a2Star_i (x:=e) r1 (by omega)).mono ?_;rintro e w2 ⟨sa,ca,rfl,hf,hb⟩;go_wp2_with fail;exact Onward.mk (hK (.agg #[.int .i64 8, .int .i64 0, .slice sa 1 ca]) _ _ (fun h=>by cases h) (by first|rfl|(simp only [puts,h0])) (Spares.of_below hb) (fun iv' _ hi=>⟨sa,ca,rfl,by rw [hi]; exact Freshs.stretch (hf)⟩))
     ·
      go_wp2_with fail;refine Onward.mk (hK ?val1_2 _ _ (fun h=>by cases h) ?eqA (Spares.refl _) (fun iv' _ _=> ?ja))
      case eqA=>first|rfl|(simp only [puts]; rfl)
      case ja=>exact hx2.out.symm
     ·
      obtain ⟨sa,ca,h1,f1⟩:=dN hd 1;have h2:=(dN hd 2).trans hx2.out;go_wp2_with fail;refine (a2Pair_i (k:=7) (x:= .mk 8 0 [e]) (y:=f) f1.rd r2 (by rw [size_starE rfl]; omega) (by omega)).mono ?_;rintro e w2 ⟨sd,cd,rfl,hf,hb⟩;go_wp2_with fail;exact Onward.mk (hK (.agg #[.int .i64 7, .int .i64 0, .slice sd 2 cd]) _ _ (fun h=>by cases h) (by first|rfl|(simp only [puts,h1,h2])) (Spares.of_below hb) (fun iv' _ hi=>⟨sd,cd,rfl,by rw [hi]; exact Freshs.stretch (hf)⟩))
     ·
      go_wp2_with fail
      exact Onward.mk (hK (.pointer (some ⟨w1.heap.size,0,none⟩)) _ _ (fun h=>by cases h) (by first|rfl|(simp only [puts])) (Spares.of_below (Below.alloc (Below.refl _ _) (Nat.le_refl _) _)) (fun iv' _ hi=>by
       show Value.pointer (some ⟨w1.heap.size,0,none⟩)= .pointer (some ⟨(iv' 4).1,0,none⟩)∧(iv' 4).2=(iv' 4).1+1∧Blk _ (iv' 4).1 34 [.int .i64 0, .int .i64 0, .slice none 0 0]
       rw [hi]
       exact ⟨rfl,by simp,Blk.new3 _ _ _ _ _⟩))
     ·
      obtain ⟨sd,cd,h3,f3⟩:=dN hd 3;obtain ⟨h4,q4,f4⟩:=dN hd 4;have bc0:=f4.c0;have bz0:=f4.frozen 0;have bc1:=f4.c1;have bz1:=f4.frozen 1;have bc2:=f4.c2;have bz2:=f4.frozen 2;have blt:=f4.lt;go_wp2_with fail
      exact Onward.mk (hK undef _ _ (fun _=>rfl) (by simp only [puts,h3,h4]) ((spares_sets (b0:=(iv 4).1) (by repeat (first|exact Spares.refl _|apply Spares.set))).more (fun b h=>Or.inr ⟨4,by decide,foot_own (by omega) (by omega)⟩)) (fun iv' ag hi=>by
       show (iv' 4).2=(iv' 4).1+1∧Blk _ ((iv' 4).1) 34 [aggAt (vs 3) 0,aggAt (vs 3) 1,aggAt (vs 3) 2]
       rw [←ag.out 4 (mem_of (by kernel_rfl)),h3]
       exact ⟨q4,(((f4.set 0 _).set 1 _).set 2 _)⟩))
    case hQ=>
     intro iv vs wx hB hSp hd he hbd hsep;have hzB:=hB.size;have h0:=(dE hd 0).trans hx0.out;obtain ⟨sa,ca,h1,f1⟩:=dE hd 1;have h2:=(dE hd 2).trans hx2.out;obtain ⟨sd,cd,h3,f3⟩:=dE hd 3;obtain ⟨h4,q4⟩:=dM he 4;obtain ⟨q5,f5⟩:=dE hd 5;simp only [putFrom,puts];obtain ⟨lb,hlb⟩:∃lb,(iv 4).1=lb:=⟨_,rfl⟩;rw [hlb] at h4 f5;rw [h3] at f5;simp only [h4];obtain ⟨ls,hls⟩:∃ls:Ex,ls= .mk 7 0 [.mk 8 0 [e],f]:=⟨_,rfl⟩;have HLS:=Lib.hid hls
     have KL:Hid (Blk wx lb 34 [.int .i64 ls.kind, .int .i64 ls.num, .slice sd ls.kids.length cd]):=by rw [hls]; exact f5
     have hlr:Rd wx (kidsD ls.kids) (.slice sd ls.kids.length cd):=by rw [hls]; exact f3.rd
     have hlz:ls.size≤300:=by rw [size_pairE hls,size_starE rfl]; omega
     obtain ⟨⟨⟨⟨r1,r2⟩,r3⟩,r4⟩,r5⟩:=HEm.out.ok wx hB;have HF:=Lib.hid (((((((Later.rd r4).and (Later.rd r5)).and (Later.rd hlr)).and (Later.blk (H5m.out.below hB))).and (Later.blk (H9m.out.below hB))).and (Later.blk (KS.out.below hB))).and (Later.blk KL.out));have HYk:=Lib.hid (HYm.out.on hB);have HBk:=Lib.hid (HBm.out.trans (hB.mono HBm.out.size));obtain ⟨wu,rfl⟩:∃u,u=wx:=⟨_,rfl⟩;clear hd he hbd hsep h0 h1 h2 h3 h4 f1 f3 f5 hB hSp hzB hlr hls hlb r1 r2 r3 r4 r5 H5m H6m H7m H9m HEm HYm HBm KS KL;obtain ⟨w0c,hw0c⟩:∃w0c,bothC t a st x=w0c:=⟨_,rfl⟩;obtain ⟨w1c,hw1c⟩:∃w1c,bothC t a ls x=w1c:=⟨_,rfl⟩;obtain ⟨cl,hcl⟩:∃cl,atR t a st x=cl:=⟨_,rfl⟩;obtain ⟨un,hun'⟩:∃un,atR t a ls x=un:=⟨_,rfl⟩;have HC:=Lib.hid (And.intro (And.intro hw0c hw1c) (And.intro hcl hun'));clear hw0c hw1c hcl hun';obtain ⟨⟨⟨⟨-, g5⟩,g9⟩,gs⟩,gl⟩:=HF.out.now;obtain ⟨g50,g51,l5⟩:=g5.all2;obtain ⟨g90,g91,g92, -, -, -, l9⟩:=g9.all3;obtain ⟨ge0,ge1,ge2, -, -, -, le'⟩:=gs.all3;clear g5 g9 gs gl;go_wp2_with fail;clear g50 g51 l5 g90 g91 g92 l9 ge0 ge1 ge2 le';refine (specAtMost_l (HF.out.now.1.1.1.1.1.2) HF.out.now.1.1.1.1.1.1 (by omega) (by omega)).mono ?_;rintro z wp1 ⟨rfl,hb⟩;rw [HC.out.1.1,HC.out.2.1];replace HF:=Lib.hid (HF.out.on hb);replace HYk:=Lib.hid (HYk.out.on hb);replace HBk:=Lib.hid (HBk.out.trans (hb.mono HBk.out.size));clear hb;obtain ⟨⟨⟨⟨-, g5⟩,g9⟩,gs⟩,gl⟩:=HF.out.now;obtain ⟨g50,g51,l5⟩:=g5.all2;obtain ⟨g90,g91,g92, -, -, -, l9⟩:=g9.all3;obtain ⟨ge0,ge1,ge2, -, -, -, le'⟩:=gl.all3;clear g5 g9 gs gl;go_wp2_with fail;clear g50 g51 l5 g90 g91 g92 l9 ge0 ge1 ge2 le';refine (specAtMost_l (HF.out.now.1.1.1.1.2) HF.out.now.1.1.1.1.1.1 (by omega) (by omega)).mono ?_;rintro z wp2 ⟨rfl,hb⟩;rw [HC.out.1.2,HC.out.2.2];replace HF:=Lib.hid (HF.out.on hb);replace HYk:=Lib.hid (HYk.out.on hb);replace HBk:=Lib.hid (HBk.out.trans (hb.mono HBk.out.size));clear hb;obtain ⟨⟨⟨⟨-, g5⟩,g9⟩,gs⟩,gl⟩:=HF.out.now;obtain ⟨g50,g51,l5⟩:=g5.all2;obtain ⟨g90,g91,g92, -, -, -, l9⟩:=g9.all3;obtain ⟨ge0,ge1,ge2, -, -, -, le'⟩:=gs.all3;clear g5 g9 gs gl;go_wp2_with fail;clear g50 g51 l5 g90 g91 g92 l9 ge0 ge1 ge2 le';refine (implAtMost_l (HF.out.now.1.1.1.1.1.2) HF.out.now.1.1.1.1.1.1 (by omega) (by omega)).mono ?_;rintro z wp3 ⟨rfl,hb⟩;rw [HC.out.1.1,HC.out.2.1];replace HF:=Lib.hid (HF.out.on hb);replace HYk:=Lib.hid (HYk.out.on hb);replace HBk:=Lib.hid (HBk.out.trans (hb.mono HBk.out.size));clear hb;obtain ⟨⟨⟨⟨-, g5⟩,g9⟩,gs⟩,gl⟩:=HF.out.now;obtain ⟨g50,g51,l5⟩:=g5.all2;obtain ⟨g90,g91,g92, -, -, -, l9⟩:=g9.all3;obtain ⟨ge0,ge1,ge2, -, -, -, le'⟩:=gl.all3;clear g5 g9 gs gl;go_wp2_with fail;clear g50 g51 l5 g90 g91 g92 l9 ge0 ge1 ge2 le';refine (implAtMost_l (HF.out.now.1.1.1.1.2) HF.out.now.1.1.1.1.1.1 (by omega) (by omega)).mono ?_;rintro z wp4 ⟨rfl,hb⟩;rw [HC.out.1.2,HC.out.2.2];replace HF:=Lib.hid (HF.out.on hb);replace HYk:=Lib.hid (HYk.out.on hb);replace HBk:=Lib.hid (HBk.out.trans (hb.mono HBk.out.size));clear hb
     have q1:(w0c !=w0c)=false:=by simp
     have q2:(w1c !=w1c)=false:=by simp
     by_cases c1:w0c=0
     rotate_left
     ·
      have q3:(w0c !=0)=true:=by simpa using c1
      clear c1;go_wp2_with fail;go_ret;exact ⟨rfl,HBk.out⟩
     by_cases c2:w1c=0
     rotate_left
     ·
      have q3:(w0c !=0)=false:=by simp [c1]
      have q4:(w1c !=0)=true:=by simpa using c2
      clear c1 c2;go_wp2_with fail;go_ret;exact ⟨rfl,HBk.out⟩
     have q3:(w0c !=0)=false:=by simp [c1]
     have q4:(w1c !=0)=false:=by simp [c2]
     have hP1:cl=true→un=true:=fun q=>by
      rw [←HC.out.2.2,HLS.out];refine in_least ?_ ?_ ?_
      ·
       rw [←c1,←HC.out.1.1,HST.out]; rfl
      ·
       rw [←c2,←HC.out.1.2,HLS.out]; rfl
      ·
       rw [←q,←HC.out.2.1,HST.out]; rfl
     have hP2:v=0→cl=true:=fun q=>by
      have hc0:=HC.out.1.1;rw [←HC.out.2.1];rw [c1,HST.out,HG.out q] at hc0;rw [HST.out,HG.out q];exact in_closed hc0
     have HP1:=Lib.hid hP1;have HP2:=Lib.hid hP2;clear c1 c2 hP1 hP2
     cases cl
     ·
      have hv1:¬v=0:=fun q=>by have:=HP2.out q; cases this
      have q5:(v !=0)=true:=by simpa using hv1
      clear hv1;go_wp2_with fail;refine (a2At_i HYk.out.now HX'.out (by omega) (by omega) (by omega) (by omega)).mono ?_;rintro z wq ⟨rfl,hwq⟩;subst hwq;rw [HV.out];go_wp2_with fail;go_ret;exact ⟨rfl,HBk.out⟩
     ·
      obtain rfl:un=true:=HP1.out rfl
      by_cases hv1:v=0
      ·
       have q5:(v !=0)=false:=by simp [hv1]
       clear hv1;go_wp2_with fail;refine (a2At_i HYk.out.now HX'.out (by omega) (by omega) (by omega) (by omega)).mono ?_;rintro z wq ⟨rfl,hwq⟩;subst hwq;rw [HV.out];go_wp2_with fail;go_ret;exact ⟨rfl,HBk.out⟩
      ·
       have q5:(v !=0)=true:=by simpa using hv1
       clear hv1;go_wp2_with fail;refine (a2At_i HYk.out.now HX'.out (by omega) (by omega) (by omega) (by omega)).mono ?_;rintro z wq ⟨rfl,hwq⟩;subst hwq;rw [HV.out];go_wp2_with fail;go_ret;exact ⟨rfl,HBk.out⟩
 ·
  have q0:(v==0)=false:=by simpa using h0
  obtain ⟨x,hx⟩:∃x:Ex,x=h:=⟨_,rfl⟩;obtain ⟨sc,hsc⟩:∃sc,sc=s3:=⟨_,rfl⟩;obtain ⟨cc,hcc⟩:∃cc,cc=c3:=⟨_,rfl⟩
  have K9n:Blk wb (wa.heap.size+1+1+1+1) 34 [.int .i64 x.kind, .int .i64 x.num, .slice sc x.kids.length cc]:=by rw [hx,hsc,hcc]; exact H9.out
  have hxr:Rd wb (kidsD x.kids) (.slice sc x.kids.length cc):=by rw [hx,hsc,hcc]; exact (HE.out.ok _ HBX.out).2
  have HG:Hid (v=0→x= .mk 7 0 [.mk 8 0 [e], .mk 6 0 [f,h]]):=fun q=>absurd q h0
  have hxz:x.size≤150:=by rw [hx]; omega
  have H5n:=H5;have H6n:=H6;have H7n:=H7;have HEn:=Lib.hid ((HE.out.on HBX.out).and (Later.rd hxr));have HYn:=Lib.hid (HY.out.on HBX.out);have HB0:=Lib.hid (HB1.out.trans (HBX.out.mono hza));obtain ⟨wy,rfl⟩:∃u,u=wb:=⟨_,rfl⟩;clear hxr H5 H6 H7 H8 H9 HBX HE HY HB1 hx hsc hcc h0;go_wp2_with fail;clear q0;have H9n:=Lib.hid K9n;clear K9n;go_wp2_with fail;obtain ⟨x0,hx0⟩:=mkval ?a4_0;obtain ⟨x1,hx1⟩:=mkval ?a4_1;obtain ⟨x2,hx2⟩:=mkval ?a4_2
  refine region_rs [(6,5)] [] (fun _ _=>False) (wy.heap.size) (fun i iv vs wx=>match i with
   |0=>vs 0=x0
   |1=>vs 1=x1
   |2=>vs 2=x2
   |3=>∃sa ca,vs 3= .agg #[.int .i64 7, .int .i64 0, .slice sa 2 ca]∧FreshIn (iv 3) wx [kidsD [e,x]] [.slice sa 2 ca]
   |4=>∃sb cb,vs 4= .agg #[.int .i64 6, .int .i64 0, .slice sb 2 cb]∧FreshIn (iv 4) wx [kidsD [f, .mk 7 0 [e,x]]] [.slice sb 2 cb]
   |5=>vs 5= .pointer (some ⟨(iv 5).1,0,none⟩)∧(iv 5).2=(iv 5).1+1∧Blk wx (iv 5).1 34 [.int .i64 0, .int .i64 0, .slice none 0 0]
   |6=>(iv 5).2=(iv 5).1+1∧Blk wx ((iv 5).1) 34 [aggAt (vs 4) 0,aggAt (vs 4) 1,aggAt (vs 4) 2]
   |_=>True) (fun i iv vs=>match i with
   |0=>vs 0=x0
   |1=>vs 1=x1
   |2=>vs 2=x2
   |3=>∃sa ca,vs 3= .agg #[.int .i64 7, .int .i64 0, .slice sa 2 ca]
   |4=>∃sb cb,vs 4= .agg #[.int .i64 6, .int .i64 0, .slice sb 2 cb]
   |5=>vs 5= .pointer (some ⟨(iv 5).1,0,none⟩)∧(iv 5).2=(iv 5).1+1
   |6=>True
   |_=>True) (by kernel_rfl) (by kernel_rfl) [0,1,2,3,4,5,6] (by kernel_rfl) ?hbase ?hGb ?hG ?hJ ?hE ?hEE ?hstep ?hQ
  case hbase=>first|exact Nat.le_refl _|omega|(simp; omega)
  case hGb=>
   exact fun _ _ h=>h.elim
  case hG=>
   exact fun _ _ _ h=>h.elim
  case hJ=>
   intro i hi iv iv' vs vs' wx wx' ha hv hz hk hj;simp only [List.mem_cons,List.not_mem_nil,or_false] at hi
   rcases hi with rfl|rfl|rfl|rfl|rfl|rfl|rfl
   all_goals try exact (aG hv _).symm.trans hj
   ·
    have e3:=aG hv 3;have g3:=aG ha 3;obtain ⟨sa,ca,q1,q2⟩:=hj;exact ⟨sa,ca,e3 ▸ q1,g3 ▸ q2.keep (fun b hb h1 h2=>hk.out b hb (foot_own h1 h2))⟩
   ·
    have e4:=aG hv 4;have g4:=aG ha 4;obtain ⟨sb,cb,q1,q2⟩:=hj;exact ⟨sb,cb,e4 ▸ q1,g4 ▸ q2.keep (fun b hb h1 h2=>hk.out b hb (foot_own h1 h2))⟩
   ·
    have e5:=aG hv 5;have g5:=aG ha 5;obtain ⟨q1,q3,q2⟩:=hj
    show vs' 5= .pointer (some ⟨(iv' 5).1,0,none⟩)∧(iv' 5).2=(iv' 5).1+1∧Blk wx' (iv' 5).1 34 [.int .i64 0, .int .i64 0, .slice none 0 0]
    rw [←e5,←g5];exact ⟨q1,q3,q2.keep (hk.out _ q2.lt (foot_own (Nat.le_refl _) (by omega)))⟩
   ·
    have e4:=aG hv 4;have g5:=aG ha 5;have hj':(iv 5).2=(iv 5).1+1∧Blk wx ((iv 5).1) 34 [aggAt (vs 4) 0,aggAt (vs 4) 1,aggAt (vs 4) 2]:=hj
    show (iv' 5).2=(iv' 5).1+1∧Blk wx' ((iv' 5).1) 34 [aggAt (vs' 4) 0,aggAt (vs' 4) 1,aggAt (vs' 4) 2]
    rw [←e4,←g5];exact ⟨hj'.1,hj'.2.keep (hk.out _ hj'.2.lt ⟨5,mem_of (by kernel_rfl),Or.inl ⟨Nat.le_refl _,by omega⟩⟩)⟩
  case hE=>
   intro i hi iv vs wx hj;simp only [List.mem_cons,List.not_mem_nil,or_false] at hi
   rcases hi with rfl|rfl|rfl|rfl|rfl|rfl|rfl
   all_goals try exact hj
   ·
    obtain ⟨sa,ca,q1, -⟩:=hj;exact ⟨sa,ca,q1⟩
   ·
    obtain ⟨sb,cb,q1, -⟩:=hj;exact ⟨sb,cb,q1⟩
   ·
    exact ⟨hj.1,hj.2.1⟩
   ·
    trivial
  case hEE=>
   intro i hi iv iv' vs vs' ha hv hj;simp only [List.mem_cons,List.not_mem_nil,or_false] at hi
   rcases hi with rfl|rfl|rfl|rfl|rfl|rfl|rfl
   all_goals try exact (aG hv _).symm.trans hj
   ·
    have e3:=aG hv 3;have hj':∃sa ca,vs 3= .agg #[.int .i64 7, .int .i64 0, .slice sa 2 ca]:=hj
    show ∃sa ca,vs' 3= .agg #[.int .i64 7, .int .i64 0, .slice sa 2 ca]
    rw [←e3];exact hj'
   ·
    have e4:=aG hv 4;have hj':∃sb cb,vs 4= .agg #[.int .i64 6, .int .i64 0, .slice sb 2 cb]:=hj
    show ∃sb cb,vs' 4= .agg #[.int .i64 6, .int .i64 0, .slice sb 2 cb]
    rw [←e4];exact hj'
   ·
    have e5:=aG hv 5;have g5:=aG ha 5;have hj':vs 5= .pointer (some ⟨(iv 5).1,0,none⟩)∧(iv 5).2=(iv 5).1+1:=hj
    show vs' 5= .pointer (some ⟨(iv' 5).1,0,none⟩)∧(iv' 5).2=(iv' 5).1+1
    rw [←e5,←g5];exact hj'
   ·
    trivial
  case hstep=>
   intro i hi opr ho iv vs w1 hB hS hSo hd he hbd hsep hun K hK;simp only [List.mem_cons,List.not_mem_nil,or_false] at hi;have hzB:=hB.size;obtain ⟨⟨⟨r1,r2⟩,r3⟩,r4⟩:=HEn.out.ok w1 hB;obtain ⟨a0,a1,a2, -, -, -, al⟩:=(H6n.out.below hB).all3;obtain ⟨b0,b1,b2, -, -, -, bl⟩:=(H7n.out.below hB).all3;obtain ⟨d0,d1,d2, -, -, -, dl⟩:=(H9n.out.below hB).all3;generalize hA:putFrom _ 0 vs _=A at hK ⊢;simp only [putFrom,puts] at hA
   rcases hi with rfl|rfl|rfl|rfl|rfl|rfl|rfl
   all_goals
    simp at ho;subst ho;subst hA
   ·
    go_wp2_with fail;refine Onward.mk (hK ?val4_0 _ _ (fun h=>by cases h) ?eqA (Spares.refl _) (fun iv' _ _=> ?ja))
    case eqA=>first|rfl|(simp only [puts]; rfl)
    case ja=>exact hx0.out.symm
   ·
    go_wp2_with fail;refine Onward.mk (hK ?val4_1 _ _ (fun h=>by cases h) ?eqA (Spares.refl _) (fun iv' _ _=> ?ja))
    case eqA=>first|rfl|(simp only [puts]; rfl)
    case ja=>exact hx1.out.symm
   ·
    go_wp2_with fail;refine Onward.mk (hK ?val4_2 _ _ (fun h=>by cases h) ?eqA (Spares.refl _) (fun iv' _ _=> ?ja))
    case eqA=>first|rfl|(simp only [puts]; rfl)
    case ja=>exact hx2.out.symm
   ·
    have h1:=(dN hd 1).trans hx1.out;have h2:=(dN hd 2).trans hx2.out;go_wp2_with fail;refine (a2Pair_i (k:=7) (x:=e) (y:=x) r1 r4 (by omega) (by omega)).mono ?_;rintro e w2 ⟨sa,ca,rfl,hf,hb⟩;go_wp2_with fail;exact Onward.mk (hK (.agg #[.int .i64 7, .int .i64 0, .slice sa 2 ca]) _ _ (fun h=>by cases h) (by first|rfl|(simp only [puts,h1,h2])) (Spares.of_below hb) (fun iv' _ hi=>⟨sa,ca,rfl,by rw [hi]; exact Freshs.stretch (hf)⟩))
   ·
    have h0:=(dN hd 0).trans hx0.out;obtain ⟨sa,ca,h3,f3⟩:=dN hd 3;go_wp2_with fail;refine (a2Pair_i (k:=6) (x:=f) (y:= .mk 7 0 [e,x]) r2 f3.rd (by omega) (by rw [size_pairE rfl]; omega)).mono ?_;rintro e w2 ⟨sb,cb,rfl,hf,hb⟩;go_wp2_with fail;exact Onward.mk (hK (.agg #[.int .i64 6, .int .i64 0, .slice sb 2 cb]) _ _ (fun h=>by cases h) (by first|rfl|(simp only [puts,h0,h3])) (Spares.of_below hb) (fun iv' _ hi=>⟨sb,cb,rfl,by rw [hi]; exact Freshs.stretch (hf)⟩))
   ·
    go_wp2_with fail
    exact Onward.mk (hK (.pointer (some ⟨w1.heap.size,0,none⟩)) _ _ (fun h=>by cases h) (by first|rfl|(simp only [puts])) (Spares.of_below (Below.alloc (Below.refl _ _) (Nat.le_refl _) _)) (fun iv' _ hi=>by
     show Value.pointer (some ⟨w1.heap.size,0,none⟩)= .pointer (some ⟨(iv' 5).1,0,none⟩)∧(iv' 5).2=(iv' 5).1+1∧Blk _ (iv' 5).1 34 [.int .i64 0, .int .i64 0, .slice none 0 0]
     rw [hi]
     exact ⟨rfl,by simp,Blk.new3 _ _ _ _ _⟩))
   ·
    obtain ⟨sb,cb,h4,f4⟩:=dN hd 4;obtain ⟨h5,q5,f5⟩:=dN hd 5;have bc0:=f5.c0;have bz0:=f5.frozen 0;have bc1:=f5.c1;have bz1:=f5.frozen 1;have bc2:=f5.c2;have bz2:=f5.frozen 2;have blt:=f5.lt;go_wp2_with fail
    exact Onward.mk (hK undef _ _ (fun _=>rfl) (by simp only [puts,h4,h5]) ((spares_sets (b0:=(iv 5).1) (by repeat (first|exact Spares.refl _|apply Spares.set))).more (fun b h=>Or.inr ⟨5,by decide,foot_own (by omega) (by omega)⟩)) (fun iv' ag hi=>by
     show (iv' 5).2=(iv' 5).1+1∧Blk _ ((iv' 5).1) 34 [aggAt (vs 4) 0,aggAt (vs 4) 1,aggAt (vs 4) 2]
     rw [←ag.out 5 (mem_of (by kernel_rfl)),h4]
     exact ⟨q5,(((f5.set 0 _).set 1 _).set 2 _)⟩))
  case hQ=>
   intro iv vs wx hB hSp hd he hbd hsep;have hzB:=hB.size;have h0:=(dE hd 0).trans hx0.out;have h1:=(dE hd 1).trans hx1.out;have h2:=(dE hd 2).trans hx2.out;obtain ⟨sa,ca,h3,f3⟩:=dE hd 3;obtain ⟨sb,cb,h4,f4⟩:=dE hd 4;obtain ⟨h5,q5⟩:=dM he 5;obtain ⟨q6,f6⟩:=dE hd 6;simp only [putFrom,puts];obtain ⟨rb,hrb⟩:∃rb,(iv 5).1=rb:=⟨_,rfl⟩;have b5:=(dM hbd 5).1;rw [hrb] at h5 f6 b5;rw [h4] at f6;simp only [h5];obtain ⟨st,hst⟩:∃st:Ex,st= .mk 6 0 [f, .mk 7 0 [e,x]]:=⟨_,rfl⟩;have HST:=Lib.hid hst
   have KS:Hid (Blk wx rb 34 [.int .i64 st.kind, .int .i64 st.num, .slice sb st.kids.length cb]):=by rw [hst]; exact f6
   have hsr:Rd wx (kidsD st.kids) (.slice sb st.kids.length cb):=by rw [hst]; exact f4.rd
   have hsz:st.size≤300:=by rw [size_pairE hst,size_pairE rfl]; omega
   have HEm:=Lib.hid ((HEn.out.on hB).and (Later.rd hsr));have HYm:=Lib.hid (HYn.out.on hB);have HBm:=Lib.hid (HB0.out.trans (hB.mono HB0.out.size));have H5m:=Lib.hid (H5n.out.below hB);have H6m:=Lib.hid (H6n.out.below hB);have H7m:=Lib.hid (H7n.out.below hB);have H9m:=Lib.hid (H9n.out.below hB);obtain ⟨wv,rfl⟩:∃u,u=wx:=⟨_,rfl⟩;clear hd he hbd hsep h0 h1 h2 h3 h4 h5 f3 f4 f6 hB hSp hzB hsr hst hrb b5 H5n H6n H7n H9n HEn HYn HB0;go_wp2_with fail;obtain ⟨x0,hx0⟩:=mkval ?a2_0;obtain ⟨x2,hx2⟩:=mkval ?a2_2
   refine region_rs [(5,4)] [] (fun _ _=>False) (wv.heap.size) (fun i iv vs wx=>match i with
    |0=>vs 0=x0
    |1=>∃sa ca,vs 1= .agg #[.int .i64 8, .int .i64 0, .slice sa 1 ca]∧FreshIn (iv 1) wx [kidsD [e]] [.slice sa 1 ca]
    |2=>vs 2=x2
    |3=>∃sd cd,vs 3= .agg #[.int .i64 7, .int .i64 0, .slice sd 2 cd]∧FreshIn (iv 3) wx [kidsD [.mk 8 0 [e],f]] [.slice sd 2 cd]
    |4=>vs 4= .pointer (some ⟨(iv 4).1,0,none⟩)∧(iv 4).2=(iv 4).1+1∧Blk wx (iv 4).1 34 [.int .i64 0, .int .i64 0, .slice none 0 0]
    |5=>(iv 4).2=(iv 4).1+1∧Blk wx ((iv 4).1) 34 [aggAt (vs 3) 0,aggAt (vs 3) 1,aggAt (vs 3) 2]
    |_=>True) (fun i iv vs=>match i with
    |0=>vs 0=x0
    |1=>∃sa ca,vs 1= .agg #[.int .i64 8, .int .i64 0, .slice sa 1 ca]
    |2=>vs 2=x2
    |3=>∃sd cd,vs 3= .agg #[.int .i64 7, .int .i64 0, .slice sd 2 cd]
    |4=>vs 4= .pointer (some ⟨(iv 4).1,0,none⟩)∧(iv 4).2=(iv 4).1+1
    |5=>True
    |_=>True) (by kernel_rfl) (by kernel_rfl) [0,1,2,3,4,5] (by kernel_rfl) ?hbase ?hGb ?hG ?hJ ?hE ?hEE ?hstep ?hQ
   case hbase=>first|exact Nat.le_refl _|omega|(simp; omega)
   case hGb=>
    exact fun _ _ h=>h.elim
   case hG=>
    exact fun _ _ _ h=>h.elim
   case hJ=>
    intro i hi iv iv' vs vs' wx wx' ha hv hz hk hj;simp only [List.mem_cons,List.not_mem_nil,or_false] at hi
    rcases hi with rfl|rfl|rfl|rfl|rfl|rfl
    all_goals try exact (aG hv _).symm.trans hj
    ·
     have e1:=aG hv 1;have g1:=aG ha 1;obtain ⟨sa,ca,q1,q2⟩:=hj;exact ⟨sa,ca,e1 ▸ q1,g1 ▸ q2.keep (fun b hb h1 h2=>hk.out b hb (foot_own h1 h2))⟩
    ·
     have e3:=aG hv 3;have g3:=aG ha 3;obtain ⟨sd,cd,q1,q2⟩:=hj;exact ⟨sd,cd,e3 ▸ q1,g3 ▸ q2.keep (fun b hb h1 h2=>hk.out b hb (foot_own h1 h2))⟩
    ·
     have e4:=aG hv 4;have g4:=aG ha 4;obtain ⟨q1,q3,q2⟩:=hj
     show vs' 4= .pointer (some ⟨(iv' 4).1,0,none⟩)∧(iv' 4).2=(iv' 4).1+1∧Blk wx' (iv' 4).1 34 [.int .i64 0, .int .i64 0, .slice none 0 0]
     rw [←e4,←g4];exact ⟨q1,q3,q2.keep (hk.out _ q2.lt (foot_own (Nat.le_refl _) (by omega)))⟩
    ·
     have e3:=aG hv 3;have g4:=aG ha 4;have hj':(iv 4).2=(iv 4).1+1∧Blk wx ((iv 4).1) 34 [aggAt (vs 3) 0,aggAt (vs 3) 1,aggAt (vs 3) 2]:=hj
     show (iv' 4).2=(iv' 4).1+1∧Blk wx' ((iv' 4).1) 34 [aggAt (vs' 3) 0,aggAt (vs' 3) 1,aggAt (vs' 3) 2]
     rw [←e3,←g4];exact ⟨hj'.1,hj'.2.keep (hk.out _ hj'.2.lt ⟨4,mem_of (by kernel_rfl),Or.inl ⟨Nat.le_refl _,by omega⟩⟩)⟩
   case hE=>
    intro i hi iv vs wx hj;simp only [List.mem_cons,List.not_mem_nil,or_false] at hi
    rcases hi with rfl|rfl|rfl|rfl|rfl|rfl
    all_goals try exact hj
    ·
     obtain ⟨sa,ca,q1, -⟩:=hj;exact ⟨sa,ca,q1⟩
    ·
     obtain ⟨sd,cd,q1, -⟩:=hj;exact ⟨sd,cd,q1⟩
    ·
     exact ⟨hj.1,hj.2.1⟩
    ·
     trivial
   case hEE=>
    intro i hi iv iv' vs vs' ha hv hj;simp only [List.mem_cons,List.not_mem_nil,or_false] at hi
    rcases hi with rfl|rfl|rfl|rfl|rfl|rfl
    all_goals try exact (aG hv _).symm.trans hj
    ·
     have e1:=aG hv 1;have hj':∃sa ca,vs 1= .agg #[.int .i64 8, .int .i64 0, .slice sa 1 ca]:=hj
     show ∃sa ca,vs' 1= .agg #[.int .i64 8, .int .i64 0, .slice sa 1 ca]
     rw [←e1];exact hj'
    ·
     have e3:=aG hv 3;have hj':∃sd cd,vs 3= .agg #[.int .i64 7, .int .i64 0, .slice sd 2 cd]:=hj
     show ∃sd cd,vs' 3= .agg #[.int .i64 7, .int .i64 0, .slice sd 2 cd]
     rw [←e3];exact hj'
    ·
     have e4:=aG hv 4;have g4:=aG ha 4;have hj':vs 4= .pointer (some ⟨(iv 4).1,0,none⟩)∧(iv 4).2=(iv 4).1+1:=hj
     show vs' 4= .pointer (some ⟨(iv' 4).1,0,none⟩)∧(iv' 4).2=(iv' 4).1+1
     rw [←e4,←g4];exact hj'
    ·
     trivial
   case hstep=>
    intro i hi opr ho iv vs w1 hB hS hSo hd he hbd hsep hun K hK;simp only [List.mem_cons,List.not_mem_nil,or_false] at hi;have hzB:=hB.size;obtain ⟨⟨⟨⟨r1,r2⟩,r3⟩,r4⟩,r5⟩:=HEm.out.ok w1 hB;obtain ⟨a0,a1,a2, -, -, -, al⟩:=(H6m.out.below hB).all3;obtain ⟨b0,b1,b2, -, -, -, bl⟩:=(H7m.out.below hB).all3;generalize hA:putFrom _ 0 vs _=A at hK ⊢;simp only [putFrom,puts] at hA
    rcases hi with rfl|rfl|rfl|rfl|rfl|rfl
    all_goals
     simp at ho;subst ho;subst hA
    ·
     go_wp2_with fail;refine Onward.mk (hK ?val2_0 _ _ (fun h=>by cases h) ?eqA (Spares.refl _) (fun iv' _ _=> ?ja))
     case eqA=>first|rfl|(simp only [puts]; rfl)
     case ja=>exact hx0.out.symm
    ·
     have h0:=(dN hd 0).trans hx0.out;go_wp2_with fail;refine (a2Star_i (x:=e) r1 (by omega)).mono ?_;rintro e w2 ⟨sa,ca,rfl,hf,hb⟩;go_wp2_with fail;exact Onward.mk (hK (.agg #[.int .i64 8, .int .i64 0, .slice sa 1 ca]) _ _ (fun h=>by cases h) (by first|rfl|(simp only [puts,h0])) (Spares.of_below hb) (fun iv' _ hi=>⟨sa,ca,rfl,by rw [hi]; exact Freshs.stretch (hf)⟩))
    ·
     go_wp2_with fail;refine Onward.mk (hK ?val2_2 _ _ (fun h=>by cases h) ?eqA (Spares.refl _) (fun iv' _ _=> ?ja))
     case eqA=>first|rfl|(simp only [puts]; rfl)
     case ja=>exact hx2.out.symm
    ·
     obtain ⟨sa,ca,h1,f1⟩:=dN hd 1;have h2:=(dN hd 2).trans hx2.out;go_wp2_with fail;refine (a2Pair_i (k:=7) (x:= .mk 8 0 [e]) (y:=f) f1.rd r2 (by rw [size_starE rfl]; omega) (by omega)).mono ?_;rintro e w2 ⟨sd,cd,rfl,hf,hb⟩;go_wp2_with fail;exact Onward.mk (hK (.agg #[.int .i64 7, .int .i64 0, .slice sd 2 cd]) _ _ (fun h=>by cases h) (by first|rfl|(simp only [puts,h1,h2])) (Spares.of_below hb) (fun iv' _ hi=>⟨sd,cd,rfl,by rw [hi]; exact Freshs.stretch (hf)⟩))
    ·
     go_wp2_with fail
     exact Onward.mk (hK (.pointer (some ⟨w1.heap.size,0,none⟩)) _ _ (fun h=>by cases h) (by first|rfl|(simp only [puts])) (Spares.of_below (Below.alloc (Below.refl _ _) (Nat.le_refl _) _)) (fun iv' _ hi=>by
      show Value.pointer (some ⟨w1.heap.size,0,none⟩)= .pointer (some ⟨(iv' 4).1,0,none⟩)∧(iv' 4).2=(iv' 4).1+1∧Blk _ (iv' 4).1 34 [.int .i64 0, .int .i64 0, .slice none 0 0]
      rw [hi]
      exact ⟨rfl,by simp,Blk.new3 _ _ _ _ _⟩))
    ·
     obtain ⟨sd,cd,h3,f3⟩:=dN hd 3;obtain ⟨h4,q4,f4⟩:=dN hd 4;have bc0:=f4.c0;have bz0:=f4.frozen 0;have bc1:=f4.c1;have bz1:=f4.frozen 1;have bc2:=f4.c2;have bz2:=f4.frozen 2;have blt:=f4.lt;go_wp2_with fail
     exact Onward.mk (hK undef _ _ (fun _=>rfl) (by simp only [puts,h3,h4]) ((spares_sets (b0:=(iv 4).1) (by repeat (first|exact Spares.refl _|apply Spares.set))).more (fun b h=>Or.inr ⟨4,by decide,foot_own (by omega) (by omega)⟩)) (fun iv' ag hi=>by
      show (iv' 4).2=(iv' 4).1+1∧Blk _ ((iv' 4).1) 34 [aggAt (vs 3) 0,aggAt (vs 3) 1,aggAt (vs 3) 2]
      rw [←ag.out 4 (mem_of (by kernel_rfl)),h3]
      exact ⟨q4,(((f4.set 0 _).set 1 _).set 2 _)⟩))
   case hQ=>
    intro iv vs wx hB hSp hd he hbd hsep;have hzB:=hB.size;have h0:=(dE hd 0).trans hx0.out;obtain ⟨sa,ca,h1,f1⟩:=dE hd 1;have h2:=(dE hd 2).trans hx2.out;obtain ⟨sd,cd,h3,f3⟩:=dE hd 3;obtain ⟨h4,q4⟩:=dM he 4;obtain ⟨q5,f5⟩:=dE hd 5;simp only [putFrom,puts];obtain ⟨lb,hlb⟩:∃lb,(iv 4).1=lb:=⟨_,rfl⟩;rw [hlb] at h4 f5;rw [h3] at f5;simp only [h4];obtain ⟨ls,hls⟩:∃ls:Ex,ls= .mk 7 0 [.mk 8 0 [e],f]:=⟨_,rfl⟩;have HLS:=Lib.hid hls
    have KL:Hid (Blk wx lb 34 [.int .i64 ls.kind, .int .i64 ls.num, .slice sd ls.kids.length cd]):=by rw [hls]; exact f5
    have hlr:Rd wx (kidsD ls.kids) (.slice sd ls.kids.length cd):=by rw [hls]; exact f3.rd
    have hlz:ls.size≤300:=by rw [size_pairE hls,size_starE rfl]; omega
    obtain ⟨⟨⟨⟨r1,r2⟩,r3⟩,r4⟩,r5⟩:=HEm.out.ok wx hB;have HF:=Lib.hid (((((((Later.rd r4).and (Later.rd r5)).and (Later.rd hlr)).and (Later.blk (H5m.out.below hB))).and (Later.blk (H9m.out.below hB))).and (Later.blk (KS.out.below hB))).and (Later.blk KL.out));have HYk:=Lib.hid (HYm.out.on hB);have HBk:=Lib.hid (HBm.out.trans (hB.mono HBm.out.size));obtain ⟨wu,rfl⟩:∃u,u=wx:=⟨_,rfl⟩;clear hd he hbd hsep h0 h1 h2 h3 h4 f1 f3 f5 hB hSp hzB hlr hls hlb r1 r2 r3 r4 r5 H5m H6m H7m H9m HEm HYm HBm KS KL;obtain ⟨w0c,hw0c⟩:∃w0c,bothC t a st x=w0c:=⟨_,rfl⟩;obtain ⟨w1c,hw1c⟩:∃w1c,bothC t a ls x=w1c:=⟨_,rfl⟩;obtain ⟨cl,hcl⟩:∃cl,atR t a st x=cl:=⟨_,rfl⟩;obtain ⟨un,hun'⟩:∃un,atR t a ls x=un:=⟨_,rfl⟩;have HC:=Lib.hid (And.intro (And.intro hw0c hw1c) (And.intro hcl hun'));clear hw0c hw1c hcl hun';obtain ⟨⟨⟨⟨-, g5⟩,g9⟩,gs⟩,gl⟩:=HF.out.now;obtain ⟨g50,g51,l5⟩:=g5.all2;obtain ⟨g90,g91,g92, -, -, -, l9⟩:=g9.all3;obtain ⟨ge0,ge1,ge2, -, -, -, le'⟩:=gs.all3;clear g5 g9 gs gl;go_wp2_with fail;clear g50 g51 l5 g90 g91 g92 l9 ge0 ge1 ge2 le';refine (specAtMost_l (HF.out.now.1.1.1.1.1.2) HF.out.now.1.1.1.1.1.1 (by omega) (by omega)).mono ?_;rintro z wp1 ⟨rfl,hb⟩;rw [HC.out.1.1,HC.out.2.1];replace HF:=Lib.hid (HF.out.on hb);replace HYk:=Lib.hid (HYk.out.on hb);replace HBk:=Lib.hid (HBk.out.trans (hb.mono HBk.out.size));clear hb;obtain ⟨⟨⟨⟨-, g5⟩,g9⟩,gs⟩,gl⟩:=HF.out.now;obtain ⟨g50,g51,l5⟩:=g5.all2;obtain ⟨g90,g91,g92, -, -, -, l9⟩:=g9.all3;obtain ⟨ge0,ge1,ge2, -, -, -, le'⟩:=gl.all3;clear g5 g9 gs gl;go_wp2_with fail;clear g50 g51 l5 g90 g91 g92 l9 ge0 ge1 ge2 le';refine (specAtMost_l (HF.out.now.1.1.1.1.2) HF.out.now.1.1.1.1.1.1 (by omega) (by omega)).mono ?_;rintro z wp2 ⟨rfl,hb⟩;rw [HC.out.1.2,HC.out.2.2];replace HF:=Lib.hid (HF.out.on hb);replace HYk:=Lib.hid (HYk.out.on hb);replace HBk:=Lib.hid (HBk.out.trans (hb.mono HBk.out.size));clear hb;obtain ⟨⟨⟨⟨-, g5⟩,g9⟩,gs⟩,gl⟩:=HF.out.now;obtain ⟨g50,g51,l5⟩:=g5.all2;obtain ⟨g90,g91,g92, -, -, -, l9⟩:=g9.all3;obtain ⟨ge0,ge1,ge2, -, -, -, le'⟩:=gs.all3;clear g5 g9 gs gl;go_wp2_with fail;clear g50 g51 l5 g90 g91 g92 l9 ge0 ge1 ge2 le';refine (implAtMost_l (HF.out.now.1.1.1.1.1.2) HF.out.now.1.1.1.1.1.1 (by omega) (by omega)).mono ?_;rintro z wp3 ⟨rfl,hb⟩;rw [HC.out.1.1,HC.out.2.1];replace HF:=Lib.hid (HF.out.on hb);replace HYk:=Lib.hid (HYk.out.on hb);replace HBk:=Lib.hid (HBk.out.trans (hb.mono HBk.out.size));clear hb;obtain ⟨⟨⟨⟨-, g5⟩,g9⟩,gs⟩,gl⟩:=HF.out.now;obtain ⟨g50,g51,l5⟩:=g5.all2;obtain ⟨g90,g91,g92, -, -, -, l9⟩:=g9.all3;obtain ⟨ge0,ge1,ge2, -, -, -, le'⟩:=gl.all3;clear g5 g9 gs gl;go_wp2_with fail;clear g50 g51 l5 g90 g91 g92 l9 ge0 ge1 ge2 le';refine (implAtMost_l (HF.out.now.1.1.1.1.2) HF.out.now.1.1.1.1.1.1 (by omega) (by omega)).mono ?_;rintro z wp4 ⟨rfl,hb⟩;rw [HC.out.1.2,HC.out.2.2];replace HF:=Lib.hid (HF.out.on hb);replace HYk:=Lib.hid (HYk.out.on hb);replace HBk:=Lib.hid (HBk.out.trans (hb.mono HBk.out.size));clear hb
    have q1:(w0c !=w0c)=false:=by simp
    have q2:(w1c !=w1c)=false:=by simp
    by_cases c1:w0c=0
    rotate_left
    ·
     have q3:(w0c !=0)=true:=by simpa using c1
     clear c1;go_wp2_with fail;go_ret;exact ⟨rfl,HBk.out⟩
    by_cases c2:w1c=0
    rotate_left
    ·
     have q3:(w0c !=0)=false:=by simp [c1]
     have q4:(w1c !=0)=true:=by simpa using c2
     clear c1 c2;go_wp2_with fail;go_ret;exact ⟨rfl,HBk.out⟩
    have q3:(w0c !=0)=false:=by simp [c1]
    have q4:(w1c !=0)=false:=by simp [c2]
    have hP1:cl=true→un=true:=fun q=>by
     rw [←HC.out.2.2,HLS.out];refine in_least ?_ ?_ ?_
     ·
      rw [←c1,←HC.out.1.1,HST.out]; rfl
     ·
      rw [←c2,←HC.out.1.2,HLS.out]; rfl
     ·
      rw [←q,←HC.out.2.1,HST.out]; rfl
    have hP2:v=0→cl=true:=fun q=>by
     have hc0:=HC.out.1.1;rw [←HC.out.2.1];rw [c1,HST.out,HG.out q] at hc0;rw [HST.out,HG.out q];exact in_closed hc0
    have HP1:=Lib.hid hP1;have HP2:=Lib.hid hP2;clear c1 c2 hP1 hP2
    cases cl
    ·
     have hv1:¬v=0:=fun q=>by have:=HP2.out q; cases this
     have q5:(v !=0)=true:=by simpa using hv1
     clear hv1;go_wp2_with fail;refine (a2At_i HYk.out.now HX'.out (by omega) (by omega) (by omega) (by omega)).mono ?_;rintro z wq ⟨rfl,hwq⟩;subst hwq;rw [HV.out];go_wp2_with fail;go_ret;exact ⟨rfl,HBk.out⟩
    ·
     obtain rfl:un=true:=HP1.out rfl
     by_cases hv1:v=0
     ·
      have q5:(v !=0)=false:=by simp [hv1]
      clear hv1;go_wp2_with fail;refine (a2At_i HYk.out.now HX'.out (by omega) (by omega) (by omega) (by omega)).mono ?_;rintro z wq ⟨rfl,hwq⟩;subst hwq;rw [HV.out];go_wp2_with fail;go_ret;exact ⟨rfl,HBk.out⟩
     ·
      have q5:(v !=0)=true:=by simpa using hv1
      clear hv1;go_wp2_with fail;refine (a2At_i HYk.out.now HX'.out (by omega) (by omega) (by omega) (by omega)).mono ?_;rintro z wq ⟨rfl,hwq⟩;subst hwq;rw [HV.out];go_wp2_with fail;go_ret;exact ⟨rfl,HBk.out⟩
set_option maxRecDepth 100000 in
theorem law_Induction_of {H:Type} {enc:TypeId × Value→H} (W:World) (args:Array Value) (ds:List (DataW H)) (ps:List MemPlace) (hA:DataW.TrodAll enc Tryz.prog W 0 (fun _=>true) true Tryz.f11.params.toList args.toList ds ps)
  (hval:∀(j:Nat) t v,Tryz.f11.params[j]? =some t→args[j]? =some v→∃base,Value.okWide Tryz.prog W .any base t v):
  Calls Tryz.prog 11 args W fun e W'=>e= .returned (.bool true)∧Below W.heap.size W W':=by
 rw [Tryz.params11] at hA hval;obtain ⟨v0,vs0,d0',ds0,p0,q0,hargs,rfl,rfl,h0,ra0⟩:=trodAll_cons hA;obtain ⟨v1,vs1,d1',ds1,p1,q1,rfl,rfl,rfl,h1,ra1⟩:=trodAll_cons ra0;obtain ⟨rfl,rfl,rfl⟩:=trodAll_nil ra1;obtain rfl:args= #[v0,v1]:=Array.toList_inj.1 hargs;obtain ⟨b0,hv0⟩:=hval 0 68 v0 rfl rfl;obtain ⟨b1,hv1⟩:=hval 1 68 v1 rfl rfl;obtain ⟨xs,s,c,rfl,hr,hx⟩:=open_byteS hv0 h0;obtain ⟨ys,s',c',rfl,hr',hx'⟩:=open_byteS hv1 h1;exact law_Induction hr hx hr' hx'
end Go.Proofs.YtfopdcdbelaapaaGreatDoor
