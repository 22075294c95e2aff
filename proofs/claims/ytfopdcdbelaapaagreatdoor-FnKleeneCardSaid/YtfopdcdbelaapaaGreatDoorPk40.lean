/-
  Parts of a proof, joined: Kln. No condition.
-/
import Derived.Test.YtfopdcdbelaapaaGreatDoorPk13
import Derived.Test.YtfopdcdbelaapaaGreatDoorPk39
namespace Go.Proofs.YtfopdcdbelaapaaGreatDoor
set_option linter.unusedVariables false
set_option linter.unusedSimpArgs false
open Go.ChangeShapes Go.WideShapes Go.ChangeAt Go.RowKit Go.Deep Go.Sort
theorem rd_one {w:World}:Rd w (kidsD (Ex.mk 2 0 []).kids) (.slice none (Ex.mk 2 0 []).kids.length 0):=(RdX.nil (X:=fun _=>False) (w:=w) (size:=3)).rd
set_option maxRecDepth 100000 in
set_option maxHeartbeats 8000000 in
theorem law_Kleene {xs ys:List Int} {s s':Option Addr} {c c':Nat} {w:World} (hr:Rd w (bytesD xs) (.slice s xs.length c)) (hx:∀x∈xs,0≤x∧x≤255) (hr':Rd w (bytesD ys) (.slice s' ys.length c')) (hx':∀x∈ys,0≤x∧x≤255):
  Calls Tryz.prog 12 #[.slice s xs.length c, .slice s' ys.length c'] w fun f w'=>f= .returned (.bool true)∧Below w.heap.size w w':=by
 obtain ⟨-, hl1,hl2, -⟩:=hr.sl_at;obtain ⟨-, hl3,hl4, -⟩:=hr'.sl_at;have HX:=Lib.hid hx;have HX':=Lib.hid hx';have HR:=Lib.hid hr;have HR':=Lib.hid hr';have HL:=Lib.hid (And.intro hl1 (And.intro hl2 (And.intro hl3 hl4)));clear hx hx' hr hr' hl1 hl2 hl3 hl4
 go_enter Tryz.func12,Tryz.ntmps12
 go_wp2_with fail;refine (a2Long_i HL.out.1 HL.out.2.1 HL.out.2.2.1 HL.out.2.2.2).mono ?_;rintro z wq ⟨rfl,hwq⟩;subst hwq;obtain ⟨v,hv⟩:∃v,(decide (3000<xs.length)||decide (3000<ys.length))=v:=⟨_,rfl⟩;rw [hv];clear hv
 cases v
 rotate_left
 ·
  go_wp2_with fail;go_ret;exact ⟨rfl,Below.refl _ _⟩
 go_wp2_with fail;refine (a2Small_i HR.out HX.out).mono ?_;rintro z wa ⟨t,a,e,f,h,s1,s2,s3,c1,c2,c3,rfl,he,hf,hh,z1,z2,z3,hb⟩;have HE:=Lib.hid (((Later.rd he).and (Later.rd hf)).and (Later.rd hh));have HB0:=Lib.hid hb;have hza:=hb.size;clear he hf hh hb;go_wp2_with fail;obtain ⟨w2,e2,B5,hb2,hz2⟩:=box2 wa 37 (.int .i64 t) (.int .i64 a);rw [e2];obtain ⟨w3,e3,B6,hb3,hz3⟩:=box3 w2 34 (.int .i64 e.kind) (.int .i64 e.num) (.slice s1 e.kids.length c1);rw [e3];obtain ⟨w4,e4,B7,hb4,hz4⟩:=box3 w3 34 (.int .i64 f.kind) (.int .i64 f.num) (.slice s2 f.kids.length c2);rw [e4];obtain ⟨w5,e5,B8,hb5,hz5⟩:=box3 w4 34 (.int .i64 h.kind) (.int .i64 h.num) (.slice s3 h.kids.length c3);rw [e5];obtain ⟨wb,e6,B9,hb6,hz6⟩:=box3 w5 34 (.int .i64 2) (.int .i64 0) (.slice none 0 0);rw [e6];clear e2 e3 e4 e5 e6;have hbB2:=hb2.trans ((((hb3.mono (by omega)).trans (hb4.mono (by omega))).trans (hb5.mono (by omega))).trans (hb6.mono (by omega)));have k3:=((hb3.trans (hb4.mono (by omega))).trans (hb5.mono (by omega))).trans (hb6.mono (by omega));have k4:=(hb4.trans (hb5.mono (by omega))).trans (hb6.mono (by omega));have k5:=hb5.trans (hb6.mono (by omega));replace B5:=B5.below k3;replace B6:=B6.below k4;replace B7:=B7.below k5;replace B8:=B8.below hb6;rw [hz2] at B6;rw [hz3,hz2] at B7;rw [hz4,hz3,hz2] at B8;rw [hz5,hz4,hz3,hz2] at B9;have HF0:=Lib.hid ((((((HE.out.on hbB2).and (Later.blk B5)).and (Later.blk B6)).and (Later.blk B7)).and (Later.blk B8)).and (Later.blk B9));have HBb:=Lib.hid (HB0.out.trans (hbB2.mono hza));obtain ⟨i0,i1,i2, -, -, -, il⟩:=B6.all3;clear hb2 hb3 hb4 hb5 hb6 hz2 hz3 hz4 hz5 hz6 k3 k4 k5 hbB2 B5 B6 B7 B8 B9 HE HB0;go_wp2_with fail;clear i0 i1 i2 il;refine (a2Star_l HF0.out.now.1.1.1.1.1.1.1 (by omega)).mono ?_;rintro z w7 ⟨st,s4,c4,rfl,hst,hrs,hb⟩;have HST:=Lib.hid hst
 have hsz:st.size≤40:=by rw [size_starE hst]; omega
 have HF1:=Lib.hid ((HF0.out.on hb).and (Later.rd hrs));have HB2:=Lib.hid (HBb.out.trans (hb.mono HBb.out.size));clear hb hrs hst HF0 HBb;go_wp2_with fail;obtain ⟨wc,e7,B10,hb7,hz7⟩:=box3 w7 34 (.int .i64 st.kind) (.int .i64 st.num) (.slice s4 st.kids.length c4);rw [e7];obtain ⟨b10,hb10⟩:∃b10,w7.heap.size=b10:=⟨_,rfl⟩;rw [hb10] at B10 ⊢;have HF:=Lib.hid ((HF1.out.on hb7).and (Later.blk B10));have HB1:=Lib.hid (HB2.out.trans (hb7.mono HB2.out.size));clear e7 hb7 hz7 hb10 B10 HF1 HB2;obtain ⟨x0,hx0⟩:=mkval ?a4_0;obtain ⟨x1,hx1⟩:=mkval ?a4_1;obtain ⟨x2,hx2⟩:=mkval ?a4_2;obtain ⟨x3,hx3⟩:=mkval ?a4_3;obtain ⟨x6,hx6⟩:=mkval ?a4_6;obtain ⟨x7,hx7⟩:=mkval ?a4_7;obtain ⟨x9,hx9⟩:=mkval ?a4_9;obtain ⟨x10,hx10⟩:=mkval ?a4_10
 refine region_rs [] [] (fun _ _=>False) (wc.heap.size) (fun i iv vs wx=>match i with
  |0=>vs 0=x0
  |1=>vs 1=x1
  |2=>vs 2=x2
  |3=>vs 3=x3
  |4=>∃sa ca,vs 4= .agg #[.int .i64 6, .int .i64 0, .slice sa 2 ca]∧FreshIn (iv 4) wx [kidsD [f,h]] [.slice sa 2 ca]
  |5=>∃sb cb,vs 5= .agg #[.int .i64 7, .int .i64 0, .slice sb 2 cb]∧FreshIn (iv 5) wx [kidsD [e, .mk 6 0 [f,h]]] [.slice sb 2 cb]
  |6=>vs 6=x6
  |7=>vs 7=x7
  |8=>∃sd cd,vs 8= .agg #[.int .i64 7, .int .i64 0, .slice sd 2 cd]∧FreshIn (iv 8) wx [kidsD [e,h]] [.slice sd 2 cd]
  |9=>vs 9=x9
  |10=>vs 10=x10
  |11=>∃se ce,vs 11= .agg #[.int .i64 7, .int .i64 0, .slice se 2 ce]∧FreshIn (iv 11) wx [kidsD [e,f]] [.slice se 2 ce]
  |12=>∃sg cg,vs 12= .agg #[.int .i64 6, .int .i64 0, .slice sg 2 cg]∧FreshIn (iv 12) wx [kidsD [.mk 7 0 [e,h], .mk 7 0 [e,f]]] [.slice sg 2 cg]
  |13=>vs 13= .bool false
  |_=>True) (fun i iv vs=>match i with
  |0=>vs 0=x0
  |1=>vs 1=x1
  |2=>vs 2=x2
  |3=>vs 3=x3
  |4=>∃sa ca,vs 4= .agg #[.int .i64 6, .int .i64 0, .slice sa 2 ca]
  |5=>∃sb cb,vs 5= .agg #[.int .i64 7, .int .i64 0, .slice sb 2 cb]
  |6=>vs 6=x6
  |7=>vs 7=x7
  |8=>∃sd cd,vs 8= .agg #[.int .i64 7, .int .i64 0, .slice sd 2 cd]
  |9=>vs 9=x9
  |10=>vs 10=x10
  |11=>∃se ce,vs 11= .agg #[.int .i64 7, .int .i64 0, .slice se 2 ce]
  |12=>∃sg cg,vs 12= .agg #[.int .i64 6, .int .i64 0, .slice sg 2 cg]
  |13=>vs 13= .bool false
  |_=>True) (by kernel_rfl) (by kernel_rfl) [0,1,2,3,4,5,6,7,8,9,10,11,12,13] (by kernel_rfl) ?hbase ?hGb ?hG ?hJ ?hE ?hEE ?hstep ?hQ
 case hbase=>first|exact Nat.le_refl _|omega|(simp; omega)
 case hGb=>
  exact fun _ _ h=>h.elim
 case hG=>
  exact fun _ _ _ h=>h.elim
 case hJ=>
  intro i hi iv iv' vs vs' wx wx' ha hv hz hk hj;simp only [List.mem_cons,List.not_mem_nil,or_false] at hi
  rcases hi with rfl|rfl|rfl|rfl|rfl|rfl|rfl|rfl|rfl|rfl|rfl|rfl|rfl|rfl
  all_goals try exact (aG hv _).symm.trans hj
  ·
   have e4:=aG hv 4;have g4:=aG ha 4;obtain ⟨sa,ca,q1,q2⟩:=hj;exact ⟨sa,ca,e4 ▸ q1,g4 ▸ q2.keep (fun b hb h1 h2=>hk.out b hb (foot_own h1 h2))⟩
  ·
   have e5:=aG hv 5;have g5:=aG ha 5;obtain ⟨sb,cb,q1,q2⟩:=hj;exact ⟨sb,cb,e5 ▸ q1,g5 ▸ q2.keep (fun b hb h1 h2=>hk.out b hb (foot_own h1 h2))⟩
  ·
   have e8:=aG hv 8;have g8:=aG ha 8;obtain ⟨sd,cd,q1,q2⟩:=hj;exact ⟨sd,cd,e8 ▸ q1,g8 ▸ q2.keep (fun b hb h1 h2=>hk.out b hb (foot_own h1 h2))⟩
  ·
   have e11:=aG hv 11;have g11:=aG ha 11;obtain ⟨se,ce,q1,q2⟩:=hj;exact ⟨se,ce,e11 ▸ q1,g11 ▸ q2.keep (fun b hb h1 h2=>hk.out b hb (foot_own h1 h2))⟩
  ·
   have e12:=aG hv 12;have g12:=aG ha 12;obtain ⟨sg,cg,q1,q2⟩:=hj;exact ⟨sg,cg,e12 ▸ q1,g12 ▸ q2.keep (fun b hb h1 h2=>hk.out b hb (foot_own h1 h2))⟩
 case hE=>
  intro i hi iv vs wx hj;simp only [List.mem_cons,List.not_mem_nil,or_false] at hi
  rcases hi with rfl|rfl|rfl|rfl|rfl|rfl|rfl|rfl|rfl|rfl|rfl|rfl|rfl|rfl
  all_goals try exact hj
  ·
   obtain ⟨sa,ca,q1, -⟩:=hj;exact ⟨sa,ca,q1⟩
  ·
   obtain ⟨sb,cb,q1, -⟩:=hj;exact ⟨sb,cb,q1⟩
  ·
   obtain ⟨sd,cd,q1, -⟩:=hj;exact ⟨sd,cd,q1⟩
  ·
   obtain ⟨se,ce,q1, -⟩:=hj;exact ⟨se,ce,q1⟩
  ·
   obtain ⟨sg,cg,q1, -⟩:=hj;exact ⟨sg,cg,q1⟩
 case hEE=>
  intro i hi iv iv' vs vs' ha hv hj;simp only [List.mem_cons,List.not_mem_nil,or_false] at hi
  rcases hi with rfl|rfl|rfl|rfl|rfl|rfl|rfl|rfl|rfl|rfl|rfl|rfl|rfl|rfl
  all_goals try exact (aG hv _).symm.trans hj
  ·
   have e4:=aG hv 4;have hj':∃sa ca,vs 4= .agg #[.int .i64 6, .int .i64 0, .slice sa 2 ca]:=hj
   show ∃sa ca,vs' 4= .agg #[.int .i64 6, .int .i64 0, .slice sa 2 ca]
   rw [←e4];exact hj'
  ·
   have e5:=aG hv 5;have hj':∃sb cb,vs 5= .agg #[.int .i64 7, .int .i64 0, .slice sb 2 cb]:=hj
   show ∃sb cb,vs' 5= .agg #[.int .i64 7, .int .i64 0, .slice sb 2 cb]
   rw [←e5];exact hj'
  ·
   have e8:=aG hv 8;have hj':∃sd cd,vs 8= .agg #[.int .i64 7, .int .i64 0, .slice sd 2 cd]:=hj
   show ∃sd cd,vs' 8= .agg #[.int .i64 7, .int .i64 0, .slice sd 2 cd]
   rw [←e8];exact hj'
  ·
   have e11:=aG hv 11;have hj':∃se ce,vs 11= .agg #[.int .i64 7, .int .i64 0, .slice se 2 ce]:=hj
   show ∃se ce,vs' 11= .agg #[.int .i64 7, .int .i64 0, .slice se 2 ce]
   rw [←e11];exact hj'
  ·
   have e12:=aG hv 12;have hj':∃sg cg,vs 12= .agg #[.int .i64 6, .int .i64 0, .slice sg 2 cg]:=hj
   show ∃sg cg,vs' 12= .agg #[.int .i64 6, .int .i64 0, .slice sg 2 cg]
   rw [←e12];exact hj'
 case hstep=>
  intro i hi opr ho iv vs w1 hB hS hSo hd he hbd hsep hun K hK;simp only [List.mem_cons,List.not_mem_nil,or_false] at hi;have hzB:=hB.size;obtain ⟨⟨⟨⟨⟨⟨⟨⟨⟨r1,r2⟩,r3⟩,g5⟩,g6⟩,g7⟩,g8⟩,g9⟩,rs⟩,g10⟩:=HF.out.ok w1 hB;obtain ⟨a50,a51,l5⟩:=g5.all2;obtain ⟨a60,a61,a62, -, -, -, l6⟩:=g6.all3;obtain ⟨a70,a71,a72, -, -, -, l7⟩:=g7.all3;obtain ⟨a80,a81,a82, -, -, -, l8⟩:=g8.all3;obtain ⟨a90,a91,a92, -, -, -, l9⟩:=g9.all3;obtain ⟨aa0,aa1,aa2, -, -, -, la⟩:=g10.all3;clear g5 g6 g7 g8 g9 g10;generalize hA:putFrom _ 0 vs _=A at hK ⊢;simp only [putFrom,puts] at hA
  rcases hi with rfl|rfl|rfl|rfl|rfl|rfl|rfl|rfl|rfl|rfl|rfl|rfl|rfl|rfl
  all_goals
   simp at ho;subst ho;subst hA
  ·
   go_wp2_with fail;refine Onward.mk (hK ?val4_0 _ _ (fun h=>by cases h) ?eqA (Spares.refl _) (fun iv' _ _=> ?ja))
   case eqA=>first|rfl|(simp only [puts]; rfl)
   case ja=>exact hx0.out.symm
  ·
   go_wp2_with fail;refine Onward.mk (hK ?val4_1 _ _ (fun h=>by cases h) ?eqA (Spares.refl _) (fun iv' _ _=> ?ja))
   case eqA=>first|rfl|(simp only [puts]; rfl)
   case ja=>exact hx1.out.symm
  ·
   go_wp2_with fail;refine Onward.mk (hK ?val4_2 _ _ (fun h=>by cases h) ?eqA (Spares.refl _) (fun iv' _ _=> ?ja))
   case eqA=>first|rfl|(simp only [puts]; rfl)
   case ja=>exact hx2.out.symm
  ·
   go_wp2_with fail;refine Onward.mk (hK ?val4_3 _ _ (fun h=>by cases h) ?eqA (Spares.refl _) (fun iv' _ _=> ?ja))
   case eqA=>first|rfl|(simp only [puts]; rfl)
   case ja=>exact hx3.out.symm
  ·
   have h2:=(dN hd 2).trans hx2.out;have h3:=(dN hd 3).trans hx3.out;go_wp2_with fail;refine (a2Pair_i (k:=6) (x:=f) (y:=h) r2 r3 (by omega) (by omega)).mono ?_;rintro e w2 ⟨sa,ca,rfl,hf,hb⟩;go_wp2_with fail;exact Onward.mk (hK (.agg #[.int .i64 6, .int .i64 0, .slice sa 2 ca]) _ _ (fun h=>by cases h) (by first|rfl|(simp only [puts,h2,h3])) (Spares.of_below hb) (fun iv' _ hi=>⟨sa,ca,rfl,by rw [hi]; exact Freshs.stretch (hf)⟩))
  ·
   have h1:=(dN hd 1).trans hx1.out;obtain ⟨sa,ca,h4,f4⟩:=dN hd 4;go_wp2_with fail;refine (a2Pair_i (k:=7) (x:=e) (y:= .mk 6 0 [f,h]) r1 f4.rd (by omega) (by rw [size_pairE rfl]; omega)).mono ?_;rintro e w2 ⟨sb,cb,rfl,hf,hb⟩;go_wp2_with fail;exact Onward.mk (hK (.agg #[.int .i64 7, .int .i64 0, .slice sb 2 cb]) _ _ (fun h=>by cases h) (by first|rfl|(simp only [puts,h1,h4])) (Spares.of_below hb) (fun iv' _ hi=>⟨sb,cb,rfl,by rw [hi]; exact Freshs.stretch (hf)⟩))
  ·
   go_wp2_with fail;refine Onward.mk (hK ?val4_6 _ _ (fun h=>by cases h) ?eqA (Spares.refl _) (fun iv' _ _=> ?ja))
   case eqA=>first|rfl|(simp only [puts]; rfl)
   case ja=>exact hx6.out.symm
  ·
   go_wp2_with fail;refine Onward.mk (hK ?val4_7 _ _ (fun h=>by cases h) ?eqA (Spares.refl _) (fun iv' _ _=> ?ja))
   case eqA=>first|rfl|(simp only [puts]; rfl)
   case ja=>exact hx7.out.symm
  ·
   have h6:=(dN hd 6).trans hx6.out;have h7:=(dN hd 7).trans hx7.out;go_wp2_with fail;refine (a2Pair_i (k:=7) (x:=e) (y:=h) r1 r3 (by omega) (by omega)).mono ?_;rintro e w2 ⟨sd,cd,rfl,hf,hb⟩;go_wp2_with fail;exact Onward.mk (hK (.agg #[.int .i64 7, .int .i64 0, .slice sd 2 cd]) _ _ (fun h=>by cases h) (by first|rfl|(simp only [puts,h6,h7])) (Spares.of_below hb) (fun iv' _ hi=>⟨sd,cd,rfl,by rw [hi]; exact Freshs.stretch (hf)⟩))
  ·
   go_wp2_with fail;refine Onward.mk (hK ?val4_9 _ _ (fun h=>by cases h) ?eqA (Spares.refl _) (fun iv' _ _=> ?ja))
   case eqA=>first|rfl|(simp only [puts]; rfl)
   case ja=>exact hx9.out.symm
  ·
   go_wp2_with fail;refine Onward.mk (hK ?val4_10 _ _ (fun h=>by cases h) ?eqA (Spares.refl _) (fun iv' _ _=> ?ja))
   case eqA=>first|rfl|(simp only [puts]; rfl)
   case ja=>exact hx10.out.symm
  ·
   have h9:=(dN hd 9).trans hx9.out;have h10:=(dN hd 10).trans hx10.out;go_wp2_with fail;refine (a2Pair_i (k:=7) (x:=e) (y:=f) r1 r2 (by omega) (by omega)).mono ?_;rintro e w2 ⟨se,ce,rfl,hf,hb⟩;go_wp2_with fail;exact Onward.mk (hK (.agg #[.int .i64 7, .int .i64 0, .slice se 2 ce]) _ _ (fun h=>by cases h) (by first|rfl|(simp only [puts,h9,h10])) (Spares.of_below hb) (fun iv' _ hi=>⟨se,ce,rfl,by rw [hi]; exact Freshs.stretch (hf)⟩))
  ·
   obtain ⟨sd,cd,h8,f8⟩:=dN hd 8;obtain ⟨se,ce,h11,f11⟩:=dN hd 11;go_wp2_with fail;refine (a2Pair_i (k:=6) (x:= .mk 7 0 [e,h]) (y:= .mk 7 0 [e,f]) f8.rd f11.rd (by rw [size_pairE rfl]; omega) (by rw [size_pairE rfl]; omega)).mono ?_;rintro e w2 ⟨sg,cg,rfl,hf,hb⟩;go_wp2_with fail;exact Onward.mk (hK (.agg #[.int .i64 6, .int .i64 0, .slice sg 2 cg]) _ _ (fun h=>by cases h) (by first|rfl|(simp only [puts,h8,h11])) (Spares.of_below hb) (fun iv' _ hi=>⟨sg,cg,rfl,by rw [hi]; exact Freshs.stretch (hf)⟩))
  ·
   have h0:=(dN hd 0).trans hx0.out;obtain ⟨sb,cb,h5,f5⟩:=dN hd 5;obtain ⟨sg,cg,h12,f12⟩:=dN hd 12;go_wp2_with fail;refine (never_no (e:= .mk 7 0 [e, .mk 6 0 [f,h]]) (f:= .mk 6 0 [.mk 7 0 [e,h], .mk 7 0 [e,f]]) (kl_dist t a e f h) f5.rd f12.rd (by rw [size_pairE rfl,size_pairE rfl]; omega) (by rw [size_pairE rfl,size_pairE rfl,size_pairE rfl]; omega)).mono ?_;rintro e w2 ⟨rfl,hb⟩;go_wp2_with fail;exact Onward.mk (hK (.bool false) _ _ (fun h=>by cases h) (by first|rfl|(simp only [puts,h0,h5,h12])) (Spares.of_below hb) (fun iv' _ _=>rfl))
 case hQ=>
  intro iv vs wx hB hSp hd he hbd hsep;have hzB:=hB.size;have h0:=(dE hd 0).trans hx0.out;have h1:=(dE hd 1).trans hx1.out;have h2:=(dE hd 2).trans hx2.out;have h3:=(dE hd 3).trans hx3.out;obtain ⟨sa,ca,h4,f4⟩:=dE hd 4;obtain ⟨sb,cb,h5,f5⟩:=dE hd 5;have h6:=(dE hd 6).trans hx6.out;have h7:=(dE hd 7).trans hx7.out;obtain ⟨sd,cd,h8,f8⟩:=dE hd 8;have h9:=(dE hd 9).trans hx9.out;have h10:=(dE hd 10).trans hx10.out;obtain ⟨se,ce,h11,f11⟩:=dE hd 11;obtain ⟨sg,cg,h12,f12⟩:=dE hd 12;have h13:vs 13= .bool false:=dE hd 13;simp only [putFrom,puts];simp only [h13];clear h0 h1 h2 h3 h4 h5 h6 h7 h8 h9 h10 h11 h12 h13 f4 f5 f8 f11 f12;have HFn:=Lib.hid (HF.out.on hB);have HBn:=Lib.hid (HB1.out.trans (hB.mono HB1.out.size));clear HF HB1;have HF:=HFn;have HB1:=HBn;clear HFn HBn;obtain ⟨wd,rfl⟩:∃u,u=wx:=⟨_,rfl⟩;clear hd he hbd hsep hB hSp hzB;go_wp2_with fail;obtain ⟨x0,hx0⟩:=mkval ?a3_0;obtain ⟨x1,hx1⟩:=mkval ?a3_1;obtain ⟨x2,hx2⟩:=mkval ?a3_2;obtain ⟨x3,hx3⟩:=mkval ?a3_3;obtain ⟨x4,hx4⟩:=mkval ?a3_4;obtain ⟨x9,hx9⟩:=mkval ?a3_9;obtain ⟨x10,hx10⟩:=mkval ?a3_10;obtain ⟨x11,hx11⟩:=mkval ?a3_11;obtain ⟨x12,hx12⟩:=mkval ?a3_12;obtain ⟨x14,hx14⟩:=mkval ?a3_14
  refine region_rs [] [] (fun _ _=>False) (wd.heap.size) (fun i iv vs wx=>match i with
   |0=>vs 0=x0
   |1=>vs 1=x1
   |2=>vs 2=x2
   |3=>vs 3=x3
   |4=>vs 4=x4
   |5=>∃sa ca,vs 5= .agg #[.int .i64 7, .int .i64 0, .slice sa 2 ca]∧FreshIn (iv 5) wx [kidsD [e,st]] [.slice sa 2 ca]
   |6=>∃sb cb,vs 6= .agg #[.int .i64 6, .int .i64 0, .slice sb 2 cb]∧FreshIn (iv 6) wx [kidsD [.mk 2 0 [], .mk 7 0 [e,st]]] [.slice sb 2 cb]
   |7=>vs 7= .bool false
   |8=>vs 8=vs 7
   |9=>vs 9=x9
   |10=>vs 10=x10
   |11=>vs 11=x11
   |12=>vs 12=x12
   |13=>∃sd cd,vs 13= .agg #[.int .i64 7, .int .i64 0, .slice sd 2 cd]∧FreshIn (iv 13) wx [kidsD [st,e]] [.slice sd 2 cd]
   |14=>vs 14=x14
   |15=>∃se ce,vs 15= .agg #[.int .i64 6, .int .i64 0, .slice se 2 ce]∧FreshIn (iv 15) wx [kidsD [.mk 7 0 [st,e], .mk 2 0 []]] [.slice se 2 ce]
   |16=>vs 16= .bool false
   |17=>vs 17= .bool false
   |_=>True) (fun i iv vs=>match i with
   |0=>vs 0=x0
   |1=>vs 1=x1
   |2=>vs 2=x2
   |3=>vs 3=x3
   |4=>vs 4=x4
   |5=>∃sa ca,vs 5= .agg #[.int .i64 7, .int .i64 0, .slice sa 2 ca]
   |6=>∃sb cb,vs 6= .agg #[.int .i64 6, .int .i64 0, .slice sb 2 cb]
   |7=>vs 7= .bool false
   |8=>vs 8=vs 7
   |9=>vs 9=x9
   |10=>vs 10=x10
   |11=>vs 11=x11
   |12=>vs 12=x12
   |13=>∃sd cd,vs 13= .agg #[.int .i64 7, .int .i64 0, .slice sd 2 cd]
   |14=>vs 14=x14
   |15=>∃se ce,vs 15= .agg #[.int .i64 6, .int .i64 0, .slice se 2 ce]
   |16=>vs 16= .bool false
   |17=>vs 17= .bool false
   |_=>True) (by kernel_rfl) (by kernel_rfl) [0,1,2,3,4,5,6,7,8,9,10,11,12,13,14,15,16,17] (by kernel_rfl) ?hbase ?hGb ?hG ?hJ ?hE ?hEE ?hstep ?hQ
  case hbase=>first|exact Nat.le_refl _|omega|(simp; omega)
  case hGb=>
   exact fun _ _ h=>h.elim
  case hG=>
   exact fun _ _ _ h=>h.elim
  case hJ=>
   intro i hi iv iv' vs vs' wx wx' ha hv hz hk hj;simp only [List.mem_cons,List.not_mem_nil,or_false] at hi
   rcases hi with rfl|rfl|rfl|rfl|rfl|rfl|rfl|rfl|rfl|rfl|rfl|rfl|rfl|rfl|rfl|rfl|rfl|rfl
   all_goals try exact (aG hv _).symm.trans hj
   ·
    have e5:=aG hv 5;have g5:=aG ha 5;obtain ⟨sa,ca,q1,q2⟩:=hj;exact ⟨sa,ca,e5 ▸ q1,g5 ▸ q2.keep (fun b hb h1 h2=>hk.out b hb (foot_own h1 h2))⟩
   ·
    have e6:=aG hv 6;have g6:=aG ha 6;obtain ⟨sb,cb,q1,q2⟩:=hj;exact ⟨sb,cb,e6 ▸ q1,g6 ▸ q2.keep (fun b hb h1 h2=>hk.out b hb (foot_own h1 h2))⟩
   ·
    have e7:=aG hv 7;have e8:=aG hv 8;have hj':vs 8=vs 7:=hj
    show vs' 8=vs' 7
    rw [←e7,←e8];exact hj'
   ·
    have e13:=aG hv 13;have g13:=aG ha 13;obtain ⟨sd,cd,q1,q2⟩:=hj;exact ⟨sd,cd,e13 ▸ q1,g13 ▸ q2.keep (fun b hb h1 h2=>hk.out b hb (foot_own h1 h2))⟩
   ·
    have e15:=aG hv 15;have g15:=aG ha 15;obtain ⟨se,ce,q1,q2⟩:=hj;exact ⟨se,ce,e15 ▸ q1,g15 ▸ q2.keep (fun b hb h1 h2=>hk.out b hb (foot_own h1 h2))⟩
  case hE=>
   intro i hi iv vs wx hj;simp only [List.mem_cons,List.not_mem_nil,or_false] at hi
   rcases hi with rfl|rfl|rfl|rfl|rfl|rfl|rfl|rfl|rfl|rfl|rfl|rfl|rfl|rfl|rfl|rfl|rfl|rfl
   all_goals try exact hj
   ·
    obtain ⟨sa,ca,q1, -⟩:=hj;exact ⟨sa,ca,q1⟩
   ·
    obtain ⟨sb,cb,q1, -⟩:=hj;exact ⟨sb,cb,q1⟩
   ·
    obtain ⟨sd,cd,q1, -⟩:=hj;exact ⟨sd,cd,q1⟩
   ·
    obtain ⟨se,ce,q1, -⟩:=hj;exact ⟨se,ce,q1⟩
  case hEE=>
   intro i hi iv iv' vs vs' ha hv hj;simp only [List.mem_cons,List.not_mem_nil,or_false] at hi
   rcases hi with rfl|rfl|rfl|rfl|rfl|rfl|rfl|rfl|rfl|rfl|rfl|rfl|rfl|rfl|rfl|rfl|rfl|rfl
   all_goals try exact (aG hv _).symm.trans hj
   ·
    have e5:=aG hv 5;have hj':∃sa ca,vs 5= .agg #[.int .i64 7, .int .i64 0, .slice sa 2 ca]:=hj
    show ∃sa ca,vs' 5= .agg #[.int .i64 7, .int .i64 0, .slice sa 2 ca]
    rw [←e5];exact hj'
   ·
    have e6:=aG hv 6;have hj':∃sb cb,vs 6= .agg #[.int .i64 6, .int .i64 0, .slice sb 2 cb]:=hj
    show ∃sb cb,vs' 6= .agg #[.int .i64 6, .int .i64 0, .slice sb 2 cb]
    rw [←e6];exact hj'
   ·
    have e7:=aG hv 7;have e8:=aG hv 8;have hj':vs 8=vs 7:=hj
    show vs' 8=vs' 7
    rw [←e7,←e8];exact hj'
   ·
    have e13:=aG hv 13;have hj':∃sd cd,vs 13= .agg #[.int .i64 7, .int .i64 0, .slice sd 2 cd]:=hj
    show ∃sd cd,vs' 13= .agg #[.int .i64 7, .int .i64 0, .slice sd 2 cd]
    rw [←e13];exact hj'
   ·
    have e15:=aG hv 15;have hj':∃se ce,vs 15= .agg #[.int .i64 6, .int .i64 0, .slice se 2 ce]:=hj
    show ∃se ce,vs' 15= .agg #[.int .i64 6, .int .i64 0, .slice se 2 ce]
    rw [←e15];exact hj'
  case hstep=>
   intro i hi opr ho iv vs w1 hB hS hSo hd he hbd hsep hun K hK;simp only [List.mem_cons,List.not_mem_nil,or_false] at hi;have hzB:=hB.size;obtain ⟨⟨⟨⟨⟨⟨⟨⟨⟨r1,r2⟩,r3⟩,g5⟩,g6⟩,g7⟩,g8⟩,g9⟩,rs⟩,g10⟩:=HF.out.ok w1 hB;obtain ⟨a50,a51,l5⟩:=g5.all2;obtain ⟨a60,a61,a62, -, -, -, l6⟩:=g6.all3;obtain ⟨a70,a71,a72, -, -, -, l7⟩:=g7.all3;obtain ⟨a80,a81,a82, -, -, -, l8⟩:=g8.all3;obtain ⟨a90,a91,a92, -, -, -, l9⟩:=g9.all3;obtain ⟨aa0,aa1,aa2, -, -, -, la⟩:=g10.all3;clear g5 g6 g7 g8 g9 g10;generalize hA:putFrom _ 0 vs _=A at hK ⊢;simp only [putFrom,puts] at hA
   rcases hi with rfl|rfl|rfl|rfl|rfl|rfl|rfl|rfl|rfl|rfl|rfl|rfl|rfl|rfl|rfl|rfl|rfl|rfl
   all_goals
    simp at ho;subst ho;subst hA
   ·
    go_wp2_with fail;refine Onward.mk (hK ?val3_0 _ _ (fun h=>by cases h) ?eqA (Spares.refl _) (fun iv' _ _=> ?ja))
    case eqA=>first|rfl|(simp only [puts]; rfl)
    case ja=>exact hx0.out.symm
   ·
    go_wp2_with fail;refine Onward.mk (hK ?val3_1 _ _ (fun h=>by cases h) ?eqA (Spares.refl _) (fun iv' _ _=> ?ja))
    case eqA=>first|rfl|(simp only [puts]; rfl)
    case ja=>exact hx1.out.symm
   ·
    go_wp2_with fail;refine Onward.mk (hK ?val3_2 _ _ (fun h=>by cases h) ?eqA (Spares.refl _) (fun iv' _ _=> ?ja))
    case eqA=>first|rfl|(simp only [puts]; rfl)
    case ja=>exact hx2.out.symm
   ·
    go_wp2_with fail;refine Onward.mk (hK ?val3_3 _ _ (fun h=>by cases h) ?eqA (Spares.refl _) (fun iv' _ _=> ?ja))
    case eqA=>first|rfl|(simp only [puts]; rfl)
    case ja=>exact hx3.out.symm
   ·
    go_wp2_with fail;refine Onward.mk (hK ?val3_4 _ _ (fun h=>by cases h) ?eqA (Spares.refl _) (fun iv' _ _=> ?ja))
    case eqA=>first|rfl|(simp only [puts]; rfl)
    case ja=>exact hx4.out.symm
   ·
    have h3:=(dN hd 3).trans hx3.out;have h4:=(dN hd 4).trans hx4.out;go_wp2_with fail;refine (a2Pair_i (k:=7) (x:=e) (y:=st) r1 rs (by omega) (by omega)).mono ?_;rintro e w2 ⟨sa,ca,rfl,hf,hb⟩;go_wp2_with fail;exact Onward.mk (hK (.agg #[.int .i64 7, .int .i64 0, .slice sa 2 ca]) _ _ (fun h=>by cases h) (by first|rfl|(simp only [puts,h3,h4])) (Spares.of_below hb) (fun iv' _ hi=>⟨sa,ca,rfl,by rw [hi]; exact Freshs.stretch (hf)⟩))
   ·
    have h2:=(dN hd 2).trans hx2.out;obtain ⟨sa,ca,h5,f5⟩:=dN hd 5;go_wp2_with fail;refine (a2Pair_i (k:=6) (x:= .mk 2 0 []) (y:= .mk 7 0 [e,st]) rd_one f5.rd (by decide) (by rw [size_pairE rfl]; omega)).mono ?_;rintro e w2 ⟨sb,cb,rfl,hf,hb⟩;go_wp2_with fail;exact Onward.mk (hK (.agg #[.int .i64 6, .int .i64 0, .slice sb 2 cb]) _ _ (fun h=>by cases h) (by first|rfl|(simp only [puts,h2,h5])) (Spares.of_below hb) (fun iv' _ hi=>⟨sb,cb,rfl,by rw [hi]; exact Freshs.stretch (hf)⟩))
   ·
    have h0:=(dN hd 0).trans hx0.out;have h1:=(dN hd 1).trans hx1.out;obtain ⟨sb,cb,h6,f6⟩:=dN hd 6;go_wp2_with fail;refine (never_no (e:=st) (f:= .mk 6 0 [.mk 2 0 [], .mk 7 0 [e,st]]) (by rw [HST.out]; exact kl_unroll t a rfl e) rs f6.rd (by omega) (by rw [size_pairE rfl,size_pairE rfl,show (Ex.mk 2 0 []).size=1 from rfl]; omega)).mono ?_;rintro e w2 ⟨rfl,hb⟩;go_wp2_with fail;exact Onward.mk (hK (.bool false) _ _ (fun h=>by cases h) (by first|rfl|(simp only [puts,h0,h1,h6])) (Spares.of_below hb) (fun iv' _ _=>rfl))
   ·
    have h7:vs 7= .bool false:=dN hd 7;go_wp2_with fail;refine Onward.mk (hK ?val3_8 _ _ (fun h=>by cases h) ?eqA (Spares.refl _) (fun iv' _ _=> ?ja))
    case eqA=>first|rfl|(simp only [puts,h7]; rfl)
    case ja=>show _=vs 7; simp only [h7]; rfl
   ·
    have h8:vs 8=vs 7:=dN hd 8;have h7:vs 7= .bool false:=dN hd 7;go_wp2_with fail;refine Onward.mk (hK ?val3_9 _ _ (fun h=>by cases h) ?eqA (Spares.refl _) (fun iv' _ _=> ?ja))
    case eqA=>first|rfl|(simp only [puts,h8,h7]; rfl)
    case ja=>exact hx9.out.symm
   ·
    have h8:vs 8=vs 7:=dN hd 8;have h7:vs 7= .bool false:=dN hd 7;go_wp2_with fail;refine Onward.mk (hK ?val3_10 _ _ (fun h=>by cases h) ?eqA (Spares.refl _) (fun iv' _ _=> ?ja))
    case eqA=>first|rfl|(simp only [puts,h8,h7]; rfl)
    case ja=>exact hx10.out.symm
   ·
    have h8:vs 8=vs 7:=dN hd 8;have h7:vs 7= .bool false:=dN hd 7;go_wp2_with fail;refine Onward.mk (hK ?val3_11 _ _ (fun h=>by cases h) ?eqA (Spares.refl _) (fun iv' _ _=> ?ja))
    case eqA=>first|rfl|(simp only [puts,h8,h7]; rfl)
    case ja=>exact hx11.out.symm
   ·
    have h8:vs 8=vs 7:=dN hd 8;have h7:vs 7= .bool false:=dN hd 7;go_wp2_with fail;refine Onward.mk (hK ?val3_12 _ _ (fun h=>by cases h) ?eqA (Spares.refl _) (fun iv' _ _=> ?ja))
    case eqA=>first|rfl|(simp only [puts,h8,h7]; rfl)
    case ja=>exact hx12.out.symm
   ·
    have h11:=(dN hd 11).trans hx11.out;have h12:=(dN hd 12).trans hx12.out;have h8:vs 8=vs 7:=dN hd 8;have h7:vs 7= .bool false:=dN hd 7;go_wp2_with fail;refine (a2Pair_i (k:=7) (x:=st) (y:=e) rs r1 (by omega) (by omega)).mono ?_;rintro e w2 ⟨sd,cd,rfl,hf,hb⟩;go_wp2_with fail;exact Onward.mk (hK (.agg #[.int .i64 7, .int .i64 0, .slice sd 2 cd]) _ _ (fun h=>by cases h) (by first|rfl|(simp only [puts,h11,h12,h8,h7])) (Spares.of_below hb) (fun iv' _ hi=>⟨sd,cd,rfl,by rw [hi]; exact Freshs.stretch (hf)⟩))
   ·
    have h8:vs 8=vs 7:=dN hd 8;have h7:vs 7= .bool false:=dN hd 7;go_wp2_with fail;refine Onward.mk (hK ?val3_14 _ _ (fun h=>by cases h) ?eqA (Spares.refl _) (fun iv' _ _=> ?ja))
    case eqA=>first|rfl|(simp only [puts,h8,h7]; rfl)
    case ja=>exact hx14.out.symm
   ·
    obtain ⟨sd,cd,h13,f13⟩:=dN hd 13;have h14:=(dN hd 14).trans hx14.out;have h8:vs 8=vs 7:=dN hd 8;have h7:vs 7= .bool false:=dN hd 7;go_wp2_with fail;refine (a2Pair_i (k:=6) (x:= .mk 7 0 [st,e]) (y:= .mk 2 0 []) f13.rd rd_one (by rw [size_pairE rfl]; omega) (by decide)).mono ?_;rintro e w2 ⟨se,ce,rfl,hf,hb⟩;go_wp2_with fail;exact Onward.mk (hK (.agg #[.int .i64 6, .int .i64 0, .slice se 2 ce]) _ _ (fun h=>by cases h) (by first|rfl|(simp only [puts,h13,h14,h8,h7])) (Spares.of_below hb) (fun iv' _ hi=>⟨se,ce,rfl,by rw [hi]; exact Freshs.stretch (hf)⟩))
   ·
    have h9:=(dN hd 9).trans hx9.out;have h10:=(dN hd 10).trans hx10.out;obtain ⟨se,ce,h15,f15⟩:=dN hd 15;have h8:vs 8=vs 7:=dN hd 8;have h7:vs 7= .bool false:=dN hd 7;go_wp2_with fail;refine (never_no (e:=st) (f:= .mk 6 0 [.mk 7 0 [st,e], .mk 2 0 []]) (by rw [HST.out]; exact kl_unroll' t a rfl e) rs f15.rd (by omega) (by rw [size_pairE rfl,size_pairE rfl,show (Ex.mk 2 0 []).size=1 from rfl]; omega)).mono ?_;rintro e w2 ⟨rfl,hb⟩;go_wp2_with fail;exact Onward.mk (hK (.bool false) _ _ (fun h=>by cases h) (by first|rfl|(simp only [puts,h9,h10,h15,h8,h7])) (Spares.of_below hb) (fun iv' _ _=>rfl))
   ·
    have h8:vs 8=vs 7:=dN hd 8;have h16:vs 16= .bool false:=dN hd 16;have h7:vs 7= .bool false:=dN hd 7;go_wp2_with fail;exact Onward.mk (hK (.bool false) _ _ (fun h=>by cases h) (by first|rfl|(simp only [puts,h8,h16,h7])) (Spares.refl _) (fun iv' _ _=>rfl))
  case hQ=>
   intro iv vs wx hB hSp hd he hbd hsep;have hzB:=hB.size;have h0:=(dE hd 0).trans hx0.out;have h1:=(dE hd 1).trans hx1.out;have h2:=(dE hd 2).trans hx2.out;have h3:=(dE hd 3).trans hx3.out;have h4:=(dE hd 4).trans hx4.out;obtain ⟨sa,ca,h5,f5⟩:=dE hd 5;obtain ⟨sb,cb,h6,f6⟩:=dE hd 6;have h7:vs 7= .bool false:=dE hd 7;have h8:vs 8=vs 7:=dE hd 8;have h9:=(dE hd 9).trans hx9.out;have h10:=(dE hd 10).trans hx10.out;have h11:=(dE hd 11).trans hx11.out;have h12:=(dE hd 12).trans hx12.out;obtain ⟨sd,cd,h13,f13⟩:=dE hd 13;have h14:=(dE hd 14).trans hx14.out;obtain ⟨se,ce,h15,f15⟩:=dE hd 15;have h16:vs 16= .bool false:=dE hd 16;have h17:vs 17= .bool false:=dE hd 17;simp only [putFrom,puts];simp only [h17];clear h0 h1 h2 h3 h4 h5 h6 h7 h8 h9 h10 h11 h12 h13 h14 h15 h16 h17 f5 f6 f13 f15;have HFn:=Lib.hid (HF.out.on hB);have HBn:=Lib.hid (HB1.out.trans (hB.mono HB1.out.size));clear HF HB1;have HF:=HFn;have HB1:=HBn;clear HFn HBn;obtain ⟨wi,rfl⟩:∃u,u=wx:=⟨_,rfl⟩;clear hd he hbd hsep hB hSp hzB;have HM:=Lib.hid (Later.base (Below.refl wi.heap.size wi) (Nat.le_refl _));obtain ⟨⟨⟨⟨⟨⟨⟨⟨⟨-, -⟩, -⟩,g5⟩,g6⟩,g7⟩,g8⟩,g9⟩, -⟩,g10⟩:=HF.out.now;obtain ⟨a50,a51,l5⟩:=g5.all2;obtain ⟨a60,a61,a62, -, -, -, l6⟩:=g6.all3;obtain ⟨a70,a71,a72, -, -, -, l7⟩:=g7.all3;clear g5 g6 g7 g8 g9 g10;go_wp2_with fail;clear a50 a51 l5 a60 a61 a62 l6 a70 a71 a72 l7;refine (a2Pair_l (k:=7) (x:=e) (y:=f) HF.out.now.1.1.1.1.1.1.1.1.1 HF.out.now.1.1.1.1.1.1.1.1.2 (by omega) (by omega)).mono ?_;rintro z v1 ⟨ef,s5,c5,rfl,hst,hrs,hb⟩;have HEF:=Lib.hid hst
   have hefz:ef.size≤200:=by rw [size_pairE hst]; omega
   have HFn:=Lib.hid (HF.out.on hb);have HBn:=Lib.hid (HB1.out.trans (hb.mono HB1.out.size));have HMn:=Lib.hid (HM.out.on hb);have hrn:=Later.rd hrs;clear hb hrs hst HF HB1 HM;obtain ⟨wj,e7,B10,hb7,hz7⟩:=box3 v1 34 (.int .i64 ef.kind) (.int .i64 ef.num) (.slice s5 ef.kids.length c5);obtain ⟨b11,hbb⟩:∃b,v1.heap.size=b:=⟨_,rfl⟩;rw [hbb] at B10;have HF:=Lib.hid (HFn.out.on hb7);have HB1:=Lib.hid (HBn.out.trans (hb7.mono HBn.out.size));have HM:=Lib.hid (((HMn.out.on hb7).and (hrn.on hb7)).and (Later.blk B10));clear hb7 hz7 B10 HFn HBn HMn hrn;obtain ⟨⟨⟨⟨⟨⟨⟨⟨⟨-, -⟩, -⟩,g5⟩,g6⟩,g7⟩,g8⟩,g9⟩, -⟩,g10⟩:=HF.out.now;obtain ⟨a50,a51,l5⟩:=g5.all2;obtain ⟨a60,a61,a62, -, -, -, l6⟩:=g6.all3;obtain ⟨a70,a71,a72, -, -, -, l7⟩:=g7.all3;clear g5 g6 g7 g8 g9 g10;go_wp2_with fail;clear a50 a51 l5 a60 a61 a62 l6 a70 a71 a72 l7;clear e7 hbb;refine (a2Pair_l (k:=7) (x:=f) (y:=e) HF.out.now.1.1.1.1.1.1.1.1.2 HF.out.now.1.1.1.1.1.1.1.1.1 (by omega) (by omega)).mono ?_;rintro z v2 ⟨fe,s6,c6,rfl,hst,hrs,hb⟩;have HFE:=Lib.hid hst
   have hfez:fe.size≤200:=by rw [size_pairE hst]; omega
   have HFn:=Lib.hid (HF.out.on hb);have HBn:=Lib.hid (HB1.out.trans (hb.mono HB1.out.size));have HMn:=Lib.hid (HM.out.on hb);have hrn:=Later.rd hrs;clear hb hrs hst HF HB1 HM;obtain ⟨wk,e7,B10,hb7,hz7⟩:=box3 v2 34 (.int .i64 fe.kind) (.int .i64 fe.num) (.slice s6 fe.kids.length c6);obtain ⟨b12,hbb⟩:∃b,v2.heap.size=b:=⟨_,rfl⟩;rw [hbb] at B10;have HF:=Lib.hid (HFn.out.on hb7);have HB1:=Lib.hid (HBn.out.trans (hb7.mono HBn.out.size));have HM:=Lib.hid (((HMn.out.on hb7).and (hrn.on hb7)).and (Later.blk B10));clear hb7 hz7 B10 HFn HBn HMn hrn;go_wp2_with fail;clear e7 hbb;obtain ⟨x0,hx0⟩:=mkval ?a2_0;obtain ⟨x1,hx1⟩:=mkval ?a2_1;obtain ⟨x3,hx3⟩:=mkval ?a2_3;obtain ⟨x5,hx5⟩:=mkval ?a2_5;obtain ⟨x6,hx6⟩:=mkval ?a2_6
   refine region_rs [] [] (fun _ _=>False) (wk.heap.size) (fun i iv vs wx=>match i with
    |0=>vs 0=x0
    |1=>vs 1=x1
    |2=>∃sa ca,vs 2= .agg #[.int .i64 8, .int .i64 0, .slice sa 1 ca]∧FreshIn (iv 2) wx [kidsD [ef]] [.slice sa 1 ca]
    |3=>vs 3=x3
    |4=>∃sb cb,vs 4= .agg #[.int .i64 7, .int .i64 0, .slice sb 2 cb]∧FreshIn (iv 4) wx [kidsD [.mk 8 0 [ef],e]] [.slice sb 2 cb]
    |5=>vs 5=x5
    |6=>vs 6=x6
    |7=>∃sd cd,vs 7= .agg #[.int .i64 8, .int .i64 0, .slice sd 1 cd]∧FreshIn (iv 7) wx [kidsD [fe]] [.slice sd 1 cd]
    |8=>∃se ce,vs 8= .agg #[.int .i64 7, .int .i64 0, .slice se 2 ce]∧FreshIn (iv 8) wx [kidsD [e, .mk 8 0 [fe]]] [.slice se 2 ce]
    |9=>vs 9= .bool false
    |_=>True) (fun i iv vs=>match i with
    |0=>vs 0=x0
    |1=>vs 1=x1
    |2=>∃sa ca,vs 2= .agg #[.int .i64 8, .int .i64 0, .slice sa 1 ca]
    |3=>vs 3=x3
    |4=>∃sb cb,vs 4= .agg #[.int .i64 7, .int .i64 0, .slice sb 2 cb]
    |5=>vs 5=x5
    |6=>vs 6=x6
    |7=>∃sd cd,vs 7= .agg #[.int .i64 8, .int .i64 0, .slice sd 1 cd]
    |8=>∃se ce,vs 8= .agg #[.int .i64 7, .int .i64 0, .slice se 2 ce]
    |9=>vs 9= .bool false
    |_=>True) (by kernel_rfl) (by kernel_rfl) [0,1,2,3,4,5,6,7,8,9] (by kernel_rfl) ?hbase ?hGb ?hG ?hJ ?hE ?hEE ?hstep ?hQ
   case hbase=>first|exact Nat.le_refl _|omega|(simp; omega)
   case hGb=>
    exact fun _ _ h=>h.elim
   case hG=>
    exact fun _ _ _ h=>h.elim
   case hJ=>
    intro i hi iv iv' vs vs' wx wx' ha hv hz hk hj;simp only [List.mem_cons,List.not_mem_nil,or_false] at hi
    rcases hi with rfl|rfl|rfl|rfl|rfl|rfl|rfl|rfl|rfl|rfl
    all_goals try exact (aG hv _).symm.trans hj
    ·
     have e2:=aG hv 2;have g2:=aG ha 2;obtain ⟨sa,ca,q1,q2⟩:=hj;exact ⟨sa,ca,e2 ▸ q1,g2 ▸ q2.keep (fun b hb h1 h2=>hk.out b hb (foot_own h1 h2))⟩
    ·
     have e4:=aG hv 4;have g4:=aG ha 4;obtain ⟨sb,cb,q1,q2⟩:=hj;exact ⟨sb,cb,e4 ▸ q1,g4 ▸ q2.keep (fun b hb h1 h2=>hk.out b hb (foot_own h1 h2))⟩
    ·
     have e7:=aG hv 7;have g7:=aG ha 7;obtain ⟨sd,cd,q1,q2⟩:=hj;exact ⟨sd,cd,e7 ▸ q1,g7 ▸ q2.keep (fun b hb h1 h2=>hk.out b hb (foot_own h1 h2))⟩
    ·
     have e8:=aG hv 8;have g8:=aG ha 8;obtain ⟨se,ce,q1,q2⟩:=hj;exact ⟨se,ce,e8 ▸ q1,g8 ▸ q2.keep (fun b hb h1 h2=>hk.out b hb (foot_own h1 h2))⟩
   case hE=>
    intro i hi iv vs wx hj;simp only [List.mem_cons,List.not_mem_nil,or_false] at hi
    rcases hi with rfl|rfl|rfl|rfl|rfl|rfl|rfl|rfl|rfl|rfl
    all_goals try exact hj
    ·
     obtain ⟨sa,ca,q1, -⟩:=hj;exact ⟨sa,ca,q1⟩
    ·
     obtain ⟨sb,cb,q1, -⟩:=hj;exact ⟨sb,cb,q1⟩
    ·
     obtain ⟨sd,cd,q1, -⟩:=hj;exact ⟨sd,cd,q1⟩
    ·
     obtain ⟨se,ce,q1, -⟩:=hj;exact ⟨se,ce,q1⟩
   case hEE=>
    intro i hi iv iv' vs vs' ha hv hj;simp only [List.mem_cons,List.not_mem_nil,or_false] at hi
    rcases hi with rfl|rfl|rfl|rfl|rfl|rfl|rfl|rfl|rfl|rfl
    all_goals try exact (aG hv _).symm.trans hj
    ·
     have e2:=aG hv 2;have hj':∃sa ca,vs 2= .agg #[.int .i64 8, .int .i64 0, .slice sa 1 ca]:=hj
     show ∃sa ca,vs' 2= .agg #[.int .i64 8, .int .i64 0, .slice sa 1 ca]
     rw [←e2];exact hj'
    ·
     have e4:=aG hv 4;have hj':∃sb cb,vs 4= .agg #[.int .i64 7, .int .i64 0, .slice sb 2 cb]:=hj
     show ∃sb cb,vs' 4= .agg #[.int .i64 7, .int .i64 0, .slice sb 2 cb]
     rw [←e4];exact hj'
    ·
     have e7:=aG hv 7;have hj':∃sd cd,vs 7= .agg #[.int .i64 8, .int .i64 0, .slice sd 1 cd]:=hj
     show ∃sd cd,vs' 7= .agg #[.int .i64 8, .int .i64 0, .slice sd 1 cd]
     rw [←e7];exact hj'
    ·
     have e8:=aG hv 8;have hj':∃se ce,vs 8= .agg #[.int .i64 7, .int .i64 0, .slice se 2 ce]:=hj
     show ∃se ce,vs' 8= .agg #[.int .i64 7, .int .i64 0, .slice se 2 ce]
     rw [←e8];exact hj'
   case hstep=>
    intro i hi opr ho iv vs w1 hB hS hSo hd he hbd hsep hun K hK;simp only [List.mem_cons,List.not_mem_nil,or_false] at hi;have hzB:=hB.size;obtain ⟨⟨⟨⟨⟨⟨⟨⟨⟨r1,r2⟩,r3⟩,g5⟩,g6⟩,g7⟩,g8⟩,g9⟩,rs⟩,g10⟩:=HF.out.ok w1 hB;obtain ⟨a50,a51,l5⟩:=g5.all2;obtain ⟨a60,a61,a62, -, -, -, l6⟩:=g6.all3;obtain ⟨a70,a71,a72, -, -, -, l7⟩:=g7.all3;obtain ⟨a80,a81,a82, -, -, -, l8⟩:=g8.all3;obtain ⟨a90,a91,a92, -, -, -, l9⟩:=g9.all3;obtain ⟨aa0,aa1,aa2, -, -, -, la⟩:=g10.all3;clear g5 g6 g7 g8 g9 g10;obtain ⟨⟨⟨⟨-, rm1⟩,m1⟩,rm2⟩,m2⟩:=HM.out.ok w1 hB;obtain ⟨m10,m11,m12, -, -, -, lm1⟩:=m1.all3;obtain ⟨m20,m21,m22, -, -, -, lm2⟩:=m2.all3;clear m1 m2;generalize hA:putFrom _ 0 vs _=A at hK ⊢;simp only [putFrom,puts] at hA
    rcases hi with rfl|rfl|rfl|rfl|rfl|rfl|rfl|rfl|rfl|rfl
    all_goals
     simp at ho;subst ho;subst hA
    ·
     go_wp2_with fail;refine Onward.mk (hK ?val2_0 _ _ (fun h=>by cases h) ?eqA (Spares.refl _) (fun iv' _ _=> ?ja))
     case eqA=>first|rfl|(simp only [puts]; rfl)
     case ja=>exact hx0.out.symm
    ·
     go_wp2_with fail;refine Onward.mk (hK ?val2_1 _ _ (fun h=>by cases h) ?eqA (Spares.refl _) (fun iv' _ _=> ?ja))
     case eqA=>first|rfl|(simp only [puts]; rfl)
     case ja=>exact hx1.out.symm
    ·
     have h1:=(dN hd 1).trans hx1.out;go_wp2_with fail;refine (a2Star_i (x:=ef) rm1 (by omega)).mono ?_;rintro e w2 ⟨sa,ca,rfl,hf,hb⟩;go_wp2_with fail;exact Onward.mk (hK (.agg #[.int .i64 8, .int .i64 0, .slice sa 1 ca]) _ _ (fun h=>by cases h) (by first|rfl|(simp only [puts,h1])) (Spares.of_below hb) (fun iv' _ hi=>⟨sa,ca,rfl,by rw [hi]; exact Freshs.stretch (hf)⟩))
    ·
     go_wp2_with fail;refine Onward.mk (hK ?val2_3 _ _ (fun h=>by cases h) ?eqA (Spares.refl _) (fun iv' _ _=> ?ja))
     case eqA=>first|rfl|(simp only [puts]; rfl)
     case ja=>exact hx3.out.symm
    ·
     obtain ⟨sa,ca,h2,f2⟩:=dN hd 2;have h3:=(dN hd 3).trans hx3.out;go_wp2_with fail;refine (a2Pair_i (k:=7) (x:= .mk 8 0 [ef]) (y:=e) f2.rd r1 (by rw [size_starE rfl]; omega) (by omega)).mono ?_;rintro e w2 ⟨sb,cb,rfl,hf,hb⟩;go_wp2_with fail;exact Onward.mk (hK (.agg #[.int .i64 7, .int .i64 0, .slice sb 2 cb]) _ _ (fun h=>by cases h) (by first|rfl|(simp only [puts,h2,h3])) (Spares.of_below hb) (fun iv' _ hi=>⟨sb,cb,rfl,by rw [hi]; exact Freshs.stretch (hf)⟩))
    ·
     go_wp2_with fail;refine Onward.mk (hK ?val2_5 _ _ (fun h=>by cases h) ?eqA (Spares.refl _) (fun iv' _ _=> ?ja))
     case eqA=>first|rfl|(simp only [puts]; rfl)
     case ja=>exact hx5.out.symm
    ·
     go_wp2_with fail;refine Onward.mk (hK ?val2_6 _ _ (fun h=>by cases h) ?eqA (Spares.refl _) (fun iv' _ _=> ?ja))
     case eqA=>first|rfl|(simp only [puts]; rfl)
     case ja=>exact hx6.out.symm
    ·
     have h6:=(dN hd 6).trans hx6.out;go_wp2_with fail;refine (a2Star_i (x:=fe) rm2 (by omega)).mono ?_;rintro e w2 ⟨sd,cd,rfl,hf,hb⟩;go_wp2_with fail;exact Onward.mk (hK (.agg #[.int .i64 8, .int .i64 0, .slice sd 1 cd]) _ _ (fun h=>by cases h) (by first|rfl|(simp only [puts,h6])) (Spares.of_below hb) (fun iv' _ hi=>⟨sd,cd,rfl,by rw [hi]; exact Freshs.stretch (hf)⟩))
    ·
     have h5:=(dN hd 5).trans hx5.out;obtain ⟨sd,cd,h7,f7⟩:=dN hd 7;go_wp2_with fail;refine (a2Pair_i (k:=7) (x:=e) (y:= .mk 8 0 [fe]) r1 f7.rd (by omega) (by rw [size_starE rfl]; omega)).mono ?_;rintro e w2 ⟨se,ce,rfl,hf,hb⟩;go_wp2_with fail;exact Onward.mk (hK (.agg #[.int .i64 7, .int .i64 0, .slice se 2 ce]) _ _ (fun h=>by cases h) (by first|rfl|(simp only [puts,h5,h7])) (Spares.of_below hb) (fun iv' _ hi=>⟨se,ce,rfl,by rw [hi]; exact Freshs.stretch (hf)⟩))
    ·
     have h0:=(dN hd 0).trans hx0.out;obtain ⟨sb,cb,h4,f4⟩:=dN hd 4;obtain ⟨se,ce,h8,f8⟩:=dN hd 8;go_wp2_with fail;refine (never_no (e:= .mk 7 0 [.mk 8 0 [ef],e]) (f:= .mk 7 0 [e, .mk 8 0 [fe]]) (by rw [HEF.out,HFE.out]; exact kl_slide t a e f) f4.rd f8.rd (by rw [size_pairE rfl,size_starE rfl]; omega) (by rw [size_pairE rfl,size_starE rfl]; omega)).mono ?_;rintro e w2 ⟨rfl,hb⟩;go_wp2_with fail;exact Onward.mk (hK (.bool false) _ _ (fun h=>by cases h) (by first|rfl|(simp only [puts,h0,h4,h8])) (Spares.of_below hb) (fun iv' _ _=>rfl))
   case hQ=>
    intro iv vs wx hB hSp hd he hbd hsep;have hzB:=hB.size;have h0:=(dE hd 0).trans hx0.out;have h1:=(dE hd 1).trans hx1.out;obtain ⟨sa,ca,h2,f2⟩:=dE hd 2;have h3:=(dE hd 3).trans hx3.out;obtain ⟨sb,cb,h4,f4⟩:=dE hd 4;have h5:=(dE hd 5).trans hx5.out;have h6:=(dE hd 6).trans hx6.out;obtain ⟨sd,cd,h7,f7⟩:=dE hd 7;obtain ⟨se,ce,h8,f8⟩:=dE hd 8;have h9:vs 9= .bool false:=dE hd 9;simp only [putFrom,puts];simp only [h9];clear h0 h1 h2 h3 h4 h5 h6 h7 h8 h9 f2 f4 f7 f8 HM;have HFn:=Lib.hid (HF.out.on hB);have HBn:=Lib.hid (HB1.out.trans (hB.mono HB1.out.size));clear HF HB1;have HF:=HFn;have HB1:=HBn;clear HFn HBn;obtain ⟨wl,rfl⟩:∃u,u=wx:=⟨_,rfl⟩;clear hd he hbd hsep hB hSp hzB;have HM:=Lib.hid (Later.base (Below.refl wl.heap.size wl) (Nat.le_refl _));obtain ⟨⟨⟨⟨⟨⟨⟨⟨⟨-, -⟩, -⟩,g5⟩,g6⟩,g7⟩,g8⟩,g9⟩, -⟩,g10⟩:=HF.out.now;obtain ⟨a50,a51,l5⟩:=g5.all2;obtain ⟨a60,a61,a62, -, -, -, l6⟩:=g6.all3;obtain ⟨a70,a71,a72, -, -, -, l7⟩:=g7.all3;clear g5 g6 g7 g8 g9 g10;go_wp2_with fail;clear a50 a51 l5 a60 a61 a62 l6 a70 a71 a72 l7;refine (a2Pair_l (k:=6) (x:=e) (y:=f) HF.out.now.1.1.1.1.1.1.1.1.1 HF.out.now.1.1.1.1.1.1.1.1.2 (by omega) (by omega)).mono ?_;rintro z v3 ⟨pe,s7,c7,rfl,hpe,hrp,hb⟩;have HPE:=Lib.hid hpe
    have hpz:pe.size≤100:=by rw [size_pairE hpe]; omega
    have HPR:=Lib.hid hrp;replace HF:=Lib.hid (HF.out.on hb);replace HM:=Lib.hid (HM.out.on hb);replace HB1:=Lib.hid (HB1.out.trans (hb.mono HB1.out.size));clear hb hpe hrp;go_wp2_with fail;refine (a2Star_l (x:=pe) HPR.out (by omega)).mono ?_;rintro z v4 ⟨bo,s8,c8,rfl,hst,hrs,hb⟩;clear HPR;have HBO:=Lib.hid hst
    have hboz:bo.size≤200:=by rw [size_starE hst]; omega
    have HFn:=Lib.hid (HF.out.on hb);have HBn:=Lib.hid (HB1.out.trans (hb.mono HB1.out.size));have HMn:=Lib.hid (HM.out.on hb);have hrn:=Later.rd hrs;clear hb hrs hst HF HB1 HM;obtain ⟨wm,e7,B10,hb7,hz7⟩:=box3 v4 34 (.int .i64 bo.kind) (.int .i64 bo.num) (.slice s8 bo.kids.length c8);obtain ⟨b13,hbb⟩:∃b,v4.heap.size=b:=⟨_,rfl⟩;rw [hbb] at B10;have HF:=Lib.hid (HFn.out.on hb7);have HB1:=Lib.hid (HBn.out.trans (hb7.mono HBn.out.size));have HM:=Lib.hid (((HMn.out.on hb7).and (hrn.on hb7)).and (Later.blk B10));clear hb7 hz7 B10 HFn HBn HMn hrn;go_wp2_with fail;clear e7 hbb;obtain ⟨x0,hx0⟩:=mkval ?a1_0;obtain ⟨x1,hx1⟩:=mkval ?a1_1;obtain ⟨x2,hx2⟩:=mkval ?a1_2;obtain ⟨x3,hx3⟩:=mkval ?a1_3;obtain ⟨x4,hx4⟩:=mkval ?a1_4
    refine region_rs [] [] (fun _ _=>False) (wm.heap.size) (fun i iv vs wx=>match i with
     |0=>vs 0=x0
     |1=>vs 1=x1
     |2=>vs 2=x2
     |3=>vs 3=x3
     |4=>vs 4=x4
     |5=>∃sa ca,vs 5= .agg #[.int .i64 7, .int .i64 0, .slice sa 2 ca]∧FreshIn (iv 5) wx [kidsD [f,st]] [.slice sa 2 ca]
     |6=>∃sb cb,vs 6= .agg #[.int .i64 8, .int .i64 0, .slice sb 1 cb]∧FreshIn (iv 6) wx [kidsD [.mk 7 0 [f,st]]] [.slice sb 1 cb]
     |7=>∃sd cd,vs 7= .agg #[.int .i64 7, .int .i64 0, .slice sd 2 cd]∧FreshIn (iv 7) wx [kidsD [st, .mk 8 0 [.mk 7 0 [f,st]]]] [.slice sd 2 cd]
     |8=>vs 8= .bool false
     |9=>vs 9= .bool true
     |10=>vs 10= .bool true
     |_=>True) (fun i iv vs=>match i with
     |0=>vs 0=x0
     |1=>vs 1=x1
     |2=>vs 2=x2
     |3=>vs 3=x3
     |4=>vs 4=x4
     |5=>∃sa ca,vs 5= .agg #[.int .i64 7, .int .i64 0, .slice sa 2 ca]
     |6=>∃sb cb,vs 6= .agg #[.int .i64 8, .int .i64 0, .slice sb 1 cb]
     |7=>∃sd cd,vs 7= .agg #[.int .i64 7, .int .i64 0, .slice sd 2 cd]
     |8=>vs 8= .bool false
     |9=>vs 9= .bool true
     |10=>vs 10= .bool true
     |_=>True) (by kernel_rfl) (by kernel_rfl) [0,1,2,3,4,5,6,7,8,9,10] (by kernel_rfl) ?hbase ?hGb ?hG ?hJ ?hE ?hEE ?hstep ?hQ
    case hbase=>first|exact Nat.le_refl _|omega|(simp; omega)
    case hGb=>
     exact fun _ _ h=>h.elim
    case hG=>
     exact fun _ _ _ h=>h.elim
    case hJ=>
     intro i hi iv iv' vs vs' wx wx' ha hv hz hk hj;simp only [List.mem_cons,List.not_mem_nil,or_false] at hi
     rcases hi with rfl|rfl|rfl|rfl|rfl|rfl|rfl|rfl|rfl|rfl|rfl
     all_goals try exact (aG hv _).symm.trans hj
     ·
      have e5:=aG hv 5;have g5:=aG ha 5;obtain ⟨sa,ca,q1,q2⟩:=hj;exact ⟨sa,ca,e5 ▸ q1,g5 ▸ q2.keep (fun b hb h1 h2=>hk.out b hb (foot_own h1 h2))⟩
     ·
      have e6:=aG hv 6;have g6:=aG ha 6;obtain ⟨sb,cb,q1,q2⟩:=hj;exact ⟨sb,cb,e6 ▸ q1,g6 ▸ q2.keep (fun b hb h1 h2=>hk.out b hb (foot_own h1 h2))⟩
     ·
      have e7:=aG hv 7;have g7:=aG ha 7;obtain ⟨sd,cd,q1,q2⟩:=hj;exact ⟨sd,cd,e7 ▸ q1,g7 ▸ q2.keep (fun b hb h1 h2=>hk.out b hb (foot_own h1 h2))⟩
    case hE=>
     intro i hi iv vs wx hj;simp only [List.mem_cons,List.not_mem_nil,or_false] at hi
     rcases hi with rfl|rfl|rfl|rfl|rfl|rfl|rfl|rfl|rfl|rfl|rfl
     all_goals try exact hj
     ·
      obtain ⟨sa,ca,q1, -⟩:=hj;exact ⟨sa,ca,q1⟩
     ·
      obtain ⟨sb,cb,q1, -⟩:=hj;exact ⟨sb,cb,q1⟩
     ·
      obtain ⟨sd,cd,q1, -⟩:=hj;exact ⟨sd,cd,q1⟩
    case hEE=>
     intro i hi iv iv' vs vs' ha hv hj;simp only [List.mem_cons,List.not_mem_nil,or_false] at hi
     rcases hi with rfl|rfl|rfl|rfl|rfl|rfl|rfl|rfl|rfl|rfl|rfl
     all_goals try exact (aG hv _).symm.trans hj
     ·
      have e5:=aG hv 5;have hj':∃sa ca,vs 5= .agg #[.int .i64 7, .int .i64 0, .slice sa 2 ca]:=hj
      show ∃sa ca,vs' 5= .agg #[.int .i64 7, .int .i64 0, .slice sa 2 ca]
      rw [←e5];exact hj'
     ·
      have e6:=aG hv 6;have hj':∃sb cb,vs 6= .agg #[.int .i64 8, .int .i64 0, .slice sb 1 cb]:=hj
      show ∃sb cb,vs' 6= .agg #[.int .i64 8, .int .i64 0, .slice sb 1 cb]
      rw [←e6];exact hj'
     ·
      have e7:=aG hv 7;have hj':∃sd cd,vs 7= .agg #[.int .i64 7, .int .i64 0, .slice sd 2 cd]:=hj
      show ∃sd cd,vs' 7= .agg #[.int .i64 7, .int .i64 0, .slice sd 2 cd]
      rw [←e7];exact hj'
    case hstep=>
     intro i hi opr ho iv vs w1 hB hS hSo hd he hbd hsep hun K hK;simp only [List.mem_cons,List.not_mem_nil,or_false] at hi;have hzB:=hB.size;obtain ⟨⟨⟨⟨⟨⟨⟨⟨⟨r1,r2⟩,r3⟩,g5⟩,g6⟩,g7⟩,g8⟩,g9⟩,rs⟩,g10⟩:=HF.out.ok w1 hB;obtain ⟨a50,a51,l5⟩:=g5.all2;obtain ⟨a60,a61,a62, -, -, -, l6⟩:=g6.all3;obtain ⟨a70,a71,a72, -, -, -, l7⟩:=g7.all3;obtain ⟨a80,a81,a82, -, -, -, l8⟩:=g8.all3;obtain ⟨a90,a91,a92, -, -, -, l9⟩:=g9.all3;obtain ⟨aa0,aa1,aa2, -, -, -, la⟩:=g10.all3;clear g5 g6 g7 g8 g9 g10;obtain ⟨⟨-, rm1⟩,m1⟩:=HM.out.ok w1 hB;obtain ⟨m10,m11,m12, -, -, -, lm1⟩:=m1.all3;clear m1;generalize hA:putFrom _ 0 vs _=A at hK ⊢;simp only [putFrom,puts] at hA
     rcases hi with rfl|rfl|rfl|rfl|rfl|rfl|rfl|rfl|rfl|rfl|rfl
     all_goals
      simp at ho;subst ho;subst hA
     ·
      go_wp2_with fail;refine Onward.mk (hK ?val1_0 _ _ (fun h=>by cases h) ?eqA (Spares.refl _) (fun iv' _ _=> ?ja))
      case eqA=>first|rfl|(simp only [puts]; rfl)
      case ja=>exact hx0.out.symm
     ·
      go_wp2_with fail;refine Onward.mk (hK ?val1_1 _ _ (fun h=>by cases h) ?eqA (Spares.refl _) (fun iv' _ _=> ?ja))
      case eqA=>first|rfl|(simp only [puts]; rfl)
      case ja=>exact hx1.out.symm
     ·
      go_wp2_with fail;refine Onward.mk (hK ?val1_2 _ _ (fun h=>by cases h) ?eqA (Spares.refl _) (fun iv' _ _=> ?ja))
      case eqA=>first|rfl|(simp only [puts]; rfl)
      case ja=>exact hx2.out.symm
     ·
      go_wp2_with fail;refine Onward.mk (hK ?val1_3 _ _ (fun h=>by cases h) ?eqA (Spares.refl _) (fun iv' _ _=> ?ja))
      case eqA=>first|rfl|(simp only [puts]; rfl)
      case ja=>exact hx3.out.symm
     ·
      go_wp2_with fail;refine Onward.mk (hK ?val1_4 _ _ (fun h=>by cases h) ?eqA (Spares.refl _) (fun iv' _ _=> ?ja))
      case eqA=>first|rfl|(simp only [puts]; rfl)
      case ja=>exact hx4.out.symm
     ·
      have h3:=(dN hd 3).trans hx3.out;have h4:=(dN hd 4).trans hx4.out;go_wp2_with fail;refine (a2Pair_i (k:=7) (x:=f) (y:=st) r2 rs (by omega) (by omega)).mono ?_;rintro e w2 ⟨sa,ca,rfl,hf,hb⟩;go_wp2_with fail;exact Onward.mk (hK (.agg #[.int .i64 7, .int .i64 0, .slice sa 2 ca]) _ _ (fun h=>by cases h) (by first|rfl|(simp only [puts,h3,h4])) (Spares.of_below hb) (fun iv' _ hi=>⟨sa,ca,rfl,by rw [hi]; exact Freshs.stretch (hf)⟩))
     ·
      obtain ⟨sa,ca,h5,f5⟩:=dN hd 5;go_wp2_with fail;refine (a2Star_i (x:= .mk 7 0 [f,st]) f5.rd (by rw [size_pairE rfl]; omega)).mono ?_;rintro e w2 ⟨sb,cb,rfl,hf,hb⟩;go_wp2_with fail;exact Onward.mk (hK (.agg #[.int .i64 8, .int .i64 0, .slice sb 1 cb]) _ _ (fun h=>by cases h) (by first|rfl|(simp only [puts,h5])) (Spares.of_below hb) (fun iv' _ hi=>⟨sb,cb,rfl,by rw [hi]; exact Freshs.stretch (hf)⟩))
     ·
      have h2:=(dN hd 2).trans hx2.out;obtain ⟨sb,cb,h6,f6⟩:=dN hd 6;go_wp2_with fail;refine (a2Pair_i (k:=7) (x:=st) (y:= .mk 8 0 [.mk 7 0 [f,st]]) rs f6.rd (by omega) (by rw [size_starE rfl,size_pairE rfl]; omega)).mono ?_;rintro e w2 ⟨sd,cd,rfl,hf,hb⟩;go_wp2_with fail;exact Onward.mk (hK (.agg #[.int .i64 7, .int .i64 0, .slice sd 2 cd]) _ _ (fun h=>by cases h) (by first|rfl|(simp only [puts,h2,h6])) (Spares.of_below hb) (fun iv' _ hi=>⟨sd,cd,rfl,by rw [hi]; exact Freshs.stretch (hf)⟩))
     ·
      have h0:=(dN hd 0).trans hx0.out;have h1:=(dN hd 1).trans hx1.out;obtain ⟨sd,cd,h7,f7⟩:=dN hd 7;go_wp2_with fail;refine (never_no (e:=bo) (f:= .mk 7 0 [st, .mk 8 0 [.mk 7 0 [f,st]]]) (by rw [HBO.out,HPE.out,HST.out]; exact kl_denest t a e f) rm1 f7.rd (by omega) (by rw [size_pairE rfl,size_starE rfl,size_pairE rfl]; omega)).mono ?_;rintro e w2 ⟨rfl,hb⟩;go_wp2_with fail;exact Onward.mk (hK (.bool false) _ _ (fun h=>by cases h) (by first|rfl|(simp only [puts,h0,h1,h7])) (Spares.of_below hb) (fun iv' _ _=>rfl))
     ·
      have h8:vs 8= .bool false:=dN hd 8;go_wp2_with fail;exact Onward.mk (hK (.bool true) _ _ (fun h=>by cases h) (by first|rfl|(simp only [puts,h8])) (Spares.refl _) (fun iv' _ _=>rfl))
     ·
      have h9:vs 9= .bool true:=dN hd 9;go_wp2_with fail;exact Onward.mk (hK (.bool true) _ _ (fun h=>by cases h) (by first|rfl|(simp only [puts,h9])) (Spares.refl _) (fun iv' _ _=>rfl))
    case hQ=>
     intro iv vs wx hB hSp hd he hbd hsep;have hzB:=hB.size;have h0:=(dE hd 0).trans hx0.out;have h1:=(dE hd 1).trans hx1.out;have h2:=(dE hd 2).trans hx2.out;have h3:=(dE hd 3).trans hx3.out;have h4:=(dE hd 4).trans hx4.out;obtain ⟨sa,ca,h5,f5⟩:=dE hd 5;obtain ⟨sb,cb,h6,f6⟩:=dE hd 6;obtain ⟨sd,cd,h7,f7⟩:=dE hd 7;have h8:vs 8= .bool false:=dE hd 8;have h9:vs 9= .bool true:=dE hd 9;have h10:vs 10= .bool true:=dE hd 10;simp only [putFrom,puts];simp only [h10];have hBf:=HB1.out.trans (hB.mono HB1.out.size);clear h0 h1 h2 h3 h4 h5 h6 h7 h8 f5 f6 f7 HM HF hd he hbd hsep hB hSp hzB;go_wp2_with fail;go_ret;exact ⟨rfl,hBf⟩
set_option maxRecDepth 100000 in
theorem law_Kleene_of {H:Type} {enc:TypeId × Value→H} (W:World) (args:Array Value) (ds:List (DataW H)) (ps:List MemPlace) (hA:DataW.TrodAll enc Tryz.prog W 0 (fun _=>true) true Tryz.f12.params.toList args.toList ds ps)
  (hval:∀(j:Nat) t v,Tryz.f12.params[j]? =some t→args[j]? =some v→∃base,Value.okWide Tryz.prog W .any base t v):
  Calls Tryz.prog 12 args W fun e W'=>e= .returned (.bool true)∧Below W.heap.size W W':=by
 rw [Tryz.params12] at hA hval;obtain ⟨v0,vs0,d0',ds0,p0,q0,hargs,rfl,rfl,h0,ra0⟩:=trodAll_cons hA;obtain ⟨v1,vs1,d1',ds1,p1,q1,rfl,rfl,rfl,h1,ra1⟩:=trodAll_cons ra0;obtain ⟨rfl,rfl,rfl⟩:=trodAll_nil ra1;obtain rfl:args= #[v0,v1]:=Array.toList_inj.1 hargs;obtain ⟨b0,hv0⟩:=hval 0 68 v0 rfl rfl;obtain ⟨b1,hv1⟩:=hval 1 68 v1 rfl rfl;obtain ⟨xs,s,c,rfl,hr,hx⟩:=open_byteS hv0 h0;obtain ⟨ys,s',c',rfl,hr',hx'⟩:=open_byteS hv1 h1;exact law_Kleene hr hx hr' hx'
end Go.Proofs.YtfopdcdbelaapaaGreatDoor
