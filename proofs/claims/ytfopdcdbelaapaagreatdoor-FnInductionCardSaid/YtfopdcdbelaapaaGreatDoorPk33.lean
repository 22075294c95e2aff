/-
  Parts of a proof, joined: AtI, Bytes, LangA, Kleene, LwA. No condition.
-/
import Derived.Test.YtfopdcdbelaapaaGreatDoorPk31
namespace Go.Proofs.YtfopdcdbelaapaaGreatDoor
set_option linter.unusedVariables false
set_option linter.unusedSimpArgs false
open Go.ChangeShapes Go.WideShapes Go.ChangeAt Go.RowKit Go.Deep
set_option maxRecDepth 100000 in
set_option maxHeartbeats 8000000 in
theorem implAtMost_i {t a k n k' n':Int} {ks ks':List Ex} {s s':Option Addr} {c c':Nat} {w:World} (hr:Rd w (kidsD ks) (.slice s ks.length c)) (hr':Rd w (kidsD ks') (.slice s' ks'.length c')) (h1:Ex.sizeL ks≤1048576) (h2:Ex.sizeL ks'≤1048576):
  Calls Tryz.prog 63 #[.agg #[.int .i64 t, .int .i64 a], .agg #[.int .i64 k, .int .i64 n, .slice s ks.length c], .agg #[.int .i64 k', .int .i64 n', .slice s' ks'.length c']] w fun e w'=>e= .returned (.tuple #[.bool (atR t a (.mk k n ks) (.mk k' n' ks')), .int .i64 (bothC t a (.mk k n ks) (.mk k' n' ks'))])∧Below w.heap.size w w':=by
 have Hsz:Hid (Ex.size (.mk k n ks)≤1073741824):=by show _≤_; rw [Ex.size_eq]; simp only [Ex.kids]; omega
 have Hsz':Hid (Ex.size (.mk k' n' ks')≤1073741824):=by show _≤_; rw [Ex.size_eq]; simp only [Ex.kids]; omega
 obtain ⟨e,he⟩:∃e,Ex.mk k n ks=e:=⟨_,rfl⟩;obtain ⟨f,hf⟩:∃f,Ex.mk k' n' ks'=f:=⟨_,rfl⟩;rw [he] at Hsz ⊢;rw [hf] at Hsz' ⊢;have He:=Lib.hid he;have Hf:=Lib.hid hf;clear he hf h1 h2
 cases hcb:(bothC t a e f !=0)
 rotate_left
 ·
  have HE:Hid (atR t a e f=false):=by show _=_; unfold atR; rw [if_neg (by simpa using hcb)]
  go_enter Tryz.func63,Tryz.ntmps63
  go_wp2_with fail;obtain ⟨w1,e1,G,hb1,hz1⟩:=box2 w 37 (.int .i64 t) (.int .i64 a);rw [e1];obtain ⟨w2,e2,X,hb2,hz2⟩:=box3 w1 34 (.int .i64 k) (.int .i64 n) (.slice s ks.length c);rw [e2];obtain ⟨w0,e0,Y,hb3,hz3⟩:=box3 w2 34 (.int .i64 k') (.int .i64 n') (.slice s' ks'.length c');rw [e0];have hB:Below w.heap.size w w0:=(hb1.trans (hb2.mono (by omega))).trans (hb3.mono (by omega));rw [hz1] at X;rw [show w2.heap.size=w.heap.size+1+1 by omega] at Y;replace X:=X.below hb3;replace G:=(G.below hb2).below hb3;clear e1 e2 e0 hb1 hb2 hb3 hz1 hz2 hz3;refine (bothAutomata_i (e:= .mk k n ks) (f:= .mk k' n' ks') (hr.below hB) (hr'.below hB)).mono ?_;intro g w3 hpost;rw [He.out,Hf.out] at hpost;obtain ⟨v1,v2,rfl,⟨t1,a1,s1,u1,l1,c1,m1,d1,rfl⟩,⟨t2,a2,s2,u2,l2,c2,m2,d2,rfl⟩,hb, -⟩:=hpost;replace hB:=Below.on hB hb hB.size;have hzB:=hB.size;clear hb;go_wp2_with fail;go_ret2;exact ⟨ret_bi HE.out.symm rfl,by (repeat' first|exact Below.refl _ _|assumption|apply Below.alloc|apply Below.drew|apply Below.setCell|omega|(simp; done)|(simp; omega))⟩
 ·
  skip
  have hc:bothC t a e f=0:=by simpa using hcb
  obtain ⟨hce,hcf⟩:=both_ok hc;obtain ⟨-, -, -, hoke⟩:=au_ok hce;obtain ⟨-, -, -, hokf⟩:=au_ok hcf;have Hoke:=Lib.hid hoke;have Hokf:=Lib.hid hokf;have Hc:=Lib.hid hc;clear hcb hc hce hcf hoke hokf
  have HE:Hid (atR t a e f=atB t a e f):=by show _=_; unfold atR; rw [if_pos Hc.out]
  have hmany:=prL_many Hoke.out Hokf.out 3721;have hall:=fun p hp=>prL_ok Hoke.out Hokf.out 3721 p hp;obtain ⟨ht0,ht3,ha0,ha4⟩:=sigB_bd Hoke.out.sig;obtain ⟨hat1,hat8⟩:=atomsN_bd t;obtain ⟨A,hA⟩:∃A:Nat,atomsN t=(A:Int):=⟨(atomsN t).toNat,by omega⟩
  have hA':(atomsN t).toNat=A:=by omega
  go_enter Tryz.func63,Tryz.ntmps63
  go_wp2_with fail;obtain ⟨w1,e1,G,hb1,hz1⟩:=box2 w 37 (.int .i64 t) (.int .i64 a);rw [e1];obtain ⟨w2,e2,X,hb2,hz2⟩:=box3 w1 34 (.int .i64 k) (.int .i64 n) (.slice s ks.length c);rw [e2];obtain ⟨w0,e0,Y,hb3,hz3⟩:=box3 w2 34 (.int .i64 k') (.int .i64 n') (.slice s' ks'.length c');rw [e0];have hB:Below w.heap.size w w0:=(hb1.trans (hb2.mono (by omega))).trans (hb3.mono (by omega));rw [hz1] at X;rw [show w2.heap.size=w.heap.size+1+1 by omega] at Y;replace X:=X.below hb3;replace G:=(G.below hb2).below hb3;clear e1 e2 e0 hb1 hb2 hb3 hz1 hz2 hz3;refine (bothAutomata_i (e:= .mk k n ks) (f:= .mk k' n' ks') (hr.below hB) (hr'.below hB)).mono ?_;intro g w3 hpost;rw [He.out,Hf.out] at hpost;obtain ⟨v1,v2,rfl, -, -, hb,hgot⟩:=hpost;obtain ⟨s1,c1,u1,d1,s2,c2,u2,d2,rfl,rfl,hd1,hd2⟩:=hgot Hc.out;rw [Hc.out];replace hB:=Below.on hB hb hB.size;replace G:=G.below hb;clear hb hgot X Y;go_wp2_with fail;obtain ⟨w4,e4,A1,hb4,hz4⟩:=box4 w3 107 (.int .i64 t) (.int .i64 a) (.slice s1 (auA t a e).length c1) (.slice u1 (auX t a e).length d1);rw [e4];obtain ⟨w5,e5,A2,hb5,hz5⟩:=box4 w4 107 (.int .i64 t) (.int .i64 a) (.slice s2 (auA t a f).length c2) (.slice u2 (auX t a f).length d2);rw [e5];replace hB:=(hB.trans (hb4.mono hB.size)).trans (hb5.mono (by have:=hB.size; omega));rw [hz4] at A2;replace A1:=A1.below hb5;replace G:=(G.below hb4).below hb5;have Hd1:=Lib.hid ((hd1.below hb4).below hb5);have Hd2:=Lib.hid ((hd2.below hb4).below hb5);clear e4 e5 hb4 hb5 hd1 hd2 hz5;refine (reach_i Hd1.out Hd2.out Hoke.out Hokf.out).mono ?_;rintro g w6 ⟨R,sa,ca,rfl,hrd,hRm, -, hb6⟩;have hF:atB t a e f=(prF (auX t a e) (auX t a f) (atomsN t).toNat a.toNat).all (inAtB (auA t a e) (auA t a f) (atomsN t).toNat):=rfl;have hall':∀p∈prF (auX t a e) (auX t a f) (atomsN t).toNat a.toNat,PairOk (auA t a e).length (auA t a f).length p:=hall;have hmany':(prF (auX t a e) (auX t a f) (atomsN t).toNat a.toNat).length≤3721:=hmany;rw [←hRm,hA'] at hF;rw [←hRm] at hall' hmany';rw [List.length_map] at hmany';have HF:=Lib.hid hF;have HA:=Lib.hid hA;have Hall:=Lib.hid hall';have Hrd:=Lib.hid hrd;have HB6:=Lib.hid (hB.trans (hb6.mono hB.size));replace G:=G.below hb6;replace A1:=A1.below hb6;replace A2:=A2.below hb6;have HG:=Lib.hid G;have HA1:=Lib.hid A1;have HA2:=Lib.hid A2;have Hd1':=Lib.hid (Hd1.out.below hb6);have Hd2':=Lib.hid (Hd2.out.below hb6);have hz6:=HB6.out.size;have Hc2:=Lib.hid Hc.out;obtain ⟨ga,gb,hga,hgb⟩:∃ga gb,ga=w3.heap.size∧gb=w3.heap.size+1:=⟨_,_,rfl,rfl⟩;clear hF hA hA' hall hall' hmany hRm hrd hb6 G A1 A2 hB Hd1 Hd2 hat1 hga hgb ga gb;go_wp2_with fail
  go_loopw [29] (fun i wr=>∃k:Nat,i= .int .i64 k∧k≤R.length∧Hid (WithinTo (auA t a e) (auA t a f) A (R.map Rch.p) k)∧Below w6.heap.size w6 wr) (fun i _=>R.length - (intOf i).toNat)
  case atStart=>exact ⟨0,rfl,by omega,fun i p hi=>by omega,Below.refl _ _⟩
  case round=>
   obtain ⟨i,rfl,hi,HW,hbe⟩:=hrel;obtain ⟨wo,rfl⟩:∃v,v=wr:=⟨_,rfl⟩;have hi0:=Int.natCast_nonneg i;have hzo:=hbe.size;have HBe:=Lib.hid hbe
   by_cases hlt:i<R.length
   rotate_left
   ·
    obtain rfl:i=R.length:=by omega
    have HR:Hid (atR t a e f=true):=by show _=_; rw [HE.out,HF.out]; exact all_yes fun j p hj hp=>HW.out j p (by rw [List.length_map] at hj; exact hj) hp
    clear hbe;go_wp2_with fail;go_ret2;exact ⟨ret_bi HR.out.symm Hc2.out.symm,HB6.out.trans (HBe.out.mono hz6)⟩
   obtain ⟨r,hr0⟩:∃r,R[i]? =some r:=⟨_,List.getElem?_eq_getElem hlt⟩;obtain ⟨x,hxe⟩:∃x,r.p=x:=⟨_,rfl⟩
   have hx:(R.map Rch.p)[i]? =some x:=by rw [List.getElem?_map,hr0,←hxe]; rfl
   have hxok:=Hall.out x (List.mem_of_getElem? hx);have Hx:=Lib.hid hx;have hrd:=Hrd.out.below hbe
   obtain ⟨b0,o0,rfl⟩:∃b0 o0,sa=some ⟨b0,o0,none⟩:=by
    obtain ⟨_,_,_,_,_,h4⟩:=hrd.sl_at
    rcases h4 with h4|⟨b,o,e,_⟩
    ·
     omega
    ·
     exact ⟨b,o,e⟩
   obtain ⟨-, k2,k3, -⟩:=hrd.sl_at;unfold maxLen at k3;obtain ⟨hbl,y0,y1,y2,y3,y4⟩:=rch_in hrd hr0;rw [hxe] at y0 y1
   have hil:(i:Int)<(R.length:Int):=by omega
   obtain ⟨g0,g1,ltG⟩:=(HG.out.below hbe).all2;clear hr0 hxe hx hrd hbe;go_wp2_with fail;clear y0 y1 y2 y3 y4 g0 g1 ltG;obtain ⟨w7,e7,N,hb7,hz7⟩:=box5 wo 161 (.int .i64 x.1) (.int .i64 x.2) (.int .i64 r.f) (.int .i64 r.m) (.int .i64 r.k);rw [e7];have HBe7:=Lib.hid (HBe.out.trans (hb7.mono hzo));have HN:=Lib.hid N;obtain ⟨nb,hnb⟩:∃nb,wo.heap.size=nb:=⟨_,rfl⟩;rw [hnb] at HN ⊢
   have hz7':w6.heap.size≤w7.heap.size:=by omega
   clear e7 hb7 N hnb;refine (atomsIn_i ht0 ht3).mono ?_;rintro g w8 ⟨rfl,hb8⟩;rw [HA.out];have HBe8:=Lib.hid (HBe7.out.trans (hb8.mono hz7'));have HN8:=Lib.hid (HN.out.below hb8);clear hb8;go_wp2_with fail
   go_loopw [35] (fun j wr=>∃m:Nat,j= .int .i64 m∧m≤A∧Hid (InTo (auA t a e) (auA t a f) x m)∧Below w8.heap.size w8 wr) (fun j _=>A - (intOf j).toNat)
   case atStart=>exact ⟨0,rfl,by omega,fun m hm=>by omega,Below.refl _ _⟩
   case round=>
    obtain ⟨m,rfl,hmA,HI,hbe⟩:=hrel;obtain ⟨wm,rfl⟩:∃v,v=wr:=⟨_,rfl⟩;have hm0:=Int.natCast_nonneg m;have hz8:=HBe8.out.size;have hbe8:=HBe8.out.trans (hbe.mono hz8);have HBe9:=Lib.hid hbe8
    by_cases hmlt:m<A
    rotate_left
    ·
     obtain rfl:A=m:=by omega
     have HW2:=Lib.hid (HW.out.succ Hx.out (inAt_yes HI.out));clear hbe hbe8;go_wp2_with fail
     go_roundw
     case rel=>exact ⟨i+1,by go_num,by omega,HW2.out,HBe9.out⟩
     case measure=>simp [intOf]; omega
    have hm1:(m:Int)<(A:Int):=by omega
    have hmat:(m:Int)<atomsN t:=by rw [HA.out]; exact hm1
    obtain ⟨x0,x1,x2,x3, -, -, -, -, ltX⟩:=(HA1.out.below hbe8).all4;have N9:=HN8.out.below hbe;have n0:=N9.c0;have n1:=N9.c1;have ltN:=N9.lt;have hz9:=hbe.size;have HBm:=Lib.hid hbe;have HD1:=Lib.hid (Hd1'.out.below hbe8);clear hbe hbe8 N9;go_wp2_with fail;refine (accepts_i (Rds.two HD1.out).1 (Rds.two HD1.out).2 Hoke.out hxok.2.1 hmat).mono ?_;rintro g w9 ⟨rfl,hb9⟩;have HBe10:=Lib.hid (HBe9.out.trans (hb9.mono (by omega)));have HBm10:=Lib.hid (HBm.out.trans (hb9.mono hz9));clear x0 x1 x2 x3 ltX n0 n1 ltN hb9
    cases h1:hasN (auA t a e) x.1 m
    ·
     have HI2:=Lib.hid (HI.out.succ (by rw [h1]; rfl));clear h1;go_wp2_with fail
     go_roundw
     case rel=>exact ⟨m+1,by go_num,by omega,HI2.out,HBm10.out⟩
     case measure=>simp [intOf]; omega
    ·
     have H1:=Lib.hid h1;obtain ⟨x0,x1,x2,x3, -, -, -, -, ltX⟩:=(HA2.out.below HBe10.out).all4;have N10:=HN8.out.below HBm10.out;have n0:=N10.c0;have n1:=N10.c1;have ltN:=N10.lt;have HD2:=Lib.hid (Hd2'.out.below HBe10.out);clear h1 N10;go_wp2_with fail;refine (accepts_i (Rds.two HD2.out).1 (Rds.two HD2.out).2 Hokf.out hxok.2.2.2 hmat).mono ?_;rintro g w10 ⟨rfl,hb10⟩;have HBe11:=Lib.hid (HBe10.out.trans (hb10.mono (by have:=HBe10.out.size; omega)));have HBm11:=Lib.hid (HBm10.out.trans (hb10.mono HBm10.out.size));clear x0 x1 x2 x3 ltX n0 n1 ltN hb10
     cases h2:hasN (auA t a f) x.2 m
     ·
      have HR:Hid (atR t a e f=false):=by show _=_; rw [HE.out,HF.out]; exact all_no (List.mem_of_getElem? Hx.out) (inAt_no hmlt H1.out h2)
      clear h2;go_wp2_with fail;go_ret2;exact ⟨ret_bi HR.out.symm Hc2.out.symm,HB6.out.trans (HBe11.out.mono hz6)⟩
     ·
      have HI2:=Lib.hid (HI.out.succ (by rw [H1.out,h2]; rfl));clear h2;go_wp2_with fail
      go_roundw
      case rel=>exact ⟨m+1,by go_num,by omega,HI2.out,HBm11.out⟩
      case measure=>simp [intOf]; omega
end Go.Proofs.YtfopdcdbelaapaaGreatDoor
namespace Go.Proofs.YtfopdcdbelaapaaGreatDoor
set_option linter.unusedVariables false
set_option linter.unusedSimpArgs false
open Go.ChangeShapes Go.WideShapes Go.ChangeAt Go.RowKit Go.Deep Go.Sort
section
variable {H:Type} {enc:TypeId × Value→H} {P:Program} {w:World} {base:Nat} {sp:Nat→Bool} {hd:Bool}
end
def atF (xs:List Int) (i n:Int):Int:=if (xs.length:Int)≤i∨n<1 then 0 else (xs.getD i.toNat 0) % n
theorem a2At_i {xs:List Int} {s:Option Addr} {c:Nat} {i n:Int} {w:World} (hr:Rd w (bytesD xs) (.slice s xs.length c)) (hx:∀x∈xs,0≤x∧x≤255) (h0:0≤i) (h1:i≤1000) (h2:1≤n) (h3:n≤1000):
  Calls Tryz.prog 46 #[.slice s xs.length c, .int .i64 i, .int .i64 n] w fun f w'=>f= .returned (.int .i64 (atF xs i n))∧w=w':=by
 obtain ⟨-, hl,hc, -⟩:=hr.sl_at;unfold maxLen at hc
 by_cases hlt:i<xs.length
 ·
  obtain ⟨k,rfl⟩:=Int.eq_ofNat_of_zero_le h0;obtain ⟨x,hxp⟩:∃x,xs[k]? =some x:=⟨_,List.getElem?_eq_getElem (by omega)⟩;obtain ⟨hx0,hx1⟩:=hx x (List.mem_of_getElem? hxp);obtain ⟨sb,so,rfl⟩:=byte_some hr (by omega);obtain ⟨ltS,g0⟩:=byte_in hr hxp
  have e:Hid (atF xs k n=x % n):=by
   show _=_
   unfold atF;rw [if_neg (by omega),Int.toNat_natCast,List.getD_eq_getElem?_getD,hxp]
   rfl
  have hm:0≤x % n∧x % n<n:=⟨Int.emod_nonneg _ (by omega),Int.emod_lt_of_pos _ (by omega)⟩
  have hb:((xs.length:Int)≤(k:Int))=False:=by simp; omega
  have Hr:=Lib.hid hr;clear hxp hx hr
  go_enter Tryz.func46,Tryz.ntmps46
  go_wp2_with fail;go_ret;exact ⟨ret_int e.out.symm,rfl⟩
 ·
  have e:Hid (atF xs i n=0):=by
   show _=_
   unfold atF;rw [if_pos (by omega)]
  clear hx hr
  go_enter Tryz.func46,Tryz.ntmps46
  go_wp2_with fail;go_ret;exact ⟨ret_int e.out.symm,rfl⟩
end Go.Proofs.YtfopdcdbelaapaaGreatDoor
namespace Go.Proofs.YtfopdcdbelaapaaGreatDoor
set_option linter.unusedVariables false
set_option linter.unusedSimpArgs false
section
variable {α:Type} [DecidableEq α]
end
section
variable {t a:Int} {ac bc:List (List Bool)} {nx ny:List (List (List Int))}
end
theorem atR_iff {t a:Int} {e f:Ex} (hc:bothC t a e f=0):atR t a e f=true↔∀ws m,okW (atomsN t).toNat a.toNat ws m→e.lng ws m→f.lng ws m:=by
 unfold atR;rw [if_pos hc,atB_iff hc]
theorem star_closed (J K M:Lng) {ws:List (Nat × Nat)} {m:Nat}:sumG K (dotG J (dotG (StarG J) (sumG K M))) ws m→dotG (StarG J) (sumG K M) ws m:=by
 rintro (h|⟨u,v,rfl,hu,p,q,rfl,hp,hq⟩)
 ·
  exact ⟨[],ws,rfl,StarG.nil _,Or.inl h⟩
 ·
  refine ⟨u++p,q,by simp, ?_,hq⟩;rw [hdA_append] at hu;exact StarG.cons u p _ hu hp
theorem okW.append {A a:Nat} {u v:List (Nat × Nat)} {m:Nat}:okW A a (u++v) m↔okW A a u (hdA v m)∧okW A a v m:=by
 constructor
 ·
  rintro ⟨h1,h2⟩;have hv:okW A a v m:=⟨fun q hq=>h1 q (List.mem_append_right _ hq),h2⟩;refine ⟨⟨fun q hq=>h1 q (List.mem_append_left _ hq), ?_⟩,hv⟩
  cases v with
  |nil=>exact h2
  |cons q v=>exact (hv.1 q (by simp)).1
 ·
  rintro ⟨h1,h2⟩;refine ⟨fun q hq=> ?_,h2.2⟩
  rcases List.mem_append.1 hq with hq|hq
  ·
   exact h1.1 q hq
  ·
   exact h2.1 q hq
theorem star_least_cut {A a:Nat} {J K L:Lng} (h:∀ws m,okW A a ws m→sumG K (dotG J L) ws m→L ws m) {ws:List (Nat × Nat)} {m:Nat} (ho:okW A a ws m):dotG (StarG J) K ws m→L ws m:=by
 rintro ⟨u,v,rfl,hu,hv⟩;generalize hx:hdA v m=x at hu
 induction hu with
 |nil=>exact h _ _ ho (Or.inl hv)
 |cons p q y hp hq ih=>
  subst hx;rw [List.append_assoc] at ho ⊢;exact h _ _ ho (Or.inr ⟨p,q++v,rfl,by rw [hdA_append]; exact hp,ih (okW.append.1 ho).2 rfl⟩)
theorem in_least {t a:Int} {e f x:Ex} (hc:bothC t a (f.sumE (e.dotE x)) x=0) (hc':bothC t a (e.starE.dotE f) x=0) (h:atR t a (f.sumE (e.dotE x)) x=true):atR t a (e.starE.dotE f) x=true:=
 (atR_iff hc').2 fun ws m ho=>by
  rw [lng_dotE,lng_starE];refine star_least_cut (fun ws m ho q=>(atR_iff hc).1 h ws m ho ?_) ho;rw [lng_sumE,lng_dotE];exact q
theorem in_closed {t a:Int} {e f h:Ex} (hc:bothC t a (f.sumE (e.dotE (e.starE.dotE (f.sumE h)))) (e.starE.dotE (f.sumE h))=0):atR t a (f.sumE (e.dotE (e.starE.dotE (f.sumE h)))) (e.starE.dotE (f.sumE h))=true:=
 (atR_iff hc).2 fun ws m _=>by
  rw [lng_sumE,lng_dotE,lng_dotE,lng_starE,lng_sumE];exact star_closed _ _ _
end Go.Proofs.YtfopdcdbelaapaaGreatDoor
namespace Go.Proofs.YtfopdcdbelaapaaGreatDoor
set_option linter.unusedVariables false
set_option linter.unusedSimpArgs false
open Go.ChangeShapes Go.WideShapes Go.ChangeAt Go.RowKit Go.Deep Go.Sort
theorem implAtMost_l {t a:Int} {e f:Ex} {s s':Option Addr} {c c':Nat} {w:World} (hr:Rd w (kidsD e.kids) (.slice s e.kids.length c)) (hr':Rd w (kidsD f.kids) (.slice s' f.kids.length c')) (h1:e.size≤1000) (h2:f.size≤1000):
  Calls Tryz.prog 63 #[.agg #[.int .i64 t, .int .i64 a], .agg #[.int .i64 e.kind, .int .i64 e.num, .slice s e.kids.length c], .agg #[.int .i64 f.kind, .int .i64 f.num, .slice s' f.kids.length c']] w fun z w'=>z= .returned (.tuple #[.bool (atR t a e f), .int .i64 (bothC t a e f)])∧Below w.heap.size w w':=by
 obtain ⟨k,n,ks⟩:=e;obtain ⟨k',n',ks'⟩:=f;rw [Ex.size_eq] at h1 h2;exact implAtMost_i hr hr' (by omega) (by omega)
end Go.Proofs.YtfopdcdbelaapaaGreatDoor
