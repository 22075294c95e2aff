/-
  Parts of a proof, joined: Two. No condition.
-/
import Derived.Test.YtlchgfbkdjjngaaGreatDoorPk14
import Derived.Test.YtlchgfbkdjjngaaGreatDoorPk22
set_option linter.unusedVariables false
set_option linter.unusedSimpArgs false
namespace Go.Proofs.YtlchgfbkdjjngaaGreatDoor
open Go.ChangeShapes Go.WideShapes Go.ChangeAt Go.RowKit Go.Deep Go.Sort
theorem Cg.below' {B B' b N:Nat} {w w':World} (h:Cg B' b N w w') (hB:B≤w.heap.size) (hb:B≤b):Below B w w':=h.2.below hB (fun i hi=>by omega)
set_option maxHeartbeats 4000000 in
theorem U9 {xs:List Int} {s:Option Addr} {c:Nat} {t a:Int} {w:World} (hr:Rd w (Eu xs) (.slice s xs.length c)) (hx:∀x∈xs,0≤x∧x≤255) (hs:Cj t a=true):
  Calls Tryz.prog 7 #[.slice s xs.length c,.agg #[.int .i64 t,.int .i64 a]] w fun z w'=>∃(e:Ex) (s':Option Addr) (c':Nat),z= .returned (.agg #[.int .i64 e.kind,.int .i64 e.num,.slice s' e.kids.length c'])∧Ag w w' [Ae e.kids] [.slice s' e.kids.length c']∧
   e.tree (t - 1) (a - 1)=true∧(e.size:Int)≤11∧Below w.heap.size w w':=by
 have HX:=hid hx;have Hs:=hid hs;clear hx hs
 go_enter Tryz.func7,Tryz.ntmps7
 go_wp2_with fail;obtain ⟨w1,e1,RA,hb1,hz1⟩:=Dl w 25 (.int .i64 t) (.int .i64 a);rw [e1];obtain ⟨w2,e2,RB,hb2,hz2⟩:=A7 w1 28 (.int .i64 0) (.int .i64 0) (.slice none 0 0);rw [e2];rw [hz1] at RB;replace RA:=RA.below hb2;have hB:=hb1.trans (hb2.mono (by omega));obtain ⟨B,hBv1,hBv2⟩:∃B,w.heap.size≤B∧B≤w.heap.size:=⟨_,Nat.le_refl _,Nat.le_refl _⟩;clear e1 e2 hb1 hb2;refine (Wm (B:=B) ((RdX.of_rd hr (fun b hb=>by omega)).below hB) HX.out (by omega)).mono ?_;rintro f w5 ⟨sb,rfl,hsB,S,hb⟩;have hsl:=S.lt;replace RA:=RA.below hb;replace RB:=RB.below hb;have HB5:=hid (Below.on hB hb hB.size);have hz5:=hb.size;have D:=S.drew;obtain ⟨a0,a1,al⟩:=RA.all2;clear hb hB hr;go_wp2_with fail;clear a0 a1;refine (Lb (n:=6) D.1 (by omega) (by omega) Hs.out (by omega) (by omega)).mono ?_;rintro f w9 ⟨e,s1,c1,rfl,hf,htr,hsz1,D1⟩;have hz9:=D1.size;replace RB:=D1.blk RB (by omega);have HB9:=hid (HB5.out.trans (D1.below' (B:=w.heap.size) (by omega) (by omega)));have ltB:=RB.lt;clear D1 D S RA;have z0:=RB.frozen 0;have z1:=RB.frozen 1;have z2:=RB.frozen 2;obtain ⟨k0,k1,k2, -, -, -, kl⟩:=RB.all3;go_wp2_with fail;have hset:Aa (fun i=>i=w.heap.size+1) w9 (((w9.setCell ⟨w.heap.size+1,0,none⟩ (.int .i64 e.kind)).setCell ⟨w.heap.size+1,1,none⟩ (.int .i64 e.num)).setCell ⟨w.heap.size+1,2,none⟩ (.slice s1 e.kids.length c1)):=Aa.set (Aa.set (Aa.set (Aa.refl _)));have R':=((RB.set 0 (.int .i64 e.kind)).set 1 (.int .i64 e.num)).set 2 (.slice s1 e.kids.length c1);have q0:=R'.c0;have q1:=R'.c1;have q2:=R'.c2;refine bodyPost_ret (v:= .agg #[.int .i64 e.kind,.int .i64 e.num,.slice s1 e.kids.length c1]) (by simp [results,Tryz.results7,go_sem,q0,q1,q2]) rfl ?_;exact ⟨e,s1,c1,rfl,(hf.keep fun b hb1 hb2=>hset.block b hb2 (by omega)).from (by omega),htr,by omega,HB9.out.trans (hset.below (by omega) (fun i hi=>by omega))⟩
theorem Ys {tm am:Int} {e:Ex} (hk:e.kind=8) (h:e.tree tm am=true):∃n k,e= .mk 8 n [k]:=by
 cases e with
 |mk k n ks=>
  simp only [Ex.kind] at hk;subst hk
  match ks,h with
  |[x],_=>exact ⟨n,x,rfl⟩
  |[],h=>simp [Ex.tree,Cb,Bi] at h
  |_::_::_,h=>simp [Ex.tree,Cb,Bi] at h; omega
theorem Ka {w w':World} {g o:Nat} (h:w'.heap[g]? =w.heap[g]?):w'.cell? ⟨g,o,none⟩=w.cell? ⟨g,o,none⟩:=by
 simp [World.cell?, h]
set_option maxHeartbeats 8000000 in
theorem Xf {B b N:Nat} {t a:Int} {e:Ex} {eb eo:Nat} {w:World} (h:Cw B b N w) (hN:N≤1000000) (hB:B≤w.heap.size) (hs:Cj t a=true) (hat:∀w',Ai (fun i=>i=b) w w'→Ap w' eb eo e) (htr:e.tree (t - 1) (a - 1)=true) (hsz:e.size≤40):
  Calls Tryz.prog 17 #[.pointer (some ⟨b,0,none⟩),.agg #[.int .i64 t,.int .i64 a],.pointer (some ⟨eb,eo,none⟩)] w fun f w'=>∃(x:Ex) (s:Option Addr) (c:Nat),f= .returned (.agg #[.int .i64 x.kind,.int .i64 x.num,.slice s x.kids.length c])∧
   RdX (fun i=>i<w.heap.size) w' (Ae x.kids) (.slice s x.kids.length c)∧x.size≤100∧Cg B b (N+6100) w w':=by
 have hbw:=h.lt;have hBw:=hid hB;have Hs:=hid hs;have Hat:=hid hat;clear hat hs
 go_enter Tryz.func17,Tryz.ntmps17
 go_wp2_with fail;obtain ⟨w1,e1,L,hb1,hz1⟩:=Dl w 25 (.int .i64 t) (.int .i64 a);rw [e1];obtain ⟨w2,e2,R,hb2,hz2⟩:=A7 w1 28 (.int .i64 0) (.int .i64 0) (.slice none 0 0);rw [e2];rw [hz1] at R;replace L:=L.below hb2;have D:=(h.drew.on hb1).on hb2;clear e1 e2 hb1 hb2 h;refine (Dt (Hat.out _ (Ai.of_spares D.spares (fun _ _ h=>h))) (by omega)).mono ?_;rintro f w3 ⟨s1,c1,rfl,hf,hb⟩;have hz3:=hb.size;replace L:=L.below hb;replace R:=R.below hb;replace D:=D.on hb;have HA:=hid (RdX.fresh hf (X:=fun i=>i<w.heap.size+1+1) (fun b h=>by omega));clear hb hf;obtain ⟨w4,e4,A,hb4,hz4⟩:=A7 w3 28 (.int .i64 e.kind) (.int .i64 e.num) (.slice s1 e.kids.length c1);replace L:=L.below hb4;replace R:=R.below hb4;replace D:=D.on hb4;replace HA:=hid (HA.out.below hb4);obtain ⟨l0,l1,ll⟩:=L.all2;go_wp2_with fail;clear e4 hb4 l0 l1;refine (Lb (n:=5) D.1 (by omega) (by omega) Hs.out (by omega) (by omega)).mono ?_;rintro f w5 ⟨x,s2,c2,rfl,hf, -, hsz2,D1⟩;have hz5:=D1.size;replace R:=D1.blk R (by omega);replace A:=D1.blk A (by omega);replace HA:=hid (HA.out.keep (Ai.of_spares D1.spares (fun b _ h=>by show _<_; omega)));have HX:=hid (RdX.fresh hf (X:=fun i=>i<w.heap.size+1+1) (fun b h=>by omega));replace D:=D.trans D1;clear hf D1 L ll;obtain ⟨w6,e6,Z,hb6,hz6⟩:=A7 w5 28 (.int .i64 x.kind) (.int .i64 x.num) (.slice s2 x.kids.length c2);replace R:=R.below hb6;replace A:=A.below hb6;replace D:=D.on hb6;replace HA:=hid (HA.out.below hb6);replace HX:=hid (HX.out.below hb6);go_wp2_with fail;clear e6 hb6;refine (D7 (n:=9) D.1 (by omega) (by omega)).mono ?_;rintro f w7 ⟨z,rfl,z0,z1,D1⟩;have hz7:=D1.size;replace R:=D1.blk R (by omega);replace A:=D1.blk A (by omega);replace Z:=D1.blk Z (by omega);replace HA:=hid (HA.out.keep (Ai.of_spares D1.spares (fun b _ h=>by show _<_; omega)));replace HX:=hid (HX.out.keep (Ai.of_spares D1.spares (fun b _ h=>by show _<_; omega)));replace D:=D.trans D1;clear D1;obtain ⟨a0,a1,a2, -, -, -, ltA⟩:=A.all3;obtain ⟨b0,b1,b2, -, -, -, ltZ⟩:=Z.all3
 have n1:w7.heap.size>w.heap.size+1+1:=by omega
 by_cases q0:z=0
 ·subst q0;go_wp2_with fail;refine (E3 (t - 1) (a - 1) (by have:=Db Hs.out; omega) (by have:=Db Hs.out; omega) _ e eb eo w7 (Nat.le_refl _) (Hat.out _ (Ai.of_spares D.spares (fun _ _ h=>h))) htr (by omega)).mono ?_;rintro f w8 ⟨s3,c3,rfl,hf,hb⟩;have hz8:=hb.size;have hle:=(Ce _ _ _ e (Nat.le_refl _) htr).2;replace R:=R.below hb;replace D:=D.on hb;have hr:=RdX.fresh hf (X:=fun i=>i<w.heap.size+1+1) (fun b h=>by omega);clear hb hf a0 a1 a2 b0 b1 b2
  -- the value is stored and returned; world W; HX:RdX X0 W ..; D:Cg B b M w W
  obtain ⟨r0,r1,r2,y0,y1,y2,ltR⟩:=R.all3;go_wp2_with fail;have hset:Aa (fun i=>i=w.heap.size+1) w8 (((w8.setCell ⟨w.heap.size+1,0,none⟩ (.int .i64 e.tidy.kind)).setCell ⟨w.heap.size+1,1,none⟩ (.int .i64 e.tidy.num)).setCell ⟨w.heap.size+1,2,none⟩ (.slice s3 e.tidy.kids.length c3)):=Aa.set (Aa.set (Aa.set (Aa.refl _)));have R':=((R.set 0 (.int .i64 e.tidy.kind)).set 1 (.int .i64 e.tidy.num)).set 2 (.slice s3 e.tidy.kids.length c3);have q0:=R'.c0;have q1:=R'.c1;have q2:=R'.c2;refine bodyPost_ret (v:= .agg #[.int .i64 e.tidy.kind,.int .i64 e.tidy.num,.slice s3 e.tidy.kids.length c3]) (by simp [results,Tryz.results17,go_sem,q0,q1,q2]) rfl ?_;exact ⟨e.tidy,s3,c3,rfl,(hr.keep (Ai.of_spares hset (fun b _ h=>by show _<_; omega))).less (fun b _ h=>by show _<_; omega),(by omega),(D.set hset (by omega) hB hbw).more (by omega)⟩
 have p0:(z==0)=false:=by rw [beq_eq_false_iff_ne]; exact q0
 by_cases q1:z=1
 ·subst q1
  -- one pair is built and returned
  go_wp2_with fail;refine (Eo (k:=6) (x:=e) (y:=e) (X:=fun i=>i<w.heap.size+1+1) (fun b h=>by omega) HA.out HA.out).mono ?_;rintro f w8 ⟨g,rfl,hr,hb⟩;have hz8:=hb.size;replace R:=R.below hb;replace D:=D.on hb;clear hb a0 a1 a2 b0 b1 b2
  -- the value is stored and returned; world W; HX:RdX X0 W ..; D:Cg B b M w W
  obtain ⟨r0,r1,r2,y0,y1,y2,ltR⟩:=R.all3;go_wp2_with fail;have hset:Aa (fun i=>i=w.heap.size+1) w8 (((w8.setCell ⟨w.heap.size+1,0,none⟩ (.int .i64 6)).setCell ⟨w.heap.size+1,1,none⟩ (.int .i64 0)).setCell ⟨w.heap.size+1,2,none⟩ (.slice (some ⟨g,0,none⟩) 2 2)):=Aa.set (Aa.set (Aa.set (Aa.refl _)));have R':=((R.set 0 (.int .i64 6)).set 1 (.int .i64 0)).set 2 (.slice (some ⟨g,0,none⟩) 2 2);have q0:=R'.c0;have q1:=R'.c1;have q2:=R'.c2;refine bodyPost_ret (v:= .agg #[.int .i64 6,.int .i64 0,.slice (some ⟨g,0,none⟩) 2 2]) (by simp [results,Tryz.results17,go_sem,q0,q1,q2]) rfl ?_;exact ⟨(.mk 6 0 [e,e]),(some ⟨g,0,none⟩),2,rfl,(hr.keep (Ai.of_spares hset (fun b _ h=>by show _<_; omega))).less (fun b _ h=>by show _<_; omega),(by rw [Ex.size_eq]; simp only [Ex.kids,Ex.sizeL]; first|omega|(simp only [Ex.size_eq (.mk _ _ []),Ex.kids,Ex.sizeL]; omega)),(D.set hset (by omega) hB hbw).more (by omega)⟩
 have p1:(z==1)=false:=by rw [beq_eq_false_iff_ne]; exact q1
 by_cases q2:z=2
 ·subst q2
  -- one pair is built and returned
  go_wp2_with fail;refine (Eo (k:=7) (x:=e) (y:=(.mk 2 0 [])) (X:=fun i=>i<w.heap.size+1+1) (fun b h=>by omega) HA.out Bx).mono ?_;rintro f w8 ⟨g,rfl,hr,hb⟩;have hz8:=hb.size;replace R:=R.below hb;replace D:=D.on hb;clear hb a0 a1 a2 b0 b1 b2
  -- the value is stored and returned; world W; HX:RdX X0 W ..; D:Cg B b M w W
  obtain ⟨r0,r1,r2,y0,y1,y2,ltR⟩:=R.all3;go_wp2_with fail;have hset:Aa (fun i=>i=w.heap.size+1) w8 (((w8.setCell ⟨w.heap.size+1,0,none⟩ (.int .i64 7)).setCell ⟨w.heap.size+1,1,none⟩ (.int .i64 0)).setCell ⟨w.heap.size+1,2,none⟩ (.slice (some ⟨g,0,none⟩) 2 2)):=Aa.set (Aa.set (Aa.set (Aa.refl _)));have R':=((R.set 0 (.int .i64 7)).set 1 (.int .i64 0)).set 2 (.slice (some ⟨g,0,none⟩) 2 2);have q0:=R'.c0;have q1:=R'.c1;have q2:=R'.c2;refine bodyPost_ret (v:= .agg #[.int .i64 7,.int .i64 0,.slice (some ⟨g,0,none⟩) 2 2]) (by simp [results,Tryz.results17,go_sem,q0,q1,q2]) rfl ?_;exact ⟨(.mk 7 0 [e,(.mk 2 0 [])]),(some ⟨g,0,none⟩),2,rfl,(hr.keep (Ai.of_spares hset (fun b _ h=>by show _<_; omega))).less (fun b _ h=>by show _<_; omega),(by rw [Ex.size_eq]; simp only [Ex.kids,Ex.sizeL]; first|omega|(simp only [Ex.size_eq (.mk _ _ []),Ex.kids,Ex.sizeL]; omega)),(D.set hset (by omega) hB hbw).more (by omega)⟩
 have p2:(z==2)=false:=by rw [beq_eq_false_iff_ne]; exact q2
 by_cases q3:z=3
 ·subst q3
  -- one pair is built and returned
  go_wp2_with fail;refine (Eo (k:=6) (x:=e) (y:=x) (X:=fun i=>i<w.heap.size+1+1) (fun b h=>by omega) HA.out HX.out).mono ?_;rintro f w8 ⟨g,rfl,hr,hb⟩;have hz8:=hb.size;replace R:=R.below hb;replace D:=D.on hb;clear hb a0 a1 a2 b0 b1 b2
  -- the value is stored and returned; world W; HX:RdX X0 W ..; D:Cg B b M w W
  obtain ⟨r0,r1,r2,y0,y1,y2,ltR⟩:=R.all3;go_wp2_with fail;have hset:Aa (fun i=>i=w.heap.size+1) w8 (((w8.setCell ⟨w.heap.size+1,0,none⟩ (.int .i64 6)).setCell ⟨w.heap.size+1,1,none⟩ (.int .i64 0)).setCell ⟨w.heap.size+1,2,none⟩ (.slice (some ⟨g,0,none⟩) 2 2)):=Aa.set (Aa.set (Aa.set (Aa.refl _)));have R':=((R.set 0 (.int .i64 6)).set 1 (.int .i64 0)).set 2 (.slice (some ⟨g,0,none⟩) 2 2);have q0:=R'.c0;have q1:=R'.c1;have q2:=R'.c2;refine bodyPost_ret (v:= .agg #[.int .i64 6,.int .i64 0,.slice (some ⟨g,0,none⟩) 2 2]) (by simp [results,Tryz.results17,go_sem,q0,q1,q2]) rfl ?_;exact ⟨(.mk 6 0 [e,x]),(some ⟨g,0,none⟩),2,rfl,(hr.keep (Ai.of_spares hset (fun b _ h=>by show _<_; omega))).less (fun b _ h=>by show _<_; omega),(by rw [Ex.size_eq]; simp only [Ex.kids,Ex.sizeL]; first|omega|(simp only [Ex.size_eq (.mk _ _ []),Ex.kids,Ex.sizeL]; omega)),(D.set hset (by omega) hB hbw).more (by omega)⟩
 have p3:(z==3)=false:=by rw [beq_eq_false_iff_ne]; exact q3
 by_cases q4:z=4
 ·subst q4
  -- one pair is built and returned
  go_wp2_with fail;refine (Eo (k:=7) (x:=x) (y:=e) (X:=fun i=>i<w.heap.size+1+1) (fun b h=>by omega) HX.out HA.out).mono ?_;rintro f w8 ⟨g,rfl,hr,hb⟩;have hz8:=hb.size;replace R:=R.below hb;replace D:=D.on hb;clear hb a0 a1 a2 b0 b1 b2
  -- the value is stored and returned; world W; HX:RdX X0 W ..; D:Cg B b M w W
  obtain ⟨r0,r1,r2,y0,y1,y2,ltR⟩:=R.all3;go_wp2_with fail;have hset:Aa (fun i=>i=w.heap.size+1) w8 (((w8.setCell ⟨w.heap.size+1,0,none⟩ (.int .i64 7)).setCell ⟨w.heap.size+1,1,none⟩ (.int .i64 0)).setCell ⟨w.heap.size+1,2,none⟩ (.slice (some ⟨g,0,none⟩) 2 2)):=Aa.set (Aa.set (Aa.set (Aa.refl _)));have R':=((R.set 0 (.int .i64 7)).set 1 (.int .i64 0)).set 2 (.slice (some ⟨g,0,none⟩) 2 2);have q0:=R'.c0;have q1:=R'.c1;have q2:=R'.c2;refine bodyPost_ret (v:= .agg #[.int .i64 7,.int .i64 0,.slice (some ⟨g,0,none⟩) 2 2]) (by simp [results,Tryz.results17,go_sem,q0,q1,q2]) rfl ?_;exact ⟨(.mk 7 0 [x,e]),(some ⟨g,0,none⟩),2,rfl,(hr.keep (Ai.of_spares hset (fun b _ h=>by show _<_; omega))).less (fun b _ h=>by show _<_; omega),(by rw [Ex.size_eq]; simp only [Ex.kids,Ex.sizeL]; first|omega|(simp only [Ex.size_eq (.mk _ _ []),Ex.kids,Ex.sizeL]; omega)),(D.set hset (by omega) hB hbw).more (by omega)⟩
 have p4:(z==4)=false:=by rw [beq_eq_false_iff_ne]; exact q4
 by_cases q5:z=5
 ·subst q5;obtain ⟨w8,e8,P1,hb8,hz8⟩:=A7 w7 28 (.int .i64 e.kind) (.int .i64 e.num) (.slice s1 e.kids.length c1);obtain ⟨w9,e9,S1,hb9,hz9⟩:=A7 w8 28 (.int .i64 8) (.int .i64 0) (.slice (some ⟨w7.heap.size,0,none⟩) 1 1);obtain ⟨w10,e10,P2,hb10,hz10⟩:=A7 w9 28 (.int .i64 8) (.int .i64 0) (.slice (some ⟨w7.heap.size,0,none⟩) 1 1);have hk1:=Iw P1 (X:=fun i=>i<w.heap.size+1+1) (fun h=>by omega) (HA.out.below hb8);have hk2:=Iw (x:= .mk 8 0 [e]) P2 (X:=fun i=>i<w.heap.size+1+1) (fun h=>by omega) ((hk1.below hb9).below hb10);rw [hz9,hz8] at hk2
  have hzz:w10.heap.size=w7.heap.size+1+1+1:=by omega
  obtain ⟨v0,v1,v2, -, -, -, -⟩:=S1.all3;rw [hz8] at v0 v1 v2;replace R:=((R.below hb8).below hb9).below hb10;replace D:=((D.on hb8).on hb9).on hb10;clear hk1 hb8 hb9 hb10 P1 S1 P2
  trace_state
  -- the value is stored and returned; world W; HX:RdX X0 W ..; D:Cg B b M w W
  obtain ⟨r0,r1,r2,y0,y1,y2,ltR⟩:=R.all3;go_wp2_with fail;have hset:Aa (fun i=>i=w.heap.size+1) w10 (((w10.setCell ⟨w.heap.size+1,0,none⟩ (.int .i64 8)).setCell ⟨w.heap.size+1,1,none⟩ (.int .i64 0)).setCell ⟨w.heap.size+1,2,none⟩ (.slice (some ⟨w7.heap.size+1+1,0,none⟩) 1 1)):=Aa.set (Aa.set (Aa.set (Aa.refl _)));have R':=((R.set 0 (.int .i64 8)).set 1 (.int .i64 0)).set 2 (.slice (some ⟨w7.heap.size+1+1,0,none⟩) 1 1);have q0:=R'.c0;have q1:=R'.c1;have q2:=R'.c2;refine bodyPost_ret (v:= .agg #[.int .i64 8,.int .i64 0,.slice (some ⟨w7.heap.size+1+1,0,none⟩) 1 1]) (by simp [results,Tryz.results17,go_sem,q0,q1,q2]) rfl ?_;exact ⟨(.mk 8 0 [.mk 8 0 [e]]),(some ⟨w7.heap.size+1+1,0,none⟩),1,rfl,(hk2.keep (Ai.of_spares hset (fun b _ h=>by show _<_; omega))).less (fun b _ h=>by show _<_; omega),(by simp only [Ex.size_eq (.mk _ _ [_]),Ex.kids,Ex.sizeL]; omega),(D.set hset (by omega) hB hbw).more (by omega)⟩
 have p5:(z==5)=false:=by rw [beq_eq_false_iff_ne]; exact q5
 by_cases q6:z=6
 ·subst q6;obtain ⟨u0, -⟩:=Hat.out w (Ai.refl _ _);have ltE:=World.block_lt_of_cell? w _ u0;clear u0;obtain ⟨g0,g1,sx,cx,g2,g3⟩:=Hat.out w7 (Ai.of_spares D.spares (fun _ _ h=>h))
  by_cases hk:e.kind=8
  ·obtain ⟨n,k,rfl⟩:=Ys hk htr;obtain ⟨kb,ko,rfl⟩:=An g3 (by simp [Ex.kids]);simp only [Ex.kind,Ex.num,Ex.kids,List.length_cons,List.length_nil,Nat.zero_add] at g0 g1 g2;go_wp2_with fail;have HDr:=hid D
   have hXW:∀b,b<w.heap.size+1+1→b<w7.heap.size:=fun b h=>by omega
   have hks:k.size≤40:=by rw [Ex.size_eq] at hsz; simp only [Ex.kids,Ex.sizeL] at hsz; omega
   clear D
   have HKid:Hid (∀w1,Aa (fun b=>∃m,m=0∧b=w.heap.size+1) w7 w1→Ap w1 kb ko k):=fun w1 hw1=>by
    have hc:w1.cell? ⟨eb,eo+2,none⟩=w7.cell? ⟨eb,eo+2,none⟩:=Ka (hw1.block eb (by omega) (fun ⟨_,_,h⟩=>by omega));obtain ⟨-, -, sy,cy,e2,e3⟩:=Hat.out w1 (Ai.of_spares ((HDr.out.set (hw1.more (fun i hi=>by obtain ⟨m, -, h⟩:=hi; exact h)) (by omega) hBw.out hbw).spares) (fun _ _ h=>h));rw [hc,g2] at e2;simp only [Ex.kids,List.length_cons,List.length_nil,Nat.zero_add,Option.some.injEq,Value.slice.injEq] at e2;obtain ⟨rfl, -, rfl⟩:=e2;obtain ⟨-, sz,cz,i0,i1,i2,i3⟩:=A3 e3 (i:=0) (e:=k) rfl;simp only [Nat.zero_mul,Nat.add_zero] at i0 i1 i2;exact ⟨i0,i1,sz,cz,i2,i3⟩
   have Hg2:=hid g2;clear g0 g1 g2 g3
   have hGb:∀m b,(fun m b=>(m=0∧b=w.heap.size+1)) m b→(w.heap.size)≤b∧b<(w7).heap.size:=by
    intro m b hg;have q:=R.lt;omega
   have hGd:∀m m' b,(fun m b=>(m=0∧b=w.heap.size+1)) m b→(fun m b=>(m=0∧b=w.heap.size+1)) m' b→m=m':=by
    intro m m' b h h';omega
   have hGX:∀m b,(fun m b=>(m=0∧b=w.heap.size+1)) m b→(fun i=>i<w.heap.size+1+1) b:=by
    intro m b hg
    show b<_
    omega
   refine Aw [(8,6),(9,8)] [(10,0)] (fun m b=>(m=0∧b=w.heap.size+1)) (w.heap.size) (fun i iv vs wx=>match i with
    |0=>vs 0= .agg #[.int .i64 2,.int .i64 0,.slice none 0 0]
    |1=>vs 1= .pointer (some ⟨eb,eo,none⟩)
    |2=>vs 2= .pointer (some ⟨eb,eo,none⟩)
    |3=>vs 3= .pointer (some ⟨eb,eo+2,none⟩)
    |4=>vs 4= .slice (some ⟨kb,ko,none⟩) 1 cx
    |5=>vs 5= .pointer (some ⟨kb,ko,none⟩)
    |6=>∃sa ca,vs 6= .agg #[.int .i64 k.kind,.int .i64 k.num,.slice sa k.kids.length ca]∧RdO w7 (fun i=>i<w.heap.size+1+1) (foot [(8,6),(9,8)] [(10,0)] (fun m b=>(m=0∧b=w.heap.size+1)) 11 6 iv) wx (Ae k.kids) (.slice sa k.kids.length ca)
    |7=>vs 7= .agg #[.int .i64 8,.int .i64 n,.slice s1 1 c1]
    |8=>∃g1,vs 8= .agg #[.int .i64 7,.int .i64 0,.slice (some ⟨g1,0,none⟩) 2 2]∧RdO w7 (fun i=>i<w.heap.size+1+1) (foot [(8,6),(9,8)] [(10,0)] (fun m b=>(m=0∧b=w.heap.size+1)) 11 8 iv) wx (Ae [k,.mk 8 n [k]]) (.slice (some ⟨g1,0,none⟩) 2 2)
    |9=>∃g2,vs 9= .agg #[.int .i64 6,.int .i64 0,.slice (some ⟨g2,0,none⟩) 2 2]∧RdO w7 (fun i=>i<w.heap.size+1+1) (foot [(8,6),(9,8)] [(10,0)] (fun m b=>(m=0∧b=w.heap.size+1)) 11 9 iv) wx (Ae [.mk 2 0 [],.mk 7 0 [k,.mk 8 n [k]]]) (.slice (some ⟨g2,0,none⟩) 2 2)
    |10=>Blk wx (w.heap.size+1) 28 [Ad (vs 9) 0,Ad (vs 9) 1,Ad (vs 9) 2]
    |_=>True) (fun i iv vs=>match i with
    |0=>vs 0= .agg #[.int .i64 2,.int .i64 0,.slice none 0 0]
    |1=>vs 1= .pointer (some ⟨eb,eo,none⟩)
    |2=>vs 2= .pointer (some ⟨eb,eo,none⟩)
    |3=>vs 3= .pointer (some ⟨eb,eo+2,none⟩)
    |4=>vs 4= .slice (some ⟨kb,ko,none⟩) 1 cx
    |5=>vs 5= .pointer (some ⟨kb,ko,none⟩)
    |6=>∃sa ca,vs 6= .agg #[.int .i64 k.kind,.int .i64 k.num,.slice sa k.kids.length ca]
    |7=>vs 7= .agg #[.int .i64 8,.int .i64 n,.slice s1 1 c1]
    |8=>∃g1,vs 8= .agg #[.int .i64 7,.int .i64 0,.slice (some ⟨g1,0,none⟩) 2 2]
    |9=>∃g2,vs 9= .agg #[.int .i64 6,.int .i64 0,.slice (some ⟨g2,0,none⟩) 2 2]
    |10=>True
    |_=>True) (by kernel_rfl) (by kernel_rfl) [0,1,2,3,4,5,6,7,8,9,10] (by kernel_rfl) ?hbase ?hGb ?hG ?hJ ?hE ?hEE ?hstep ?hQ
   case hbase=>first|exact Nat.le_refl _|omega|(simp; omega)
   case hGb=>
    exact hGb
   case hG=>
    exact hGd
   case hJ=>
    intro i hi iv iv' vs vs' wx wx' ha hv hz hk hj;simp at hi
    rcases hi with rfl|rfl|rfl|rfl|rfl|rfl|rfl|rfl|rfl|rfl|rfl
    all_goals try exact (aG hv _).symm.trans hj
    ·have e6:=aG hv 6;obtain ⟨sa,ca,q1,q2⟩:=hj;exact ⟨sa,ca,e6 ▸ q1,q2.keep hz (fun b hb h1=>hk.out b hb h1) (fun b h1=>At (l:=Am _ 11 6) (by exact of_decide_eq_true (by kernel_rfl)) ha.out h1)⟩
    ·have e8:=aG hv 8;obtain ⟨g1,q1,q2⟩:=hj;exact ⟨g1,e8 ▸ q1,q2.keep hz (fun b hb h1=>hk.out b hb h1) (fun b h1=>At (l:=Am _ 11 8) (by exact of_decide_eq_true (by kernel_rfl)) ha.out h1)⟩
    ·have e9:=aG hv 9;obtain ⟨g2,q1,q2⟩:=hj;exact ⟨g2,e9 ▸ q1,q2.keep hz (fun b hb h1=>hk.out b hb h1) (fun b h1=>At (l:=Am _ 11 9) (by exact of_decide_eq_true (by kernel_rfl)) ha.out h1)⟩
    have e9:=aG hv 9;have hj':Blk wx (w.heap.size+1) 28 [Ad (vs 9) 0,Ad (vs 9) 1,Ad (vs 9) 2]:=hj
    show Blk wx' (w.heap.size+1) 28 [Ad (vs' 9) 0,Ad (vs' 9) 1,Ad (vs' 9) 2]
    rw [←e9];exact hj'.keep (hk.out _ hj'.lt (Ao 0 (by decide) ⟨rfl,rfl⟩))
   case hE=>
    intro i hi iv vs wx hj;simp at hi
    rcases hi with rfl|rfl|rfl|rfl|rfl|rfl|rfl|rfl|rfl|rfl|rfl
    all_goals try exact hj
    ·obtain ⟨sa,ca,q1, -⟩:=hj;exact ⟨sa,ca,q1⟩
    ·obtain ⟨g1,q1, -⟩:=hj;exact ⟨g1,q1⟩
    ·obtain ⟨g2,q1, -⟩:=hj;exact ⟨g2,q1⟩
    trivial
   case hEE=>
    intro i hi iv iv' vs vs' ha hv hj;simp at hi
    rcases hi with rfl|rfl|rfl|rfl|rfl|rfl|rfl|rfl|rfl|rfl|rfl
    all_goals try exact (aG hv _).symm.trans hj
    ·have e6:=aG hv 6;have hj':∃sa ca,vs 6= .agg #[.int .i64 k.kind,.int .i64 k.num,.slice sa k.kids.length ca]:=hj
     show ∃sa ca,vs' 6= .agg #[.int .i64 k.kind,.int .i64 k.num,.slice sa k.kids.length ca]
     rw [←e6];exact hj'
    ·have e8:=aG hv 8;have hj':∃g1,vs 8= .agg #[.int .i64 7,.int .i64 0,.slice (some ⟨g1,0,none⟩) 2 2]:=hj
     show ∃g1,vs' 8= .agg #[.int .i64 7,.int .i64 0,.slice (some ⟨g1,0,none⟩) 2 2]
     rw [←e8];exact hj'
    ·have e9:=aG hv 9;have hj':∃g2,vs 9= .agg #[.int .i64 6,.int .i64 0,.slice (some ⟨g2,0,none⟩) 2 2]:=hj
     show ∃g2,vs' 9= .agg #[.int .i64 6,.int .i64 0,.slice (some ⟨g2,0,none⟩) 2 2]
     rw [←e9];exact hj'
    trivial
   case hstep=>
    intro i hi opr ho iv vs w1 hB hS hSo hd he hbd hsep hun K hK;simp at hi;have hzB:=hB.size;have HGb:=hid hGb;clear hGb hGd;obtain ⟨a0,a1,a2, -, -, -, ltA'⟩:=(A.keep (hSo.out.block _ A.lt (fun ⟨_,_,h⟩=>by omega))).all3;have hkid:=HKid.out w1 hSo.out;have he2:w1.cell? ⟨eb,eo+2,none⟩=some (.slice (some ⟨kb,ko,none⟩) 1 cx):=(Ka (hSo.out.block eb (by omega) (fun ⟨_,_,h⟩=>by omega))).trans Hg2.out;generalize hA:Af _ 0 vs _=A at hK ⊢;simp only [Af,Ac] at hA
    rcases hi with rfl|rfl|rfl|rfl|rfl|rfl|rfl|rfl|rfl|rfl|rfl
    all_goals
     simp at ho;subst ho;subst hA
    ·go_wp2_with fail;exact Ab.mk (hK _ _ _ nn (by first|rfl|(simp only [Ac])) (Aa.refl _) (fun iv' _ _=>rfl))
    ·go_wp2_with fail;exact Ab.mk (hK _ _ _ nn (by first|rfl|(simp only [Ac])) (Aa.refl _) (fun iv' _ _=>rfl))
    ·have h1:vs 1=_:=dN hd 1;go_wp2_with fail;exact Ab.mk (hK _ _ _ nn (by first|rfl|(simp only [Ac,h1])) (Aa.refl _) (fun iv' _ _=>rfl))
    ·have h2:vs 2=_:=dN hd 2;go_wp2_with fail;exact Ab.mk (hK _ _ _ nn (by first|rfl|(simp only [Ac,h2])) (Aa.refl _) (fun iv' _ _=>rfl))
    ·have h3:vs 3=_:=dN hd 3;go_wp2_with fail;exact Ab.mk (hK _ _ _ nn (by first|rfl|(simp only [Ac,h3])) (Aa.refl _) (fun iv' _ _=>rfl))
    ·have h4:vs 4=_:=dN hd 4;go_wp2_with fail;exact Ab.mk (hK _ _ _ nn (by first|rfl|(simp only [Ac,h4])) (Aa.refl _) (fun iv' _ _=>rfl))
    ·have h5:vs 5=_:=dN hd 5;go_wp2_with fail;have hO:Ai (fun i=>i<w.heap.size+1+1) w7 w1:=Ai.of_spares hSo.out (fun b _ ⟨m,hg⟩=>hGX m b hg);obtain ⟨XQ,hXQ⟩:∃XQ,XQ=Bw w7 (fun i=>i<w.heap.size+1+1) (fun b=>False) w1:=⟨_,rfl⟩
     have hXl:∀b,XQ b→b<w1.heap.size:=by rw [hXQ]; exact Bw.lt
     have hOld:∀(d:D) (v:Value),RdX (fun i=>i<w.heap.size+1+1) w7 d v→RdX XQ w1 d v:=by rw [hXQ]; exact fun d v h=>h.toOut hO
     refine (Y1 (X:=XQ) hXl hkid (by omega)).mono ?_;rintro e w2 ⟨sa,ca,rfl,hr,hb⟩;go_wp2_with fail;rw [hXQ] at hr;exact Ab.mk (hK (.agg #[.int .i64 k.kind,.int .i64 k.num,.slice sa k.kids.length ca]) _ _ nn (by first|rfl|(simp only [Ac,h5])) (Aa.of_below hb) (fun iv' ag hi=>⟨sa,ca,rfl,RdO.ofX hr hb hO (fun b h=>by exact h.elim) (fun b h1 h2=>A5 hi h1 h2)⟩))
    ·go_wp2_with fail;exact Ab.mk (hK _ _ _ nn (by first|rfl|(simp only [Ac])) (Aa.refl _) (fun iv' _ _=>rfl))
    ·obtain ⟨sa,ca,h6,f6⟩:=dN hd 6;have h7:vs 7=_:=dN hd 7;go_wp2_with fail;have hO:Ai (fun i=>i<w.heap.size+1+1) w7 w1:=Ai.of_spares hSo.out (fun b _ ⟨m,hg⟩=>hGX m b hg);obtain ⟨XQ,hXQ⟩:∃XQ,XQ=Bw w7 (fun i=>i<w.heap.size+1+1) (fun b=>(foot [(8,6),(9,8)] [(10,0)] (fun m b=>(m=0∧b=w.heap.size+1)) 11 6 iv) b) w1:=⟨_,rfl⟩
     have hXl:∀b,XQ b→b<w1.heap.size:=by rw [hXQ]; exact Bw.lt
     have x6:RdX XQ w1 (Ae k.kids) (.slice sa k.kids.length ca):=by rw [hXQ]; exact f6.toX hO (fun b h=>h)
     have hOld:∀(d:D) (v:Value),RdX (fun i=>i<w.heap.size+1+1) w7 d v→RdX XQ w1 d v:=by rw [hXQ]; exact fun d v h=>h.toOut hO
     refine (Eo (k:=7) (x:=k) (y:= .mk 8 n [k]) (X:=XQ) hXl x6 (hOld _ _ HA.out)).mono ?_;rintro e w2 ⟨g1,rfl,hr,hb⟩;go_wp2_with fail;rw [hXQ] at hr;exact Ab.mk (hK (.agg #[.int .i64 7,.int .i64 0,.slice (some ⟨g1,0,none⟩) 2 2]) _ _ nn (by first|rfl|(simp only [Ac,h6,h7])) (Aa.of_below hb) (fun iv' ag hi=>⟨g1,rfl,RdO.ofX hr hb hO (fun b h=>by exact Cz (by kernel_rfl) ag h) (fun b h1 h2=>A5 hi h1 h2)⟩))
    ·have h0:vs 0=_:=dN hd 0;obtain ⟨g1,h8,f8⟩:=dN hd 8;go_wp2_with fail;have hO:Ai (fun i=>i<w.heap.size+1+1) w7 w1:=Ai.of_spares hSo.out (fun b _ ⟨m,hg⟩=>hGX m b hg);obtain ⟨XQ,hXQ⟩:∃XQ,XQ=Bw w7 (fun i=>i<w.heap.size+1+1) (fun b=>(foot [(8,6),(9,8)] [(10,0)] (fun m b=>(m=0∧b=w.heap.size+1)) 11 8 iv) b) w1:=⟨_,rfl⟩
     have hXl:∀b,XQ b→b<w1.heap.size:=by rw [hXQ]; exact Bw.lt
     have x8:RdX XQ w1 (Ae [k,.mk 8 n [k]]) (.slice (some ⟨g1,0,none⟩) 2 2):=by rw [hXQ]; exact f8.toX hO (fun b h=>h)
     have hOld:∀(d:D) (v:Value),RdX (fun i=>i<w.heap.size+1+1) w7 d v→RdX XQ w1 d v:=by rw [hXQ]; exact fun d v h=>h.toOut hO
     refine (Eo (k:=6) (x:= .mk 2 0 []) (y:= .mk 7 0 [k,.mk 8 n [k]]) (X:=XQ) hXl Bx x8).mono ?_;rintro e w2 ⟨g2,rfl,hr,hb⟩;go_wp2_with fail;rw [hXQ] at hr;exact Ab.mk (hK (.agg #[.int .i64 6,.int .i64 0,.slice (some ⟨g2,0,none⟩) 2 2]) _ _ nn (by first|rfl|(simp only [Ac,h0,h8])) (Aa.of_below hb) (fun iv' ag hi=>⟨g2,rfl,RdO.ofX hr hb hO (fun b h=>by exact Cz (by kernel_rfl) ag h) (fun b h1 h2=>A5 hi h1 h2)⟩))
    obtain ⟨g2,h9,f9⟩:=dN hd 9;have R1:=R.keep (hS.out 0 _ (by kernel_rfl) ⟨rfl,rfl⟩);have rc0:=R1.c0;have rz0:=R1.frozen 0;have rc1:=R1.c1;have rz1:=R1.frozen 1;have rc2:=R1.c2;have rz2:=R1.frozen 2;have rlt:=R1.lt;go_wp2_with fail
    exact Ab.mk (hK undef _ _ (fun _=>rfl) (by simp only [Ac,h9]) ((Ar (b0:=w.heap.size+1) (by repeat (first|exact Aa.refl _|apply Aa.set))).more (fun b h=>Or.inl ⟨0,by decide,⟨rfl,h⟩⟩)) (fun iv' ag hi=>by
     show Blk _ (w.heap.size+1) 28 [Ad (vs 9) 0,Ad (vs 9) 1,Ad (vs 9) 2]
     rw [h9]
     exact (((R1.set 0 _).set 1 _).set 2 _)))
   case hQ=>
    intro iv vs wx hB hSp hd he hbd hsep;have hzB:=hB.size;have h0:vs 0=_:=dE hd 0;have h1:vs 1=_:=dE hd 1;have h2:vs 2=_:=dE hd 2;have h3:vs 3=_:=dE hd 3;have h4:vs 4=_:=dE hd 4;have h5:vs 5=_:=dE hd 5;obtain ⟨sa,ca,h6⟩:=dM he 6;have h7:vs 7=_:=dE hd 7;obtain ⟨g1,h8⟩:=dM he 8;obtain ⟨g2,h9,f9⟩:=dE hd 9;have f10:Blk _ (w.heap.size+1) 28 [Ad (vs 9) 0,Ad (vs 9) 1,Ad (vs 9) 2]:=dE hd 10;simp only [Af,Ac];have hOq:Ai (fun i=>i<w.heap.size+1+1) w7 wx:=Ai.of_spares hSp.out (fun b _ ⟨m,hg⟩=>hGX m b hg);have r9:RdX (fun i=>i<w.heap.size+1+1) wx (Ae [.mk 2 0 [],.mk 7 0 [k,.mk 8 n [k]]]) (.slice (some ⟨g2,0,none⟩) 2 2):=f9.done hOq (fun b hf hx=>by have q:=Gw (l:=[0,1,2,3,4,5,6,7,8,9,10]) (by kernel_rfl) (by kernel_rfl) hbd.out hf; have q':=hXW b hx; omega);clear f9;rw [h9] at f10;have K:Blk wx (w.heap.size+1) 28 [.int .i64 6,.int .i64 0,.slice (some ⟨g2,0,none⟩) 2 2]:=f10;have k0:=K.c0;have k1:=K.c1;have k2:=K.c2;have hDD:=(HDr.out.set (hSp.out.more (fun i hi=>by obtain ⟨m, -, h⟩:=hi; exact h)) (by omega) hBw.out hbw).more (M:=N+6100) (by omega)
    have hsz':(Ex.mk 6 0 [.mk 2 0 [],.mk 7 0 [k,.mk 8 n [k]]]).size≤100:=by simp only [Ex.size_eq (.mk _ _ (_::_)),Ex.size_eq (.mk _ _ []),Ex.kids,Ex.sizeL]; omega
    clear hd he hbd hsep h0 h1 h2 h3 h4 h5 h6 h7 h8 h9 f10 HDr HKid Hg2;go_wp2_with fail;refine bodyPost_ret (v:= .agg #[.int .i64 6,.int .i64 0,.slice (some ⟨g2,0,none⟩) 2 2]) (by simp [results,Tryz.results17,go_sem,k0,k1,k2]) rfl ?_;exact ⟨.mk 6 0 [.mk 2 0 [],.mk 7 0 [k,.mk 8 n [k]]],_,_,rfl,r9.less (fun b _ h=>by show _<_; omega),hsz',hDD⟩
  have hkb:(e.kind==8)=false:=by rw [beq_eq_false_iff_ne]; exact hk
  clear g1 g2 g3
  -- one pair is built and returned
  go_wp2_with fail;refine (Eo (k:=6) (x:=e) (y:=(.mk 1 0 [])) (X:=fun i=>i<w.heap.size+1+1) (fun b h=>by omega) HA.out Bx).mono ?_;rintro f w8 ⟨g,rfl,hr,hb⟩;have hz8:=hb.size;replace R:=R.below hb;replace D:=D.on hb;clear hb a0 a1 a2 b0 b1 b2
  -- the value is stored and returned; world W; HX:RdX X0 W ..; D:Cg B b M w W
  obtain ⟨r0,r1,r2,y0,y1,y2,ltR⟩:=R.all3;go_wp2_with fail;have hset:Aa (fun i=>i=w.heap.size+1) w8 (((w8.setCell ⟨w.heap.size+1,0,none⟩ (.int .i64 6)).setCell ⟨w.heap.size+1,1,none⟩ (.int .i64 0)).setCell ⟨w.heap.size+1,2,none⟩ (.slice (some ⟨g,0,none⟩) 2 2)):=Aa.set (Aa.set (Aa.set (Aa.refl _)));have R':=((R.set 0 (.int .i64 6)).set 1 (.int .i64 0)).set 2 (.slice (some ⟨g,0,none⟩) 2 2);have q0:=R'.c0;have q1:=R'.c1;have q2:=R'.c2;refine bodyPost_ret (v:= .agg #[.int .i64 6,.int .i64 0,.slice (some ⟨g,0,none⟩) 2 2]) (by simp [results,Tryz.results17,go_sem,q0,q1,q2]) rfl ?_;exact ⟨(.mk 6 0 [e,(.mk 1 0 [])]),(some ⟨g,0,none⟩),2,rfl,(hr.keep (Ai.of_spares hset (fun b _ h=>by show _<_; omega))).less (fun b _ h=>by show _<_; omega),(by rw [Ex.size_eq]; simp only [Ex.kids,Ex.sizeL]; first|omega|(simp only [Ex.size_eq (.mk _ _ []),Ex.kids,Ex.sizeL]; omega)),(D.set hset (by omega) hB hbw).more (by omega)⟩
 have p6:(z==6)=false:=by rw [beq_eq_false_iff_ne]; exact q6
 by_cases q7:z=7
 ·subst q7;go_wp2_with fail;have HDr:=hid D
  have hXW:∀b,b<w.heap.size+1+1→b<w7.heap.size:=fun b h=>by omega
  clear D
  have hGb:∀m b,(fun m b=>(m=0∧b=w.heap.size+1)) m b→(w.heap.size)≤b∧b<(w7).heap.size:=by
   intro m b hg;have q:=R.lt;omega
  have hGd:∀m m' b,(fun m b=>(m=0∧b=w.heap.size+1)) m b→(fun m b=>(m=0∧b=w.heap.size+1)) m' b→m=m':=by
   intro m m' b h h';omega
  have hGX:∀m b,(fun m b=>(m=0∧b=w.heap.size+1)) m b→(fun i=>i<w.heap.size+1+1) b:=by
   intro m b hg
   show b<_
   omega
  refine Aw [(4,3)] [(5,0)] (fun m b=>(m=0∧b=w.heap.size+1)) (w.heap.size) (fun i iv vs wx=>match i with
   |0=>vs 0= .agg #[.int .i64 x.kind,.int .i64 x.num,.slice s2 x.kids.length c2]
   |1=>vs 1= .agg #[.int .i64 e.kind,.int .i64 e.num,.slice s1 e.kids.length c1]
   |2=>vs 2= .agg #[.int .i64 x.kind,.int .i64 x.num,.slice s2 x.kids.length c2]
   |3=>∃g1,vs 3= .agg #[.int .i64 6,.int .i64 0,.slice (some ⟨g1,0,none⟩) 2 2]∧RdO w7 (fun i=>i<w.heap.size+1+1) (foot [(4,3)] [(5,0)] (fun m b=>(m=0∧b=w.heap.size+1)) 6 3 iv) wx (Ae [e,x]) (.slice (some ⟨g1,0,none⟩) 2 2)
   |4=>∃g2,vs 4= .agg #[.int .i64 6,.int .i64 0,.slice (some ⟨g2,0,none⟩) 2 2]∧RdO w7 (fun i=>i<w.heap.size+1+1) (foot [(4,3)] [(5,0)] (fun m b=>(m=0∧b=w.heap.size+1)) 6 4 iv) wx (Ae [x,.mk 6 0 [e,x]]) (.slice (some ⟨g2,0,none⟩) 2 2)
   |5=>Blk wx (w.heap.size+1) 28 [Ad (vs 4) 0,Ad (vs 4) 1,Ad (vs 4) 2]
   |_=>True) (fun i iv vs=>match i with
   |0=>vs 0= .agg #[.int .i64 x.kind,.int .i64 x.num,.slice s2 x.kids.length c2]
   |1=>vs 1= .agg #[.int .i64 e.kind,.int .i64 e.num,.slice s1 e.kids.length c1]
   |2=>vs 2= .agg #[.int .i64 x.kind,.int .i64 x.num,.slice s2 x.kids.length c2]
   |3=>∃g1,vs 3= .agg #[.int .i64 6,.int .i64 0,.slice (some ⟨g1,0,none⟩) 2 2]
   |4=>∃g2,vs 4= .agg #[.int .i64 6,.int .i64 0,.slice (some ⟨g2,0,none⟩) 2 2]
   |5=>True
   |_=>True) (by kernel_rfl) (by kernel_rfl) [0,1,2,3,4,5] (by kernel_rfl) ?hbase ?hGb ?hG ?hJ ?hE ?hEE ?hstep ?hQ
  case hbase=>first|exact Nat.le_refl _|omega|(simp; omega)
  case hGb=>
   exact hGb
  case hG=>
   exact hGd
  case hJ=>
   intro i hi iv iv' vs vs' wx wx' ha hv hz hk hj;simp at hi
   rcases hi with rfl|rfl|rfl|rfl|rfl|rfl
   all_goals try exact (aG hv _).symm.trans hj
   ·have e3:=aG hv 3;obtain ⟨g1,q1,q2⟩:=hj;exact ⟨g1,e3 ▸ q1,q2.keep hz (fun b hb h1=>hk.out b hb h1) (fun b h1=>At (l:=Am _ 6 3) (by exact of_decide_eq_true (by kernel_rfl)) ha.out h1)⟩
   ·have e4:=aG hv 4;obtain ⟨g2,q1,q2⟩:=hj;exact ⟨g2,e4 ▸ q1,q2.keep hz (fun b hb h1=>hk.out b hb h1) (fun b h1=>At (l:=Am _ 6 4) (by exact of_decide_eq_true (by kernel_rfl)) ha.out h1)⟩
   have e4:=aG hv 4;have hj':Blk wx (w.heap.size+1) 28 [Ad (vs 4) 0,Ad (vs 4) 1,Ad (vs 4) 2]:=hj
   show Blk wx' (w.heap.size+1) 28 [Ad (vs' 4) 0,Ad (vs' 4) 1,Ad (vs' 4) 2]
   rw [←e4];exact hj'.keep (hk.out _ hj'.lt (Ao 0 (by decide) ⟨rfl,rfl⟩))
  case hE=>
   intro i hi iv vs wx hj;simp at hi
   rcases hi with rfl|rfl|rfl|rfl|rfl|rfl
   all_goals try exact hj
   ·obtain ⟨g1,q1, -⟩:=hj;exact ⟨g1,q1⟩
   ·obtain ⟨g2,q1, -⟩:=hj;exact ⟨g2,q1⟩
   trivial
  case hEE=>
   intro i hi iv iv' vs vs' ha hv hj;simp at hi
   rcases hi with rfl|rfl|rfl|rfl|rfl|rfl
   all_goals try exact (aG hv _).symm.trans hj
   ·have e3:=aG hv 3;have hj':∃g1,vs 3= .agg #[.int .i64 6,.int .i64 0,.slice (some ⟨g1,0,none⟩) 2 2]:=hj
    show ∃g1,vs' 3= .agg #[.int .i64 6,.int .i64 0,.slice (some ⟨g1,0,none⟩) 2 2]
    rw [←e3];exact hj'
   ·have e4:=aG hv 4;have hj':∃g2,vs 4= .agg #[.int .i64 6,.int .i64 0,.slice (some ⟨g2,0,none⟩) 2 2]:=hj
    show ∃g2,vs' 4= .agg #[.int .i64 6,.int .i64 0,.slice (some ⟨g2,0,none⟩) 2 2]
    rw [←e4];exact hj'
   trivial
  case hstep=>
   intro i hi opr ho iv vs w1 hB hS hSo hd he hbd hsep hun K hK;simp at hi;have hzB:=hB.size;have HGb:=hid hGb;clear hGb hGd;obtain ⟨a0,a1,a2, -, -, -, ltA'⟩:=(A.keep (hSo.out.block _ A.lt (fun ⟨_,_,h⟩=>by omega))).all3;obtain ⟨b0,b1,b2, -, -, -, ltZ'⟩:=(Z.keep (hSo.out.block _ Z.lt (fun ⟨_,_,h⟩=>by omega))).all3;generalize hA:Af _ 0 vs _=A at hK ⊢;simp only [Af,Ac] at hA
   rcases hi with rfl|rfl|rfl|rfl|rfl|rfl
   all_goals
    simp at ho;subst ho;subst hA
   ·go_wp2_with fail;exact Ab.mk (hK _ _ _ nn (by first|rfl|(simp only [Ac])) (Aa.refl _) (fun iv' _ _=>rfl))
   ·go_wp2_with fail;exact Ab.mk (hK _ _ _ nn (by first|rfl|(simp only [Ac])) (Aa.refl _) (fun iv' _ _=>rfl))
   ·go_wp2_with fail;exact Ab.mk (hK _ _ _ nn (by first|rfl|(simp only [Ac])) (Aa.refl _) (fun iv' _ _=>rfl))
   ·have h1:vs 1=_:=dN hd 1;have h2:vs 2=_:=dN hd 2;go_wp2_with fail;have hO:Ai (fun i=>i<w.heap.size+1+1) w7 w1:=Ai.of_spares hSo.out (fun b _ ⟨m,hg⟩=>hGX m b hg);obtain ⟨XQ,hXQ⟩:∃XQ,XQ=Bw w7 (fun i=>i<w.heap.size+1+1) (fun b=>False) w1:=⟨_,rfl⟩
    have hXl:∀b,XQ b→b<w1.heap.size:=by rw [hXQ]; exact Bw.lt
    have hOld:∀(d:D) (v:Value),RdX (fun i=>i<w.heap.size+1+1) w7 d v→RdX XQ w1 d v:=by rw [hXQ]; exact fun d v h=>h.toOut hO
    refine (Eo (k:=6) (X:=XQ) hXl (hOld _ _ HA.out) (hOld _ _ HX.out)).mono ?_;rintro e w2 ⟨g1,rfl,hr,hb⟩;go_wp2_with fail;rw [hXQ] at hr;exact Ab.mk (hK (.agg #[.int .i64 6,.int .i64 0,.slice (some ⟨g1,0,none⟩) 2 2]) _ _ nn (by first|rfl|(simp only [Ac,h1,h2])) (Aa.of_below hb) (fun iv' ag hi=>⟨g1,rfl,RdO.ofX hr hb hO (fun b h=>by exact h.elim) (fun b h1 h2=>A5 hi h1 h2)⟩))
   ·have h0:vs 0=_:=dN hd 0;obtain ⟨g1,h3,f3⟩:=dN hd 3;go_wp2_with fail;have hO:Ai (fun i=>i<w.heap.size+1+1) w7 w1:=Ai.of_spares hSo.out (fun b _ ⟨m,hg⟩=>hGX m b hg);obtain ⟨XQ,hXQ⟩:∃XQ,XQ=Bw w7 (fun i=>i<w.heap.size+1+1) (fun b=>(foot [(4,3)] [(5,0)] (fun m b=>(m=0∧b=w.heap.size+1)) 6 3 iv) b) w1:=⟨_,rfl⟩
    have hXl:∀b,XQ b→b<w1.heap.size:=by rw [hXQ]; exact Bw.lt
    have x3:RdX XQ w1 (Ae [e,x]) (.slice (some ⟨g1,0,none⟩) 2 2):=by rw [hXQ]; exact f3.toX hO (fun b h=>h)
    have hOld:∀(d:D) (v:Value),RdX (fun i=>i<w.heap.size+1+1) w7 d v→RdX XQ w1 d v:=by rw [hXQ]; exact fun d v h=>h.toOut hO
    refine (Eo (k:=6) (y:= .mk 6 0 [e,x]) (X:=XQ) hXl (hOld _ _ HX.out) x3).mono ?_;rintro e w2 ⟨g2,rfl,hr,hb⟩;go_wp2_with fail;rw [hXQ] at hr;exact Ab.mk (hK (.agg #[.int .i64 6,.int .i64 0,.slice (some ⟨g2,0,none⟩) 2 2]) _ _ nn (by first|rfl|(simp only [Ac,h0,h3])) (Aa.of_below hb) (fun iv' ag hi=>⟨g2,rfl,RdO.ofX hr hb hO (fun b h=>by exact Cz (by kernel_rfl) ag h) (fun b h1 h2=>A5 hi h1 h2)⟩))
   obtain ⟨g2,h4,f4⟩:=dN hd 4;have R1:=R.keep (hS.out 0 _ (by kernel_rfl) ⟨rfl,rfl⟩);have rc0:=R1.c0;have rz0:=R1.frozen 0;have rc1:=R1.c1;have rz1:=R1.frozen 1;have rc2:=R1.c2;have rz2:=R1.frozen 2;have rlt:=R1.lt;go_wp2_with fail
   exact Ab.mk (hK undef _ _ (fun _=>rfl) (by simp only [Ac,h4]) ((Ar (b0:=w.heap.size+1) (by repeat (first|exact Aa.refl _|apply Aa.set))).more (fun b h=>Or.inl ⟨0,by decide,⟨rfl,h⟩⟩)) (fun iv' ag hi=>by
    show Blk _ (w.heap.size+1) 28 [Ad (vs 4) 0,Ad (vs 4) 1,Ad (vs 4) 2]
    rw [h4]
    exact (((R1.set 0 _).set 1 _).set 2 _)))
  intro iv vs wx hB hSp hd he hbd hsep;have hzB:=hB.size;have h0:vs 0=_:=dE hd 0;have h1:vs 1=_:=dE hd 1;have h2:vs 2=_:=dE hd 2;obtain ⟨g1,h3⟩:=dM he 3;obtain ⟨g2,h4,f4⟩:=dE hd 4;have f5:Blk _ (w.heap.size+1) 28 [Ad (vs 4) 0,Ad (vs 4) 1,Ad (vs 4) 2]:=dE hd 5;simp only [Af,Ac];have hOq:Ai (fun i=>i<w.heap.size+1+1) w7 wx:=Ai.of_spares hSp.out (fun b _ ⟨m,hg⟩=>hGX m b hg);have r4:RdX (fun i=>i<w.heap.size+1+1) wx (Ae [x,.mk 6 0 [e,x]]) (.slice (some ⟨g2,0,none⟩) 2 2):=f4.done hOq (fun b hf hx=>by have q:=Gw (l:=[0,1,2,3,4,5]) (by kernel_rfl) (by kernel_rfl) hbd.out hf; have q':=hXW b hx; omega);clear f4;rw [h4] at f5;have K:Blk wx (w.heap.size+1) 28 [.int .i64 6,.int .i64 0,.slice (some ⟨g2,0,none⟩) 2 2]:=f5;have k0:=K.c0;have k1:=K.c1;have k2:=K.c2;have hDD:=(HDr.out.set (hSp.out.more (fun i hi=>by obtain ⟨m, -, h⟩:=hi; exact h)) (by omega) hBw.out hbw).more (M:=N+6100) (by omega)
  have hsz':(Ex.mk 6 0 [x,.mk 6 0 [e,x]]).size≤100:=by simp only [Ex.size_eq (.mk _ _ [_,_]),Ex.kids,Ex.sizeL]; omega
  clear hd he hbd hsep h0 h1 h2 h3 h4 f5 HDr;go_wp2_with fail;refine bodyPost_ret (v:= .agg #[.int .i64 6,.int .i64 0,.slice (some ⟨g2,0,none⟩) 2 2]) (by simp [results,Tryz.results17,go_sem,k0,k1,k2]) rfl ?_;exact ⟨.mk 6 0 [x,.mk 6 0 [e,x]],_,_,rfl,r4.less (fun b _ h=>by show _<_; omega),hsz',hDD⟩
 have p7:(z==7)=false:=by rw [beq_eq_false_iff_ne]; exact q7
 have hr:=HX.out
 -- the value is stored and returned; world W; HX:RdX X0 W ..; D:Cg B b M w W
 obtain ⟨r0,r1,r2,y0,y1,y2,ltR⟩:=R.all3;go_wp2_with fail;have hset:Aa (fun i=>i=w.heap.size+1) w7 (((w7.setCell ⟨w.heap.size+1,0,none⟩ (.int .i64 x.kind)).setCell ⟨w.heap.size+1,1,none⟩ (.int .i64 x.num)).setCell ⟨w.heap.size+1,2,none⟩ (.slice s2 x.kids.length c2)):=Aa.set (Aa.set (Aa.set (Aa.refl _)));have R':=((R.set 0 (.int .i64 x.kind)).set 1 (.int .i64 x.num)).set 2 (.slice s2 x.kids.length c2);have q0:=R'.c0;have q1:=R'.c1;have q2:=R'.c2;refine bodyPost_ret (v:= .agg #[.int .i64 x.kind,.int .i64 x.num,.slice s2 x.kids.length c2]) (by simp [results,Tryz.results17,go_sem,q0,q1,q2]) rfl ?_;exact ⟨x,s2,c2,rfl,(hr.keep (Ai.of_spares hset (fun b _ h=>by show _<_; omega))).less (fun b _ h=>by show _<_; omega),(by omega),(D.set hset (by omega) hB hbw).more (by omega)⟩
theorem RdO.new {W w1 w2:World} {X:Nat→Prop} {p:Nat × Nat} {d:D} {v:Value} (hr:RdX (fun i=>i<w1.heap.size) w2 d v) (hp:p=(w1.heap.size,w2.heap.size)):RdO W X (fun b=>p.1≤b∧b<p.2) w2 d v:=by
 subst hp;exact fun w3 hz _ h3=>hr w3 ⟨hz,fun b hb hno=>h3 b hb ⟨Nat.le_of_not_lt hno,hb⟩⟩
structure Ig where
 e:Ex
 s:Option Addr
 c:Nat
 cs:Option Addr
 cl:Nat
 cc:Nat
 p:Nat
 y:Int
 h:e.size≤100
theorem Pr {B b N:Nat} {t a:Int} {e:Ex} {eb eo:Nat} {w:World} (h:Cw B b N w) (hN:N≤1000000) (hB:B≤w.heap.size) (hs:Cj t a=true) (hat:∀w',Ai (fun i=>i=b) w w'→Ap w' eb eo e) (htr:e.tree (t - 1) (a - 1)=true) (hsz:e.size≤40):
  Calls Tryz.prog 17 #[.pointer (some ⟨b,0,none⟩),.agg #[.int .i64 t,.int .i64 a],.pointer (some ⟨eb,eo,none⟩)] w fun f w'=>∃u:Ig,f= .returned (.agg #[.int .i64 u.e.kind,.int .i64 u.e.num,.slice u.s u.e.kids.length u.c])∧RdX (fun i=>i<w.heap.size) w' (Ae u.e.kids) (.slice u.s u.e.kids.length u.c)∧
   Aa (fun i=>i=b) w w'∧Blk w' b 56 [.slice u.cs u.cl u.cc,.int .i64 u.p,.int .u64 u.y]:=by
 refine (Xf h hN hB hs hat htr hsz).mono ?_;rintro f w' ⟨e,s,c,h1,h2,h4,⟨h5,xs,cs,cc,p,y,k1,k2⟩,h6⟩;exact ⟨⟨e,s,c,cs,xs.length,cc,p,y,h4⟩,h1,h2,h6,k1⟩
set_option maxRecDepth 100000 in
set_option maxHeartbeats 8000000 in
theorem Yz {xs:List Int} {s:Option Addr} {c:Nat} {w:World} (hr:Rd w (Eu xs) (.slice s xs.length c)) (hx:∀x∈xs,0≤x∧x≤255):
  Calls Tryz.prog 5 #[.slice s xs.length c] w fun z w'=>∃(t a:Int) (e f:Ex) (s1 s2:Option Addr) (c1 c2:Nat),z= .returned (.tuple #[.agg #[.int .i64 t,.int .i64 a],.agg #[.int .i64 e.kind,.int .i64 e.num,.slice s1 e.kids.length c1],.agg #[.int .i64 f.kind,.int .i64 f.num,.slice s2 f.kids.length c2]])∧
   Rd w' (Ae e.kids) (.slice s1 e.kids.length c1)∧Rd w' (Ae f.kids) (.slice s2 f.kids.length c2)∧Cj t a=true∧e.tree (t - 1) (a - 1)=true∧e.size≤40∧f.size≤100∧Below w.heap.size w w':=by
 have HX:=hid hx;clear hx
 go_enter Tryz.func5,Tryz.ntmps5
 go_wp2_with fail;obtain ⟨w1,e1,RA,hb1,hz1⟩:=Dl w 25 (.int .i64 0) (.int .i64 0);rw [e1];obtain ⟨w2,e2,RB,hb2,hz2⟩:=A7 w1 28 (.int .i64 0) (.int .i64 0) (.slice none 0 0);rw [e2];obtain ⟨w3,e3,RC,hb3,hz3⟩:=A7 w2 28 (.int .i64 0) (.int .i64 0) (.slice none 0 0);rw [e3];rw [hz1] at RB;rw [hz2,hz1] at RC;replace RA:=(RA.below hb2).below hb3;replace RB:=RB.below hb3;have hB:=(hb1.trans (hb2.mono (by omega))).trans (hb3.mono (by omega))
 have hz3':w3.heap.size=w.heap.size+1+1+1:=by omega
 clear e1 e2 e3 hb1 hb2 hb3 hz1 hz2 hz3;obtain ⟨B,hBv1,hBv2⟩:∃B,w.heap.size≤B∧B≤w.heap.size:=⟨_,Nat.le_refl _,Nat.le_refl _⟩;refine (Wm (B:=B) ((RdX.of_rd hr (fun b hb=>by omega)).below hB) HX.out (by omega)).mono ?_;rintro f w5 ⟨sb,rfl,hsB,S,hb⟩;have hsl:=S.lt;replace RA:=RA.below hb;replace RB:=RB.below hb;replace RC:=RC.below hb;have HB5:=hid (Below.on hB hb hB.size);have hz5:=hb.size;have D:=S.drew;clear hb hB hr;go_wp2_with fail;refine (Wr D.1 (by omega) (by omega)).mono ?_;rintro f w6 ⟨t,a,rfl,hs,D1⟩;have Hsig:=hid hs;replace RA:=D1.blk RA (by omega);replace RB:=D1.blk RB (by omega);replace RC:=D1.blk RC (by omega);replace D:=D.trans D1;have hz6:=D1.size;clear D1 hs;obtain ⟨w7,e7,SG,hb7,hz7⟩:=Dl w6 25 (.int .i64 t) (.int .i64 a);replace RA:=RA.below hb7;replace RB:=RB.below hb7;replace RC:=RC.below hb7;replace D:=D.on hb7;obtain ⟨sg0,sg1,sgl⟩:=SG.all2;clear hb7;go_wp2_with fail;clear e7 sg0 sg1;refine (Lb (n:=8) D.1 (by omega) (by omega) Hsig.out (by omega) (by omega)).mono ?_;rintro f w8 ⟨e,s1,c1,rfl,hf,htr,hsz1,D1⟩;replace RA:=D1.blk RA (by omega);replace RB:=D1.blk RB (by omega);replace RC:=D1.blk RC (by omega);replace SG:=D1.blk SG (by omega);replace D:=D.trans D1;have hz8:=D1.size;have HE:=hid ((RdX.made hf).less (Y:=fun i=>i<w7.heap.size∨i=w8.heap.size) (fun b _ h=>by rcases h with h|h; exact Or.inl h; exact Or.inr (by omega)));have HTR:=hid htr
 have HSE:Hid (e.size≤40):=by show _≤_; omega
 clear D1 hf hsz1 htr;obtain ⟨w9,e9,E8,hb9,hz9⟩:=A7 w8 28 (.int .i64 e.kind) (.int .i64 e.num) (.slice s1 e.kids.length c1);replace RA:=RA.below hb9;replace RB:=RB.below hb9;replace RC:=RC.below hb9;replace SG:=SG.below hb9;replace D:=D.on hb9;replace HE:=hid (HE.out.below hb9);clear hb9;go_wp2_with fail;clear e9;refine (Gy (n:=4) D.1 (by omega) (by omega)).mono ?_;rintro f2 w10 ⟨v,rfl,D1⟩;replace RA:=D1.blk RA (by omega);replace RB:=D1.blk RB (by omega);replace RC:=D1.blk RC (by omega);replace SG:=D1.blk SG (by omega);replace E8:=D1.blk E8 (by omega);replace D:=D.trans D1;have hz10:=D1.size;replace HE:=hid (HE.out.keep (Ai.of_spares D1.spares (fun b _ h=>Or.inl (by omega))));clear D1
 have n0:w.heap.size+1+1<sb:=by omega
 have n1:sb<w6.heap.size:=by omega
 have n2:w6.heap.size<w7.heap.size:=by omega
 have n3:w7.heap.size≤w8.heap.size:=by omega
 have n4:w8.heap.size<w10.heap.size:=by omega
 cases v
 ·have HBW:=hid (HB5.out.trans (D.2.below (B:=w.heap.size) (by omega) (fun i hi=>by omega)));have HS:=hid (D.1.more (M:=20000) (by omega));clear hz3' hz5 hz6 hz7 hz8 hz9 hz10 hsB hsl sgl S D;go_wp2_with fail;have HSG:=hid SG;have HE8:=hid E8;clear SG E8;obtain ⟨hb0,xs',cs,cc,p,z,KS,hrx,hxs,hpN⟩:=HS.out;have HRX:=hid hrx;have HXS:=hid hxs;have hWw:w.heap.size≤w10.heap.size:=HBW.out.size;have HSRC0:∀w1:World,Below w.heap.size w10 w1→Blk w1 sb 56 [.slice cs xs'.length cc,.int .i64 p,.int .u64 z]→Cw B sb 20000 w1:=fun w1 hB K1=>⟨hb0,xs',cs,cc,p,z,K1,HRX.out.keep ⟨hB.size,fun i hi hn=>hB.block i (by omega)⟩,HXS.out,by omega⟩;have HSRC:=hid HSRC0
  have hXW:∀b,b<w7.heap.size→b<w10.heap.size:=fun b h=>by omega
  clear hrx hxs hpN HSRC0;obtain ⟨x2,hx2⟩:=Aj ?a3_2
  have hGb:∀m b,(fun m b=>(m=0∧b=sb)∨(m=1∧b=w.heap.size)∨(m=2∧b=w.heap.size+1)∨(m=3∧b=w.heap.size+1+1)) m b→(w.heap.size)≤b∧b<(w10).heap.size:=by
   intro m b hg;have q:=KS.lt;have q2:=RC.lt;omega
  have hGd:∀m m' b,(fun m b=>(m=0∧b=sb)∨(m=1∧b=w.heap.size)∨(m=2∧b=w.heap.size+1)∨(m=3∧b=w.heap.size+1+1)) m b→(fun m b=>(m=0∧b=sb)∨(m=1∧b=w.heap.size)∨(m=2∧b=w.heap.size+1)∨(m=3∧b=w.heap.size+1+1)) m' b→m=m':=by
   intro m m' b h h';omega
  have hGX:∀m b,(fun m b=>(m=0∧b=sb)∨(m=1∧b=w.heap.size)∨(m=2∧b=w.heap.size+1)∨(m=3∧b=w.heap.size+1+1)) m b→(fun i=>i<w7.heap.size) b:=by
   intro m b hg
   show b<_
   omega
  refine Aw [] [(4,0),(5,1),(6,2),(7,3)] (fun m b=>(m=0∧b=sb)∨(m=1∧b=w.heap.size)∨(m=2∧b=w.heap.size+1)∨(m=3∧b=w.heap.size+1+1)) (w.heap.size) (fun i iv vs wx=>match i with
   |0=>vs 0= .agg #[.int .i64 t,.int .i64 a]
   |1=>vs 1= .agg #[.int .i64 e.kind,.int .i64 e.num,.slice s1 e.kids.length c1]
   |2=>vs 2=x2
   |3=>vs 3= .agg #[.int .i64 t,.int .i64 a]
   |4=>∃u,vs 4= .agg #[.int .i64 (Ig.e u).kind,.int .i64 u.e.num,.slice u.s u.e.kids.length u.c]∧RdO w10 (fun i=>i<w7.heap.size) (fun b=>(iv 4).1≤b∧b<(iv 4).2) wx (Ae u.e.kids) (.slice u.s u.e.kids.length u.c)∧Blk wx (sb) 56 [.slice u.cs u.cl u.cc,.int .i64 u.p,.int .u64 u.y]
   |5=>Blk wx (w.heap.size) 25 [.int .i64 t,.int .i64 a]
   |6=>Blk wx (w.heap.size+1) 28 [.int .i64 e.kind,.int .i64 e.num,.slice s1 e.kids.length c1]
   |7=>Blk wx (w.heap.size+1+1) 28 [Ad (vs 4) 0,Ad (vs 4) 1,Ad (vs 4) 2]
   |_=>True) (fun i iv vs=>match i with
   |0=>vs 0= .agg #[.int .i64 t,.int .i64 a]
   |1=>vs 1= .agg #[.int .i64 e.kind,.int .i64 e.num,.slice s1 e.kids.length c1]
   |2=>vs 2=x2
   |3=>vs 3= .agg #[.int .i64 t,.int .i64 a]
   |4=>∃u,vs 4= .agg #[.int .i64 (Ig.e u).kind,.int .i64 u.e.num,.slice u.s u.e.kids.length u.c]
   |5=>True
   |6=>True
   |7=>True
   |_=>True) (by kernel_rfl) (by kernel_rfl) [0,1,2,3,4,5,6,7] (by kernel_rfl) ?hbase ?hGb ?hG ?hJ ?hE ?hEE ?hstep ?hQ
  case hbase=>first|exact Nat.le_refl _|omega|(simp; omega)
  case hGb=>
   exact hGb
  case hG=>
   exact hGd
  case hJ=>
   intro i hi iv iv' vs vs' wx wx' ha hv hz hk hj;simp at hi
   rcases hi with rfl|rfl|rfl|rfl|rfl|rfl|rfl|rfl
   all_goals try exact (aG hv _).symm.trans hj
   ·have e4:=aG hv 4;have g4:=aG ha 4;obtain ⟨u,q1,q2,q3⟩:=hj;exact ⟨u,e4 ▸ q1,g4 ▸ q2.keep hz (fun b hb h1=>hk.out b hb (Au h1.1 h1.2)) (fun b h1=>h1),q3.keep (hk.out _ q3.lt (Ao 0 (by decide) (Or.inl ⟨rfl,rfl⟩)))⟩
   ·have hj':Blk wx (w.heap.size) 25 [.int .i64 t,.int .i64 a]:=hj
    show Blk wx' (w.heap.size) 25 [.int .i64 t,.int .i64 a]
    exact hj'.keep (hk.out _ hj'.lt (Ao 1 (by decide) (Or.inr (Or.inl ⟨rfl,rfl⟩))))
   ·have hj':Blk wx (w.heap.size+1) 28 [.int .i64 e.kind,.int .i64 e.num,.slice s1 e.kids.length c1]:=hj
    show Blk wx' (w.heap.size+1) 28 [.int .i64 e.kind,.int .i64 e.num,.slice s1 e.kids.length c1]
    exact hj'.keep (hk.out _ hj'.lt (Ao 2 (by decide) (Or.inr (Or.inr (Or.inl ⟨rfl,rfl⟩)))))
   have e4:=aG hv 4;have hj':Blk wx (w.heap.size+1+1) 28 [Ad (vs 4) 0,Ad (vs 4) 1,Ad (vs 4) 2]:=hj
   show Blk wx' (w.heap.size+1+1) 28 [Ad (vs' 4) 0,Ad (vs' 4) 1,Ad (vs' 4) 2]
   rw [←e4];exact hj'.keep (hk.out _ hj'.lt (Ao 3 (by decide) (Or.inr (Or.inr (Or.inr ⟨rfl,rfl⟩)))))
  case hE=>
   intro i hi iv vs wx hj;simp at hi
   rcases hi with rfl|rfl|rfl|rfl|rfl|rfl|rfl|rfl
   all_goals try exact hj
   ·obtain ⟨u,q1, -⟩:=hj;exact ⟨u,q1⟩
   ·trivial
   ·trivial
   trivial
  case hEE=>
   intro i hi iv iv' vs vs' ha hv hj;simp at hi
   rcases hi with rfl|rfl|rfl|rfl|rfl|rfl|rfl|rfl
   all_goals try exact (aG hv _).symm.trans hj
   ·have e4:=aG hv 4;have hj':∃u,vs 4= .agg #[.int .i64 (Ig.e u).kind,.int .i64 u.e.num,.slice u.s u.e.kids.length u.c]:=hj
    show ∃u,vs' 4= .agg #[.int .i64 (Ig.e u).kind,.int .i64 u.e.num,.slice u.s u.e.kids.length u.c]
    rw [←e4];exact hj'
   ·trivial
   ·trivial
   trivial
  case hstep=>
   intro i hi opr ho iv vs w1 hB hS hSo hd he hbd hsep hun K hK;simp at hi;have hzB:=hB.size;have HGb:=hid hGb;clear hGb hGd;have hKeep:∀g,g<w10.heap.size→g≠sb→w.heap.size+1+1<g→w1.heap[g]? =w10.heap[g]? :=fun g hg h1 h2=>hSo.out.block g hg (fun ⟨m,hm⟩=>by rcases hm with ⟨_,h⟩|⟨_,h⟩|⟨_,h⟩|⟨_,h⟩<;>omega);have KE8:=HE8.out.keep (hKeep _ HE8.out.lt (by omega) (by omega));obtain ⟨sg0,sg1,sgl⟩:=(HSG.out.keep (hKeep _ HSG.out.lt (by omega) (by omega))).all2;obtain ⟨ea0,ea1,ea2, -, -, -, eal⟩:=KE8.all3;have hat:∀w',Ai (fun i=>i=sb) w1 w'→Ap w' w8.heap.size 0 e:=fun w' k=>Qb (KE8.keep (k.2 _ KE8.lt (by show ¬_=_; omega))) ((HE.out.keep (Ai.of_spares hSo.out (fun b _ ⟨m,hm⟩=>Or.inl (by omega)))).keep (k.more (fun b _ h=>Or.inl (by omega)))).rd;clear hKeep KE8;generalize hA:Af _ 0 vs _=A at hK ⊢;simp only [Af,Ac] at hA
   rcases hi with rfl|rfl|rfl|rfl|rfl|rfl|rfl|rfl
   all_goals
    simp at ho;subst ho;subst hA
   ·go_wp2_with fail;exact Ab.mk (hK _ _ _ nn (by first|rfl|(simp only [Ac])) (Aa.refl _) (fun iv' _ _=>rfl))
   ·go_wp2_with fail;exact Ab.mk (hK _ _ _ nn (by first|rfl|(simp only [Ac])) (Aa.refl _) (fun iv' _ _=>rfl))
   ·go_wp2_with fail;refine Ab.mk (hK ?val3_2 _ _ nn ?eqA (Aa.refl _) (fun iv' _ _=> ?ja))
    case eqA=>first|rfl|(simp only [Ac]; rfl)
    case ja=>exact hx2.out.symm
   ·go_wp2_with fail;exact Ab.mk (hK _ _ _ nn (by first|rfl|(simp only [Ac])) (Aa.refl _) (fun iv' _ _=>rfl))
   ·have h2:=(dN hd 2).trans hx2.out;have h3:vs 3=_:=dN hd 3;have KS1:=KS.keep (hS.out 0 _ (by kernel_rfl) (Or.inl ⟨rfl,rfl⟩));have ksc0:=KS1.c0;have ksz0:=KS1.frozen 0;have ksc1:=KS1.c1;have ksz1:=KS1.frozen 1;have ksc2:=KS1.c2;have ksz2:=KS1.frozen 2;have kslt:=KS1.lt;go_wp2_with fail;refine (Pr (B:=B) (N:=20000) (t:=t) (a:=a) (e:=e) (HSRC.out w1 hB KS1) (by omega) (by omega) Hsig.out hat HTR.out (by have:=HSE.out; omega)).mono ?_;rintro e w2 ⟨u,rfl,hr,hs,hbk⟩;go_wp2_with fail;exact Ab.mk (hK (.agg #[.int .i64 (Ig.e u).kind,.int .i64 u.e.num,.slice u.s u.e.kids.length u.c]) _ _ nn (by first|rfl|(simp only [Ac,h2,h3])) (hs.more (fun b h=>Or.inl ⟨0,by decide,(Or.inl ⟨rfl,h⟩)⟩)) (fun iv' _ hi=>⟨u,rfl,RdO.new hr hi,hbk⟩))
   ·have h0:vs 0=_:=dN hd 0;have RA1:=RA.keep (hS.out 1 _ (by kernel_rfl) (Or.inr (Or.inl ⟨rfl,rfl⟩)));have rac0:=RA1.c0;have raz0:=RA1.frozen 0;have rac1:=RA1.c1;have raz1:=RA1.frozen 1;have ralt:=RA1.lt;go_wp2_with fail
    exact Ab.mk (hK undef _ _ (fun _=>rfl) (by simp only [Ac,h0]) ((Ar (b0:=w.heap.size) (by repeat (first|exact Aa.refl _|apply Aa.set))).more (fun b h=>Or.inl ⟨1,by decide,(Or.inr (Or.inl ⟨rfl,h⟩))⟩)) (fun iv' ag hi=>by
     show Blk _ (w.heap.size) 25 [.int .i64 t,.int .i64 a]
     exact ((RA1.set 0 _).set 1 _)))
   ·have h1:vs 1=_:=dN hd 1;have RB1:=RB.keep (hS.out 2 _ (by kernel_rfl) (Or.inr (Or.inr (Or.inl ⟨rfl,rfl⟩))));have rbc0:=RB1.c0;have rbz0:=RB1.frozen 0;have rbc1:=RB1.c1;have rbz1:=RB1.frozen 1;have rbc2:=RB1.c2;have rbz2:=RB1.frozen 2;have rblt:=RB1.lt;go_wp2_with fail
    exact Ab.mk (hK undef _ _ (fun _=>rfl) (by simp only [Ac,h1]) ((Ar (b0:=w.heap.size+1) (by repeat (first|exact Aa.refl _|apply Aa.set))).more (fun b h=>Or.inl ⟨2,by decide,(Or.inr (Or.inr (Or.inl ⟨rfl,h⟩)))⟩)) (fun iv' ag hi=>by
     show Blk _ (w.heap.size+1) 28 [.int .i64 e.kind,.int .i64 e.num,.slice s1 e.kids.length c1]
     exact (((RB1.set 0 _).set 1 _).set 2 _)))
   obtain ⟨u,h4,f4,fb4⟩:=dN hd 4;have RC1:=RC.keep (hS.out 3 _ (by kernel_rfl) (Or.inr (Or.inr (Or.inr ⟨rfl,rfl⟩))));have rcc0:=RC1.c0;have rcz0:=RC1.frozen 0;have rcc1:=RC1.c1;have rcz1:=RC1.frozen 1;have rcc2:=RC1.c2;have rcz2:=RC1.frozen 2;have rclt:=RC1.lt;have h4':=h4;go_wp2_with fail
   exact Ab.mk (hK undef _ _ (fun _=>rfl) (by simp only [Ac,h4]) ((Ar (b0:=w.heap.size+1+1) (by repeat (first|exact Aa.refl _|apply Aa.set))).more (fun b h=>Or.inl ⟨3,by decide,(Or.inr (Or.inr (Or.inr ⟨rfl,h⟩)))⟩)) (fun iv' ag hi=>by
    show Blk _ (w.heap.size+1+1) 28 [Ad (vs 4) 0,Ad (vs 4) 1,Ad (vs 4) 2]
    rw [h4]
    exact (((RC1.set 0 _).set 1 _).set 2 _)))
  case hQ=>
   intro iv vs wx hB hSp hd he hbd hsep;have hzB:=hB.size;have h0:vs 0=_:=dE hd 0;have h1:vs 1=_:=dE hd 1;have h2:=(dE hd 2).trans hx2.out;have h3:vs 3=_:=dE hd 3;obtain ⟨u,h4,f4,fb4⟩:=dE hd 4;have f5:Blk _ (w.heap.size) 25 [.int .i64 t,.int .i64 a]:=dE hd 5;have f6:Blk _ (w.heap.size+1) 28 [.int .i64 e.kind,.int .i64 e.num,.slice s1 e.kids.length c1]:=dE hd 6;have f7:Blk _ (w.heap.size+1+1) 28 [Ad (vs 4) 0,Ad (vs 4) 1,Ad (vs 4) 2]:=dE hd 7;simp only [Af,Ac];have hOq:Ai (fun i=>i<w7.heap.size) w10 wx:=Ai.of_spares hSp.out (fun b _ ⟨m,hg⟩=>hGX m b hg);have r4:RdX (fun i=>i<w7.heap.size) wx (Ae u.e.kids) (.slice u.s u.e.kids.length u.c):=f4.done hOq (fun b hf hx=>by have q:=dM hbd 4; have q':=hXW b hx; omega);clear f4;rw [h4] at f7
   have hG8:∀b,(∃m,(m=0∧b=sb)∨(m=1∧b=w.heap.size)∨(m=2∧b=w.heap.size+1)∨(m=3∧b=w.heap.size+1+1))→b<w7.heap.size:=fun b ⟨m,hm⟩=>by omega
   have hre:=(HE.out.keep (Ai.of_spares hSp.out (fun b _ h=>Or.inl (by have:=hG8 b h; omega)))).rd;have hu:=u.h;obtain ⟨a0,a1,al⟩:=f5.all2;obtain ⟨b0,b1,b2, -, -, -, bl⟩:=f6.all3;obtain ⟨k0,k1,k2, -, -, -, kl⟩:=f7.all3;simp only [Ad] at k0 k1 k2;go_wp2_with fail;refine bodyPost_ret (v:= .tuple #[.agg #[.int .i64 t,.int .i64 a],.agg #[.int .i64 e.kind,.int .i64 e.num,.slice s1 e.kids.length c1],.agg #[.int .i64 u.e.kind,.int .i64 u.e.num,.slice u.s u.e.kids.length u.c]]) (by simp [results,Tryz.results5,go_sem,a0,a1,b0,b1,b2,k0,k1,k2]) rfl ?_;exact ⟨t,a,e,u.e,s1,u.s,c1,u.c,rfl,hre,r4.rd,Hsig.out,HTR.out,HSE.out,hu,HBW.out.trans hB⟩
 obtain ⟨sg0,sg1,sgl'⟩:=SG.all2;go_wp2_with fail;clear sg0 sg1 sgl' HE HTR HSE;refine (Lb (n:=6) D.1 (by omega) (by omega) Hsig.out (by omega) (by omega)).mono ?_;rintro f w11 ⟨x,s2,c2,rfl,hf,htr2,hsz2,D1⟩;replace RA:=D1.blk RA (by omega);replace RB:=D1.blk RB (by omega);replace RC:=D1.blk RC (by omega);replace SG:=D1.blk SG (by omega);replace E8:=D1.blk E8 (by omega);replace D:=D.trans D1;have hz11:=D1.size;have hfx:=RdX.fresh hf (X:=fun i=>i<w7.heap.size∨i=w8.heap.size) (fun b h=>by omega);clear D1 hf;obtain ⟨w12,e12,P1,hb12,hz12⟩:=A7 w11 28 (.int .i64 x.kind) (.int .i64 x.num) (.slice s2 x.kids.length c2);replace RA:=RA.below hb12;replace RB:=RB.below hb12;replace RC:=RC.below hb12;replace SG:=SG.below hb12;replace E8:=E8.below hb12;replace D:=D.on hb12;have hk:=Iw P1 (X:=fun i=>i<w7.heap.size∨i=w8.heap.size) (fun h=>by omega) (hfx.below hb12);obtain ⟨p0,p1,p2,y0,y1,y2,ltE8⟩:=E8.all3;obtain ⟨w13,e13,T8,hs13⟩:=Dy E8 (.int .i64 8) (.int .i64 0) (.slice (some ⟨w11.heap.size,0,none⟩) 1 1)
 have hz13:w13.heap.size=w12.heap.size:=by rw [←e13]; simp [World.setCell]
 clear hb12 hfx P1 E8;go_wp2_with fail;clear e12 e13 p0 p1 p2 y0 y1 y2;replace RA:=RA.keep (hs13.block _ RA.lt (by omega));replace RB:=RB.keep (hs13.block _ RB.lt (by omega));replace RC:=RC.keep (hs13.block _ RC.lt (by omega));replace SG:=SG.keep (hs13.block _ SG.lt (by omega));replace D:=D.set hs13 (by omega) (by omega) (by omega);have HE:=hid (hk.keep (Ai.of_spares hs13 (fun b _ h=>Or.inr h)));have HTR:Hid ((Ex.mk 8 0 [x]).tree (t - 1) (a - 1)=true):=Ox htr2
 have HSE:Hid ((Ex.mk 8 0 [x]).size≤40):=by show _≤_; simp only [Ex.size_eq (.mk _ _ [_]),Ex.kids,Ex.sizeL]; omega
 have HBW:=hid (HB5.out.trans (D.2.below (B:=w.heap.size) (by omega) (fun i hi=>by omega)));have HS:=hid (D.1.more (M:=20000) (by omega))
 have n5:w8.heap.size<w13.heap.size:=by omega
 have n6:w7.heap.size<w13.heap.size:=by omega
 clear hz3' hz5 hz6 hz7 hz8 hz9 hz10 hz11 hz12 hz13 hsB hsl sgl S D hk hsz2 htr2 hs13;have HSG:=hid SG;have HE8:=hid T8;clear SG T8;obtain ⟨hb0,xs',cs,cc,p,z,KS,hrx,hxs,hpN⟩:=HS.out;have HRX:=hid hrx;have HXS:=hid hxs;have hWw:w.heap.size≤w13.heap.size:=HBW.out.size;have HSRC0:∀w1:World,Below w.heap.size w13 w1→Blk w1 sb 56 [.slice cs xs'.length cc,.int .i64 p,.int .u64 z]→Cw B sb 20000 w1:=fun w1 hB K1=>⟨hb0,xs',cs,cc,p,z,K1,HRX.out.keep ⟨hB.size,fun i hi hn=>hB.block i (by omega)⟩,HXS.out,by omega⟩;have HSRC:=hid HSRC0
 have hXW:∀b,b<w7.heap.size→b<w13.heap.size:=fun b h=>by omega
 clear hrx hxs hpN HSRC0;obtain ⟨x2,hx2⟩:=Aj ?a4_2
 have hGb:∀m b,(fun m b=>(m=0∧b=sb)∨(m=1∧b=w.heap.size)∨(m=2∧b=w.heap.size+1)∨(m=3∧b=w.heap.size+1+1)) m b→(w.heap.size)≤b∧b<(w13).heap.size:=by
  intro m b hg;have q:=KS.lt;have q2:=RC.lt;omega
 have hGd:∀m m' b,(fun m b=>(m=0∧b=sb)∨(m=1∧b=w.heap.size)∨(m=2∧b=w.heap.size+1)∨(m=3∧b=w.heap.size+1+1)) m b→(fun m b=>(m=0∧b=sb)∨(m=1∧b=w.heap.size)∨(m=2∧b=w.heap.size+1)∨(m=3∧b=w.heap.size+1+1)) m' b→m=m':=by
  intro m m' b h h';omega
 have hGX:∀m b,(fun m b=>(m=0∧b=sb)∨(m=1∧b=w.heap.size)∨(m=2∧b=w.heap.size+1)∨(m=3∧b=w.heap.size+1+1)) m b→(fun i=>i<w7.heap.size) b:=by
  intro m b hg
  show b<_
  omega
 refine Aw [] [(4,0),(5,1),(6,2),(7,3)] (fun m b=>(m=0∧b=sb)∨(m=1∧b=w.heap.size)∨(m=2∧b=w.heap.size+1)∨(m=3∧b=w.heap.size+1+1)) (w.heap.size) (fun i iv vs wx=>match i with
  |0=>vs 0= .agg #[.int .i64 t,.int .i64 a]
  |1=>vs 1= .agg #[.int .i64 (Ex.mk 8 0 [x]).kind,.int .i64 (Ex.mk 8 0 [x]).num,.slice (some ⟨w11.heap.size,0,none⟩) (Ex.mk 8 0 [x]).kids.length 1]
  |2=>vs 2=x2
  |3=>vs 3= .agg #[.int .i64 t,.int .i64 a]
  |4=>∃u,vs 4= .agg #[.int .i64 (Ig.e u).kind,.int .i64 u.e.num,.slice u.s u.e.kids.length u.c]∧RdO w13 (fun i=>i<w7.heap.size) (fun b=>(iv 4).1≤b∧b<(iv 4).2) wx (Ae u.e.kids) (.slice u.s u.e.kids.length u.c)∧Blk wx (sb) 56 [.slice u.cs u.cl u.cc,.int .i64 u.p,.int .u64 u.y]
  |5=>Blk wx (w.heap.size) 25 [.int .i64 t,.int .i64 a]
  |6=>Blk wx (w.heap.size+1) 28 [.int .i64 (Ex.mk 8 0 [x]).kind,.int .i64 (Ex.mk 8 0 [x]).num,.slice (some ⟨w11.heap.size,0,none⟩) (Ex.mk 8 0 [x]).kids.length 1]
  |7=>Blk wx (w.heap.size+1+1) 28 [Ad (vs 4) 0,Ad (vs 4) 1,Ad (vs 4) 2]
  |_=>True) (fun i iv vs=>match i with
  |0=>vs 0= .agg #[.int .i64 t,.int .i64 a]
  |1=>vs 1= .agg #[.int .i64 (Ex.mk 8 0 [x]).kind,.int .i64 (Ex.mk 8 0 [x]).num,.slice (some ⟨w11.heap.size,0,none⟩) (Ex.mk 8 0 [x]).kids.length 1]
  |2=>vs 2=x2
  |3=>vs 3= .agg #[.int .i64 t,.int .i64 a]
  |4=>∃u,vs 4= .agg #[.int .i64 (Ig.e u).kind,.int .i64 u.e.num,.slice u.s u.e.kids.length u.c]
  |5=>True
  |6=>True
  |7=>True
  |_=>True) (by kernel_rfl) (by kernel_rfl) [0,1,2,3,4,5,6,7] (by kernel_rfl) ?hbase ?hGb ?hG ?hJ ?hE ?hEE ?hstep ?hQ
 case hbase=>first|exact Nat.le_refl _|omega|(simp; omega)
 case hGb=>
  exact hGb
 case hG=>
  exact hGd
 case hJ=>
  intro i hi iv iv' vs vs' wx wx' ha hv hz hk hj;simp at hi
  rcases hi with rfl|rfl|rfl|rfl|rfl|rfl|rfl|rfl
  all_goals try exact (aG hv _).symm.trans hj
  ·have e4:=aG hv 4;have g4:=aG ha 4;obtain ⟨u,q1,q2,q3⟩:=hj;exact ⟨u,e4 ▸ q1,g4 ▸ q2.keep hz (fun b hb h1=>hk.out b hb (Au h1.1 h1.2)) (fun b h1=>h1),q3.keep (hk.out _ q3.lt (Ao 0 (by decide) (Or.inl ⟨rfl,rfl⟩)))⟩
  ·have hj':Blk wx (w.heap.size) 25 [.int .i64 t,.int .i64 a]:=hj
   show Blk wx' (w.heap.size) 25 [.int .i64 t,.int .i64 a]
   exact hj'.keep (hk.out _ hj'.lt (Ao 1 (by decide) (Or.inr (Or.inl ⟨rfl,rfl⟩))))
  ·have hj':Blk wx (w.heap.size+1) 28 [.int .i64 (Ex.mk 8 0 [x]).kind,.int .i64 (Ex.mk 8 0 [x]).num,.slice (some ⟨w11.heap.size,0,none⟩) (Ex.mk 8 0 [x]).kids.length 1]:=hj
   show Blk wx' (w.heap.size+1) 28 [.int .i64 (Ex.mk 8 0 [x]).kind,.int .i64 (Ex.mk 8 0 [x]).num,.slice (some ⟨w11.heap.size,0,none⟩) (Ex.mk 8 0 [x]).kids.length 1]
   exact hj'.keep (hk.out _ hj'.lt (Ao 2 (by decide) (Or.inr (Or.inr (Or.inl ⟨rfl,rfl⟩)))))
  have e4:=aG hv 4;have hj':Blk wx (w.heap.size+1+1) 28 [Ad (vs 4) 0,Ad (vs 4) 1,Ad (vs 4) 2]:=hj
  show Blk wx' (w.heap.size+1+1) 28 [Ad (vs' 4) 0,Ad (vs' 4) 1,Ad (vs' 4) 2]
  rw [←e4];exact hj'.keep (hk.out _ hj'.lt (Ao 3 (by decide) (Or.inr (Or.inr (Or.inr ⟨rfl,rfl⟩)))))
 case hE=>
  intro i hi iv vs wx hj;simp at hi
  rcases hi with rfl|rfl|rfl|rfl|rfl|rfl|rfl|rfl
  all_goals try exact hj
  ·obtain ⟨u,q1, -⟩:=hj;exact ⟨u,q1⟩
  ·trivial
  ·trivial
  trivial
 case hEE=>
  intro i hi iv iv' vs vs' ha hv hj;simp at hi
  rcases hi with rfl|rfl|rfl|rfl|rfl|rfl|rfl|rfl
  all_goals try exact (aG hv _).symm.trans hj
  ·have e4:=aG hv 4;have hj':∃u,vs 4= .agg #[.int .i64 (Ig.e u).kind,.int .i64 u.e.num,.slice u.s u.e.kids.length u.c]:=hj
   show ∃u,vs' 4= .agg #[.int .i64 (Ig.e u).kind,.int .i64 u.e.num,.slice u.s u.e.kids.length u.c]
   rw [←e4];exact hj'
  ·trivial
  ·trivial
  trivial
 case hstep=>
  intro i hi opr ho iv vs w1 hB hS hSo hd he hbd hsep hun K hK;simp at hi;have hzB:=hB.size;have HGb:=hid hGb;clear hGb hGd;have hKeep:∀g,g<w13.heap.size→g≠sb→w.heap.size+1+1<g→w1.heap[g]? =w13.heap[g]? :=fun g hg h1 h2=>hSo.out.block g hg (fun ⟨m,hm⟩=>by rcases hm with ⟨_,h⟩|⟨_,h⟩|⟨_,h⟩|⟨_,h⟩<;>omega);have KE8:=HE8.out.keep (hKeep _ HE8.out.lt (by omega) (by omega));obtain ⟨sg0,sg1,sgl⟩:=(HSG.out.keep (hKeep _ HSG.out.lt (by omega) (by omega))).all2;obtain ⟨ea0,ea1,ea2, -, -, -, eal⟩:=KE8.all3;have hat:∀w',Ai (fun i=>i=sb) w1 w'→Ap w' w8.heap.size 0 (Ex.mk 8 0 [x]):=fun w' k=>Qb (KE8.keep (k.2 _ KE8.lt (by show ¬_=_; omega))) ((HE.out.keep (Ai.of_spares hSo.out (fun b _ ⟨m,hm⟩=>Or.inl (by omega)))).keep (k.more (fun b _ h=>Or.inl (by omega)))).rd;clear hKeep KE8;generalize hA:Af _ 0 vs _=A at hK ⊢;simp only [Af,Ac] at hA
  rcases hi with rfl|rfl|rfl|rfl|rfl|rfl|rfl|rfl
  all_goals
   simp at ho;subst ho;subst hA
  ·go_wp2_with fail;exact Ab.mk (hK _ _ _ nn (by first|rfl|(simp only [Ac])) (Aa.refl _) (fun iv' _ _=>rfl))
  ·go_wp2_with fail;exact Ab.mk (hK _ _ _ nn (by first|rfl|(simp only [Ac])) (Aa.refl _) (fun iv' _ _=>rfl))
  ·go_wp2_with fail;refine Ab.mk (hK ?val4_2 _ _ nn ?eqA (Aa.refl _) (fun iv' _ _=> ?ja))
   case eqA=>first|rfl|(simp only [Ac]; rfl)
   case ja=>exact hx2.out.symm
  ·go_wp2_with fail;exact Ab.mk (hK _ _ _ nn (by first|rfl|(simp only [Ac])) (Aa.refl _) (fun iv' _ _=>rfl))
  ·have h2:=(dN hd 2).trans hx2.out;have h3:vs 3=_:=dN hd 3;have KS1:=KS.keep (hS.out 0 _ (by kernel_rfl) (Or.inl ⟨rfl,rfl⟩));have ksc0:=KS1.c0;have ksz0:=KS1.frozen 0;have ksc1:=KS1.c1;have ksz1:=KS1.frozen 1;have ksc2:=KS1.c2;have ksz2:=KS1.frozen 2;have kslt:=KS1.lt;go_wp2_with fail;refine (Pr (B:=B) (N:=20000) (t:=t) (a:=a) (e:=(Ex.mk 8 0 [x])) (HSRC.out w1 hB KS1) (by omega) (by omega) Hsig.out hat HTR.out (by have:=HSE.out; omega)).mono ?_;rintro e w2 ⟨u,rfl,hr,hs,hbk⟩;go_wp2_with fail;exact Ab.mk (hK (.agg #[.int .i64 (Ig.e u).kind,.int .i64 u.e.num,.slice u.s u.e.kids.length u.c]) _ _ nn (by first|rfl|(simp only [Ac,h2,h3])) (hs.more (fun b h=>Or.inl ⟨0,by decide,(Or.inl ⟨rfl,h⟩)⟩)) (fun iv' _ hi=>⟨u,rfl,RdO.new hr hi,hbk⟩))
  ·have h0:vs 0=_:=dN hd 0;have RA1:=RA.keep (hS.out 1 _ (by kernel_rfl) (Or.inr (Or.inl ⟨rfl,rfl⟩)));have rac0:=RA1.c0;have raz0:=RA1.frozen 0;have rac1:=RA1.c1;have raz1:=RA1.frozen 1;have ralt:=RA1.lt;go_wp2_with fail
   exact Ab.mk (hK undef _ _ (fun _=>rfl) (by simp only [Ac,h0]) ((Ar (b0:=w.heap.size) (by repeat (first|exact Aa.refl _|apply Aa.set))).more (fun b h=>Or.inl ⟨1,by decide,(Or.inr (Or.inl ⟨rfl,h⟩))⟩)) (fun iv' ag hi=>by
    show Blk _ (w.heap.size) 25 [.int .i64 t,.int .i64 a]
    exact ((RA1.set 0 _).set 1 _)))
  ·have h1:vs 1=_:=dN hd 1;have RB1:=RB.keep (hS.out 2 _ (by kernel_rfl) (Or.inr (Or.inr (Or.inl ⟨rfl,rfl⟩))));have rbc0:=RB1.c0;have rbz0:=RB1.frozen 0;have rbc1:=RB1.c1;have rbz1:=RB1.frozen 1;have rbc2:=RB1.c2;have rbz2:=RB1.frozen 2;have rblt:=RB1.lt;go_wp2_with fail
   exact Ab.mk (hK undef _ _ (fun _=>rfl) (by simp only [Ac,h1]) ((Ar (b0:=w.heap.size+1) (by repeat (first|exact Aa.refl _|apply Aa.set))).more (fun b h=>Or.inl ⟨2,by decide,(Or.inr (Or.inr (Or.inl ⟨rfl,h⟩)))⟩)) (fun iv' ag hi=>by
    show Blk _ (w.heap.size+1) 28 [.int .i64 (Ex.mk 8 0 [x]).kind,.int .i64 (Ex.mk 8 0 [x]).num,.slice (some ⟨w11.heap.size,0,none⟩) (Ex.mk 8 0 [x]).kids.length 1]
    exact (((RB1.set 0 _).set 1 _).set 2 _)))
  obtain ⟨u,h4,f4,fb4⟩:=dN hd 4;have RC1:=RC.keep (hS.out 3 _ (by kernel_rfl) (Or.inr (Or.inr (Or.inr ⟨rfl,rfl⟩))));have rcc0:=RC1.c0;have rcz0:=RC1.frozen 0;have rcc1:=RC1.c1;have rcz1:=RC1.frozen 1;have rcc2:=RC1.c2;have rcz2:=RC1.frozen 2;have rclt:=RC1.lt;have h4':=h4;go_wp2_with fail
  exact Ab.mk (hK undef _ _ (fun _=>rfl) (by simp only [Ac,h4]) ((Ar (b0:=w.heap.size+1+1) (by repeat (first|exact Aa.refl _|apply Aa.set))).more (fun b h=>Or.inl ⟨3,by decide,(Or.inr (Or.inr (Or.inr ⟨rfl,h⟩)))⟩)) (fun iv' ag hi=>by
   show Blk _ (w.heap.size+1+1) 28 [Ad (vs 4) 0,Ad (vs 4) 1,Ad (vs 4) 2]
   rw [h4]
   exact (((RC1.set 0 _).set 1 _).set 2 _)))
 intro iv vs wx hB hSp hd he hbd hsep;have hzB:=hB.size;have h0:vs 0=_:=dE hd 0;have h1:vs 1=_:=dE hd 1;have h2:=(dE hd 2).trans hx2.out;have h3:vs 3=_:=dE hd 3;obtain ⟨u,h4,f4,fb4⟩:=dE hd 4;have f5:Blk _ (w.heap.size) 25 [.int .i64 t,.int .i64 a]:=dE hd 5;have f6:Blk _ (w.heap.size+1) 28 [.int .i64 (Ex.mk 8 0 [x]).kind,.int .i64 (Ex.mk 8 0 [x]).num,.slice (some ⟨w11.heap.size,0,none⟩) (Ex.mk 8 0 [x]).kids.length 1]:=dE hd 6;have f7:Blk _ (w.heap.size+1+1) 28 [Ad (vs 4) 0,Ad (vs 4) 1,Ad (vs 4) 2]:=dE hd 7;simp only [Af,Ac];have hOq:Ai (fun i=>i<w7.heap.size) w13 wx:=Ai.of_spares hSp.out (fun b _ ⟨m,hg⟩=>hGX m b hg);have r4:RdX (fun i=>i<w7.heap.size) wx (Ae u.e.kids) (.slice u.s u.e.kids.length u.c):=f4.done hOq (fun b hf hx=>by have q:=dM hbd 4; have q':=hXW b hx; omega);clear f4;rw [h4] at f7
 have hG8:∀b,(∃m,(m=0∧b=sb)∨(m=1∧b=w.heap.size)∨(m=2∧b=w.heap.size+1)∨(m=3∧b=w.heap.size+1+1))→b<w7.heap.size:=fun b ⟨m,hm⟩=>by omega
 have hre:=(HE.out.keep (Ai.of_spares hSp.out (fun b _ h=>Or.inl (by have:=hG8 b h; omega)))).rd;have hu:=u.h;obtain ⟨a0,a1,al⟩:=f5.all2;obtain ⟨b0,b1,b2, -, -, -, bl⟩:=f6.all3;obtain ⟨k0,k1,k2, -, -, -, kl⟩:=f7.all3;simp only [Ad] at k0 k1 k2;go_wp2_with fail;refine bodyPost_ret (v:= .tuple #[.agg #[.int .i64 t,.int .i64 a],.agg #[.int .i64 (Ex.mk 8 0 [x]).kind,.int .i64 (Ex.mk 8 0 [x]).num,.slice (some ⟨w11.heap.size,0,none⟩) (Ex.mk 8 0 [x]).kids.length 1],.agg #[.int .i64 u.e.kind,.int .i64 u.e.num,.slice u.s u.e.kids.length u.c]]) (by simp [results,Tryz.results5,go_sem,a0,a1,b0,b1,b2,k0,k1,k2]) rfl ?_;exact ⟨t,a,(Ex.mk 8 0 [x]),u.e,(some ⟨w11.heap.size,0,none⟩),u.s,1,u.c,rfl,hre,r4.rd,Hsig.out,HTR.out,HSE.out,hu,HBW.out.trans hB⟩
end Go.Proofs.YtlchgfbkdjjngaaGreatDoor
