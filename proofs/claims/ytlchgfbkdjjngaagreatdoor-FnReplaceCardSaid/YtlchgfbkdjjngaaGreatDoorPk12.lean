/-
  Parts of a proof, joined: SpDot, Src. No condition.
-/
import Derived.Laws.BitsLemmas
import Derived.Laws.Bits64
import Derived.Test.YtlchgfbkdjjngaaGreatDoorPk9
import Derived.Test.YtlchgfbkdjjngaaGreatDoorPk10
set_option linter.unusedVariables false
set_option linter.unusedSimpArgs false
namespace Go.Proofs.YtlchgfbkdjjngaaGreatDoor
open Go.ChangeShapes Go.WideShapes Go.ChangeAt Go.RowKit Go.Deep Go.Sort
def Ml (w:World) (e:Ex) (f:Ending) (w':World):Prop:=∃s' c',f= .returned (.agg #[.int .i64 e.kind,.int .i64 e.num,.slice s' e.kids.length c'])∧Ag w w' [Ae e.kids] [.slice s' e.kids.length c']∧Below w.heap.size w w'
theorem Ag.single {w w':World} {d:D} {v:Value} (h:Ag w w' [d] [v]):En w w' d v:=by
 obtain ⟨F,h1,h2,h3⟩:=h;simp only [Ows] at h1;obtain ⟨x,r,G,K,e1,rfl,hx,rfl,rfl⟩:=h1;simp only [List.cons.injEq,and_true] at e1;subst e1;rw [List.append_nil] at h2 h3;exact ⟨G,hx,h2,h3⟩
theorem Dd {w w':World}:Ag w w' [Ae []] [.slice none 0 0]:=
 Ag.one ⟨[],by simp only [Ae,Ow]; exact ⟨none,0,rfl,by simp,by simp [maxLen],by simp [Ex.cellsL],by simp,Or.inl (by simp)⟩,by simp,by simp⟩
theorem Tb {w:World} {d e:D} {u v:Value} {F:List Nat} (h:Ows w [d,e] [u,v] F):∃G K,F=G++K∧Ow w d u G∧Ow w e v K:=by
 simp only [Ows] at h;obtain ⟨x,r,G,K,e1,rfl,hx,y,r',G',K',e2,rfl,hy,rfl,rfl⟩:=h;simp only [List.cons.injEq] at e1;obtain ⟨rfl,rfl⟩:=e1;simp only [List.cons.injEq] at e2;obtain ⟨rfl, -⟩:=e2;exact ⟨G,G',by rw [List.append_nil],hx,hy⟩
theorem Ou {W w w':World} {x:Ex} {sx:Option Addr} {cx g t:Nat} (h:Ag W w [Ae x.kids] [.slice sx x.kids.length cx]) (hb:Below w.heap.size w w') (hz:W.heap.size≤w.heap.size) (hg:w.heap.size≤g)
  (hk:Blk w' g t [.int .i64 x.kind,.int .i64 x.num,.slice sx x.kids.length cx]):Ag W w' [Ae [x]] [.slice (some ⟨g,0,none⟩) 1 1]:=by
 obtain ⟨F,h1,h2,h3⟩:=h.single;refine Ag.one ⟨g::F, ?_,List.nodup_cons.2 ⟨fun hm=> ?_,h2⟩,fun b hm=> ?_⟩
 ·have h1':=h1.keep fun b hm=>hb.block b (h1.lt b hm);unfold Ae;simp only [Ow];refine ⟨some ⟨g,0,none⟩,1,rfl,Nat.le_refl _,by unfold maxLen; omega,by rw [Ex.cellsL_length],(fun h=>by cases h),Or.inr ⟨g,0,[.int .i64 x.kind,.int .i64 x.num,.slice sx x.kids.length cx],F,rfl,rfl,hk.free,hk.row rfl, ?_⟩⟩;simp only [Ex.cellsL,List.append_nil];rw [Ex.cells_eq];exact Ows.three h1'
 ·have:=h1.lt g hm; omega
 rcases List.mem_cons.1 hm with rfl|hm
 ·omega
 exact h3 b hm
theorem Hg {W w w':World} {x y:Ex} {sx sy:Option Addr} {cx cy g t:Nat} (h:Ag W w [Ae x.kids,Ae y.kids] [.slice sx x.kids.length cx,.slice sy y.kids.length cy]) (hb:Below w.heap.size w w') (hz:W.heap.size≤w.heap.size) (hg:w.heap.size≤g)
  (hk:Blk w' g t [.int .i64 x.kind,.int .i64 x.num,.slice sx x.kids.length cx,.int .i64 y.kind,.int .i64 y.num,.slice sy y.kids.length cy]):Ag W w' [Ae [x,y]] [.slice (some ⟨g,0,none⟩) 2 2]:=by
 obtain ⟨F,h1,h2,h3⟩:=h;refine Ag.one ⟨g::F, ?_,List.nodup_cons.2 ⟨fun hm=> ?_,h2⟩,fun b hm=> ?_⟩
 ·obtain ⟨G,K,rfl,hx,hy⟩:=Tb h1;have hx':=hx.keep fun b hm=>hb.block b (hx.lt b hm);have hy':=hy.keep fun b hm=>hb.block b (hy.lt b hm);unfold Ae;simp only [Ow];refine ⟨some ⟨g,0,none⟩,2,rfl,Nat.le_refl _,by unfold maxLen; omega,by rw [Ex.cellsL_length],(fun h=>by cases h),Or.inr ⟨g,0,[.int .i64 x.kind,.int .i64 x.num,.slice sx x.kids.length cx,.int .i64 y.kind,.int .i64 y.num,.slice sy y.kids.length cy],G++K,rfl,rfl,hk.free,hk.row rfl, ?_⟩⟩;simp only [Ex.cellsL,List.append_nil];rw [Ex.cells_eq,Ex.cells_eq];exact Ows.append (Ows.three hx') (Ows.three hy')
 ·have:=h1.lt g hm; omega
 rcases List.mem_cons.1 hm with rfl|hm
 ·omega
 exact h3 b hm
theorem Kg {w:World}:Calls Tryz.prog 67 #[] w (Ml w (.leaf 1)):=by
 go_enter Tryz.func67,Tryz.ntmps67
 go_wp2_with fail;have T:=(((Blk.new3 w 28 (.int .i64 0) (.int .i64 0) (.slice none 0 0)).set 0 (.int .i64 1)).set 1 (.int .i64 0)).set 2 (.slice none 0 0);have t0:=T.c0;have t1:=T.c1;have t2:=T.c2;exact bodyPost_ret (v:= .agg #[.int .i64 1,.int .i64 0,.slice none 0 0]) (by simp [results,Tryz.results67,go_sem,t0,t1,t2]) rfl ⟨none,0,rfl,Dd,bel⟩
theorem Q8 {w:World}:Calls Tryz.prog 68 #[] w (Ml w (.leaf 2)):=by
 go_enter Tryz.func68,Tryz.ntmps68
 go_wp2_with fail;have T:=(((Blk.new3 w 28 (.int .i64 0) (.int .i64 0) (.slice none 0 0)).set 0 (.int .i64 2)).set 1 (.int .i64 0)).set 2 (.slice none 0 0);have t0:=T.c0;have t1:=T.c1;have t2:=T.c2;exact bodyPost_ret (v:= .agg #[.int .i64 2,.int .i64 0,.slice none 0 0]) (by simp [results,Tryz.results68,go_sem,t0,t1,t2]) rfl ⟨none,0,rfl,Dd,bel⟩
set_option maxHeartbeats 4000000 in
theorem Ei {k k1 n1 k2 n2:Int} {a1 a2:Option Addr} {l1 c1 l2 c2:Nat} {w:World}:
  Calls Tryz.prog 31 #[.int .i64 k,.agg #[.int .i64 k1,.int .i64 n1,.slice a1 l1 c1],.agg #[.int .i64 k2,.int .i64 n2,.slice a2 l2 c2]] w fun f w'=>∃g,f= .returned (.agg #[.int .i64 k,.int .i64 0,.slice (some ⟨g,0,none⟩) 2 2])∧w.heap.size≤g∧
   Blk w' g 28 [.int .i64 k1,.int .i64 n1,.slice a1 l1 c1,.int .i64 k2,.int .i64 n2,.slice a2 l2 c2]∧Below w.heap.size w w':=by
 go_enter Tryz.func31,Tryz.ntmps31
 go_wp2_with fail;obtain ⟨wa,hwa⟩:∃v,v=((w.alloc (.cells #[.int .i64 k1,.int .i64 n1,.slice a1 l1 c1] 28)).alloc (.cells #[.int .i64 k2,.int .i64 n2,.slice a2 l2 c2] 28)):=⟨_,rfl⟩
 have hBa:Below w.heap.size w wa:=by rw [hwa]; (repeat' first|exact Below.refl _ _|assumption|apply Below.alloc|apply Below.drew|apply Below.setCell|omega|(simp; done)|(simp; omega))
 have hza:wa.heap.size=w.heap.size+1+1:=by rw [hwa]; simp
 rw [←hwa];have R:=Blk.new3 wa 28 (.int .i64 k) (.int .i64 0) (.slice (some ⟨w.heap.size+1+1+1,0,none⟩) 2 2);have N:=Blk.made (wa.alloc (.cells #[.int .i64 k,.int .i64 0,.slice (some ⟨w.heap.size+1+1+1,0,none⟩) 2 2] 28)) 28 #[.int .i64 k1,.int .i64 n1,.slice a1 l1 c1,.int .i64 k2,.int .i64 n2,.slice a2 l2 c2]
 have hg:(wa.alloc (.cells #[.int .i64 k,.int .i64 0,.slice (some ⟨w.heap.size+1+1+1,0,none⟩) 2 2] 28)).heap.size=w.heap.size+1+1+1:=by simp; omega
 rw [hg] at N;have T:=R.alloc (.cells #[.int .i64 k1,.int .i64 n1,.slice a1 l1 c1,.int .i64 k2,.int .i64 n2,.slice a2 l2 c2] 28);have hB:=(hBa.alloc (by omega) (.cells #[.int .i64 k,.int .i64 0,.slice (some ⟨w.heap.size+1+1+1,0,none⟩) 2 2] 28)).alloc (by omega) (.cells #[.int .i64 k1,.int .i64 n1,.slice a1 l1 c1,.int .i64 k2,.int .i64 n2,.slice a2 l2 c2] 28);rw [hza] at T;generalize (wa.alloc (.cells #[.int .i64 k,.int .i64 0,.slice (some ⟨w.heap.size+1+1+1,0,none⟩) 2 2] 28)).alloc (.cells #[.int .i64 k1,.int .i64 n1,.slice a1 l1 c1,.int .i64 k2,.int .i64 n2,.slice a2 l2 c2] 28)=w4 at N T hB ⊢;clear R hwa;have t0:=T.c0;have t1:=T.c1;have t2:=T.c2;refine bodyPost_ret (v:= .agg #[.int .i64 k,.int .i64 0,.slice (some ⟨w.heap.size+1+1+1,0,none⟩) 2 2]) (by simp [results,Tryz.results31,go_sem,t0,t1,t2]) rfl ⟨_,rfl,by omega,N,hB⟩
theorem Dt {e:Ex} {b o:Nat} {w:World} (h:Ap w b o e) (h1:e.size≤1073741824):Calls Tryz.prog 29 #[.pointer (some ⟨b,o,none⟩)] w (Ml w e):=
 Ll _ e b o w (Nat.le_refl _) h h1
set_option maxHeartbeats 4000000 in
theorem U4 {e:Ex} {b o:Nat} {w:World} (h:Ap w b o e) (h1:e.size≤1073741824):Calls Tryz.prog 48 #[.pointer (some ⟨b,o,none⟩)] w (Ml w e.star):=by
 have hlt:=h.lt
 go_enter Tryz.func48,Tryz.ntmps48
 go_wp2_with fail;have R:=Blk.new3 w 28 (.int .i64 0) (.int .i64 0) (.slice none 0 0);have hB:Below w.heap.size w (w.alloc (.cells #[.int .i64 0,.int .i64 0,.slice none 0 0] 28)):=bel
 have hz0:(w.alloc (.cells #[.int .i64 0,.int .i64 0,.slice none 0 0] 28)).heap.size=w.heap.size+1:=by simp
 generalize w.alloc (.cells #[.int .i64 0,.int .i64 0,.slice none 0 0] 28)=w1 at R hB hz0 ⊢;refine (Fx _ _ _ _ _ (Nat.le_refl _) (h.below hB)).mono ?_;rintro f w2 ⟨rfl,rfl⟩;have h':=h.below hB;obtain ⟨g0,g1,s,c,g2,g3⟩:=h'
 cases hc:e.cond
 ·by_cases h8:e.kind=8
  ·have c8:(e.kind==8)=true:=by simp [h8]
   have E1:Hid (e.star=e):=by show _=_; unfold Ex.star; rw [hc]; simp [h8]
   clear h8;go_wp2_with fail;refine (Dt (h.below hB) h1).mono ?_;rintro f w3 ⟨s3,c3,rfl,hf,hb⟩;replace hB:=Below.on hB hb hB.size;replace R:=R.below hb;have hz3:=hb.size
   -- the function's end:R the result's box,hB; h3:Ag W V .. (W below V),E1:Hid (result=e)
   -- the result box w.heap.size of world w3 is set to an expression; goal:bodyPost. R:the box; Rests:hs5:Aa,T2
   obtain ⟨r0,r1,r2,z0,z1,z2,ltR⟩:=R.all3;obtain ⟨w5,e5,T2,hs5⟩:=zZ3 R (.int .i64 e.kind) (.int .i64 e.num) (.slice s3 e.kids.length c3);go_wp2_with fail;clear e5;have t0:=T2.c0;have t1:=T2.c1;have t2:=T2.c2;have hzB5:=hB.size;have hB5:=hB.trans (hs5.below (B:=w.heap.size) (by omega) (fun y hy=>by omega));refine bodyPost_ret (v:= .agg #[.int .i64 e.kind,.int .i64 e.num,.slice s3 e.kids.length c3]) (by simp [results,Tryz.results48,go_sem,t0,t1,t2]) rfl ?_;rw [E1.out];exact ⟨_,_,rfl,Ag.from (Ag.keep hf (fun y _ hy2=>hs5.block y hy2 (by omega))) (by omega),hB5⟩
  have c8:(e.kind==8)=false:=by simp [h8]
  have E1:Hid (e.star= .mk 8 0 [e]):=by show _=_; unfold Ex.star; rw [hc]; simp [h8]
  clear h8;go_wp2_with fail;refine (Dt (h.below hB) h1).mono ?_;rintro f w3 ⟨s3,c3,rfl,hf,hb⟩;replace hB:=Below.on hB hb hB.size;replace R:=R.below hb;have hz3:=hb.size;obtain ⟨r0,r1,r2,z0,z1,z2,ltR⟩:=R.all3;go_wp2_with fail;have T2:=((R.set 0 (.int .i64 8)).set 1 (.int .i64 0)).set 2 (.slice (some ⟨w3.heap.size,0,none⟩) 1 1);have hs5:Aa (fun y=>y=w.heap.size) w3 (((w3.setCell ⟨w.heap.size,0,none⟩ (.int .i64 8)).setCell ⟨w.heap.size,1,none⟩ (.int .i64 0)).setCell ⟨w.heap.size,2,none⟩ (.slice (some ⟨w3.heap.size,0,none⟩) 1 1)):=Aa.set (Aa.set (Aa.set (Aa.refl w3)))
  have hz5:(((w3.setCell ⟨w.heap.size,0,none⟩ (.int .i64 8)).setCell ⟨w.heap.size,1,none⟩ (.int .i64 0)).setCell ⟨w.heap.size,2,none⟩ (.slice (some ⟨w3.heap.size,0,none⟩) 1 1)).heap.size=w3.heap.size:=by simp [World.setCell]
  generalize (((w3.setCell ⟨w.heap.size,0,none⟩ (.int .i64 8)).setCell ⟨w.heap.size,1,none⟩ (.int .i64 0)).setCell ⟨w.heap.size,2,none⟩ (.slice (some ⟨w3.heap.size,0,none⟩) 1 1))=w5 at T2 hs5 hz5 ⊢;have N:=Blk.new3 w5 28 (.int .i64 e.kind) (.int .i64 e.num) (.slice s3 e.kids.length c3);have T3:=T2.alloc (.cells #[.int .i64 e.kind,.int .i64 e.num,.slice s3 e.kids.length c3] 28);have t0:=T3.c0;have t1:=T3.c1;have t2:=T3.c2;have hf5:=Ag.keep hf (fun y hy1 hy2=>hs5.block y hy2 (by omega));have hf6:=Ou hf5 (Below.alloc (Below.refl w5.heap.size w5) (Nat.le_refl _) _) (by omega) (Nat.le_refl _) N;rw [hz5] at hf6;have hzB5:=hB.size;have hB6:=(hB.trans (hs5.below (B:=w.heap.size) (by omega) (fun y hy=>by omega))).alloc (by omega) (.cells #[.int .i64 e.kind,.int .i64 e.num,.slice s3 e.kids.length c3] 28);refine bodyPost_ret (v:= .agg #[.int .i64 8,.int .i64 0,.slice (some ⟨w3.heap.size,0,none⟩) 1 1]) (by simp [results,Tryz.results48,go_sem,t0,t1,t2]) rfl ?_;rw [E1.out];exact ⟨_,_,rfl,hf6.from (by omega),hB6⟩
 have E1:Hid (e.star= .leaf 2):=by show _=_; unfold Ex.star; rw [hc]; simp
 go_wp2_with fail;refine (Q8).mono ?_;rintro f w3 ⟨s3,c3,rfl,hf,hb⟩;replace hB:=Below.on hB hb hB.size;replace R:=R.below hb;have hz3:=hb.size
 -- the function's end:R the result's box,hB; h3:Ag W V .. (W below V),E1:Hid (result=(Ex.leaf 2))
 -- the result box w.heap.size of world w3 is set to an expression; goal:bodyPost. R:the box; Rests:hs5:Aa,T2
 obtain ⟨r0,r1,r2,z0,z1,z2,ltR⟩:=R.all3;obtain ⟨w5,e5,T2,hs5⟩:=zZ3 R (.int .i64 (Ex.leaf 2).kind) (.int .i64 (Ex.leaf 2).num) (.slice s3 (Ex.leaf 2).kids.length c3);go_wp2_with fail;clear e5;have t0:=T2.c0;have t1:=T2.c1;have t2:=T2.c2;have hzB5:=hB.size;have hB5:=hB.trans (hs5.below (B:=w.heap.size) (by omega) (fun y hy=>by omega));refine bodyPost_ret (v:= .agg #[.int .i64 (Ex.leaf 2).kind,.int .i64 (Ex.leaf 2).num,.slice s3 (Ex.leaf 2).kids.length c3]) (by simp [results,Tryz.results48,go_sem,t0,t1,t2]) rfl ?_;rw [E1.out];exact ⟨_,_,rfl,Ag.from (Ag.keep hf (fun y _ hy2=>hs5.block y hy2 (by omega))) (by omega),hB5⟩
def Eu (xs:List Int):D:= .sl 1 xs.length (xs.map fun x=>D.raw (.int .u8 x))
def Io (B b:Nat) (xs:List Int) (s:Option Addr) (c N:Nat) (w:World):Prop:=
 B≤b∧∃(p:Nat) (z:Int),Blk w b 56 [.slice s xs.length c,.int .i64 p,.int .u64 z]∧RdX (fun i=>B≤i) w (Eu xs) (.slice s xs.length c)∧(∀x∈xs,0≤x∧x≤255)∧p≤N
def Cw (B b N:Nat) (w:World):Prop:=
 B≤b∧∃(xs:List Int) (s:Option Addr) (c p:Nat) (z:Int),Blk w b 56 [.slice s xs.length c,.int .i64 p,.int .u64 z]∧RdX (fun i=>B≤i) w (Eu xs) (.slice s xs.length c)∧(∀x∈xs,0≤x∧x≤255)∧p≤N
theorem Cw.keep {B b N:Nat} {w w':World} (h:Cw B b N w) (hb:Below B w w') (hk:w'.heap[b]? =w.heap[b]?):Cw B b N w':=by
 obtain ⟨h0,xs,s,c,p,z,h1,h2,h3⟩:=h;exact ⟨h0,xs,s,c,p,z,h1.keep hk,h2.keep ⟨hb.size,fun i hi hn=>hb.block i (by omega)⟩,h3⟩
theorem Cw.lt {B b N:Nat} {w:World} (h:Cw B b N w):b<w.heap.size:=by
 obtain ⟨h0,xs,s,c,p,z,h1,h2,h3⟩:=h;exact h1.lt
theorem Cw.below {B b N:Nat} {w w':World} (h:Cw B b N w) (hb:Below w.heap.size w w'):Cw B b N w':=
 h.keep (hb.mono (by have:=h.lt; have:=h.1; omega)) (hb.block _ h.lt)
theorem Cw.more {B b N M:Nat} {w:World} (h:Cw B b N w) (hM:N≤M):Cw B b M w:=by
 obtain ⟨h0,xs,s,c,p,z,h1,h2,h3,h4⟩:=h;exact ⟨h0,xs,s,c,p,z,h1,h2,h3,by omega⟩
theorem S5 {w:World} {xs:List Int} {b o len cap:Nat} (h:Rd w (Eu xs) (.slice (some ⟨b,o,none⟩) len cap)) {i:Nat} {x:Int} (hx:xs[i]? =some x):b<w.heap.size∧w.cell? ⟨b,o+i,none⟩=some (.int .u8 x):=by
 obtain ⟨_,_,_,_,_,h4⟩:=h.sl_at;have hi:=(List.getElem?_eq_some_iff.1 hx).1
 rcases h4 with h4|⟨b',o',e1,h4⟩
 ·omega
 simp only [Option.some.injEq,Addr.mk.injEq,and_true] at e1;obtain ⟨rfl,rfl⟩:=e1;obtain ⟨v,h5,h6⟩:=h4 i (D.raw (.int .u8 x)) (by rw [List.getElem?_map,hx]; rfl)
 obtain rfl:v= .int .u8 x:=by simp only [Rd] at h6; exact h6.1
 exact ⟨World.block_lt_of_cell? w _ h5,h5⟩
theorem Ph {w:World} {xs:List Int} {a:Option Addr} {len cap:Nat} (h:Rd w (Eu xs) (.slice a len cap)) (hk:0<xs.length):∃b o,a=some ⟨b,o,none⟩:=by
 obtain ⟨_,_,_,_,_,h4⟩:=h.sl_at
 rcases h4 with h4|⟨b',o',e1,_⟩
 ·omega
 exact ⟨b',o',e1⟩
theorem Y8 (z:Int) (h0:0≤z) (h1:z<16777216):0≤wrap64 (bits BinOp.and IntKind.u64 z 255)∧wrap64 (bits BinOp.and IntKind.u64 z 255)≤255:=by
 obtain ⟨n,rfl⟩:=Int.eq_ofNat_of_zero_le h0;have h:=(bits_nat .u64 63 (by decide) (fun n h0 h1=>by rw [IntKind.wrap_u64]; omega) n 255 (by omega) (by decide)).1;have hle:n &&& 255≤255:=Nat.and_le_right;have h':bits BinOp.and IntKind.u64 (n:Int) 255=((n &&& 255:Nat):Int):=h;rw [h'];unfold wrap64;omega
theorem Uw {z y:Int} (h:IntKind.u64.wrap y=z):0≤z / 1099511627776∧z / 1099511627776<16777216:=by
 rw [IntKind.wrap_u64] at h;omega
theorem S9 {w:World} {b t:Nat} {a x y:Value} (h:Blk w b t [a,x,y]) (x' y':Value):∃w',(w.setCell ⟨b,1,none⟩ x').setCell ⟨b,2,none⟩ y'=w'∧Blk w' b t [a,x',y']∧Aa (fun i=>i=b) w w':=
 ⟨_,rfl,(h.set 1 x').set 2 y',Aa.set (Aa.set (Aa.refl w))⟩
set_option maxHeartbeats 4000000 in
theorem Zc {B b N:Nat} {xs:List Int} {s:Option Addr} {c:Nat} {w:World} (h:Io B b xs s c N w) (hN:N<1000000000000):Calls Tryz.prog 44 #[.pointer (some ⟨b,0,none⟩)] w fun f w'=>∃z:Int,f= .returned (.int .i64 z)∧0≤z∧z≤255∧Io B b xs s c (N+1) w'∧Aa (fun i=>i=b) w w':=by
 obtain ⟨hBb,p,z,K,hr,hx,hp⟩:=h;obtain ⟨n0,n1,n2,f0,f1,f2,lt⟩:=K.all3;obtain ⟨-, hl,hc, -⟩:=hr.rd.sl_at;unfold maxLen at hc;have Hr:=hid hr;have Hx:=hid hx;have HK:=hid K;have HB:=hid (Aa.refl (X:=fun i=>i=b) w);have hp0:=Int.natCast_nonneg p
 by_cases hlt:p<xs.length
 ·obtain ⟨x,hxp⟩:∃x,xs[p]? =some x:=⟨_,List.getElem?_eq_getElem hlt⟩;obtain ⟨hx0,hx1⟩:=Hx.out x (List.mem_of_getElem? hxp);obtain ⟨sb,so,rfl⟩:=Ph Hr.out.rd (by omega);have Hxp:=hid hxp
  have hpl:(p:Int)<(xs.length:Int):=by omega
  clear hxp hr hx K
  go_enter Tryz.func44,Tryz.ntmps44
  go_wp2_with fail;have gn0:=fun d os=>cell_regrown n0 d os;have gn1:=fun d os=>cell_regrown n1 d os;have gn2:=fun d os=>cell_regrown n2 d os
  skip
  refine Go.wp_region_quiet_below (by kernel_rfl) (by kernel_rfl) ?_
  repeat (first|go_big_quiet_step ((fail))|quiet_step ((fail)))
  refine wpQuiet_nil ?_; intro _ hw'; obtain ⟨⟨dq,osq⟩,hw''⟩:=hw'; subst hw''; have hq:=below_regrown w dq osq; revert hq; generalize grow (redrawn w dq) osq=w1; intro hq;have hzw1:=hq.size;replace HK:=hid (HK.out.below hq);replace Hr:=hid (Hr.out.below hq);replace HB:=hid (HB.out.trans (Aa.of_below hq));have hz0w1:=HB.out.size;clear gn0 gn1 gn2 n0 n1 n2 f0 f1 f2 lt hq;obtain ⟨n0,n1,n2,f0,f1,f2,lt⟩:=HK.out.all3;go_wp2_with fail;obtain ⟨ltS,g0⟩:=S5 Hr.out.rd Hxp.out;have gn0:=fun d os=>cell_regrown n0 d os;have gn1:=fun d os=>cell_regrown n1 d os;have gn2:=fun d os=>cell_regrown n2 d os;have gg0:=fun d os=>cell_regrown g0 d os;refine Go.wp_region_quiet_below (by kernel_rfl) (by kernel_rfl) ?_
  repeat (first|go_big_quiet_step ((fail))|quiet_step ((fail)))
  refine wpQuiet_nil ?_; intro _ hw'; obtain ⟨⟨dq,osq⟩,hw''⟩:=hw'; subst hw''; have hq:=below_regrown w1 dq osq; revert hq; generalize grow (redrawn w1 dq) osq=w2; intro hq;have hzw2:=hq.size;replace HK:=hid (HK.out.below hq);replace Hr:=hid (Hr.out.below hq);replace HB:=hid (HB.out.trans (Aa.of_below hq));have hz0w2:=HB.out.size;clear gn0 gn1 gn2 n0 n1 n2 f0 f1 f2 lt hq;obtain ⟨n0,n1,n2,f0,f1,f2,lt⟩:=HK.out.all3;go_wp2_with fail;clear g0 gg0;obtain ⟨z',hz'⟩:∃z',IntKind.u64.wrap (IntKind.u64.wrap (IntKind.u64.wrap (z*6364136223846793005)+x)+1442695040888963407)=z':=⟨_,rfl⟩;rw [hz'];obtain ⟨w3,e3,K3,hs3⟩:=S9 HK.out (.int .i64 ((p:Int)+1)) (.int .u64 z');rw [e3];have hB3:Below B w2 w3:=hs3.below (by omega) (fun i hi=>by omega);replace Hr:=hid (Hr.out.keep ⟨hs3.size,fun i hi hn=>hs3.block i hi (fun e=>hn (by omega))⟩);replace HB:=hid (HB.out.trans hs3);replace HK:=hid K3;clear e3 n0 n1 n2 f0 f1 f2 lt K3 hs3 hB3;obtain ⟨n0,n1,n2,f0,f1,f2,lt⟩:=HK.out.all3;have gn0:=fun d os=>cell_regrown n0 d os;have gn1:=fun d os=>cell_regrown n1 d os;have gn2:=fun d os=>cell_regrown n2 d os
  skip
  refine Go.wp_region_quiet_below (by kernel_rfl) (by kernel_rfl) ?_
  repeat (first|go_big_quiet_step ((fail))|quiet_step ((fail)))
  refine wpQuiet_nil ?_; intro _ hw'; obtain ⟨⟨dq,osq⟩,hw''⟩:=hw'; subst hw''; have hq:=below_regrown w3 dq osq; revert hq; generalize grow (redrawn w3 dq) osq=w4; intro hq;have hzw4:=hq.size;replace HK:=hid (HK.out.below hq);replace Hr:=hid (Hr.out.below hq);replace HB:=hid (HB.out.trans (Aa.of_below hq));have hz0w4:=HB.out.size;clear gn0 gn1 gn2 n0 n1 n2 f0 f1 f2 lt hq;obtain ⟨n0,n1,n2,f0,f1,f2,lt⟩:=HK.out.all3;go_wp2_with fail;go_ret
  have e1:((p+1:Nat):Int)=(p:Int)+1:=by omega
  exact ⟨x,rfl,hx0,hx1,⟨hBb,p+1,z',by rw [e1]; exact HK.out,Hr.out,Hx.out,by omega⟩,HB.out⟩
 have hpl:¬(p:Int)<(xs.length:Int):=by omega
 clear hr hx K
 go_enter Tryz.func44,Tryz.ntmps44
 go_wp2_with fail;have gn0:=fun d os=>cell_regrown n0 d os;have gn1:=fun d os=>cell_regrown n1 d os;have gn2:=fun d os=>cell_regrown n2 d os
 skip
 refine Go.wp_region_quiet_below (by kernel_rfl) (by kernel_rfl) ?_
 repeat (first|go_big_quiet_step ((fail))|quiet_step ((fail)))
 refine wpQuiet_nil ?_; intro _ hw'; obtain ⟨⟨dq,osq⟩,hw''⟩:=hw'; subst hw''; have hq:=below_regrown w dq osq; revert hq; generalize grow (redrawn w dq) osq=w2; intro hq;have hzw2:=hq.size;replace HK:=hid (HK.out.below hq);replace Hr:=hid (Hr.out.below hq);replace HB:=hid (HB.out.trans (Aa.of_below hq));have hz0w2:=HB.out.size;clear gn0 gn1 gn2 n0 n1 n2 f0 f1 f2 lt hq;obtain ⟨n0,n1,n2,f0,f1,f2,lt⟩:=HK.out.all3;go_wp2_with fail;obtain ⟨z',hz'⟩:∃z',IntKind.u64.wrap (IntKind.u64.wrap (IntKind.u64.wrap (z*6364136223846793005))+1442695040888963407)=z':=⟨_,rfl⟩;rw [hz'];obtain ⟨w3,e3,K3,hs3⟩:=S9 HK.out (.int .i64 ((p:Int)+1)) (.int .u64 z');rw [e3];have hB3:Below B w2 w3:=hs3.below (by omega) (fun i hi=>by omega);replace Hr:=hid (Hr.out.keep ⟨hs3.size,fun i hi hn=>hs3.block i hi (fun e=>hn (by omega))⟩);replace HB:=hid (HB.out.trans hs3);replace HK:=hid K3;clear e3 n0 n1 n2 f0 f1 f2 lt K3 hs3 hB3;obtain ⟨n0,n1,n2,f0,f1,f2,lt⟩:=HK.out.all3;have gn0:=fun d os=>cell_regrown n0 d os;have gn1:=fun d os=>cell_regrown n1 d os;have gn2:=fun d os=>cell_regrown n2 d os
 skip
 refine Go.wp_region_quiet_below (by kernel_rfl) (by kernel_rfl) ?_
 repeat (first|go_big_quiet_step ((fail))|quiet_step ((fail)))
 refine wpQuiet_nil ?_; intro _ hw'; obtain ⟨⟨dq,osq⟩,hw''⟩:=hw'; subst hw''; have hq:=below_regrown w3 dq osq; revert hq; generalize grow (redrawn w3 dq) osq=w4; intro hq;have hzw4:=hq.size;replace HK:=hid (HK.out.below hq);replace Hr:=hid (Hr.out.below hq);replace HB:=hid (HB.out.trans (Aa.of_below hq));have hz0w4:=HB.out.size;clear gn0 gn1 gn2 n0 n1 n2 f0 f1 f2 lt hq;obtain ⟨n0,n1,n2,f0,f1,f2,lt⟩:=HK.out.all3;go_wp2_with fail;obtain ⟨q1,q2⟩:=Uw hz';obtain ⟨q3,q4⟩:=Y8 _ q1 q2;go_ret
 have e1:((p+1:Nat):Int)=(p:Int)+1:=by omega
 exact ⟨_,rfl,q3,q4,⟨hBb,p+1,z',by rw [e1]; exact HK.out,Hr.out,Hx.out,by omega⟩,HB.out⟩
theorem Io.more {B b N M:Nat} {xs:List Int} {s:Option Addr} {c:Nat} {w:World} (h:Io B b xs s c N w) (hM:N≤M):Io B b xs s c M w:=by
 obtain ⟨h0,p,z,h1,h2,h3,h4⟩:=h;exact ⟨h0,p,z,h1,h2,h3,by omega⟩
theorem Io.w {B b N:Nat} {xs:List Int} {s:Option Addr} {c:Nat} {w:World} (h:Io B b xs s c N w):Cw B b N w:=⟨h.1,xs,s,c,h.2⟩
theorem Cw.v {B b N:Nat} {w:World} (h:Cw B b N w):∃xs s c,Io B b xs s c N w:=by
 obtain ⟨h0,xs,s,c,h1⟩:=h;exact ⟨xs,s,c,h0,h1⟩
def Cg (B b N:Nat) (w w':World):Prop:=Cw B b N w'∧Aa (fun i=>i=b) w w'
theorem Vj {B b N:Nat} {xs:List Int} {s:Option Addr} {c:Nat} {n:Int} {w:World} (h:Io B b xs s c N w) (hN:N<1000000000000) (hn:n≤200):Calls Tryz.prog 27 #[.pointer (some ⟨b,0,none⟩),.int .i64 n] w fun f w'=>∃z:Int,f= .returned (.int .i64 z)∧0≤z∧(z<n∨z=0)∧Io B b xs s c (N+1) w'∧Aa (fun i=>i=b) w w':=by
 by_cases h1:n≤1
 ·go_enter Tryz.func27,Tryz.ntmps27
  go_wp2_with fail;go_ret;exact ⟨0,rfl,by omega,Or.inr rfl,h.more (by omega),Aa.refl _⟩
 go_enter Tryz.func27,Tryz.ntmps27
 go_wp2_with fail;refine (Zc h hN).mono ?_;rintro f w1 ⟨z,rfl,h2,h3,h4,h5⟩;have hm:0≤z % n∧z % n<n:=⟨Int.emod_nonneg _ (by omega),Int.emod_lt_of_pos _ (by omega)⟩;go_wp2_with fail;go_ret;exact ⟨_,rfl,hm.1,Or.inl hm.2,h4,h5⟩
theorem D7 {B b N:Nat} {n:Int} {w:World} (h:Cw B b N w) (hN:N<1000000000000) (hn:n≤200):Calls Tryz.prog 27 #[.pointer (some ⟨b,0,none⟩),.int .i64 n] w fun f w'=>∃z:Int,f= .returned (.int .i64 z)∧0≤z∧(z<n∨z=0)∧Cg B b (N+1) w w':=by
 obtain ⟨xs,s,c,h⟩:=h.v;refine (Vj h hN hn).mono ?_;rintro f w' ⟨z,h1,h2,h3,h4,h5⟩;exact ⟨z,h1,h2,h3,h4.w,h5⟩
theorem Gy {B b N:Nat} {n:Int} {w:World} (h:Cw B b N w) (hN:N<1000000000000) (hn:n≤200):Calls Tryz.prog 16 #[.pointer (some ⟨b,0,none⟩),.int .i64 n] w fun f w'=>∃v:Bool,f= .returned (.bool v)∧Cg B b (N+1) w w':=by
 go_enter Tryz.func16,Tryz.ntmps16
 go_wp2_with fail;refine (D7 h hN hn).mono ?_;rintro f w1 ⟨z,rfl,h2,h3,h4⟩;go_wp2_with fail;go_ret;exact ⟨_,rfl,h4⟩
theorem Cg.blk {B b N:Nat} {w w':World} (h:Cg B b N w w') {g t:Nat} {cs:List Value} (k:Blk w g t cs) (hg:g≠b):Blk w' g t cs:=k.keep (h.2.block _ k.lt hg)
theorem Cg.trans {B b N M:Nat} {w w1 w2:World} (h:Cg B b N w w1) (k:Cg B b M w1 w2):Cg B b M w w2:=⟨k.1,h.2.trans k.2⟩
theorem Cg.on {B b N:Nat} {w w1 w2:World} (h:Cg B b N w w1) (k:Below w1.heap.size w1 w2):Cg B b N w w2:=⟨h.1.below k,h.2.trans (Aa.of_below k)⟩
theorem Cw.drew {B b N:Nat} {w:World} (h:Cw B b N w):Cg B b N w w:=⟨h,Aa.refl _⟩
theorem Cg.more {B b N M:Nat} {w w':World} (h:Cg B b N w w') (hM:N≤M):Cg B b M w w':=⟨h.1.more hM,h.2⟩
theorem Cg.size {B b N:Nat} {w w':World} (h:Cg B b N w w'):w.heap.size≤w'.heap.size:=h.2.size
theorem Blk.set2 {w:World} {g t:Nat} {a b:Value} (h:Blk w g t [a,b]) (x y:Value):∃w',(w.setCell ⟨g,0,none⟩ x).setCell ⟨g,1,none⟩ y=w'∧Blk w' g t [x,y]∧Aa (fun i=>i=g) w w':=
 ⟨_,rfl,(h.set 0 x).set 1 y,Aa.set (Aa.set (Aa.refl w))⟩
theorem Cg.set {B b N:Nat} {w w1 w2:World} (h:Cg B b N w w1) {g:Nat} (k:Aa (fun i=>i=g) w1 w2) (hg:w.heap.size≤g) (hB:B≤w.heap.size) (hb:b<w.heap.size):Cg B b N w w2:=by
 have hz:=h.size;refine ⟨h.1.keep (k.below (by omega) (fun i hi=>by omega)) (k.block _ (by omega) (by omega)), ?_⟩;exact ⟨k.os.trans h.2.os,k.tape.trans h.2.tape,k.output.trans h.2.output,Nat.le_trans hz k.size,fun i hi hn=>(k.block i (by omega) (by omega)).trans (h.2.block i hi hn)⟩
theorem Wr {B b N:Nat} {w:World} (h:Cw B b N w) (hN:N<100000000000) (hB:B≤w.heap.size):
  Calls Tryz.prog 14 #[.pointer (some ⟨b,0,none⟩)] w fun f w'=>∃t a:Int,f= .returned (.agg #[.int .i64 t,.int .i64 a])∧Cj t a=true∧Cg B b (N+4) w w':=by
 have hbw:=h.lt
 go_enter Tryz.func14,Tryz.ntmps14
 go_wp2_with fail;obtain ⟨w1,e1,R,hb1,hz1⟩:=Dl w 25 (.int .i64 0) (.int .i64 0);rw [e1];have D:=h.drew.on hb1;clear e1;refine (D7 D.1 (by omega) (by omega)).mono ?_;rintro f w2 ⟨x,rfl,x0,x1,D1⟩;replace R:=D1.blk R (by omega);replace D:=D.trans D1;have hz2:=D1.size;clear D1 hb1;go_wp2_with fail;refine (D7 D.1 (by omega) (by omega)).mono ?_;rintro f w3 ⟨y,rfl,y0,y1,D1⟩;replace R:=D1.blk R (by omega);replace D:=D.trans D1;have hz3:=D1.size;clear D1;go_wp2_with fail;obtain ⟨w4,e4,L,hb4,hz4⟩:=Dl w3 25 (.int .i64 (1+x)) (.int .i64 (1+y));rw [e4];replace R:=R.below hb4;replace D:=D.on hb4;clear e4 hb4;refine (D7 D.1 (by omega) (by omega)).mono ?_;rintro f w5 ⟨k,rfl,k0,k1,D1⟩;replace R:=D1.blk R (by omega);replace L:=D1.blk L (by omega);replace D:=D.trans D1;have hz5:=D1.size;clear D1
 by_cases hk0:k=0
 ·subst hk0;go_wp2_with fail;refine (D7 D.1 (by omega) (by omega)).mono ?_;rintro f w6 ⟨u,rfl,u0,u1,D1⟩;replace R:=D1.blk R (by omega);replace L:=D1.blk L (by omega);replace D:=D.trans D1;have hz6:=D1.size;clear D1;obtain ⟨l0,l1,ltL⟩:=L.all2;have lf:=L.frozen 0;have rf0:=R.frozen 0;have rf1:=R.frozen 1;obtain ⟨rr0,rr1,ltR⟩:=R.all2
  have hne:w3.heap.size≠w.heap.size:=by omega
  go_wp2_with fail;obtain ⟨w7,e7,L7,hs7⟩:∃w7,w6.setCell ⟨w3.heap.size,0,none⟩ (.int .i64 u)=w7∧Blk w7 w3.heap.size 25 [.int .i64 u,.int .i64 (1+y)]∧Aa (fun i=>i=w3.heap.size) w6 w7:=⟨_,rfl,L.set 0 _,Aa.set (Aa.refl _)⟩;rw [e7];replace R:=R.keep (hs7.block _ ltR (by omega));replace D:=D.set hs7 (by omega) (by omega) hbw;replace L:=L7;clear e7 hs7 L7 lf ltL ltR l0 l1 rr0 rr1 rf0 rf1;obtain ⟨w9,e9,R9,hs9⟩:=Blk.set2 R (.int .i64 u) (.int .i64 (1+y));rw [e9];obtain ⟨r0,r1, -⟩:=R9.all2;have D9:=D.set hs9 (by omega) (by omega) hbw;refine bodyPost_ret (v:= .agg #[.int .i64 u,.int .i64 (1+y)]) (by simp [results,Tryz.results14,go_sem,r0,r1]) rfl ?_;exact ⟨_,_,rfl,by simp only [Cj,inB,Bool.and_eq_true,decide_eq_true_eq]; omega,D9.more (by omega)⟩
 by_cases hk1:k=1
 ·subst hk1;go_wp2_with fail;refine (D7 D.1 (by omega) (by omega)).mono ?_;rintro f w6 ⟨u,rfl,u0,u1,D1⟩;replace R:=D1.blk R (by omega);replace L:=D1.blk L (by omega);replace D:=D.trans D1;have hz6:=D1.size;clear D1;obtain ⟨l0,l1,ltL⟩:=L.all2;have lf:=L.frozen 1;have rf0:=R.frozen 0;have rf1:=R.frozen 1;obtain ⟨rr0,rr1,ltR⟩:=R.all2
  have hne:w3.heap.size≠w.heap.size:=by omega
  go_wp2_with fail;obtain ⟨w7,e7,L7,hs7⟩:∃w7,w6.setCell ⟨w3.heap.size,1,none⟩ (.int .i64 u)=w7∧Blk w7 w3.heap.size 25 [.int .i64 (1+x),.int .i64 u]∧Aa (fun i=>i=w3.heap.size) w6 w7:=⟨_,rfl,L.set 1 _,Aa.set (Aa.refl _)⟩;rw [e7];replace R:=R.keep (hs7.block _ ltR (by omega));replace D:=D.set hs7 (by omega) (by omega) hbw;replace L:=L7;clear e7 hs7 L7 lf ltL ltR l0 l1 rr0 rr1 rf0 rf1;obtain ⟨w9,e9,R9,hs9⟩:=Blk.set2 R (.int .i64 (1+x)) (.int .i64 u);rw [e9];obtain ⟨r0,r1, -⟩:=R9.all2;have D9:=D.set hs9 (by omega) (by omega) hbw;refine bodyPost_ret (v:= .agg #[.int .i64 (1+x),.int .i64 u]) (by simp [results,Tryz.results14,go_sem,r0,r1]) rfl ?_;exact ⟨_,_,rfl,by simp only [Cj,inB,Bool.and_eq_true,decide_eq_true_eq]; omega,D9.more (by omega)⟩
 skip
 obtain ⟨l0,l1,ltL⟩:=L.all2;have rf0:=R.frozen 0;have rf1:=R.frozen 1;obtain ⟨rr0,rr1,ltR⟩:=R.all2;go_wp2_with fail;obtain ⟨w9,e9,R9,hs9⟩:=Blk.set2 R (.int .i64 (1+x)) (.int .i64 (1+y));rw [e9];obtain ⟨r0,r1, -⟩:=R9.all2;have D9:=D.set hs9 (by omega) (by omega) hbw;refine bodyPost_ret (v:= .agg #[.int .i64 (1+x),.int .i64 (1+y)]) (by simp [results,Tryz.results14,go_sem,r0,r1]) rfl ?_;exact ⟨_,_,rfl,by simp only [Cj,inB,Bool.and_eq_true,decide_eq_true_eq]; omega,D9.more (by omega)⟩
end Go.Proofs.YtlchgfbkdjjngaaGreatDoor
