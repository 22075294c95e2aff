/-
  Parts of a proof, joined: Swap, SpTidy2. No condition.
-/
import Derived.Test.YtlchgfbkdjjngaaGreatDoorPk20
import Derived.Test.YtlchgfbkdjjngaaGreatDoorPk21
set_option linter.unusedVariables false
set_option linter.unusedSimpArgs false
namespace Go.Proofs.YtlchgfbkdjjngaaGreatDoor
open Go.ChangeShapes Go.WideShapes Go.ChangeAt Go.RowKit Go.Deep Go.Sort
def Fq {α:Type} (zs ys:List α) (k:Nat):Prop:=ys.length=zs.length∧∀p,p<zs.length→ys[p]? =if p<k∨zs.length - k≤p then zs[zs.length - 1 - p]? else zs[p]?
theorem Fq.zero {α:Type} (zs:List α):Fq zs zs 0:=⟨rfl,fun p hp=>by rw [if_neg (by omega)]⟩
theorem Fq.step {α:Type} {zs ys:List α} {k:Nat} {a b:α} (h:Fq zs ys k) (hk:k<zs.length - 1 - k) (ha:zs[k]? =some a) (hb:zs[zs.length - 1 - k]? =some b):
  ys[k]? =some a∧ys[zs.length - 1 - k]? =some b∧Fq zs ((ys.set k b).set (zs.length - 1 - k) a) (k+1):=by
 obtain ⟨hl,h⟩:=h;have h1:=h k (by omega);have h2:=h (zs.length - 1 - k) (by omega);rw [if_neg (by omega)] at h1 h2;refine ⟨by rw [h1,ha],by rw [h2,hb],by simp [hl],fun p hp=> ?_⟩;rw [List.getElem?_set,List.getElem?_set];have h3:=h p hp
 by_cases e1:zs.length - 1 - k=p
 ·rw [if_pos e1,if_pos (by simp; omega),if_pos (by omega),show zs.length - 1 - p=k by omega,ha]
 rw [if_neg e1]
 by_cases e2:k=p
 ·rw [if_pos e2,if_pos (by omega),if_pos (by omega)];subst e2;rw [hb]
 rw [if_neg e2,h3]
 by_cases e3:p<k∨zs.length - k≤p
 ·rw [if_pos e3,if_pos (by omega)]
 rw [if_neg e3,if_neg (by omega)]
theorem Fq.done {α:Type} {zs ys:List α} {k:Nat} (h:Fq zs ys k) (hk:zs.length - 1 - k≤k):ys=zs.reverse:=by
 obtain ⟨hl,h⟩:=h
 apply List.ext_getElem?
 intro p
 by_cases hp:p<zs.length
 ·rw [h p hp,List.getElem?_reverse hp]
  by_cases e:p<k∨zs.length - k≤p
  ·rw [if_pos e]
  rw [if_neg e,show zs.length - 1 - p=p by omega]
 rw [List.getElem?_eq_none (by omega),List.getElem?_eq_none (by simp; omega)]
set_option maxHeartbeats 1000000 in
theorem Kk {zs:List Int} {s:Option Addr} {c:Nat} {F:List Nat} {w:World} (h:Ow w (Cm zs) (.slice s zs.length c) F) (hn:F.Nodup) (h1:zs.length≤1000000000):
  Calls Tryz.prog 64 #[.slice s zs.length c] w fun e w'=>e= .returned (.tuple #[])∧Ow w' (Cm zs.reverse) (.slice s zs.length c) F∧Dn F w w':=by
 go_enter Tryz.func64,Tryz.ntmps64
 go_wp2_with fail
 go_loopw [2,3] (fun i j wr=>∃(k:Nat) (ys:List Int),2*k≤zs.length∧i= .int .i64 k∧j= .int .i64 ((zs.length:Int) - 1 - k)∧Fq zs ys k∧Ow wr (.sl 1 zs.length (ys.map D.int)) (.slice s zs.length c) F∧Dn F w wr) (fun i j _=>zs.length - 2*(intOf i).toNat)
 case atStart=>exact ⟨0,zs,by omega,rfl,by simp,Fq.zero zs,h,Dn.refl _ _⟩
 case round=>
  clear h;obtain ⟨k,ys,hk,rfl,rfl,ht,h,hO⟩:=hrel
  by_cases hlt:k<zs.length - 1 - k
  ·obtain ⟨a,ha⟩:∃e,zs[k]? =some e:=⟨_,List.getElem?_eq_getElem (by omega)⟩;obtain ⟨b,hb⟩:∃e,zs[zs.length - 1 - k]? =some e:=⟨_,List.getElem?_eq_getElem (by omega)⟩;obtain ⟨t1,t2,t3⟩:=ht.step hlt ha hb;obtain ⟨g,o,rfl⟩:=h.spot (by omega);obtain ⟨c1,z1,gl,s1⟩:=h.int_cell hn (Oi t1);obtain ⟨c2,z2, -, -⟩:=h.int_cell hn (Oi t2);obtain ⟨q1,q2⟩:=s1 b
   have m1:(ys.map D.int).set k (.int b)=(ys.set k b).map D.int:=by simp only [List.map_set]
   rw [m1] at q1
   have hne:k≠zs.length - 1 - k:=by omega
   have t2':(ys.set k b)[zs.length - 1 - k]? =some b:=by rw [List.getElem?_set_ne hne]; exact t2
   obtain ⟨-, -, -, s2⟩:=q1.int_cell hn (Oi t2');obtain ⟨r1,r2⟩:=s2 a
   have m2:((ys.set k b).map D.int).set (zs.length - 1 - k) (.int a)=((ys.set k b).set (zs.length - 1 - k) a).map D.int:=by simp only [List.map_set]
   rw [m2] at r1;obtain ⟨j,hj⟩:∃j:Nat,zs.length - 1 - k=j:=⟨_,rfl⟩
   have ej:(zs.length:Int) - 1 - k=(j:Int):=by omega
   rw [hj] at c2 z2 r1 r2 t3 hlt hne;rw [ej]
   have Hfin:Hid (Fq zs ((ys.set k b).set j a) (k+1)∧Ow (World.setCell (World.setCell wr ⟨g,o+k,none⟩ (.int .i64 b)) ⟨g,o+j,none⟩ (.int .i64 a)) (.sl 1 zs.length (((ys.set k b).set j a).map D.int)) (.slice (some ⟨g,o,none⟩) zs.length c) F∧Dn F w (World.setCell (World.setCell wr ⟨g,o+k,none⟩ (.int .i64 b)) ⟨g,o+j,none⟩ (.int .i64 a))):=
    ⟨t3,r1,(hO.trans q2).trans r2⟩
   clear t1 t2 t3 s1 s2 q1 q2 r1 r2 m1 m2 t2' ht h hO ha hb ej
   have hjl:j<zs.length:=by omega
   go_wp2_with fail
   go_region
   go_wp2_with fail
   go_roundw
   case rel=>exact ⟨k+1,_,by omega,by go_num,by congr 1; omega,Hfin.out.1,Hfin.out.2.1.keep (fun _ _=>rfl),Hfin.out.2.2.trans ⟨rfl,rfl,rfl,Nat.le_refl _,fun _ _ _=>rfl⟩⟩
   case measure=>simp [intOf]; omega
  have e:=ht.done (by omega);subst e;go_wp2_with fail;refine bodyPost_end (v:= .tuple #[]) (by simp [results,Tryz.results64,go_sem]) rfl ?_;exact ⟨rfl,by unfold Cm; rw [List.length_reverse]; exact h,hO⟩
set_option maxRecDepth 100000 in
set_option maxHeartbeats 8000000 in
theorem E3 (tm am:Int) (ht:tm≤8) (ha:am≤8) (N:Nat):∀(e:Ex) (b o:Nat) (w:World),e.size≤N→Ap w b o e→e.tree tm am=true→e.size≤90000→
  Calls Tryz.prog 30 #[.pointer (some ⟨b,o,none⟩)] w (Ml w e.tidy):=by
 induction N using Nat.strongRecOn with
 |_ N ih=>
 intro e b o w hN hx hxt hsz1;have HIH:=hid ih;clear ih;have hlt:=hx.lt;obtain ⟨k,n,ks⟩:=e;obtain ⟨hk, -, -, htl⟩:=Aq hxt
 by_cases h6:k=6
 ·subst h6;obtain ⟨u,v,rfl⟩:=As hk (by omega);have hsz:=Ex.size_eq (.mk 6 n [u,v]);simp only [Ex.sizeL,Ex.kids_mk] at hsz
  have E1:Hid ((Ex.mk 6 n [u,v]).tidy=Bk u.tidy v.tidy):=by show _=_; exact Ex.tidy_sum
  have hut:u.tree tm am=true:=Ex.treeL_mem htl (by simp);have hvt:v.tree tm am=true:=Ex.treeL_mem htl (by simp);obtain ⟨hu1,hu2⟩:=Ce tm am _ u (Nat.le_refl _) hut;obtain ⟨hv1,hv2⟩:=Ce tm am _ v (Nat.le_refl _) hvt;clear htl hk;obtain ⟨g0,g1,sx,cx,g2,g3⟩:=id hx;simp only [Ex.kind_mk,Ex.num_mk,Ex.kids_mk] at g0 g1 g2;obtain ⟨kb,ko,rfl⟩:=An g3 (by simp [Ex.kids])
  have hu:Ap w kb ko u:=by have:=Ay g3 (i:=0) (e:=u) rfl; simpa using this
  obtain ⟨-, hlen,hcap, -, -⟩:=A0 g3;unfold maxLen at hcap;simp only [Ex.kids_mk,List.length_cons,List.length_nil,Nat.zero_add,Nat.reduceAdd] at g2 hlen hcap;have Hg0:=hid g0;have Hg2:=hid g2
  have hv:Ap w kb (ko+3) v:=by have:=Ay g3 (i:=1) (e:=v) rfl; simpa using this
  go_enter Tryz.func30,Tryz.ntmps30
  go_wp2_with fail;have R:=Blk.new3 w 28 (.int .i64 0) (.int .i64 0) (.slice none 0 0);have hB:Below w.heap.size w (w.alloc (.cells #[.int .i64 0,.int .i64 0,.slice none 0 0] 28)):=bel
  have hz0:(w.alloc (.cells #[.int .i64 0,.int .i64 0,.slice none 0 0] 28)).heap.size=w.heap.size+1:=by simp
  generalize w.alloc (.cells #[.int .i64 0,.int .i64 0,.slice none 0 0] 28)=w1 at R hB hz0 ⊢;have hx1:=hx.below hB;clear g0 g1 g2;refine (HIH.out u.size (by omega) u _ _ _ (Nat.le_refl _) (hu.below hB) hut (by omega)).mono ?_;rintro f w2 ⟨s2,c2,rfl,hf2,hb2⟩;have hz2:=hb2.size;have g2q:=(hb2.cell (p:=⟨b,o+2,none⟩) (by have:=hx1.lt; omega)).trans ((hB.cell (p:=⟨b,o+2,none⟩) hlt).trans Hg2.out)
  have hlt2:b<w2.heap.size:=by have:=hx1.lt; omega
  go_wp2_with fail;clear g2q;have U:=Blk.new3 w2 28 (.int .i64 u.tidy.kind) (.int .i64 u.tidy.num) (.slice s2 u.tidy.kids.length c2);have hb3:Below w1.heap.size w1 (w2.alloc (.cells #[.int .i64 u.tidy.kind,.int .i64 u.tidy.num,.slice s2 u.tidy.kids.length c2] 28)):=hb2.alloc hz2 _;have hd2:=(Rds.one hf2.rds).alloc (.cells #[.int .i64 u.tidy.kind,.int .i64 u.tidy.num,.slice s2 u.tidy.kids.length c2] 28);generalize w2.alloc (.cells #[.int .i64 u.tidy.kind,.int .i64 u.tidy.num,.slice s2 u.tidy.kids.length c2] 28)=w3 at U hb3 hd2 ⊢;have hua:Ap w3 w2.heap.size 0 u.tidy:=⟨U.c0,U.c1,s2,c2,U.c2,hd2⟩;have hz3:=hb3.size;refine (HIH.out v.size (by omega) v _ _ _ (Nat.le_refl _) ((hv.below hB).below hb3) hvt (by omega)).mono ?_;rintro f w4 ⟨s4,c4,rfl,hf4,hb4⟩;have hz4:=hb4.size;have hb14:=hb3.trans (hb4.mono hz3);have g0q:=(hb14.cell (p:=⟨b,o,none⟩) (by have:=hx1.lt; omega)).trans ((hB.cell (p:=⟨b,o,none⟩) hlt).trans Hg0.out)
  have hlt4:b<w4.heap.size:=by have:=hx1.lt; omega
  go_wp2_with fail;clear g0q;have V:=Blk.new3 w4 28 (.int .i64 v.tidy.kind) (.int .i64 v.tidy.num) (.slice s4 v.tidy.kids.length c4);have hb5:Below w1.heap.size w1 (w4.alloc (.cells #[.int .i64 v.tidy.kind,.int .i64 v.tidy.num,.slice s4 v.tidy.kids.length c4] 28)):=hb14.alloc (by omega) _;have hd4:=(Rds.one hf4.rds).alloc (.cells #[.int .i64 v.tidy.kind,.int .i64 v.tidy.num,.slice s4 v.tidy.kids.length c4] 28);have hua5:=(hua.below hb4).below (Below.alloc (Below.refl w4.heap.size w4) (Nat.le_refl _) (.cells #[.int .i64 v.tidy.kind,.int .i64 v.tidy.num,.slice s4 v.tidy.kids.length c4] 28));generalize w4.alloc (.cells #[.int .i64 v.tidy.kind,.int .i64 v.tidy.num,.slice s4 v.tidy.kids.length c4] 28)=v5 at V hb5 hd4 hua5 ⊢;have hva:Ap v5 w4.heap.size 0 v.tidy:=⟨V.c0,V.c1,s4,c4,V.c2,hd4⟩;refine (Xs ht ha hua5 hva hu1 hv1 (by omega)).mono ?_;rintro f v6 ⟨s6,c6,rfl,hf6,hb6⟩;have hz5:=hb5.size;replace hB:=Below.on hB (hb5.trans (hb6.mono hz5)) hB.size;replace R:=R.below (hb5.trans (hb6.mono hz5));have hz6:=hb6.size
  -- the function's end:R the result's box,hB; h3:Ag W V .. (W below V),E1:Hid (result=(Bk u.tidy v.tidy))
  -- the result box w.heap.size of world v6 is set to an expression; goal:bodyPost. R:the box; Rests:hs5:Aa,T2
  obtain ⟨r0,r1,r2,z0,z1,z2,ltR⟩:=R.all3;obtain ⟨w5,e5,T2,hs5⟩:=zZ3 R (.int .i64 (Bk u.tidy v.tidy).kind) (.int .i64 (Bk u.tidy v.tidy).num) (.slice s6 (Bk u.tidy v.tidy).kids.length c6);go_wp2_with fail;clear e5;have t0:=T2.c0;have t1:=T2.c1;have t2:=T2.c2;have hzB5:=hB.size;have hB5:=hB.trans (hs5.below (B:=w.heap.size) (by omega) (fun y hy=>by omega));refine bodyPost_ret (v:= .agg #[.int .i64 (Bk u.tidy v.tidy).kind,.int .i64 (Bk u.tidy v.tidy).num,.slice s6 (Bk u.tidy v.tidy).kids.length c6]) (by simp [results,Tryz.results30,go_sem,t0,t1,t2]) rfl ?_;rw [E1.out];exact ⟨_,_,rfl,Ag.from (Ag.keep hf6 (fun y _ hy2=>hs5.block y hy2 (by omega))) (by omega),hB5⟩
 have c6:(k==6)=false:=by simp [h6]
 by_cases h7:k=7
 ·subst h7;obtain ⟨u,v,rfl⟩:=As hk (by omega);have hsz:=Ex.size_eq (.mk 7 n [u,v]);simp only [Ex.sizeL,Ex.kids_mk] at hsz
  have E1:Hid ((Ex.mk 7 n [u,v]).tidy=Ex.dot u.tidy v.tidy):=by show _=_; exact Ex.tidy_dot
  have hut:u.tree tm am=true:=Ex.treeL_mem htl (by simp);have hvt:v.tree tm am=true:=Ex.treeL_mem htl (by simp);obtain ⟨hu1,hu2⟩:=Ce tm am _ u (Nat.le_refl _) hut;obtain ⟨hv1,hv2⟩:=Ce tm am _ v (Nat.le_refl _) hvt;clear htl hk;obtain ⟨g0,g1,sx,cx,g2,g3⟩:=id hx;simp only [Ex.kind_mk,Ex.num_mk,Ex.kids_mk] at g0 g1 g2;obtain ⟨kb,ko,rfl⟩:=An g3 (by simp [Ex.kids])
  have hu:Ap w kb ko u:=by have:=Ay g3 (i:=0) (e:=u) rfl; simpa using this
  obtain ⟨-, hlen,hcap, -, -⟩:=A0 g3;unfold maxLen at hcap;simp only [Ex.kids_mk,List.length_cons,List.length_nil,Nat.zero_add,Nat.reduceAdd] at g2 hlen hcap;have Hg0:=hid g0;have Hg2:=hid g2
  have hv:Ap w kb (ko+3) v:=by have:=Ay g3 (i:=1) (e:=v) rfl; simpa using this
  go_enter Tryz.func30,Tryz.ntmps30
  go_wp2_with fail;have R:=Blk.new3 w 28 (.int .i64 0) (.int .i64 0) (.slice none 0 0);have hB:Below w.heap.size w (w.alloc (.cells #[.int .i64 0,.int .i64 0,.slice none 0 0] 28)):=bel
  have hz0:(w.alloc (.cells #[.int .i64 0,.int .i64 0,.slice none 0 0] 28)).heap.size=w.heap.size+1:=by simp
  generalize w.alloc (.cells #[.int .i64 0,.int .i64 0,.slice none 0 0] 28)=w1 at R hB hz0 ⊢;have hx1:=hx.below hB;clear g0 g1 g2;refine (HIH.out u.size (by omega) u _ _ _ (Nat.le_refl _) (hu.below hB) hut (by omega)).mono ?_;rintro f w2 ⟨s2,c2,rfl,hf2,hb2⟩;have hz2:=hb2.size;have g2q:=(hb2.cell (p:=⟨b,o+2,none⟩) (by have:=hx1.lt; omega)).trans ((hB.cell (p:=⟨b,o+2,none⟩) hlt).trans Hg2.out)
  have hlt2:b<w2.heap.size:=by have:=hx1.lt; omega
  go_wp2_with fail;clear g2q;have U:=Blk.new3 w2 28 (.int .i64 u.tidy.kind) (.int .i64 u.tidy.num) (.slice s2 u.tidy.kids.length c2);have hb3:Below w1.heap.size w1 (w2.alloc (.cells #[.int .i64 u.tidy.kind,.int .i64 u.tidy.num,.slice s2 u.tidy.kids.length c2] 28)):=hb2.alloc hz2 _;have hd2:=(Rds.one hf2.rds).alloc (.cells #[.int .i64 u.tidy.kind,.int .i64 u.tidy.num,.slice s2 u.tidy.kids.length c2] 28);generalize w2.alloc (.cells #[.int .i64 u.tidy.kind,.int .i64 u.tidy.num,.slice s2 u.tidy.kids.length c2] 28)=w3 at U hb3 hd2 ⊢;have hua:Ap w3 w2.heap.size 0 u.tidy:=⟨U.c0,U.c1,s2,c2,U.c2,hd2⟩;have hz3:=hb3.size;refine (HIH.out v.size (by omega) v _ _ _ (Nat.le_refl _) ((hv.below hB).below hb3) hvt (by omega)).mono ?_;rintro f w4 ⟨s4,c4,rfl,hf4,hb4⟩;have hz4:=hb4.size;have hb14:=hb3.trans (hb4.mono hz3);have g0q:=(hb14.cell (p:=⟨b,o,none⟩) (by have:=hx1.lt; omega)).trans ((hB.cell (p:=⟨b,o,none⟩) hlt).trans Hg0.out)
  have hlt4:b<w4.heap.size:=by have:=hx1.lt; omega
  go_wp2_with fail;clear g0q;have V:=Blk.new3 w4 28 (.int .i64 v.tidy.kind) (.int .i64 v.tidy.num) (.slice s4 v.tidy.kids.length c4);have hb5:Below w1.heap.size w1 (w4.alloc (.cells #[.int .i64 v.tidy.kind,.int .i64 v.tidy.num,.slice s4 v.tidy.kids.length c4] 28)):=hb14.alloc (by omega) _;have hd4:=(Rds.one hf4.rds).alloc (.cells #[.int .i64 v.tidy.kind,.int .i64 v.tidy.num,.slice s4 v.tidy.kids.length c4] 28);have hua5:=(hua.below hb4).below (Below.alloc (Below.refl w4.heap.size w4) (Nat.le_refl _) (.cells #[.int .i64 v.tidy.kind,.int .i64 v.tidy.num,.slice s4 v.tidy.kids.length c4] 28));generalize w4.alloc (.cells #[.int .i64 v.tidy.kind,.int .i64 v.tidy.num,.slice s4 v.tidy.kids.length c4] 28)=v5 at V hb5 hd4 hua5 ⊢;have hva:Ap v5 w4.heap.size 0 v.tidy:=⟨V.c0,V.c1,s4,c4,V.c2,hd4⟩;refine (Uc tm am _ _ _ _ _ _ _ _ (Nat.le_refl _) hua5 hva hu1 hv1 (by omega)).mono ?_;rintro f v6 ⟨s6,c6,rfl,hf6,hb6⟩;have hz5:=hb5.size;replace hB:=Below.on hB (hb5.trans (hb6.mono hz5)) hB.size;replace R:=R.below (hb5.trans (hb6.mono hz5));have hz6:=hb6.size
  -- the function's end:R the result's box,hB; h3:Ag W V .. (W below V),E1:Hid (result=(Ex.dot u.tidy v.tidy))
  -- the result box w.heap.size of world v6 is set to an expression; goal:bodyPost. R:the box; Rests:hs5:Aa,T2
  obtain ⟨r0,r1,r2,z0,z1,z2,ltR⟩:=R.all3;obtain ⟨w5,e5,T2,hs5⟩:=zZ3 R (.int .i64 (Ex.dot u.tidy v.tidy).kind) (.int .i64 (Ex.dot u.tidy v.tidy).num) (.slice s6 (Ex.dot u.tidy v.tidy).kids.length c6);go_wp2_with fail;clear e5;have t0:=T2.c0;have t1:=T2.c1;have t2:=T2.c2;have hzB5:=hB.size;have hB5:=hB.trans (hs5.below (B:=w.heap.size) (by omega) (fun y hy=>by omega));refine bodyPost_ret (v:= .agg #[.int .i64 (Ex.dot u.tidy v.tidy).kind,.int .i64 (Ex.dot u.tidy v.tidy).num,.slice s6 (Ex.dot u.tidy v.tidy).kids.length c6]) (by simp [results,Tryz.results30,go_sem,t0,t1,t2]) rfl ?_;rw [E1.out];exact ⟨_,_,rfl,Ag.from (Ag.keep hf6 (fun y _ hy2=>hs5.block y hy2 (by omega))) (by omega),hB5⟩
 have c7:(k==7)=false:=by simp [h7]
 by_cases h8:k=8
 ·subst h8;obtain ⟨u,rfl⟩:=Bq hk (by omega);have hsz:=Ex.size_eq (.mk 8 n [u]);simp only [Ex.sizeL,Ex.kids_mk] at hsz
  have E1:Hid ((Ex.mk 8 n [u]).tidy=u.tidy.star):=by show _=_; exact Ex.tidy_star
  have hut:u.tree tm am=true:=Ex.treeL_mem htl (by simp);obtain ⟨hu1,hu2⟩:=Ce tm am _ u (Nat.le_refl _) hut;clear htl hk;obtain ⟨g0,g1,sx,cx,g2,g3⟩:=id hx;simp only [Ex.kind_mk,Ex.num_mk,Ex.kids_mk] at g0 g1 g2;obtain ⟨kb,ko,rfl⟩:=An g3 (by simp [Ex.kids])
  have hu:Ap w kb ko u:=by have:=Ay g3 (i:=0) (e:=u) rfl; simpa using this
  obtain ⟨-, hlen,hcap, -, -⟩:=A0 g3;unfold maxLen at hcap;simp only [Ex.kids_mk,List.length_cons,List.length_nil,Nat.zero_add,Nat.reduceAdd] at g2 hlen hcap;have Hg0:=hid g0;have Hg2:=hid g2
  go_enter Tryz.func30,Tryz.ntmps30
  go_wp2_with fail;have R:=Blk.new3 w 28 (.int .i64 0) (.int .i64 0) (.slice none 0 0);have hB:Below w.heap.size w (w.alloc (.cells #[.int .i64 0,.int .i64 0,.slice none 0 0] 28)):=bel
  have hz0:(w.alloc (.cells #[.int .i64 0,.int .i64 0,.slice none 0 0] 28)).heap.size=w.heap.size+1:=by simp
  generalize w.alloc (.cells #[.int .i64 0,.int .i64 0,.slice none 0 0] 28)=w1 at R hB hz0 ⊢;have hx1:=hx.below hB;clear g0 g1 g2;refine (HIH.out u.size (by omega) u _ _ _ (Nat.le_refl _) (hu.below hB) hut (by omega)).mono ?_;rintro f w2 ⟨s2,c2,rfl,hf2,hb2⟩;have hz2:=hb2.size;go_wp2_with fail;have U:=Blk.new3 w2 28 (.int .i64 u.tidy.kind) (.int .i64 u.tidy.num) (.slice s2 u.tidy.kids.length c2);have hb3:Below w1.heap.size w1 (w2.alloc (.cells #[.int .i64 u.tidy.kind,.int .i64 u.tidy.num,.slice s2 u.tidy.kids.length c2] 28)):=hb2.alloc hz2 _;have hd2:=(Rds.one hf2.rds).alloc (.cells #[.int .i64 u.tidy.kind,.int .i64 u.tidy.num,.slice s2 u.tidy.kids.length c2] 28);generalize w2.alloc (.cells #[.int .i64 u.tidy.kind,.int .i64 u.tidy.num,.slice s2 u.tidy.kids.length c2] 28)=w3 at U hb3 hd2 ⊢;have hua:Ap w3 w2.heap.size 0 u.tidy:=⟨U.c0,U.c1,s2,c2,U.c2,hd2⟩;have hz3:=hb3.size;refine (U4 hua (by omega)).mono ?_;rintro f w4 ⟨s4,c4,rfl,hf4,hb4⟩;replace hB:=Below.on hB (hb3.trans (hb4.mono hz3)) hB.size;replace R:=R.below (hb3.trans (hb4.mono hz3));have hz4:=hb4.size
  -- the function's end:R the result's box,hB; h3:Ag W V .. (W below V),E1:Hid (result=u.tidy.star)
  -- the result box w.heap.size of world w4 is set to an expression; goal:bodyPost. R:the box; Rests:hs5:Aa,T2
  obtain ⟨r0,r1,r2,z0,z1,z2,ltR⟩:=R.all3;obtain ⟨w5,e5,T2,hs5⟩:=zZ3 R (.int .i64 u.tidy.star.kind) (.int .i64 u.tidy.star.num) (.slice s4 u.tidy.star.kids.length c4);go_wp2_with fail;clear e5;have t0:=T2.c0;have t1:=T2.c1;have t2:=T2.c2;have hzB5:=hB.size;have hB5:=hB.trans (hs5.below (B:=w.heap.size) (by omega) (fun y hy=>by omega));refine bodyPost_ret (v:= .agg #[.int .i64 u.tidy.star.kind,.int .i64 u.tidy.star.num,.slice s4 u.tidy.star.kids.length c4]) (by simp [results,Tryz.results30,go_sem,t0,t1,t2]) rfl ?_;rw [E1.out];exact ⟨_,_,rfl,Ag.from (Ag.keep hf4 (fun y _ hy2=>hs5.block y hy2 (by omega))) (by omega),hB5⟩
 have c8:(k==8)=false:=by simp [h8]
 have E1:Hid ((Ex.mk k n ks).tidy= .mk k n ks):=by show _=_; exact Ex.tidy_else h6 h7 h8
 clear htl hk h6 h7 h8;obtain ⟨g0,g1,sx,cx,g2,g3⟩:=id hx;simp only [Ex.kind_mk,Ex.num_mk,Ex.kids_mk] at g0 g1 g2
 skip
 go_enter Tryz.func30,Tryz.ntmps30
 go_wp2_with fail;have R:=Blk.new3 w 28 (.int .i64 0) (.int .i64 0) (.slice none 0 0);have hB:Below w.heap.size w (w.alloc (.cells #[.int .i64 0,.int .i64 0,.slice none 0 0] 28)):=bel
 have hz0:(w.alloc (.cells #[.int .i64 0,.int .i64 0,.slice none 0 0] 28)).heap.size=w.heap.size+1:=by simp
 generalize w.alloc (.cells #[.int .i64 0,.int .i64 0,.slice none 0 0] 28)=w1 at R hB hz0 ⊢;have hx1:=hx.below hB;clear g0 g1 g2;refine (Dt hx1 (by omega)).mono ?_;rintro f w3 ⟨s3,c3,rfl,hf,hb⟩;replace hB:=Below.on hB hb hB.size;replace R:=R.below hb;have hz3:=hb.size
 -- the function's end:R the result's box,hB; h3:Ag W V .. (W below V),E1:Hid (result=(Ex.mk k n ks))
 -- the result box w.heap.size of world w3 is set to an expression; goal:bodyPost. R:the box; Rests:hs5:Aa,T2
 obtain ⟨r0,r1,r2,z0,z1,z2,ltR⟩:=R.all3;obtain ⟨w5,e5,T2,hs5⟩:=zZ3 R (.int .i64 (Ex.mk k n ks).kind) (.int .i64 (Ex.mk k n ks).num) (.slice s3 (Ex.mk k n ks).kids.length c3);go_wp2_with fail;clear e5;have t0:=T2.c0;have t1:=T2.c1;have t2:=T2.c2;have hzB5:=hB.size;have hB5:=hB.trans (hs5.below (B:=w.heap.size) (by omega) (fun y hy=>by omega));refine bodyPost_ret (v:= .agg #[.int .i64 (Ex.mk k n ks).kind,.int .i64 (Ex.mk k n ks).num,.slice s3 (Ex.mk k n ks).kids.length c3]) (by simp [results,Tryz.results30,go_sem,t0,t1,t2]) rfl ?_;rw [E1.out];exact ⟨_,_,rfl,Ag.from (Ag.keep hf (fun y _ hy2=>hs5.block y hy2 (by omega))) (by omega),hB5⟩
end Go.Proofs.YtlchgfbkdjjngaaGreatDoor
