/-
  Parts of a proof, joined: TidyV, Mark. No condition.
-/
import Derived.Test.YtlchgfbkdjjngaaGreatDoorPk17
set_option linter.unusedVariables false
set_option linter.unusedSimpArgs false
namespace Go.Proofs.YtlchgfbkdjjngaaGreatDoor
open Go.ChangeShapes Go.WideShapes Go.ChangeAt Go.RowKit Go.Deep Go.Sort
theorem Zd {k n:Int} {ks:List Ex} {s:Option Addr} {c:Nat} {w:World} (hr:Rd w (Ae ks) (.slice s ks.length c)) (h:Ex.sizeL ks≤1073741824):
  Calls Tryz.prog 33 #[.agg #[.int .i64 k,.int .i64 n,.slice s ks.length c]] w fun f w'=>∃s' c',f= .returned (.agg #[.int .i64 k,.int .i64 n,.slice s' ks.length c'])∧Ag w w' [Ae ks] [.slice s' ks.length c']∧Below w.heap.size w w':=
 J9 _ k n ks s c w (Nat.le_refl _) hr h
set_option maxRecDepth 100000 in
set_option maxHeartbeats 8000000 in
theorem Q9 (tm am:Int) (ht:tm≤8) (ha:am≤8) (N:Nat):∀(e:Ex) (X:Nat→Prop) (s:Option Addr) (c:Nat) (w:World),e.size≤N→(∀b,X b→b<w.heap.size)→ExX X w e s c→e.tree tm am=true→e.size≤50000→
  Calls Tryz.prog 79 #[.agg #[.int .i64 e.kind,.int .i64 e.num,.slice s e.kids.length c]] w fun f w'=>∃s' c',f= .returned (.agg #[.int .i64 e.tidy.kind,.int .i64 e.tidy.num,.slice s' e.tidy.kids.length c'])∧ExX X w' e.tidy s' c'∧Below w.heap.size w w':=by
 induction N using Nat.strongRecOn with
 |_ N ih=>
 intro e X s c w hN hX hx htr hb5;have HIH:=hid ih;clear ih;obtain ⟨-, hl,hcap, -, -⟩:=A0 hx.rd;unfold maxLen at hcap;obtain ⟨k,n,ks⟩:=e;obtain ⟨hk, -, -, htl⟩:=Aq htr;simp only [Ex.kind_mk,Ex.num_mk,Ex.kids_mk] at hl ⊢
 by_cases h6:k=6
 ·subst h6;obtain ⟨u,v,rfl⟩:=As hk (by omega);have hsz:=Ex.size_eq (.mk 6 n [u,v]);simp only [Ex.sizeL,Ex.kids_mk] at hsz
  have E1:Hid ((Ex.mk 6 n [u,v]).tidy=Bk u.tidy v.tidy):=by show _=_; exact Ex.tidy_sum
  have hut:u.tree tm am=true:=Ex.treeL_mem htl (by simp);have hvt:v.tree tm am=true:=Ex.treeL_mem htl (by simp);obtain ⟨hu1,hu2⟩:=Ce tm am _ u (Nat.le_refl _) hut;obtain ⟨hv1,hv2⟩:=Ce tm am _ v (Nat.le_refl _) hvt;obtain ⟨kb,ko,su,cu,rfl, -, -, -, -, -, -, -⟩:=D3 hx;simp only [List.length_cons,List.length_nil,Nat.zero_add] at hl ⊢;clear htl hk
  go_enter Tryz.func79,Tryz.ntmps79
  go_wp2_with fail;have L:=(Blk.new3 w 28 (.int .i64 6) (.int .i64 n) (.slice (some ⟨kb,ko,none⟩) 2 c)).alloc (.cells #[.int .i64 0,.int .i64 0,.slice none 0 0] 28);have R:=Blk.new3 (w.alloc (.cells #[.int .i64 6,.int .i64 n,.slice (some ⟨kb,ko,none⟩) 2 c] 28)) 28 (.int .i64 0) (.int .i64 0) (.slice none 0 0);have hB:Below w.heap.size w ((w.alloc (.cells #[.int .i64 6,.int .i64 n,.slice (some ⟨kb,ko,none⟩) 2 c] 28)).alloc (.cells #[.int .i64 0,.int .i64 0,.slice none 0 0] 28)):=bel
  have hz0:((w.alloc (.cells #[.int .i64 6,.int .i64 n,.slice (some ⟨kb,ko,none⟩) 2 c] 28)).alloc (.cells #[.int .i64 0,.int .i64 0,.slice none 0 0] 28)).heap.size=w.heap.size+2:=by simp
  simp at R;generalize (w.alloc (.cells #[.int .i64 6,.int .i64 n,.slice (some ⟨kb,ko,none⟩) 2 c] 28)).alloc (.cells #[.int .i64 0,.int .i64 0,.slice none 0 0] 28)=wb at L R hB hz0 ⊢;have hx1:ExX (XB X w.heap.size 2) wb (.mk 6 n [u,v]) (some ⟨kb,ko,none⟩) c:=ExX.boxes hx hB;have hB':=hB;have hXW:∀b,XB X w.heap.size 2 b→b<wb.heap.size:=fun b q=>q.elim (fun q=>by have:=hX _ q; omega) (fun q=>by omega);clear hx;obtain ⟨kb',ko',su,cu,e1, -, -, -, hkb,hkX,ku,hu⟩:=D3 (r:=[v]) hx1;simp only [Option.some.injEq,Addr.mk.injEq,and_true] at e1;obtain ⟨rfl,rfl⟩:=e1;obtain ⟨sv,cv,kv,hv⟩:=Ix (r:=[]) hx1;have Hku:=hid ku;have Hkv:=hid kv;clear ku kv hx1;obtain ⟨x0,hx0⟩:=Aj ?a1_0;obtain ⟨x1,hx1⟩:=Aj ?a1_1;obtain ⟨x2,hx2⟩:=Aj ?a1_2;obtain ⟨x3,hx3⟩:=Aj ?a1_3;obtain ⟨x5,hx5⟩:=Aj ?a1_5;obtain ⟨x6,hx6⟩:=Aj ?a1_6;obtain ⟨x7,hx7⟩:=Aj ?a1_7;obtain ⟨x8,hx8⟩:=Aj ?a1_8
  have hGb:∀m b,(fun m b=>(m=0∧b=(w.heap.size+1))) m b→(w.heap.size)≤b∧b<(wb).heap.size:=by
   intro m b hg
   rcases hg with ⟨rfl,hg⟩
   subst hg;have q:=R.lt;omega
  have hGd:∀m m' b,(fun m b=>(m=0∧b=(w.heap.size+1))) m b→(fun m b=>(m=0∧b=(w.heap.size+1))) m' b→m=m':=by
   intro m m' b h h'
   rcases h with ⟨rfl,h⟩<;>rcases h' with ⟨rfl,h'⟩<;>first
    |rfl
  have hGX:∀m b,(fun m b=>(m=0∧b=(w.heap.size+1))) m b→(XB X w.heap.size 2) b:=by
   intro m b hg;exact Or.inr (by omega)
  refine Aw [(10,4),(10,9)] [(11,0)] (fun m b=>(m=0∧b=(w.heap.size+1))) (w.heap.size) (fun i iv vs wx=>match i with
   |0=>vs 0=x0
   |1=>vs 1=x1
   |2=>vs 2=x2
   |3=>vs 3=x3
   |4=>∃s1 c1,vs 4= .agg #[.int .i64 u.tidy.kind,.int .i64 u.tidy.num,.slice s1 u.tidy.kids.length c1]∧RdO wb (XB X w.heap.size 2) (foot [(10,4),(10,9)] [(11,0)] (fun m b=>(m=0∧b=(w.heap.size+1))) 12 4 iv) wx (Ae u.tidy.kids) (.slice s1 u.tidy.kids.length c1)
   |5=>vs 5=x5
   |6=>vs 6=x6
   |7=>vs 7=x7
   |8=>vs 8=x8
   |9=>∃s2 c2,vs 9= .agg #[.int .i64 v.tidy.kind,.int .i64 v.tidy.num,.slice s2 v.tidy.kids.length c2]∧RdO wb (XB X w.heap.size 2) (foot [(10,4),(10,9)] [(11,0)] (fun m b=>(m=0∧b=(w.heap.size+1))) 12 9 iv) wx (Ae v.tidy.kids) (.slice s2 v.tidy.kids.length c2)
   |10=>∃s3 c3,vs 10= .agg #[.int .i64 (Bk u.tidy v.tidy).kind,.int .i64 (Bk u.tidy v.tidy).num,.slice s3 (Bk u.tidy v.tidy).kids.length c3]∧RdO wb (XB X w.heap.size 2) (foot [(10,4),(10,9)] [(11,0)] (fun m b=>(m=0∧b=(w.heap.size+1))) 12 10 iv) wx (Ae (Bk u.tidy v.tidy).kids) (.slice s3 (Bk u.tidy v.tidy).kids.length c3)
   |11=>Blk wx (w.heap.size+1) 28 [Ad (vs 10) 0,Ad (vs 10) 1,Ad (vs 10) 2]
   |_=>True) (fun i iv vs=>match i with
   |0=>vs 0=x0
   |1=>vs 1=x1
   |2=>vs 2=x2
   |3=>vs 3=x3
   |4=>∃s1 c1,vs 4= .agg #[.int .i64 u.tidy.kind,.int .i64 u.tidy.num,.slice s1 u.tidy.kids.length c1]
   |5=>vs 5=x5
   |6=>vs 6=x6
   |7=>vs 7=x7
   |8=>vs 8=x8
   |9=>∃s2 c2,vs 9= .agg #[.int .i64 v.tidy.kind,.int .i64 v.tidy.num,.slice s2 v.tidy.kids.length c2]
   |10=>∃s3 c3,vs 10= .agg #[.int .i64 (Bk u.tidy v.tidy).kind,.int .i64 (Bk u.tidy v.tidy).num,.slice s3 (Bk u.tidy v.tidy).kids.length c3]
   |11=>True
   |_=>True) (by kernel_rfl) (by kernel_rfl) [0,1,2,3,4,5,6,7,8,9,10,11] (by kernel_rfl) ?hbase ?hGb ?hG ?hJ ?hE ?hEE ?hstep ?hQ
  case hbase=>first|exact Nat.le_refl _|omega|(simp; omega)
  case hGb=>
   exact hGb
  case hG=>
   exact hGd
  case hJ=>
   intro i hi iv iv' vs vs' wx wx' ha hv hz hk hj;simp at hi
   rcases hi with rfl|rfl|rfl|rfl|rfl|rfl|rfl|rfl|rfl|rfl|rfl|rfl
   all_goals try exact (aG hv _).symm.trans hj
   ·have e4:=aG hv 4;obtain ⟨s1,c1,q1,q2⟩:=hj;exact ⟨s1,c1,e4 ▸ q1,q2.keep hz (fun b hb h1=>hk.out b hb h1) (fun b h1=>At (l:=Am _ 12 4) (by exact of_decide_eq_true (by kernel_rfl)) ha.out h1)⟩
   ·have e9:=aG hv 9;obtain ⟨s2,c2,q1,q2⟩:=hj;exact ⟨s2,c2,e9 ▸ q1,q2.keep hz (fun b hb h1=>hk.out b hb h1) (fun b h1=>At (l:=Am _ 12 9) (by exact of_decide_eq_true (by kernel_rfl)) ha.out h1)⟩
   ·have e10:=aG hv 10;obtain ⟨s3,c3,q1,q2⟩:=hj;exact ⟨s3,c3,e10 ▸ q1,q2.keep hz (fun b hb h1=>hk.out b hb h1) (fun b h1=>At (l:=Am _ 12 10) (by exact of_decide_eq_true (by kernel_rfl)) ha.out h1)⟩
   have e10:=aG hv 10;have hj':Blk wx (w.heap.size+1) 28 [Ad (vs 10) 0,Ad (vs 10) 1,Ad (vs 10) 2]:=hj
   show Blk wx' (w.heap.size+1) 28 [Ad (vs' 10) 0,Ad (vs' 10) 1,Ad (vs' 10) 2]
   rw [←e10];exact hj'.keep (hk.out _ hj'.lt (Ao 0 (by decide) ⟨rfl,rfl⟩))
  case hE=>
   intro i hi iv vs wx hj;simp at hi
   rcases hi with rfl|rfl|rfl|rfl|rfl|rfl|rfl|rfl|rfl|rfl|rfl|rfl
   all_goals try exact hj
   ·obtain ⟨s1,c1,q1, -⟩:=hj;exact ⟨s1,c1,q1⟩
   ·obtain ⟨s2,c2,q1, -⟩:=hj;exact ⟨s2,c2,q1⟩
   ·obtain ⟨s3,c3,q1, -⟩:=hj;exact ⟨s3,c3,q1⟩
   trivial
  case hEE=>
   intro i hi iv iv' vs vs' ha hv hj;simp at hi
   rcases hi with rfl|rfl|rfl|rfl|rfl|rfl|rfl|rfl|rfl|rfl|rfl|rfl
   all_goals try exact (aG hv _).symm.trans hj
   ·have e4:=aG hv 4;have hj':∃s1 c1,vs 4= .agg #[.int .i64 u.tidy.kind,.int .i64 u.tidy.num,.slice s1 u.tidy.kids.length c1]:=hj
    show ∃s1 c1,vs' 4= .agg #[.int .i64 u.tidy.kind,.int .i64 u.tidy.num,.slice s1 u.tidy.kids.length c1]
    rw [←e4];exact hj'
   ·have e9:=aG hv 9;have hj':∃s2 c2,vs 9= .agg #[.int .i64 v.tidy.kind,.int .i64 v.tidy.num,.slice s2 v.tidy.kids.length c2]:=hj
    show ∃s2 c2,vs' 9= .agg #[.int .i64 v.tidy.kind,.int .i64 v.tidy.num,.slice s2 v.tidy.kids.length c2]
    rw [←e9];exact hj'
   ·have e10:=aG hv 10;have hj':∃s3 c3,vs 10= .agg #[.int .i64 (Bk u.tidy v.tidy).kind,.int .i64 (Bk u.tidy v.tidy).num,.slice s3 (Bk u.tidy v.tidy).kids.length c3]:=hj
    show ∃s3 c3,vs' 10= .agg #[.int .i64 (Bk u.tidy v.tidy).kind,.int .i64 (Bk u.tidy v.tidy).num,.slice s3 (Bk u.tidy v.tidy).kids.length c3]
    rw [←e10];exact hj'
   trivial
  case hstep=>
   intro i hi opr ho iv vs w1 hB hS hSo hd he hbd hsep hun K hK;simp at hi;have hzB:=hB.size;have HGb:=hid hGb;clear hGb hGd;have kw:=hSo.out.block _ hkb (fun ⟨_,_,h⟩=>hkX (Or.inr (by omega)));obtain ⟨u0,u1,u2⟩:=Hku.out.keep kw;obtain ⟨v0,v1,v2⟩:=Hkv.out.keep kw;have L1:=L.keep (hSo.out.block _ L.lt (fun ⟨_,_,h⟩=>by omega));have l0:=L1.c0;have l1:=L1.c1;have l2:=L1.c2;generalize hA:Af _ 0 vs _=A at hK ⊢;simp only [Af,Ac] at hA
   rcases hi with rfl|rfl|rfl|rfl|rfl|rfl|rfl|rfl|rfl|rfl|rfl|rfl
   all_goals
    simp at ho;subst ho;subst hA
   ·go_wp2_with fail;refine Ab.mk (hK ?val1_0 _ _ nn ?eqA (Aa.refl _) (fun iv' _ _=> ?ja))
    case eqA=>first|rfl|(simp only [Ac]; rfl)
    case ja=>exact hx0.out.symm
   ·have h0:=(dN hd 0).trans hx0.out;go_wp2_with fail;refine Ab.mk (hK ?val1_1 _ _ nn ?eqA (Aa.refl _) (fun iv' _ _=> ?ja))
    case eqA=>first|rfl|(simp only [Ac,h0]; rfl)
    case ja=>exact hx1.out.symm
   ·have h1:=(dN hd 1).trans hx1.out;go_wp2_with fail;refine Ab.mk (hK ?val1_2 _ _ nn ?eqA (Aa.refl _) (fun iv' _ _=> ?ja))
    case eqA=>first|rfl|(simp only [Ac,h1]; rfl)
    case ja=>exact hx2.out.symm
   ·have h2:=(dN hd 2).trans hx2.out;go_wp2_with fail;refine Ab.mk (hK ?val1_3 _ _ nn ?eqA (Aa.refl _) (fun iv' _ _=> ?ja))
    case eqA=>first|rfl|(simp only [Ac,h2]; rfl)
    case ja=>exact hx3.out.symm
   ·have h3:=(dN hd 3).trans hx3.out;go_wp2_with fail;have hO:Ai (XB X w.heap.size 2) wb w1:=Ai.of_spares hSo.out (fun b _ ⟨m,hg⟩=>hGX m b hg);obtain ⟨XQ,hXQ⟩:∃XQ,XQ=Bw wb (XB X w.heap.size 2) (fun b=>False) w1:=⟨_,rfl⟩
    have hXl:∀b,XQ b→b<w1.heap.size:=by rw [hXQ]; exact Bw.lt
    have hOld:∀(d:D) (v:Value),RdX (XB X w.heap.size 2) wb d v→RdX XQ w1 d v:=by rw [hXQ]; exact fun d v h=>h.toOut hO
    refine (HIH.out u.size (by omega) u XQ _ _ _ (Nat.le_refl _) hXl (hOld _ _ hu) hut (by omega)).mono ?_;rintro e w2 ⟨s1,c1,rfl,hr,hb⟩;go_wp2_with fail;rw [hXQ] at hr;exact Ab.mk (hK (.agg #[.int .i64 u.tidy.kind,.int .i64 u.tidy.num,.slice s1 u.tidy.kids.length c1]) _ _ nn (by first|rfl|(simp only [Ac,h3])) (Aa.of_below hb) (fun iv' ag hi=>⟨s1,c1,rfl,RdO.ofX hr hb hO (fun b h=>by exact h.elim) (fun b h1 h2=>A5 hi h1 h2)⟩))
   ·go_wp2_with fail;refine Ab.mk (hK ?val1_5 _ _ nn ?eqA (Aa.refl _) (fun iv' _ _=> ?ja))
    case eqA=>first|rfl|(simp only [Ac]; rfl)
    case ja=>exact hx5.out.symm
   ·have h5:=(dN hd 5).trans hx5.out;go_wp2_with fail;refine Ab.mk (hK ?val1_6 _ _ nn ?eqA (Aa.refl _) (fun iv' _ _=> ?ja))
    case eqA=>first|rfl|(simp only [Ac,h5]; rfl)
    case ja=>exact hx6.out.symm
   ·have h6:=(dN hd 6).trans hx6.out;go_wp2_with fail;refine Ab.mk (hK ?val1_7 _ _ nn ?eqA (Aa.refl _) (fun iv' _ _=> ?ja))
    case eqA=>first|rfl|(simp only [Ac,h6]; rfl)
    case ja=>exact hx7.out.symm
   ·have h7:=(dN hd 7).trans hx7.out;go_wp2_with fail;refine Ab.mk (hK ?val1_8 _ _ nn ?eqA (Aa.refl _) (fun iv' _ _=> ?ja))
    case eqA=>first|rfl|(simp only [Ac,h7]; rfl)
    case ja=>exact hx8.out.symm
   ·have h8:=(dN hd 8).trans hx8.out;go_wp2_with fail;have hO:Ai (XB X w.heap.size 2) wb w1:=Ai.of_spares hSo.out (fun b _ ⟨m,hg⟩=>hGX m b hg);obtain ⟨XQ,hXQ⟩:∃XQ,XQ=Bw wb (XB X w.heap.size 2) (fun b=>False) w1:=⟨_,rfl⟩
    have hXl:∀b,XQ b→b<w1.heap.size:=by rw [hXQ]; exact Bw.lt
    have hOld:∀(d:D) (v:Value),RdX (XB X w.heap.size 2) wb d v→RdX XQ w1 d v:=by rw [hXQ]; exact fun d v h=>h.toOut hO
    refine (HIH.out v.size (by omega) v XQ _ _ _ (Nat.le_refl _) hXl (hOld _ _ hv) hvt (by omega)).mono ?_;rintro e w2 ⟨s2,c2,rfl,hr,hb⟩;go_wp2_with fail;rw [hXQ] at hr;exact Ab.mk (hK (.agg #[.int .i64 v.tidy.kind,.int .i64 v.tidy.num,.slice s2 v.tidy.kids.length c2]) _ _ nn (by first|rfl|(simp only [Ac,h8])) (Aa.of_below hb) (fun iv' ag hi=>⟨s2,c2,rfl,RdO.ofX hr hb hO (fun b h=>by exact h.elim) (fun b h1 h2=>A5 hi h1 h2)⟩))
   ·obtain ⟨s1,c1,h4,f4⟩:=dN hd 4;obtain ⟨s2,c2,h9,f9⟩:=dN hd 9;go_wp2_with fail;have hO:Ai (XB X w.heap.size 2) wb w1:=Ai.of_spares hSo.out (fun b _ ⟨m,hg⟩=>hGX m b hg);obtain ⟨XQ,hXQ⟩:∃XQ,XQ=Bw wb (XB X w.heap.size 2) (fun b=>(foot [(10,4),(10,9)] [(11,0)] (fun m b=>(m=0∧b=(w.heap.size+1))) 12 4 iv) b∨(foot [(10,4),(10,9)] [(11,0)] (fun m b=>(m=0∧b=(w.heap.size+1))) 12 9 iv) b) w1:=⟨_,rfl⟩
    have hXl:∀b,XQ b→b<w1.heap.size:=by rw [hXQ]; exact Bw.lt
    have x4:RdX XQ w1 (Ae u.tidy.kids) (.slice s1 u.tidy.kids.length c1):=by rw [hXQ]; exact f4.toX hO (fun b h=>(Or.inl h))
    have x9:RdX XQ w1 (Ae v.tidy.kids) (.slice s2 v.tidy.kids.length c2):=by rw [hXQ]; exact f9.toX hO (fun b h=>(Or.inr h))
    have hOld:∀(d:D) (v:Value),RdX (XB X w.heap.size 2) wb d v→RdX XQ w1 d v:=by rw [hXQ]; exact fun d v h=>h.toOut hO
    refine (Vb ht ha hXl x4 x9 hu1 hv1 (by omega)).mono ?_;rintro e w2 ⟨s3,c3,rfl,hr,hb⟩;go_wp2_with fail;rw [hXQ] at hr;exact Ab.mk (hK (.agg #[.int .i64 (Bk u.tidy v.tidy).kind,.int .i64 (Bk u.tidy v.tidy).num,.slice s3 (Bk u.tidy v.tidy).kids.length c3]) _ _ nn (by first|rfl|(simp only [Ac,h4,h9])) (Aa.of_below hb) (fun iv' ag hi=>⟨s3,c3,rfl,RdO.ofX hr hb hO (fun b h=>by rcases h with h|h; exact Cz (by kernel_rfl) ag h; exact Cz (by kernel_rfl) ag h) (fun b h1 h2=>A5 hi h1 h2)⟩))
   obtain ⟨s3,c3,h10,f10⟩:=dN hd 10;have R1:=R.keep (hS.out 0 _ (by kernel_rfl) ⟨rfl,rfl⟩);have rc0:=R1.c0;have rz0:=R1.frozen 0;have rc1:=R1.c1;have rz1:=R1.frozen 1;have rc2:=R1.c2;have rz2:=R1.frozen 2;have rlt:=R1.lt;go_wp2_with fail
   exact Ab.mk (hK undef _ _ (fun _=>rfl) (by simp only [Ac,h10]) ((Ar (b0:=(w.heap.size+1)) (by repeat (first|exact Aa.refl _|apply Aa.set))).more (fun b h=>Or.inl ⟨0,by decide,⟨rfl,h⟩⟩)) (fun iv' ag hi=>by
    show Blk _ (w.heap.size+1) 28 [Ad (vs 10) 0,Ad (vs 10) 1,Ad (vs 10) 2]
    rw [h10]
    exact (((R1.set 0 _).set 1 _).set 2 _)))
  case hQ=>
   intro iv vs wx hB hSp hd he hbd hsep;have hzB:=hB.size;have h0:=(dE hd 0).trans hx0.out;have h1:=(dE hd 1).trans hx1.out;have h2:=(dE hd 2).trans hx2.out;have h3:=(dE hd 3).trans hx3.out;obtain ⟨s1,c1,h4⟩:=dM he 4;have h5:=(dE hd 5).trans hx5.out;have h6:=(dE hd 6).trans hx6.out;have h7:=(dE hd 7).trans hx7.out;have h8:=(dE hd 8).trans hx8.out;obtain ⟨s2,c2,h9⟩:=dM he 9;obtain ⟨s3,c3,h10,f10⟩:=dE hd 10;have f11:Blk _ (w.heap.size+1) 28 [Ad (vs 10) 0,Ad (vs 10) 1,Ad (vs 10) 2]:=dE hd 11;simp only [Af,Ac];have hOq:Ai (XB X w.heap.size 2) wb wx:=Ai.of_spares hSp.out (fun b _ ⟨m,hg⟩=>hGX m b hg);have r10:RdX (XB X w.heap.size 2) wx (Ae (Bk u.tidy v.tidy).kids) (.slice s3 (Bk u.tidy v.tidy).kids.length c3):=f10.done hOq (fun b hf hx=>by have q:=Gw (l:=[0,1,2,3,4,5,6,7,8,9,10,11]) (by kernel_rfl) (by kernel_rfl) hbd.out hf; have q':=hXW b hx; omega);clear f10;rw [h10] at f11;simp only [Ad] at f11;have t0:=f11.c0;have t1:=f11.c1;have t2:=f11.c2;go_wp2_with fail;refine bodyPost_ret (v:= .agg #[.int .i64 (Bk u.tidy v.tidy).kind,.int .i64 (Bk u.tidy v.tidy).num,.slice s3 (Bk u.tidy v.tidy).kids.length c3]) (by simp [results,Tryz.results79,go_sem,t0,t1,t2]) rfl ?_;rw [E1.out];exact ⟨_,_,rfl,ExX.unbox (p:=w.heap.size) (n:=2) r10,hB'.trans (hB.mono (by omega))⟩
 have c6:(k==6)=false:=by simp [h6]
 by_cases h7:k=7
 ·subst h7;obtain ⟨u,v,rfl⟩:=As hk (by omega);have hsz:=Ex.size_eq (.mk 7 n [u,v]);simp only [Ex.sizeL,Ex.kids_mk] at hsz
  have E1:Hid ((Ex.mk 7 n [u,v]).tidy=Ex.dot u.tidy v.tidy):=by show _=_; exact Ex.tidy_dot
  have hut:u.tree tm am=true:=Ex.treeL_mem htl (by simp);have hvt:v.tree tm am=true:=Ex.treeL_mem htl (by simp);obtain ⟨hu1,hu2⟩:=Ce tm am _ u (Nat.le_refl _) hut;obtain ⟨hv1,hv2⟩:=Ce tm am _ v (Nat.le_refl _) hvt;obtain ⟨kb,ko,su,cu,rfl, -, -, -, -, -, -, -⟩:=D3 hx;simp only [List.length_cons,List.length_nil,Nat.zero_add] at hl ⊢;clear htl hk
  go_enter Tryz.func79,Tryz.ntmps79
  go_wp2_with fail;have L:=(Blk.new3 w 28 (.int .i64 7) (.int .i64 n) (.slice (some ⟨kb,ko,none⟩) 2 c)).alloc (.cells #[.int .i64 0,.int .i64 0,.slice none 0 0] 28);have R:=Blk.new3 (w.alloc (.cells #[.int .i64 7,.int .i64 n,.slice (some ⟨kb,ko,none⟩) 2 c] 28)) 28 (.int .i64 0) (.int .i64 0) (.slice none 0 0);have hB:Below w.heap.size w ((w.alloc (.cells #[.int .i64 7,.int .i64 n,.slice (some ⟨kb,ko,none⟩) 2 c] 28)).alloc (.cells #[.int .i64 0,.int .i64 0,.slice none 0 0] 28)):=bel
  have hz0:((w.alloc (.cells #[.int .i64 7,.int .i64 n,.slice (some ⟨kb,ko,none⟩) 2 c] 28)).alloc (.cells #[.int .i64 0,.int .i64 0,.slice none 0 0] 28)).heap.size=w.heap.size+2:=by simp
  simp at R;generalize (w.alloc (.cells #[.int .i64 7,.int .i64 n,.slice (some ⟨kb,ko,none⟩) 2 c] 28)).alloc (.cells #[.int .i64 0,.int .i64 0,.slice none 0 0] 28)=wb at L R hB hz0 ⊢;have hx1:ExX (XB X w.heap.size 2) wb (.mk 7 n [u,v]) (some ⟨kb,ko,none⟩) c:=ExX.boxes hx hB;have hB':=hB;have hXW:∀b,XB X w.heap.size 2 b→b<wb.heap.size:=fun b q=>q.elim (fun q=>by have:=hX _ q; omega) (fun q=>by omega);clear hx;obtain ⟨kb',ko',su,cu,e1, -, -, -, hkb,hkX,ku,hu⟩:=D3 (r:=[v]) hx1;simp only [Option.some.injEq,Addr.mk.injEq,and_true] at e1;obtain ⟨rfl,rfl⟩:=e1;obtain ⟨sv,cv,kv,hv⟩:=Ix (r:=[]) hx1;have Hku:=hid ku;have Hkv:=hid kv;clear ku kv hx1;obtain ⟨x0,hx0⟩:=Aj ?a2_0;obtain ⟨x1,hx1⟩:=Aj ?a2_1;obtain ⟨x2,hx2⟩:=Aj ?a2_2;obtain ⟨x3,hx3⟩:=Aj ?a2_3;obtain ⟨x5,hx5⟩:=Aj ?a2_5;obtain ⟨x6,hx6⟩:=Aj ?a2_6;obtain ⟨x7,hx7⟩:=Aj ?a2_7;obtain ⟨x8,hx8⟩:=Aj ?a2_8
  have hGb:∀m b,(fun m b=>(m=0∧b=(w.heap.size+1))) m b→(w.heap.size)≤b∧b<(wb).heap.size:=by
   intro m b hg
   rcases hg with ⟨rfl,hg⟩
   subst hg;have q:=R.lt;omega
  have hGd:∀m m' b,(fun m b=>(m=0∧b=(w.heap.size+1))) m b→(fun m b=>(m=0∧b=(w.heap.size+1))) m' b→m=m':=by
   intro m m' b h h'
   rcases h with ⟨rfl,h⟩<;>rcases h' with ⟨rfl,h'⟩<;>first
    |rfl
  have hGX:∀m b,(fun m b=>(m=0∧b=(w.heap.size+1))) m b→(XB X w.heap.size 2) b:=by
   intro m b hg;exact Or.inr (by omega)
  refine Aw [(10,4),(10,9)] [(11,0)] (fun m b=>(m=0∧b=(w.heap.size+1))) (w.heap.size) (fun i iv vs wx=>match i with
   |0=>vs 0=x0
   |1=>vs 1=x1
   |2=>vs 2=x2
   |3=>vs 3=x3
   |4=>∃s1 c1,vs 4= .agg #[.int .i64 u.tidy.kind,.int .i64 u.tidy.num,.slice s1 u.tidy.kids.length c1]∧RdO wb (XB X w.heap.size 2) (foot [(10,4),(10,9)] [(11,0)] (fun m b=>(m=0∧b=(w.heap.size+1))) 12 4 iv) wx (Ae u.tidy.kids) (.slice s1 u.tidy.kids.length c1)
   |5=>vs 5=x5
   |6=>vs 6=x6
   |7=>vs 7=x7
   |8=>vs 8=x8
   |9=>∃s2 c2,vs 9= .agg #[.int .i64 v.tidy.kind,.int .i64 v.tidy.num,.slice s2 v.tidy.kids.length c2]∧RdO wb (XB X w.heap.size 2) (foot [(10,4),(10,9)] [(11,0)] (fun m b=>(m=0∧b=(w.heap.size+1))) 12 9 iv) wx (Ae v.tidy.kids) (.slice s2 v.tidy.kids.length c2)
   |10=>∃s3 c3,vs 10= .agg #[.int .i64 (Ex.dot u.tidy v.tidy).kind,.int .i64 (Ex.dot u.tidy v.tidy).num,.slice s3 (Ex.dot u.tidy v.tidy).kids.length c3]∧RdO wb (XB X w.heap.size 2) (foot [(10,4),(10,9)] [(11,0)] (fun m b=>(m=0∧b=(w.heap.size+1))) 12 10 iv) wx (Ae (Ex.dot u.tidy v.tidy).kids) (.slice s3 (Ex.dot u.tidy v.tidy).kids.length c3)
   |11=>Blk wx (w.heap.size+1) 28 [Ad (vs 10) 0,Ad (vs 10) 1,Ad (vs 10) 2]
   |_=>True) (fun i iv vs=>match i with
   |0=>vs 0=x0
   |1=>vs 1=x1
   |2=>vs 2=x2
   |3=>vs 3=x3
   |4=>∃s1 c1,vs 4= .agg #[.int .i64 u.tidy.kind,.int .i64 u.tidy.num,.slice s1 u.tidy.kids.length c1]
   |5=>vs 5=x5
   |6=>vs 6=x6
   |7=>vs 7=x7
   |8=>vs 8=x8
   |9=>∃s2 c2,vs 9= .agg #[.int .i64 v.tidy.kind,.int .i64 v.tidy.num,.slice s2 v.tidy.kids.length c2]
   |10=>∃s3 c3,vs 10= .agg #[.int .i64 (Ex.dot u.tidy v.tidy).kind,.int .i64 (Ex.dot u.tidy v.tidy).num,.slice s3 (Ex.dot u.tidy v.tidy).kids.length c3]
   |11=>True
   |_=>True) (by kernel_rfl) (by kernel_rfl) [0,1,2,3,4,5,6,7,8,9,10,11] (by kernel_rfl) ?hbase ?hGb ?hG ?hJ ?hE ?hEE ?hstep ?hQ
  case hbase=>first|exact Nat.le_refl _|omega|(simp; omega)
  case hGb=>
   exact hGb
  case hG=>
   exact hGd
  case hJ=>
   intro i hi iv iv' vs vs' wx wx' ha hv hz hk hj;simp at hi
   rcases hi with rfl|rfl|rfl|rfl|rfl|rfl|rfl|rfl|rfl|rfl|rfl|rfl
   all_goals try exact (aG hv _).symm.trans hj
   ·have e4:=aG hv 4;obtain ⟨s1,c1,q1,q2⟩:=hj;exact ⟨s1,c1,e4 ▸ q1,q2.keep hz (fun b hb h1=>hk.out b hb h1) (fun b h1=>At (l:=Am _ 12 4) (by exact of_decide_eq_true (by kernel_rfl)) ha.out h1)⟩
   ·have e9:=aG hv 9;obtain ⟨s2,c2,q1,q2⟩:=hj;exact ⟨s2,c2,e9 ▸ q1,q2.keep hz (fun b hb h1=>hk.out b hb h1) (fun b h1=>At (l:=Am _ 12 9) (by exact of_decide_eq_true (by kernel_rfl)) ha.out h1)⟩
   ·have e10:=aG hv 10;obtain ⟨s3,c3,q1,q2⟩:=hj;exact ⟨s3,c3,e10 ▸ q1,q2.keep hz (fun b hb h1=>hk.out b hb h1) (fun b h1=>At (l:=Am _ 12 10) (by exact of_decide_eq_true (by kernel_rfl)) ha.out h1)⟩
   have e10:=aG hv 10;have hj':Blk wx (w.heap.size+1) 28 [Ad (vs 10) 0,Ad (vs 10) 1,Ad (vs 10) 2]:=hj
   show Blk wx' (w.heap.size+1) 28 [Ad (vs' 10) 0,Ad (vs' 10) 1,Ad (vs' 10) 2]
   rw [←e10];exact hj'.keep (hk.out _ hj'.lt (Ao 0 (by decide) ⟨rfl,rfl⟩))
  case hE=>
   intro i hi iv vs wx hj;simp at hi
   rcases hi with rfl|rfl|rfl|rfl|rfl|rfl|rfl|rfl|rfl|rfl|rfl|rfl
   all_goals try exact hj
   ·obtain ⟨s1,c1,q1, -⟩:=hj;exact ⟨s1,c1,q1⟩
   ·obtain ⟨s2,c2,q1, -⟩:=hj;exact ⟨s2,c2,q1⟩
   ·obtain ⟨s3,c3,q1, -⟩:=hj;exact ⟨s3,c3,q1⟩
   trivial
  case hEE=>
   intro i hi iv iv' vs vs' ha hv hj;simp at hi
   rcases hi with rfl|rfl|rfl|rfl|rfl|rfl|rfl|rfl|rfl|rfl|rfl|rfl
   all_goals try exact (aG hv _).symm.trans hj
   ·have e4:=aG hv 4;have hj':∃s1 c1,vs 4= .agg #[.int .i64 u.tidy.kind,.int .i64 u.tidy.num,.slice s1 u.tidy.kids.length c1]:=hj
    show ∃s1 c1,vs' 4= .agg #[.int .i64 u.tidy.kind,.int .i64 u.tidy.num,.slice s1 u.tidy.kids.length c1]
    rw [←e4];exact hj'
   ·have e9:=aG hv 9;have hj':∃s2 c2,vs 9= .agg #[.int .i64 v.tidy.kind,.int .i64 v.tidy.num,.slice s2 v.tidy.kids.length c2]:=hj
    show ∃s2 c2,vs' 9= .agg #[.int .i64 v.tidy.kind,.int .i64 v.tidy.num,.slice s2 v.tidy.kids.length c2]
    rw [←e9];exact hj'
   ·have e10:=aG hv 10;have hj':∃s3 c3,vs 10= .agg #[.int .i64 (Ex.dot u.tidy v.tidy).kind,.int .i64 (Ex.dot u.tidy v.tidy).num,.slice s3 (Ex.dot u.tidy v.tidy).kids.length c3]:=hj
    show ∃s3 c3,vs' 10= .agg #[.int .i64 (Ex.dot u.tidy v.tidy).kind,.int .i64 (Ex.dot u.tidy v.tidy).num,.slice s3 (Ex.dot u.tidy v.tidy).kids.length c3]
    rw [←e10];exact hj'
   trivial
  case hstep=>
   intro i hi opr ho iv vs w1 hB hS hSo hd he hbd hsep hun K hK;simp at hi;have hzB:=hB.size;have HGb:=hid hGb;clear hGb hGd;have kw:=hSo.out.block _ hkb (fun ⟨_,_,h⟩=>hkX (Or.inr (by omega)));obtain ⟨u0,u1,u2⟩:=Hku.out.keep kw;obtain ⟨v0,v1,v2⟩:=Hkv.out.keep kw;have L1:=L.keep (hSo.out.block _ L.lt (fun ⟨_,_,h⟩=>by omega));have l0:=L1.c0;have l1:=L1.c1;have l2:=L1.c2;generalize hA:Af _ 0 vs _=A at hK ⊢;simp only [Af,Ac] at hA
   rcases hi with rfl|rfl|rfl|rfl|rfl|rfl|rfl|rfl|rfl|rfl|rfl|rfl
   all_goals
    simp at ho;subst ho;subst hA
   ·go_wp2_with fail;refine Ab.mk (hK ?val2_0 _ _ nn ?eqA (Aa.refl _) (fun iv' _ _=> ?ja))
    case eqA=>first|rfl|(simp only [Ac]; rfl)
    case ja=>exact hx0.out.symm
   ·have h0:=(dN hd 0).trans hx0.out;go_wp2_with fail;refine Ab.mk (hK ?val2_1 _ _ nn ?eqA (Aa.refl _) (fun iv' _ _=> ?ja))
    case eqA=>first|rfl|(simp only [Ac,h0]; rfl)
    case ja=>exact hx1.out.symm
   ·have h1:=(dN hd 1).trans hx1.out;go_wp2_with fail;refine Ab.mk (hK ?val2_2 _ _ nn ?eqA (Aa.refl _) (fun iv' _ _=> ?ja))
    case eqA=>first|rfl|(simp only [Ac,h1]; rfl)
    case ja=>exact hx2.out.symm
   ·have h2:=(dN hd 2).trans hx2.out;go_wp2_with fail;refine Ab.mk (hK ?val2_3 _ _ nn ?eqA (Aa.refl _) (fun iv' _ _=> ?ja))
    case eqA=>first|rfl|(simp only [Ac,h2]; rfl)
    case ja=>exact hx3.out.symm
   ·have h3:=(dN hd 3).trans hx3.out;go_wp2_with fail;have hO:Ai (XB X w.heap.size 2) wb w1:=Ai.of_spares hSo.out (fun b _ ⟨m,hg⟩=>hGX m b hg);obtain ⟨XQ,hXQ⟩:∃XQ,XQ=Bw wb (XB X w.heap.size 2) (fun b=>False) w1:=⟨_,rfl⟩
    have hXl:∀b,XQ b→b<w1.heap.size:=by rw [hXQ]; exact Bw.lt
    have hOld:∀(d:D) (v:Value),RdX (XB X w.heap.size 2) wb d v→RdX XQ w1 d v:=by rw [hXQ]; exact fun d v h=>h.toOut hO
    refine (HIH.out u.size (by omega) u XQ _ _ _ (Nat.le_refl _) hXl (hOld _ _ hu) hut (by omega)).mono ?_;rintro e w2 ⟨s1,c1,rfl,hr,hb⟩;go_wp2_with fail;rw [hXQ] at hr;exact Ab.mk (hK (.agg #[.int .i64 u.tidy.kind,.int .i64 u.tidy.num,.slice s1 u.tidy.kids.length c1]) _ _ nn (by first|rfl|(simp only [Ac,h3])) (Aa.of_below hb) (fun iv' ag hi=>⟨s1,c1,rfl,RdO.ofX hr hb hO (fun b h=>by exact h.elim) (fun b h1 h2=>A5 hi h1 h2)⟩))
   ·go_wp2_with fail;refine Ab.mk (hK ?val2_5 _ _ nn ?eqA (Aa.refl _) (fun iv' _ _=> ?ja))
    case eqA=>first|rfl|(simp only [Ac]; rfl)
    case ja=>exact hx5.out.symm
   ·have h5:=(dN hd 5).trans hx5.out;go_wp2_with fail;refine Ab.mk (hK ?val2_6 _ _ nn ?eqA (Aa.refl _) (fun iv' _ _=> ?ja))
    case eqA=>first|rfl|(simp only [Ac,h5]; rfl)
    case ja=>exact hx6.out.symm
   ·have h6:=(dN hd 6).trans hx6.out;go_wp2_with fail;refine Ab.mk (hK ?val2_7 _ _ nn ?eqA (Aa.refl _) (fun iv' _ _=> ?ja))
    case eqA=>first|rfl|(simp only [Ac,h6]; rfl)
    case ja=>exact hx7.out.symm
   ·have h7:=(dN hd 7).trans hx7.out;go_wp2_with fail;refine Ab.mk (hK ?val2_8 _ _ nn ?eqA (Aa.refl _) (fun iv' _ _=> ?ja))
    case eqA=>first|rfl|(simp only [Ac,h7]; rfl)
    case ja=>exact hx8.out.symm
   ·have h8:=(dN hd 8).trans hx8.out;go_wp2_with fail;have hO:Ai (XB X w.heap.size 2) wb w1:=Ai.of_spares hSo.out (fun b _ ⟨m,hg⟩=>hGX m b hg);obtain ⟨XQ,hXQ⟩:∃XQ,XQ=Bw wb (XB X w.heap.size 2) (fun b=>False) w1:=⟨_,rfl⟩
    have hXl:∀b,XQ b→b<w1.heap.size:=by rw [hXQ]; exact Bw.lt
    have hOld:∀(d:D) (v:Value),RdX (XB X w.heap.size 2) wb d v→RdX XQ w1 d v:=by rw [hXQ]; exact fun d v h=>h.toOut hO
    refine (HIH.out v.size (by omega) v XQ _ _ _ (Nat.le_refl _) hXl (hOld _ _ hv) hvt (by omega)).mono ?_;rintro e w2 ⟨s2,c2,rfl,hr,hb⟩;go_wp2_with fail;rw [hXQ] at hr;exact Ab.mk (hK (.agg #[.int .i64 v.tidy.kind,.int .i64 v.tidy.num,.slice s2 v.tidy.kids.length c2]) _ _ nn (by first|rfl|(simp only [Ac,h8])) (Aa.of_below hb) (fun iv' ag hi=>⟨s2,c2,rfl,RdO.ofX hr hb hO (fun b h=>by exact h.elim) (fun b h1 h2=>A5 hi h1 h2)⟩))
   ·obtain ⟨s1,c1,h4,f4⟩:=dN hd 4;obtain ⟨s2,c2,h9,f9⟩:=dN hd 9;go_wp2_with fail;have hO:Ai (XB X w.heap.size 2) wb w1:=Ai.of_spares hSo.out (fun b _ ⟨m,hg⟩=>hGX m b hg);obtain ⟨XQ,hXQ⟩:∃XQ,XQ=Bw wb (XB X w.heap.size 2) (fun b=>(foot [(10,4),(10,9)] [(11,0)] (fun m b=>(m=0∧b=(w.heap.size+1))) 12 4 iv) b∨(foot [(10,4),(10,9)] [(11,0)] (fun m b=>(m=0∧b=(w.heap.size+1))) 12 9 iv) b) w1:=⟨_,rfl⟩
    have hXl:∀b,XQ b→b<w1.heap.size:=by rw [hXQ]; exact Bw.lt
    have x4:RdX XQ w1 (Ae u.tidy.kids) (.slice s1 u.tidy.kids.length c1):=by rw [hXQ]; exact f4.toX hO (fun b h=>(Or.inl h))
    have x9:RdX XQ w1 (Ae v.tidy.kids) (.slice s2 v.tidy.kids.length c2):=by rw [hXQ]; exact f9.toX hO (fun b h=>(Or.inr h))
    have hOld:∀(d:D) (v:Value),RdX (XB X w.heap.size 2) wb d v→RdX XQ w1 d v:=by rw [hXQ]; exact fun d v h=>h.toOut hO
    refine (Sq tm am _ u.tidy v.tidy XQ _ _ _ _ _ (Nat.le_refl _) hXl x4 x9 hu1).mono ?_;rintro e w2 ⟨s3,c3,rfl,hr,hb⟩;go_wp2_with fail;rw [hXQ] at hr;exact Ab.mk (hK (.agg #[.int .i64 (Ex.dot u.tidy v.tidy).kind,.int .i64 (Ex.dot u.tidy v.tidy).num,.slice s3 (Ex.dot u.tidy v.tidy).kids.length c3]) _ _ nn (by first|rfl|(simp only [Ac,h4,h9])) (Aa.of_below hb) (fun iv' ag hi=>⟨s3,c3,rfl,RdO.ofX hr hb hO (fun b h=>by rcases h with h|h; exact Cz (by kernel_rfl) ag h; exact Cz (by kernel_rfl) ag h) (fun b h1 h2=>A5 hi h1 h2)⟩))
   obtain ⟨s3,c3,h10,f10⟩:=dN hd 10;have R1:=R.keep (hS.out 0 _ (by kernel_rfl) ⟨rfl,rfl⟩);have rc0:=R1.c0;have rz0:=R1.frozen 0;have rc1:=R1.c1;have rz1:=R1.frozen 1;have rc2:=R1.c2;have rz2:=R1.frozen 2;have rlt:=R1.lt;go_wp2_with fail
   exact Ab.mk (hK undef _ _ (fun _=>rfl) (by simp only [Ac,h10]) ((Ar (b0:=(w.heap.size+1)) (by repeat (first|exact Aa.refl _|apply Aa.set))).more (fun b h=>Or.inl ⟨0,by decide,⟨rfl,h⟩⟩)) (fun iv' ag hi=>by
    show Blk _ (w.heap.size+1) 28 [Ad (vs 10) 0,Ad (vs 10) 1,Ad (vs 10) 2]
    rw [h10]
    exact (((R1.set 0 _).set 1 _).set 2 _)))
  intro iv vs wx hB hSp hd he hbd hsep;have hzB:=hB.size;have h0:=(dE hd 0).trans hx0.out;have h1:=(dE hd 1).trans hx1.out;have h2:=(dE hd 2).trans hx2.out;have h3:=(dE hd 3).trans hx3.out;obtain ⟨s1,c1,h4⟩:=dM he 4;have h5:=(dE hd 5).trans hx5.out;have h6:=(dE hd 6).trans hx6.out;have h7:=(dE hd 7).trans hx7.out;have h8:=(dE hd 8).trans hx8.out;obtain ⟨s2,c2,h9⟩:=dM he 9;obtain ⟨s3,c3,h10,f10⟩:=dE hd 10;have f11:Blk _ (w.heap.size+1) 28 [Ad (vs 10) 0,Ad (vs 10) 1,Ad (vs 10) 2]:=dE hd 11;simp only [Af,Ac];have hOq:Ai (XB X w.heap.size 2) wb wx:=Ai.of_spares hSp.out (fun b _ ⟨m,hg⟩=>hGX m b hg);have r10:RdX (XB X w.heap.size 2) wx (Ae (Ex.dot u.tidy v.tidy).kids) (.slice s3 (Ex.dot u.tidy v.tidy).kids.length c3):=f10.done hOq (fun b hf hx=>by have q:=Gw (l:=[0,1,2,3,4,5,6,7,8,9,10,11]) (by kernel_rfl) (by kernel_rfl) hbd.out hf; have q':=hXW b hx; omega);clear f10;rw [h10] at f11;simp only [Ad] at f11;have t0:=f11.c0;have t1:=f11.c1;have t2:=f11.c2;go_wp2_with fail;refine bodyPost_ret (v:= .agg #[.int .i64 (Ex.dot u.tidy v.tidy).kind,.int .i64 (Ex.dot u.tidy v.tidy).num,.slice s3 (Ex.dot u.tidy v.tidy).kids.length c3]) (by simp [results,Tryz.results79,go_sem,t0,t1,t2]) rfl ?_;rw [E1.out];exact ⟨_,_,rfl,ExX.unbox (p:=w.heap.size) (n:=2) r10,hB'.trans (hB.mono (by omega))⟩
 have c7:(k==7)=false:=by simp [h7]
 by_cases h8:k=8
 ·subst h8;obtain ⟨u,rfl⟩:=Bq hk (by omega);have hsz:=Ex.size_eq (.mk 8 n [u]);simp only [Ex.sizeL,Ex.kids_mk] at hsz
  have E1:Hid ((Ex.mk 8 n [u]).tidy=u.tidy.star):=by show _=_; exact Ex.tidy_star
  have hut:u.tree tm am=true:=Ex.treeL_mem htl (by simp);obtain ⟨kb,ko,su,cu,rfl, -, -, -, -, -, -, -⟩:=D3 hx;simp only [List.length_cons,List.length_nil,Nat.zero_add] at hl ⊢;obtain ⟨kb',ko',su,cu,e1, -, -, -, hkb, -, ku, -⟩:=D3 (r:=[]) hx;simp only [Option.some.injEq,Addr.mk.injEq,and_true] at e1;obtain ⟨rfl,rfl⟩:=e1;obtain ⟨u0,u1,u2⟩:=ku;clear htl hk
  go_enter Tryz.func79,Tryz.ntmps79
  go_wp2_with fail;have L:=(Blk.new3 w 28 (.int .i64 8) (.int .i64 n) (.slice (some ⟨kb,ko,none⟩) 1 c)).alloc (.cells #[.int .i64 0,.int .i64 0,.slice none 0 0] 28);have R:=Blk.new3 (w.alloc (.cells #[.int .i64 8,.int .i64 n,.slice (some ⟨kb,ko,none⟩) 1 c] 28)) 28 (.int .i64 0) (.int .i64 0) (.slice none 0 0);have hB:Below w.heap.size w ((w.alloc (.cells #[.int .i64 8,.int .i64 n,.slice (some ⟨kb,ko,none⟩) 1 c] 28)).alloc (.cells #[.int .i64 0,.int .i64 0,.slice none 0 0] 28)):=bel
  have hz0:((w.alloc (.cells #[.int .i64 8,.int .i64 n,.slice (some ⟨kb,ko,none⟩) 1 c] 28)).alloc (.cells #[.int .i64 0,.int .i64 0,.slice none 0 0] 28)).heap.size=w.heap.size+2:=by simp
  simp at R;generalize (w.alloc (.cells #[.int .i64 8,.int .i64 n,.slice (some ⟨kb,ko,none⟩) 1 c] 28)).alloc (.cells #[.int .i64 0,.int .i64 0,.slice none 0 0] 28)=wb at L R hB hz0 ⊢;have hx1:ExX (XB X w.heap.size 2) wb (.mk 8 n [u]) (some ⟨kb,ko,none⟩) c:=ExX.boxes hx hB;have hB':=hB;have hXW:∀b,XB X w.heap.size 2 b→b<wb.heap.size:=fun b q=>q.elim (fun q=>by have:=hX _ q; omega) (fun q=>by omega);clear hx;obtain ⟨kb',ko',su',cu',e1, -, -, -, -, hkX,ku',hu⟩:=D3 (r:=[]) hx1;simp only [Option.some.injEq,Addr.mk.injEq,and_true] at e1;obtain ⟨rfl,rfl⟩:=e1;have e2:=(hB.cell (p:=⟨kb,ko+2,none⟩) hkb).trans u2;rw [ku'.2.2] at e2;simp only [Option.some.injEq,Value.slice.injEq,true_and] at e2;obtain ⟨rfl,rfl⟩:=e2;refine (HIH.out u.size (by omega) u (XB X w.heap.size 2) _ _ _ (Nat.le_refl _) hXW hu hut (by omega)).mono ?_;rintro f w2 ⟨s2,c2,rfl,h2,hb⟩;replace hB:=Below.on hB hb hB.size;replace R:=R.below hb;clear u0 u1 u2 ku';go_wp2_with fail;refine (Uy (fun b q=>Nat.lt_of_lt_of_le (hXW b q) hb.size) h2).mono ?_;rintro f w3 ⟨s3,c3,rfl,h3,hb3⟩;replace hB:=Below.on hB hb3 hB.size;replace R:=R.below hb3
  -- the result box w.heap.size+1 of world w3 is set to an expression; goal:bodyPost. R:the box; Rests:hs5:Aa,T2
  obtain ⟨r0,r1,r2,z0,z1,z2,ltR⟩:=R.all3;obtain ⟨w5,e5,T2,hs5⟩:=zZ3 R (.int .i64 u.tidy.star.kind) (.int .i64 u.tidy.star.num) (.slice s3 u.tidy.star.kids.length c3);go_wp2_with fail;clear e5;have t0:=T2.c0;have t1:=T2.c1;have t2:=T2.c2;have hzB5:=hB.size;have hB5:=hB.trans (hs5.below (B:=w.heap.size) (by omega) (fun y hy=>by omega));refine bodyPost_ret (v:= .agg #[.int .i64 u.tidy.star.kind,.int .i64 u.tidy.star.num,.slice s3 u.tidy.star.kids.length c3]) (by simp [results,Tryz.results79,go_sem,t0,t1,t2]) rfl ?_;rw [E1.out];exact ⟨_,_,rfl,(h3.keep (Ai.of_spares hs5 (fun b _ h=>Or.inr (by omega)))).unbox,hB5⟩
 have c8:(k==8)=false:=by simp [h8]
 have E1:Hid ((Ex.mk k n ks).tidy= .mk k n ks):=by show _=_; exact Ex.tidy_else h6 h7 h8
 have hsz:=Ex.size_eq (.mk k n ks);simp only [Ex.kids_mk] at hsz;clear htl hk h6 h7 h8
 go_enter Tryz.func79,Tryz.ntmps79
 go_wp2_with fail;have L:=(Blk.new3 w 28 (.int .i64 k) (.int .i64 n) (.slice s ks.length c)).alloc (.cells #[.int .i64 0,.int .i64 0,.slice none 0 0] 28);have R:=Blk.new3 (w.alloc (.cells #[.int .i64 k,.int .i64 n,.slice s ks.length c] 28)) 28 (.int .i64 0) (.int .i64 0) (.slice none 0 0);have hB:Below w.heap.size w ((w.alloc (.cells #[.int .i64 k,.int .i64 n,.slice s ks.length c] 28)).alloc (.cells #[.int .i64 0,.int .i64 0,.slice none 0 0] 28)):=bel
 have hz0:((w.alloc (.cells #[.int .i64 k,.int .i64 n,.slice s ks.length c] 28)).alloc (.cells #[.int .i64 0,.int .i64 0,.slice none 0 0] 28)).heap.size=w.heap.size+2:=by simp
 simp at R;generalize (w.alloc (.cells #[.int .i64 k,.int .i64 n,.slice s ks.length c] 28)).alloc (.cells #[.int .i64 0,.int .i64 0,.slice none 0 0] 28)=wb at L R hB hz0 ⊢;have hx1:ExX (XB X w.heap.size 2) wb (.mk k n ks) s c:=ExX.boxes hx hB;have hB':=hB;have hXW:∀b,XB X w.heap.size 2 b→b<wb.heap.size:=fun b q=>q.elim (fun q=>by have:=hX _ q; omega) (fun q=>by omega);clear hx;refine (Zd (k:=k) (n:=n) (ks:=ks) (s:=s) (c:=c) hx1.rd (by omega)).mono ?_;rintro f w3 ⟨s3,c3,rfl,h3,hb3⟩;have h4:ExX (XB X w.heap.size 2) w3 (.mk k n ks) s3 c3:=RdX.fresh h3 hXW;replace hB:=Below.on hB hb3 hB.size;replace R:=R.below hb3
 -- the result box w.heap.size+1 of world w3 is set to an expression; goal:bodyPost. R:the box; Rests:hs5:Aa,T2
 obtain ⟨r0,r1,r2,z0,z1,z2,ltR⟩:=R.all3;obtain ⟨w5,e5,T2,hs5⟩:=zZ3 R (.int .i64 k) (.int .i64 n) (.slice s3 ks.length c3);go_wp2_with fail;clear e5;have t0:=T2.c0;have t1:=T2.c1;have t2:=T2.c2;have hzB5:=hB.size;have hB5:=hB.trans (hs5.below (B:=w.heap.size) (by omega) (fun y hy=>by omega));refine bodyPost_ret (v:= .agg #[.int .i64 k,.int .i64 n,.slice s3 ks.length c3]) (by simp [results,Tryz.results79,go_sem,t0,t1,t2]) rfl ?_;rw [E1.out];exact ⟨_,_,rfl,(h4.keep (Ai.of_spares hs5 (fun b _ h=>Or.inr (by omega)))).unbox,hB5⟩
theorem Ows.split {w:World}:∀{cs:List D} {xs:List Value} {F:List Nat},Ows w cs xs F→∀{j:Nat} {c:D},cs[j]? =some c→
  ∃x A G B,xs[j]? =some x∧F=A++(G++B)∧Ow w c x G∧
   (∀w' c' x' G',Ow w' c' x' G'→(∀b∈A++B,w'.heap[b]? =w.heap[b]?)→Ows w' (cs.set j c') (xs.set j x') (A++(G'++B)))
 |[],_,_,_,j,c,hj=>by simp at hj
 |c0::cs,_,_,h,j,c,hj=>by
  simp only [Ows] at h;obtain ⟨x,r,G,K,rfl,rfl,h1,h2⟩:=h
  cases j with
  |zero=>
   simp at hj;subst hj;refine ⟨x,[],G,K,by simp,by simp,h1,fun w' c' x' G' h' hk=> ?_⟩;simp only [List.set_cons_zero,Ows,List.nil_append];exact ⟨x',r,G',K,rfl,rfl,h',h2.keep fun b hb=>hk b (by simpa using hb)⟩
  |succ j=>
   obtain ⟨y,A,G1,B,e1,e2,e3,e4⟩:=Ows.split h2 (j:=j) (c:=c) (by simpa using hj);subst e2;refine ⟨y,G++A,G1,B,by simpa using e1,by simp,e3,fun w' c' x' G' h' hk=> ?_⟩
   have:=e4 w' c' x' G' h' (fun b hb=>hk b (by
    rcases List.mem_append.1 hb with hb|hb
    ·exact List.mem_append_left _ (List.mem_append_right _ hb)
    exact List.mem_append_right _ hb))
   simp only [List.set_cons_succ,Ows];exact ⟨x,_,G,A++(G'++B),rfl,by simp,h1.keep fun b hb=>hk b (by simp [hb]),this⟩
theorem Ht.blk {w:World} {b:Nat} (h:Ht w b):∃t cur,Blk w b t cur:=by
 obtain ⟨cur,t,h⟩:=h;exact ⟨t,cur.toList,by simpa [Blk] using h⟩
theorem Ht.set {w:World} {b:Nat} (h:Ht w b) (i:Nat) (v:Value):Ht (w.setCell ⟨b,i,none⟩ v) b:=by
 obtain ⟨t,cur,h⟩:=h.blk;exact (h.set i v).free
theorem Row.set {w:World} {b o:Nat} {xs:List Value} (hf:Ht w b) (h:Row w b o xs) (j:Nat) (v:Value):Row (w.setCell ⟨b,o+j,none⟩ v) b o (xs.set j v):=by
 obtain ⟨t,cur,hb⟩:=hf.blk;have hb':=hb.set (o+j) v;intro i hi;have h1:=h i (by simpa using hi);rw [hb.cell] at h1;rw [hb'.cell,List.getElem?_set,List.getElem?_set]
 by_cases hij:j=i
 ·subst hij
  have hlen:j<xs.length:=by simpa using hi
  have hcur:o+j<cur.length:=by
   by_cases hc:o+j<cur.length
   ·exact hc
   rw [List.getElem?_eq_none (by omega),List.getElem?_eq_getElem hlen] at h1
   cases h1
  simp [hlen,hcur]
 rw [if_neg (by omega),if_neg hij,h1]
theorem Ow.spot {w:World} {size n len cap:Nat} {cs:List D} {a:Option Addr} {F:List Nat} (h:Ow w (.sl size n cs) (.slice a len cap) F) (hn:0<n):∃b o,a=some ⟨b,o,none⟩:=by
 simp only [Ow] at h;obtain ⟨a',cap',h1,h2,h3,h4,h6,h5⟩:=h;simp only [Value.slice.injEq] at h1;obtain ⟨rfl,rfl,rfl⟩:=h1
 rcases h5 with h5|⟨b,o,xs,G,e1,_⟩
 ·omega
 exact ⟨b,o,e1⟩
theorem Ow.cell {w:World} {size n b o len cap:Nat} {cs:List D} {F:List Nat} (h:Ow w (.sl size n cs) (.slice (some ⟨b,o,none⟩) len cap) F) (hn:F.Nodup) {j:Nat} {c:D} (hj:cs[j]? =some c):
  ∃x G,w.cell? ⟨b,o+j,none⟩=some x∧w.frozen? ⟨b,o+j,none⟩=false∧b∈F∧b<w.heap.size∧b∉G∧(∀g∈G,g∈F)∧G.Nodup∧Ow w c x G∧
   (∀w' c',Ow w' c' x G→Dn G w w'→Ow w' (.sl size n (cs.set j c')) (.slice (some ⟨b,o,none⟩) len cap) F)∧
   (G=[]→∀c' x',(∀w',Ow w' c' x' [])→Ow (w.setCell ⟨b,o+j,none⟩ x') (.sl size n (cs.set j c')) (.slice (some ⟨b,o,none⟩) len cap) F):=by
 simp only [Ow] at h;obtain ⟨a,cap',h1,h2,h3,h4,h6,h5⟩:=h;simp only [Value.slice.injEq] at h1;obtain ⟨rfl,rfl,rfl⟩:=h1
 rcases h5 with ⟨h0,_⟩|⟨b',o',xs,K,e1,rfl,hf,hrow,hows⟩
 ·have:=(List.getElem?_eq_some_iff.1 hj).1;rw [h4,h0] at this;omega
 simp only [Option.some.injEq,Addr.mk.injEq,and_true] at e1;obtain ⟨rfl,rfl⟩:=e1;obtain ⟨x,A,G,B,s1,s2,s3,s4⟩:=hows.split hj;subst s2;rw [List.nodup_cons] at hn;obtain ⟨hnb,hnd⟩:=hn;have hbl:=hf.lt
 have ndG:G.Nodup:=by
  rw [List.nodup_append,List.nodup_append] at hnd;exact hnd.2.1.1
 have dis:∀g∈A++B,g∉G:=by
  intro g hg hg';rw [List.nodup_append,List.nodup_append] at hnd
  rcases List.mem_append.1 hg with hg|hg
  ·exact hnd.2.2 g hg g (List.mem_append_left _ hg') rfl
  exact hnd.2.1.2.2 g hg' g hg rfl
 have hltAB:∀g∈A++B,g<w.heap.size:=fun g hg=>hows.lt g (by
  rcases List.mem_append.1 hg with hg|hg
  ·exact List.mem_append_left _ hg
  exact List.mem_append_right _ (List.mem_append_right _ hg))
 have hj':j<xs.length:=(List.getElem?_eq_some_iff.1 s1).1;refine ⟨x,G,(hrow j hj').trans s1,hf.frozen _,List.mem_cons_self .., hbl,fun hm=>hnb (List.mem_append_right _ (List.mem_append_left _ hm)),fun g hg=>List.mem_cons_of_mem _ (List.mem_append_right _ (List.mem_append_left _ hg)),ndG,s3, ?_, ?_⟩
 ·intro w' c' hc' honly;have hb':w'.heap[b]? =w.heap[b]? :=honly.block b hbl (fun hm=>hnb (List.mem_append_right _ (List.mem_append_left _ hm)));have hset:=s4 w' c' x G hc' (fun g hg=>honly.block g (hltAB g hg) (dis g hg))
  rw [show xs.set j x=xs by
   obtain ⟨hl,hx⟩:=List.getElem?_eq_some_iff.1 s1
   rw [←hx]; exact List.set_getElem_self hl] at hset
  obtain ⟨cur,t,hcur⟩:=hf;simp only [Ow];exact ⟨_,cap,rfl,h2,h3,by rw [List.length_set]; exact h4,h6,Or.inr ⟨b,o,xs,A++(G++B),rfl,rfl,⟨cur,t,hb'.trans hcur⟩,hrow.congr hb',hset⟩⟩
 intro hG c' x' hc';subst hG
 have hset:=s4 (w.setCell ⟨b,o+j,none⟩ x') c' x' [] (hc' _) (fun g hg=>Below.heap_setCell _ _ _ _ (fun e=>hnb (by
  have e':g=b:=e;rw [←e']
  rcases List.mem_append.1 hg with hg|hg
  ·exact List.mem_append_left _ hg
  exact List.mem_append_right _ (List.mem_append_right _ hg))))
 simp only [Ow];exact ⟨_,cap,rfl,h2,h3,by rw [List.length_set]; exact h4,h6,Or.inr ⟨b,o,_,_,rfl,rfl,hf.set _ _,hrow.set hf j x',hset⟩⟩
theorem Ow.int_cell {w:World} {size n b o len cap:Nat} {cs:List D} {F:List Nat} (h:Ow w (.sl size n cs) (.slice (some ⟨b,o,none⟩) len cap) F) (hn:F.Nodup) {j:Nat} {z:Int} (hj:cs[j]? =some (.int z)):
  w.cell? ⟨b,o+j,none⟩=some (.int .i64 z)∧w.frozen? ⟨b,o+j,none⟩=false∧b<w.heap.size∧
   (∀z':Int,Ow (w.setCell ⟨b,o+j,none⟩ (.int .i64 z')) (.sl size n (cs.set j (.int z'))) (.slice (some ⟨b,o,none⟩) len cap) F∧Dn F w (w.setCell ⟨b,o+j,none⟩ (.int .i64 z'))):=by
 obtain ⟨x,G,h1,h2,h3,h4,h5,h6,h7,h8,h9,h10⟩:=h.cell hn hj;simp only [Ow] at h8;obtain ⟨rfl,rfl⟩:=h8;exact ⟨h1,h2,h4,fun z'=>⟨h10 rfl _ _ (fun _=>Ow.int _),(Dn.refl F w).setCell h3 _⟩⟩
theorem Oi {zs:List Int} {i:Nat} {z:Int} (h:zs[i]? =some z):(zs.map D.int)[i]? =some (D.int z):=by rw [List.getElem?_map,h]; rfl
end Go.Proofs.YtlchgfbkdjjngaaGreatDoor
