/-
  Parts of a proof, joined: PrL, Both, BothI, BothJ. No condition.
-/
import Derived.Test.YtfopdcdbelaapaaGreatDoorPk28
namespace Go.Proofs.YtfopdcdbelaapaaGreatDoor
set_option linter.unusedVariables false
set_option linter.unusedSimpArgs false
open Go.ChangeShapes Go.WideShapes Go.ChangeAt Go.RowKit Go.Deep
theorem rd_part {w:World} {L:List (Int × Int)} {f:Int × Int→Int} {v:Value} (h:Rd w (.sl 1 L.length ((L.map f).map D.int)) v):Rd w (intsD (L.map f)) v:=by
 show Rd w (.sl 1 (L.map f).length ((L.map f).map D.int)) v
 rw [List.length_map];exact h
theorem part_at {L:List (Int × Int)} {f:Int × Int→Int} {i:Nat} {p:Int × Int} (h:L[i]? =some p):(L.map f)[i]? =some (f p):=by rw [List.getElem?_map,h]; rfl
theorem nxtP_none {nx ny:List (List (List Int))} {m k:Nat} {p:Int × Int} {X Y:Int} (h1:goN nx p.1 m k=X) (h2:goN ny p.2 m k=Y) (hx:X<0) (hy:Y<0):nxtP nx ny m k p=none:=by unfold nxtP; rw [h1,h2,if_pos ⟨hx,hy⟩]
theorem nxtP_some {nx ny:List (List (List Int))} {m k:Nat} {p:Int × Int} {X Y:Int} (h1:goN nx p.1 m k=X) (h2:goN ny p.2 m k=Y) (h:¬(X<0∧Y<0)):nxtP nx ny m k p=some (X,Y):=by unfold nxtP; rw [h1,h2,if_neg h]
theorem prC_none {nx ny:List (List (List Int))} {A a i:Nat} {x:Int × Int} {m k:Nat} (hm:m<A) (hk:k<a) (h:nxtP nx ny m k x=none):prC nx ny A a i x m (k+1)=prC nx ny A a i x m k:=by rw [prC_cell hm hk,h]; rfl
theorem prC_was {nx ny:List (List (List Int))} {A a i:Nat} {x z:Int × Int} {m k:Nat} (hm:m<A) (hk:k<a) (h:nxtP nx ny m k x=some z) (hz:z∈prC nx ny A a i x m k):prC nx ny A a i x m (k+1)=prC nx ny A a i x m k:=by rw [prC_cell hm hk,h,grow1_old hz]
theorem prC_new {nx ny:List (List (List Int))} {A a i:Nat} {x z:Int × Int} {m k:Nat} (hm:m<A) (hk:k<a) (h:nxtP nx ny m k x=some z) (hz:z∉prC nx ny A a i x m k):prC nx ny A a i x m (k+1)=prC nx ny A a i x m k++[z]:=by rw [prC_cell hm hk,h,grow1_new hz]
def seenB (L:List (Int × Int)) (z:Int × Int) (k:Nat):Bool:=decide (z∈L.take k)
theorem seen_zero {L:List (Int × Int)} {z:Int × Int}:seenB L z 0=false:=by simp [seenB]
theorem seen_succ {L:List (Int × Int)} {z p:Int × Int} {k:Nat} (h:L[k]? =some p) (hs:seenB L z k=false):seenB L z (k+1)=(p.1==z.1&&p.2==z.2):=by
 obtain ⟨hk,rfl⟩:=List.getElem?_eq_some_iff.1 h;unfold seenB at hs ⊢;rw [decide_eq_false_iff_not] at hs;rw [List.take_succ_eq_append_getElem hk,Bool.eq_iff_iff,decide_eq_true_eq,List.mem_append,List.mem_singleton,Bool.and_eq_true,beq_iff_eq,beq_iff_eq]
 constructor
 ·
  rintro (h|h)
  ·
   exact absurd h hs
  ·
   rw [h]; exact ⟨rfl,rfl⟩
 ·
  rintro ⟨h1,h2⟩;exact Or.inr (Prod.ext h1.symm h2.symm)
theorem seen_yes {L:List (Int × Int)} {z:Int × Int} {k:Nat} (h:true=seenB L z k):z∈L:=List.mem_of_mem_take (of_decide_eq_true h.symm)
theorem seen_no {L:List (Int × Int)} {z:Int × Int} (h:false=seenB L z L.length):z∉L:=by
 have:=of_decide_eq_false h.symm
 rwa [List.take_length] at this
theorem bun_zero {B:Nat} {w:World} {items:List Item} (h:Bun B w items) (hB:B≤w.heap.size) {t:Nat} {v:Int}:Bun B (w.alloc (.cells #[.int .i64 v] t)) (items++[.app t 1 1 [D.int v] (.slice (some ⟨w.heap.size,0,none⟩) 1 1)]):=by
 refine h.push (Below.alloc (Below.refl _ _) (Nat.le_refl _) _) ?_;refine AppS.more (AppS.made (t:=t) (size:=1) (m:=1) (S:=fun _=>False) (none_own (w:=w) (v:=v)) (fun b h=>h.elim) rfl (by unfold maxLen; omega)) fun b _ hc=> ?_
 have hz:(w.alloc (.cells #[.int .i64 v] t)).heap.size=w.heap.size+1:=by simp
 rcases hc with hc|hc
 ·
  exact hc.elim
 ·
  omega
def PrW (B:Nat) (w0 wr:World) (T:Nat) (L:List (Int × Int)) (v0 v1:Value):Prop:=
 Bun B wr [.app T 1 L.length ((L.map Prod.fst).map D.int) v0, .app T 1 L.length ((L.map Prod.snd).map D.int) v1]∧Below B w0 wr
theorem PrW.snoc {B T:Nat} {w0 wr:World} {L:List (Int × Int)} {z:Int × Int} {v0 v1:Value} (h:Bun B wr [.app T 1 (L.length+1) ((L.map Prod.fst).map D.int++[D.int z.1]) v0, .app T 1 (L.length+1) ((L.map Prod.snd).map D.int++[D.int z.2]) v1]) (hb:Below B w0 wr):PrW B w0 wr T (L++[z]) v0 v1:=by
 refine ⟨?_,hb⟩
 simpa using h
set_option maxRecDepth 100000 in
set_option maxHeartbeats 16000000 in
theorem l03Pairs_i {t a:Int} {ac bc:List (List Bool)} {nx ny:List (List (List Int))} {s u s' u':Option Addr} {c d c' d' b o b' o':Nat} {w:World} (h:AutAt w b o t a ac nx s u c d) (h':AutAt w b' o' t a bc ny s' u' c' d') (hok:AutOk t a ac nx) (hok':AutOk t a bc ny):
  Calls Tryz.prog 147 #[.pointer (some ⟨b,o,none⟩), .pointer (some ⟨b',o',none⟩)] w fun e w'=>∃v0 v1,e= .returned (.tuple #[v0,v1])∧Rd w' (intsD ((prF nx ny (atomsN t).toNat a.toNat).map Prod.fst)) v0∧Rd w' (intsD ((prF nx ny (atomsN t).toNat a.toNat).map Prod.snd)) v1∧Below w.heap.size w w':=by
 obtain ⟨ht0,ht3,ha0,ha4⟩:=sigB_bd hok.sig;obtain ⟨hat1,hat8⟩:=atomsN_bd t;have hP1:=fun (i:Nat) (h:(prL nx ny (atomsN t).toNat a.toNat i).length≤i)=>prL_all hok hok' h;have hP2:=fun (i:Nat) (x:Int × Int) (m k:Nat) (hx:(prL nx ny (atomsN t).toNat a.toNat i)[i]? =some x)=>prC_ok (m:=m) (k:=k) hok hok' hx;have hP3:=fun (i:Nat)=>prL_many hok hok' i;obtain ⟨n,hn⟩:∃n:Nat,a=(n:Int):=⟨a.toNat,by omega⟩;obtain ⟨A,hA⟩:∃A:Nat,atomsN t=(A:Int):=⟨(atomsN t).toNat,by omega⟩;rw [show (atomsN t).toNat=A by omega,show a.toNat=n by omega] at*;have HA:=Lib.hid hA;have Hn:=Lib.hid hn;have HP1:=Lib.hid hP1;have HP2:=Lib.hid hP2;have HP3:=Lib.hid hP3;have Hok:=Lib.hid hok;have Hok':=Lib.hid hok';have Hh:=Lib.hid h;have Hh':=Lib.hid h'
 have hA8:A≤8:=by omega
 have hn4:n≤4:=by omega
 clear hP1 hP2 hP3 hok hok' h h' hA hat1 hat8
 go_enter Tryz.func147,Tryz.ntmps147
 go_wp2_with fail;have hB1:=bun_zero (Bun.nil (B:=w.heap.size) (w:=w)) (Nat.le_refl _) (t:=2) (v:=0);have hB2:=bun_zero hB1 (by simp) (t:=2) (v:=0);have hbe:=((Below.refl w.heap.size w).alloc (Nat.le_refl _) (.cells #[.int .i64 0] 2)).alloc (by simp) (.cells #[.int .i64 0] 2);rw [show (w.alloc (.cells #[.int .i64 0] 2)).heap.size=w.heap.size+1 by simp] at hB2;have Hst:Hid (PrW w.heap.size w ((w.alloc (.cells #[.int .i64 0] 2)).alloc (.cells #[.int .i64 0] 2)) 2 (prL nx ny A n 0) (.slice (some ⟨w.heap.size,0,none⟩) 1 1) (.slice (some ⟨w.heap.size+1,0,none⟩) 1 1)):=⟨hB2,hbe⟩;clear hB1 hB2 hbe
 go_loopw [6,7,8] (fun v0 v1 i wr=>∃k:Nat,i= .int .i64 k∧k≤(prL nx ny A n k).length∧PrW w.heap.size w wr 2 (prL nx ny A n k) v0 v1) (fun _ _ i _=>3722 - (intOf i).toNat)
 case atStart=>exact ⟨0,rfl,by omega,Hst.out⟩
 case round=>
  clear Hst;obtain ⟨i,rfl,hil,hW⟩:=hrel;obtain ⟨wo,rfl⟩:∃v,v=wr:=⟨_,rfl⟩;have hmany:=HP3.out i;obtain ⟨L,hL⟩:∃L,prL nx ny A n i=L:=⟨_,rfl⟩;rw [hL] at hW hil hmany;obtain ⟨a0,c0,rfl,q1,q2⟩:=hW.1.shape 0 rfl;obtain ⟨a1,c1,rfl,q3,q4⟩:=hW.1.shape 1 rfl;unfold maxLen at q2 q4;have HL:=Lib.hid hL;have HW:=Lib.hid hW;have hi0:=Int.natCast_nonneg i;have hzo:=hW.2.size;clear hL hW
  by_cases hlt:i<L.length
  rotate_left
  ·
   have hd:(prL nx ny A n i).length≤i:=by rw [HL.out]; omega
   have HF:Hid (prF nx ny A n=L):=by show _=_; unfold prF; rw [←HP1.out i hd,HL.out]
   clear hd;go_wp2_with fail;go_ret2;rw [HF.out];exact ⟨_,_,rfl,rd_part (HW.out.1.rd 0 rfl),rd_part (HW.out.1.rd 1 rfl),HW.out.2⟩
  obtain ⟨x,hx⟩:∃x,L[i]? =some x:=⟨_,List.getElem?_eq_getElem hlt⟩
  have hX:(prL nx ny A n i)[i]? =some x:=by rw [HL.out]; exact hx
  have HX:=Lib.hid hX;have hxok:=(HP2.out i x 0 0 hX).1 x (List.mem_of_getElem? (prL_at hX))
  have Hst:Hid (PrW w.heap.size w wo 2 (prC nx ny A n i x 0 0) (.slice a0 L.length c0) (.slice a1 L.length c1)):=by show PrW ..; rw [prC_zero,HL.out]; exact HW.out
  clear hx hX;go_wp2_with fail
  go_loopw [6,7,9] (fun v0 v1 j wr=>∃m:Nat,j= .int .i64 m∧m≤A∧PrW w.heap.size w wr 2 (prC nx ny A n i x m 0) v0 v1) (fun _ _ j _=>A - (intOf j).toNat)
  case atStart=>exact ⟨0,rfl,by omega,Hst.out⟩
  case round=>
   clear Hst HW q1 q2 q3 q4;obtain ⟨m,rfl,hmA,hW⟩:=hrel;obtain ⟨wm,rfl⟩:∃v,v=wr:=⟨_,rfl⟩;obtain ⟨Lm,hLm⟩:∃Lm,prC nx ny A n i x m 0=Lm:=⟨_,rfl⟩;rw [hLm] at hW;obtain ⟨am,cm,rfl, -, -⟩:=hW.1.shape 0 rfl;obtain ⟨an,cn,rfl, -, -⟩:=hW.1.shape 1 rfl;have HLm:=Lib.hid hLm;clear hLm;have hm0:=Int.natCast_nonneg m;obtain ⟨g0,g1,g2,g3, -, -⟩:=Hh.out.below hW.2;have HW:=Lib.hid hW;have hzm:=hW.2.size;clear hW;go_wp2_with fail;clear g0 g1 g2 g3;refine (l01Atoms_i ht0 ht3).mono ?_;rintro f w5 ⟨rfl,hb5⟩;rw [HA.out];have HW5:Hid (PrW w.heap.size w w5 2 Lm (.slice am Lm.length cm) (.slice an Lm.length cn)):=⟨HW.out.1.below hb5,HW.out.2.trans (hb5.mono hzm)⟩;have hz5:=hb5.size;clear hb5 HW
   by_cases hmlt:m<A
   rotate_left
   ·
    obtain rfl:A=m:=by omega
    have HW6:Hid (PrW w.heap.size w w5 2 (prL nx ny A n (i+1)) (.slice am Lm.length cm) (.slice an Lm.length cn)):=by show PrW ..; rw [←prC_all HX.out,HLm.out]; exact HW5.out
    have hi1:i+1≤(prL nx ny A n (i+1)).length:=by
     have h1:=prL_at (m:=A) (k:=0) HX.out;rw [prC_all HX.out] at h1;exact (List.getElem?_eq_some_iff.1 h1).1
    go_wp2_with fail
    go_roundw
    case rel=>exact ⟨i+1,by go_num,hi1,HW6.out⟩
    case measure=>simp [intOf]; omega
   have hm1:(m:Int)<(A:Int):=by omega
   have hmat:(m:Int)<atomsN t:=by rw [HA.out]; exact hm1
   go_wp2_with fail
   go_loopw [6,7,10] (fun v0 v1 j wr=>∃q:Nat,j= .int .i64 q∧q≤n∧PrW w.heap.size w wr 2 (prC nx ny A n i x m q) v0 v1) (fun _ _ j _=>n - (intOf j).toNat)
   case atStart=>exact ⟨0,rfl,by omega,by rw [HLm.out]; exact HW5.out⟩
   case round=>
    clear HW5 HLm;obtain ⟨q,rfl,hqn,hW⟩:=hrel;obtain ⟨wq,rfl⟩:∃v,v=wr:=⟨_,rfl⟩;obtain ⟨hall,hmany2⟩:=HP2.out i x m q HX.out;have hat:=prL_at (m:=m) (k:=q) HX.out;obtain ⟨Lc,hLc⟩:∃Lc,prC nx ny A n i x m q=Lc:=⟨_,rfl⟩;rw [hLc] at hW hall hmany2 hat;obtain ⟨a2,c2,rfl,q1,q2⟩:=hW.1.shape 0 rfl;obtain ⟨a3,c3,rfl,q3,q4⟩:=hW.1.shape 1 rfl;unfold maxLen at q2 q4;have HLc:=Lib.hid hLc;have HW:=Lib.hid hW;have hq0:=Int.natCast_nonneg q;have hzq:=hW.2.size;have hAt:=Hh.out.below hW.2;have hAt':=Hh'.out.below hW.2;obtain ⟨g0,g1,g2,g3, -, -⟩:=hAt;rw [Hn.out] at g1;have hilc:=(List.getElem?_eq_some_iff.1 hat).1
    by_cases hqlt:q<n
    rotate_left
    ·
     obtain rfl:n=q:=by omega
     have HW6:Hid (PrW w.heap.size w wq 2 (prC nx ny A n i x (m+1) 0) (.slice a2 Lc.length c2) (.slice a3 Lc.length c3)):=by show PrW ..; rw [←prC_line,HLc.out]; exact HW.out
     clear hW hAt' hLc;go_wp2_with fail
     go_roundw
     case rel=>exact ⟨m+1,by go_num,by omega,HW6.out⟩
     case measure=>simp [intOf]; omega
    have hq1:(q:Int)<(n:Int):=by omega
    have hqa:(q:Int)<a:=by rw [Hn.out]; exact hq1
    have r1:=rd_part (hW.1.rd 0 rfl);have r2:=rd_part (hW.1.rd 1 rfl);obtain ⟨b2,o2,rfl⟩:=nest_some (f:=D.int) r1 (by simp; omega);obtain ⟨b3,o3,rfl⟩:=nest_some (f:=D.int) r2 (by simp; omega);obtain ⟨-, x0⟩:=int_in r1 (part_at (f:=Prod.fst) hat);obtain ⟨-, x1⟩:=int_in r2 (part_at (f:=Prod.snd) hat)
    have hil2:(i:Int)<(Lc.length:Int):=by omega
    have Hr1:=Lib.hid r1;have Hr2:=Lib.hid r2;have HAt:=Lib.hid (Hh.out.below hW.2);have HAt':=Lib.hid hAt';clear hW hAt' hLc r1 r2 hat hall;go_wp2_with fail;refine (l02Go_i HAt.out Hok.out hxok.2.1 hmat hqa).mono ?_;rintro e w6 ⟨rfl,rfl⟩;obtain ⟨X,hXe⟩:∃X,goN nx x.1 m q=X:=⟨_,rfl⟩;rw [hXe];have HXe:=Lib.hid hXe;clear hXe;go_wp2_with fail;refine (l02Go_i HAt'.out Hok'.out hxok.2.2.2 hmat hqa).mono ?_;rintro e w7 ⟨rfl,rfl⟩;obtain ⟨Y,hYe⟩:∃Y,goN ny x.2 m q=Y:=⟨_,rfl⟩;rw [hYe];have HYe:=Lib.hid hYe;clear hYe
    by_cases hneg:X<0∧Y<0
    ·
     have HEL:Hid (prC nx ny A n i x m (q+1)=Lc):=by show _=_; rw [prC_none hmlt hqlt (nxtP_none HXe.out HYe.out hneg.1 hneg.2),HLc.out]
     obtain ⟨hX0,hY0⟩:=hneg;go_wp2_with fail
     go_loop [13,14] (fun mt j=>j= .int .i64 0∧mt= .bool true) (fun _ _=>0)
     case atStart=>exact ⟨rfl,rfl⟩
     case round=>
      obtain ⟨rfl,rfl⟩:=hrel
      have hlpos:(0:Int)<(Lc.length:Int):=by omega
      go_wp2_with fail
      go_roundw
      case rel=>exact ⟨q+1,by go_num,by omega,by rw [HEL.out]; exact HW.out⟩
      case measure=>simp [intOf]; omega
    ·
     have Hnx:=Lib.hid (nxtP_some HXe.out HYe.out hneg)
     have hsp:(X<0∧¬Y<0)∨¬X<0:=by omega
     clear hneg
     rcases hsp with ⟨hX0,hY0⟩|hX0
     all_goals
      go_wp2_with fail
      go_loop [13,14] (fun mt j=>∃(kk:Nat) (mb:Bool),kk≤Lc.length∧j= .int .i64 kk∧mt= .bool mb∧Hid (mb=seenB Lc (X,Y) kk)) (fun _ j=>Lc.length - (intOf j).toNat)
      case atStart=>exact ⟨0,_,by omega,rfl,rfl,by show _=_; rw [seen_zero]; try exact decide_eq_false (by omega)⟩
      case round=>
       clear x0 x1;obtain ⟨kk,mb,hkk,rfl,rfl,HS⟩:=hrel;have hkk0:=Int.natCast_nonneg kk
       cases mb
       rotate_left
       ·
        have HEL:Hid (prC nx ny A n i x m (q+1)=Lc):=by show _=_; rw [prC_was hmlt hqlt Hnx.out (by rw [HLc.out]; exact seen_yes HS.out),HLc.out]
        by_cases hkl:kk<Lc.length
        all_goals
         go_wp2_with fail
         go_roundw
         case rel=>exact ⟨q+1,by go_num,by omega,by rw [HEL.out]; exact HW.out⟩
         case measure=>simp [intOf]; omega
       ·
        by_cases hkl:kk<Lc.length
        ·
         obtain ⟨p,hp⟩:∃p,Lc[kk]? =some p:=⟨_,List.getElem?_eq_getElem hkl⟩;obtain ⟨-, y0⟩:=int_in Hr1.out (part_at (f:=Prod.fst) hp);obtain ⟨-, y1⟩:=int_in Hr2.out (part_at (f:=Prod.snd) hp);have hs2:=seen_succ (z:=(X,Y)) hp HS.out.symm
         have hkl2:(kk:Int)<(Lc.length:Int):=by omega
         obtain ⟨p1,hp1⟩:∃p1,p.1=p1:=⟨_,rfl⟩;obtain ⟨p2,hp2⟩:∃p2,p.2=p2:=⟨_,rfl⟩;rw [hp1,hp2] at hs2;rw [hp1] at y0;rw [hp2] at y1
         cases heq1:(p1==X)
         ·
          have HS3:Hid (false=seenB Lc (X,Y) (kk+1)):=by show _=_; rw [hs2]; show false=(p1==X&&p2==Y); rw [heq1]; rfl
          clear hs2 hp hp1 hp2 HS;go_wp2_with fail
          go_round
          case rel=>exact ⟨kk+1,false,by omega,by go_num,rfl,HS3⟩
          case measure=>simp [intOf]; omega
         ·
          have HS3:Hid ((p2==Y)=seenB Lc (X,Y) (kk+1)):=by show _=_; rw [hs2]; show _=(p1==X&&p2==Y); rw [heq1]; simp
          clear hs2 hp hp1 hp2 HS;go_wp2_with fail
          go_round
          case rel=>exact ⟨kk+1,_,by omega,by go_num,rfl,HS3⟩
          case measure=>simp [intOf]; omega
        ·
         obtain rfl:kk=Lc.length:=by omega
         have HEL:Hid (prC nx ny A n i x m (q+1)=Lc++[(X,Y)]):=by show _=_; rw [prC_new hmlt hqlt Hnx.out (by rw [HLc.out]; exact seen_no HS.out),HLc.out]
         have hBl:=HW.out.1.alloc (.cells #[.int .i64 X] 2);have hNl:=Blk.new1 w7 2 (.int .i64 X)
         go_wp2_with (first
          |(at_builtin; (refine wpList_append_bun _ rfl _ _ 27 rfl 2 (.int .i64 0) 1 8 Tryz.underlying27 info_int64 rfl (by decide) hBl (by simp<;>omega) 0 _ rfl rfl ⟨w7.heap.size,0,none⟩ 1 1 [.int .i64 X] rfl (news_blk hNl) none_own rfl (by simp [Value.oneCell']) (by omega) (by omega) (by unfold maxLen; omega) ?_); intro g5 cap5 w8 hbun5 hb5; have hz8:w7.heap.size+1≤w8.heap.size:=(by have q:=hb5.size; simpa using q); have hBu:=hbun5.alloc (.cells #[.int .i64 Y] 2); have hNb:=Blk.new1 w8 2 (.int .i64 Y); have Hb5:=Lib.hid hb5; clear hbun5 hb5)
          |(at_builtin; go_must (refine wpList_append_bun _ rfl _ _ 27 rfl 2 (.int .i64 0) 1 8 Tryz.underlying27 info_int64 rfl (by decide) hBu (by simp<;>omega) 1 _ rfl rfl ⟨w8.heap.size,0,none⟩ 1 1 [.int .i64 Y] rfl (news_blk hNb) none_own rfl (by simp [Value.oneCell']) (by omega) (by omega) (by unfold maxLen; omega) ?_); intro g6 cap6 w9 hbun6 hb6))
         have Hfin:=Lib.hid (PrW.snoc (z:=(X,Y)) hbun6 ((((HW.out.2.alloc hzq (.cells #[.int .i64 X] 2)).trans Hb5.out).alloc (by omega) (.cells #[.int .i64 Y] 2)).trans hb6));clear hbun6 hb6 hBu hNb hBl hNl Hb5;go_wp2_with fail
         go_roundw
         case rel=>exact ⟨q+1,by go_num,by omega,by rw [HEL.out]; have h:=Hfin.out; simpa using h⟩
         case measure=>simp [intOf]; omega
noncomputable def bothC (t a:Int) (e f:Ex):Int:=if okB t a e&&okB t a f then (if auC t a e=0 then auC t a f else auC t a e) else 1
theorem both_bad {t a:Int} {e f:Ex} (h:okB t a e=false∨okB t a f=false):bothC t a e f=1:=by
 unfold bothC
 rcases h with h|h
 ·
  rw [h]; rfl
 ·
  rw [h,Bool.and_false]; rfl
theorem both_one {t a:Int} {e f:Ex} (h1:okB t a e=true) (h2:okB t a f=true) (h:¬auC t a e=0):bothC t a e f=auC t a e:=by
 unfold bothC;rw [h1,h2]
 simp [h]
theorem both_two {t a:Int} {e f:Ex} (h1:okB t a e=true) (h2:okB t a f=true) (h:auC t a e=0):bothC t a e f=auC t a f:=by
 unfold bothC;rw [h1,h2]
 simp [h]
theorem both_ok {t a:Int} {e f:Ex} (h:bothC t a e f=0):auC t a e=0∧auC t a f=0:=by
 cases h1:okB t a e
 ·
  rw [both_bad (Or.inl h1)] at h; omega
 ·
  cases h2:okB t a f
  ·
   rw [both_bad (Or.inr h2)] at h; omega
  ·
   by_cases h3:auC t a e=0
   ·
    rw [both_two h1 h2 h3] at h;exact ⟨h3,h⟩
   ·
    rw [both_one h1 h2 h3] at h;exact absurd h h3
def autV (v:Value):Prop:=∃(t a:Int) (s u:Option Addr) (l c m d:Nat),v= .agg #[.int .i64 t, .int .i64 a, .slice s l c, .slice u m d]
def BothPost (t a:Int) (e f:Ex) (w:World) (g:Ending) (w':World):Prop:=∃v1 v2,g= .returned (.tuple #[v1,v2, .int .i64 (bothC t a e f)])∧autV v1∧autV v2∧Below w.heap.size w w'∧
 (bothC t a e f=0→∃s c u d s' c' u' d',v1= .agg #[.int .i64 t, .int .i64 a, .slice s (auA t a e).length c, .slice u (auX t a e).length d]∧v2= .agg #[.int .i64 t, .int .i64 a, .slice s' (auA t a f).length c', .slice u' (auX t a f).length d']∧
  Rds w' (autD (auA t a e) (auX t a e)) [.slice s (auA t a e).length c, .slice u (auX t a e).length d]∧Rds w' (autD (auA t a f) (auX t a f)) [.slice s' (auA t a f).length c', .slice u' (auX t a f).length d'])
theorem zero_autV:autV (.agg #[.int .i64 0, .int .i64 0, .slice none 0 0, .slice none 0 0]):=⟨_,_,_,_,_,_,_,_,rfl⟩
set_option maxRecDepth 100000 in
set_option maxHeartbeats 8000000 in
theorem l03Both_i {t a:Int} {e f:Ex} {b o b' o':Nat} {w:World} (hx:ExAt w b o e) (hy:ExAt w b' o' f) (hse:e.size≤1073741824) (hsf:f.size≤1073741824):
  Calls Tryz.prog 83 #[.agg #[.int .i64 t, .int .i64 a], .pointer (some ⟨b,o,none⟩), .pointer (some ⟨b',o',none⟩)] w (BothPost t a e f w):=by
 have Hse:=Lib.hid hse;have Hsf:=Lib.hid hsf;clear hse hsf
 go_enter Tryz.func83,Tryz.ntmps83
 go_wp2_with fail;obtain ⟨w1,e1,G,hb1,hz1⟩:=box2 w 37 (.int .i64 t) (.int .i64 a);rw [e1];obtain ⟨w2,e2,R,hb2,hz2⟩:=box4 w1 107 (.int .i64 0) (.int .i64 0) (.slice none 0 0) (.slice none 0 0);rw [e2];obtain ⟨w0,e0,Q,hb3,hz3⟩:=box4 w2 107 (.int .i64 0) (.int .i64 0) (.slice none 0 0) (.slice none 0 0);rw [e0];rw [hz1] at R;rw [show w2.heap.size=w.heap.size+1+1 by omega] at Q;replace R:=R.below hb3;replace G:=(G.below hb2).below hb3;have hB:Below w.heap.size w w0:=(hb1.trans (hb2.mono (by omega))).trans (hb3.mono (by omega))
 have hz0:w0.heap.size=w.heap.size+3:=by omega
 clear e1 e2 e0 hb1 hb2 hb3 hz1 hz2 hz3;refine (l01Ok_i (hx.below hB) Hse.out).mono ?_;rintro g w3 ⟨rfl,hb⟩;replace hB:=Below.on hB hb hB.size;replace R:=R.below hb;replace Q:=Q.below hb;replace G:=G.below hb;have hz3:=hb.size;clear hb;obtain ⟨g0,g1,ltG⟩:=G.all2
 cases h1:okB t a e
 ·
  have HC:Hid (bothC t a e f=1):=both_bad (Or.inl h1);clear h1;obtain ⟨r0,r1,r2,r3,z0,z1,z2,z3,ltR⟩:=R.all4;obtain ⟨p0,p1,p2,p3,y0,y1,y2,y3,ltQ⟩:=Q.all4;go_wp2_with fail;obtain ⟨w5,e5,T1,hs5⟩:=set4 R (.int .i64 0) (.int .i64 0) (.slice none 0 0) (.slice none 0 0);rw [e5];have Q5:=Q.keep (hs5.block _ Q.lt (by simp));obtain ⟨w6,e6,T2,hs6⟩:=set4 Q5 (.int .i64 0) (.int .i64 0) (.slice none 0 0) (.slice none 0 0);rw [e6];have T3:=T1.keep (hs6.block _ T1.lt (by simp));clear e5 e6 T1;obtain ⟨t0,t1,t2,t3, -, -, -, -, -⟩:=T3.all4;obtain ⟨ss0,ss1,ss2,ss3, -, -, -, -, -⟩:=T2.all4;have hzB5:=hB.size;have hB5:=(hB.trans (hs5.below (B:=w.heap.size) (by omega) (fun y hy=>by omega))).trans (hs6.below (B:=w.heap.size) (by have:=hs5.size; omega) (fun y hy=>by omega));refine bodyPost_ret (v:= .tuple #[.agg #[.int .i64 0, .int .i64 0, .slice none 0 0, .slice none 0 0], .agg #[.int .i64 0, .int .i64 0, .slice none 0 0, .slice none 0 0], .int .i64 1]) (by simp [results,Tryz.results83,go_sem,t0,t1,t2,t3,ss0,ss1,ss2,ss3]) rfl ?_;exact ⟨_,_,by rw [HC.out],zero_autV,zero_autV,hB5,fun h=>by rw [HC.out] at h; omega⟩
 have H1:=Lib.hid h1;clear h1;go_wp2_with fail;clear g0 g1 ltG;refine (l01Ok_i (hy.below hB) Hsf.out).mono ?_;rintro g w4 ⟨rfl,hb⟩;replace hB:=Below.on hB hb hB.size;replace R:=R.below hb;replace Q:=Q.below hb;replace G:=G.below hb;have hz4:=hb.size;clear hb;obtain ⟨g0,g1,ltG⟩:=G.all2
 cases h2:okB t a f
 ·
  have HC:Hid (bothC t a e f=1):=both_bad (Or.inr h2);clear h2;obtain ⟨r0,r1,r2,r3,z0,z1,z2,z3,ltR⟩:=R.all4;obtain ⟨p0,p1,p2,p3,y0,y1,y2,y3,ltQ⟩:=Q.all4;go_wp2_with fail;obtain ⟨w5,e5,T1,hs5⟩:=set4 R (.int .i64 0) (.int .i64 0) (.slice none 0 0) (.slice none 0 0);rw [e5];have Q5:=Q.keep (hs5.block _ Q.lt (by simp));obtain ⟨w6,e6,T2,hs6⟩:=set4 Q5 (.int .i64 0) (.int .i64 0) (.slice none 0 0) (.slice none 0 0);rw [e6];have T3:=T1.keep (hs6.block _ T1.lt (by simp));clear e5 e6 T1;obtain ⟨t0,t1,t2,t3, -, -, -, -, -⟩:=T3.all4;obtain ⟨ss0,ss1,ss2,ss3, -, -, -, -, -⟩:=T2.all4;have hzB5:=hB.size;have hB5:=(hB.trans (hs5.below (B:=w.heap.size) (by omega) (fun y hy=>by omega))).trans (hs6.below (B:=w.heap.size) (by have:=hs5.size; omega) (fun y hy=>by omega));refine bodyPost_ret (v:= .tuple #[.agg #[.int .i64 0, .int .i64 0, .slice none 0 0, .slice none 0 0], .agg #[.int .i64 0, .int .i64 0, .slice none 0 0, .slice none 0 0], .int .i64 1]) (by simp [results,Tryz.results83,go_sem,t0,t1,t2,t3,ss0,ss1,ss2,ss3]) rfl ?_;exact ⟨_,_,by rw [HC.out],zero_autV,zero_autV,hB5,fun h=>by rw [HC.out] at h; omega⟩
 have H2:=Lib.hid h2;clear h2;go_wp2_with fail;clear g0 g1 ltG;have ltQ4:=Q.lt;refine (l02Made_au H1.out (hx.below hB)).mono ?_;intro g w6 hpost
 cases hcb:(auC t a e !=0)
 rotate_left
 ·
  have hc0:¬auC t a e=0:=by simpa using hcb
  have HC:Hid (bothC t a e f=auC t a e):=both_one H1.out H2.out hc0;have Hc0:=Lib.hid hc0;obtain ⟨t',a',s',u',l',c',m',d',rfl,hb⟩:=hpost.no;replace hB:=Below.on hB hb hB.size;replace R:=R.below hb;replace Q:=Q.below hb;clear hb hc0;go_wp2_with fail;obtain ⟨w7,e7,X,hb7,hz7⟩:=box4 w6 107 (.int .i64 t') (.int .i64 a') (.slice s' l' c') (.slice u' m' d');rw [e7];replace hB:=Below.on hB hb7 hB.size;have ltR6:=R.lt;have ltQ6:=Q.lt;replace R:=R.below hb7;replace Q:=Q.below hb7;clear e7 hb7;obtain ⟨x0,x1,x2,x3, -, -, -, -, ltX⟩:=X.all4;obtain ⟨r0,r1,r2,r3,z0,z1,z2,z3,ltR⟩:=R.all4;obtain ⟨p0,p1,p2,p3,y0,y1,y2,y3,ltQ⟩:=Q.all4;obtain ⟨xb,hxb⟩:∃xb,w6.heap.size=xb:=⟨_,rfl⟩;rw [hxb] at x0 x1 x2 x3 ltX ltR6 ltQ6 ⊢
  have n1:w.heap.size+1≠xb:=by omega
  have n2:w.heap.size+1+1≠xb:=by omega
  clear hxb
  go_region
  go_wp2_with fail;obtain ⟨w5,e5,T1,hs5⟩:=set4 R (.int .i64 t') (.int .i64 a') (.slice s' l' c') (.slice u' m' d');rw [e5];have Q5:=Q.keep (hs5.block _ Q.lt (by simp));obtain ⟨wz,e6,T2,hs6⟩:=set4 Q5 (.int .i64 t') (.int .i64 a') (.slice s' l' c') (.slice u' m' d');rw [e6];have T3:=(T1.keep (hs6.block _ T1.lt (by simp))).drew;have T4:=T2.drew;clear e5 e6 T1 T2;obtain ⟨t0,t1,t2,t3, -, -, -, -, -⟩:=T3.all4;obtain ⟨ss0,ss1,ss2,ss3, -, -, -, -, -⟩:=T4.all4;have hzB5:=hB.size;have hB4:=(hB.trans (hs5.below (B:=w.heap.size) (by omega) (fun y hy=>by omega))).trans (hs6.below (B:=w.heap.size) (by have:=hs5.size; omega) (fun y hy=>by omega));have hB5:Below w.heap.size w wz.drew:=hB4.drew;refine bodyPost_ret (v:= .tuple #[.agg #[.int .i64 t', .int .i64 a', .slice s' l' c', .slice u' m' d'], .agg #[.int .i64 t', .int .i64 a', .slice s' l' c', .slice u' m' d'], .int .i64 (auC t a e)]) (by simp [results,Tryz.results83,go_sem,t0,t1,t2,t3,ss0,ss1,ss2,ss3]) rfl ?_;exact ⟨_,_,by rw [HC.out],⟨_,_,_,_,_,_,_,_,rfl⟩,⟨_,_,_,_,_,_,_,_,rfl⟩,hB5,fun h=>by rw [HC.out] at h; exact absurd h Hc0.out⟩
 ·
  have hc0:auC t a e=0:=by simpa using hcb
  have HC:Hid (bothC t a e f=auC t a f):=both_two H1.out H2.out hc0;obtain ⟨s',c',u',d',rfl,hf,hb⟩:=hpost.yes hc0;have Hrd:=Lib.hid hf;have hz6:=hb.size;replace hB:=Below.on hB hb hB.size;replace R:=R.below hb;replace Q:=Q.below hb;replace G:=G.below hb;have G6:=G.alloc (.cells #[.int .i64 t, .int .i64 a, .slice s' (auA t a e).length c', .slice u' (auX t a e).length d'] 107);obtain ⟨g0,g1,ltG⟩:=G.all2;clear hb hcb hc0 hf;go_wp2_with fail;clear g0 g1 ltG;obtain ⟨w7,e7,X,hb7,hz7⟩:=box4 w6 107 (.int .i64 t) (.int .i64 a) (.slice s' (auA t a e).length c') (.slice u' (auX t a e).length d');rw [e7];replace hB:=Below.on hB hb7 hB.size;have ltR6:=R.lt;have ltQ6:=Q.lt;replace R:=R.below hb7;replace Q:=Q.below hb7;have Hrd7:=Lib.hid (Hrd.out.on hb7);obtain ⟨xb,hxb⟩:∃xb,w6.heap.size=xb:=⟨_,rfl⟩;rw [hxb] at X ltR6 ltQ6 ⊢;clear e7 hb7 hxb Hrd G6 G;refine (l02Made_au H2.out (hy.below hB)).mono ?_;rintro g w8 ⟨s2,c2,u2,d2,rfl,hf2,hb⟩;have Hrd2:=Lib.hid hf2;have Hrd8:=Lib.hid (Hrd7.out.on hb);replace hB:=Below.on hB hb hB.size;replace R:=R.below hb;replace Q:=Q.below hb;replace X:=X.below hb;have ltX8:=X.lt;clear hb hf2 Hrd7;have ltR8:=R.lt;have ltQ8:=Q.lt;go_wp2_with fail;obtain ⟨w9,e9,Y,hb9,hz9⟩:=box4 w8 107 (.int .i64 (auT t a f)) (.int .i64 (auN t a f)) (.slice s2 (auA t a f).length c2) (.slice u2 (auX t a f).length d2);rw [e9];replace hB:=Below.on hB hb9 hB.size;replace R:=R.below hb9;replace Q:=Q.below hb9;replace X:=X.below hb9;have Hf1:=Lib.hid (Hrd8.out.on hb9);have Hf2:=Lib.hid (Hrd2.out.on hb9);obtain ⟨yb,hyb⟩:∃yb,w8.heap.size=yb:=⟨_,rfl⟩;rw [hyb] at Y ltR8 ltQ8 ltX8 ⊢;clear e9 hb9 hyb Hrd8 Hrd2;obtain ⟨x0,x1,x2,x3, -, -, -, -, ltX⟩:=X.all4;obtain ⟨v0,v1,v2,v3, -, -, -, -, ltY⟩:=Y.all4;obtain ⟨r0,r1,r2,r3,z0,z1,z2,z3,ltR⟩:=R.all4;obtain ⟨p0,p1,p2,p3,y0,y1,y2,y3,ltQ⟩:=Q.all4
  have n1:w.heap.size+1≠xb:=by omega
  have n2:w.heap.size+1+1≠xb:=by omega
  have n3:w.heap.size+1≠yb:=by omega
  have n4:w.heap.size+1+1≠yb:=by omega
  go_region
  go_wp2_with fail;obtain ⟨w5,e5,T1,hs5⟩:=set4 R (.int .i64 t) (.int .i64 a) (.slice s' (auA t a e).length c') (.slice u' (auX t a e).length d');rw [e5];have Q5:=Q.keep (hs5.block _ Q.lt (by simp));obtain ⟨wz,e6,T2,hs6⟩:=set4 Q5 (.int .i64 (auT t a f)) (.int .i64 (auN t a f)) (.slice s2 (auA t a f).length c2) (.slice u2 (auX t a f).length d2);rw [e6];have T3:=(T1.keep (hs6.block _ T1.lt (by simp))).drew;have T4:=T2.drew;clear e5 e6 T1 T2;obtain ⟨t0,t1,t2,t3, -, -, -, -, -⟩:=T3.all4;obtain ⟨ss0,ss1,ss2,ss3, -, -, -, -, -⟩:=T4.all4;have hzB5:=hB.size;have hB4:=(hB.trans (hs5.below (B:=w.heap.size) (by omega) (fun y hy=>by omega))).trans (hs6.below (B:=w.heap.size) (by have:=hs5.size; omega) (fun y hy=>by omega));have hB5:Below w.heap.size w wz.drew:=hB4.drew;refine bodyPost_ret (v:= .tuple #[.agg #[.int .i64 t, .int .i64 a, .slice s' (auA t a e).length c', .slice u' (auX t a e).length d'], .agg #[.int .i64 (auT t a f), .int .i64 (auN t a f), .slice s2 (auA t a f).length c2, .slice u2 (auX t a f).length d2], .int .i64 (auC t a f)]) (by simp [results,Tryz.results83,go_sem,t0,t1,t2,t3,ss0,ss1,ss2,ss3]) rfl ?_;have hk:∀y,w4.heap.size≤y→y<w9.heap.size→wz.drew.heap[y]? =w9.heap[y]? :=fun y hy1 hy2=>(hs6.block y (by have:=hs5.size; omega) (fun h=>by omega)).trans (hs5.block y hy2 (fun h=>by omega));refine ⟨_,_,by rw [HC.out],⟨_,_,_,_,_,_,_,_,rfl⟩,⟨_,_,_,_,_,_,_,_,rfl⟩,hB5,fun h=> ?_⟩;rw [HC.out] at h;obtain ⟨-, e1,e2, -⟩:=au_ok h;refine ⟨s',c',u',d',s2,c2,u2,d2,rfl,by rw [e1,e2],(Hf1.out.keep hk).rds,(Hf2.out.keep fun y hy1 hy2=>hk y (by omega) hy2).rds⟩
def vE (t a:Int) (e:Ex):Bool:=shF (IntKind.i64.wrap (t - 1)) (IntKind.i64.wrap (a - 1)) e 200 40
theorem vE_ok {t a:Int} {e:Ex}:(sigB t a&&vE t a e)=okB t a e:=by
 cases hs:sigB t a
 ·
  unfold okB;rw [hs]
  rfl
 ·
  obtain ⟨h0,h1,h2,h3⟩:=sigB_bd hs;rw [Bool.true_and,←okB_sh hs];unfold vE;rw [wrap_of (by omega) (by omega),wrap_of (by omega) (by omega)]
def VTo (t a:Int) (L:List Ex) (k:Nat):Prop:=∀(j:Nat) (e:Ex),j<k→L[j]? =some e→vE t a e=true
theorem VTo.succ {t a:Int} {L:List Ex} {k:Nat} {e:Ex} (h:VTo t a L k) (he:L[k]? =some e) (hv:vE t a e=true):VTo t a L (k+1):=fun j f hj hf=>by
 by_cases hjk:j=k
 ·
  rw [hjk,he] at hf;rw [←Option.some.inj hf];exact hv
 ·
  exact h j f (by omega) hf
theorem vall_yes {t a:Int} {L:List Ex} (h:VTo t a L L.length):L.all (vE t a)=true:=by
 rw [List.all_eq_true];intro x hx;obtain ⟨i,hi⟩:=List.mem_iff_getElem?.1 hx;exact h i x (List.getElem?_eq_some_iff.1 hi).1 hi
theorem vall_no {t a:Int} {L:List Ex} {k:Nat} {e:Ex} (he:L[k]? =some e) (hv:vE t a e=false):L.all (vE t a)=false:=by
 rw [List.all_eq_false];exact ⟨e,List.mem_of_getElem? he,by rw [hv]; simp⟩
set_option maxRecDepth 100000 in
set_option maxHeartbeats 8000000 in
theorem validExprs_i {t a:Int} {L:List Ex} {b o c:Nat} {w:World} (hr:Rd w (kidsD L) (.slice (some ⟨b,o,none⟩) L.length c)):
  Calls Tryz.prog 92 #[.agg #[.int .i64 t, .int .i64 a], .slice (some ⟨b,o,none⟩) L.length c] w fun e w'=>e= .returned (.bool (sigB t a&&L.all (vE t a)))∧Below w.heap.size w w':=by
 obtain ⟨-, hl2,hl3, -⟩:=kid_at hr;unfold maxLen at hl3;have Hr:=Lib.hid hr;clear hr
 go_enter Tryz.func92,Tryz.ntmps92
 go_wp2_with fail;obtain ⟨w1,e1,G,hb1,hz1⟩:=box2 w 37 (.int .i64 t) (.int .i64 a);rw [e1];have hz1':=hb1.size;have HB1:=Lib.hid hb1;clear e1 hb1
 go_loopw [9] (fun i wr=>∃k:Nat,i= .int .i64 k∧k≤L.length∧Hid (VTo t a L k)∧Below w1.heap.size w1 wr) (fun i _=>L.length - (intOf i).toNat)
 case atStart=>exact ⟨0,rfl,by omega,fun j e hj=>by omega,Below.refl _ _⟩
 case round=>
  obtain ⟨k,rfl,hk,HV,hbe⟩:=hrel;obtain ⟨wo,rfl⟩:∃v,v=wr:=⟨_,rfl⟩;have hk0:=Int.natCast_nonneg k;have hzo:=hbe.size;obtain ⟨g0,g1,ltG⟩:=(G.below hbe).all2;have HBe:=Lib.hid hbe
  by_cases hlt:k<L.length
  rotate_left
  ·
   obtain rfl:k=L.length:=by omega
   have HA:Hid (L.all (vE t a)=true):=vall_yes HV.out;clear hbe;go_wp2_with fail;refine (implValidSig_any t a _).mono ?_;rintro e w2 ⟨rfl,hb2⟩;go_wp2_with fail;go_ret;exact ⟨ret_bool (by rw [HA.out]; simp),(HB1.out.trans (HBe.out.mono hz1')).trans (hb2.mono (by omega))⟩
  obtain ⟨x,hx⟩:∃x,L[k]? =some x:=⟨_,List.getElem?_eq_getElem hlt⟩;obtain ⟨hkb,sx,cx,i0,i1,i2,hxr⟩:=kid_in (Hr.out.below (HB1.out.trans (hbe.mono hz1'))) hx
  have hkL:(k:Int)<(L.length:Int):=by omega
  have Hx:=Lib.hid hx;have G4:=G.below hbe;clear hx hbe;go_wp2_with fail;clear i0 i1 i2 g0 g1 ltG;obtain ⟨w4,e4,X,hb4,hz4⟩:=box3 wo 34 (.int .i64 x.kind) (.int .i64 x.num) (.slice sx x.kids.length cx);rw [e4];have HBe4:=Lib.hid (HBe.out.trans (hb4.mono hzo));have hxr4:=hxr.below hb4;clear e4 hb4 hxr;refine (isExpr_w _ _ rfl rfl hxr4).mono ?_;rintro e w5 ⟨rfl,hb5⟩;have HBe5:=Lib.hid (HBe4.out.trans (hb5.mono (by omega)))
  have HEV:Hid (shF (IntKind.i64.wrap (t - 1)) (IntKind.i64.wrap (a - 1)) (.mk x.kind x.num x.kids) 200 40=vE t a x):=by show _=_; rw [←Ex.eta]; rfl
  rw [HEV.out];clear hb5 hxr4 HEV
  cases hv:vE t a x
  ·
   have HA:Hid (L.all (vE t a)=false):=vall_no Hx.out hv;clear hv;go_wp2_with fail;go_ret;exact ⟨ret_bool (by rw [HA.out]; simp),HB1.out.trans (HBe5.out.mono hz1')⟩
  ·
   have HV2:=Lib.hid (HV.out.succ Hx.out hv);clear hv;go_wp2_with fail
   go_roundw
   case rel=>exact ⟨k+1,by go_num,by omega,HV2.out,HBe5.out⟩
   case measure=>simp [intOf]; omega
theorem rd_pair {w:World} {g T:Nat} {e f:Ex} {s s':Option Addr} {c c':Nat} (h:Blk w g T [.int .i64 e.kind, .int .i64 e.num, .slice s e.kids.length c, .int .i64 f.kind, .int .i64 f.num, .slice s' f.kids.length c']) (h1:Rd w (kidsD e.kids) (.slice s e.kids.length c)) (h2:Rd w (kidsD f.kids) (.slice s' f.kids.length c')):
  Rd w (kidsD [e,f]) (.slice (some ⟨g,0,none⟩) 2 2):=by
 show Rd w (.sl 3 2 (Ex.cellsL [e,f])) _
 have hc:Ex.cellsL [e,f]=[.int e.kind, .int e.num,kidsD e.kids, .int f.kind, .int f.num,kidsD f.kids]:=by
  simp only [Ex.cellsL,List.append_nil];rw [Ex.cells_eq,Ex.cells_eq]
  rfl
 rw [hc];simp only [Rd];refine ⟨some ⟨g,0,none⟩,2,rfl,by omega,by simp [maxLen],by simp,by simp,Or.inr ⟨g,0,_,rfl,h.row (List.take_length ..), ?_⟩⟩;simp only [Rds,Rd];exact ⟨_,_,rfl,rfl,_,_,rfl,rfl,_,_,rfl,h1,_,_,rfl,rfl,_,_,rfl,rfl,_,_,rfl,h2,rfl⟩
theorem both_valid {t a:Int} {e f:Ex}:(sigB t a&&[e,f].all (vE t a))=(okB t a e&&okB t a f):=by
 rw [←vE_ok,←vE_ok];simp only [List.all_cons,List.all_nil,Bool.and_true]
 cases sigB t a<;>simp
set_option maxRecDepth 100000 in
set_option maxHeartbeats 8000000 in
theorem bothAutomata_i {t a:Int} {e f:Ex} {s s':Option Addr} {c c':Nat} {w:World} (hr:Rd w (kidsD e.kids) (.slice s e.kids.length c)) (hr':Rd w (kidsD f.kids) (.slice s' f.kids.length c')):
  Calls Tryz.prog 85 #[.agg #[.int .i64 t, .int .i64 a], .agg #[.int .i64 e.kind, .int .i64 e.num, .slice s e.kids.length c], .agg #[.int .i64 f.kind, .int .i64 f.num, .slice s' f.kids.length c']] w (BothPost t a e f w):=by
 go_enter Tryz.func85,Tryz.ntmps85
 go_wp2_with fail;obtain ⟨w1,e1,G,hb1,hz1⟩:=box2 w 37 (.int .i64 t) (.int .i64 a);rw [e1];obtain ⟨w2,e2,X,hb2,hz2⟩:=box3 w1 34 (.int .i64 e.kind) (.int .i64 e.num) (.slice s e.kids.length c);rw [e2];obtain ⟨w3,e3,Y,hb3,hz3⟩:=box3 w2 34 (.int .i64 f.kind) (.int .i64 f.num) (.slice s' f.kids.length c');rw [e3];obtain ⟨w4,e4,R,hb4,hz4⟩:=box4 w3 107 (.int .i64 0) (.int .i64 0) (.slice none 0 0) (.slice none 0 0);rw [e4];obtain ⟨w0,e0,Q,hb5,hz5⟩:=box4 w4 107 (.int .i64 0) (.int .i64 0) (.slice none 0 0) (.slice none 0 0);rw [e0];have hB:Below w.heap.size w w0:=(((hb1.trans (hb2.mono (by omega))).trans (hb3.mono (by omega))).trans (hb4.mono (by omega))).trans (hb5.mono (by omega));replace R:=R.below hb5;replace Y:=(Y.below hb4).below hb5;replace X:=((X.below hb3).below hb4).below hb5;replace G:=(((G.below hb2).below hb3).below hb4).below hb5;clear e1 e2 e3 e4 e0;have S:=Blk.new6 w0 34 (.int .i64 e.kind) (.int .i64 e.num) (.slice s e.kids.length c) (.int .i64 f.kind) (.int .i64 f.num) (.slice s' f.kids.length c');have hb6:Below w0.heap.size w0 (w0.alloc (.cells #[.int .i64 e.kind, .int .i64 e.num, .slice s e.kids.length c, .int .i64 f.kind, .int .i64 f.num, .slice s' f.kids.length c'] 34)):=Below.alloc (Below.refl _ _) (Nat.le_refl _) _;generalize w0.alloc (.cells #[.int .i64 e.kind, .int .i64 e.num, .slice s e.kids.length c, .int .i64 f.kind, .int .i64 f.num, .slice s' f.kids.length c'] 34)=w5 at S hb6 ⊢
 have hzz:w0.heap.size=w.heap.size+5:=by omega
 rw [show w1.heap.size=w.heap.size+1 by omega] at X;rw [show w2.heap.size=w.heap.size+1+1 by omega] at Y;rw [show w3.heap.size=w.heap.size+1+1+1 by omega] at R;rw [show w4.heap.size=w.heap.size+1+1+1+1 by omega] at Q;rw [show w0.heap.size=w.heap.size+1+1+1+1+1 by omega] at S;have hz6:=hb6.size;have hB6:=Below.on hB hb6 hB.size;replace R:=R.below hb6;replace Q:=Q.below hb6;replace X:=X.below hb6;replace Y:=Y.below hb6;replace G:=G.below hb6;clear hb1 hb2 hb3 hb4 hb5 hz1 hz2 hz3 hz4 hz5 hb6 hB;refine (validExprs_i (L:=[e,f]) (rd_pair S (hr.below hB6) (hr'.below hB6))).mono ?_;rintro g w6 ⟨rfl,hb⟩;have hB:=Below.on hB6 hb hB6.size;replace R:=R.below hb;replace Q:=Q.below hb;replace X:=X.below hb;replace Y:=Y.below hb;replace G:=G.below hb;have hz7:=hb.size;clear hb S hB6;rw [both_valid];obtain ⟨g0,g1,ltG⟩:=G.all2;obtain ⟨x0,x1,x2, -, -, -, ltX⟩:=X.all3
 cases h1:(okB t a e&&okB t a f)
 ·
  have HC:Hid (bothC t a e f=1):=both_bad (by
   cases h2:okB t a e
   ·
    exact Or.inl rfl
   ·
    rw [h2] at h1; exact Or.inr (by simpa using h1))
  clear h1;obtain ⟨r0,r1,r2,r3,z0,z1,z2,z3,ltR⟩:=R.all4;obtain ⟨p0,p1,p2,p3,y0,y1,y2,y3,ltQ⟩:=Q.all4;go_wp2_with fail;obtain ⟨w5,e5,T1,hs5⟩:=set4 R (.int .i64 0) (.int .i64 0) (.slice none 0 0) (.slice none 0 0);rw [e5];have Q5:=Q.keep (hs5.block _ Q.lt (by simp));obtain ⟨w6,e6,T2,hs6⟩:=set4 Q5 (.int .i64 0) (.int .i64 0) (.slice none 0 0) (.slice none 0 0);rw [e6];have T3:=T1.keep (hs6.block _ T1.lt (by simp));clear e5 e6 T1;obtain ⟨t0,t1,t2,t3, -, -, -, -, -⟩:=T3.all4;obtain ⟨ss0,ss1,ss2,ss3, -, -, -, -, -⟩:=T2.all4;have hzB5:=hB.size;have hB5:=(hB.trans (hs5.below (B:=w.heap.size) (by omega) (fun y hy=>by omega))).trans (hs6.below (B:=w.heap.size) (by have:=hs5.size; omega) (fun y hy=>by omega));refine bodyPost_ret (v:= .tuple #[.agg #[.int .i64 0, .int .i64 0, .slice none 0 0, .slice none 0 0], .agg #[.int .i64 0, .int .i64 0, .slice none 0 0, .slice none 0 0], .int .i64 1]) (by simp [results,Tryz.results85,go_sem,t0,t1,t2,t3,ss0,ss1,ss2,ss3]) rfl ?_;exact ⟨_,_,by rw [HC.out],zero_autV,zero_autV,hB5,fun h=>by rw [HC.out] at h; omega⟩
 rw [Bool.and_eq_true] at h1;have H1:=Lib.hid h1.1;have H2:=Lib.hid h1.2;clear h1;go_wp2_with fail;clear g0 g1 ltG x0 x1 x2 ltX;have ltQ4:=Q.lt;refine (automatonOf_au H1.out (hr.below hB)).mono ?_;intro g w8 hpost
 cases hcb:(auC t a e !=0)
 rotate_left
 ·
  have hc0:¬auC t a e=0:=by simpa using hcb
  have HC:Hid (bothC t a e f=auC t a e):=both_one H1.out H2.out hc0;have Hc0:=Lib.hid hc0;obtain ⟨t',a',s9,u9,l',c9,m',d9,rfl,hb⟩:=hpost.no;have ltR0:=R.lt;have ltQ0:=Q.lt;replace hB:=Below.on hB hb hB.size;replace R:=R.below hb;replace Q:=Q.below hb;clear hb hc0;obtain ⟨r0,r1,r2,r3,z0,z1,z2,z3,ltR⟩:=R.all4;obtain ⟨p0,p1,p2,p3,y0,y1,y2,y3,ltQ⟩:=Q.all4;go_wp2_with fail;obtain ⟨w5',e5,T1,hs5⟩:=set4 R (.int .i64 0) (.int .i64 0) (.slice none 0 0) (.slice none 0 0);rw [e5];have Q5:=Q.keep (hs5.block _ Q.lt (by simp));obtain ⟨wz,e6,T2,hs6⟩:=set4 Q5 (.int .i64 0) (.int .i64 0) (.slice none 0 0) (.slice none 0 0);rw [e6];have T3:=(T1.keep (hs6.block _ T1.lt (by simp))).alloc (.cells #[.int .i64 t', .int .i64 a', .slice s9 l' c9, .slice u9 m' d9] 107);have T4:=T2.alloc (.cells #[.int .i64 t', .int .i64 a', .slice s9 l' c9, .slice u9 m' d9] 107);clear e5 e6 T1 T2;obtain ⟨t0,t1,t2,t3, -, -, -, -, -⟩:=T3.all4;obtain ⟨ss0,ss1,ss2,ss3, -, -, -, -, -⟩:=T4.all4;have hzB5:=hB.size;have hB4:=(hB.trans (hs5.below (B:=w.heap.size) (by omega) (fun y hy=>by omega))).trans (hs6.below (B:=w.heap.size) (by have:=hs5.size; omega) (fun y hy=>by omega));have hB5:Below w.heap.size w (wz.alloc (.cells #[.int .i64 t', .int .i64 a', .slice s9 l' c9, .slice u9 m' d9] 107)):=hB4.alloc hB4.size _;generalize wz.alloc (.cells #[.int .i64 t', .int .i64 a', .slice s9 l' c9, .slice u9 m' d9] 107)=wy at t0 t1 t2 t3 ss0 ss1 ss2 ss3 hB5 ⊢;refine bodyPost_ret (v:= .tuple #[.agg #[.int .i64 0, .int .i64 0, .slice none 0 0, .slice none 0 0], .agg #[.int .i64 0, .int .i64 0, .slice none 0 0, .slice none 0 0], .int .i64 (auC t a e)]) (by simp [results,Tryz.results85,go_sem,t0,t1,t2,t3,ss0,ss1,ss2,ss3]) rfl ?_;exact ⟨_,_,by rw [HC.out],zero_autV,zero_autV,hB5,fun h=>by rw [HC.out] at h; exact absurd h Hc0.out⟩
 ·
  have hc0:auC t a e=0:=by simpa using hcb
  have HC:Hid (bothC t a e f=auC t a f):=both_two H1.out H2.out hc0;obtain ⟨s1,c1,u1,d1,rfl,hf,hb⟩:=hpost.yes hc0;have Hrd:=Lib.hid hf;have hz6':=hb.size;replace hB:=Below.on hB hb hB.size;replace R:=R.below hb;replace Q:=Q.below hb;replace G:=G.below hb;replace Y:=Y.below hb;obtain ⟨g0,g1,ltG⟩:=G.all2;obtain ⟨y0',y1',y2', -, -, -, ltY'⟩:=Y.all3;clear hb hcb hc0 hf;go_wp2_with fail;clear g0 g1 ltG y0' y1' y2' ltY';obtain ⟨w7,e7,X7,hb7,hz7'⟩:=box4 w8 107 (.int .i64 t) (.int .i64 a) (.slice s1 (auA t a e).length c1) (.slice u1 (auX t a e).length d1);rw [e7];replace hB:=Below.on hB hb7 hB.size;have ltR6:=R.lt;have ltQ6:=Q.lt;replace R:=R.below hb7;replace Q:=Q.below hb7;have Hrd7:=Lib.hid (Hrd.out.on hb7);obtain ⟨xb,hxb⟩:∃xb,w8.heap.size=xb:=⟨_,rfl⟩;rw [hxb] at X7 ltR6 ltQ6 ⊢;clear e7 hb7 hxb Hrd G Y X;refine (automatonOf_au H2.out (hr'.below hB)).mono ?_;rintro g w9 ⟨s2,c2,u2,d2,rfl,hf2,hb⟩;have Hrd2:=Lib.hid hf2;have Hrd8:=Lib.hid (Hrd7.out.on hb);replace hB:=Below.on hB hb hB.size;replace R:=R.below hb;replace Q:=Q.below hb;have X8:=X7.below hb;have ltX8:=X8.lt;have ltR8:=R.lt;have ltQ8:=Q.lt;clear hb hf2 Hrd7 X7
  cases hcb:(auC t a f !=0)
  rotate_left
  ·
   have Hc0:Hid (¬auC t a f=0):=by show ¬_; simpa using hcb
   obtain ⟨r0,r1,r2,r3,z0,z1,z2,z3,ltR⟩:=R.all4;obtain ⟨p0,p1,p2,p3,y0,y1,y2,y3,ltQ⟩:=Q.all4;go_wp2_with fail;obtain ⟨w5',e5,T1,hs5⟩:=set4 R (.int .i64 0) (.int .i64 0) (.slice none 0 0) (.slice none 0 0);rw [e5];have Q5:=Q.keep (hs5.block _ Q.lt (by simp));obtain ⟨wz,e6,T2,hs6⟩:=set4 Q5 (.int .i64 0) (.int .i64 0) (.slice none 0 0) (.slice none 0 0);rw [e6];have T3:=(T1.keep (hs6.block _ T1.lt (by simp))).alloc (.cells #[.int .i64 (auT t a f), .int .i64 (auN t a f), .slice s2 (auA t a f).length c2, .slice u2 (auX t a f).length d2] 107);have T4:=T2.alloc (.cells #[.int .i64 (auT t a f), .int .i64 (auN t a f), .slice s2 (auA t a f).length c2, .slice u2 (auX t a f).length d2] 107);clear e5 e6 T1 T2;obtain ⟨t0,t1,t2,t3, -, -, -, -, -⟩:=T3.all4;obtain ⟨ss0,ss1,ss2,ss3, -, -, -, -, -⟩:=T4.all4;have hzB5:=hB.size;have hB4:=(hB.trans (hs5.below (B:=w.heap.size) (by omega) (fun y hy=>by omega))).trans (hs6.below (B:=w.heap.size) (by have:=hs5.size; omega) (fun y hy=>by omega));have hB5:Below w.heap.size w (wz.alloc (.cells #[.int .i64 (auT t a f), .int .i64 (auN t a f), .slice s2 (auA t a f).length c2, .slice u2 (auX t a f).length d2] 107)):=hB4.alloc hB4.size _;generalize wz.alloc (.cells #[.int .i64 (auT t a f), .int .i64 (auN t a f), .slice s2 (auA t a f).length c2, .slice u2 (auX t a f).length d2] 107)=wy at t0 t1 t2 t3 ss0 ss1 ss2 ss3 hB5 ⊢;refine bodyPost_ret (v:= .tuple #[.agg #[.int .i64 0, .int .i64 0, .slice none 0 0, .slice none 0 0], .agg #[.int .i64 0, .int .i64 0, .slice none 0 0, .slice none 0 0], .int .i64 (auC t a f)]) (by simp [results,Tryz.results85,go_sem,t0,t1,t2,t3,ss0,ss1,ss2,ss3]) rfl ?_;exact ⟨_,_,by rw [HC.out],zero_autV,zero_autV,hB5,fun h=>by rw [HC.out] at h; exact absurd h Hc0.out⟩
  ·
   have hc0:auC t a f=0:=by simpa using hcb
   obtain ⟨-, e1,e2, -⟩:=au_ok hc0;rw [hc0] at HC;rw [e1,e2,hc0];clear hcb e1 e2 hc0;go_wp2_with fail;obtain ⟨w10,e9,Y9,hb9,hz9⟩:=box4 w9 107 (.int .i64 t) (.int .i64 a) (.slice s2 (auA t a f).length c2) (.slice u2 (auX t a f).length d2);rw [e9];replace hB:=Below.on hB hb9 hB.size;replace R:=R.below hb9;replace Q:=Q.below hb9;replace X8:=X8.below hb9;have Hf1:=Lib.hid (Hrd8.out.on hb9);have Hf2:=Lib.hid (Hrd2.out.on hb9);obtain ⟨yb,hyb⟩:∃yb,w9.heap.size=yb:=⟨_,rfl⟩;rw [hyb] at Y9 ltR8 ltQ8 ltX8 ⊢;clear e9 hb9 hyb Hrd8 Hrd2;obtain ⟨x0,x1,x2,x3, -, -, -, -, ltX⟩:=X8.all4;obtain ⟨v0,v1,v2,v3, -, -, -, -, ltY⟩:=Y9.all4;obtain ⟨r0,r1,r2,r3,z0,z1,z2,z3,ltR⟩:=R.all4;obtain ⟨p0,p1,p2,p3,y0,y1,y2,y3,ltQ⟩:=Q.all4
   have n1:w.heap.size+1+1+1≠xb:=by omega
   have n2:w.heap.size+1+1+1+1≠xb:=by omega
   have n3:w.heap.size+1+1+1≠yb:=by omega
   have n4:w.heap.size+1+1+1+1≠yb:=by omega
   go_region
   go_wp2_with fail;obtain ⟨w5,e5,T1,hs5⟩:=set4 R (.int .i64 t) (.int .i64 a) (.slice s1 (auA t a e).length c1) (.slice u1 (auX t a e).length d1);rw [e5];have Q5:=Q.keep (hs5.block _ Q.lt (by simp));obtain ⟨wz,e6,T2,hs6⟩:=set4 Q5 (.int .i64 t) (.int .i64 a) (.slice s2 (auA t a f).length c2) (.slice u2 (auX t a f).length d2);rw [e6];have T3:=(T1.keep (hs6.block _ T1.lt (by simp))).drew;have T4:=T2.drew;clear e5 e6 T1 T2;obtain ⟨t0,t1,t2,t3, -, -, -, -, -⟩:=T3.all4;obtain ⟨ss0,ss1,ss2,ss3, -, -, -, -, -⟩:=T4.all4;have hzB5:=hB.size;have hB4:=(hB.trans (hs5.below (B:=w.heap.size) (by omega) (fun y hy=>by omega))).trans (hs6.below (B:=w.heap.size) (by have:=hs5.size; omega) (fun y hy=>by omega));have hB5:Below w.heap.size w wz.drew:=hB4.drew;refine bodyPost_ret (v:= .tuple #[.agg #[.int .i64 t, .int .i64 a, .slice s1 (auA t a e).length c1, .slice u1 (auX t a e).length d1], .agg #[.int .i64 t, .int .i64 a, .slice s2 (auA t a f).length c2, .slice u2 (auX t a f).length d2], .int .i64 0]) (by simp [results,Tryz.results85,go_sem,t0,t1,t2,t3,ss0,ss1,ss2,ss3]) rfl ?_;have hk:∀y,w6.heap.size≤y→y<w10.heap.size→wz.drew.heap[y]? =w10.heap[y]? :=fun y hy1 hy2=>(hs6.block y (by have:=hs5.size; omega) (fun h=>by omega)).trans (hs5.block y hy2 (fun h=>by omega));exact ⟨_,_,by rw [HC.out],⟨_,_,_,_,_,_,_,_,rfl⟩,⟨_,_,_,_,_,_,_,_,rfl⟩,hB5,fun h=>⟨s1,c1,u1,d1,s2,c2,u2,d2,rfl,rfl,(Hf1.out.keep hk).rds,(Hf2.out.keep fun y hy1 hy2=>hk y (by omega) hy2).rds⟩⟩
end Go.Proofs.YtfopdcdbelaapaaGreatDoor
