/-
  Parts of a proof, joined: PrL, PrW, Both, AtS. No condition.
-/
import Derived.Test.YtlchgfbkdjjngaaGreatDoorPk34
set_option linter.unusedVariables false
set_option linter.unusedSimpArgs false
namespace Go.Proofs.YtlchgfbkdjjngaaGreatDoor
open Go.ChangeShapes Go.WideShapes Go.ChangeAt Go.RowKit Go.Deep
theorem K7 {w:World} {L:List (Int × Int)} {f:Int × Int→Int} {v:Value} (h:Rd w (.sl 1 L.length ((L.map f).map D.int)) v):Rd w (Cm (L.map f)) v:=by
 show Rd w (.sl 1 (L.map f).length ((L.map f).map D.int)) v
 rw [List.length_map];exact h
theorem Id {L:List (Int × Int)} {f:Int × Int→Int} {i:Nat} {p:Int × Int} (h:L[i]? =some p):(L.map f)[i]? =some (f p):=by rw [List.getElem?_map,h]; rfl
theorem Pl {nx ny:List (List (List Int))} {m k:Nat} {p:Int × Int} {X Y:Int} (h1:goN nx p.1 m k=X) (h2:goN ny p.2 m k=Y) (hx:X<0) (hy:Y<0):Dz nx ny m k p=none:=by unfold Dz; rw [h1,h2,if_pos ⟨hx,hy⟩]
theorem Kr {nx ny:List (List (List Int))} {m k:Nat} {p:Int × Int} {X Y:Int} (h1:goN nx p.1 m k=X) (h2:goN ny p.2 m k=Y) (h:¬(X<0∧Y<0)):Dz nx ny m k p=some (X,Y):=by unfold Dz; rw [h1,h2,if_neg h]
theorem Rq {nx ny:List (List (List Int))} {A a i:Nat} {x:Int × Int} {m k:Nat} (hm:m<A) (hk:k<a) (h:Dz nx ny m k x=none):prC nx ny A a i x m (k+1)=prC nx ny A a i x m k:=by rw [Mj hm hk,h]; rfl
theorem Ti {nx ny:List (List (List Int))} {A a i:Nat} {x z:Int × Int} {m k:Nat} (hm:m<A) (hk:k<a) (h:Dz nx ny m k x=some z) (hz:z∈prC nx ny A a i x m k):prC nx ny A a i x m (k+1)=prC nx ny A a i x m k:=by rw [Mj hm hk,h,Cx hz]
theorem Tg {nx ny:List (List (List Int))} {A a i:Nat} {x z:Int × Int} {m k:Nat} (hm:m<A) (hk:k<a) (h:Dz nx ny m k x=some z) (hz:z∉prC nx ny A a i x m k):prC nx ny A a i x m (k+1)=prC nx ny A a i x m k++[z]:=by rw [Mj hm hk,h,Cy hz]
def G3 (L:List (Int × Int)) (z:Int × Int) (k:Nat):Bool:=decide (z∈L.take k)
theorem Wl {L:List (Int × Int)} {z:Int × Int}:G3 L z 0=false:=by simp [G3]
theorem Wb {L:List (Int × Int)} {z p:Int × Int} {k:Nat} (h:L[k]? =some p) (hs:G3 L z k=false):G3 L z (k+1)=(p.1==z.1&&p.2==z.2):=by
 obtain ⟨hk,rfl⟩:=List.getElem?_eq_some_iff.1 h;unfold G3 at hs ⊢;rw [decide_eq_false_iff_not] at hs;rw [List.take_succ_eq_append_getElem hk,Bool.eq_iff_iff,decide_eq_true_eq,List.mem_append,List.mem_singleton,Bool.and_eq_true,beq_iff_eq,beq_iff_eq]
 constructor
 ·rintro (h|h)
  ·exact absurd h hs
  rw [h]; exact ⟨rfl,rfl⟩
 rintro ⟨h1,h2⟩;exact Or.inr (Prod.ext h1.symm h2.symm)
theorem W1 {L:List (Int × Int)} {z:Int × Int} {k:Nat} (h:true=G3 L z k):z∈L:=List.mem_of_mem_take (of_decide_eq_true h.symm)
theorem Yq {L:List (Int × Int)} {z:Int × Int} (h:false=G3 L z L.length):z∉L:=by
 have:=of_decide_eq_false h.symm
 rwa [List.take_length] at this
theorem Rz {B:Nat} {w:World} {items:List A6} (h:Bun B w items) (hB:B≤w.heap.size) {t:Nat} {v:Int}:Bun B (w.alloc (.cells #[.int .i64 v] t)) (items++[.app t 1 1 [D.int v] (.slice (some ⟨w.heap.size,0,none⟩) 1 1)]):=by
 refine h.push (Below.alloc (Below.refl _ _) (Nat.le_refl _) _) ?_;refine Al.more (Al.made (t:=t) (size:=1) (m:=1) (S:=fun _=>False) (El (w:=w) (v:=v)) (fun b h=>h.elim) rfl (by unfold maxLen; omega)) fun b _ hc=> ?_
 have hz:(w.alloc (.cells #[.int .i64 v] t)).heap.size=w.heap.size+1:=by simp
 rcases hc with hc|hc
 ·exact hc.elim
 omega
def PrW (B:Nat) (w0 wr:World) (T:Nat) (L:List (Int × Int)) (v0 v1:Value):Prop:=
 Bun B wr [.app T 1 L.length ((L.map Prod.fst).map D.int) v0,.app T 1 L.length ((L.map Prod.snd).map D.int) v1]∧Below B w0 wr
theorem PrW.snoc {B T:Nat} {w0 wr:World} {L:List (Int × Int)} {z:Int × Int} {v0 v1:Value} (h:Bun B wr [.app T 1 (L.length+1) ((L.map Prod.fst).map D.int++[D.int z.1]) v0,.app T 1 (L.length+1) ((L.map Prod.snd).map D.int++[D.int z.2]) v1]) (hb:Below B w0 wr):PrW B w0 wr T (L++[z]) v0 v1:=by
 refine ⟨?_,hb⟩
 simpa using h
set_option maxRecDepth 100000 in
set_option maxHeartbeats 16000000 in
theorem T7 {t a:Int} {ac bc:List (List Bool)} {nx ny:List (List (List Int))} {s u s' u':Option Addr} {c d c' d' b o b' o':Nat} {w:World} (h:Fl w b o t a ac nx s u c d) (h':Fl w b' o' t a bc ny s' u' c' d') (hok:By t a ac nx) (hok':By t a bc ny):
  Calls Tryz.prog 57 #[.pointer (some ⟨b,o,none⟩),.pointer (some ⟨b',o',none⟩)] w fun e w'=>∃v0 v1,e= .returned (.tuple #[v0,v1])∧Rd w' (Cm ((prF nx ny (Ah t).toNat a.toNat).map Prod.fst)) v0∧Rd w' (Cm ((prF nx ny (Ah t).toNat a.toNat).map Prod.snd)) v1∧Below w.heap.size w w':=by
 obtain ⟨ht0,ht3,ha0,ha4⟩:=Db hok.sig;obtain ⟨hat1,hat8⟩:=Ec t;have hP1:=fun (i:Nat) (h:(prL nx ny (Ah t).toNat a.toNat i).length≤i)=>To hok hok' h;have hP2:=fun (i:Nat) (x:Int × Int) (m k:Nat) (hx:(prL nx ny (Ah t).toNat a.toNat i)[i]? =some x)=>U6 (m:=m) (k:=k) hok hok' hx;have hP3:=fun (i:Nat)=>Fw hok hok' i;obtain ⟨n,hn⟩:∃n:Nat,a=(n:Int):=⟨a.toNat,by omega⟩;obtain ⟨A,hA⟩:∃A:Nat,Ah t=(A:Int):=⟨(Ah t).toNat,by omega⟩;rw [show (Ah t).toNat=A by omega,show a.toNat=n by omega] at*;have HA:=hid hA;have Hn:=hid hn;have HP1:=hid hP1;have HP2:=hid hP2;have HP3:=hid hP3;have Hok:=hid hok;have Hok':=hid hok';have Hh:=hid h;have Hh':=hid h'
 have hA8:A≤8:=by omega
 have hn4:n≤4:=by omega
 clear hP1 hP2 hP3 hok hok' h h' hA hat1 hat8
 go_enter Tryz.func57,Tryz.ntmps57
 go_wp2_with fail;have hB1:=Rz (Bun.nil (B:=w.heap.size) (w:=w)) (Nat.le_refl _) (t:=2) (v:=0);have hB2:=Rz hB1 (by simp) (t:=2) (v:=0);have hbe:=((Below.refl w.heap.size w).alloc (Nat.le_refl _) (.cells #[.int .i64 0] 2)).alloc (by simp) (.cells #[.int .i64 0] 2);rw [show (w.alloc (.cells #[.int .i64 0] 2)).heap.size=w.heap.size+1 by simp] at hB2;have Hst:Hid (PrW w.heap.size w ((w.alloc (.cells #[.int .i64 0] 2)).alloc (.cells #[.int .i64 0] 2)) 2 (prL nx ny A n 0) (.slice (some ⟨w.heap.size,0,none⟩) 1 1) (.slice (some ⟨w.heap.size+1,0,none⟩) 1 1)):=⟨hB2,hbe⟩;clear hB1 hB2 hbe
 go_loopw [6,7,8] (fun v0 v1 i wr=>∃k:Nat,i= .int .i64 k∧k≤(prL nx ny A n k).length∧PrW w.heap.size w wr 2 (prL nx ny A n k) v0 v1) (fun _ _ i _=>3722 - (intOf i).toNat)
 case atStart=>exact ⟨0,rfl,by omega,Hst.out⟩
 case round=>
  clear Hst;obtain ⟨i,rfl,hil,hW⟩:=hrel;obtain ⟨wo,rfl⟩:∃v,v=wr:=⟨_,rfl⟩;have hmany:=HP3.out i;obtain ⟨L,hL⟩:∃L,prL nx ny A n i=L:=⟨_,rfl⟩;rw [hL] at hW hil hmany;obtain ⟨a0,c0,rfl,q1,q2⟩:=hW.1.shape 0 rfl;obtain ⟨a1,c1,rfl,q3,q4⟩:=hW.1.shape 1 rfl;unfold maxLen at q2 q4;have HL:=hid hL;have HW:=hid hW;have hi0:=Int.natCast_nonneg i;have hzo:=hW.2.size;clear hL hW
  by_cases hlt:i<L.length
  rotate_left
  ·have hd:(prL nx ny A n i).length≤i:=by rw [HL.out]; omega
   have HF:Hid (prF nx ny A n=L):=by show _=_; unfold prF; rw [←HP1.out i hd,HL.out]
   clear hd;go_wp2_with fail;go_ret2;rw [HF.out];exact ⟨_,_,rfl,K7 (HW.out.1.rd 0 rfl),K7 (HW.out.1.rd 1 rfl),HW.out.2⟩
  obtain ⟨x,hx⟩:∃x,L[i]? =some x:=⟨_,List.getElem?_eq_getElem hlt⟩
  have hX:(prL nx ny A n i)[i]? =some x:=by rw [HL.out]; exact hx
  have HX:=hid hX;have hxok:=(HP2.out i x 0 0 hX).1 x (List.mem_of_getElem? (Jh hX))
  have Hst:Hid (PrW w.heap.size w wo 2 (prC nx ny A n i x 0 0) (.slice a0 L.length c0) (.slice a1 L.length c1)):=by show PrW ..; rw [Ru,HL.out]; exact HW.out
  clear hx hX;go_wp2_with fail
  go_loopw [6,7,9] (fun v0 v1 j wr=>∃m:Nat,j= .int .i64 m∧m≤A∧PrW w.heap.size w wr 2 (prC nx ny A n i x m 0) v0 v1) (fun _ _ j _=>A - (intOf j).toNat)
  case atStart=>exact ⟨0,rfl,by omega,Hst.out⟩
  case round=>
   clear Hst HW q1 q2 q3 q4;obtain ⟨m,rfl,hmA,hW⟩:=hrel;obtain ⟨wm,rfl⟩:∃v,v=wr:=⟨_,rfl⟩;obtain ⟨Lm,hLm⟩:∃Lm,prC nx ny A n i x m 0=Lm:=⟨_,rfl⟩;rw [hLm] at hW;obtain ⟨am,cm,rfl, -, -⟩:=hW.1.shape 0 rfl;obtain ⟨an,cn,rfl, -, -⟩:=hW.1.shape 1 rfl;have HLm:=hid hLm;clear hLm;have hm0:=Int.natCast_nonneg m;obtain ⟨g0,g1,g2,g3, -, -⟩:=Hh.out.below hW.2;have HW:=hid hW;have hzm:=hW.2.size;clear hW;go_wp2_with fail;clear g0 g1 g2 g3;refine (H8 ht0 ht3).mono ?_;rintro f w5 ⟨rfl,hb5⟩;rw [HA.out];have HW5:Hid (PrW w.heap.size w w5 2 Lm (.slice am Lm.length cm) (.slice an Lm.length cn)):=⟨HW.out.1.below hb5,HW.out.2.trans (hb5.mono hzm)⟩;have hz5:=hb5.size;clear hb5 HW
   by_cases hmlt:m<A
   rotate_left
   ·obtain rfl:A=m:=by omega
    have HW6:Hid (PrW w.heap.size w w5 2 (prL nx ny A n (i+1)) (.slice am Lm.length cm) (.slice an Lm.length cn)):=by show PrW ..; rw [←Lg HX.out,HLm.out]; exact HW5.out
    have hi1:i+1≤(prL nx ny A n (i+1)).length:=by
     have h1:=Jh (m:=A) (k:=0) HX.out;rw [Lg HX.out] at h1;exact (List.getElem?_eq_some_iff.1 h1).1
    go_wp2_with fail
    go_roundw
    case rel=>exact ⟨i+1,by go_num,hi1,HW6.out⟩
    case measure=>simp [intOf]; omega
   have hm1:(m:Int)<(A:Int):=by omega
   have hmat:(m:Int)<Ah t:=by rw [HA.out]; exact hm1
   go_wp2_with fail
   go_loopw [6,7,10] (fun v0 v1 j wr=>∃q:Nat,j= .int .i64 q∧q≤n∧PrW w.heap.size w wr 2 (prC nx ny A n i x m q) v0 v1) (fun _ _ j _=>n - (intOf j).toNat)
   case atStart=>exact ⟨0,rfl,by omega,by rw [HLm.out]; exact HW5.out⟩
   case round=>
    clear HW5 HLm;obtain ⟨q,rfl,hqn,hW⟩:=hrel;obtain ⟨wq,rfl⟩:∃v,v=wr:=⟨_,rfl⟩;obtain ⟨hall,hmany2⟩:=HP2.out i x m q HX.out;have hat:=Jh (m:=m) (k:=q) HX.out;obtain ⟨Lc,hLc⟩:∃Lc,prC nx ny A n i x m q=Lc:=⟨_,rfl⟩;rw [hLc] at hW hall hmany2 hat;obtain ⟨a2,c2,rfl,q1,q2⟩:=hW.1.shape 0 rfl;obtain ⟨a3,c3,rfl,q3,q4⟩:=hW.1.shape 1 rfl;unfold maxLen at q2 q4;have HLc:=hid hLc;have HW:=hid hW;have hq0:=Int.natCast_nonneg q;have hzq:=hW.2.size;have hAt:=Hh.out.below hW.2;have hAt':=Hh'.out.below hW.2;obtain ⟨g0,g1,g2,g3, -, -⟩:=hAt;rw [Hn.out] at g1;have hilc:=(List.getElem?_eq_some_iff.1 hat).1
    by_cases hqlt:q<n
    rotate_left
    ·obtain rfl:n=q:=by omega
     have HW6:Hid (PrW w.heap.size w wq 2 (prC nx ny A n i x (m+1) 0) (.slice a2 Lc.length c2) (.slice a3 Lc.length c3)):=by show PrW ..; rw [←Qf,HLc.out]; exact HW.out
     clear hW hAt' hLc;go_wp2_with fail
     go_roundw
     case rel=>exact ⟨m+1,by go_num,by omega,HW6.out⟩
     case measure=>simp [intOf]; omega
    have hq1:(q:Int)<(n:Int):=by omega
    have hqa:(q:Int)<a:=by rw [Hn.out]; exact hq1
    have r1:=K7 (hW.1.rd 0 rfl);have r2:=K7 (hW.1.rd 1 rfl);obtain ⟨b2,o2,rfl⟩:=Cl (f:=D.int) r1 (by simp; omega);obtain ⟨b3,o3,rfl⟩:=Cl (f:=D.int) r2 (by simp; omega);obtain ⟨-, x0⟩:=G9 r1 (Id (f:=Prod.fst) hat);obtain ⟨-, x1⟩:=G9 r2 (Id (f:=Prod.snd) hat)
    have hil2:(i:Int)<(Lc.length:Int):=by omega
    have Hr1:=hid r1;have Hr2:=hid r2;have HAt:=hid (Hh.out.below hW.2);have HAt':=hid hAt';clear hW hAt' hLc r1 r2 hat hall;go_wp2_with fail;refine (S4 HAt.out Hok.out hxok.2.1 hmat hqa).mono ?_;rintro e w6 ⟨rfl,rfl⟩;obtain ⟨X,hXe⟩:∃X,goN nx x.1 m q=X:=⟨_,rfl⟩;rw [hXe];have HXe:=hid hXe;clear hXe;go_wp2_with fail;refine (S4 HAt'.out Hok'.out hxok.2.2.2 hmat hqa).mono ?_;rintro e w7 ⟨rfl,rfl⟩;obtain ⟨Y,hYe⟩:∃Y,goN ny x.2 m q=Y:=⟨_,rfl⟩;rw [hYe];have HYe:=hid hYe;clear hYe
    by_cases hneg:X<0∧Y<0
    ·have HEL:Hid (prC nx ny A n i x m (q+1)=Lc):=by show _=_; rw [Rq hmlt hqlt (Pl HXe.out HYe.out hneg.1 hneg.2),HLc.out]
     obtain ⟨hX0,hY0⟩:=hneg;go_wp2_with fail
     go_loop [13,14] (fun mt j=>j= .int .i64 0∧mt= .bool true) (fun _ _=>0)
     case atStart=>exact ⟨rfl,rfl⟩
     case round=>
      obtain ⟨rfl,rfl⟩:=hrel
      have hlpos:(0:Int)<(Lc.length:Int):=by omega
      go_wp2_with fail
      go_roundw
      case rel=>exact ⟨q+1,by go_num,by omega,by rw [HEL.out]; exact HW.out⟩
      case measure=>simp [intOf]; omega
    have Hnx:=hid (Kr HXe.out HYe.out hneg)
    have hsp:(X<0∧¬Y<0)∨¬X<0:=by omega
    clear hneg
    rcases hsp with ⟨hX0,hY0⟩|hX0
    all_goals
     go_wp2_with fail
     go_loop [13,14] (fun mt j=>∃(kk:Nat) (mb:Bool),kk≤Lc.length∧j= .int .i64 kk∧mt= .bool mb∧Hid (mb=G3 Lc (X,Y) kk)) (fun _ j=>Lc.length - (intOf j).toNat)
     case atStart=>exact ⟨0,_,by omega,rfl,rfl,by show _=_; rw [Wl]; try exact decide_eq_false (by omega)⟩
     case round=>
      clear x0 x1;obtain ⟨kk,mb,hkk,rfl,rfl,HS⟩:=hrel;have hkk0:=Int.natCast_nonneg kk
      cases mb
      rotate_left
      ·have HEL:Hid (prC nx ny A n i x m (q+1)=Lc):=by show _=_; rw [Ti hmlt hqlt Hnx.out (by rw [HLc.out]; exact W1 HS.out),HLc.out]
       by_cases hkl:kk<Lc.length
       all_goals
        go_wp2_with fail
        go_roundw
        case rel=>exact ⟨q+1,by go_num,by omega,by rw [HEL.out]; exact HW.out⟩
        case measure=>simp [intOf]; omega
      by_cases hkl:kk<Lc.length
      ·obtain ⟨p,hp⟩:∃p,Lc[kk]? =some p:=⟨_,List.getElem?_eq_getElem hkl⟩;obtain ⟨-, y0⟩:=G9 Hr1.out (Id (f:=Prod.fst) hp);obtain ⟨-, y1⟩:=G9 Hr2.out (Id (f:=Prod.snd) hp);have hs2:=Wb (z:=(X,Y)) hp HS.out.symm
       have hkl2:(kk:Int)<(Lc.length:Int):=by omega
       obtain ⟨p1,hp1⟩:∃p1,p.1=p1:=⟨_,rfl⟩;obtain ⟨p2,hp2⟩:∃p2,p.2=p2:=⟨_,rfl⟩;rw [hp1,hp2] at hs2;rw [hp1] at y0;rw [hp2] at y1
       cases heq1:(p1==X)
       ·have HS3:Hid (false=G3 Lc (X,Y) (kk+1)):=by show _=_; rw [hs2]; show false=(p1==X&&p2==Y); rw [heq1]; rfl
        clear hs2 hp hp1 hp2 HS;go_wp2_with fail
        go_round
        case rel=>exact ⟨kk+1,false,by omega,by go_num,rfl,HS3⟩
        case measure=>simp [intOf]; omega
       have HS3:Hid ((p2==Y)=G3 Lc (X,Y) (kk+1)):=by show _=_; rw [hs2]; show _=(p1==X&&p2==Y); rw [heq1]; simp
       clear hs2 hp hp1 hp2 HS;go_wp2_with fail
       go_round
       case rel=>exact ⟨kk+1,_,by omega,by go_num,rfl,HS3⟩
       case measure=>simp [intOf]; omega
      obtain rfl:kk=Lc.length:=by omega
      have HEL:Hid (prC nx ny A n i x m (q+1)=Lc++[(X,Y)]):=by show _=_; rw [Tg hmlt hqlt Hnx.out (by rw [HLc.out]; exact Yq HS.out),HLc.out]
      have hBl:=HW.out.1.alloc (.cells #[.int .i64 X] 2);have hNl:=Blk.new1 w7 2 (.int .i64 X)
      go_wp2_with (first
       |(at_builtin; (refine Bf _ rfl _ _ 79 rfl 2 (.int .i64 0) 1 8 Tryz.underlying79 Df rfl (by decide) hBl (by simp<;>omega) 0 _ rfl rfl ⟨w7.heap.size,0,none⟩ 1 1 [.int .i64 X] rfl (Ax hNl) El rfl (by simp [Value.oneCell']) (by omega) (by omega) (by unfold maxLen; omega) ?_); intro g5 cap5 w8 hbun5 hb5; have hz8:w7.heap.size+1≤w8.heap.size:=(by have q:=hb5.size; simpa using q); have hBu:=hbun5.alloc (.cells #[.int .i64 Y] 2); have hNb:=Blk.new1 w8 2 (.int .i64 Y); have Hb5:=hid hb5; clear hbun5 hb5)
       |(at_builtin; go_must (refine Bf _ rfl _ _ 79 rfl 2 (.int .i64 0) 1 8 Tryz.underlying79 Df rfl (by decide) hBu (by simp<;>omega) 1 _ rfl rfl ⟨w8.heap.size,0,none⟩ 1 1 [.int .i64 Y] rfl (Ax hNb) El rfl (by simp [Value.oneCell']) (by omega) (by omega) (by unfold maxLen; omega) ?_); intro g6 cap6 w9 hbun6 hb6))
      have Hfin:=hid (PrW.snoc (z:=(X,Y)) hbun6 ((((HW.out.2.alloc hzq (.cells #[.int .i64 X] 2)).trans Hb5.out).alloc (by omega) (.cells #[.int .i64 Y] 2)).trans hb6));clear hbun6 hb6 hBu hNb hBl hNl Hb5;go_wp2_with fail
      go_roundw
      case rel=>exact ⟨q+1,by go_num,by omega,by rw [HEL.out]; have h:=Hfin.out; simpa using h⟩
      case measure=>simp [intOf]; omega
theorem Sd {α:Type} {L:List α} {p:α→Bool} {x:α} (hx:x∈L) (hp:p x=false):L.all p=false:=by
 rw [List.all_eq_false];exact ⟨x,hx,by rw [hp]; simp⟩
theorem S7 {α:Type} {L:List α} {p:α→Bool} (h:∀(i:Nat) (x:α),i<L.length→L[i]? =some x→p x=true):L.all p=true:=by
 rw [List.all_eq_true];intro x hx;obtain ⟨i,hi⟩:=List.mem_iff_getElem?.1 hx;exact h i x (List.getElem?_eq_some_iff.1 hi).1 hi
theorem Yx {ac bc:List (List Bool)} {A m:Nat} {p:Int × Int} (hm:m<A) (h1:Br ac p.1 m=true) (h2:Br bc p.2 m=false):Fa ac bc A p=false:=by
 unfold Fa;refine Sd (x:=m) (List.mem_range.2 hm) ?_;rw [h1,h2]
 rfl
theorem Xy {ac bc:List (List Bool)} {A:Nat} {p:Int × Int} (h:∀m:Nat,m<A→(Br ac p.1 m&& !Br bc p.2 m)=false):Fa ac bc A p=true:=by
 unfold Fa;rw [List.all_eq_true];intro m hm;rw [h m (List.mem_range.1 hm)]
 rfl
def InTo (ac bc:List (List Bool)) (p:Int × Int) (k:Nat):Prop:=∀m:Nat,m<k→(Br ac p.1 m&& !Br bc p.2 m)=false
theorem InTo.succ {ac bc:List (List Bool)} {p:Int × Int} {k:Nat} (h:InTo ac bc p k) (hk:(Br ac p.1 k&& !Br bc p.2 k)=false):InTo ac bc p (k+1):=fun m hm=>by
 by_cases he:m=k
 ·rw [he]; exact hk
 exact h m (by omega)
def J1 (ac bc:List (List Bool)) (A:Nat) (L:List (Int × Int)) (k:Nat):Prop:=∀(i:Nat) (p:Int × Int),i<k→L[i]? =some p→Fa ac bc A p=true
theorem J1.succ {ac bc:List (List Bool)} {A:Nat} {L:List (Int × Int)} {k:Nat} {p:Int × Int} (h:J1 ac bc A L k) (hp:L[k]? =some p) (hk:Fa ac bc A p=true):J1 ac bc A L (k+1):=fun i q hi hq=>by
 by_cases he:i=k
 ·rw [he,hp] at hq;rw [←Option.some.inj hq];exact hk
 exact h i q (by omega) hq
set_option maxRecDepth 100000 in
set_option maxHeartbeats 16000000 in
theorem Lr {t a:Int} {ac bc:List (List Bool)} {nx ny:List (List (List Int))} {s u s' u':Option Addr} {c d c' d' b o b' o':Nat} {w:World} (h:Fl w b o t a ac nx s u c d) (h':Fl w b' o' t a bc ny s' u' c' d') (hok:By t a ac nx) (hok':By t a bc ny):
  Calls Tryz.prog 41 #[.pointer (some ⟨b,o,none⟩),.pointer (some ⟨b',o',none⟩)] w fun e w'=>e= .returned (.bool (Fj ac bc nx ny (Ah t).toNat a.toNat))∧Below w.heap.size w w':=by
 obtain ⟨ht0,ht3,ha0,ha4⟩:=Db hok.sig;obtain ⟨hat1,hat8⟩:=Ec t;have hst:=T7 h h' hok hok';have hall:=fun p hp=>Mt hok hok' 3721 p hp;have hmany:=Fw hok hok' 3721;obtain ⟨A,hA⟩:∃A:Nat,Ah t=(A:Int):=⟨(Ah t).toNat,by omega⟩
 have hA':(Ah t).toNat=A:=by omega
 have hF:Fj ac bc nx ny (Ah t).toNat a.toNat=(prF nx ny (Ah t).toNat a.toNat).all (Fa ac bc (Ah t).toNat):=rfl;have hall':∀p∈prF nx ny (Ah t).toNat a.toNat,Ii ac.length bc.length p:=hall;have hmany':(prF nx ny (Ah t).toNat a.toNat).length≤3721:=hmany;obtain ⟨F,hFe⟩:∃F,prF nx ny (Ah t).toNat a.toNat=F:=⟨_,rfl⟩;rw [hFe] at hst hF hall' hmany';rw [hF,hA'];have HA:=hid hA;have Hall:=hid hall';have Hh:=hid h;have Hh':=hid h';have Hok:=hid hok;have Hok':=hid hok';clear hA hA' hF hFe hall hmany hall' h h' hok hok' hat1
 go_enter Tryz.func41,Tryz.ntmps41
 go_wp2_with fail;refine hst.mono ?_;rintro f w2 ⟨v0,v1,rfl,hr1,hr2,hb2⟩;obtain ⟨s0,k0,rfl,q1,q2, -⟩:=Rd.slice (size:=1) (n:=(F.map Prod.fst).length) hr1;obtain ⟨s1,k1,rfl,q3,q4, -⟩:=Rd.slice (size:=1) (n:=(F.map Prod.snd).length) hr2;unfold maxLen at q2 q4;simp only [List.length_map] at q1 q3;have Hr1:=hid hr1;have Hr2:=hid hr2;have Hb2:=hid hb2;have hz2:=hb2.size;rw [List.length_map,List.length_map];clear hr1 hr2 hb2 hst;go_wp2_with fail
 go_loopw [7] (fun i wr=>∃k:Nat,i= .int .i64 k∧k≤F.length∧Hid (J1 ac bc A F k)∧Below w2.heap.size w2 wr) (fun i _=>F.length - (intOf i).toNat)
 case atStart=>exact ⟨0,rfl,by omega,fun i p hi=>by omega,Below.refl _ _⟩
 case round=>
  obtain ⟨i,rfl,hi,HW,hbe⟩:=hrel;obtain ⟨wo,rfl⟩:∃v,v=wr:=⟨_,rfl⟩;have hi0:=Int.natCast_nonneg i;have hzo:=hbe.size;have HBe:=hid hbe;clear hbe
  by_cases hlt:i<F.length
  rotate_left
  ·obtain rfl:i=F.length:=by omega
   have HR:Hid (F.all (Fa ac bc A)=true):=S7 fun j p hj hp=>HW.out j p hj hp;go_wp2_with fail;go_ret;exact ⟨Av HR.out.symm,Hb2.out.trans (HBe.out.mono hz2)⟩
  obtain ⟨x,hx⟩:∃x,F[i]? =some x:=⟨_,List.getElem?_eq_getElem hlt⟩;have hxok:=Hall.out x (List.mem_of_getElem? hx);have Hx:=hid hx
  have hil:(i:Int)<(F.length:Int):=by omega
  clear hx;go_wp2_with fail
  go_loopw [8] (fun j wr=>∃m:Nat,j= .int .i64 m∧m≤A∧Hid (InTo ac bc x m)∧Below w2.heap.size w2 wr) (fun j _=>A - (intOf j).toNat)
  case atStart=>exact ⟨0,rfl,by omega,fun m hm=>by omega,HBe.out⟩
  case round=>
   clear HBe;obtain ⟨m,rfl,hmA,HI,hbe⟩:=hrel;obtain ⟨wm,rfl⟩:∃v,v=wr:=⟨_,rfl⟩;have hm0:=Int.natCast_nonneg m;have hAt:=Hh.out.below (Hb2.out.trans (hbe.mono hz2));obtain ⟨g0,g1,g2,g3, -, -⟩:=hAt;have hzm:=hbe.size;have HBe:=hid hbe;clear hbe;go_wp2_with fail;clear g0 g1 g2 g3;refine (H8 ht0 ht3).mono ?_;rintro f w5 ⟨rfl,hb5⟩;rw [HA.out];have hbe5:=HBe.out.trans (hb5.mono hzm);have HBe5:=hid hbe5;have hz5:=hb5.size;have HAt:=hid (Hh.out.below (Hb2.out.trans (hbe5.mono hz2)));have HAt':=hid (Hh'.out.below (Hb2.out.trans (hbe5.mono hz2)));have r1:=Hr1.out.below hbe5;have r2:=Hr2.out.below hbe5;obtain ⟨b2,o2,rfl⟩:=Cl (f:=D.int) r1 (by simp; omega);obtain ⟨b3,o3,rfl⟩:=Cl (f:=D.int) r2 (by simp; omega);obtain ⟨-, x0⟩:=G9 r1 (Id (f:=Prod.fst) Hx.out);obtain ⟨-, x1⟩:=G9 r2 (Id (f:=Prod.snd) Hx.out);clear hb5 hbe5 HBe r1 r2
   by_cases hmlt:m<A
   rotate_left
   ·obtain rfl:A=m:=by omega
    have HW2:=hid (HW.out.succ Hx.out (Xy HI.out));go_wp2_with fail
    go_roundw
    case rel=>exact ⟨i+1,by go_num,by omega,HW2.out,HBe5.out⟩
    case measure=>simp [intOf]; omega
   have hm1:(m:Int)<(A:Int):=by omega
   have hmat:(m:Int)<Ah t:=by rw [HA.out]; exact hm1
   go_wp2_with fail;refine (Ql HAt.out Hok.out hxok.2.1 hmat).mono ?_;rintro e w6 ⟨rfl,rfl⟩
   cases h1:Br ac x.1 m
   ·have HI2:=hid (HI.out.succ (by rw [h1]; rfl));clear h1;go_wp2_with fail
    go_roundw
    case rel=>exact ⟨m+1,by go_num,by omega,HI2.out,HBe5.out⟩
    case measure=>simp [intOf]; omega
   have H1:=hid h1;clear h1;go_wp2_with fail;refine (Ql HAt'.out Hok'.out hxok.2.2.2 hmat).mono ?_;rintro e w7 ⟨rfl,rfl⟩
   cases h2:Br bc x.2 m
   ·have HR:Hid (F.all (Fa ac bc A)=false):=Sd (List.mem_of_getElem? Hx.out) (Yx hmlt H1.out h2);clear h2;go_wp2_with fail;go_ret;exact ⟨Av HR.out.symm,Hb2.out.trans (HBe5.out.mono hz2)⟩
   have HI2:=hid (HI.out.succ (by rw [H1.out,h2]; rfl));clear h2;go_wp2_with fail
   go_roundw
   case rel=>exact ⟨m+1,by go_num,by omega,HI2.out,HBe5.out⟩
   case measure=>simp [intOf]; omega
noncomputable def Bs (t a:Int) (e f:Ex):Int:=if okB t a e&&okB t a f then (if auC t a e=0 then auC t a f else auC t a e) else 1
theorem Ih {t a:Int} {e f:Ex} (h:okB t a e=false∨okB t a f=false):Bs t a e f=1:=by
 unfold Bs
 rcases h with h|h
 ·rw [h]; rfl
 rw [h,Bool.and_false]; rfl
theorem Mk {t a:Int} {e f:Ex} (h1:okB t a e=true) (h2:okB t a f=true) (h:¬auC t a e=0):Bs t a e f=auC t a e:=by
 unfold Bs;rw [h1,h2]
 simp [h]
theorem Jp {t a:Int} {e f:Ex} (h1:okB t a e=true) (h2:okB t a f=true) (h:auC t a e=0):Bs t a e f=auC t a f:=by
 unfold Bs;rw [h1,h2]
 simp [h]
theorem Kz {t a:Int} {e f:Ex} (h:Bs t a e f=0):auC t a e=0∧auC t a f=0:=by
 cases h1:okB t a e
 ·rw [Ih (Or.inl h1)] at h; omega
 cases h2:okB t a f
 ·rw [Ih (Or.inr h2)] at h; omega
 by_cases h3:auC t a e=0
 ·rw [Jp h1 h2 h3] at h;exact ⟨h3,h⟩
 rw [Mk h1 h2 h3] at h;exact absurd h h3
def autV (v:Value):Prop:=∃(t a:Int) (s u:Option Addr) (l c m d:Nat),v= .agg #[.int .i64 t,.int .i64 a,.slice s l c,.slice u m d]
def Rt (t a:Int) (e f:Ex) (w:World) (g:Ending) (w':World):Prop:=∃v1 v2,g= .returned (.tuple #[v1,v2,.int .i64 (Bs t a e f)])∧autV v1∧autV v2∧Below w.heap.size w w'∧
 (Bs t a e f=0→∃s c u d s' c' u' d',v1= .agg #[.int .i64 t,.int .i64 a,.slice s (auA t a e).length c,.slice u (auX t a e).length d]∧v2= .agg #[.int .i64 t,.int .i64 a,.slice s' (auA t a f).length c',.slice u' (auX t a f).length d']∧
  Rds w' (Gc (auA t a e) (auX t a e)) [.slice s (auA t a e).length c,.slice u (auX t a e).length d]∧Rds w' (Gc (auA t a f) (auX t a f)) [.slice s' (auA t a f).length c',.slice u' (auX t a f).length d'])
theorem Dq:autV (.agg #[.int .i64 0,.int .i64 0,.slice none 0 0,.slice none 0 0]):=⟨_,_,_,_,_,_,_,_,rfl⟩
set_option maxRecDepth 100000 in
set_option maxHeartbeats 8000000 in
theorem Pi {t a:Int} {e f:Ex} {b o b' o':Nat} {w:World} (hx:Ap w b o e) (hy:Ap w b' o' f) (hse:e.size≤1073741824) (hsf:f.size≤1073741824):
  Calls Tryz.prog 40 #[.agg #[.int .i64 t,.int .i64 a],.pointer (some ⟨b,o,none⟩),.pointer (some ⟨b',o',none⟩)] w (Rt t a e f w):=by
 have Hse:=hid hse;have Hsf:=hid hsf;clear hse hsf
 go_enter Tryz.func40,Tryz.ntmps40
 go_wp2_with fail;obtain ⟨w1,e1,G,hb1,hz1⟩:=Dl w 25 (.int .i64 t) (.int .i64 a);rw [e1];obtain ⟨w2,e2,R,hb2,hz2⟩:=Dx w1 73 (.int .i64 0) (.int .i64 0) (.slice none 0 0) (.slice none 0 0);rw [e2];obtain ⟨w0,e0,Q,hb3,hz3⟩:=Dx w2 73 (.int .i64 0) (.int .i64 0) (.slice none 0 0) (.slice none 0 0);rw [e0];rw [hz1] at R;rw [show w2.heap.size=w.heap.size+1+1 by omega] at Q;replace R:=R.below hb3;replace G:=(G.below hb2).below hb3;have hB:Below w.heap.size w w0:=(hb1.trans (hb2.mono (by omega))).trans (hb3.mono (by omega))
 have hz0:w0.heap.size=w.heap.size+3:=by omega
 clear e1 e2 e0 hb1 hb2 hb3 hz1 hz2 hz3;refine (Ic (hx.below hB) Hse.out).mono ?_;rintro g w3 ⟨rfl,hb⟩;replace hB:=Below.on hB hb hB.size;replace R:=R.below hb;replace Q:=Q.below hb;replace G:=G.below hb;have hz3:=hb.size;clear hb;obtain ⟨g0,g1,ltG⟩:=G.all2
 cases h1:okB t a e
 ·have HC:Hid (Bs t a e f=1):=Ih (Or.inl h1);clear h1;obtain ⟨r0,r1,r2,r3,z0,z1,z2,z3,ltR⟩:=R.all4;obtain ⟨p0,p1,p2,p3,y0,y1,y2,y3,ltQ⟩:=Q.all4;go_wp2_with fail;obtain ⟨w5,e5,T1,hs5⟩:=Eg R (.int .i64 0) (.int .i64 0) (.slice none 0 0) (.slice none 0 0);rw [e5];have Q5:=Q.keep (hs5.block _ Q.lt (by simp));obtain ⟨w6,e6,T2,hs6⟩:=Eg Q5 (.int .i64 0) (.int .i64 0) (.slice none 0 0) (.slice none 0 0);rw [e6];have T3:=T1.keep (hs6.block _ T1.lt (by simp));clear e5 e6 T1;obtain ⟨t0,t1,t2,t3, -, -, -, -, -⟩:=T3.all4;obtain ⟨ss0,ss1,ss2,ss3, -, -, -, -, -⟩:=T2.all4;have hzB5:=hB.size;have hB5:=(hB.trans (hs5.below (B:=w.heap.size) (by omega) (fun y hy=>by omega))).trans (hs6.below (B:=w.heap.size) (by have:=hs5.size; omega) (fun y hy=>by omega));refine bodyPost_ret (v:= .tuple #[.agg #[.int .i64 0,.int .i64 0,.slice none 0 0,.slice none 0 0],.agg #[.int .i64 0,.int .i64 0,.slice none 0 0,.slice none 0 0],.int .i64 1]) (by simp [results,Tryz.results40,go_sem,t0,t1,t2,t3,ss0,ss1,ss2,ss3]) rfl ?_;exact ⟨_,_,by rw [HC.out],Dq,Dq,hB5,fun h=>by rw [HC.out] at h; omega⟩
 have H1:=hid h1;clear h1;go_wp2_with fail;clear g0 g1 ltG;refine (Ic (hy.below hB) Hsf.out).mono ?_;rintro g w4 ⟨rfl,hb⟩;replace hB:=Below.on hB hb hB.size;replace R:=R.below hb;replace Q:=Q.below hb;replace G:=G.below hb;have hz4:=hb.size;clear hb;obtain ⟨g0,g1,ltG⟩:=G.all2
 cases h2:okB t a f
 ·have HC:Hid (Bs t a e f=1):=Ih (Or.inr h2);clear h2;obtain ⟨r0,r1,r2,r3,z0,z1,z2,z3,ltR⟩:=R.all4;obtain ⟨p0,p1,p2,p3,y0,y1,y2,y3,ltQ⟩:=Q.all4;go_wp2_with fail;obtain ⟨w5,e5,T1,hs5⟩:=Eg R (.int .i64 0) (.int .i64 0) (.slice none 0 0) (.slice none 0 0);rw [e5];have Q5:=Q.keep (hs5.block _ Q.lt (by simp));obtain ⟨w6,e6,T2,hs6⟩:=Eg Q5 (.int .i64 0) (.int .i64 0) (.slice none 0 0) (.slice none 0 0);rw [e6];have T3:=T1.keep (hs6.block _ T1.lt (by simp));clear e5 e6 T1;obtain ⟨t0,t1,t2,t3, -, -, -, -, -⟩:=T3.all4;obtain ⟨ss0,ss1,ss2,ss3, -, -, -, -, -⟩:=T2.all4;have hzB5:=hB.size;have hB5:=(hB.trans (hs5.below (B:=w.heap.size) (by omega) (fun y hy=>by omega))).trans (hs6.below (B:=w.heap.size) (by have:=hs5.size; omega) (fun y hy=>by omega));refine bodyPost_ret (v:= .tuple #[.agg #[.int .i64 0,.int .i64 0,.slice none 0 0,.slice none 0 0],.agg #[.int .i64 0,.int .i64 0,.slice none 0 0,.slice none 0 0],.int .i64 1]) (by simp [results,Tryz.results40,go_sem,t0,t1,t2,t3,ss0,ss1,ss2,ss3]) rfl ?_;exact ⟨_,_,by rw [HC.out],Dq,Dq,hB5,fun h=>by rw [HC.out] at h; omega⟩
 have H2:=hid h2;clear h2;go_wp2_with fail;clear g0 g1 ltG;have ltQ4:=Q.lt;refine (Nv H1.out (hx.below hB)).mono ?_;intro g w6 hpost
 cases hcb:(auC t a e !=0)
 rotate_left
 ·have hc0:¬auC t a e=0:=by simpa using hcb
  have HC:Hid (Bs t a e f=auC t a e):=Mk H1.out H2.out hc0;have Hc0:=hid hc0;obtain ⟨t',a',s',u',l',c',m',d',rfl,hb⟩:=hpost.no;replace hB:=Below.on hB hb hB.size;replace R:=R.below hb;replace Q:=Q.below hb;clear hb hc0;go_wp2_with fail;obtain ⟨w7,e7,X,hb7,hz7⟩:=Dx w6 73 (.int .i64 t') (.int .i64 a') (.slice s' l' c') (.slice u' m' d');rw [e7];replace hB:=Below.on hB hb7 hB.size;have ltR6:=R.lt;have ltQ6:=Q.lt;replace R:=R.below hb7;replace Q:=Q.below hb7;clear e7 hb7;obtain ⟨x0,x1,x2,x3, -, -, -, -, ltX⟩:=X.all4;obtain ⟨r0,r1,r2,r3,z0,z1,z2,z3,ltR⟩:=R.all4;obtain ⟨p0,p1,p2,p3,y0,y1,y2,y3,ltQ⟩:=Q.all4;obtain ⟨xb,hxb⟩:∃xb,w6.heap.size=xb:=⟨_,rfl⟩;rw [hxb] at x0 x1 x2 x3 ltX ltR6 ltQ6 ⊢
  have n1:w.heap.size+1≠xb:=by omega
  have n2:w.heap.size+1+1≠xb:=by omega
  clear hxb
  go_region
  go_wp2_with fail;obtain ⟨w5,e5,T1,hs5⟩:=Eg R (.int .i64 t') (.int .i64 a') (.slice s' l' c') (.slice u' m' d');rw [e5];have Q5:=Q.keep (hs5.block _ Q.lt (by simp));obtain ⟨wz,e6,T2,hs6⟩:=Eg Q5 (.int .i64 t') (.int .i64 a') (.slice s' l' c') (.slice u' m' d');rw [e6];have T3:=(T1.keep (hs6.block _ T1.lt (by simp))).drew;have T4:=T2.drew;clear e5 e6 T1 T2;obtain ⟨t0,t1,t2,t3, -, -, -, -, -⟩:=T3.all4;obtain ⟨ss0,ss1,ss2,ss3, -, -, -, -, -⟩:=T4.all4;have hzB5:=hB.size;have hB4:=(hB.trans (hs5.below (B:=w.heap.size) (by omega) (fun y hy=>by omega))).trans (hs6.below (B:=w.heap.size) (by have:=hs5.size; omega) (fun y hy=>by omega));have hB5:Below w.heap.size w wz.drew:=hB4.drew;refine bodyPost_ret (v:= .tuple #[.agg #[.int .i64 t',.int .i64 a',.slice s' l' c',.slice u' m' d'],.agg #[.int .i64 t',.int .i64 a',.slice s' l' c',.slice u' m' d'],.int .i64 (auC t a e)]) (by simp [results,Tryz.results40,go_sem,t0,t1,t2,t3,ss0,ss1,ss2,ss3]) rfl ?_;exact ⟨_,_,by rw [HC.out],⟨_,_,_,_,_,_,_,_,rfl⟩,⟨_,_,_,_,_,_,_,_,rfl⟩,hB5,fun h=>by rw [HC.out] at h; exact absurd h Hc0.out⟩
 have hc0:auC t a e=0:=by simpa using hcb
 have HC:Hid (Bs t a e f=auC t a f):=Jp H1.out H2.out hc0;obtain ⟨s',c',u',d',rfl,hf,hb⟩:=hpost.yes hc0;have Hrd:=hid hf;have hz6:=hb.size;replace hB:=Below.on hB hb hB.size;replace R:=R.below hb;replace Q:=Q.below hb;replace G:=G.below hb;have G6:=G.alloc (.cells #[.int .i64 t,.int .i64 a,.slice s' (auA t a e).length c',.slice u' (auX t a e).length d'] 73);obtain ⟨g0,g1,ltG⟩:=G.all2;clear hb hcb hc0 hf;go_wp2_with fail;clear g0 g1 ltG;obtain ⟨w7,e7,X,hb7,hz7⟩:=Dx w6 73 (.int .i64 t) (.int .i64 a) (.slice s' (auA t a e).length c') (.slice u' (auX t a e).length d');rw [e7];replace hB:=Below.on hB hb7 hB.size;have ltR6:=R.lt;have ltQ6:=Q.lt;replace R:=R.below hb7;replace Q:=Q.below hb7;have Hrd7:=hid (Hrd.out.on hb7);obtain ⟨xb,hxb⟩:∃xb,w6.heap.size=xb:=⟨_,rfl⟩;rw [hxb] at X ltR6 ltQ6 ⊢;clear e7 hb7 hxb Hrd G6 G;refine (Nv H2.out (hy.below hB)).mono ?_;rintro g w8 ⟨s2,c2,u2,d2,rfl,hf2,hb⟩;have Hrd2:=hid hf2;have Hrd8:=hid (Hrd7.out.on hb);replace hB:=Below.on hB hb hB.size;replace R:=R.below hb;replace Q:=Q.below hb;replace X:=X.below hb;have ltX8:=X.lt;clear hb hf2 Hrd7;have ltR8:=R.lt;have ltQ8:=Q.lt;go_wp2_with fail;obtain ⟨w9,e9,Y,hb9,hz9⟩:=Dx w8 73 (.int .i64 (auT t a f)) (.int .i64 (auN t a f)) (.slice s2 (auA t a f).length c2) (.slice u2 (auX t a f).length d2);rw [e9];replace hB:=Below.on hB hb9 hB.size;replace R:=R.below hb9;replace Q:=Q.below hb9;replace X:=X.below hb9;have Hf1:=hid (Hrd8.out.on hb9);have Hf2:=hid (Hrd2.out.on hb9);obtain ⟨yb,hyb⟩:∃yb,w8.heap.size=yb:=⟨_,rfl⟩;rw [hyb] at Y ltR8 ltQ8 ltX8 ⊢;clear e9 hb9 hyb Hrd8 Hrd2;obtain ⟨x0,x1,x2,x3, -, -, -, -, ltX⟩:=X.all4;obtain ⟨v0,v1,v2,v3, -, -, -, -, ltY⟩:=Y.all4;obtain ⟨r0,r1,r2,r3,z0,z1,z2,z3,ltR⟩:=R.all4;obtain ⟨p0,p1,p2,p3,y0,y1,y2,y3,ltQ⟩:=Q.all4
 have n1:w.heap.size+1≠xb:=by omega
 have n2:w.heap.size+1+1≠xb:=by omega
 have n3:w.heap.size+1≠yb:=by omega
 have n4:w.heap.size+1+1≠yb:=by omega
 go_region
 go_wp2_with fail;obtain ⟨w5,e5,T1,hs5⟩:=Eg R (.int .i64 t) (.int .i64 a) (.slice s' (auA t a e).length c') (.slice u' (auX t a e).length d');rw [e5];have Q5:=Q.keep (hs5.block _ Q.lt (by simp));obtain ⟨wz,e6,T2,hs6⟩:=Eg Q5 (.int .i64 (auT t a f)) (.int .i64 (auN t a f)) (.slice s2 (auA t a f).length c2) (.slice u2 (auX t a f).length d2);rw [e6];have T3:=(T1.keep (hs6.block _ T1.lt (by simp))).drew;have T4:=T2.drew;clear e5 e6 T1 T2;obtain ⟨t0,t1,t2,t3, -, -, -, -, -⟩:=T3.all4;obtain ⟨ss0,ss1,ss2,ss3, -, -, -, -, -⟩:=T4.all4;have hzB5:=hB.size;have hB4:=(hB.trans (hs5.below (B:=w.heap.size) (by omega) (fun y hy=>by omega))).trans (hs6.below (B:=w.heap.size) (by have:=hs5.size; omega) (fun y hy=>by omega));have hB5:Below w.heap.size w wz.drew:=hB4.drew;refine bodyPost_ret (v:= .tuple #[.agg #[.int .i64 t,.int .i64 a,.slice s' (auA t a e).length c',.slice u' (auX t a e).length d'],.agg #[.int .i64 (auT t a f),.int .i64 (auN t a f),.slice s2 (auA t a f).length c2,.slice u2 (auX t a f).length d2],.int .i64 (auC t a f)]) (by simp [results,Tryz.results40,go_sem,t0,t1,t2,t3,ss0,ss1,ss2,ss3]) rfl ?_;have hk:∀y,w4.heap.size≤y→y<w9.heap.size→wz.drew.heap[y]? =w9.heap[y]? :=fun y hy1 hy2=>(hs6.block y (by have:=hs5.size; omega) (fun h=>by omega)).trans (hs5.block y hy2 (fun h=>by omega));refine ⟨_,_,by rw [HC.out],⟨_,_,_,_,_,_,_,_,rfl⟩,⟨_,_,_,_,_,_,_,_,rfl⟩,hB5,fun h=> ?_⟩;rw [HC.out] at h;obtain ⟨-, e1,e2, -⟩:=Fr h;refine ⟨s',c',u',d',s2,c2,u2,d2,rfl,by rw [e1,e2],(Hf1.out.keep hk).rds,(Hf2.out.keep fun y hy1 hy2=>hk y (by omega) hy2).rds⟩
noncomputable def atB (t a:Int) (e f:Ex):Bool:=Fj (auA t a e) (auA t a f) (auX t a e) (auX t a f) (Ah t).toNat a.toNat
noncomputable def eqR (t a:Int) (e f:Ex):Bool:=if Bs t a e f=0 then (atB t a e f&&atB t a f e) else false
set_option maxHeartbeats 8000000 in
theorem Ly {t a k n k' n':Int} {ks ks':List Ex} {s s':Option Addr} {c c':Nat} {w:World} (hr:Rd w (Ae ks) (.slice s ks.length c)) (hr':Rd w (Ae ks') (.slice s' ks'.length c')) (h1:Ex.sizeL ks≤1048576) (h2:Ex.sizeL ks'≤1048576):
  Calls Tryz.prog 25 #[.agg #[.int .i64 t,.int .i64 a],.agg #[.int .i64 k,.int .i64 n,.slice s ks.length c],.agg #[.int .i64 k',.int .i64 n',.slice s' ks'.length c']] w fun e w'=>e= .returned (.tuple #[.bool (eqR t a (.mk k n ks) (.mk k' n' ks')),.int .i64 (Bs t a (.mk k n ks) (.mk k' n' ks'))])∧Below w.heap.size w w':=by
 have Hsz:Hid (Ex.size (.mk k n ks)≤1073741824):=by show _≤_; rw [Ex.size_eq]; simp only [Ex.kids]; omega
 have Hsz':Hid (Ex.size (.mk k' n' ks')≤1073741824):=by show _≤_; rw [Ex.size_eq]; simp only [Ex.kids]; omega
 obtain ⟨e,he⟩:∃e,Ex.mk k n ks=e:=⟨_,rfl⟩;obtain ⟨f,hf⟩:∃f,Ex.mk k' n' ks'=f:=⟨_,rfl⟩;rw [he] at Hsz ⊢;rw [hf] at Hsz' ⊢;have He:=hid he;have Hf:=hid hf;clear he hf h1 h2
 cases hcb:(Bs t a e f !=0)
 rotate_left
 ·have HE:Hid (eqR t a e f=false):=by show _=_; unfold eqR; rw [if_neg (by simpa using hcb)]
  go_enter Tryz.func25,Tryz.ntmps25
  go_wp2_with fail;obtain ⟨w1,e1,G,hb1,hz1⟩:=Dl w 25 (.int .i64 t) (.int .i64 a);rw [e1];obtain ⟨w2,e2,X,hb2,hz2⟩:=A7 w1 28 (.int .i64 k) (.int .i64 n) (.slice s ks.length c);rw [e2];obtain ⟨w0,e0,Y,hb3,hz3⟩:=A7 w2 28 (.int .i64 k') (.int .i64 n') (.slice s' ks'.length c');rw [e0];have hB:Below w.heap.size w w0:=(hb1.trans (hb2.mono (by omega))).trans (hb3.mono (by omega));rw [hz1] at X;rw [show w2.heap.size=w.heap.size+1+1 by omega] at Y;replace X:=X.below hb3;replace G:=(G.below hb2).below hb3;clear e1 e2 e0 hb1 hb2 hb3 hz1 hz2 hz3
  have hxa:Ap w0 (w.heap.size+1) 0 e:=by rw [←He.out]; exact X.exAt (hr.below hB)
  have hya:Ap w0 (w.heap.size+1+1) 0 f:=by rw [←Hf.out]; exact Y.exAt (hr'.below hB)
  clear X Y G;refine (Pi hxa hya Hsz.out Hsz'.out).mono ?_;rintro g w3 ⟨v1,v2,rfl,⟨t1,a1,s1,u1,l1,c1,m1,d1,rfl⟩,⟨t2,a2,s2,u2,l2,c2,m2,d2,rfl⟩,hb, -⟩;replace hB:=Below.on hB hb hB.size;have hzB:=hB.size;clear hb hxa hya;go_wp2_with fail;go_ret2;exact ⟨Kl HE.out.symm rfl,bel⟩
 skip
 have hc:Bs t a e f=0:=by simpa using hcb
 obtain ⟨hce,hcf⟩:=Kz hc;obtain ⟨-, -, -, hoke⟩:=Fr hce;obtain ⟨-, -, -, hokf⟩:=Fr hcf;have Hoke:=hid hoke;have Hokf:=hid hokf;have Hc:=hid hc;clear hcb hc hce hcf hoke hokf
 have HE:Hid (eqR t a e f=(atB t a e f&&atB t a f e)):=by show _=_; unfold eqR; rw [if_pos Hc.out]
 go_enter Tryz.func25,Tryz.ntmps25
 go_wp2_with fail;obtain ⟨w1,e1,G,hb1,hz1⟩:=Dl w 25 (.int .i64 t) (.int .i64 a);rw [e1];obtain ⟨w2,e2,X,hb2,hz2⟩:=A7 w1 28 (.int .i64 k) (.int .i64 n) (.slice s ks.length c);rw [e2];obtain ⟨w0,e0,Y,hb3,hz3⟩:=A7 w2 28 (.int .i64 k') (.int .i64 n') (.slice s' ks'.length c');rw [e0];have hB:Below w.heap.size w w0:=(hb1.trans (hb2.mono (by omega))).trans (hb3.mono (by omega));rw [hz1] at X;rw [show w2.heap.size=w.heap.size+1+1 by omega] at Y;replace X:=X.below hb3;replace G:=(G.below hb2).below hb3;clear e1 e2 e0 hb1 hb2 hb3 hz1 hz2 hz3
 have hxa:Ap w0 (w.heap.size+1) 0 e:=by rw [←He.out]; exact X.exAt (hr.below hB)
 have hya:Ap w0 (w.heap.size+1+1) 0 f:=by rw [←Hf.out]; exact Y.exAt (hr'.below hB)
 clear X Y G;refine (Pi hxa hya Hsz.out Hsz'.out).mono ?_;rintro g w3 ⟨v1,v2,rfl, -, -, hb,hgot⟩;obtain ⟨s1,c1,u1,d1,s2,c2,u2,d2,rfl,rfl,hd1,hd2⟩:=hgot Hc.out;rw [Hc.out];replace hB:=Below.on hB hb hB.size;clear hb hxa hya hgot;go_wp2_with fail;obtain ⟨w4,e4,A1,hb4,hz4⟩:=Dx w3 73 (.int .i64 t) (.int .i64 a) (.slice s1 (auA t a e).length c1) (.slice u1 (auX t a e).length d1);rw [e4];obtain ⟨w5,e5,A2,hb5,hz5⟩:=Dx w4 73 (.int .i64 t) (.int .i64 a) (.slice s2 (auA t a f).length c2) (.slice u2 (auX t a f).length d2);rw [e5];replace hB:=(hB.trans (hb4.mono hB.size)).trans (hb5.mono (by have:=hB.size; omega));rw [hz4] at A2;have HA1:=hid (Pw (A1.below hb5) ((hd1.below hb4).below hb5));have HA2:=hid (Pw A2 ((hd2.below hb4).below hb5));clear e4 e5 hb4 hb5 hd1 hd2 A1 A2 hz5;refine (Lr HA1.out HA2.out Hoke.out Hokf.out).mono ?_;rintro g w6 ⟨rfl,hb6⟩;have hB6:=hB.trans (hb6.mono hB.size);have HA1':=hid (HA1.out.below hb6);have HA2':=hid (HA2.out.below hb6);clear hb6
 cases h1:Fj (auA t a e) (auA t a f) (auX t a e) (auX t a f) (Ah t).toNat a.toNat
 ·have HE2:Hid (eqR t a e f=false):=by show _=_; rw [HE.out]; unfold atB; rw [h1,Bool.false_and]
  clear h1;go_wp2_with fail;go_ret2;exact ⟨Kl HE2.out.symm Hc.out.symm,hB6⟩
 have HE2:Hid (eqR t a e f=Fj (auA t a f) (auA t a e) (auX t a f) (auX t a e) (Ah t).toNat a.toNat):=by show _=_; rw [HE.out]; unfold atB; rw [h1,Bool.true_and]
 clear h1;go_wp2_with fail;refine (Lr HA2'.out HA1'.out Hokf.out Hoke.out).mono ?_;rintro g w7 ⟨rfl,hb7⟩;have hB7:=hB6.trans (hb7.mono hB6.size);rw [←HE2.out];clear hb7;go_wp2_with fail;go_ret2;exact ⟨Kl rfl Hc.out.symm,hB7⟩
end Go.Proofs.YtlchgfbkdjjngaaGreatDoor
