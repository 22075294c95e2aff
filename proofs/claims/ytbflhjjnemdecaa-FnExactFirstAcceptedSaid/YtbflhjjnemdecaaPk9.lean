/-
  Parts of a proof, joined: FarI. No condition.
-/
import Derived.Test.YtbflhjjnemdecaaPk8
set_option linter.unusedVariables false
set_option linter.unusedSimpArgs false
namespace Go.Proofs.Ytbflhjjnemdecaa
open Go.ChangeShapes Go.WideShapes Go.ChangeAt Go.RowKit Go.Sort
structure FarB (w:World) (T1 T2 T3 N g ob:Nat) (box:List Value) (wr:World) (L:List Int):Prop where
 hg:Blk wr g T3 (L.map (Value.int .i64))
 ho:Blk wr ob T2 [.slice (some ⟨g,0,none⟩) N N]
 hx:Blk wr w.heap.size T1 box
 o1:w.heap.size<g
 o2:g<ob
 bl:Below w.heap.size w wr
 ln:L.length=N
section
variable {w wr:World} {T1 T2 T3 N g ob:Nat} {box:List Value} {L:List Int}
theorem FarB.set (h:FarB w T1 T2 T3 N g ob box wr L) (k:Nat) (x:Int):FarB w T1 T2 T3 N g ob box (wr.setCell ⟨g,k,none⟩ (.int .i64 x)) (L.set k x):=
 ⟨arr_set h.hg k x,h.ho.other (p:=⟨g,k,none⟩) (by have:=h.o2; simp; omega) _,h.hx.other (p:=⟨g,k,none⟩) (by have:=h.o1; simp; omega) _,h.o1,h.o2,Below.setCell (p:=⟨g,k,none⟩) h.bl (by have:=h.o1; simp; omega) _,by simpa using h.ln⟩
theorem FarB.below {w2:World} (h:FarB w T1 T2 T3 N g ob box wr L) (hb:Below wr.heap.size wr w2):FarB w T1 T2 T3 N g ob box w2 L:=
 ⟨h.hg.below hb,h.ho.below hb,h.hx.below hb,h.o1,h.o2,h.bl.trans (hb.mono h.bl.size),h.ln⟩
theorem FarB.alloc (h:FarB w T1 T2 T3 N g ob box wr L) (o:Obj):FarB w T1 T2 T3 N g ob box (wr.alloc o) L:=h.below (Below.alloc (Below.refl _ _) (Nat.le_refl _) o)
end
def ptrInt (p:Value) (w:World):Nat:=
 match p with
 | .pointer (some a)=>match w.cell? a with
  |some v=>(intOf v).toNat
  |none=>0
 |_=>0
theorem ptrInt_eq {w:World} {b t:Nat} {x:Int} (h:Blk w b t [.int .i64 x]):ptrInt (.pointer (some ⟨b,0,none⟩)) w=x.toNat:=by
 unfold ptrInt;simp only [h.c0]
 rfl
set_option maxRecDepth 100000 in
set_option maxHeartbeats 16000000 in
theorem alive_i {t a:Int} {ac:List (List Bool)} {nx:List (List (List Int))} {s u:Option Addr} {c d:Nat} {w:World} (hr:Rd w (bbD ac) (.slice s ac.length c)) (hq:Rd w (iiiD nx) (.slice u nx.length d)) (hok:AutOk t a ac nx):
  Calls Try.prog 147 #[.agg #[.int .i64 t,.int .i64 a,.slice s ac.length c,.slice u nx.length d]] w fun e w'=>∃g,e= .returned (.slice (some ⟨g,0,none⟩) ac.length ac.length)∧Fresh w w' (intsD (farL ac nx (ac.length - 1))) (.slice (some ⟨g,0,none⟩) ac.length ac.length)∧Below w.heap.size w w':=by
 obtain ⟨hlen,hcap⟩:=nest_bd hr;obtain ⟨hlen',hcap'⟩:=nest_bd hq;unfold maxLen at hcap hcap';have hn1:=hok.lo;have hn2:=hok.hi
 have hnl1:nx.length≤ac.length:=by have:=hok.len; omega
 have hnl2:ac.length≤nx.length:=by have:=hok.len; omega
 have Hok:=hid hok;have Hr:=hid hr;have Hq:=hid hq;obtain ⟨i0,hi,hz0,hz1,hz2⟩:=info_parts info_int64;have L:=Blk.new4 w 51 (.int .i64 t) (.int .i64 a) (.slice s ac.length c) (.slice u nx.length d);have HL:=hid L;have l2:=L.c2;clear hok L hr hq
 go_enter Try.func147,Try.ntmps147
 go_wp2_with (at_make; refine wpList_make_full _ rfl _ _ 27 rfl w.heap.size 2 i0 (.int .i64 0) 1 Try.underlying27 hi hz0 hz1 .i64 .i64 _ _ ac.length rfl rfl rfl rfl (by rw [hz2]; omega) (by unfold maxLen; omega) (by simp) ?_; intro w1 hown hgrow; have hbx:=HL.out.keep (hgrow.block _ HL.out.lt (by simp)); have c2':=hbx.c2; have lx:=hbx.lt)
 have hB0:Below w.heap.size w w1:=Below.grown (Below.alloc (Below.refl _ _) (Nat.le_refl _) _) hgrow (by simp) (by simp);clear c2' lx;rw [show (w.alloc (.cells #[.int .i64 t,.int .i64 a,.slice s ac.length c,.slice u nx.length d] 51)).heap.size=w.heap.size+1 by simp] at hown;obtain ⟨hb0, -⟩:=made_blk (z:= .int .i64 0) rfl hown;have hfill:=FillL.start (z:=(0:Int)) (farL_len (ac:=ac) (nx:=nx) 0)
 have hb1:Blk w1 (w.heap.size+1) 2 ((List.replicate ac.length (0:Int)).map (Value.int .i64)):=by simpa using hb0
 obtain ⟨g,hg⟩:∃g,w.heap.size+1=g:=⟨_,rfl⟩;rw [hg] at hb1 ⊢;obtain ⟨w2,e2,hob,hb2,hz2'⟩:=box1 w1 27 (.slice (some ⟨g,0,none⟩) ac.length ac.length);rw [e2];have hlg:=hb1.lt;obtain ⟨ob,hob'⟩:∃ob,w1.heap.size=ob:=⟨_,rfl⟩
 have HF:Hid (FarB w 51 27 2 ac.length g ob [.int .i64 t,.int .i64 a,.slice s ac.length c,.slice u nx.length d] w2 (List.replicate ac.length 0)):=
  ⟨hb1.below hb2,by rw [←hob']; exact hob,hbx.below hb2,by omega,by omega,hB0.trans (hb2.mono hB0.size),by simp⟩
 rw [hob'] at ⊢;have Hfill:=hid hfill;clear hown hgrow hb0 hb1 hfill hbx hB0 HL l2 e2 hob hb2 hz2' hlg hg hob'
 go_loopw [18] (fun i wr=>∃(k:Nat) (L:List Int),k≤ac.length∧i= .int .i64 k∧FarB w 51 27 2 ac.length g ob [.int .i64 t,.int .i64 a,.slice s ac.length c,.slice u nx.length d] wr L∧FillL (0:Int) (farL ac nx 0) k L) (fun i _=>ac.length - (intOf i).toNat)
 case atStart=>exact ⟨0,_,by omega,rfl,HF.out,Hfill.out⟩
 case round=>
  clear HF Hfill;obtain ⟨k,L,hk,rfl,hF,hfill⟩:=hrel;obtain ⟨wo,rfl⟩:∃v,v=wr:=⟨_,rfl⟩;have HF:=hid hF;have hk0:=Int.natCast_nonneg k;have hLl:=hF.ln
  by_cases hlt:k<ac.length
  ·obtain ⟨ar,har⟩:∃e,ac[k]? =some e:=⟨_,List.getElem?_eq_getElem hlt⟩;obtain ⟨sb,so,rfl⟩:=nest_some (f:=boolsD) Hr.out (by omega);obtain ⟨hsl,sa,ca,a0,ra⟩:=nest_sl (g:=D.bool) Hr.out har;replace a0:=(hF.bl.cell (p:=⟨sb,so+k,none⟩) hsl).trans a0;have Hst:=hid (fun v h=>hfill.step (v:=v) h)
   have Hfar:Hid ((farL ac nx 0)[k]? =some (if ar.any id then (0:Int) else -1)):=by show _=_; rw [farL_at hlt,farV_zero har]
   have hkb:(k:Int)<(ac.length:Int):=by omega
   obtain ⟨xv,hxv⟩:∃xv,L[k]? =some xv:=⟨_,List.getElem?_eq_getElem (by omega)⟩;have x0:=arr_cell hF.hg hxv;have f0:=hF.hg.frozen k;clear hfill har hF hxv;have q0:=HF.out.ho.c0;have q2:=HF.out.hx.c2;have q3:=HF.out.hx.c3;have lo:=HF.out.ho.lt;have lx:=HF.out.hx.lt;have lg:=HF.out.hg.lt;have nab:=HF.out.o1;have ngb:=HF.out.o2;go_wp2_with fail;clear q0 q2 q3 lo lx lg a0 x0 f0;have hF2:=HF.out.set k (-1);generalize wo.setCell ⟨g,k,none⟩ (.int .i64 (-1))=w5 at hF2 ⊢;have HF2:=hid hF2;have ra2:=ra.below hF2.bl;have f0:=hF2.hg.frozen k;have x0:=arr_cell hF2.hg (set_at (x:=(-1:Int)) (i:=k) (by omega));clear hF2;refine (containsTrue_i ra2).mono ?_;rintro e w6 ⟨rfl,rfl⟩;have q0:=HF2.out.ho.c0;have q2:=HF2.out.hx.c2;have q3:=HF2.out.hx.c3;have lo:=HF2.out.ho.lt;have lx:=HF2.out.hx.lt;have lg:=HF2.out.hg.lt;have nab:=HF2.out.o1;have ngb:=HF2.out.o2
   cases hany:ar.any id
   ·rw [hany] at Hfar;have HF3:=hid (And.intro HF2.out (Hst.out (-1) (by rw [Hfar.out]; rfl)));clear hany Hfar Hst ra ra2;go_wp2_with fail
    go_roundw
    case rel=>exact ⟨k+1,_,by omega,by go_num,HF3.out⟩
    case measure=>simp [intOf]; omega
   rw [hany] at Hfar;have HF3:=hid (And.intro (by have h:=HF2.out.set k 0; rw [set_twice] at h; exact h) (Hst.out 0 (by rw [Hfar.out]; rfl)):FarB w 51 27 2 ac.length g ob [.int .i64 t,.int .i64 a,.slice (some ⟨sb,so,none⟩) ac.length c,.slice u nx.length d] (w6.setCell ⟨g,k,none⟩ (.int .i64 0)) (L.set k 0)∧FillL (0:Int) (farL ac nx 0) (k+1) (L.set k 0));clear hany Hfar Hst ra ra2;go_wp2_with fail
   go_roundw
   case rel=>exact ⟨k+1,_,by omega,by go_num,HF3.out⟩
   case measure=>simp [intOf]; omega
  obtain rfl:k=ac.length:=by omega
  obtain rfl:L=farL ac nx 0:=FillL.all (by rw [farL_len]; exact hfill);clear hF hfill;have q0:=HF.out.ho.c0;have q2:=HF.out.hx.c2;have q3:=HF.out.hx.c3;have lo:=HF.out.ho.lt;have lx:=HF.out.hx.lt;have lg:=HF.out.hg.lt;have nab:=HF.out.o1;have ngb:=HF.out.o2;go_wp2_with fail;clear q0 q2 q3 lo lx lg;obtain ⟨w3,e3,hbn,hb3,hz3⟩:=box1 wo 2 (.int .i64 1);rw [e3];have Hst:Hid (FarB w 51 27 2 ac.length g ob [.int .i64 t,.int .i64 a,.slice s ac.length c,.slice u nx.length d] w3 (farL ac nx 0)∧Blk w3 wo.heap.size 2 [.int .i64 (((0:Nat):Int)+1)]∧ob<wo.heap.size):=⟨HF.out.below hb3,hbn,HF.out.ho.lt⟩;clear e3 hbn hb3 hz3 HF
  go_loopw [6] (fun p wr=>∃m bn:Nat,p= .pointer (some ⟨bn,0,none⟩)∧m+1≤ac.length∧FarB w 51 27 2 ac.length g ob [.int .i64 t,.int .i64 a,.slice s ac.length c,.slice u nx.length d] wr (farL ac nx m)∧Blk wr bn 2 [.int .i64 ((m:Int)+1)]∧ob<bn) (fun p wr=>ac.length - ptrInt p wr)
  case atStart=>exact ⟨0,_,rfl,by omega,Hst.out⟩
  case round=>
   clear Hst;obtain ⟨m,bn,rfl,hm,hF,hbn,hobn⟩:=hrel;obtain ⟨wm,rfl⟩:∃v,v=wr:=⟨_,rfl⟩;have Hms:=hid (ptrInt_eq hbn);have HF:=hid hF;have HBn:=hid hbn;have hm0:=Int.natCast_nonneg m
   have hm100:m≤100:=by omega
   have n0:=hbn.c0;have ln:=hbn.lt;have q0:=HF.out.ho.c0;have q2:=HF.out.hx.c2;have q3:=HF.out.hx.c3;have lo:=HF.out.ho.lt;have lx:=HF.out.hx.lt;have lg:=HF.out.hg.lt;have nab:=HF.out.o1;have ngb:=HF.out.o2
   by_cases hml:m+1<ac.length
   rotate_left
   ·obtain rfl:m=ac.length - 1:=by omega
    have hnlt:¬(((ac.length - 1:Nat):Int)+1<(ac.length:Int)):=by omega
    have Hfr:=hid (arr_fresh (fd:=D.int) (W:=w) hF.hg (by omega) (fun x=>Ow.int x) (farL_len _) (by unfold maxLen; omega));clear hF hbn;go_wp2_with fail;go_ret;exact ⟨g,rfl,Hfr.out,HF.out.bl⟩
   have hmb:(m:Int)+1<(ac.length:Int):=by omega
   have HM0:=hid (MidL.zero (ac:=ac) (nx:=nx) (m:=m));clear hF hbn;go_wp2_with fail;clear n0 ln q0 q2 q3 lo lx lg
   go_loopw [41] (fun i wr=>∃(j:Nat) (L:List Int),j≤nx.length∧i= .int .i64 j∧FarB w 51 27 2 ac.length g ob [.int .i64 t,.int .i64 a,.slice s ac.length c,.slice u nx.length d] wr L∧MidL ac nx m j L∧Blk wr bn 2 [.int .i64 ((m:Int)+1)]) (fun i _=>nx.length - (intOf i).toNat)
   case atStart=>exact ⟨0,_,by omega,rfl,HF.out,HM0.out,HBn.out⟩
   case round=>
    clear HF HM0 HBn;obtain ⟨j,L,hj,rfl,hF,hM,hbn⟩:=hrel;obtain ⟨wj,rfl⟩:∃v,v=wr:=⟨_,rfl⟩;have HF:=hid hF;have HBn:=hid hbn;have hj0:=Int.natCast_nonneg j;have hLl:=hF.ln
    by_cases hjl:j<nx.length
    rotate_left
    ·obtain rfl:j=nx.length:=by omega
     have HL2:Hid (L=farL ac nx (m+1)):=MidL.all (by rw [←show nx.length=ac.length by omega]; exact hM);have n0:=hbn.c0;have ln:=hbn.lt;have q0:=HF.out.ho.c0;have q2:=HF.out.hx.c2;have q3:=HF.out.hx.c3;have lo:=HF.out.ho.lt;have lx:=HF.out.hx.lt;have lg:=HF.out.hg.lt;have nab:=HF.out.o1;have ngb:=HF.out.o2
     have Hfin:Hid (FarB w 51 27 2 ac.length g ob [.int .i64 t,.int .i64 a,.slice s ac.length c,.slice u nx.length d] (wj.alloc (.cells #[.int .i64 ((m:Int)+1+1)] 2)) (farL ac nx (m+1))∧
       Blk (wj.alloc (.cells #[.int .i64 ((m:Int)+1+1)] 2)) wj.heap.size 2 [.int .i64 (((m+1:Nat):Int)+1)]∧ob<wj.heap.size):=by
      refine ⟨?_,Blk.new1 wj 2 (.int .i64 ((m:Int)+1+1)),lo⟩;rw [←HL2.out];exact HF.out.alloc _
     have Hm3:=hid (ptrInt_eq Hfin.out.2.1);clear hF hM hbn;go_wp2_with fail;clear n0 ln q0 q2 q3 lo lx lg
     go_roundw
     case rel=>exact ⟨m+1,_,rfl,by omega,Hfin.out⟩
     case measure=>rw [Hms.out,Hm3.out]; omega
    obtain ⟨nr,hnr⟩:∃e,nx[j]? =some e:=⟨_,List.getElem?_eq_getElem hjl⟩;obtain ⟨ub,uo,rfl⟩:=nest_some (f:=iiD) Hq.out (by omega);obtain ⟨hul,sn,cn,b0,rb⟩:=nest_sl (g:=intsD) Hq.out hnr;replace b0:=(hF.bl.cell (p:=⟨ub,uo+j,none⟩) hul).trans b0;obtain ⟨rb1,rb2⟩:=nest_bd rb;unfold maxLen at rb2;have Hrb:=hid rb
    have hjb:(j:Int)<(nx.length:Int):=by omega
    have hjc:j<ac.length:=by omega
    have HM:=hid hM;have Hall:=hid (midV_all (ac:=ac) (m:=m) hnr);have Htg:=hid (fun (l:Nat) (row:List Int) (h:nr[l]? =some row) (z:Int) (hz:z∈row)=>Hok.out.targets j row z (by rw [List.getD_eq_getElem?_getD,hnr]; exact List.mem_of_getElem? h) hz)
    have Hst:Hid (FarB w 51 27 2 ac.length g ob [.int .i64 t,.int .i64 a,.slice s ac.length c,.slice (some ⟨ub,uo,none⟩) nx.length d] wj (L.set j (midV ac nx m j nr 0))∧Blk wj bn 2 [.int .i64 ((m:Int)+1)]):=by
     refine ⟨?_,hbn⟩;rw [midV_zero,set_zero_same (hM.at hjc)];exact hF
    have q0:=HF.out.ho.c0;have q2:=HF.out.hx.c2;have q3:=HF.out.hx.c3;have lo:=HF.out.ho.lt;have lx:=HF.out.hx.lt;have lg:=HF.out.hg.lt;have nab:=HF.out.o1;have ngb:=HF.out.o2;clear hF hM hbn hnr rb;go_wp2_with fail;clear q0 q2 q3 lo lx lg b0
    go_loopw [48] (fun i wr=>∃l:Nat,l≤nr.length∧i= .int .i64 l∧FarB w 51 27 2 ac.length g ob [.int .i64 t,.int .i64 a,.slice s ac.length c,.slice (some ⟨ub,uo,none⟩) nx.length d] wr (L.set j (midV ac nx m j nr l))∧Blk wr bn 2 [.int .i64 ((m:Int)+1)]) (fun i _=>nr.length - (intOf i).toNat)
    case atStart=>exact ⟨0,by omega,rfl,Hst.out⟩
    case round=>
     clear Hst HF HBn;obtain ⟨l,hl,rfl,hF,hbn⟩:=hrel;obtain ⟨wl,rfl⟩:∃v,v=wr:=⟨_,rfl⟩;have HF:=hid hF;have HBn:=hid hbn;have hl0:=Int.natCast_nonneg l
     by_cases hll:l<nr.length
     rotate_left
     ·obtain rfl:l=nr.length:=by omega
      have Hst2:=hid (HM.out.step hjc)
      have Hfin:Hid (FarB w 51 27 2 ac.length g ob [.int .i64 t,.int .i64 a,.slice s ac.length c,.slice (some ⟨ub,uo,none⟩) nx.length d] wl (L.set j (farV ac nx (m+1) j))):=by show FarB ..; rw [←Hall.out]; exact hF
      clear hF hbn;go_wp2_with fail
      go_roundw
      case rel=>exact ⟨j+1,_,by omega,by go_num,Hfin.out,Hst2.out,HBn.out⟩
      case measure=>simp [intOf]; omega
     obtain ⟨row,hrow⟩:∃e,nr[l]? =some e:=⟨_,List.getElem?_eq_getElem hll⟩;obtain ⟨vb,vo,rfl⟩:=nest_some (f:=intsD) Hrb.out (by omega);obtain ⟨hvl,sr,cr,r0,rr⟩:=nest_sl (g:=D.int) Hrb.out hrow;replace r0:=(hF.bl.cell (p:=⟨vb,vo+l,none⟩) hvl).trans r0;replace rr:=rr.below hF.bl
     have hlb:(l:Int)<(nr.length:Int):=by omega
     have hzr:=Htg.out l row hrow;have hskip:=fun h=>midV_skip (ac:=ac) (nx:=nx) (m:=m) (j:=j) (nr:=nr) (l:=l) h;have hstep:=fun h=>midV_step (ac:=ac) (nx:=nx) (m:=m) (j:=j) (nr:=nr) (l:=l) h hrow;have hhit:=fun h=>HM.out.hit hjc (nr:=nr) (l:=l) h hzr;have hvb:=midV_bd (ac:=ac) (nx:=nx) (m:=m) (j:=j) (nr:=nr) hm100 l;obtain ⟨v,hv⟩:∃v,midV ac nx m j nr l=v:=⟨_,rfl⟩;rw [hv] at hskip hstep hhit hvb HF hF;have x0:=arr_cell hF.hg (set_at (x:=v) (i:=j) (by omega));have f0:=hF.hg.frozen j;have n0:=hbn.c0;have ln:=hbn.lt
     have hLl2:(L.set j v).length=ac.length:=by simpa using hLl
     have Hho:Hid (Blk wl ob 27 [.slice (some ⟨g,0,none⟩) (L.set j v).length (L.set j v).length]):=by show Blk ..; rw [hLl2]; exact hF.ho
     have Hhg:=hid hF.hg
     have Hzr:Hid (∀z∈row,z<((L.set j v).length:Int)):=by show ∀z∈row,_; intro z hz; rw [hLl2]; exact hzr z hz
     have Hrr:=hid rr;have Hhit:=hid hhit;have Hstep:=hid hstep;have Hskip:=hid hskip;have q0:=HF.out.ho.c0;have q2:=HF.out.hx.c2;have q3:=HF.out.hx.c3;have lo:=HF.out.ho.lt;have lx:=HF.out.hx.lt;have lg:=HF.out.hg.lt;have nab:=HF.out.o1;have ngb:=HF.out.o2;clear hF hbn hv hrow rr hzr hhit hstep hskip
     by_cases hneg:v<0
     rotate_left
     ·have hnl:decide (v<0)=false:=by simpa using hneg
      have HF2:Hid (FarB w 51 27 2 ac.length g ob [.int .i64 t,.int .i64 a,.slice s ac.length c,.slice (some ⟨ub,uo,none⟩) nx.length d] wl (L.set j (midV ac nx m j nr (l+1)))):=by show FarB ..; rw [Hskip.out hneg]; exact HF.out
      go_wp2_with fail
      go_roundw
      case rel=>exact ⟨l+1,by omega,by go_num,HF2.out,HBn.out⟩
      case measure=>simp [intOf]; omega
     have hnl:decide (v<0)=true:=by simpa using hneg
     have Hst2:=hid (Hstep.out hneg);have Hh2:=hid (Hhit.out hneg);clear Hstep Hhit Hskip;go_wp2_with fail;refine (containsAlive_i (n:=(m:Int)+1) Hho.out HBn.out Hhg.out Hzr.out (by omega) (by omega) (by omega) Hrr.out).mono ?_;rintro e w5 ⟨rfl,hb5⟩;rw [show (m:Int)+1 - 1=(m:Int) by omega,Hh2.out];have HF5:=hid (HF.out.below hb5);have HBn5:=hid (HBn.out.below hb5);have n5:=HBn5.out.c0;have ln5:=HBn5.out.lt;have f5:=HF5.out.hg.frozen j;have x5:=arr_cell HF5.out.hg (set_at (x:=v) (i:=j) (by omega));clear q0 q2 q3 lo lx lg n0 ln f0 x0 r0 hb5;have q0:=HF5.out.ho.c0;have q2:=HF5.out.hx.c2;have q3:=HF5.out.hx.c3;have lo:=HF5.out.ho.lt;have lx:=HF5.out.hx.lt;have lg:=HF5.out.hg.lt;have nab:=HF5.out.o1;have ngb:=HF5.out.o2
     cases hH:hitR (fun z=>farV ac nx m z==(m:Int)) row
     ·rw [hH] at Hst2
      have HF2:Hid (FarB w 51 27 2 ac.length g ob [.int .i64 t,.int .i64 a,.slice s ac.length c,.slice (some ⟨ub,uo,none⟩) nx.length d] w5 (L.set j (midV ac nx m j nr (l+1)))):=by show FarB ..; rw [Hst2.out]; exact HF5.out
      clear hH Hst2;go_wp2_with fail
      go_roundw
      case rel=>exact ⟨l+1,by omega,by go_num,HF2.out,HBn5.out⟩
      case measure=>simp [intOf]; omega
     rw [hH] at Hst2
     have HF2:Hid (FarB w 51 27 2 ac.length g ob [.int .i64 t,.int .i64 a,.slice s ac.length c,.slice (some ⟨ub,uo,none⟩) nx.length d] (w5.setCell ⟨g,j,none⟩ (.int .i64 ((m:Int)+1))) (L.set j (midV ac nx m j nr (l+1)))∧Blk (w5.setCell ⟨g,j,none⟩ (.int .i64 ((m:Int)+1))) bn 2 [.int .i64 ((m:Int)+1)]):=by
      refine ⟨?_,HBn5.out.other (p:=⟨g,j,none⟩) (by simp; omega) _⟩;have h:=HF5.out.set j ((m:Int)+1);rw [set_twice] at h;rw [Hst2.out];exact h
     clear hH Hst2;go_wp2_with fail
     go_roundw
     case rel=>exact ⟨l+1,by omega,by go_num,HF2.out⟩
     case measure=>simp [intOf]; omega
end Go.Proofs.Ytbflhjjnemdecaa
