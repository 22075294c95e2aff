/-
  Parts of a proof, joined: LiveS, Reach, FstP. No condition.
-/
import Derived.Test.YtbflhjjnemdecaaPk6
set_option linter.unusedVariables false
set_option linter.unusedSimpArgs false
namespace Go.Proofs.Ytbflhjjnemdecaa
open Go.ChangeShapes Go.WideShapes Go.ChangeAt Go.RowKit Go.Sort
def lookB (ac:List (List Bool)) (nx:List (List (List Int))) (L:List Bool) (s:Nat):Bool:=(ac.getD s []).any id||(nx.getD s []).any (hitR fun z=>L.getD z false)
def lookTo (ar:List Bool) (nr:List (List Int)) (L:List Bool) (j:Nat):Bool:=(ar.take j).any id||(nr.take j).any (hitR fun z=>L.getD z false)
def SoundL (ac:List (List Bool)) (nx:List (List (List Int))) (L:List Bool):Prop:=∀s:Nat,L[s]? =some true→Live ac nx s
def ClosedTo (ac:List (List Bool)) (nx:List (List (List Int))) (L:List Bool) (n:Nat):Prop:=∀s:Nat,s<n→lookB ac nx L s=true→L[s]? =some true
section
variable {ac:List (List Bool)} {nx:List (List (List Int))} {L:List Bool}
theorem look_sound (h:SoundL ac nx L) {s:Nat} (hl:lookB ac nx L s=true):Live ac nx s:=by
 unfold lookB at hl;rw [Bool.or_eq_true] at hl
 rcases hl with hl|hl
 ·exact ⟨0,hl⟩
 rw [List.any_eq_true] at hl;obtain ⟨row,hr,hh⟩:=hl;rw [hitR_true] at hh;obtain ⟨z,hz,h0,h1⟩:=hh
 have h2:L[z.toNat]? =some true:=by
  rw [List.getD_eq_getElem?_getD] at h1
  cases he:L[z.toNat]? with
  |none=>rw [he] at h1; simp at h1
  |some x=>rw [he] at h1; simp at h1; rw [h1]
 obtain ⟨n,hn⟩:=h z.toNat h2;exact ⟨n+1,accW_succ.2 ⟨row,hr,z,hz,h0,hn⟩⟩
theorem closed_live (h:ClosedTo ac nx L ac.length) (ht:∀s row z,row∈nx.getD s []→z∈row→z<ac.length):∀n s,s<ac.length→accW ac nx n s=true→L[s]? =some true
 |0,s,hs,ha=>h s hs (by unfold lookB; rw [Bool.or_eq_true]; exact Or.inl ha)
 |n+1,s,hs,ha=>by
  refine h s hs ?_;obtain ⟨row,hr,z,hz,h0,h1⟩:=accW_succ.1 ha;have hlt:=ht s row z hr hz;have:=closed_live h ht n z.toNat (by omega) h1;unfold lookB;rw [Bool.or_eq_true]
  right
  rw [List.any_eq_true];refine ⟨row,hr, ?_⟩;rw [hitR_true];exact ⟨z,hz,h0,by rw [List.getD_eq_getElem?_getD,this]; rfl⟩
theorem live_eq (hs:SoundL ac nx L) (hc:ClosedTo ac nx L ac.length) (hl:L.length=ac.length) (ht:∀s row z,row∈nx.getD s []→z∈row→z<ac.length):L=liveL ac nx:=by
 apply List.ext_getElem?
 intro s
 by_cases h:s<ac.length
 ·rw [liveL_at h];obtain ⟨x,hx⟩:∃x,L[s]? =some x:=⟨_,List.getElem?_eq_getElem (by omega)⟩;rw [hx]
  congr 1
  rw [Bool.eq_iff_iff,liveB_true]
  constructor
  ·rintro rfl;exact hs s hx
  rintro ⟨n,hn⟩;rw [closed_live hc ht n s h hn] at hx;exact (Option.some.inj hx).symm
 rw [List.getElem?_eq_none (by omega),List.getElem?_eq_none (by rw [liveL_len]; omega)]
theorem SoundL.set (h:SoundL ac nx L) {s:Nat} (hs:Live ac nx s):SoundL ac nx (L.set s true):=by
 intro k hk
 by_cases he:s=k
 ·rw [←he]; exact hs
 rw [List.getElem?_set_ne he] at hk;exact h k hk
theorem SoundL.start {n:Nat}:SoundL ac nx (List.replicate n false):=by
 intro s hs;have:=List.mem_of_getElem? hs;simp at this
theorem lookTo_zero {ar:List Bool} {nr:List (List Int)}:lookTo ar nr L 0=false:=by simp [lookTo]
theorem lookTo_all {ar:List Bool} {nr:List (List Int)} {s:Nat} (ha:ac[s]? =some ar) (hn:nx[s]? =some nr) (hl:nr.length=ar.length):lookTo ar nr L ar.length=lookB ac nx L s:=by
 unfold lookTo lookB;rw [List.take_length,←hl,List.take_length,List.getD_eq_getElem?_getD,List.getD_eq_getElem?_getD,ha,hn]
 rfl
theorem lookTo_succ {ar:List Bool} {nr:List (List Int)} {j:Nat} {b:Bool} {row:List Int} (ha:ar[j]? =some b) (hn:nr[j]? =some row):lookTo ar nr L (j+1)=(lookTo ar nr L j||b||hitR (fun z=>L.getD z false) row):=by
 obtain ⟨h1,rfl⟩:=List.getElem?_eq_some_iff.1 ha;obtain ⟨h2,rfl⟩:=List.getElem?_eq_some_iff.1 hn;unfold lookTo;rw [List.take_succ_eq_append_getElem h1,List.take_succ_eq_append_getElem h2,List.any_append,List.any_append];simp only [List.any_cons,List.any_nil,Bool.or_false,id]
 cases (ar.take j).any id<;>cases (nr.take j).any (hitR fun z=>L.getD z false)<;>cases ar[j]<;>simp
theorem or_step {y B h x:Bool} (e:y=(B||h)):(y||x)=(B||(h||x)):=by rw [e,Bool.or_assoc]
theorem ClosedTo.succ {n:Nat} (h:ClosedTo ac nx L n) (hs:lookB ac nx L n=true→L[n]? =some true):ClosedTo ac nx L (n+1):=fun s hsn hl=>by
 by_cases he:s=n
 ·rw [he] at hl ⊢; exact hs hl
 exact h s (by omega) hl
theorem hitR_zero {P:Nat→Bool} {row:List Int}:hitR P (row.take 0)=false:=by simp [hitR]
theorem hitR_succ {P:Nat→Bool} {row:List Int} {k:Nat} {z:Int} (hz:row[k]? =some z):hitR P (row.take (k+1))=(hitR P (row.take k)||(decide (0≤z)&&P z.toNat)):=by
 obtain ⟨hk,rfl⟩:=List.getElem?_eq_some_iff.1 hz;unfold hitR;rw [List.take_succ_eq_append_getElem hk,List.any_append]
 simp
end
def falses (L:List Bool):Nat:=L.countP fun b=> !b
theorem falses_set {L:List Bool} {s:Nat} (h:L[s]? =some false):falses (L.set s true)<falses L:=by
 unfold falses
 induction L generalizing s with
 |nil=>simp at h
 |cons x r ih=>
  cases s with
  |zero=>
   simp at h;subst h
   simp
  |succ s=>
   have h':r[s]? =some false:=by simpa using h
   have:=ih h';simp only [List.set_cons_succ,List.countP_cons];omega
def falsesW (w:World) (g:Nat):Nat:=
 match w.heap[g]? with
 |some (.cells cur _ _)=>cur.toList.countP fun v=>match v with| .bool b=> !b|_=>false
 |_=>0
theorem falsesW_eq {w:World} {g t:Nat} {L:List Bool} (h:Blk w g t (L.map Value.bool)):falsesW w g=falses L:=by
 unfold falsesW falses;have h':w.heap[g]? =some (.cells (L.map Value.bool).toArray t (0,0)):=h;rw [h'];simp only;rw [List.countP_map]
 rfl
def b2n (v:Value):Nat:=match v with| .bool true=>1|_=>0
set_option maxRecDepth 100000 in
set_option maxHeartbeats 16000000 in
theorem l02Live_i {t a:Int} {ac:List (List Bool)} {nx:List (List (List Int))} {s u:Option Addr} {c d b o:Nat} {w0:World} (h:AutAt w0 b o t a ac nx s u c d) (hok:AutOk t a ac nx):
  Calls Try.prog 127 #[.pointer (some ⟨b,o,none⟩)] w0 fun e w'=>∃g,e= .returned (.slice (some ⟨g,0,none⟩) ac.length ac.length)∧Fresh w0 w' (boolsD (liveL ac nx)) (.slice (some ⟨g,0,none⟩) ac.length ac.length)∧Below w0.heap.size w0 w':=by
 have g4:=h.2.2.2.2.1;have g5:=h.2.2.2.2.2;obtain ⟨hlen,hcap⟩:=nest_bd g4;obtain ⟨hlen',hcap'⟩:=nest_bd g5;unfold maxLen at hcap hcap';have hn1:=hok.lo;have hn2:=hok.hi;have hnl:=hid hok.len;have Hok:=hid hok;have Hh:=hid h;have HG4:=hid g4;have HG5:=hid g5;obtain ⟨i0,hi,hz0,hz1,hz2⟩:=info_parts info_bl;obtain ⟨c0,c1',c2',c3', -, -⟩:=h;clear hok g4 g5
 go_enter Try.func127,Try.ntmps127
 go_wp2_with (at_make; refine wpList_make_full _ rfl _ _ 114 rfl w0.heap.size 4 i0 (.bool false) 1 Try.underlying114 hi hz0 hz1 .i64 .i64 _ _ ac.length rfl rfl rfl rfl (by rw [hz2]; omega) (by unfold maxLen; omega) (by simp) ?_; intro w1 hown hgrow)
 have hB0:Below w0.heap.size w0 w1:=Below.grown (Below.refl _ _) hgrow (by simp) (by simp);obtain ⟨hb0, -⟩:=made_blk (z:= .bool false) rfl hown
 have hb1:Blk w1 w0.heap.size 4 ((List.replicate ac.length false).map Value.bool):=by simpa using hb0
 have Hst:=hid (And.intro hb1 hB0);clear hown hgrow hb0 hb1 hB0 c0 c1' c2' c3'
 go_loopw [4] (fun v wr=>∃(gr:Bool) (L:List Bool),v= .bool gr∧L.length=ac.length∧Blk wr w0.heap.size 4 (L.map Value.bool)∧Below w0.heap.size w0 wr∧SoundL ac nx L∧(gr=false→ClosedTo ac nx L ac.length)) (fun v wr=>2*falsesW wr w0.heap.size+b2n v)
 case atStart=>exact ⟨true,_,rfl,by simp,Hst.out.1,Hst.out.2,SoundL.start,fun h=>by cases h⟩
 case round=>
  clear Hst;obtain ⟨gr,L,rfl,hLl,hb,hB,hsd,hcl⟩:=hrel;obtain ⟨wo,rfl⟩:∃v,v=wr:=⟨_,rfl⟩;have Hms:=hid (falsesW_eq hb);have Hsd:=hid hsd;have Hcl:=hid hcl;have Hb:=hid hb;have HB:=hid hB;clear hb hB hsd hcl
  cases gr
  ·have HL:Hid (L=liveL ac nx):=live_eq Hsd.out (Hcl.out rfl) hLl Hok.out.targets;have Hfr:=hid (arr_fresh (fd:=D.bool) (W:=w0) Hb.out (Nat.le_refl _) (fun x=>Ow.bool x) hLl (by unfold maxLen; omega));go_wp2_with fail;go_ret;exact ⟨_,rfl,by have h:=Hfr.out; rw [HL.out] at h; exact h,HB.out⟩
  clear Hcl;go_wp2_with fail
  go_loopw [4,5] (fun v i wr=>∃(gr:Bool) (x:Nat) (M:List Bool),v= .bool gr∧i= .int .i64 x∧x≤ac.length∧M.length=ac.length∧Blk wr w0.heap.size 4 (M.map Value.bool)∧Below w0.heap.size w0 wr∧SoundL ac nx M∧(gr=false→M=L∧ClosedTo ac nx L x)∧(gr=true→falses M<falses L)) (fun _ i _=>ac.length - (intOf i).toNat)
  case atStart=>exact ⟨false,0,L,rfl,rfl,by omega,hLl,Hb.out,HB.out,Hsd.out,fun _=>⟨rfl,fun s hs=>by omega⟩,fun h=>by cases h⟩
  case round=>
   clear Hb HB Hsd;obtain ⟨gr,x,M,rfl,rfl,hx,hMl,hb,hB,hsd,hno,hyes⟩:=hrel;obtain ⟨wx,rfl⟩:∃v,v=wr:=⟨_,rfl⟩;have hx0:=Int.natCast_nonneg x;have Hsd:=hid hsd;have Hno:=hid hno;have Hyes:=hid hyes;have Hb:=hid hb;have HB:=hid hB;have lg:=hb.lt;clear hb hB hsd hno hyes
   by_cases hlt:x<ac.length
   rotate_left
   ·obtain rfl:x=ac.length:=by omega
    have Hm2:=hid (falsesW_eq Hb.out);go_wp2_with fail
    go_roundw
    case rel=>exact ⟨gr,M,rfl,hMl,Hb.out,HB.out,Hsd.out,fun h=>by obtain ⟨e1,e2⟩:=Hno.out h; rw [e1]; exact e2⟩
    case measure=>
     rw [Hms.out,Hm2.out]
     cases gr
     ·obtain ⟨e1, -⟩:=Hno.out rfl;rw [e1]
      simp [b2n]
     have:=Hyes.out rfl
     simp [b2n]
     omega
   obtain ⟨ar,har⟩:∃e,ac[x]? =some e:=⟨_,List.getElem?_eq_getElem hlt⟩;obtain ⟨nr,hnr⟩:∃e,nx[x]? =some e:=⟨_,List.getElem?_eq_getElem (by have:=hnl.out; omega)⟩;obtain ⟨sb,so,rfl⟩:=nest_some (f:=boolsD) HG4.out (by omega);obtain ⟨ub,uo,rfl⟩:=nest_some (f:=iiD) HG5.out (by have:=hnl.out; omega);obtain ⟨hsl,sa,ca,a0,ra⟩:=nest_sl (g:=D.bool) (HG4.out.below HB.out) har;obtain ⟨hul,sn,cn,b0,rb⟩:=nest_sl (g:=intsD) (HG5.out.below HB.out) hnr;obtain ⟨ra1,ra2⟩:=nest_bd ra;obtain ⟨rb1,rb2⟩:=nest_bd rb;unfold maxLen at ra2 rb2
   have hal:nr.length=ar.length:=by
    have h1:=Hok.out.acc_row har;have h2:=(Hok.out.row hnr).1;omega
   have Hall:=hid (lookTo_all (L:=M) har hnr hal);have Htg:=hid (fun (l:Nat) (row:List Int) (h:nr[l]? =some row) (z:Int) (hz:z∈row)=>Hok.out.targets x row z (by rw [List.getD_eq_getElem?_getD,hnr]; exact List.mem_of_getElem? h) hz)
   have hal1:ar.length≤nr.length:=by omega
   have hxb:(x:Int)<(ac.length:Int):=by omega
   have hxc:(x:Int)<(nx.length:Int):=by have:=hnl.out; omega
   have HL0:Hid (false=lookTo ar nr M 0):=lookTo_zero.symm;obtain ⟨c0,c1',c2',c3', -, -⟩:=Hh.out.below HB.out;clear har hnr hal;go_wp2_with fail
   go_loop [6,7] (fun y i=>∃(j:Nat) (yb:Bool),j≤ar.length∧i= .int .i64 j∧y= .bool yb∧Hid (yb=lookTo ar nr M j)) (fun _ i=>ar.length - (intOf i).toNat)
   case atStart=>exact ⟨0,false,by omega,rfl,rfl,HL0⟩
   case round=>
    clear HL0;obtain ⟨j,yb,hj,rfl,rfl,HY⟩:=hrel;have hj0:=Int.natCast_nonneg j
    by_cases hjl:j<ar.length
    rotate_left
    ·obtain rfl:j=ar.length:=by omega
     have HY2:Hid (yb=lookB ac nx M x):=by show _=_; rw [HY.out,Hall.out]
     obtain ⟨mb,hmb⟩:∃e,M[x]? =some e:=⟨_,List.getElem?_eq_getElem (by omega)⟩;have x0:=arr_cell Hb.out hmb;have f0:=Hb.out.frozen x;have HMb:=hid hmb;clear hmb HY Hall
     cases yb
     ·have Hnx:Hid ((gr=false→M=L∧ClosedTo ac nx L (x+1))):=fun h=>by
       obtain ⟨e1,e2⟩:=Hno.out h;refine ⟨e1,e2.succ fun hl=> ?_⟩;have h2:=HY2.out;rw [e1,hl] at h2
       cases h2
      clear HY2 Hno;go_wp2_with fail
      go_roundw
      case rel=>exact ⟨gr,x+1,M,rfl,by go_num,by omega,hMl,Hb.out,HB.out,Hsd.out,Hnx.out,Hyes.out⟩
      case measure=>simp [intOf]; omega
     cases mb
     ·have Hnx:Hid (falses (M.set x true)<falses L):=by
       show _<_
       have h1:=falses_set HMb.out
       cases hg:gr with
       |false=>have:=(Hno.out hg).1; rw [this] at h1 ⊢; exact h1
       |true=>have:=Hyes.out hg; omega
      have Hs2:=hid (Hsd.out.set (look_sound Hsd.out HY2.out.symm));have Hb2:Hid (Blk (wx.setCell ⟨w0.heap.size,x,none⟩ (.bool true)) w0.heap.size 4 ((M.set x true).map Value.bool)):=arr_set Hb.out x true;have HB2:=hid (Below.setCell (p:=⟨w0.heap.size,x,none⟩) HB.out (Nat.le_refl _) (.bool true))
      have hl2:(M.set x true).length=ac.length:=by simpa using hMl
      clear HY2 Hno Hyes;go_wp2_with fail
      go_roundw
      case rel=>exact ⟨true,x+1,_,rfl,by go_num,by omega,hl2,Hb2.out,HB2.out,Hs2.out,fun h=>(by cases h),fun _=>Hnx.out⟩
      case measure=>simp [intOf]; omega
     have Hnx:Hid ((gr=false→M=L∧ClosedTo ac nx L (x+1))):=fun h=>by
      obtain ⟨e1,e2⟩:=Hno.out h;refine ⟨e1,e2.succ fun hl=> ?_⟩;rw [←e1];exact HMb.out
     clear HY2 Hno;go_wp2_with fail
     go_roundw
     case rel=>exact ⟨gr,x+1,M,rfl,by go_num,by omega,hMl,Hb.out,HB.out,Hsd.out,Hnx.out,Hyes.out⟩
     case measure=>simp [intOf]; omega
    obtain ⟨z,hz⟩:∃e,ar[j]? =some e:=⟨_,List.getElem?_eq_getElem hjl⟩;obtain ⟨row,hrow⟩:∃e,nr[j]? =some e:=⟨_,List.getElem?_eq_getElem (by omega)⟩;obtain ⟨rb',ro,rfl⟩:=nest_some (f:=D.bool) ra (by omega);obtain ⟨vb,vo,rfl⟩:=nest_some (f:=intsD) rb (by omega);obtain ⟨-, z0⟩:=bool_in ra hz;obtain ⟨-, sr,cr,r0,rr⟩:=nest_sl (g:=D.int) rb hrow;obtain ⟨rr1,rr2⟩:=nest_bd rr;unfold maxLen at rr2
    have hjb:(j:Int)<(ar.length:Int):=by omega
    have hjc:(j:Int)<(nr.length:Int):=by omega
    have Hsu:=hid (lookTo_succ (L:=M) hz hrow);have hzr:=hid (Htg.out j row hrow);obtain ⟨y2,hy2⟩:∃y2,y2=(yb||z):=⟨_,rfl⟩
    have HE:Hid (y2=(lookTo ar nr M j||z||hitR (fun z=>M.getD z false) (row.take 0))):=by show _=_; rw [hitR_zero,hy2,HY.out]; simp
    have hsp:(yb=true∧y2=true)∨(yb=false∧z=y2):=by
     cases yb
     ·exact Or.inr ⟨rfl,by rw [hy2]; simp⟩
     exact Or.inl ⟨rfl,by rw [hy2]; simp⟩
    have Hsp:=hid hsp;clear hz hrow hy2 HY hsp
    rcases Hsp.out with ⟨rfl,rfl⟩|⟨rfl,rfl⟩
    all_goals
     clear Hsp;go_wp2_with fail
     go_loop [6,8] (fun y i=>∃(k:Nat) (y3:Bool),k≤row.length∧i= .int .i64 k∧y= .bool y3∧Hid (y3=(lookTo ar nr M j||z||hitR (fun z=>M.getD z false) (row.take k)))) (fun _ i=>row.length - (intOf i).toNat)
     case atStart=>exact ⟨0,_,by omega,rfl,rfl,HE⟩
     case round=>
      clear HE;obtain ⟨k,y3,hk,rfl,rfl,HE⟩:=hrel;have hk0:=Int.natCast_nonneg k
      by_cases hkl:k<row.length
      rotate_left
      ·obtain rfl:k=row.length:=by omega
       have HY3:Hid (y3=lookTo ar nr M (j+1)):=by show _=_; rw [Hsu.out,HE.out,List.take_length]
       clear HE Hsu;go_wp2_with fail
       go_round
       case rel=>exact ⟨j+1,y3,by omega,by go_num,rfl,HY3⟩
       case measure=>simp [intOf]; omega
      obtain ⟨q,hq⟩:∃e,row[k]? =some e:=⟨_,List.getElem?_eq_getElem hkl⟩;obtain ⟨tb,to',rfl⟩:=nest_some (f:=D.int) rr (by omega);obtain ⟨-, q0⟩:=int_in rr hq
      have hkb:(k:Int)<(row.length:Int):=by omega
      have hql:=hzr.out q (List.mem_of_getElem? hq);have Hs2:=hid (hitR_succ (P:=fun z=>M.getD z false) hq);have Hor:=hid (fun x=>or_step (x:=x) HE.out);clear hq HE
      cases y3
      ·by_cases hneg:q<0
       ·have hge:decide ((0:Int)≤q)=false:=by simp; omega
        have HE2:Hid (false=(lookTo ar nr M j||z||hitR (fun z=>M.getD z false) (row.take (k+1)))):=by
         show _=_
         have h:=Hor.out (decide (0≤q)&&M.getD q.toNat false);rw [Hs2.out,←h,hge]
         rfl
        clear Hor Hs2;go_wp2_with fail
        go_round
        case rel=>exact ⟨k+1,false,by omega,by go_num,rfl,HE2⟩
        case measure=>simp [intOf]; omega
       have hge:decide ((0:Int)≤q)=true:=by simp; omega
       obtain ⟨qn,rfl⟩:∃qn:Nat,q=(qn:Int):=⟨q.toNat,by omega⟩;obtain ⟨v,hv⟩:∃e,M[qn]? =some e:=⟨_,List.getElem?_eq_getElem (by omega)⟩;have x0:=arr_cell Hb.out hv
       have HE2:Hid (v=(lookTo ar nr M j||z||hitR (fun z=>M.getD z false) (row.take (k+1)))):=by
        show _=_
        have h:=Hor.out (decide ((0:Int)≤(qn:Int))&&M.getD (qn:Int).toNat false);rw [Hs2.out,←h,hge,Int.toNat_natCast,List.getD_eq_getElem?_getD,hv]
        simp
       have hqn:=Int.natCast_nonneg qn;clear Hor Hs2 hv;go_wp2_with fail
       go_round
       case rel=>exact ⟨k+1,v,by omega,by go_num,rfl,HE2⟩
       case measure=>simp [intOf]; omega
      have HE2:Hid (true=(lookTo ar nr M j||z||hitR (fun z=>M.getD z false) (row.take (k+1)))):=by
       show _=_
       have h:=Hor.out (decide (0≤q)&&M.getD q.toNat false);rw [Hs2.out,←h]
       simp
      clear Hor Hs2;go_wp2_with fail
      go_round
      case rel=>exact ⟨k+1,true,by omega,by go_num,rfl,HE2⟩
      case measure=>simp [intOf]; omega
def rchL (ac:List (List Bool)) (nx:List (List (List Int))) (k:Nat):List (List Bool):=(List.range k).map (reachL ac nx)
theorem rchL_length (ac:List (List Bool)) (nx:List (List (List Int))) (k:Nat):(rchL ac nx k).length=k:=by simp [rchL]
theorem rchL_at {ac:List (List Bool)} {nx:List (List (List Int))} {k i:Nat} (h:i<k):(rchL ac nx k)[i]? =some (reachL ac nx i):=by simp [rchL,h]
theorem rchL_succ (ac:List (List Bool)) (nx:List (List (List Int))) (k:Nat):rchL ac nx (k+1)=rchL ac nx k++[reachL ac nx k]:=by simp [rchL,List.range_succ]
theorem App.bbd {W w:World} {t:TypeId} {xss:List (List Bool)} {n:Nat} {v:Value} (h:App W w t 1 n (xss.map boolsD) v) (hn:xss.length=n):Rd w (nestD boolsD xss) v:=by
 subst hn;exact h.rd
theorem any_succ {α:Type} {p:α→Bool} {L:List α} {j:Nat} {x:α} (h:L[j]? =some x):(L.take (j+1)).any p=((L.take j).any p||p x):=by
 obtain ⟨h1,rfl⟩:=List.getElem?_eq_some_iff.1 h;rw [List.take_succ_eq_append_getElem h1,List.any_append]
 simp
theorem accW_zero_at {ac:List (List Bool)} {nx:List (List (List Int))} {s:Nat} {ar:List Bool} (h:ac[s]? =some ar):accW ac nx 0 s=ar.any id:=by
 show (ac.getD s []).any id=_
 rw [List.getD_eq_getElem?_getD,h]
 rfl
theorem accW_succ_at {ac:List (List Bool)} {nx:List (List (List Int))} {n s:Nat} {nr:List (List Int)} (h:nx[s]? =some nr):accW ac nx (n+1) s=nr.any (hitR (accW ac nx n)):=by
 show (nx.getD s []).any _=_
 rw [List.getD_eq_getElem?_getD,h]
 rfl
set_option maxRecDepth 100000 in
set_option maxHeartbeats 16000000 in
theorem l02Reach_i {t a:Int} {ac:List (List Bool)} {nx:List (List (List Int))} {s u:Option Addr} {c d b o n:Nat} {w0:World} (h:AutAt w0 b o t a ac nx s u c d) (hok:AutOk t a ac nx) (hn:n≤1000):
  Calls Try.prog 128 #[.pointer (some ⟨b,o,none⟩),.int .i64 n] w0 fun e w'=>∃s' c',e= .returned (.slice s' (n+1) c')∧Fresh w0 w' (nestD boolsD (rchL ac nx (n+1))) (.slice s' (n+1) c')∧Below w0.heap.size w0 w':=by
 have g4:=h.2.2.2.2.1;have g5:=h.2.2.2.2.2;obtain ⟨hlen,hcap⟩:=nest_bd g4;obtain ⟨hlen',hcap'⟩:=nest_bd g5;unfold maxLen at hcap hcap';have hn1:=hok.lo;have hn2:=hok.hi;have hnl:=hid hok.len;have Hok:=hid hok;have Hh:=hid h;have HG4:=hid g4;have HG5:=hid g5;obtain ⟨i0,hi,hz0,hz1,hz2'⟩:=info_parts info_bl;have h0:=App.empty (W:=w0) (size:=1) (Blk.made w0 114 #[]) (Nat.le_refl _);clear hok h g4 g5
 go_enter Try.func128,Try.ntmps128
 go_wp2_with fail
 go_loopw [5,6] (fun v i wr=>∃k:Nat,k≤n+1∧i= .int .i64 k∧App w0 wr 114 1 k ((rchL ac nx k).map boolsD) v∧Below w0.heap.size w0 wr) (fun _ i _=>n+1 - (intOf i).toNat)
 case atStart=>exact ⟨0,by omega,rfl,by simpa [rchL] using h0,bel⟩
 case round=>
  clear h0;obtain ⟨k,hk,rfl,happ,hB⟩:=hrel;have szB:=hB.size;obtain ⟨a',cap',rfl,hcap1,hcap2⟩:=happ.shape;unfold maxLen at hcap2;have hk0':=Int.natCast_nonneg k
  by_cases hkn:k≤n
  rotate_left
  ·obtain rfl:k=n+1:=by omega
   have hf:=happ.freshN (rchL_length ac nx (n+1));go_wp2_with fail;go_ret;exact ⟨a',cap',rfl,hf,hB⟩
  obtain ⟨wo,rfl⟩:∃v,v=wr:=⟨_,rfl⟩;have hrd:=happ.bbd (rchL_length ac nx k);obtain ⟨c0,c1',c2',c3', -, -⟩:=Hh.out.below hB;have HA:=hid happ;have HB:=hid hB;have HR:=hid hrd
  have hkb:(k:Int)≤(n:Int):=by omega
  clear happ hB hrd
  go_wp2_with (at_make; refine wpList_make_full _ rfl _ _ 114 rfl wo.heap.size 4 i0 (.bool false) 1 Try.underlying114 hi hz0 hz1 .i64 .i64 _ _ ac.length rfl rfl rfl rfl (by rw [hz2']; omega) (by unfold maxLen; omega) (by simp) ?_; intro w1 hown hgrow)
  have hB1:Below wo.heap.size wo w1:=Below.grown (Below.refl _ _) hgrow (by simp) (by simp);obtain ⟨hb0, -⟩:=made_blk (z:= .bool false) rfl hown
  have hb1:Blk w1 wo.heap.size 4 ((List.replicate ac.length false).map Value.bool):=by simpa using hb0
  have hfill:=FillL.start (z:=false) (reachL_len (ac:=ac) (nx:=nx) k);have Hst:=hid (And.intro hb1 (And.intro hfill hB1));clear hown hgrow hb0 hb1 hB1 hfill c0 c1' c2' c3'
  go_loopw [8] (fun i wr=>∃(x:Nat) (M:List Bool),x≤ac.length∧i= .int .i64 x∧Blk wr wo.heap.size 4 (M.map Value.bool)∧FillL false (reachL ac nx k) x M∧Below wo.heap.size wo wr) (fun i _=>ac.length - (intOf i).toNat)
  case atStart=>exact ⟨0,_,by omega,rfl,Hst.out⟩
  case round=>
   clear Hst;obtain ⟨x,M,hx,rfl,hb,hfill,hBx⟩:=hrel;obtain ⟨wx,rfl⟩:∃v,v=wr:=⟨_,rfl⟩;have hx0:=Int.natCast_nonneg x;have szx:=hBx.size
   have hMl:M.length=ac.length:=by have:=hfill.1; rw [reachL_len] at this; exact this
   have Hb:=hid hb;have HBx:=hid hBx
   by_cases hlt:x<ac.length
   rotate_left
   ·obtain rfl:x=ac.length:=by omega
    obtain rfl:M=reachL ac nx k:=FillL.all (by rw [reachL_len]; exact hfill);have HC:=hid (rchL_succ ac nx k);have hf:Freshs wo wx [boolsD (reachL ac nx k)] [.slice (some ⟨wo.heap.size,0,none⟩) ac.length ac.length]:=Freshs.one (arr_fresh (fd:=D.bool) (W:=wo) hb (Nat.le_refl _) (fun x=>Ow.bool x) hMl (by unfold maxLen; omega));have hf2:=hf.on (Below.alloc (Below.refl _ _) (Nat.le_refl _) (.cells #[.slice (some ⟨wo.heap.size,0,none⟩) ac.length ac.length] 114));have happ:=HA.out;obtain ⟨c0,c1',c2',c3', -, -⟩:=Hh.out.below (HB.out.trans ((hBx).mono szB));clear hb hfill hf hBx
    go_wp2_with (at_builtin; go_must (refine wpList_append_app _ rfl _ _ 45 rfl 114 (.slice none 0 0) 1 24 Try.underlying45 info_bls rfl (by decide) _ rfl happ (HBx.out.alloc szx _) szB ⟨wx.heap.size,0,none⟩ 1 1 [.slice (some ⟨wo.heap.size,0,none⟩) ac.length ac.length] rfl (news_blk (Blk.made _ _ _)) hf2 rfl (by simp [Value.oneCell']) (by omega) (by omega) (by unfold maxLen; omega) ?_); intro g3 cap3 w3 happ3 hb3)
    have hB3:Below w0.heap.size w0 w3:=((HB.out.trans (HBx.out.mono szB)).alloc (by omega) _).trans hb3;have Hfin:=hid (And.intro (happ3.sized (show _=((rchL ac nx (k+1)).map boolsD) by rw [HC.out,List.map_append]; rfl) rfl) hB3);clear happ3 hb3 hB3 happ hf2;go_wp2_with fail
    go_roundw
    case rel=>exact ⟨k+1,by omega,by go_num,Hfin.out.1,Hfin.out.2⟩
    case measure=>simp [intOf]; omega
   obtain ⟨ar,har⟩:∃e,ac[x]? =some e:=⟨_,List.getElem?_eq_getElem hlt⟩;obtain ⟨nr,hnr⟩:∃e,nx[x]? =some e:=⟨_,List.getElem?_eq_getElem (by have:=hnl.out; omega)⟩;obtain ⟨sb,so,rfl⟩:=nest_some (f:=boolsD) HG4.out (by omega);obtain ⟨ub,uo,rfl⟩:=nest_some (f:=iiD) HG5.out (by have:=hnl.out; omega);obtain ⟨hsl,sa,ca,a0,ra⟩:=nest_sl (g:=D.bool) HG4.out har;obtain ⟨hul,sn,cn,b0,rb⟩:=nest_sl (g:=intsD) HG5.out hnr;obtain ⟨ra1,ra2⟩:=nest_bd ra;obtain ⟨rb1,rb2⟩:=nest_bd rb;unfold maxLen at ra2 rb2
   have hal:nr.length=ar.length:=by
    have h1:=Hok.out.acc_row har;have h2:=(Hok.out.row hnr).1;omega
   have Htg:=hid (fun (l:Nat) (row:List Int) (h:nr[l]? =some row) (z:Int) (hz:z∈row)=>Hok.out.targets x row z (by rw [List.getD_eq_getElem?_getD,hnr]; exact List.mem_of_getElem? h) hz)
   have hal1:ar.length≤nr.length:=by omega
   have hxb:(x:Int)<(ac.length:Int):=by omega
   have hxc:(x:Int)<(nx.length:Int):=by have:=hnl.out; omega
   have hxM:x<M.length:=by omega
   have hb':Blk wx wo.heap.size 4 ((M.set x false).map Value.bool):=by rw [set_zero_same (hfill.at (by rw [reachL_len]; exact hlt))]; exact hb
   have Hb':=hid hb';have Hfill:=hid (fun v h=>hfill.step (v:=v) h);have Hra:=hid ra;have Hrb:=hid rb;have Ha0:=hid a0;have Hb0:=hid b0;have Hrz:=hid (reachL_at (ac:=ac) (nx:=nx) (n:=k) hlt)
   by_cases hk0:k=0
   ·have e0:((k:Int)==0)=true:=by simp [hk0]
    have e1:decide ((0:Int)<(k:Int))=false:=by simp [hk0]
    have e2:decide (0<k)=false:=by simp [hk0]
    have Hlast:Hid ((reachL ac nx k)[x]? =some ((ar.take ar.length).any id)):=by show _=_; rw [Hrz.out,List.take_length,hk0,accW_zero_at har]
    obtain ⟨c0,c1',c2',c3', -, -⟩:=Hh.out.below (HB.out.trans ((hBx).mono szB));clear hb hfill hBx hb' hnr hal ra rb hk0 har;go_wp2_with fail
    go_loopw [9] (fun i wr=>∃(j:Nat) (y:Bool),j≤ar.length∧i= .int .i64 j∧Hid (y=(ar.take j).any id)∧Blk wr wo.heap.size 4 ((M.set x y).map Value.bool)∧Below wo.heap.size wo wr) (fun i _=>ar.length - (intOf i).toNat)
    case atStart=>exact ⟨0,false,by omega,rfl,by show _=_; simp,Hb'.out,HBx.out⟩
    case round=>
     clear c0 c1' c2' c3' a0 b0;obtain ⟨j,y,hj,rfl,HY,hbj,hBj⟩:=hrel;obtain ⟨wj,rfl⟩:∃v,v=wr:=⟨_,rfl⟩;have hj0:=Int.natCast_nonneg j;have HBj:=hid hBj;have Hbj:=hid hbj;have szj:=hBj.size;have lg:=hbj.lt;have x0:=arr_cell hbj (set_at (x:=y) (i:=x) (by omega));have f0:=hbj.frozen x;have hBw:=HB.out.trans (hBj.mono szB);have a0:=(hBw.cell (p:=⟨sb,so+x,none⟩) hsl).trans Ha0.out;have b0:=(hBw.cell (p:=⟨ub,uo+x,none⟩) hul).trans Hb0.out
     by_cases hjl:j<ar.length
     rotate_left
     ·obtain rfl:j=ar.length:=by omega
      have HF2:=hid (Hfill.out y (by rw [HY.out]; exact Hlast.out));obtain ⟨c0,c1',c2',c3', -, -⟩:=Hh.out.below (HB.out.trans ((hBj).mono szB));clear hbj hBj x0 f0 HY hBw;go_wp2_with fail
      go_roundw
      case rel=>exact ⟨x+1,_,by omega,by go_num,Hbj.out,HF2.out,HBj.out⟩
      case measure=>simp [intOf]; omega
     obtain ⟨z,hz⟩:∃e,ar[j]? =some e:=⟨_,List.getElem?_eq_getElem hjl⟩;obtain ⟨rb',ro,rfl⟩:=nest_some (f:=D.bool) Hra.out (by omega);obtain ⟨-, z0⟩:=bool_in (Hra.out.below hBw) hz
     have hjb:(j:Int)<(ar.length:Int):=by omega
     have HY2:Hid ((y||z)=(ar.take (j+1)).any id):=by show _=_; rw [any_succ hz,HY.out]; rfl
     have Hnx:=hid (fun v:Bool=>And.intro (show Blk (wj.setCell ⟨wo.heap.size,x,none⟩ (.bool v)) wo.heap.size 4 ((M.set x v).map Value.bool) by have h:=arr_set hbj x v; rw [set_twice] at h; exact h) (Below.setCell (p:=⟨wo.heap.size,x,none⟩) hBj (Nat.le_refl _) (.bool v)));obtain ⟨c0,c1',c2',c3', -, -⟩:=Hh.out.below (HB.out.trans ((hBj).mono szB));clear hbj hBj hz hBw HY
     cases y
     all_goals
      go_wp2_with fail
      go_loop [10] (fun i=>i= .int .i64 0) (fun _=>0)
      case atStart=>rfl
      case round=>
       obtain rfl:=hrel;go_wp2_with fail
       go_roundw
       case rel=>exact ⟨j+1,_,by omega,by go_num,HY2,(Hnx.out _).1,(Hnx.out _).2⟩
       case measure=>simp [intOf]; omega
   obtain ⟨m0,hm0⟩:∃m,k=m+1:=⟨k - 1,by omega⟩
   have e0:((k:Int)==0)=false:=by simp [hk0]
   have e1:decide ((0:Int)<(k:Int))=true:=by simp; omega
   have e2:decide (0<k)=true:=by simp; omega
   have hmk:m0<k:=by omega
   obtain ⟨pb,po,rfl⟩:=nest_some HR.out (by rw [rchL_length]; omega);obtain ⟨hpl,sp,cp,p0,rp⟩:=nest_sl (g:=D.bool) HR.out (rchL_at (ac:=ac) (nx:=nx) hmk);obtain ⟨sp',so',rfl⟩:=nest_some (f:=D.bool) rp (by rw [reachL_len]; omega);obtain ⟨rp1,rp2⟩:=nest_bd rp;unfold maxLen at rp2;rw [reachL_len] at rp1
   have q1:IntKind.i64.wrap ((k:Int) - 1)=(m0:Int):=by rw [show (k:Int) - 1=(m0:Int) by omega]; exact wrap_of (by omega) (by omega)
   have hm0z:=Int.natCast_nonneg m0
   have hm0k:(m0:Int)<(k:Int):=by omega
   have Hp0:=hid p0;have Hrp:=hid rp
   have Hlast:Hid ((reachL ac nx k)[x]? =some ((nr.take ar.length).any (hitR (accW ac nx m0)))):=by show _=_; rw [Hrz.out,hm0,accW_succ_at hnr,←hal,List.take_length]
   obtain ⟨c0,c1',c2',c3', -, -⟩:=Hh.out.below (HB.out.trans ((hBx).mono szB));clear hb hfill hBx hb' hnr hal ra rb hk0 har hm0 p0 rp;go_wp2_with fail
   go_loopw [9] (fun i wr=>∃(j:Nat) (y:Bool),j≤ar.length∧i= .int .i64 j∧Hid (y=(nr.take j).any (hitR (accW ac nx m0)))∧Blk wr wo.heap.size 4 ((M.set x y).map Value.bool)∧Below wo.heap.size wo wr) (fun i _=>ar.length - (intOf i).toNat)
   case atStart=>exact ⟨0,false,by omega,rfl,by show _=_; simp,Hb'.out,HBx.out⟩
   case round=>
    clear c0 c1' c2' c3' a0 b0;obtain ⟨j,y,hj,rfl,HY,hbj,hBj⟩:=hrel;obtain ⟨wj,rfl⟩:∃v,v=wr:=⟨_,rfl⟩;have hj0:=Int.natCast_nonneg j;have HBj:=hid hBj;have Hbj:=hid hbj;have szj:=hBj.size;have lg:=hbj.lt;have x0:=arr_cell hbj (set_at (x:=y) (i:=x) (by omega));have f0:=hbj.frozen x;have hBw:=HB.out.trans (hBj.mono szB);have a0:=(hBw.cell (p:=⟨sb,so+x,none⟩) hsl).trans Ha0.out;have b0:=(hBw.cell (p:=⟨ub,uo+x,none⟩) hul).trans Hb0.out
    by_cases hjl:j<ar.length
    rotate_left
    ·obtain rfl:j=ar.length:=by omega
     have HF2:=hid (Hfill.out y (by rw [HY.out]; exact Hlast.out));obtain ⟨c0,c1',c2',c3', -, -⟩:=Hh.out.below (HB.out.trans ((hBj).mono szB));clear hbj hBj x0 f0 HY hBw;go_wp2_with fail
     go_roundw
     case rel=>exact ⟨x+1,_,by omega,by go_num,Hbj.out,HF2.out,HBj.out⟩
     case measure=>simp [intOf]; omega
    obtain ⟨row,hrow⟩:∃e,nr[j]? =some e:=⟨_,List.getElem?_eq_getElem (by omega)⟩;obtain ⟨vb,vo,rfl⟩:=nest_some (f:=intsD) Hrb.out (by omega);obtain ⟨hvl,sr,cr,r0,rr⟩:=nest_sl (g:=D.int) Hrb.out hrow;obtain ⟨rr1,rr2⟩:=nest_bd rr;unfold maxLen at rr2;have Hr0:=hid r0;have Hrr:=hid rr
    have hjb:(j:Int)<(ar.length:Int):=by omega
    have hjc:(j:Int)<(nr.length:Int):=by omega
    have hzr:=hid (Htg.out j row hrow);have Hsu:=hid (any_succ (p:=hitR (accW ac nx m0)) hrow)
    have HE:Hid (y=((nr.take j).any (hitR (accW ac nx m0))||hitR (accW ac nx m0) (row.take 0))):=by show _=_; rw [hitR_zero,HY.out]; simp
    have Hnx:=hid (fun v:Bool=>And.intro (show Blk (wj.setCell ⟨wo.heap.size,x,none⟩ (.bool v)) wo.heap.size 4 ((M.set x v).map Value.bool) by have h:=arr_set hbj x v; rw [set_twice] at h; exact h) (Below.setCell (p:=⟨wo.heap.size,x,none⟩) hBj (Nat.le_refl _) (.bool v)));obtain ⟨c0,c1',c2',c3', -, -⟩:=Hh.out.below (HB.out.trans ((hBj).mono szB));clear hbj hBj hrow hBw HY r0 rr
    cases y
    all_goals
     go_wp2_with fail
     go_loopw [10] (fun i wr=>∃(l:Nat) (y3:Bool),l≤row.length∧i= .int .i64 l∧Hid (y3=((nr.take j).any (hitR (accW ac nx m0))||hitR (accW ac nx m0) (row.take l)))∧Blk wr wo.heap.size 4 ((M.set x y3).map Value.bool)∧Below wo.heap.size wo wr) (fun i _=>row.length - (intOf i).toNat)
     case atStart=>exact ⟨0,_,by omega,rfl,HE,(Hnx.out _).1,(Hnx.out _).2⟩
     case round=>
      clear c0 c1' c2' c3' a0 b0 HE Hnx x0 f0 lg;obtain ⟨l,y3,hl,rfl,HE,hbl,hBl⟩:=hrel;obtain ⟨wl,rfl⟩:∃v,v=wr:=⟨_,rfl⟩;have hl0:=Int.natCast_nonneg l;have szl:=hBl.size;have lg:=hbl.lt;have x0:=arr_cell hbl (set_at (x:=y3) (i:=x) (by omega));have f0:=hbl.frozen x;have hBw:=HB.out.trans (hBl.mono szB);have b0:=(hBw.cell (p:=⟨ub,uo+x,none⟩) hul).trans Hb0.out;have r0:=(hBw.cell (p:=⟨vb,vo+j,none⟩) hvl).trans Hr0.out;obtain ⟨c0,c1',c2',c3', -, -⟩:=Hh.out.below (HB.out.trans ((hBl).mono szB));have HBl:=hid hBl;have Hbl:=hid hbl
      by_cases hll:l<row.length
      rotate_left
      ·obtain rfl:l=row.length:=by omega
       have HY2:Hid (y3=(nr.take (j+1)).any (hitR (accW ac nx m0))):=by show _=_; rw [Hsu.out,HE.out,List.take_length]
       clear hbl hBl hBw HE;go_wp2_with fail
       go_roundw
       case rel=>exact ⟨j+1,y3,by omega,by go_num,HY2,Hbl.out,HBl.out⟩
       case measure=>simp [intOf]; omega
      obtain ⟨q,hq⟩:∃e,row[l]? =some e:=⟨_,List.getElem?_eq_getElem hll⟩;obtain ⟨tb,to',rfl⟩:=nest_some (f:=D.int) Hrr.out (by omega);obtain ⟨-, q0⟩:=int_in (Hrr.out.below hBw) hq;have p0:=(hBl.cell (p:=⟨pb,po+m0,none⟩) hpl).trans Hp0.out
      have hlb:(l:Int)<(row.length:Int):=by omega
      have hql:=hzr.out q (List.mem_of_getElem? hq);have Hs2:=hid (hitR_succ (P:=accW ac nx m0) hq);have Hor:=hid (fun x=>or_step (x:=x) HE.out);have Hnx:=hid (fun v:Bool=>And.intro (show Blk (wl.setCell ⟨wo.heap.size,x,none⟩ (.bool v)) wo.heap.size 4 ((M.set x v).map Value.bool) by have h:=arr_set hbl x v; rw [set_twice] at h; exact h) (Below.setCell (p:=⟨wo.heap.size,x,none⟩) hBl (Nat.le_refl _) (.bool v)));have hrp:=Hrp.out.below hBl;have Hrpl:=hid hrp;clear hq HE hbl hBl hBw hrp
      cases y3
      ·by_cases hneg:q<0
       ·have hge:decide ((0:Int)≤q)=false:=by simp; omega
        have HE2:Hid (false=((nr.take j).any (hitR (accW ac nx m0))||hitR (accW ac nx m0) (row.take (l+1)))):=by
         show _=_
         have h:=Hor.out (decide (0≤q)&&accW ac nx m0 q.toNat);rw [Hs2.out,←h,hge]
         rfl
        clear Hor Hs2;go_wp2_with fail
        go_roundw
        case rel=>exact ⟨l+1,false,by omega,by go_num,HE2,(Hnx.out _).1,(Hnx.out _).2⟩
        case measure=>simp [intOf]; omega
       have hge:decide ((0:Int)≤q)=true:=by simp; omega
       obtain ⟨qn,rfl⟩:∃qn:Nat,q=(qn:Int):=⟨q.toNat,by omega⟩;obtain ⟨v,hv⟩:∃v,accW ac nx m0 qn=v:=⟨_,rfl⟩;have hvr:=reachL_at (ac:=ac) (nx:=nx) (n:=m0) (s:=qn) (by omega);rw [hv] at hvr;obtain ⟨-, y0⟩:=bool_in Hrpl.out hvr
       have HE2:Hid (v=((nr.take j).any (hitR (accW ac nx m0))||hitR (accW ac nx m0) (row.take (l+1)))):=by
        show _=_
        have h:=Hor.out (decide ((0:Int)≤(qn:Int))&&accW ac nx m0 (qn:Int).toNat);rw [Hs2.out,←h,hge,Int.toNat_natCast,hv]
        simp
       have hqn:=Int.natCast_nonneg qn
       have hqb:(qn:Int)<((reachL ac nx m0).length:Int):=by rw [reachL_len]; omega
       clear Hor Hs2 hv hvr;go_wp2_with fail
       go_roundw
       case rel=>exact ⟨l+1,v,by omega,by go_num,HE2,(Hnx.out _).1,(Hnx.out _).2⟩
       case measure=>simp [intOf]; omega
      have HE2:Hid (true=((nr.take j).any (hitR (accW ac nx m0))||hitR (accW ac nx m0) (row.take (l+1)))):=by
       show _=_
       have h:=Hor.out (decide (0≤q)&&accW ac nx m0 q.toNat);rw [Hs2.out,←h]
       simp
      clear Hor Hs2;go_wp2_with fail
      go_roundw
      case rel=>exact ⟨l+1,true,by omega,by go_num,HE2,(Hnx.out _).1,(Hnx.out _).2⟩
      case measure=>simp [intOf]; omega
open Go.Deep
def hitZ (P:Nat→Bool) (z:Int):Bool:=decide (0≤z)&&P z.toNat
theorem hitR_eq (P:Nat→Bool) (row:List Int):hitR P row=row.any (hitZ P):=rfl
def chJ (P:Nat→Bool) (nr:List (List Int)):Nat:=nr.findIdx (hitR P)
def chL (P:Nat→Bool) (nr:List (List Int)):Nat:=(nr.getD (chJ P nr) []).findIdx (hitZ P)
def chZ (P:Nat→Bool) (nr:List (List Int)):Int:=(nr.getD (chJ P nr) []).getD (chL P nr) 0
structure ChO (P:Nat→Bool) (nr:List (List Int)) (j l:Nat) (z:Int):Prop where
 cell:∃row,nr[j]? =some row∧row[l]? =some z∧hitR P (row.take l)=false
 pos:0≤z
 hit:P z.toNat=true
 first:∀(i:Nat) (r:List Int),i<j→nr[i]? =some r→hitR P r=false
theorem findIdx_is {α:Type} {p:α→Bool} {L:List α} {i:Nat} {x:α} (h:L[i]? =some x) (hp:p x=true) (hn:∀(j:Nat) (y:α),j<i→L[j]? =some y→p y=false):L.findIdx p=i:=by
 obtain ⟨hi,rfl⟩:=List.getElem?_eq_some_iff.1 h;exact (List.findIdx_eq hi).2 ⟨hp,fun j hj=>hn j _ hj (List.getElem?_eq_getElem (by omega))⟩
theorem any_take_none {α:Type} {p:α→Bool} {L:List α} {i:Nat} (h:(L.take i).any p=false):∀(j:Nat) (y:α),j<i→L[j]? =some y→p y=false:=by
 intro j y hj hy;rw [List.any_eq_false] at h;have hm:y∈L.take i:=List.mem_iff_getElem?.2 ⟨j,by rw [List.getElem?_take,if_pos hj]; exact hy⟩
 simpa using h y hm
theorem ChO.is {P:Nat→Bool} {nr:List (List Int)} {j l:Nat} {z:Int} (h:ChO P nr j l z):j=chJ P nr∧l=chL P nr∧z=chZ P nr:=by
 obtain ⟨⟨row,h1,h2,h3⟩,h4,h5,h6⟩:=h
 have hz:hitZ P z=true:=by unfold hitZ; rw [h5]; simpa using h4
 have hr:hitR P row=true:=by rw [hitR_eq,List.any_eq_true]; exact ⟨z,List.mem_iff_getElem?.2 ⟨l,h2⟩,hz⟩
 have ej:chJ P nr=j:=findIdx_is h1 hr fun i y hi hy=>h6 i y hi hy
 have el:chL P nr=l:=by
  unfold chL;rw [ej,List.getD_eq_getElem?_getD,h1];exact findIdx_is (L:=row) h2 hz (any_take_none h3)
 refine ⟨ej.symm,el.symm, ?_⟩;unfold chZ;rw [ej,el,List.getD_eq_getElem?_getD,List.getD_eq_getElem?_getD,h1]
 show z=(row[l]?).getD 0
 rw [h2]; rfl
theorem findIdx_at {α:Type} {p:α→Bool} {L:List α} (h:L.any p=true):∃x,L[L.findIdx p]? =some x∧p x=true∧(L.take (L.findIdx p)).any p=false:=by
 rw [List.any_eq_true] at h;have hl:L.findIdx p<L.length:=List.findIdx_lt_length.2 h;refine ⟨_,List.getElem?_eq_getElem hl,List.findIdx_getElem, ?_⟩;rw [List.any_eq_false];intro x hx;obtain ⟨i,hi⟩:=List.mem_iff_getElem?.1 hx;rw [List.getElem?_take] at hi
 split at hi
 ·rename_i hlt
  obtain ⟨h1,rfl⟩:=List.getElem?_eq_some_iff.1 hi;have:=List.not_of_lt_findIdx hlt
  simpa using this
 cases hi
theorem ChO.of {P:Nat→Bool} {nr:List (List Int)} (h:nr.any (hitR P)=true):ChO P nr (chJ P nr) (chL P nr) (chZ P nr):=by
 obtain ⟨row,h1,h2,h3⟩:=findIdx_at h;obtain ⟨z,h4,h5,h6⟩:=findIdx_at (p:=hitZ P) (L:=row) h2
 have ej:nr.getD (chJ P nr) []=row:=by unfold chJ; rw [List.getD_eq_getElem?_getD,h1]; rfl
 have el:chL P nr=row.findIdx (hitZ P):=by unfold chL; rw [ej]
 have ez:chZ P nr=z:=by unfold chZ; rw [ej,el,List.getD_eq_getElem?_getD,h4]; rfl
 unfold hitZ at h5;simp only [Bool.and_eq_true,decide_eq_true_eq] at h5;rw [ez,el];exact ⟨⟨row,h1,h4,h6⟩,h5.1,h5.2,any_take_none h3⟩
theorem hitR_congr {P Q:Nat→Bool} {row:List Int} (h:∀z∈row,hitZ P z=hitZ Q z):hitR P row=hitR Q row:=by
 rw [hitR_eq,hitR_eq,Bool.eq_iff_iff,List.any_eq_true,List.any_eq_true]
 constructor
 ·rintro ⟨z,hz,h1⟩; exact ⟨z,hz,by rw [←h z hz]; exact h1⟩
 rintro ⟨z,hz,h1⟩; exact ⟨z,hz,by rw [h z hz]; exact h1⟩
theorem ChO.congr {P Q:Nat→Bool} {nr:List (List Int)} {j l:Nat} {z:Int} (h:ChO P nr j l z) (e:∀row∈nr,∀z∈row,hitZ P z=hitZ Q z):ChO Q nr j l z:=by
 obtain ⟨⟨row,h1,h2,h3⟩,h4,h5,h6⟩:=h;have er:=e row (List.mem_iff_getElem?.2 ⟨j,h1⟩);refine ⟨⟨row,h1,h2, ?_⟩,h4, ?_,fun i r hi hr=> ?_⟩
 ·rw [←hitR_congr (P:=P) fun z hz=>er z (List.mem_of_mem_take hz)]; exact h3
 ·have:=er z (List.mem_iff_getElem?.2 ⟨l,h2⟩);unfold hitZ at this;rw [h5] at this
  have h7:decide (0≤z)=true:=by simpa using h4
  rw [h7] at this
  simpa using this.symm
 rw [←hitR_congr (P:=P) (e r (List.mem_iff_getElem?.2 ⟨i,hr⟩))]; exact h6 i r hi hr
section
variable (ac:List (List Bool)) (nx:List (List (List Int)))
def stW (N:Nat):Nat→Nat
 |0=>0
 |k+1=>(chZ (accW ac nx (N - k - 1)) (nx.getD (stW N k) [])).toNat
def fxW (N k:Nat):List Int:=(List.range k).map fun i=>((chJ (accW ac nx (N - i - 1)) (nx.getD (stW ac nx N i) []):Nat):Int)
def fyW (N k:Nat):List Int:=(List.range k).map fun i=>((chL (accW ac nx (N - i - 1)) (nx.getD (stW ac nx N i) []):Nat):Int)
def laW (s:Nat):Nat:=(ac.getD s []).findIdx id
def fxA (N:Nat):List Int:=fxW ac nx N N++[((laW ac (stW ac nx N N):Nat):Int)]
def fiN:Int:=farV ac nx (ac.length - 1) 0
end
section
variable {ac:List (List Bool)} {nx:List (List (List Int))}
theorem fxW_len (N k:Nat):(fxW ac nx N k).length=k:=by simp [fxW]
theorem fxA_len (N:Nat):(fxA ac nx N).length=N+1:=by simp [fxA,fxW_len]
theorem fyW_len (N k:Nat):(fyW ac nx N k).length=k:=by simp [fyW]
theorem fxW_succ (N k:Nat):fxW ac nx N (k+1)=fxW ac nx N k++[((chJ (accW ac nx (N - k - 1)) (nx.getD (stW ac nx N k) []):Nat):Int)]:=by simp [fxW,List.range_succ]
theorem fyW_succ (N k:Nat):fyW ac nx N (k+1)=fyW ac nx N k++[((chL (accW ac nx (N - k - 1)) (nx.getD (stW ac nx N k) []):Nat):Int)]:=by simp [fyW,List.range_succ]
structure OnW (ac:List (List Bool)) (nx:List (List (List Int))) (N k:Nat):Prop where
 le:k≤N
 lt:stW ac nx N k<ac.length
 acc:accW ac nx (N - k) (stW ac nx N k)=true
 least:∀m,m<N - k→accW ac nx m (stW ac nx N k)=false
variable {t a:Int}
theorem OnW.start (h:AutOk t a ac nx) {N:Nat} (hN:accW ac nx N 0=true) (hl:∀m,m<N→accW ac nx m 0=false):OnW ac nx N 0:=⟨Nat.zero_le _,h.lo,hN,hl⟩
theorem OnW.step (h:AutOk t a ac nx) {N k:Nat} (hk:k<N) (o:OnW ac nx N k):∃nr z,nx[stW ac nx N k]? =some nr∧ChO (accW ac nx (N - k - 1)) nr (chJ (accW ac nx (N - k - 1)) (nx.getD (stW ac nx N k) [])) (chL (accW ac nx (N - k - 1)) (nx.getD (stW ac nx N k) [])) z∧
  z=(stW ac nx N (k+1):Int)∧(nr.any (hitR (accW ac nx (N - k - 1))))=true∧OnW ac nx N (k+1)∧∀row∈nr,∀z∈row,hitZ (accW ac nx (N - k - 1)) z=hitZ (fun s=>farV ac nx (ac.length - 1) s==((N - k - 1:Nat):Int)) z:=by
 obtain ⟨nr,hnr⟩:∃e,nx[stW ac nx N k]? =some e:=⟨_,List.getElem?_eq_getElem (by rw [h.len]; exact o.lt)⟩
 have eg:nx.getD (stW ac nx N k) []=nr:=by rw [List.getD_eq_getElem?_getD,hnr]; rfl
 have ha:nr.any (hitR (accW ac nx (N - k - 1)))=true:=by
  have:=o.acc;rw [show N - k=(N - k - 1)+1 by omega] at this;rw [←eg];exact this
 have hc:=ChO.of ha;have ht:∀row∈nr,∀z∈row,z<ac.length:=fun row hr z hz=>h.targets (stW ac nx N k) row z (by rw [eg]; exact hr) hz
 have hin:∀row∈nr,∀z∈row,∀m,0≤z→accW ac nx m z.toNat=true→accW ac nx (m+1) (stW ac nx N k)=true:=by
  intro row hr z hz m h0 h1;exact accW_succ.2 ⟨row,by rw [eg]; exact hr,z,hz,h0,h1⟩
 have hst:chZ (accW ac nx (N - k - 1)) nr=(stW ac nx N (k+1):Int):=by
  show _=(((chZ (accW ac nx (N - k - 1)) (nx.getD (stW ac nx N k) [])).toNat:Nat):Int)
  rw [eg,Int.toNat_of_nonneg hc.pos]
 obtain ⟨row,r1,r2,r3⟩:=hc.cell;have hrm:row∈nr:=List.mem_iff_getElem?.2 ⟨_,r1⟩;have hzm:=List.mem_iff_getElem?.2 ⟨_,r2⟩;have hzl:=ht row hrm _ hzm;refine ⟨nr,_,hnr,by rw [eg]; exact hc,hst,ha,⟨by omega, ?_, ?_, ?_⟩, ?_⟩
 ·rw [hst] at hzl; omega
 ·have:=hc.hit;rw [hst,Int.toNat_natCast] at this;rw [show N - (k+1)=N - k - 1 by omega];exact this
 ·intro m hm
  cases hb:accW ac nx m (stW ac nx N (k+1))
  ·rfl
  have h1:=hin row hrm _ hzm m hc.pos (by rw [hst,Int.toNat_natCast]; exact hb);rw [o.least (m+1) (by omega)] at h1
  cases h1
 intro row hr z hz;have hlt:=least_lt h.targets o.lt o.acc o.least;unfold hitZ
 by_cases h0:0≤z
 ·have e0:decide (0≤z)=true:=by simpa using h0
  rw [e0,Bool.true_and,Bool.true_and,Bool.eq_iff_iff,beq_iff_eq]
  constructor
  ·intro h1;refine farV_of (by omega) h1 fun j hj=> ?_
   cases hb:accW ac nx j z.toNat
   ·rfl
   have h2:=hin row hr z hz j h0 hb;rw [o.least (j+1) (by omega)] at h2
   cases h2
  intro h1;exact (farV_eq h1).1
 have e0:decide (0≤z)=false:=by simpa using h0
 rw [e0]; rfl
theorem OnW.all (h:AutOk t a ac nx) {N:Nat} (o:OnW ac nx N 0):∀k,k≤N→OnW ac nx N k
 |0,_=>o
 |k+1,hk=>(OnW.step h (show k<N by omega) (OnW.all h o k (by omega))).choose_spec.choose_spec.2.2.2.2.1
theorem last_atom {s:Nat} {ar:List Bool} (h:ac[s]? =some ar) (ha:accW ac nx 0 s=true):laW ac s<ar.length∧ar[laW ac s]? =some true∧∀j:Nat,j<laW ac s→ar[j]? =some false:=by
 have e:laW ac s=ar.findIdx id:=by unfold laW; rw [List.getD_eq_getElem?_getD,h]; rfl
 have ha':ar.any id=true:=by
  have:(ac.getD s []).any id=true:=ha;rw [List.getD_eq_getElem?_getD,h] at this;exact this
 obtain ⟨x,h1,h2,h3⟩:=findIdx_at ha';have hl:=(List.getElem?_eq_some_iff.1 h1).1;rw [e];refine ⟨hl,by rw [h1]; exact congrArg some h2,fun j hj=> ?_⟩
 have hj':j<ar.length:=by omega
 rw [List.getElem?_eq_getElem hj'];have:=any_take_none h3 j _ hj (List.getElem?_eq_getElem hj');exact congrArg some this
end
noncomputable def fiG (t a:Int) (ac:List (List Bool)) (nx:List (List (List Int))):Prop:=autB t a ac nx=true∧0≤fiN ac nx∧fiN ac nx≤10
open Classical in
noncomputable def fiX (t a:Int) (ac:List (List Bool)) (nx:List (List (List Int))):List Int:=if fiG t a ac nx then fxA ac nx (fiN ac nx).toNat else []
open Classical in
noncomputable def fiY (t a:Int) (ac:List (List Bool)) (nx:List (List (List Int))):List Int:=if fiG t a ac nx then fyW ac nx (fiN ac nx).toNat (fiN ac nx).toNat else []
noncomputable def fiC (t a:Int) (ac:List (List Bool)) (nx:List (List (List Int))):Int:=if autB t a ac nx then (if 0≤fiN ac nx then (if fiN ac nx≤10 then 0 else 3) else 6) else 1
section
variable {t a:Int} {ac:List (List Bool)} {nx:List (List (List Int))}
theorem fi_good {N:Nat} (h:autB t a ac nx=true) (hN:fiN ac nx=(N:Int)) (h10:N≤10):fiX t a ac nx=fxA ac nx N∧fiY t a ac nx=fyW ac nx N N∧fiC t a ac nx=0:=by
 have hg:fiG t a ac nx:=⟨h,by omega,by omega⟩;unfold fiX fiY fiC;rw [if_pos hg,if_pos hg,if_pos h,if_pos (by omega),if_pos (by omega),hN,Int.toNat_natCast];exact ⟨rfl,rfl,rfl⟩
theorem fi_bad (h:¬fiG t a ac nx):fiX t a ac nx=[]∧fiY t a ac nx=[]:=by
 unfold fiX fiY;rw [if_neg h,if_neg h];exact ⟨rfl,rfl⟩
theorem fi_inv (h:autB t a ac nx=false):fiX t a ac nx=[]∧fiY t a ac nx=[]∧fiC t a ac nx=1:=by
 obtain ⟨h1,h2⟩:=fi_bad (t:=t) (a:=a) (ac:=ac) (nx:=nx) (fun g=>by rw [g.1] at h; cases h);exact ⟨h1,h2,by unfold fiC; rw [h]; rfl⟩
theorem fi_none (h:autB t a ac nx=true) (hN:fiN ac nx<0):fiX t a ac nx=[]∧fiY t a ac nx=[]∧fiC t a ac nx=6:=by
 obtain ⟨h1,h2⟩:=fi_bad (t:=t) (a:=a) (ac:=ac) (nx:=nx) (fun g=>by have:=g.2.1; omega);exact ⟨h1,h2,by unfold fiC; rw [if_pos h,if_neg (by omega)]⟩
theorem fi_long {N:Nat} (h:autB t a ac nx=true) (hN:fiN ac nx=(N:Int)) (h10:10<N):fiX t a ac nx=[]∧fiY t a ac nx=[]∧fiC t a ac nx=3:=by
 obtain ⟨h1,h2⟩:=fi_bad (t:=t) (a:=a) (ac:=ac) (nx:=nx) (fun g=>by have:=g.2.2; omega);exact ⟨h1,h2,by unfold fiC; rw [if_pos h,if_pos (by omega),if_neg (by omega)]⟩
end
end Go.Proofs.Ytbflhjjnemdecaa
