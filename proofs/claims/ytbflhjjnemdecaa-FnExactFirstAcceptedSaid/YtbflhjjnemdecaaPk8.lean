/-
  Parts of a proof, joined: WdB, FstS, CountF, Far. No condition.
-/
import Derived.Test.YtbflhjjnemdecaaPk7
set_option linter.unusedVariables false
set_option linter.unusedSimpArgs false
namespace Go.Proofs.Ytbflhjjnemdecaa
open Go.ChangeShapes Go.WideShapes Go.ChangeAt Go.RowKit Go.Deep
theorem bun_two {B:Nat} {w w':World} {items:List Item} {own:Nat→Nat} (h:∀(i:Nat) (it:Item),items[i]? =some it→it.on (fun b=>B≤b∧b<w.heap.size∧own b=i) w) (hB:B≤w.heap.size) (hz:w.heap.size≤w'.heap.size) (k j:Nat) {it jt:Item} (hkj:k≠j)
  (ho:∀b,b<w.heap.size→own b≠k→own b≠j→w'.heap[b]? =w.heap[b]?) (hk:it.on (fun b=>B≤b∧b<w'.heap.size∧(w.heap.size≤b∨own b=k)) w') (hj:jt.on (fun b=>B≤b∧b<w.heap.size∧own b=j) w'):
  Bun B w' ((items.set j jt).set k it):=by
 refine ⟨fun b=>if w.heap.size≤b then k else own b,fun i x hi=> ?_⟩
 by_cases hik:k=i
 ·subst hik
  have hl:k<(items.set j jt).length:=by have:=(List.getElem?_eq_some_iff.1 hi).1; simpa using this
  rw [List.getElem?_set_self hl] at hi;obtain rfl:=Option.some.inj hi;refine Item.more hk fun b _ hb=>⟨hb.1,hb.2.1, ?_⟩
  dsimp only
  split
  ·rfl
  omega
 rw [List.getElem?_set_ne hik] at hi
 by_cases hij:j=i
 ·subst hij
  have hl:j<items.length:=by have:=(List.getElem?_eq_some_iff.1 hi).1; simpa using this
  rw [List.getElem?_set_self hl] at hi;obtain rfl:=Option.some.inj hi;refine Item.more hj fun b _ hb=>⟨hb.1,by omega, ?_⟩
  dsimp only
  rw [if_neg (by omega)];exact hb.2.2
 rw [List.getElem?_set_ne hij] at hi;have h1:=Item.keep (w':=w') hz (h i x hi) fun b hb hs=>ho b hb (by rw [hs.2.2]; omega) (by rw [hs.2.2]; omega);refine Item.more h1 fun b _ hb=>⟨hb.1,by omega, ?_⟩
 dsimp only
 rw [if_neg (by omega)];exact hb.2.2
theorem int_own (w:World) (x:Int):OwS (fun _=>False) w [.int x] [.int .i64 x]:=⟨[],Ows.cons (F:=[]) (by simp [Ow]) Ows.nil,by simp,by simp⟩
def WdB (B:Nat) (w:World) (wb:Nat) (xs ys:List Int) (va vb:Value):Prop:=
 Bun B w [.app 2 1 xs.length (xs.map D.int) va,.box wb 40 [va,vb],.app 2 1 ys.length (ys.map D.int) vb]
theorem WdB.below {B:Nat} {w w':World} {wb:Nat} {xs ys:List Int} {va vb:Value} (h:WdB B w wb xs ys va vb) (hb:Below w.heap.size w w'):WdB B w' wb xs ys va vb:=Bun.below h hb
theorem WdB.box {B:Nat} {w:World} {wb:Nat} {xs ys:List Int} {va vb:Value} (h:WdB B w wb xs ys va vb):Blk w wb 40 [va,vb]∧B≤wb:=Bun.box h 1 rfl
theorem WdB.shapeA {B:Nat} {w:World} {wb:Nat} {xs ys:List Int} {va vb:Value} (h:WdB B w wb xs ys va vb):∃a cap,va= .slice a xs.length cap∧xs.length≤cap∧cap≤maxLen:=Bun.shape h 0 rfl
theorem WdB.shapeB {B:Nat} {w:World} {wb:Nat} {xs ys:List Int} {va vb:Value} (h:WdB B w wb xs ys va vb):∃a cap,vb= .slice a ys.length cap∧ys.length≤cap∧cap≤maxLen:=Bun.shape h 2 rfl
theorem WdB.parts {B:Nat} {w:World} {wb:Nat} {xs ys:List Int} {va vb:Value} (h:WdB B w wb xs ys va vb):∃own:Nat→Nat,own wb=1∧B≤wb∧wb<w.heap.size∧AppS (fun b=>B≤b∧b<w.heap.size∧own b=0) w 2 1 xs.length (xs.map D.int) va∧
  AppS (fun b=>B≤b∧b<w.heap.size∧own b=2) w 2 1 ys.length (ys.map D.int) vb∧
  (∀(w':World) (v:Value) (x:Int) (S:Nat→Prop),B≤w.heap.size→w.heap.size≤w'.heap.size→(∀b,b<w.heap.size→own b≠0→own b≠1→w'.heap[b]? =w.heap[b]?)→AppS S w' 2 1 (xs.length+1) (xs.map D.int++[.int x]) v→(∀b,b<w'.heap.size→S b→(B≤b∧b<w.heap.size∧own b=0)∨w.heap.size≤b)→Blk w' wb 40 [v,vb]→WdB B w' wb (xs++[x]) ys v vb)∧
  (∀(w':World) (v:Value) (x:Int) (S:Nat→Prop),B≤w.heap.size→w.heap.size≤w'.heap.size→(∀b,b<w.heap.size→own b≠2→own b≠1→w'.heap[b]? =w.heap[b]?)→AppS S w' 2 1 (ys.length+1) (ys.map D.int++[.int x]) v→(∀b,b<w'.heap.size→S b→(B≤b∧b<w.heap.size∧own b=2)∨w.heap.size≤b)→Blk w' wb 40 [va,v]→WdB B w' wb xs (ys++[x]) va v):=by
 obtain ⟨own,h⟩:=h;have h0:=h 0 _ rfl;have h1:=h 1 _ rfl;have h2:=h 2 _ rfl;refine ⟨own,h1.1.2.2,h1.1.1,h1.1.2.1,h0,h2, ?_, ?_⟩
 ·intro w' v x S hB hz ho ha hS hb;have:=bun_two (w':=w') h hB hz 0 1 (it:= .app 2 1 (xs++[x]).length ((xs++[x]).map D.int) v) (jt:= .box wb 40 [v,vb]) (by decide) ho ?_ ⟨⟨h1.1.1,h1.1.2.1,h1.1.2.2⟩,hb⟩
  ·exact this
  rw [List.length_append,List.map_append]
  exact AppS.more ha fun b hl hs=>by
   rcases hS b hl hs with q|q
   ·exact ⟨q.1,hl,Or.inr q.2.2⟩
   exact ⟨by omega,hl,Or.inl q⟩
 intro w' v x S hB hz ho ha hS hb;have:=bun_two (w':=w') h hB hz 2 1 (it:= .app 2 1 (ys++[x]).length ((ys++[x]).map D.int) v) (jt:= .box wb 40 [va,v]) (by decide) ho ?_ ⟨⟨h1.1.1,h1.1.2.1,h1.1.2.2⟩,hb⟩
 ·exact this
 rw [List.length_append,List.map_append]
 exact AppS.more ha fun b hl hs=>by
  rcases hS b hl hs with q|q
  ·exact ⟨q.1,hl,Or.inr q.2.2⟩
  exact ⟨by omega,hl,Or.inl q⟩
theorem WdB.owns {B:Nat} {w:World} {wb:Nat} {xs ys:List Int} {va vb:Value} (h:WdB B w wb xs ys va vb):∃F G:List Nat,Ow w (intsD xs) va F∧F.Nodup∧Ow w (intsD ys) vb G∧G.Nodup∧(∀b∈F,B≤b∧b≠wb∧b∉G)∧∀b∈G,B≤b∧b≠wb:=by
 obtain ⟨own,h⟩:=h;have h0:=h 0 _ rfl;have h1:=h 1 _ rfl;have h2:=h 2 _ rfl;have h0':AppS (fun b=>B≤b∧b<w.heap.size∧own b=0) w 2 1 xs.length (xs.map D.int) va:=h0;have h2':AppS (fun b=>B≤b∧b<w.heap.size∧own b=2) w 2 1 ys.length (ys.map D.int) vb:=h2;obtain ⟨F,f1,f2,f3⟩:=h0'.foot;obtain ⟨G,g1,g2,g3⟩:=h2'.foot;have hw:own wb=1:=h1.1.2.2;refine ⟨F,G,f1,f2,g1,g2,fun b hb=> ?_,fun b hb=> ?_⟩
 ·have q:=f3 b hb;refine ⟨q.1,fun e=> ?_,fun hg=> ?_⟩
  ·rw [e,hw] at q; omega
  have:=g3 b hg; omega
 have q:=g3 b hb;exact ⟨q.1,fun e=>by rw [e,hw] at q; omega⟩
theorem WdB.zero {B:Nat} {w:World} (hB:B≤w.heap.size):WdB B (w.alloc (.cells #[.slice none 0 0,.slice none 0 0] 40)) w.heap.size [] [] (.slice none 0 0) (.slice none 0 0):=by
 have h0:=((Bun.nil (B:=B) (w:=w)).push_nil 2 1);have h1:=h0.push_box hB 40 #[.slice none 0 0,.slice none 0 0];exact h1.push_nil 2 1
open Go.Sort
theorem any_take_all {α:Type} {p:α→Bool} {L:List α} {n:Nat} (h:(L.take n).any p=false) (hn:n=L.length):L.any p=false:=by rw [hn,List.take_length] at h; exact h
set_option maxHeartbeats 8000000 in
theorem l02Choice_i {t a:Int} {ac:List (List Bool)} {nx:List (List (List Int))} {s u q:Option Addr} {c d b o e x:Nat} {L:List Bool} {nr:List (List Int)} {w0:World} (h:AutAt w0 b o t a ac nx s u c d) (hok:AutOk t a ac nx) (hL:Rd w0 (boolsD L) (.slice q L.length e)) (hLl:L.length=ac.length)
  (hx:x<ac.length) (hnr:nx[x]? =some nr) (hh:nr.any (hitR fun z=>L.getD z false)=true):
  Calls Try.prog 129 #[.pointer (some ⟨b,o,none⟩),.slice q L.length e,.int .i64 x] w0 fun f w'=>∃j l:Nat,f= .returned (.tuple #[.int .i64 j,.int .i64 l])∧(∃z,ChO (fun z=>L.getD z false) nr j l z)∧Below w0.heap.size w0 w':=by
 have g5:=h.2.2.2.2.2;obtain ⟨hlen',hcap'⟩:=nest_bd g5;obtain ⟨hL1,hL2⟩:=nest_bd hL;unfold maxLen at hcap' hL2;have hnl:=hok.len;have hhi:=hok.hi;have Htg:=hid (fun (l:Nat) (row:List Int) (h:nr[l]? =some row) (z:Int) (hz:z∈row)=>hok.targets x row z (by rw [List.getD_eq_getElem?_getD,hnr]; exact List.mem_of_getElem? h) hz);obtain ⟨ub,uo,rfl⟩:=nest_some (f:=iiD) g5 (by omega);obtain ⟨hul,sn,cn,b0,rb⟩:=nest_sl (g:=intsD) g5 hnr;obtain ⟨lb,lo,rfl⟩:=nest_some (f:=D.bool) hL (by omega);obtain ⟨rb1,rb2⟩:=nest_bd rb;unfold maxLen at rb2;have hx0:=Int.natCast_nonneg x
 have hxc:(x:Int)<(nx.length:Int):=by omega
 have Hh:=hid h;have Hb0:=hid b0;have Hrb:=hid rb;have HL:=hid hL;have Hhh:=hid hh;clear h b0 rb hL hh hnr hok g5
 go_enter Try.func129,Try.ntmps129
 go_wp2_with fail
 go_loopw [8] (fun i wr=>∃j:Nat,j≤nr.length∧i= .int .i64 j∧Hid ((nr.take j).any (hitR fun z=>L.getD z false)=false)∧Below w0.heap.size w0 wr) (fun i _=>nr.length - (intOf i).toNat)
 case atStart=>exact ⟨0,by omega,rfl,by show _=_; rfl,Below.refl _ _⟩
 case round=>
  obtain ⟨j,hj,rfl,HJ,hB⟩:=hrel;obtain ⟨wo,rfl⟩:∃v,v=wr:=⟨_,rfl⟩;have hj0:=Int.natCast_nonneg j;have HB:=hid hB
  by_cases hjl:j<nr.length
  rotate_left
  ·have:=any_take_all HJ.out (by omega);rw [Hhh.out] at this
   cases this
  obtain ⟨row,hrow⟩:∃e,nr[j]? =some e:=⟨_,List.getElem?_eq_getElem hjl⟩;obtain ⟨vb,vo,rfl⟩:=nest_some (f:=intsD) Hrb.out (by omega);obtain ⟨hvl,sr,cr,r0,rr⟩:=nest_sl (g:=D.int) Hrb.out hrow;obtain ⟨rr1,rr2⟩:=nest_bd rr;unfold maxLen at rr2;have Hr0:=hid r0;have Hrr:=hid rr
  have hjb:(j:Int)<(nr.length:Int):=by omega
  have Hrow:=hid hrow;have hzr:=hid (Htg.out j row hrow);have Hsu:=hid (any_succ (p:=hitR fun z=>L.getD z false) hrow);obtain ⟨c0,c1',c2',c3', -, -⟩:=Hh.out.below HB.out;have b0:=((HB.out).cell (p:=⟨ub,uo+x,none⟩) hul).trans Hb0.out;clear hB hrow r0 rr;go_wp2_with fail;clear c0 c1' c2' c3' b0
  go_loopw [9] (fun i wr=>∃l:Nat,l≤row.length∧i= .int .i64 l∧Hid (hitR (fun z=>L.getD z false) (row.take l)=false)∧Below w0.heap.size w0 wr) (fun i _=>row.length - (intOf i).toNat)
  case atStart=>exact ⟨0,by omega,rfl,by show _=_; rfl,HB.out⟩
  case round=>
   obtain ⟨l,hl,rfl,HE,hBl⟩:=hrel;obtain ⟨wl,rfl⟩:∃v,v=wr:=⟨_,rfl⟩;have hl0:=Int.natCast_nonneg l;have HBl:=hid hBl;have r0:=(hBl.cell (p:=⟨vb,vo+j,none⟩) hvl).trans Hr0.out;obtain ⟨c0,c1',c2',c3', -, -⟩:=Hh.out.below HBl.out;have b0:=((HBl.out).cell (p:=⟨ub,uo+x,none⟩) hul).trans Hb0.out
   by_cases hll:l<row.length
   rotate_left
   ·have HJ2:Hid ((nr.take (j+1)).any (hitR fun z=>L.getD z false)=false):=by
     show _=_
     have:=HE.out;rw [show l=row.length by omega,List.take_length] at this;rw [Hsu.out,HJ.out,this]
     rfl
    clear hBl;go_wp2_with fail
    go_roundw
    case rel=>exact ⟨j+1,by omega,by go_num,HJ2,HBl.out⟩
    case measure=>simp [intOf]; omega
   obtain ⟨z,hz⟩:∃e,row[l]? =some e:=⟨_,List.getElem?_eq_getElem hll⟩;obtain ⟨tb,to',rfl⟩:=nest_some (f:=D.int) Hrr.out (by omega);obtain ⟨-, q0⟩:=int_in (Hrr.out.below HBl.out) hz
   have hlb:(l:Int)<(row.length:Int):=by omega
   have hzl:=hzr.out z (List.mem_of_getElem? hz);have Hz:=hid hz;clear hBl hz
   by_cases hneg:z<0
   ·have HE2:Hid (hitR (fun z=>L.getD z false) (row.take (l+1))=false):=hitR_none HE.out Hz.out (by rw [decide_eq_false (by omega)]; rfl);go_wp2_with fail
    go_roundw
    case rel=>exact ⟨_,_,_,⟨l+1,by omega,by go_num,HE2,HBl.out⟩,rfl,rfl,rfl⟩
    case measure=>simp [intOf]; omega
   obtain ⟨zn,rfl⟩:∃zn:Nat,z=(zn:Int):=⟨z.toNat,by omega⟩;obtain ⟨v,hv⟩:∃v,L[zn]? =some v:=⟨_,List.getElem?_eq_getElem (by omega)⟩;obtain ⟨-, y0⟩:=bool_in (HL.out.below HBl.out) hv;have hzn:=Int.natCast_nonneg zn
   have hznb:(zn:Int)<(L.length:Int):=by omega
   have Hv:Hid (L.getD zn false=v):=by show _=_; rw [List.getD_eq_getElem?_getD,hv]; rfl
   clear hv
   cases v
   ·have HE2:Hid (hitR (fun z=>L.getD z false) (row.take (l+1))=false):=hitR_none HE.out Hz.out (by rw [Int.toNat_natCast,Hv.out]; simp);go_wp2_with fail
    go_roundw
    case rel=>exact ⟨l+1,by omega,by go_num,HE2,HBl.out⟩
    case measure=>simp [intOf]; omega
   go_wp2_with fail;refine bodyPost_ret (v:= .tuple #[.int .i64 j,.int .i64 l]) (by simp [results,Try.results129,go_sem]) rfl ?_;exact ⟨j,l,rfl,⟨zn,⟨row,Hrow.out,Hz.out,HE.out⟩,by omega,by rw [Int.toNat_natCast]; exact Hv.out,any_take_none HJ.out⟩,HBl.out⟩
theorem WdB.freshs {W w:World} {B wb:Nat} {xs ys:List Int} {va vb:Value} (h:WdB B w wb xs ys va vb) (hB:W.heap.size≤B):Freshs W w (wordD xs ys) [va,vb]:=by
 obtain ⟨F,G,h1,h2,h3,h4,h5,h6⟩:=h.owns;refine ⟨F++(G++[]),Ows.cons h1 (Ows.cons h3 Ows.nil), ?_, ?_⟩
 ·rw [List.append_nil,List.nodup_append];exact ⟨h2,h4,fun a ha b hb e=>(h5 a ha).2.2 (by rw [e]; exact hb)⟩
 intro b hm;rw [List.append_nil] at hm
 rcases List.mem_append.1 hm with hm|hm
 ·have:=(h5 b hm).1; omega
 have:=(h6 b hm).1; omega
set_option maxRecDepth 100000 in
set_option maxHeartbeats 16000000 in
theorem l02First_no {t a:Int} {ac:List (List Bool)} {nx:List (List (List Int))} {s u:Option Addr} {c d b o:Nat} {w0:World} (h:AutAt w0 b o t a ac nx s u c d) (hok:AutOk t a ac nx) (hN:fiN ac nx<0):
  Calls Try.prog 77 #[.pointer (some ⟨b,o,none⟩)] w0 fun f w'=>f= .returned (.tuple #[.agg #[.slice none 0 0,.slice none 0 0],.bool false])∧Below w0.heap.size w0 w':=by
 have hlv:=far_live hok hok.lo;have hN':farV ac nx (ac.length - 1) 0<0:=hN;rw [decide_eq_false (by omega)] at hlv;have hl0:=liveL_at (ac:=ac) (nx:=nx) (s:=0) hok.lo;rw [hlv] at hl0;have hll:=liveL_len (ac:=ac) (nx:=nx);have hlo:=hok.lo;have hhi:=hok.hi
 go_enter Try.func77,Try.ntmps77
 go_wp2_with fail;obtain ⟨w1,e1,R,hb1,hz1⟩:=box2 w0 40 (.slice none 0 0) (.slice none 0 0);rw [e1];refine (l02Live_i (h.below hb1) hok).mono ?_;rintro f w2 ⟨g,rfl,hf,hb2⟩;have hB:=hb1.trans (hb2.mono (by omega));replace R:=R.below hb2;obtain ⟨-, q0⟩:=bool_in hf.rd hl0;obtain ⟨r0,r1,rl⟩:=R.all2;have z0:=R.frozen 0;have z1:=R.frozen 1;clear hf hb2 hb1 hl0 e1;go_wp2_with fail;have K1:=(R.set 0 (.slice none 0 0)).set 1 (.slice none 0 0);have k0:=K1.c0;have k1:=K1.c1;refine bodyPost_ret (v:= .tuple #[.agg #[.slice none 0 0,.slice none 0 0],.bool false]) (by simp [results,Try.results77,go_sem,k0,k1]) rfl ?_;exact ⟨rfl,bel⟩
theorem fst_step {t a:Int} {ac:List (List Bool)} {nx:List (List (List Int))} {N k:Nat} (h:AutOk t a ac nx) (hk:k<N) (o:OnW ac nx N k):∃nr,nx[stW ac nx N k]? =some nr∧stW ac nx N k<ac.length∧(nr.any (hitR fun z=>(reachL ac nx (N - k - 1)).getD z false))=true∧
  (∀j l:Nat,(∃z,ChO (fun z=>(reachL ac nx (N - k - 1)).getD z false) nr j l z)→(∃row,nr[j]? =some row∧row[l]? =some (stW ac nx N (k+1):Int))∧fxW ac nx N (k+1)=fxW ac nx N k++[(j:Int)]∧fyW ac nx N (k+1)=fyW ac nx N k++[(l:Int)])∧
  (nr.any (hitR fun s=>farV ac nx (ac.length - 1) s==((N - k - 1:Nat):Int)))=true∧
  (∀j l:Nat,(∃z,ChO (fun s=>farV ac nx (ac.length - 1) s==((N - k - 1:Nat):Int)) nr j l z)→(∃row,nr[j]? =some row∧row[l]? =some (stW ac nx N (k+1):Int))∧fxW ac nx N (k+1)=fxW ac nx N k++[(j:Int)]∧fyW ac nx N (k+1)=fyW ac nx N k++[(l:Int)]):=by
 obtain ⟨nr,z,h1,hc,h3,h4, -, h6⟩:=OnW.step h hk o
 have eg:nx.getD (stW ac nx N k) []=nr:=by rw [List.getD_eq_getElem?_getD,h1]; rfl
 have hgo:∀j l:Nat,(∃z,ChO (accW ac nx (N - k - 1)) nr j l z)→(∃row,nr[j]? =some row∧row[l]? =some (stW ac nx N (k+1):Int))∧fxW ac nx N (k+1)=fxW ac nx N k++[(j:Int)]∧fyW ac nx N (k+1)=fyW ac nx N k++[(l:Int)]:=by
  rintro j l ⟨z',hz'⟩;obtain ⟨e1,e2,e3⟩:=hz'.is;obtain ⟨_,_,e4⟩:=hc.is;obtain ⟨row,r1,r2, -⟩:=hz'.cell;rw [fxW_succ,fyW_succ,eg,←e1,←e2];exact ⟨⟨row,r1,by rw [r2,e3,←e4,h3]⟩,rfl,rfl⟩
 have hcr:∀row∈nr,∀z∈row,hitZ (accW ac nx (N - k - 1)) z=hitZ (fun z=>(reachL ac nx (N - k - 1)).getD z false) z:=by
  intro row hr z hz;have hlt:=h.targets (stW ac nx N k) row z (by rw [eg]; exact hr) hz;unfold hitZ
  by_cases h0:0≤z
  ·show _=(decide (0≤z)&&(reachL ac nx (N - k - 1)).getD z.toNat false)
   rw [List.getD_eq_getElem?_getD,reachL_at (by omega)]; rfl
  rw [decide_eq_false h0]; rfl
 have hany:∀Q:Nat→Bool,(∀row∈nr,∀z∈row,hitZ (accW ac nx (N - k - 1)) z=hitZ Q z)→nr.any (hitR Q)=true:=by
  intro Q hQ;rw [List.any_eq_true] at h4 ⊢;obtain ⟨row,r1,r2⟩:=h4;exact ⟨row,r1,by rw [←hitR_congr (hQ row r1)]; exact r2⟩
 exact ⟨nr,h1,o.lt,hany _ hcr,fun j l ⟨z,hz⟩=>hgo j l ⟨z,hz.congr fun row hr z hz=>(hcr row hr z hz).symm⟩,hany _ h6,fun j l ⟨z,hz⟩=>hgo j l ⟨z,hz.congr fun row hr z hz=>(h6 row hr z hz).symm⟩⟩
set_option maxRecDepth 100000 in
set_option maxHeartbeats 16000000 in
theorem l02First_yes {t a:Int} {ac:List (List Bool)} {nx:List (List (List Int))} {s u:Option Addr} {c d b o N:Nat} {w0:World} (h:AutAt w0 b o t a ac nx s u c d) (hok:AutOk t a ac nx) (hN:fiN ac nx=(N:Int)):
    Calls Try.prog 77 #[.pointer (some ⟨b,o,none⟩)] w0 fun f w'=>∃s c s' c',f= .returned (.tuple #[.agg #[.slice s (N+1) c,.slice s' N c'],.bool true])∧Freshs w0 w' (wordD (fxA ac nx N) (fyW ac nx N N)) [.slice s (N+1) c,.slice s' N c']∧Below w0.heap.size w0 w':=by
  have hlv:=far_live hok hok.lo;have hN':farV ac nx (ac.length - 1) 0=(N:Int):=hN;rw [decide_eq_true (by omega)] at hlv;obtain ⟨ha1,ha2⟩:=farV_eq hN';have hNl:=least_lt hok.targets hok.lo ha1 ha2;have Hon:=hid (fun k hk=>OnW.all hok (OnW.start hok ha1 ha2) k hk);have hl0:=liveL_at (ac:=ac) (nx:=nx) (s:=0) hok.lo;rw [hlv] at hl0;have hll:=liveL_len (ac:=ac) (nx:=nx);have hlo:=hok.lo;have hhi:=hok.hi;have Hok:=hid hok;have Ha1:=hid ha1;have Ha2:=hid ha2;clear hN hN' hlv hok ha1 ha2
  go_enter Try.func77,Try.ntmps77
  go_wp2_with fail;obtain ⟨w1,e1,R,hb1,hz1⟩:=box2 w0 40 (.slice none 0 0) (.slice none 0 0);rw [e1];refine (l02Live_i (h.below hb1) Hok.out).mono ?_;rintro f w2 ⟨g,rfl,hf,hb2⟩;have hB:=hb1.trans (hb2.mono (by omega));replace R:=R.below hb2;obtain ⟨-, q0⟩:=bool_in hf.rd hl0;have Hh:=hid h;have HR:=hid R;have hzB:=hB.size;clear hf hb2 hb1 hl0 e1 R h;go_wp2_with fail;clear q0;refine (l02Reach_i (n:=0) (Hh.out.below hB) Hok.out (by omega)).mono ?_;rintro f w3 ⟨s3,c3,rfl,hf3,hb3⟩;have HB3:=hid (hB.trans (hb3.mono hzB));have HR3:=hid (HR.out.below hb3);have Hrd3:=hid hf3.rd;clear hf3 hb3 hB HR;go_wp2_with fail
  go_loopw [5,6] (fun i v wr=>∃(k:Nat) (s3:Option Addr) (c3:Nat),k≤N∧i= .int .i64 k∧v= .slice s3 (k+1) c3∧Rd wr (nestD boolsD (rchL ac nx (k+1))) (.slice s3 (k+1) c3)∧Below w3.heap.size w3 wr) (fun i _ _=>N - (intOf i).toNat)
  case atStart=>exact ⟨0,s3,c3,by omega,rfl,rfl,Hrd3.out,Below.refl _ _⟩
  case round=>
    clear Hrd3;obtain ⟨k,s4,c4,hk,rfl,rfl,hrd,hbe⟩:=hrel;obtain ⟨wo,rfl⟩:∃v,v=wr:=⟨_,rfl⟩;have hk0:=Int.natCast_nonneg k;obtain ⟨pb,po,rfl⟩:=nest_some hrd (by rw [rchL_length]; omega);obtain ⟨hn1,hn2⟩:=nest_bd hrd;rw [rchL_length] at hn1;unfold maxLen at hn2;obtain ⟨hpl,sp,cp,p0,rp⟩:=nest_sl (g:=D.bool) hrd (rchL_at (ac:=ac) (nx:=nx) (show k<k+1 by omega));obtain ⟨sp',so',rfl⟩:=nest_some (f:=D.bool) rp (by rw [reachL_len]; omega);obtain ⟨hr1,hr2⟩:=nest_bd rp;rw [reachL_len] at hr1;unfold maxLen at hr2;obtain ⟨-, y0⟩:=bool_in rp (reachL_at (ac:=ac) (nx:=nx) (n:=k) hlo);have hlc:=reachL_len (ac:=ac) (nx:=nx) k;have Hrd:=hid hrd;have HBe:=hid hbe;have hze:=hbe.size
    have hkb:(k:Int)<((k+1:Nat):Int):=by omega
    clear hrd rp hbe;simp only [Nat.add_zero] at y0
    by_cases hkN:k<N
    · rw [Ha2.out k hkN] at y0
      have e1:IntKind.i64.wrap ((k:Int)+1)=((k+1:Nat):Int):=by rw [show (k:Int)+1=((k+1:Nat):Int) by omega]; exact wrap_of (by omega) (by omega)
      go_wp2_with fail;refine (l02Reach_i (n:=k+1) ((Hh.out.below HB3.out).below HBe.out) Hok.out (by omega)).mono ?_;rintro f w4 ⟨s5,c5,rfl,hf5,hb5⟩;have Hfin:=hid (And.intro hf5.rd (HBe.out.trans (hb5.mono hze)));clear hf5 hb5 y0 p0;go_wp2_with fail
      go_roundw
      case rel=>exact ⟨k+1,s5,c5,by omega,by go_num,rfl,Hfin.out⟩
      case measure=>simp [intOf]; omega
    · obtain rfl:k=N:=by omega
      rw [Ha1.out] at y0;have HB4:=hid (HB3.out.trans (HBe.out.mono (by have:=HB3.out.size; omega)));have HR4:=hid (HR3.out.below HBe.out);have HA4:=hid (Hh.out.below HB4.out);go_wp2_with fail;clear y0 p0;have hWD:=WdB.zero (B:=wo.heap.size) (w:=wo) (Nat.le_refl _);obtain ⟨w5,e5, -, hb5,hz5⟩:=box2 wo 40 (.slice none 0 0) (.slice none 0 0);rw [e5] at hWD ⊢;have HAo:=hid (Hh.out.below HB4.out);have Hfac:=hid (fun m (hm:m<k)=>fst_step Hok.out hm (Hon.out m (by omega)));have Hlast:=hid (Hon.out k (Nat.le_refl _));have Hwb:=hid hWD.box;obtain ⟨wb,hwb⟩:∃wb,wo.heap.size=wb:=⟨_,rfl⟩;have hwb':=hid hwb;rw [hwb] at hWD Hwb ⊢;clear e5 Hon Ha1 Ha2 HB3 HR3 Hh hwb hze
      go_loopw [8,9] (fun v i wr=>∃(m:Nat) (va vb:Value),m≤k∧v= .int .i64 (stW ac nx k m)∧i= .int .i64 ((k - m:Nat):Int)∧WdB wb wr wb (fxW ac nx k m) (fyW ac nx k m) va vb∧Below wo.heap.size wo wr) (fun _ i _=>(intOf i).toNat)
      case atStart=>exact ⟨0,_,_,by omega,rfl,rfl,hWD,hb5⟩
      case round=>
        clear hWD hb5;obtain ⟨m,va,vb,hm,rfl,rfl,hwd,hbe⟩:=hrel;obtain ⟨wp,rfl⟩:∃v,v=wr:=⟨_,rfl⟩;have hm0:=Int.natCast_nonneg m;have hzp:=hbe.size;have HWD:=hid hwd;have HBp:=hid hbe;obtain ⟨a1,ca1,rfl,hca1,hca2⟩:=hwd.shapeA;obtain ⟨a2,ca2,rfl,hcb1,hcb2⟩:=hwd.shapeB;rw [fxW_len] at hca1;rw [fyW_len] at hcb1;unfold maxLen at hca2 hcb2;simp only [fxW_len,fyW_len] at*
        by_cases hmk:m<k
        rotate_left
        · obtain rfl:m=k:=by omega
          have e0:((m - m:Nat):Int)=0:=by omega
          rw [e0];have hacc:=Hlast.out.acc;rw [Nat.sub_self] at hacc;obtain ⟨ar,har⟩:∃e,ac[stW ac nx m m]? =some e:=⟨_,List.getElem?_eq_getElem Hlast.out.lt⟩;obtain ⟨l1,l2,l3⟩:=last_atom har hacc;obtain ⟨L,hL⟩:∃L,laW ac (stW ac nx m m)=L:=⟨_,rfl⟩
          have HL:Hid (fxA ac nx m=fxW ac nx m m++[(L:Int)]):=by show _=_; unfold fxA; rw [hL]
          rw [hL] at l1 l2 l3;have hAA:=HAo.out;obtain ⟨hlen',hcap'⟩:=nest_bd hAA.2.2.2.2.1;unfold maxLen at hcap';obtain ⟨ub,uo,rfl⟩:=nest_some (f:=boolsD) hAA.2.2.2.2.1 (by omega);obtain ⟨hul,sn,cn,b0,rb⟩:=nest_sl (g:=D.bool) hAA.2.2.2.2.1 har;obtain ⟨rb1,rb2⟩:=nest_bd rb;unfold maxLen at rb2;have hs0:=Int.natCast_nonneg (stW ac nx m m)
          have hsb:(stW ac nx m m:Int)<(ac.length:Int):=by have:=Hlast.out.lt; omega
          have har8:=Hok.out.acc_row har;obtain ⟨ht1,ht8⟩:=atomsN_bd t;have HL2:=hid l2;have HL3:=hid l3;have Hb0:=hid b0;have Hrb:=hid rb;clear hwd hbe b0 rb hacc hAA l2 l3 hL har;go_wp2_with fail
          go_loopw [12] (fun i wr=>∃j:Nat,i= .int .i64 j∧j≤L∧wr=wp) (fun i _=>L - (intOf i).toNat)
          case atStart=>exact ⟨0,rfl,by omega,rfl⟩
          case round=>
            obtain ⟨j,rfl,hj,rfl⟩:=hrel;have hj0:=Int.natCast_nonneg j
            have hjb:(j:Int)<(ar.length:Int):=by omega
            obtain ⟨rb',ro,rfl⟩:=nest_some (f:=D.bool) Hrb.out (by omega);have b0:=(HBp.out.cell (p:=⟨ub,uo+stW ac nx m m,none⟩) hul).trans Hb0.out;obtain ⟨c0,c1',c2',c3', -, -⟩:=HAo.out.below HBp.out
            by_cases hjL:j<L
            · obtain ⟨-, y0⟩:=bool_in (Hrb.out.below HBp.out) (HL3.out j hjL)
              go_wp2_with fail
              go_roundw
              case rel=>exact ⟨j+1,by go_num,by omega,trivial⟩
              case measure=>simp [intOf]; omega
            obtain rfl:j=L:=by omega
            obtain ⟨-, y0⟩:=bool_in (Hrb.out.below HBp.out) HL2.out
            have hBn:Bun wb wr [.app 2 1 m ((fxW ac nx m m).map D.int) (.slice a1 m ca1),.box wb 40 [.slice a1 m ca1,.slice a2 m ca2],.app 2 1 m ((fyW ac nx m m).map D.int) (.slice a2 m ca2)]:=by
              have:=HWD.out;unfold WdB at this;rw [fxW_len,fyW_len] at this;exact this
            have hBu:=hBn.alloc (.cells #[.int .i64 j] 2);have hNb:=Blk.new1 wr 2 (.int .i64 j);obtain ⟨x0,x1,ltx⟩:=(hBn.box 1 rfl).1.all2
            have hm50:m≤60:=by omega
            have hwb6:wb≤wr.heap.size:=by have:=hwb'.out; omega
            have hR:=HR4.out.below HBp.out;have hRl:=HR4.out.lt
            have hRw:w0.heap.size<wb:=by have:=hwb'.out; omega
            clear hBn
            go_wp2_with (first
              | (at_builtin; go_must (refine wpList_append_bun _ rfl _ _ 27 rfl 2 (.int .i64 0) 1 8 Try.underlying27 info_int64 rfl (by decide) hBu (by simp <;> omega) 0 _ rfl rfl ⟨wr.heap.size, 0, none⟩ 1 1 [.int .i64 j] rfl (news_blk hNb) (int_own _ _) rfl (by simp [Value.oneCell']) (by omega) (by omega) (by unfold maxLen; omega) ?_); intro g7 cap7 w7 hbun7 hb7
                 have hs7:=hbun7.store 1 rfl 0 (.slice (some ⟨g7,0,none⟩) (m+1) cap7);obtain ⟨y0,y1,lty⟩:=(hbun7.box 1 rfl).1.all2;have yf:=(hbun7.box 1 rfl).1.frozen 0;obtain ⟨s0,s1,lts⟩:=(hs7.box 1 rfl).1.all2;have hb7s:Below wb wr (w7.setCell ⟨wb,0,none⟩ (.slice (some ⟨g7,0,none⟩) (m+1) cap7)):=Below.setCell (p:=⟨wb,0,none⟩) ((Below.alloc (Below.refl wb wr) hwb6 (.cells #[.int .i64 j] 2)).trans hb7) (Nat.le_refl _) _;have hz7:=hb7s.size;have hR7:=hR.keep (hb7s.block _ hRw);obtain ⟨r0,r1,rl⟩:=hR7.all2;have rf0:=hR7.frozen 0
                 have rf1:=hR7.frozen 1))
            have K1:=(hR7.set 0 (.slice (some ⟨g7,0,none⟩) (m+1) cap7)).set 1 (.slice a2 m ca2);have k0:=K1.c0;have k1:=K1.c1
            have HW7:WdB wb (w7.setCell ⟨wb,0,none⟩ (.slice (some ⟨g7,0,none⟩) (m+1) cap7)) wb (fxA ac nx m) (fyW ac nx m m) (.slice (some ⟨g7,0,none⟩) (m+1) cap7) (.slice a2 m ca2):=by
              unfold WdB;rw [HL.out,List.length_append,fxW_len,fyW_len,List.map_append];exact hs7
            refine bodyPost_ret (v:= .tuple #[.agg #[.slice (some ⟨g7,0,none⟩) (m+1) cap7,.slice a2 m ca2],.bool true]) (by simp [results,Try.results77,go_sem,k0,k1]) rfl ?_;have hB7:=((HB4.out.trans (HBp.out.mono (by have:=HB4.out.size; omega))).trans (hb7s.mono (by omega)));have hwo:=hwb'.out;have hwo2:=HB4.out.size;refine ⟨_,_,_,_,rfl,((HW7.freshs (W:=wo) (by omega)).keep fun b h1 h2=> ?_).from hwo2,Below.setCell (Below.setCell hB7 (by simp) _) (by simp) _⟩;rw [Below.heap_setCell _ _ _ _ (by show b≠w0.heap.size; omega),Below.heap_setCell _ _ _ _ (by show b≠w0.heap.size; omega)]
        obtain ⟨nr,hnr,hsl,hany,hch, -, -⟩:=Hfac.out m hmk;obtain ⟨q,hq⟩:∃q,k - m - 1=q:=⟨_,rfl⟩;rw [hq] at hany hch
        have e1:IntKind.i64.wrap (((k - m:Nat):Int) - 1)=(q:Int):=by rw [show ((k - m:Nat):Int) - 1=(q:Int) by omega]; exact wrap_of (by omega) (by omega)
        have hpos:(0:Int)<((k - m:Nat):Int):=by omega
        have hq0:=Int.natCast_nonneg q
        have hqk:(q:Int)<((k+1:Nat):Int):=by omega
        obtain ⟨hpl2,sq,cq,p0,rq⟩:=nest_sl (g:=D.bool) Hrd.out (rchL_at (ac:=ac) (nx:=nx) (show q<k+1 by omega));replace p0:=(hbe.cell (p:=⟨pb,po+q,none⟩) hpl2).trans p0;have hs0:=Int.natCast_nonneg (stW ac nx k m);have Hch:=hid hch;have Hany:=hid hany;have Hnr:=hid hnr;have Hrq:=hid (rq.below hbe);clear hwd hbe hany hch hnr rq;go_wp2_with fail;refine (l02Choice_i (HAo.out.below HBp.out) Hok.out Hrq.out (reachL_len q) hsl Hnr.out Hany.out).mono ?_;rintro f w6 ⟨j,l,rfl,hz,hb6⟩;obtain ⟨⟨row,hrow,hcell⟩,hfx,hfy⟩:=Hch.out j l hz;have HW6:=hid (HWD.out.below hb6);have HB6:=hid (HBp.out.trans (hb6.mono hzp));have hz6:=HB6.out.size;have hnl:=Hok.out.len;have hAA:=HAo.out;obtain ⟨hlen',hcap'⟩:=nest_bd hAA.2.2.2.2.2;unfold maxLen at hcap';obtain ⟨ub,uo,rfl⟩:=nest_some (f:=iiD) hAA.2.2.2.2.2 (by omega);obtain ⟨hul,sn,cn,b0,rb⟩:=nest_sl (g:=intsD) hAA.2.2.2.2.2 Hnr.out;obtain ⟨rb1,rb2⟩:=nest_bd rb;unfold maxLen at rb2;have hjl:=(List.getElem?_eq_some_iff.1 hrow).1;obtain ⟨vb',vo,rfl⟩:=nest_some (f:=intsD) rb (by omega);obtain ⟨hvl,sr,cr,r0,rr⟩:=nest_sl (g:=D.int) rb hrow;obtain ⟨rr1,rr2⟩:=nest_bd rr;unfold maxLen at rr2;have hll2:=(List.getElem?_eq_some_iff.1 hcell).1;obtain ⟨tb,to',rfl⟩:=nest_some (f:=D.int) rr (by omega);obtain ⟨htl,q0⟩:=int_in rr hcell;have hj0:=Int.natCast_nonneg j;have hl0':=Int.natCast_nonneg l
        have hjb:(j:Int)<(nr.length:Int):=by omega
        have hlb:(l:Int)<(row.length:Int):=by omega
        have hsb:(stW ac nx k m:Int)<(nx.length:Int):=by omega
        have HU:Hid (∀W,Below wo.heap.size wo W→W.cell? ⟨ub,uo+stW ac nx k m,none⟩=some (.slice (some ⟨vb',vo,none⟩) nr.length cn)∧W.cell? ⟨vb',vo+j,none⟩=some (.slice (some ⟨tb,to',none⟩) row.length cr)∧W.cell? ⟨tb,to'+l,none⟩=some (.int .i64 (stW ac nx k (m+1)))∧AutAt W b o t a ac nx s (some ⟨ub,uo,none⟩) c d):=
          fun W hW=>⟨(hW.cell (p:=⟨ub,uo+stW ac nx k m,none⟩) hul).trans b0,(hW.cell (p:=⟨vb',vo+j,none⟩) hvl).trans r0,(hW.cell (p:=⟨tb,to'+l,none⟩) htl).trans q0,HAo.out.below hW⟩
        have hBn:Bun wb w6 [.app 2 1 m ((fxW ac nx k m).map D.int) (.slice a1 m ca1),.box wb 40 [.slice a1 m ca1,.slice a2 m ca2],.app 2 1 m ((fyW ac nx k m).map D.int) (.slice a2 m ca2)]:=by
          have:=HW6.out;unfold WdB at this;rw [fxW_len,fyW_len] at this;exact this
        have hBu:=hBn.alloc (.cells #[.int .i64 j] 2);have hNb:=Blk.new1 w6 2 (.int .i64 j);obtain ⟨x0,x1,ltx⟩:=(hBn.box 1 rfl).1.all2
        have hm50:m≤60:=by omega
        have hwb6:wb≤w6.heap.size:=by have:=hwb'.out; omega
        clear b0 r0 q0 rb rr hrow hcell p0 hAA hBn hb6 hz
        go_wp2_with (first
          | (at_builtin; (refine wpList_append_bun _ rfl _ _ 27 rfl 2 (.int .i64 0) 1 8 Try.underlying27 info_int64 rfl (by decide) hBu (by simp <;> omega) 0 _ rfl rfl ⟨w6.heap.size, 0, none⟩ 1 1 [.int .i64 j] rfl (news_blk hNb) (int_own _ _) rfl (by simp [Value.oneCell']) (by omega) (by omega) (by unfold maxLen; omega) ?_); intro g7 cap7 w7 hbun7 hb7
             have hs7:=hbun7.store 1 rfl 0 (.slice (some ⟨g7,0,none⟩) (m+1) cap7);obtain ⟨y0,y1,lty⟩:=(hbun7.box 1 rfl).1.all2;have yf:=(hbun7.box 1 rfl).1.frozen 0;obtain ⟨s0,s1,lts⟩:=(hs7.box 1 rfl).1.all2;have hBu8:=hs7.alloc (.cells #[.int .i64 l] 2);have hNb8:=Blk.new1 (w7.setCell ⟨wb,0,none⟩ (.slice (some ⟨g7,0,none⟩) (m+1) cap7)) 2 (.int .i64 l);rw [World.size_setCell] at hNb8;have hb7s:Below wb w6 (w7.setCell ⟨wb,0,none⟩ (.slice (some ⟨g7,0,none⟩) (m+1) cap7)):=Below.setCell (p:=⟨wb,0,none⟩) ((Below.alloc (Below.refl wb w6) hwb6 (.cells #[.int .i64 j] 2)).trans hb7) (Nat.le_refl _) _
             have hz7:=hb7s.size)
          | (at_builtin; go_must (refine wpList_append_bun _ rfl _ _ 27 rfl 2 (.int .i64 0) 1 8 Try.underlying27 info_int64 rfl (by decide) hBu8 (by simp <;> omega) 2 _ rfl rfl ⟨w7.heap.size, 0, none⟩ 1 1 [.int .i64 l] rfl (news_blk hNb8) (int_own _ _) rfl (by simp [Value.oneCell']) (by omega) (by omega) (by unfold maxLen; omega) ?_); intro g9 cap9 w9 hbun9 hb9
             have hs9:=hbun9.store 1 rfl 1 (.slice (some ⟨g9,0,none⟩) (m+1) cap9);obtain ⟨t0,t1,ltt⟩:=(hbun9.box 1 rfl).1.all2;have tf:=(hbun9.box 1 rfl).1.frozen 1;have hbe9:Below wb wo (w9.setCell ⟨wb,1,none⟩ (.slice (some ⟨g9,0,none⟩) (m+1) cap9)):=Below.setCell (p:=⟨wb,1,none⟩) ((((HB6.out.mono (by have:=hwb'.out; omega)).trans hb7s).alloc (by omega) (.cells #[.int .i64 l] 2)).trans hb9) (Nat.le_refl _) _;obtain ⟨u0,u1,u2,hAW⟩:=HU.out _ (hbe9.mono (by have:=hwb'.out; omega))
             obtain ⟨c0,c1',c2',c3', -, -⟩:=hAW))
        have eq1:q=k - (m+1):=by omega
        have HFin:Hid (WdB wb (w9.setCell ⟨wb,1,none⟩ (.slice (some ⟨g9,0,none⟩) (m+1) cap9)) wb (fxW ac nx k (m+1)) (fyW ac nx k (m+1)) (.slice (some ⟨g7,0,none⟩) (m+1) cap7) (.slice (some ⟨g9,0,none⟩) (m+1) cap9)):=by
          show WdB _ _ _ _ _ _ _
          unfold WdB;rw [hfx,hfy,List.length_append,List.length_append,fxW_len,fyW_len,List.map_append,List.map_append];exact hs9
        have HBe9:=hid (hbe9.mono (show wo.heap.size≤wb by have:=hwb'.out; omega));clear hs9 hbe9 hb7s hBu8 hNb8 hbun9 hb9 hs7 hbun7 hb7 hBu hNb
        go_roundw
        case rel=>exact ⟨m+1,_,_,by omega,rfl,by rw [eq1],HFin.out,HBe9.out⟩
        case measure=>simp [intOf]; omega
theorem Blk.autAt' {w:World} {g T:Nat} {t a:Int} {ac:List (List Bool)} {nx:List (List (List Int))} {s u:Option Addr} {c d:Nat} (L:Blk w g T [.int .i64 t,.int .i64 a,.slice s ac.length c,.slice u nx.length d]) (hr:Rd w (bbD ac) (.slice s ac.length c)) (hq:Rd w (iiiD nx) (.slice u nx.length d)):AutAt w g 0 t a ac nx s u c d:=
 ⟨L.c0,L.c1,L.c2,L.c3,hr,hq⟩
set_option maxHeartbeats 4000000 in
theorem indexTrue_i {bs:List Bool} {s:Option Addr} {c:Nat} {w:World} (hr:Rd w (boolsD bs) (.slice s bs.length c)):
  Calls Try.prog 149 #[.slice s bs.length c,.bool true] w fun e w'=>∃r,e= .returned (.int .i64 r)∧IdxT bs r∧w'=w:=by
 obtain ⟨hlen,hcap⟩:=nest_bd hr;unfold maxLen at hcap
 go_enter Try.func149,Try.ntmps149
 go_wp2_with fail
 go_loop [8] (fun i=>∃k:Nat,k≤bs.length∧i= .int .i64 k∧Hid (∀j:Nat,j<k→bs[j]? =some false)) (fun i=>bs.length - (intOf i).toNat)
 case atStart=>exact ⟨0,by omega,rfl,fun j hj=>by omega⟩
 case round=>
  obtain ⟨k,hk,rfl,HA⟩:=hrel;have hk0:=Int.natCast_nonneg k
  by_cases hlt:k<bs.length
  ·obtain ⟨z,hz⟩:∃z,bs[k]? =some z:=⟨_,List.getElem?_eq_getElem hlt⟩;obtain ⟨sb,so,rfl⟩:=nest_some (f:=D.bool) hr (by omega);obtain ⟨hbl,z0⟩:=bool_in hr hz
   have hkb:(k:Int)<(bs.length:Int):=by omega
   have Hz:=hid hz;clear hz
   cases z
   ·have HA2:Hid (∀j:Nat,j<k+1→bs[j]? =some false):=fun j hj=>by
     by_cases he:j=k
     ·rw [he]; exact Hz.out
     exact HA.out j (by omega)
    go_wp2_with fail
    go_round
    case rel=>exact ⟨k+1,by omega,by go_num,HA2⟩
    case measure=>simp [intOf]; omega
   go_wp2_with fail;go_ret;exact ⟨_,rfl,Or.inr ⟨k,rfl,Hz.out,HA.out⟩,rfl⟩
  obtain rfl:k=bs.length:=by omega
  go_wp2_with fail;go_ret;exact ⟨_,rfl,Or.inl ⟨rfl,HA.out⟩,rfl⟩
theorem containsTrue_i {bs:List Bool} {s:Option Addr} {c:Nat} {w:World} (hr:Rd w (boolsD bs) (.slice s bs.length c)):
  Calls Try.prog 160 #[.slice s bs.length c,.bool true] w fun e w'=>e= .returned (.bool (bs.any id))∧w'=w:=by
 go_enter Try.func160,Try.ntmps160
 go_wp2_with fail;refine (indexTrue_i hr).mono ?_;rintro e w1 ⟨r,rfl,hidx,rfl⟩;have Hr:=hid hidx.any;clear hidx;go_wp2_with fail;go_ret;exact ⟨ret_bool Hr.out,rfl⟩
set_option maxHeartbeats 4000000 in
theorem aliveC_i {z n:Int} {bo bn g T1 T2 T3:Nat} {L:List Int} {w:World} (ho:Blk w bo T1 [.slice (some ⟨g,0,none⟩) L.length L.length]) (hn:Blk w bn T2 [.int .i64 n]) (hg:Blk w g T3 (L.map (Value.int .i64))) (hz:z<L.length) (hn1:1≤n) (hn2:n≤1000) (hL:L.length≤1000):
  Calls Try.prog 162 #[.int .i64 z,.pointer (some ⟨bo,0,none⟩),.pointer (some ⟨bn,0,none⟩)] w fun e w'=>e= .returned (.bool (decide (0≤z)&&(L.getD z.toNat 0==n - 1)))∧Below w.heap.size w w':=by
 have o0:=ho.c0;have n0:=hn.c0;have lo:=ho.lt;have ln:=hn.lt;have lg:=hg.lt
 by_cases h0:0≤z
 ·obtain ⟨k,rfl⟩:∃k:Nat,z=(k:Int):=⟨z.toNat,by omega⟩;obtain ⟨v,hv⟩:∃v,L[k]? =some v:=⟨_,List.getElem?_eq_getElem (by omega)⟩;have x0:=arr_cell hg hv
  have HV:Hid (L.getD ((k:Int)).toNat 0=v):=by show _=_; rw [Int.toNat_natCast,List.getD_eq_getElem?_getD,hv]; rfl
  rw [HV.out]
  have ge:decide ((0:Int)≤(k:Int))=true:=by simp
  rw [ge];have go0:=fun d os=>cell_regrown o0 d os;have gn0:=fun d os=>cell_regrown n0 d os;have gx0:=fun d os=>cell_regrown x0 d os;clear hv HV ho hn hg
  go_enter Try.func162,Try.ntmps162
  go_wp2_with fail;refine Go.wp_region_quiet_below (by kernel_rfl) (by kernel_rfl) ?_
  repeat (first|go_big_quiet_step ((fail))|quiet_step ((fail)))
  refine wpQuiet_nil ?_; intro _ hw'; obtain ⟨⟨dq,osq⟩,hw''⟩:=hw'; subst hw''; have hq:=below_regrown w dq osq; revert hq; generalize grow (redrawn w dq) osq=w2; intro hq;go_wp2_with fail;go_ret;exact ⟨ret_bool (by simp),hq⟩
 have ge:decide ((0:Int)≤z)=false:=by simp; omega
 rw [ge];clear ho hn hg
 go_enter Try.func162,Try.ntmps162
 go_wp2_with fail;refine Go.wp_region_quiet_below (by kernel_rfl) (by kernel_rfl) ?_
 repeat (first|go_big_quiet_step ((fail))|quiet_step ((fail)))
 refine wpQuiet_nil ?_; intro _ hw'; obtain ⟨⟨dq,osq⟩,hw''⟩:=hw'; subst hw''; have hq:=below_regrown w dq osq; revert hq; generalize grow (redrawn w dq) osq=w2; intro hq;go_wp2_with fail;go_ret;exact ⟨ret_bool (by simp),hq⟩
set_option maxHeartbeats 4000000 in
theorem indexAlive_i {n:Int} {bo bn g T1 T2 T3:Nat} {L row:List Int} {s:Option Addr} {c:Nat} {w:World} (ho:Blk w bo T1 [.slice (some ⟨g,0,none⟩) L.length L.length]) (hn:Blk w bn T2 [.int .i64 n]) (hg:Blk w g T3 (L.map (Value.int .i64))) (hz:∀z∈row,z<L.length) (hn1:1≤n) (hn2:n≤1000) (hL:L.length≤1000)
  (hr:Rd w (intsD row) (.slice s row.length c)):
  Calls Try.prog 166 #[.slice s row.length c,.func (.func 162) #[] #[.pointer (some ⟨bo,0,none⟩),.pointer (some ⟨bn,0,none⟩)]] w fun e w'=>∃r:Int,e= .returned (.int .i64 r)∧decide (0≤r)=hitR (fun z=>L.getD z 0==n - 1) row∧Below w.heap.size w w':=by
 obtain ⟨hlen,hcap⟩:=nest_bd hr;unfold maxLen at hcap;have Ho:=hid ho;have Hn:=hid hn;have Hg:=hid hg;have Hz:=hid hz;clear ho hn hg hz
 go_enter Try.func166,Try.ntmps166
 go_wp2_with fail
 go_loopw [8] (fun i wr=>∃k:Nat,k≤row.length∧i= .int .i64 k∧Hid (hitR (fun z=>L.getD z 0==n - 1) (row.take k)=false)∧Below w.heap.size w wr) (fun i _=>row.length - (intOf i).toNat)
 case atStart=>exact ⟨0,by omega,rfl,by show _=_; simp [hitR],Below.refl _ _⟩
 case round=>
  obtain ⟨k,hk,rfl,HA,hB⟩:=hrel;have hk0:=Int.natCast_nonneg k
  by_cases hlt:k<row.length
  ·obtain ⟨z,hz⟩:∃z,row[k]? =some z:=⟨_,List.getElem?_eq_getElem hlt⟩;obtain ⟨sb,so,rfl⟩:=nest_some (f:=D.int) hr (by omega);obtain ⟨hbl,z0⟩:=int_in (hr.below hB) hz
   have hkb:(k:Int)<(row.length:Int):=by omega
   have hzl:=Hz.out z (List.mem_of_getElem? hz);have HRz:=hid hz;have HB:=hid hB;clear hz hB;go_wp2_with fail;refine (aliveC_i (Ho.out.below HB.out) (Hn.out.below HB.out) (Hg.out.below HB.out) hzl hn1 hn2 hL).mono ?_;rintro e w2 ⟨rfl,hb2⟩;have hBx:Below w.heap.size w w2:=Below.on HB.out hb2 HB.out.size;have HBx:=hid hBx;clear hb2 hBx z0
   cases hp:(decide (0≤z)&&(L.getD z.toNat 0==n - 1))
   ·have HA2:Hid (hitR (fun z=>L.getD z 0==n - 1) (row.take (k+1))=false):=hitR_none HA.out HRz.out hp;clear hp;go_wp2_with fail
    go_roundw
    case rel=>exact ⟨k+1,by omega,by go_num,HA2,HBx.out⟩
    case measure=>simp [intOf]; omega
   have HA2:Hid (hitR (fun z=>L.getD z 0==n - 1) row=true):=hitR_found HRz.out hp;clear hp;go_wp2_with fail;go_ret;exact ⟨_,rfl,by rw [HA2.out]; simp,HBx.out⟩
  obtain rfl:k=row.length:=by omega
  have HA2:Hid (hitR (fun z=>L.getD z 0==n - 1) row=false):=by show _=_; have:=HA.out; rwa [List.take_length] at this
  go_wp2_with fail;go_ret;exact ⟨_,rfl,by rw [HA2.out]; decide,hB⟩
theorem containsAlive_i {n:Int} {bo bn g T1 T2 T3:Nat} {L row:List Int} {s:Option Addr} {c:Nat} {w:World} (ho:Blk w bo T1 [.slice (some ⟨g,0,none⟩) L.length L.length]) (hn:Blk w bn T2 [.int .i64 n]) (hg:Blk w g T3 (L.map (Value.int .i64))) (hz:∀z∈row,z<L.length) (hn1:1≤n) (hn2:n≤1000) (hL:L.length≤1000)
  (hr:Rd w (intsD row) (.slice s row.length c)):
  Calls Try.prog 161 #[.slice s row.length c,.func (.func 162) #[] #[.pointer (some ⟨bo,0,none⟩),.pointer (some ⟨bn,0,none⟩)]] w fun e w'=>e= .returned (.bool (hitR (fun z=>L.getD z 0==n - 1) row))∧Below w.heap.size w w':=by
 go_enter Try.func161,Try.ntmps161
 go_wp2_with fail;refine (indexAlive_i ho hn hg hz hn1 hn2 hL hr).mono ?_;rintro e w1 ⟨r,rfl,hh,hb⟩;have Hr:=hid hh;clear hh;go_wp2_with fail;go_ret;exact ⟨ret_bool Hr.out,hb⟩
end Go.Proofs.Ytbflhjjnemdecaa
