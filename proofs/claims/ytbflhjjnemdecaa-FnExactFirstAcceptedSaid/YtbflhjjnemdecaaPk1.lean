/-
  Parts of a proof, joined: Own, Ints, Word, Sig, Trace, MarkW, App, Rg. No condition.
-/
import Derived.Test.YtbflhjjnemdecaaProg
import Derived.Deep.AppendLies
import Derived.Test.YtbflhjjnemdecaaPk0
set_option linter.unusedVariables false
set_option linter.unusedSimpArgs false
namespace Go.Proofs.Ytbflhjjnemdecaa
open Go.ChangeShapes Go.WideShapes Go.ChangeAt Go.RowKit
theorem own:ownKnob Try.prog.godebug=none:=by kernel_rfl
theorem laid:laidOutB Try.prog=true:=by kernel_rfl
theorem cells_int64:Try.prog.cellsOf 2=1:=by kernel_rfl
theorem cells_int64s:Try.prog.cellsOf 27=1:=by kernel_rfl
set_option maxRecDepth 10000
section
variable {H:Type} {enc:TypeId × Value→H} {W:World} {base:Nat} {sp:Nat→Bool} {hd:Bool} {v:Value} {d:DataW H} {ps:List MemPlace}
end
theorem info_int64:(Try.prog.info? 2).map (fun i=>(i.zero,i.size,i.bytes))=some (some (.int .i64 0),1,8):=by kernel_rfl
theorem szInt64S_any (zs:List Int) (s:Option Addr) (cap:Nat) (left:Int) (w:World) (hr:Rd w (intsD zs) (.slice s zs.length cap)) (h0:0≤left) (h1:left≤1048576):
  Calls Try.prog 49 #[.slice s zs.length cap,.int .i64 left] w fun e w'=>(∃r:Int,e= .returned (.int .i64 r)∧r≤left∧ -1≤r∧(0≤r→(zs.length:Int)+r≤left))∧w=w':=by
 obtain ⟨-, hlen,hcap, -⟩:=hr.sl_at;unfold maxLen at hcap
 by_cases hneg:left - (zs.length:Int)<0
 ·go_enter Try.func49,Try.ntmps49
  go_wp2_with fail;go_ret;exact ⟨⟨-1,rfl,by omega,by omega,by omega⟩,rfl⟩
 have hd:decide (left - (zs.length:Int)<0)=false:=by simpa using hneg
 go_enter Try.func49,Try.ntmps49
 go_wp2_with fail;go_ret;exact ⟨⟨_,rfl,by omega,by omega,by omega⟩,rfl⟩
theorem toInt64S_any (zs:List Int) (s:Option Addr) (cap:Nat) (w:World) (hr:Rd w (intsD zs) (.slice s zs.length cap)) (h1:zs.length≤1048576):
  Calls Try.prog 54 #[.slice s zs.length cap] w fun e w'=>∃s' c',e= .returned (.slice s' zs.length c')∧Fresh w w' (intsD zs) (.slice s' zs.length c')∧Below w.heap.size w w':=by
 obtain ⟨-, hlen,hcap, -⟩:=hr.sl_at;unfold maxLen at hcap;obtain ⟨i0,hi,hz0,hz1,hz2⟩:=info_parts info_int64
 go_enter Try.func54,Try.ntmps54
 go_wp2_with (at_make; refine wpList_make_full _ rfl _ _ 27 rfl w.heap.size 2 i0 (.int .i64 0) 1 Try.underlying27 hi hz0 hz1 .i64 .i64 _ _ zs.length rfl rfl rfl rfl (by rw [hz2]; omega) (by unfold maxLen; omega) (Nat.le_refl _) ?_; intro w0 hown hgrow)
 have hp:=Part.start hown;have hB0:Below w.heap.size w w0:=Below.grown (Below.refl _ _) hgrow (Nat.le_refl _) (by simp);have hz0':=hp.lt;clear hown hgrow
 go_loopw [4] (fun i wr=>∃k:Nat,k≤zs.length∧i= .int .i64 k∧Part wr w.heap.size 2 ((zs.take k).map D.int) (zs.length*1)∧Below w.heap.size w wr) (fun i _=>zs.length - (intOf i).toNat)
 case atStart=>exact ⟨0,by omega,rfl,by simpa using hp,hB0⟩
 case round=>
  clear hp hB0 hz0';obtain ⟨k,hk,rfl,hp,hB⟩:=hrel
  by_cases hlt:k<zs.length
  ·obtain ⟨z,hz⟩:∃z,zs[k]? =some z:=⟨_,List.getElem?_eq_getElem hlt⟩;obtain ⟨b,o,rfl⟩:=int_some hr (by omega);obtain ⟨_,g0⟩:=int_in (hr.below hB) hz;obtain ⟨y0,d0⟩:=hp.cell k (by omega);have z0:=hp.frozen k;have Hst:=hid (hp.int hz (by omega));have hlt2:=hp.lt;go_wp2_with fail
   go_roundw
   case rel=>exact ⟨k+1,by omega,by go_num,Hst.out,bel⟩
   case measure=>simp [intOf]; omega
  obtain rfl:k=zs.length:=by omega
  rw [List.take_length] at hp;go_wp2_with fail;go_ret;exact ⟨_,_,rfl,hp.done (Nat.le_refl _) (by simp) (Nat.le_refl _) (by unfold maxLen; omega),hB⟩
theorem eqInt64S_any (xs ys:List Int) (s t:Option Addr) (c d:Nat) (w:World) (hr:Rd w (intsD xs) (.slice s xs.length c)) (hr':Rd w (intsD ys) (.slice t ys.length d)):
  Calls Try.prog 59 #[.slice s xs.length c,.slice t ys.length d] w fun e w'=>e= .returned (.bool (eqb xs ys))∧Below w.heap.size w w':=by
 obtain ⟨-, hlen,hcap, -⟩:=hr.sl_at;obtain ⟨-, hlen',hcap', -⟩:=hr'.sl_at;unfold maxLen at hcap hcap'
 by_cases hl:xs.length=ys.length
 ·have b1:((xs.length:Int) !=(ys.length:Int))=false:=by simp [hl]
  have Hl:=hid hl;clear hl
  go_enter Try.func59,Try.ntmps59
  go_wp2_with fail
  go_loopw [5] (fun i wr=>∃k:Nat,k≤xs.length∧i= .int .i64 k∧xs.take k=ys.take k∧Below w.heap.size w wr) (fun i _=>xs.length - (intOf i).toNat)
  case atStart=>exact ⟨0,by omega,rfl,by simp,Below.refl _ _⟩
  case round=>
   obtain ⟨k,hk,rfl,hpre,hB⟩:=hrel;have Hpre:=hid hpre;clear hpre
   by_cases hlt:k<xs.length
   ·have hlt':k<ys.length:=by have:=Hl.out; omega
    obtain ⟨x,hx⟩:∃e,xs[k]? =some e:=⟨_,List.getElem?_eq_getElem hlt⟩;obtain ⟨y,hy⟩:∃e,ys[k]? =some e:=⟨_,List.getElem?_eq_getElem hlt'⟩;obtain ⟨b,o,rfl⟩:=int_some hr (by omega);obtain ⟨b',o',rfl⟩:=int_some hr' (by omega);obtain ⟨-, g0⟩:=int_in (hr.below hB) hx;obtain ⟨-, g1⟩:=int_in (hr'.below hB) hy;have ha:=Int.natCast_nonneg k
    have hb:(k:Int)<(xs.length:Int):=by omega
    have hb':(k:Int)<(ys.length:Int):=by omega
    by_cases hxy:x=y
    ·have Hst:Hid (xs.take (k+1)=ys.take (k+1)):=by
      have h1:=(List.getElem?_eq_some_iff.1 hx).2;have h2:=(List.getElem?_eq_some_iff.1 hy).2
      show _=_
      rw [List.take_succ_eq_append_getElem hlt,List.take_succ_eq_append_getElem hlt',Hpre.out,h1,h2,hxy]
     subst hxy
     have b2:(x !=x)=false:=by simp
     go_wp2_with fail
     go_quiet (fail)
     go_wp2_with fail
     go_roundw
     case rel=>exact ⟨k+1,by omega,by go_num,Hst.out,hB.trans (below_draws _ _ _)⟩
     case measure=>simp [intOf]; omega
    have b2:(x !=y)=true:=by simp [hxy]
    have c2:eqb xs ys=false:=eqb_false (by
     intro h;rw [h] at hx
     exact hxy (Option.some.inj (hx.symm.trans hy)))
    go_wp2_with fail
    go_quiet (fail)
    go_wp2_with fail;go_ret;exact ⟨by first|rfl|(rw [c2]; rfl),hB.trans (below_draws _ _ _)⟩
   obtain rfl:k=xs.length:=by omega
   have c2:eqb xs ys=true:=eqb_true (by
    have:=Hpre.out
    rwa [List.take_length,Hl.out,List.take_length] at this)
   go_wp2_with fail;go_ret;exact ⟨by first|rfl|(rw [c2]; rfl),hB⟩
 have b1:((xs.length:Int) !=(ys.length:Int))=true:=by simp; omega
 have c2:eqb xs ys=false:=eqb_false (by intro h; rw [h] at hl; exact hl rfl);rw [c2]
 go_enter Try.func59,Try.ntmps59
 go_wp2_with fail;go_ret;exact ⟨rfl,Below.refl _ _⟩
def SzR (n:Nat) (left:Int) (e:Ending):Prop:=∃r:Int,e= .returned (.int .i64 r)∧r≤left∧ -1≤r∧(0≤r→(n:Int)+r≤left)
theorem eqWord_i {xs ys xs' ys':List Int} {s t s' t':Option Addr} {c d c' d':Nat} {w:World} (hr:Rd w (intsD xs) (.slice s xs.length c)) (hr2:Rd w (intsD ys) (.slice t ys.length d))
  (hr':Rd w (intsD xs') (.slice s' xs'.length c')) (hr2':Rd w (intsD ys') (.slice t' ys'.length d')):
  Calls Try.prog 18 #[.agg #[.slice s xs.length c,.slice t ys.length d],.agg #[.slice s' xs'.length c',.slice t' ys'.length d']] w fun e w'=>e= .returned (.bool (eqb xs xs'&&eqb ys ys'))∧Below w.heap.size w w':=by
 go_enter Try.func18,Try.ntmps18
 go_wp2_with fail;have L:=(Blk.new2 w 40 (.slice s xs.length c) (.slice t ys.length d)).alloc (.cells #[.slice s' xs'.length c',.slice t' ys'.length d'] 40);have M:=Blk.new2 (w.alloc (.cells #[.slice s xs.length c,.slice t ys.length d] 40)) 40 (.slice s' xs'.length c') (.slice t' ys'.length d');refine (eqInt64S_any xs xs' _ _ _ _ _ (by repeat (first|exact hr|apply Rd.alloc)) (by repeat (first|exact hr'|apply Rd.alloc))).mono ?_;rintro e w1 ⟨rfl,hb⟩;have hB:Below w.heap.size w w1:=Below.on (bel) hb (by simp; omega);replace L:=L.below hb;replace M:=M.below hb;simp at M;clear hb;have l1:=L.c1;have m1:=M.c1
 cases h1:eqb xs xs'
 ·go_wp2_with fail;go_ret;exact ⟨ret_bool (by rw [h1]; rfl),hB⟩
 go_wp2_with fail;refine (eqInt64S_any ys ys' _ _ _ _ _ (hr2.below hB) (hr2'.below hB)).mono ?_;rintro e w2 ⟨rfl,hb⟩;replace hB:=Below.on hB hb hB.size;clear hb
 cases h2:eqb ys ys'
 all_goals
  go_wp2_with fail;go_ret;exact ⟨ret_bool (by rw [h1,h2]; rfl),hB⟩
def inB (n lo hi:Int):Bool:=decide (lo≤n)&&decide (n≤hi)
def sigB (t a:Int):Bool:=inB t 0 3&&inB a 0 4
theorem within_any (n lo hi:Int) (w:World):Calls Try.prog 68 #[.int .i64 n,.int .i64 lo,.int .i64 hi] w fun e w'=>e= .returned (.bool (inB n lo hi))∧w=w':=by
 by_cases h1:lo≤n
 ·by_cases h2:n≤hi
  ·have e1:inB n lo hi=true:=by simp [inB,h1,h2]
   rw [e1]
   go_enter Try.func68,Try.ntmps68
   go_wp2
   go_ret;exact ⟨rfl,rfl⟩
  have e1:inB n lo hi=false:=by simp [inB,h2]
  rw [e1]
  go_enter Try.func68,Try.ntmps68
  go_wp2
  go_ret;exact ⟨rfl,rfl⟩
 have e1:inB n lo hi=false:=by simp [inB,h1]
 rw [e1]
 go_enter Try.func68,Try.ntmps68
 go_wp2
 go_ret;exact ⟨rfl,rfl⟩
theorem in_any (n lo hi:Int) (w:World):Calls Try.prog 63 #[.int .i64 n,.int .i64 lo,.int .i64 hi] w fun e w'=>e= .returned (.bool (inB n lo hi))∧w=w':=by
 by_cases h1:lo≤n
 ·by_cases h2:n≤hi
  ·have e1:inB n lo hi=true:=by simp [inB,h1,h2]
   rw [e1]
   go_enter Try.func63,Try.ntmps63
   go_wp2
   go_ret;exact ⟨rfl,rfl⟩
  have e1:inB n lo hi=false:=by simp [inB,h2]
  rw [e1]
  go_enter Try.func63,Try.ntmps63
  go_wp2
  go_ret;exact ⟨rfl,rfl⟩
 have e1:inB n lo hi=false:=by simp [inB,h1]
 rw [e1]
 go_enter Try.func63,Try.ntmps63
 go_wp2
 go_ret;exact ⟨rfl,rfl⟩
theorem toSig_any (t a:Int) (w:World):Calls Try.prog 13 #[.agg #[.int .i64 t,.int .i64 a]] w fun e w'=>e= .returned (.agg #[.int .i64 t,.int .i64 a])∧Below w.heap.size w w':=by
 go_enter Try.func13,Try.ntmps13
 go_wp2
 exact bodyPost_ret (v:= .agg #[.int .i64 t,.int .i64 a]) (by simp [results,Try.results13,go_sem]) rfl ⟨rfl,bel⟩
theorem l01Sig_any (t a:Int) (w:World):Calls Try.prog 99 #[.agg #[.int .i64 t,.int .i64 a]] w fun e w'=>e= .returned (.bool (sigB t a))∧Below w.heap.size w w':=by
 go_enter Try.func99,Try.ntmps99
 go_wp2_with ((go_at_call 63; ((with_reducible refine (in_any _ _ _ _).mono ?_); rintro e w' ⟨rfl,rfl⟩)))
 all_goals go_ret
 all_goals exact ⟨by simp [sigB, *],bel⟩
theorem implValidSig_any (t a:Int) (w:World):Calls Try.prog 107 #[.agg #[.int .i64 t,.int .i64 a]] w fun e w'=>e= .returned (.bool (sigB t a))∧Below w.heap.size w w':=by
 go_enter Try.func107,Try.ntmps107
 go_wp2_with ((go_at_call 68; ((with_reducible refine (within_any _ _ _ _).mono ?_); rintro e w' ⟨rfl,rfl⟩)))
 all_goals go_ret
 all_goals exact ⟨by simp [sigB, *],bel⟩
open Go.Sort
def atomsN (t:Int):Int:=if t=0 then 1 else if t=1 then 2 else if t=2 then 4 else 8
theorem atomsN_bd (t:Int):1≤atomsN t∧atomsN t≤8:=by unfold atomsN; split<;>(try split)<;>(try split)<;>omega
theorem sigB_bd {t a:Int} (h:sigB t a=true):0≤t∧t≤3∧0≤a∧a≤4:=by
 simp [sigB,inB] at h
 omega
theorem atomsIn_i {t a:Int} {w:World} (h0:0≤t) (h1:t≤3):Calls Try.prog 118 #[.agg #[.int .i64 t,.int .i64 a]] w fun e w'=>e= .returned (.int .i64 (atomsN t))∧Below w.heap.size w w':=by
 have h:t=0∨t=1∨t=2∨t=3:=by omega
 rcases h with h|h|h|h
 all_goals
  subst h
  go_enter Try.func118,Try.ntmps118
  go_wp2
  go_ret;exact ⟨rfl,bel⟩
theorem l01Atoms_i {t a:Int} {w:World} (h0:0≤t) (h1:t≤3):Calls Try.prog 103 #[.agg #[.int .i64 t,.int .i64 a]] w fun e w'=>e= .returned (.int .i64 (atomsN t))∧Below w.heap.size w w':=by
 have h:t=0∨t=1∨t=2∨t=3:=by omega
 rcases h with h|h|h|h
 all_goals
  subst h
  go_enter Try.func103,Try.ntmps103
  go_wp2
  go_ret;exact ⟨rfl,bel⟩
theorem wrap_of {n:Int} (h0: -1000000≤n) (h1:n≤1000000000000000000):IntKind.i64.wrap n=n:=IntWalk.i64_in n (by omega)
theorem markInt64S_i {zs:List Int} {s:Option Addr} {c k:Nat} {F:List Nat} {w:World} (h:Ow w (intsD zs) (.slice s zs.length c) F) (hn:F.Nodup) (hk:k≤1000000000000) (hlen:zs.length≤1000000000000):
  Calls Try.prog 79 #[.slice s zs.length c,.int .i64 k] w fun e w'=>e= .returned (.int .i64 (k+zs.length:Nat))∧Ow w' (D.mark (intsD zs) k) (.slice s zs.length c) F∧Only F w w':=by
 have H0:Ow w (.sl 1 zs.length (mkd (zs.map D.int) 0 k)) (.slice s zs.length c) F:=by rw [mkd_zero]; exact h
 go_enter Try.func79,Try.ntmps79
 go_wp2_with fail
 go_loopw [1,5] (fun q i wr=>∃j:Nat,j≤zs.length∧i= .int .i64 j∧q= .int .i64 (k+j:Nat)∧Ow wr (.sl 1 zs.length (mkd (zs.map D.int) j k)) (.slice s zs.length c) F∧Only F w wr) (fun _ i _=>zs.length - (intOf i).toNat)
 case atStart=>exact ⟨0,by omega,rfl,rfl,H0,Only.refl _ _⟩
 case round=>
  clear h H0;obtain ⟨j,hj,rfl,rfl,h,hO⟩:=hrel
  by_cases hlt:j<zs.length
  ·obtain ⟨z,hz⟩:∃e,zs[j]? =some e:=⟨_,List.getElem?_eq_getElem hlt⟩;obtain ⟨b,o,rfl⟩:=h.spot (by omega);have hat:=mkd_at (ints_at hz) (Nat.le_refl j) k;obtain ⟨g0,g1,g2,g3⟩:=h.int_cell hn hat
   have Hst:Hid (Ow (wr.setCell ⟨b,o+j,none⟩ (.int .i64 (k+j:Nat))) (.sl 1 zs.length (mkd (zs.map D.int) (j+1) k)) (.slice (some ⟨b,o,none⟩) zs.length c) F∧Only F w (wr.setCell ⟨b,o+j,none⟩ (.int .i64 (k+j:Nat)))):=by
    obtain ⟨q1,q2⟩:=g3 (k+j:Nat);refine ⟨?_,hO.trans q2⟩;have e:=mkd_step (ints_at hz) k;rw [ints_take _ _ hj] at e;rw [←e];exact q1
   clear g3 hat;go_wp2_with fail
   go_roundw
   case rel=>exact ⟨j+1,by omega,by go_num,by go_num,Hst.out.1,Hst.out.2⟩
   case measure=>simp [intOf]; omega
  obtain rfl:j=zs.length:=by omega
  have e:=mkd_all (zs.map D.int) k;rw [List.length_map] at e;rw [e] at h;go_wp2_with fail;go_ret;exact ⟨rfl,h,hO⟩
theorem heldInt64S_i {zs:List Int} {s:Option Addr} {c k:Nat} {w:World} (h:Rd w (D.mark (intsD zs) k) (.slice s zs.length c)) (hk:k≤1000000000000) (hlen:zs.length≤1000000000000):
  Calls Try.prog 80 #[.slice s zs.length c,.int .i64 k] w fun e w'=>e= .returned (.int .i64 (k+zs.length:Nat))∧w=w':=by
 have h':=h;unfold intsD D.mark at h';obtain ⟨-, -, -, -, -, h4⟩:=h'.sl_at
 go_enter Try.func80,Try.ntmps80
 go_wp2_with fail
 go_loop [1,5] (fun q i=>∃j:Nat,j≤zs.length∧i= .int .i64 j∧q= .int .i64 (k+j:Nat)) (fun _ i=>zs.length - (intOf i).toNat)
 case atStart=>exact ⟨0,by omega,rfl,rfl⟩
 case round=>
  obtain ⟨j,hj,rfl,rfl⟩:=hrel
  by_cases hlt:j<zs.length
  ·obtain ⟨z,hz⟩:∃e,zs[j]? =some e:=⟨_,List.getElem?_eq_getElem hlt⟩;have hat:=markL_at (ints_at hz) k;rw [ints_take _ _ hj] at hat
   rcases h4 with h4|⟨b,o,rfl,h4⟩
   ·omega
   obtain ⟨x,hx,hr⟩:=h4 _ _ hat;simp only [D.mark,Rd] at hr;subst hr;clear h4 hat;go_wp2_with fail
   go_round
   case rel=>exact ⟨j+1,by omega,by go_num,by go_num⟩
   case measure=>simp [intOf]; omega
  obtain rfl:j=zs.length:=by omega
  go_wp2_with fail;go_ret;exact ⟨rfl,rfl⟩
theorem Ows.two {w:World} {d e:D} {u v:Value} {F:List Nat} (h:Ows w [d,e] [u,v] F):∃G K,F=G++K∧Ow w d u G∧Ow w e v K:=by
 simp only [Ows] at h;obtain ⟨x,r,G,K,e1,rfl,h1,y,q,A,B,e2,rfl,h2,e3,rfl⟩:=h;simp only [List.cons.injEq] at e1;obtain ⟨rfl,rfl⟩:=e1;simp only [List.cons.injEq] at e2;obtain ⟨rfl,_⟩:=e2;exact ⟨G,A,by simp,h1,h2⟩
theorem Ows.mk2 {w:World} {d e:D} {u v:Value} {G K:List Nat} (h:Ow w d u G) (k:Ow w e v K):Ows w [d,e] [u,v] (G++K):=by
 have:=Ows.cons h (Ows.cons k Ows.nil)
 simpa using this
def wordD (xs ys:List Int):List D:=[intsD xs,intsD ys]
theorem markWord_i {xs ys:List Int} {s t:Option Addr} {c d k:Nat} {F:List Nat} {w:World} (h:Ows w (wordD xs ys) [.slice s xs.length c,.slice t ys.length d] F) (hn:F.Nodup) (hk:k≤100000000000) (hx:xs.length≤100000000000) (hy:ys.length≤100000000000):
  Calls Try.prog 28 #[.agg #[.slice s xs.length c,.slice t ys.length d],.int .i64 k] w fun e w'=>e= .returned (.int .i64 (k+xs.length+ys.length:Nat))∧
   Ows w' (D.markL (wordD xs ys) k) [.slice s xs.length c,.slice t ys.length d] F∧Only F w w':=by
 obtain ⟨G,K,rfl,h1,h2⟩:=h.two;rw [List.nodup_append] at hn;obtain ⟨nG,nK,dis⟩:=hn;have gl:=h1.lt;have kl:=h2.lt
 go_enter Try.func28,Try.ntmps28
 go_wp2_with fail;have L:=Blk.new2 w 40 (.slice s xs.length c) (.slice t ys.length d);have h1':=h1.keep (w':=w.alloc (.cells #[.slice s xs.length c,.slice t ys.length d] 40)) fun b hb=>Below.heap_alloc w _ b (gl b hb);have h2':=h2.keep (w':=w.alloc (.cells #[.slice s xs.length c,.slice t ys.length d] 40)) fun b hb=>Below.heap_alloc w _ b (kl b hb);have hO:Only (G++K) w (w.alloc (.cells #[.slice s xs.length c,.slice t ys.length d] 40)):=(Only.refl _ _).alloc _;generalize w.alloc (.cells #[.slice s xs.length c,.slice t ys.length d] 40)=w0 at L h1' h2' hO ⊢;refine (markInt64S_i h1' nG (by omega) (by omega)).mono ?_;rintro e w1 ⟨rfl,m1,o1⟩;replace L:=L.keep (o1.block _ L.lt (fun hm=>by have:=gl _ hm; omega));have h2'':=h2'.keep fun b hb=>o1.block b (h2'.lt b hb) (fun hm=>dis b hm b hb rfl);replace hO:=hO.trans (o1.more fun b hb=>List.mem_append_left K hb);clear o1;have l1:=L.c1;go_wp2_with fail;refine (markInt64S_i h2'' nK (by omega) (by omega)).mono ?_;rintro e w2 ⟨rfl,m2,o2⟩;have m1':=m1.keep fun b hb=>o2.block b (m1.lt b hb) (fun hm=>dis b hb b hm rfl);replace hO:=hO.trans (o2.more fun b hb=>List.mem_append_right G hb)
 have e1:D.markL (wordD xs ys) k=[D.mark (intsD xs) k,D.mark (intsD ys) (k+xs.length)]:=by
  simp only [wordD,D.markL];rw [show D.marks (intsD xs)=xs.length from marksL_ints xs]
 clear o2 l1;go_wp2_with fail;go_ret;exact ⟨rfl,by rw [e1]; exact Ows.mk2 m1' m2,hO⟩
theorem heldWord_i {xs ys:List Int} {s t:Option Addr} {c d k:Nat} {w:World} (h:Rds w (D.markL (wordD xs ys) k) [.slice s xs.length c,.slice t ys.length d]) (hk:k≤100000000000) (hx:xs.length≤100000000000) (hy:ys.length≤100000000000):
  Calls Try.prog 29 #[.agg #[.slice s xs.length c,.slice t ys.length d],.int .i64 k] w fun e w'=>e= .returned (.int .i64 (k+xs.length+ys.length:Nat))∧Below w.heap.size w w':=by
 have e1:D.markL (wordD xs ys) k=[D.mark (intsD xs) k,D.mark (intsD ys) (k+xs.length)]:=by
  simp only [wordD,D.markL];rw [show D.marks (intsD xs)=xs.length from marksL_ints xs]
 rw [e1] at h;obtain ⟨h1,h2⟩:=h.two
 go_enter Try.func29,Try.ntmps29
 go_wp2_with fail;refine (heldInt64S_i (h1.alloc _) (by omega) (by omega)).mono ?_;rintro e w1 ⟨rfl,rfl⟩;go_wp2_with fail;refine (heldInt64S_i (h2.alloc _) (by omega) (by omega)).mono ?_;rintro e w1 ⟨rfl,rfl⟩;go_wp2_with fail;go_ret;exact ⟨rfl,bel⟩
open Go.Deep
def App (W w:World) (t:TypeId) (size n:Nat) (ds:List D) (v:Value):Prop:=
 ∃xs F,w.ownsRow W.heap.size t size v n xs∧Ows w ds xs F∧F.Nodup∧∀b∈F,W.heap.size≤b∧v.ownBlock≠some b
theorem App.empty {W w:World} {t size g:Nat} (h:Blk w g t []) (hg:W.heap.size≤g):App W w t size 0 [] (.slice (some ⟨g,0,none⟩) 0 0):=
 ⟨[],[],⟨by simp,Or.inr ⟨g,0, #[],rfl,hg,by simpa [Blk] using h,by omega,by simp [maxLen],by simp,by simp⟩⟩,Ows.nil,by simp,by simp⟩
theorem App.len {W w:World} {t size n:Nat} {ds:List D} {v:Value} (h:App W w t size n ds v):ds.length=n*size:=by
 obtain ⟨xs,F,h1,h2,_⟩:=h;rw [←h2.length,h1.1]
theorem App.shape {W w:World} {t size n:Nat} {ds:List D} {v:Value} (h:App W w t size n ds v):∃a cap,v= .slice a n cap∧n≤cap∧cap≤maxLen:=by
 obtain ⟨xs,F,⟨_,h1⟩,_⟩:=h
 rcases h1 with ⟨rfl,rfl⟩|⟨g,cap,cur,rfl,_,_,h2,h3,_⟩
 ·exact ⟨none,0,rfl,by omega,by simp [maxLen]⟩
 exact ⟨_,cap,rfl,h2,h3⟩
theorem App.lt {W w:World} {t size n:Nat} {ds:List D} {v:Value} (h:App W w t size n ds v):∀k,v.ownBlock=some k→W.heap.size≤k∧k<w.heap.size:=by
 obtain ⟨xs,F,h1,_⟩:=h;exact h1.lt
theorem App.keep {W w w':World} {t size n:Nat} {ds:List D} {v:Value} (h:App W w t size n ds v) (hk:∀b,b<w.heap.size→W.heap.size≤b→w'.heap[b]? =w.heap[b]?):App W w' t size n ds v:=by
 obtain ⟨xs,F,h1,h2,h3,h4⟩:=h;refine ⟨xs,F,⟨h1.1, ?_⟩,h2.keep fun b hb=>hk b (h2.lt b hb) (h4 b hb).1,h3,h4⟩
 rcases h1.2 with h|⟨g,cap,cur,e,hg,hb,hr⟩
 ·exact Or.inl h
 exact Or.inr ⟨g,cap,cur,e,hg,(hk g (Array.getElem?_eq_some_iff.1 hb).1 hg).trans hb,hr⟩
theorem App.below {W w w':World} {t size n:Nat} {ds:List D} {v:Value} (h:App W w t size n ds v) (hb:Below w.heap.size w w'):App W w' t size n ds v:=h.keep fun b hl _=>hb.block b hl
theorem App.fresh {W w:World} {t size n:Nat} {ds:List D} {v:Value} (h:App W w t size n ds v):Fresh W w (.sl size n ds) v:=by
 have hlen:=h.len;obtain ⟨xs,F,h1,h2,h3,h4⟩:=h;have hxl:=h1.1
 rcases h1.2 with ⟨rfl,rfl⟩|⟨g,cap,cur,rfl,hg,hb,h5,h6,h7,h8⟩
 ·exact ⟨[],by simp only [Ow]; exact ⟨_,0,rfl,by omega,by simp [maxLen],hlen,by simp,Or.inl (by simp)⟩,by simp,by simp⟩
 by_cases h0:n=0
 ·exact ⟨[],by simp only [Ow]; exact ⟨_,cap,rfl,h5,h6,hlen,by simp,Or.inl (by simp [h0])⟩,by simp,by simp⟩
 have hblk:Blk w g t cur.toList:=by simpa [Blk] using hb
 refine ⟨g::F,by simp only [Ow]; exact ⟨_,cap,rfl,h5,h6,hlen,by simp,Or.inr ⟨g,0,xs,F,rfl,rfl,hblk.free,hblk.row (by rw [hxl]; exact h8),h2⟩⟩, ?_, ?_⟩
 ·rw [List.nodup_cons];exact ⟨fun hm=>(h4 g hm).2 rfl,h3⟩
 intro b hm
 rcases List.mem_cons.1 hm with rfl|hm
 ·exact hg
 exact (h4 b hm).1
theorem App.rd {W w:World} {t size n:Nat} {ds:List D} {v:Value} (h:App W w t size n ds v):Rd w (.sl size n ds) v:=h.fresh.rd
theorem wpList_append_app {P:Program} (w:World) {ops:Array Oper} {rest:List Oper} {o:Oper} {a:Act} {Q:Exit→Act→World→Prop} (hgd:o.guard=none) (s x:Operand) (t:TypeId)
  (ho:o.op= .call { callee:= .builtin .append,args:= #[s,x],argTypes:= #[t,t] })
  (e:TypeId) (z:Value) (size bytes:Nat) (ht:P.underlying t=some (.slice e)) (hinfo:(P.info? e).map (fun i=>(i.zero,i.size,i.bytes))=some (some z,size,bytes)) (hzs:z.cells.size=size) (hsz:0<size)
  {W w1:World} (v:Value) {n:Nat} {ds:List D} (hs:a.eval s=v) (happ:App W w1 e size n ds v) (hb:Below w1.heap.size w1 w) (hB:W.heap.size≤w1.heap.size)
  (ad:Addr) (m c:Nat) {es:List D} (news:List Value) (hx:a.eval x= .slice (some ad) m c) (hnews:∀j u,news[j]? =some u→w.cell? (ad.add j)=some u) (hes:Freshs w1 w es news)
  (hl:news.length=m*size) (h1:∀u∈news,u.oneCell'=true) (hm:0<m) (hbytes:(n+m)*bytes≤140737488355328) (h63:n+m≤maxLen)
  (h:∀g cap w',App W w' e size (n+m) (ds++es) (.slice (some ⟨g,0,none⟩) (n+m) cap)→Below W.heap.size w w'→wpList P ops Q rest (a.put o.dst (.slice (some ⟨g,0,none⟩) (n+m) cap)) w'):wpList P ops Q (o::rest) a w:=by
 obtain ⟨i,hi,hz,hsize,hby⟩:=info_parts hinfo;have hz1:=hb.size;obtain ⟨xs,F,a1,a2,a3,a4⟩:=happ.below hb;have a5:=happ.lt;obtain ⟨G,g1,g2,g3⟩:=hes;obtain ⟨xs',F',b1,b2,b3,b4⟩:=happ
 -- the same cells and blocks as in w1
 have a6:∀b∈F',b<w1.heap.size:=b2.lt
 have b1':w.ownsRow W.heap.size e size v n xs':=by
  refine ⟨b1.1, ?_⟩
  rcases b1.2 with h|⟨g,cap,cur,q,hg,hbb,hr⟩
  ·exact Or.inl h
  exact Or.inr ⟨g,cap,cur,q,hg,(hb.block g (Array.getElem?_eq_some_iff.1 hbb).1).trans hbb,hr⟩
 have b2':Ows w ds xs' F':=b2.keep fun b hb'=>hb.block b (a6 b hb');refine wpList_append_lies w hgd s x t ho W.heap.size e i z size bytes ht hi hz hsize hby hzs hsz v n xs' hs b1' ad m c news hx hl hnews h1 hm h63 hbytes (by omega) w.heap.size rfl ?_;intro g cap w' k1 k2 k3 k4;have hF:∀b∈F',some b≠v.ownBlock:=fun b hb' e=>(b4 b hb').2 e.symm
 have hG:∀b∈G,some b≠v.ownBlock:=fun b hb' e=>by have:=(a5 b e.symm).2; have:=g3 b hb'; omega
 refine h g cap w' ⟨xs'++news,F'++G,k1,Ows.append (b2'.keep fun b hb'=>k2.block b (b2'.lt b hb') (hF b hb')) (g1.keep fun b hb'=>k2.block b (g1.lt b hb') (hG b hb')), ?_, ?_⟩ ⟨k2.os,k2.tape,k2.output,k2.size,fun b hb'=>k2.block b (by omega) (fun e=>by have:=(a5 b e.symm).1; omega)⟩
 ·rw [List.nodup_append];refine ⟨b3,g2,fun p hp q hq hpq=> ?_⟩;subst hpq;have:=a6 p hp;have:=g3 p hq;omega
 intro b hm'
 have hgb:∀b,some b≠v.ownBlock→b<w.heap.size→Value.ownBlock (.slice (some ⟨g,0,none⟩) (n+m) cap)≠some b:=by
  intro b hne hlt e;simp only [Value.ownBlock,Option.some.injEq] at e;subst e
  rcases k3 with k3|k3
  ·exact hne k3.symm
  omega
 rcases List.mem_append.1 hm' with hm'|hm'
 ·exact ⟨(b4 b hm').1,hgb b (hF b hm') (b2'.lt b hm')⟩
 exact ⟨by have:=g3 b hm'; omega,hgb b (hG b hm') (g1.lt b hm')⟩
def slotOf (o:Oper) (a:Act):Value:=match o.dst with
 |some d=>a.tmps.getD d undef
 |none=>undef
def putFrom:List Oper→Nat→(Nat→Value)→Act→Act
 |[],_,_,a=>a
 |o::r,k,vs,a=>putFrom r (k+1) vs (a.put o.dst (vs k))
theorem slotOf_put {o p:Oper} {a:Act} {v:Value} (h:∀d,o.dst=some d→p.dst≠some d):slotOf p (a.put o.dst v)=slotOf p a:=by
 unfold slotOf
 cases hp:p.dst with
 |none=>rfl
 |some d=>
  cases ho:o.dst with
  |none=>rfl
  |some e=>
   have hne:e≠d:=fun he=>h e ho (by rw [hp,he])
   simp [Act.put,Array.getElem?_setIfInBounds_ne hne]
theorem slotOf_same {o:Oper} {a:Act} {v:Value} {d:Tmp} (h:o.dst=some d) (hd:d<a.tmps.size):slotOf o (a.put o.dst v)=v:=by
 unfold slotOf;rw [h]
 simp [Act.put,hd]
theorem putFrom_self:∀(ops:List Oper) (k:Nat) (vs:Nat→Value) (a0 a:Act),a0.defers=a.defers→a0.tmps.size=a.tmps.size→(∀t,(∀o∈ops,o.dst≠some t)→a0.tmps[t]? =a.tmps[t]?)→
  (∀j o,ops[j]? =some o→vs (k+j)=slotOf o a)→putFrom ops k vs a0=a
 |[],k,vs,a0,a,h1,h2,h3,_=>by
  have ht:a0.tmps=a.tmps:=Array.ext_getElem? fun t=>h3 t (by simp)
  cases a0; cases a
  simp only at h1 ht
  simp [putFrom,h1,ht]
 |o::r,k,vs,a0,a,h1,h2,h3,h4=>by
  simp only [putFrom]
  have hv:vs k=slotOf o a:=by simpa using h4 0 o (by simp)
  refine putFrom_self r (k+1) vs _ a ?_ ?_ ?_ ?_
  ·cases ho:o.dst<;>simpa [Act.put,ho] using h1
  ·cases ho:o.dst<;>simpa [Act.put,ho] using h2
  ·intro t ht;rw [hv]
   cases ho:o.dst with
   |none=>
    simp only [Act.put]
    exact h3 t (fun p hp=>by
     rcases List.mem_cons.1 hp with rfl|hp
     ·rw [ho]; simp
     exact ht p hp)
   |some d=>
    by_cases hdt:d=t
    ·subst hdt;simp only [Act.put,slotOf,ho]
     by_cases hs:d<a0.tmps.size
     ·rw [Array.getElem?_setIfInBounds_self_of_lt hs];rw [h2] at hs
      simp [hs]
     have hs':¬d<a.tmps.size:=by rw [←h2]; exact hs
     exact (Array.getElem?_eq_none (by rw [Array.size_setIfInBounds]; exact Nat.not_lt.1 hs)).trans (Array.getElem?_eq_none (Nat.not_lt.1 hs')).symm
    simp only [Act.put];rw [Array.getElem?_setIfInBounds_ne hdt]
    exact h3 t (fun p hp=>by
     rcases List.mem_cons.1 hp with rfl|hp
     ·rw [ho]; simpa using hdt
     exact ht p hp)
  intro j p hj;have:=h4 (j+1) p (by simpa using hj);rw [←this]
  congr 1
  omega
section
variable {P:Program} {ops:Array Oper}
theorem wpOp_of_list {Q Q1:Exit→Act→World→Prop} {i:Nat} {o:Oper} {K:Act→World→Prop} {a:Act} {w:World} (hi:ops[i]? =some o) (h:wpList P ops Q1 [o] a w)
  (hn:∀a' w',Q1 .normal a' w'→K a' w') (he:∀e a' w',e≠ .normal→¬Q1 e a' w'):wpOp P ops Q i K a w:=by
 unfold wpOp;rw [hi];simp only [wpList] at h;simp only
 split
 ·rename_i hw
  rw [if_pos hw] at h
  rcases h with h|⟨_,a',w',h⟩
  ·refine Or.inl ?_;unfold Oper.wp at*;generalize (execOp a.eval o).run P w=r at*
   cases r with
   |ok n w'=>
    cases n<;>simp only [Oper.upon] at h ⊢<;>
     first
      |exact hn _ _ h
      |exact Calls.mono h (fun e w'' h'=>by
        cases e
        ·exact hn _ _ h'
        ·exact absurd h' (he _ _ _ (by simp))
        obtain ⟨a',w',h'⟩:=h'
        exact absurd h' (he _ _ _ (by simp)))
      |exact Rows.mono h (fun _ _ h'=>hn _ _ h')
      |exact h
   |halt x w'=>
    cases x<;>simp only [Oper.upon] at h ⊢
    all_goals first|exact absurd h (he _ _ _ (by simp))|exact h
  exact absurd h (he _ _ _ (by simp))
 rename_i hw
 rw [if_neg hw] at h;exact hn _ _ h
def srcOf (ops:Array Oper) (t:Tmp):Nat:=(List.range ops.size).findIdx fun j=>match ops[j]? with
 |some o=>o.dst==some t
 |none=>false
def deps (ops:Array Oper) (i:Nat):List Nat:=match ops[i]? with
 |some o=>(o.after.toList.filter fun e=>Region.binds .any e).map (·.on)
 |none=>[]
theorem mem_deps {i j:Nat} {o:Oper} (hi:ops[i]? =some o):j∈deps ops i↔∃e∈o.after,Region.binds .any e=true∧e.on=j:=by
 unfold deps;rw [hi];simp only [List.mem_map,List.mem_filter,Array.mem_toList_iff]
 constructor
 ·rintro ⟨e,⟨h1,h2⟩,h3⟩; exact ⟨e,h1,h2,h3⟩
 rintro ⟨e,h1,h2,h3⟩; exact ⟨e,⟨h1,h2⟩,h3⟩
def slots (ops:Array Oper) (a:Act) (i:Nat):Value:=match ops[i]? with
 |some o=>slotOf o a
 |none=>undef
def ancs (ops:Array Oper):Nat→Nat→List Nat
 |0,i=>[i]
 |f+1,i=>i::(deps ops i).flatMap (ancs ops f)
theorem ancs_listed {listed:Array Bool} (hc:∀i,listed.getD i false=true→∀j∈deps ops i,listed.getD j false=true):∀f i,listed.getD i false=true→∀j∈ancs ops f i,listed.getD j false=true
 |0,i,h,j,hj=>by simp only [ancs,List.mem_singleton] at hj; subst hj; exact h
 |f+1,i,h,j,hj=>by
  simp only [ancs,List.mem_cons,List.mem_flatMap] at hj
  rcases hj with rfl|⟨k,hk,hj⟩
  ·exact h
  exact ancs_listed hc f k (hc i h k hk) j hj
def Sep (p q:Nat × Nat):Prop:=p.2≤q.1∨q.2≤p.1
def Agree {α:Type} (l:List Nat) (f g:Nat→α):Prop:=∀j∈l,f j=g j
def upd {α:Type} (f:Nat→α) (i:Nat) (x:α):Nat→α:=fun j=>if j=i then x else f j
theorem getD_false_of {l:Array Bool} {i:Nat} (hi:i<l.size) (h:l.getD i true=false):l.getD i false=false:=by
 simp [hi] at h ⊢; exact h
theorem getD_set_self {l:Array Bool} {i:Nat} (hi:i<l.size) (d:Bool):(l.setIfInBounds i true).getD i d=true:=by simp [hi]
def Onward (K:Act→World→Prop):Exit→Act→World→Prop:=fun e a w=>e= .normal∧K a w
theorem Onward.mk {K:Act→World→Prop} {a:Act} {w:World} (h:K a w):Onward K .normal a w:=⟨rfl,h⟩
end
theorem mem_of {l:List Nat} {j:Nat} (h:l.contains j=true):j∈l:=by simpa using h
end Go.Proofs.Ytbflhjjnemdecaa
