/-
  Parts of a proof, joined: Put, Size. No condition.
-/
import Derived.Test.YtlchgfbkdjjngaaGreatDoorProg
import Derived.Test.YtlchgfbkdjjngaaGreatDoorPk4
set_option linter.unusedVariables false
set_option linter.unusedSimpArgs false
namespace Go.Proofs.YtlchgfbkdjjngaaGreatDoor
open Go.ChangeShapes Go.WideShapes Go.ChangeAt Go.RowKit
def Ex.zerP:Ex:= .mk 0 0 []
mutual
def Ex.put (by':List Ex):Ex→Ex
 | .mk k n ks=>if k=4 then by'.getD n.toNat Ex.zerP else .mk k n (Ex.putL by' ks)
def Ex.putL (by':List Ex):List Ex→List Ex
 |[]=>[]
 |e::r=>e.put by'::Ex.putL by' r
end
mutual
def Ex.putG (by':List Ex):Ex→Int→Ex × Int
 | .mk k n ks,left=>if k=4 then (if left - ((by'.getD n.toNat Ex.zerP).size:Int)<0 then Ex.zerP else by'.getD n.toNat Ex.zerP,left - ((by'.getD n.toNat Ex.zerP).size:Int))
  else (.mk k n (Ex.putsG by' ks (left - 1)).1,(Ex.putsG by' ks (left - 1)).2)
def Ex.putsG (by':List Ex):List Ex→Int→List Ex × Int
 |[],left=>([],left)
 |e::r,left=>if left<0 then ([],left) else ((e.putG by' left).1::(Ex.putsG by' r (e.putG by' left).2).1,(Ex.putsG by' r (e.putG by' left).2).2)
end
theorem Ex.putL_length (b:List Ex):∀ks:List Ex,(Ex.putL b ks).length=ks.length
 |[]=>by simp [Ex.putL]
 |e::r=>by simp [Ex.putL,Ex.putL_length b r]
theorem Ex.putL_at (b:List Ex):∀{ks:List Ex} {i:Nat} {x:Ex},ks[i]? =some x→(Ex.putL b ks)[i]? =some (x.put b)
 |[],_,_,h=>by simp at h
 |e::r,0,x,h=>by simp at h; subst h; simp [Ex.putL]
 |e::r,i+1,x,h=>by simpa [Ex.putL] using Ex.putL_at b (ks:=r) (i:=i) (x:=x) (by simpa using h)
theorem Ex.size_pos (e:Ex):0<e.size:=by rw [Ex.size_eq]; omega
mutual
theorem Ex.putG_spec (b:List Ex):∀(e:Ex) (left:Int),0≤left→(((e.put b).size:Int)≤left→e.putG b left=(e.put b,left - ((e.put b).size:Int)))∧(left<((e.put b).size:Int)→(e.putG b left).2<0)
 | .mk k n ks,left,h0=>by
  by_cases hk:k=4
  ·subst hk;simp only [Ex.put,Ex.putG,if_true]
   constructor
   ·intro h; rw [if_neg (by omega)]
   intro h; omega
  simp only [Ex.put,Ex.putG,if_neg hk]
  have hs:(Ex.mk k n (Ex.putL b ks)).size=1+Ex.sizeL (Ex.putL b ks):=by rw [Ex.size_eq]; simp only [Ex.kids]
  rw [hs];have h:=Ex.putsG_spec b ks (left - 1)
  constructor
  ·intro hl;have:=h.1 (by omega);rw [this];simp only [Prod.mk.injEq,true_and];omega
  intro hl;exact h.2 (by omega)
theorem Ex.putsG_spec (b:List Ex):∀(ks:List Ex) (left:Int),(((Ex.sizeL (Ex.putL b ks):Nat):Int)≤left→Ex.putsG b ks left=(Ex.putL b ks,left - (Ex.sizeL (Ex.putL b ks):Nat)))∧(left<((Ex.sizeL (Ex.putL b ks):Nat):Int)→(Ex.putsG b ks left).2<0)
 |[],left=>by
  simp only [Ex.putL,Ex.putsG,Ex.sizeL];exact ⟨fun _=>by simp,fun h=>by simpa using h⟩
 |e::r,left=>by
  simp only [Ex.putL,Ex.putsG,Ex.sizeL];have hp:=Ex.size_pos (e.put b)
  constructor
  ·intro h;have h1:=(Ex.putG_spec b e left (by omega)).1 (by omega);rw [if_neg (by omega),h1];have h2:=(Ex.putsG_spec b r (left - ((e.put b).size:Int))).1 (by omega);simp only [h2,Prod.mk.injEq,true_and];omega
  intro h
  by_cases h0:left<0
  ·rw [if_pos h0]; exact h0
  rw [if_neg h0]
  by_cases hl:((e.put b).size:Int)≤left
  ·have h1:=(Ex.putG_spec b e left (by omega)).1 hl;rw [h1];exact (Ex.putsG_spec b r _).2 (by simp only; omega)
  have h1:=(Ex.putG_spec b e left (by omega)).2 (by omega)
  have h2:Ex.putsG b r (e.putG b left).2=([],(e.putG b left).2):=by
   cases r with
   |nil=>simp only [Ex.putsG]
   |cons x r=>simp only [Ex.putsG]; rw [if_pos h1]
  rw [h2];exact h1
end
theorem Ex.putsG_snoc (b:List Ex) (x:Ex):∀(a:List Ex) (l:Int),Ex.putsG b (a++[x]) l=if (Ex.putsG b a l).2<0 then Ex.putsG b a l else ((Ex.putsG b a l).1++[(x.putG b (Ex.putsG b a l).2).1],(x.putG b (Ex.putsG b a l).2).2)
 |[],l=>by
  have e0:∀l,Ex.putsG b [] l=([],l):=fun l=>by simp only [Ex.putsG]
  have e1:Ex.putsG b [x] l=if l<0 then ([],l) else ([(x.putG b l).1],(x.putG b l).2):=by simp only [Ex.putsG]
  rw [List.nil_append,e1,e0]
  rfl
 |e::r,l=>by
  simp only [List.cons_append,Ex.putsG]
  by_cases h:l<0
  ·simp only [if_pos h]
  simp only [if_neg h];rw [Ex.putsG_snoc b x r]
  split
  ·rfl
  simp
theorem Ex.putsG_stop (b:List Ex):∀(a c:List Ex) (l:Int),(Ex.putsG b a l).2<0→Ex.putsG b (a++c) l=Ex.putsG b a l
 |[],c,l,h=>by
  simp only [Ex.putsG] at h;simp only [List.nil_append]
  cases c with
  |nil=>rfl
  |cons x c=>simp only [Ex.putsG]; rw [if_pos h]
 |e::r,c,l,h=>by
  simp only [List.cons_append,Ex.putsG] at h ⊢
  by_cases hl:l<0
  ·simp only [if_pos hl]
  simp only [if_neg hl] at h ⊢;rw [Ex.putsG_stop b r c _ h]
theorem Ex.putsG_bd (b:List Ex) (B:Nat) (hB:∀x∈b,x.size≤B) (h1:1≤B):(∀(e:Ex) (l:Int),0≤l→ -(B:Int)≤(e.putG b l).2∧(e.putG b l).2≤l):=by
 intro e l h0
 have key:∀n,∀(e:Ex) (l:Int),e.size≤n→0≤l→ -(B:Int)≤(e.putG b l).2∧(e.putG b l).2≤l:=by
  intro n
  induction n with
  |zero=>intro e l hs; have:=e.size_pos; omega
  |succ n ih=>
   intro e l hs h0;obtain ⟨k,m,ks⟩:=e
   have hsz:Ex.sizeL ks≤n:=by rw [Ex.size_eq] at hs; simp only [Ex.kids] at hs; omega
   by_cases hk:k=4
   ·simp only [Ex.putG,if_pos hk]
    have hx:(b.getD m.toNat Ex.zerP).size≤B:=by
     rw [List.getD_eq_getElem?_getD]
     cases hq:b[m.toNat]? with
     |none=>simp [Ex.zerP,Ex.size,Ex.sizeL]; exact h1
     |some y=>exact hB y (List.mem_of_getElem? hq)
    have:=(b.getD m.toNat Ex.zerP).size_pos;omega
   simp only [Ex.putG,if_neg hk]
   have kids:∀(ks:List Ex) (l:Int),Ex.sizeL ks≤n→ -1≤l→(-(B:Int)≤(Ex.putsG b ks l).2∧(Ex.putsG b ks l).2≤l)∨(l<0∧(Ex.putsG b ks l).2=l):=by
    intro ks
    induction ks with
    |nil=>
     intro l _ hl
     have e:(Ex.putsG b [] l).2=l:=by simp only [Ex.putsG]
     rw [e]
     by_cases h:l<0
     ·exact Or.inr ⟨h,rfl⟩
     exact Or.inl ⟨by omega,by omega⟩
    |cons x r ihr=>
     intro l hs hl;simp only [Ex.putsG]
     by_cases h:l<0
     ·rw [if_pos h]; exact Or.inr ⟨h,rfl⟩
     rw [if_neg h];simp only [Ex.sizeL] at hs;have hx:=ih x l (by omega) (by omega)
     left
     simp only
     by_cases h2:(x.putG b l).2<0
     ·have e2:Ex.putsG b r (x.putG b l).2=([],(x.putG b l).2):=by
       cases r with
       |nil=>simp only [Ex.putsG]
       |cons y r=>simp only [Ex.putsG]; rw [if_pos h2]
      rw [e2];exact hx
     rcases ihr (x.putG b l).2 (by omega) (by omega) with h3|h3
     ·omega
     omega
   rcases kids ks (l - 1) hsz (by omega) with h|h
   ·omega
   omega
 exact key _ e l (Nat.le_refl _) h0
theorem Fp (N:Nat):∀(e:Ex) (b o:Nat) (w:World),e.size≤N→Ap w b o e→e.size≤1073741824→
  Calls Tryz.prog 39 #[.pointer (some ⟨b,o,none⟩)] w fun f w'=>f= .returned (.int .i64 e.size)∧w=w':=by
 induction N using Nat.strongRecOn with
 |_ N ih=>
 intro e b o w hN hr h1;obtain ⟨_,_,s,c,g2,g3⟩:=hr;obtain ⟨-, hlen,hcap, -, -⟩:=A0 g3;unfold maxLen at hcap;have hse:=Ex.size_eq e;have Hse:=hid hse
 have hks:Ex.sizeL e.kids<N:=by omega
 have hks':Ex.sizeL e.kids≤1073741824:=by omega
 clear hse
 go_enter Tryz.func39,Tryz.ntmps39
 go_wp2_with fail
 go_loop [3,4] (fun n i=>∃k:Nat,k≤e.kids.length∧i= .int .i64 k∧n= .int .i64 (1+(Ex.sizeL (e.kids.take k):Nat):Nat)) (fun _ i=>e.kids.length - (intOf i).toNat)
 case atStart=>exact ⟨0,by omega,rfl,by simp [Ex.sizeL]⟩
 case round=>
  obtain ⟨k,hk,rfl,rfl⟩:=hrel;have hle:=Ex.sizeL_take_le e.kids k
  by_cases hlt:k<e.kids.length
  ·obtain ⟨f,hf⟩:∃f,e.kids[k]? =some f:=⟨_,List.getElem?_eq_getElem hlt⟩;obtain ⟨b',o',rfl⟩:=An g3 (by intro h; simp [h] at hlt);have hat:=Ay g3 hf;have htk:=Ex.sizeL_take_succ hf;have hmem:=Ex.sizeL_mem (List.mem_of_getElem? hf);have hle':=Ex.sizeL_take_le e.kids (k+1)
   have hsum:Ex.sizeL (e.kids.take k)+f.size≤1073741824:=by omega
   have Htk:=hid htk;clear htk;go_wp2_with fail;refine (ih _ (by omega) f _ _ _ (Nat.le_refl _) hat (by omega)).mono ?_;rintro x w' ⟨rfl,rfl⟩;go_wp2_with fail
   go_round
   case rel=>exact ⟨k+1,by omega,by go_num,by rw [Htk.out]; go_num⟩
   case measure=>simp [intOf]; omega
  obtain rfl:k=e.kids.length:=by omega
  go_wp2_with fail;go_ret;exact ⟨Di (by have:=Hse.out; omega),rfl⟩
def SizeS (N:Nat):Prop:=∀(k n:Int) (ks:List Ex) (s:Option Addr) (cap:Nat) (w:World),Ex.sizeL ks≤N→Rd w (Ae ks) (.slice s ks.length cap)→Ex.sizeL ks≤1073741824→
  Calls Tryz.prog 98 #[.agg #[.int .i64 k,.int .i64 n,.slice s ks.length cap]] w fun f w'=>f= .returned (.int .i64 (1+Ex.sizeL ks:Nat))∧Below w.heap.size w w'
theorem Mp (N:Nat):SizeS N:=by
 induction N using Nat.strongRecOn with
 |_ N ih=>
 intro k0 n0 ks s cap w hN hr h1;obtain ⟨-, hlen,hcap, -, -⟩:=A0 hr;unfold maxLen at hcap
 go_enter Tryz.func98,Tryz.ntmps98
 go_wp2_with fail
 go_loopw [3,9] (fun n i wr=>∃k:Nat,k≤ks.length∧i= .int .i64 k∧n= .int .i64 (1+(Ex.sizeL (ks.take k):Nat):Nat)∧Below w.heap.size w wr) (fun _ i _=>ks.length - (intOf i).toNat)
 case atStart=>exact ⟨0,by omega,rfl,by simp [Ex.sizeL],bel⟩
 case round=>
  obtain ⟨k,hk,rfl,rfl,hB⟩:=hrel;have hzB:=hB.size;have hle:=Ex.sizeL_take_le ks k
  by_cases hlt:k<ks.length
  ·obtain ⟨f,hf⟩:∃f,ks[k]? =some f:=⟨_,List.getElem?_eq_getElem hlt⟩;obtain ⟨b',o',rfl⟩:=An hr (by intro h; simp [h] at hlt);obtain ⟨-, s',c',g0,g1,g2,gr⟩:=A3 (hr.below hB) hf;have htk:=Ex.sizeL_take_succ hf;have hle':=Ex.sizeL_take_le ks (k+1);have hsf:=Ex.size_eq f;have hmem:=Ex.sizeL_mem (List.mem_of_getElem? hf)
   have hsum:Ex.sizeL (ks.take k)+(1+Ex.sizeL f.kids)≤1073741824:=by omega
   have Htk:Hid (Ex.sizeL (ks.take (k+1))=Ex.sizeL (ks.take k)+(1+Ex.sizeL f.kids)):=by show _=_; omega
   have hN':Ex.sizeL f.kids<N:=by omega
   clear htk hsf;go_wp2_with fail;refine (ih _ hN' _ _ _ _ _ _ (Nat.le_refl _) (gr.alloc _) (by omega)).mono ?_;rintro x w1 ⟨rfl,hb⟩;have hB1:Below w.heap.size w w1:=Below.on (bel) hb (by simp; omega);clear hb;go_wp2_with fail
   go_roundw
   case rel=>exact ⟨k+1,by omega,by go_num,by rw [Htk.out]; go_num,hB1⟩
   case measure=>simp [intOf]; omega
  obtain rfl:k=ks.length:=by omega
  go_wp2_with fail;go_ret;exact ⟨Di (by simp),hB⟩
theorem N5 {k n:Int} {ks:List Ex} {s:Option Addr} {cap:Nat} {w:World} (hr:Rd w (Ae ks) (.slice s ks.length cap)) (h1:Ex.sizeL ks≤1048576):
  Calls Tryz.prog 98 #[.agg #[.int .i64 k,.int .i64 n,.slice s ks.length cap]] w fun f w'=>f= .returned (.int .i64 (1+Ex.sizeL ks:Nat))∧Below w.heap.size w w':=
 Mp _ k n ks s cap w (Nat.le_refl _) hr (by omega)
end Go.Proofs.YtlchgfbkdjjngaaGreatDoor
