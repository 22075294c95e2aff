/-
  Parts of a proof, joined: FarP, Text, TidyP, TidyI, Shr, SortN, Bun, MadP, MadS, ValidI, Counts. No condition.
-/
import Derived.Lib.ItoaNum
import Derived.Lib.Bytealg
import Derived.Lib.AppendStr
import Derived.Shelf.SlSortCmp.WholeK
import Derived.Maps.OwnOps
import Derived.DeepKeys4
import Derived.Test.YtbflhjjnemdecaaPk5
set_option linter.unusedVariables false
set_option linter.unusedSimpArgs false
namespace Go.Proofs.Ytbflhjjnemdecaa
open Go.ChangeShapes Go.WideShapes Go.ChangeAt Go.RowKit Go.Deep
def IdxT (bs:List Bool) (r:Int):Prop:=(r= -1∧∀j:Nat,j<bs.length→bs[j]? =some false)∨∃k:Nat,r=(k:Int)∧bs[k]? =some true∧∀j:Nat,j<k→bs[j]? =some false
theorem IdxT.any {bs:List Bool} {r:Int} (h:IdxT bs r):decide (0≤r)=bs.any id:=by
 rcases h with ⟨rfl,h⟩|⟨k,rfl,h1,_⟩
 ·have:bs.any id=false:=by
   cases hb:bs.any id with
   |false=>rfl
   |true=>
    simp only [List.any_eq_true,id] at hb;obtain ⟨x,hx,rfl⟩:=hb;obtain ⟨j,hj⟩:=List.mem_iff_getElem?.1 hx;rw [h j (List.getElem?_eq_some_iff.1 hj).1] at hj
    cases hj
  rw [this]
  decide
 have:bs.any id=true:=by
  simp only [List.any_eq_true,id];exact ⟨true,List.mem_of_getElem? h1,rfl⟩
 rw [this]
 simp
def MidL (ac:List (List Bool)) (nx:List (List (List Int))) (m j:Nat) (L:List Int):Prop:=L.length=ac.length∧∀s,s<ac.length→L[s]? =some (if s<j then farV ac nx (m+1) s else farV ac nx m s)
def midV (ac:List (List Bool)) (nx:List (List (List Int))) (m j:Nat) (nr:List (List Int)) (l:Nat):Int:=
 if 0≤farV ac nx m j then farV ac nx m j else if (nr.take l).any (hitR fun z=>farV ac nx m z==(m:Int)) then ((m+1:Nat):Int) else -1
section
variable {ac:List (List Bool)} {nx:List (List (List Int))} {m j:Nat} {L:List Int} {nr:List (List Int)}
theorem MidL.zero:MidL ac nx m 0 (farL ac nx m):=⟨farL_len m,fun s hs=>by rw [farL_at hs,if_neg (Nat.not_lt_zero _)]⟩
theorem MidL.all (h:MidL ac nx m ac.length L):L=farL ac nx (m+1):=by
 apply List.ext_getElem?
 intro s
 by_cases hs:s<ac.length
 ·rw [h.2 s hs,if_pos hs,farL_at hs]
 rw [List.getElem?_eq_none (by rw [h.1]; omega),List.getElem?_eq_none (by rw [farL_len]; omega)]
theorem MidL.step (h:MidL ac nx m j L) (hj:j<ac.length):MidL ac nx m (j+1) (L.set j (farV ac nx (m+1) j)):=by
 refine ⟨by simpa using h.1,fun s hs=> ?_⟩
 by_cases he:j=s
 ·subst he;rw [List.getElem?_set_self (by rw [h.1]; exact hj),if_pos (Nat.lt_succ_self _)]
 rw [List.getElem?_set_ne he,h.2 s hs]
 by_cases h1:s<j
 ·rw [if_pos h1,if_pos (by omega)]
 rw [if_neg h1,if_neg (by omega)]
theorem MidL.at (h:MidL ac nx m j L) (hj:j<ac.length):L[j]? =some (farV ac nx m j):=by
 rw [h.2 j hj,if_neg (Nat.lt_irrefl _)]
theorem midV_zero:midV ac nx m j nr 0=farV ac nx m j:=by
 unfold midV
 by_cases h:0≤farV ac nx m j
 ·rw [if_pos h]
 rw [if_neg h];have:=farV_bd (ac:=ac) (nx:=nx) m j
 simp
 omega
theorem midV_bd (hm:m≤100) (l:Nat): -1≤midV ac nx m j nr l∧midV ac nx m j nr l≤101:=by
 have:=farV_bd (ac:=ac) (nx:=nx) m j;unfold midV
 split
 ·omega
 split<;>omega
theorem midV_all (hn:nx[j]? =some nr):midV ac nx m j nr nr.length=farV ac nx (m+1) j:=by
 unfold midV
 by_cases h:0≤farV ac nx m j
 ·rw [if_pos h,farV_stay h]
 rw [if_neg h,farV_round (by omega),List.take_length,List.getD_eq_getElem?_getD,hn]
 rfl
theorem midV_skip {l:Nat} (h:¬midV ac nx m j nr l<0):midV ac nx m j nr (l+1)=midV ac nx m j nr l:=by
 unfold midV at h ⊢
 by_cases h0:0≤farV ac nx m j
 ·rw [if_pos h0,if_pos h0]
 rw [if_neg h0] at h ⊢;rw [if_neg h0]
 by_cases hh:(nr.take l).any (hitR fun z=>farV ac nx m z==(m:Int))=true
 ·have:(nr.take (l+1)).any (hitR fun z=>farV ac nx m z==(m:Int))=true:=by
   rw [List.any_eq_true] at hh ⊢;obtain ⟨x,hx,h1⟩:=hh;exact ⟨x,(List.take_subset_take_left nr (Nat.le_succ l)) hx,h1⟩
  rw [if_pos hh,if_pos this]
 rw [if_neg hh] at h;omega
theorem midV_step {l:Nat} {row:List Int} (h:midV ac nx m j nr l<0) (hr:nr[l]? =some row):midV ac nx m j nr (l+1)=if hitR (fun z=>farV ac nx m z==(m:Int)) row then ((m+1:Nat):Int) else midV ac nx m j nr l:=by
 obtain ⟨hl,rfl⟩:=List.getElem?_eq_some_iff.1 hr;unfold midV at h ⊢
 by_cases h0:0≤farV ac nx m j
 ·rw [if_pos h0] at h; omega
 rw [if_neg h0] at h ⊢;rw [if_neg h0]
 by_cases hh:(nr.take l).any (hitR fun z=>farV ac nx m z==(m:Int))=true
 ·rw [if_pos hh] at h; omega
 rw [if_neg hh,List.take_succ_eq_append_getElem hl,List.any_append];simp only [Bool.not_eq_true] at hh;rw [hh]
 simp
theorem MidL.hit (h:MidL ac nx m j L) (hj:j<ac.length) {l:Nat} (hv:midV ac nx m j nr l<0) {row:List Int} (hz:∀z∈row,z<ac.length):
  hitR (fun z=>(L.set j (midV ac nx m j nr l)).getD z 0==(m:Int)) row=hitR (fun z=>farV ac nx m z==(m:Int)) row:=by
 have hfar:farV ac nx m j<0:=by
  unfold midV at hv
  by_cases h0:0≤farV ac nx m j
  ·rw [if_pos h0] at hv; omega
  omega
 rw [Bool.eq_iff_iff,hitR_true,hitR_true]
 have key:∀z:Nat,z<ac.length→((L.set j (midV ac nx m j nr l)).getD z 0=(m:Int)↔farV ac nx m z=(m:Int)):=by
  intro z hzl;rw [List.getD_eq_getElem?_getD]
  by_cases he:j=z
  ·subst he;rw [List.getElem?_set_self (by rw [h.1]; exact hj)];simp only [Option.getD_some];omega
  rw [List.getElem?_set_ne he,h.2 z hzl];simp only [Option.getD_some]
  by_cases h1:z<j
  ·rw [if_pos h1]; exact farV_mid
  rw [if_neg h1]
 constructor
 ·rintro ⟨z,hm,h0,h1⟩;refine ⟨z,hm,h0, ?_⟩;rw [beq_iff_eq] at h1 ⊢;exact (key z.toNat (by have:=hz z hm; omega)).1 h1
 rintro ⟨z,hm,h0,h1⟩;refine ⟨z,hm,h0, ?_⟩;rw [beq_iff_eq] at h1 ⊢;exact (key z.toNat (by have:=hz z hm; omega)).2 h1
end
theorem farV_zero {ac:List (List Bool)} {nx:List (List (List Int))} {s:Nat} {ar:List Bool} (h:ac[s]? =some ar):farV ac nx 0 s=if ar.any id then 0 else -1:=by
 have e:accW ac nx 0 s=ar.any id:=by
  show (ac.getD s []).any id=_
  rw [List.getD_eq_getElem?_getD,h]
  rfl
 simp only [farV];rw [e]
theorem hitR_none {P:Nat→Bool} {row:List Int} {k:Nat} {z:Int} (h:hitR P (row.take k)=false) (hz:row[k]? =some z) (hp:(decide (0≤z)&&P z.toNat)=false):hitR P (row.take (k+1))=false:=by
 obtain ⟨hk,rfl⟩:=List.getElem?_eq_some_iff.1 hz;unfold hitR at h ⊢;rw [List.take_succ_eq_append_getElem hk,List.any_append,h]
 simpa using hp
theorem hitR_found {P:Nat→Bool} {row:List Int} {k:Nat} {z:Int} (hz:row[k]? =some z) (hp:(decide (0≤z)&&P z.toNat)=true):hitR P row=true:=by
 rw [hitR_true];rw [Bool.and_eq_true,decide_eq_true_eq] at hp;exact ⟨z,List.mem_of_getElem? hz,hp.1,hp.2⟩
def bs (l:List UInt8):ByteArray:=⟨l.toArray⟩
noncomputable instance exDec:DecidableEq Ex:=fun a b=>Classical.propDecidable (a=b)
open Go.Sort
def K1 (w:World) (b o:Nat) (e:Ex) (s:Option Addr) (c:Nat):Prop:=w.cell? ⟨b,o,none⟩=some (.int .i64 e.kind)∧w.cell? ⟨b,o+1,none⟩=some (.int .i64 e.num)∧w.cell? ⟨b,o+2,none⟩=some (.slice s e.kids.length c)
structure Sh where
 e:Ex
 s:Option Addr
 c:Nat
instance shInh:Inhabited Sh:=⟨⟨.mk 0 0 [],none,0⟩⟩
inductive Item where
 |app (t:TypeId) (size n:Nat) (ds:List D) (v:Value)
 |box (g t:Nat) (cur:List Value)
 |one (g:Nat) (P:World→Prop)
 |own (ds:List D) (vs:List Value)
 |pool (w0:World) (E:List (D × Value))
 |gone
def Item.on (S:Nat→Prop) (w:World):Item→Prop
 | .app t size n ds v=>AppS S w t size n ds v
 | .box g t cur=>S g∧Blk w g t cur
 | .one g P=>S g∧g<w.heap.size∧∀w',w'.heap[g]? =w.heap[g]? →P w'
 | .own ds vs=>OwS S w ds vs
 | .pool w0 E=>∀w',w.heap.size≤w'.heap.size→(∀b,b<w0.heap.size→w'.heap[b]? =w0.heap[b]?)→(∀b,b<w.heap.size→S b→w'.heap[b]? =w.heap[b]?)→∀x∈E,Rd w' x.1 x.2
 | .gone=>True
theorem Item.keep {S:Nat→Prop} {w w':World} (hz:w.heap.size≤w'.heap.size):∀{it:Item},it.on S w→(∀b,b<w.heap.size→S b→w'.heap[b]? =w.heap[b]?)→it.on S w'
 | .app .., h,hk=>AppS.keep h hk
 | .box .., h,hk=>⟨h.1,h.2.keep (hk _ h.2.lt h.1)⟩
 | .one g P,h,hk=>by
  have e:=hk g h.2.1 h.1;refine ⟨h.1, ?_,fun w1 h1=>h.2.2 w1 (h1.trans e)⟩
  have hs:(w.heap[g]?).isSome=true:=by simp [h.2.1]
  rw [←e] at hs
  simpa using hs
 | .own .., h,hk=>OwS.keep h hk
 | .pool .., h,hk=>fun w2 h1 h2 h3=>h w2 (Nat.le_trans hz h1) h2 fun b hb hs=>(h3 b (Nat.lt_of_lt_of_le hb hz) hs).trans (hk b hb hs)
 | .gone,_,_=>trivial
theorem Item.more {S T:Nat→Prop} {w:World}:∀{it:Item},it.on S w→(∀b,b<w.heap.size→S b→T b)→it.on T w
 | .app .., h,hs=>AppS.more h hs
 | .box .., h,hs=>⟨hs _ h.2.lt h.1,h.2⟩
 | .one .., h,hs=>⟨hs _ h.2.1 h.1,h.2⟩
 | .own .., h,hs=>OwS.more h hs
 | .pool .., h,hs=>fun w2 h1 h2 h3=>h w2 h1 h2 fun b hb hS=>h3 b hb (hs b hb hS)
 | .gone,_,_=>trivial
def Bun (B:Nat) (w:World) (items:List Item):Prop:=∃own:Nat→Nat,∀(i:Nat) (it:Item),items[i]? =some it→it.on (fun b=>B≤b∧b<w.heap.size∧own b=i) w
theorem Bun.nil {B:Nat} {w:World}:Bun B w []:=⟨fun _=>0,fun i it h=>by simp at h⟩
theorem set_none {items:List Item}:items.set items.length .gone=items:=List.set_eq_of_length_le (Nat.le_refl _)
theorem bun_turn {B:Nat} {w w':World} {items:List Item} {own:Nat→Nat} (h:∀(i:Nat) (it:Item),items[i]? =some it→it.on (fun b=>B≤b∧b<w.heap.size∧own b=i) w) (hz:w.heap.size≤w'.heap.size) (k j:Nat) {it':Item}
  (ho:∀b,b<w.heap.size→own b≠k→own b≠j→w'.heap[b]? =w.heap[b]?) (hn:it'.on (fun b=>B≤b∧b<w'.heap.size∧(w.heap.size≤b∨own b=k∨own b=j)) w'):
  Bun B w' ((items.set j .gone).set k it'):=by
 refine ⟨fun b=>if w.heap.size≤b∨own b=j then k else own b,fun i it hi=> ?_⟩
 by_cases hik:k=i
 ·subst hik
  have hl:k<(items.set j .gone).length:=by have:=(List.getElem?_eq_some_iff.1 hi).1; simpa using this
  rw [List.getElem?_set_self hl] at hi;obtain rfl:=Option.some.inj hi;refine Item.more hn fun b _ hb=>⟨hb.1,hb.2.1, ?_⟩
  by_cases hc:w.heap.size≤b∨own b=j
  ·dsimp only; rw [if_pos hc]
  dsimp only; rw [if_neg hc]
  omega
 rw [List.getElem?_set_ne hik] at hi
 by_cases hij:j=i
 ·subst hij
  have hl:j<items.length:=by have:=(List.getElem?_eq_some_iff.1 hi).1; simpa using this
  rw [List.getElem?_set_self hl] at hi;obtain rfl:=Option.some.inj hi
  trivial
 rw [List.getElem?_set_ne hij] at hi;have h1:=Item.keep (w':=w') hz (h i it hi) fun b hb hs=>ho b hb (by rw [hs.2.2]; omega) (by rw [hs.2.2]; omega);refine Item.more h1 fun b _ hb=>⟨hb.1,by omega, ?_⟩
 have:¬(w.heap.size≤b∨own b=j):=by omega
 dsimp only
 rw [if_neg this];exact hb.2.2
theorem Bun.keep {B:Nat} {w w':World} {items:List Item} (h:Bun B w items) (hz:w.heap.size≤w'.heap.size) (hk:∀b,B≤b→b<w.heap.size→w'.heap[b]? =w.heap[b]?):Bun B w' items:=by
 obtain ⟨own,h⟩:=h;refine ⟨fun b=>if w.heap.size≤b then items.length else own b,fun i it hi=> ?_⟩;have hl:=(List.getElem?_eq_some_iff.1 hi).1;have h1:=Item.keep (w':=w') hz (h i it hi) fun b hb hs=>hk b hs.1 hb;refine Item.more h1 fun b _ hb=>⟨hb.1,by omega, ?_⟩
 dsimp only
 rw [if_neg (by omega)];exact hb.2.2
theorem Bun.below {B:Nat} {w w':World} {items:List Item} (h:Bun B w items) (hb:Below w.heap.size w w'):Bun B w' items:=h.keep hb.size fun b _ hl=>hb.block b hl
theorem Bun.alloc {B:Nat} {w:World} {items:List Item} (h:Bun B w items) (o:Obj):Bun B (w.alloc o) items:=h.below (Below.alloc (Below.refl _ _) (Nat.le_refl _) o)
theorem Bun.push {B:Nat} {w w':World} {items:List Item} {it:Item} (h:Bun B w items) (hb:Below w.heap.size w w') (hi:it.on (fun b=>B≤b∧b<w'.heap.size∧w.heap.size≤b) w'):Bun B w' (items++[it]):=by
 have hz:=hb.size;obtain ⟨own,h⟩:=h;refine ⟨fun b=>if w.heap.size≤b then items.length else own b,fun i it' h'=> ?_⟩
 by_cases hl:i<items.length
 ·rw [List.getElem?_append_left hl] at h';have h1:=Item.keep (w':=w') hz (h i it' h') fun b hb' _=>hb.block b hb';refine Item.more h1 fun b _ hb'=>⟨hb'.1,by omega, ?_⟩
  dsimp only
  rw [if_neg (by omega)];exact hb'.2.2
 have hi':=(List.getElem?_eq_some_iff.1 h').1;simp only [List.length_append,List.length_cons,List.length_nil] at hi'
 obtain rfl:i=items.length:=by omega
 simp only [List.getElem?_append_right (Nat.le_refl _),Nat.sub_self,List.getElem?_cons_zero,Option.some.injEq] at h';subst h';exact Item.more hi fun b _ hb'=>⟨hb'.1,hb'.2.1,by dsimp only; rw [if_pos hb'.2.2]⟩
theorem Bun.push_box {B:Nat} {w:World} {items:List Item} (h:Bun B w items) (hB:B≤w.heap.size) (t:TypeId) (cur:Array Value):Bun B (w.alloc (.cells cur t)) (items++[.box w.heap.size t cur.toList]):=
 h.push (Below.alloc (Below.refl _ _) (Nat.le_refl _) _) ⟨⟨hB,by simp,Nat.le_refl _⟩,Blk.made w t cur⟩
theorem Bun.push_nil {B:Nat} {w:World} {items:List Item} (h:Bun B w items) (t:TypeId) (size:Nat):Bun B w (items++[.app t size 0 [] (.slice none 0 0)]):=
 h.push (Below.refl _ _) ⟨[],[],World.ownsRow_nil _ _ _ _,Ows.nil,by simp,by simp,fun b hb=>by simp [Value.ownBlock] at hb⟩
theorem Bun.app {B:Nat} {w:World} {items:List Item} (h:Bun B w items) (k:Nat) {t size n:Nat} {ds:List D} {v:Value} (hk:items[k]? =some (.app t size n ds v)):∃own:Nat→Nat,AppS (fun b=>B≤b∧b<w.heap.size∧own b=k) w t size n ds v:=by
 obtain ⟨own,h⟩:=h;exact ⟨own,h k _ hk⟩
theorem Bun.shape {B:Nat} {w:World} {items:List Item} (h:Bun B w items) (k:Nat) {t size n:Nat} {ds:List D} {v:Value} (hk:items[k]? =some (.app t size n ds v)):∃a cap,v= .slice a n cap∧n≤cap∧cap≤maxLen:=by
 obtain ⟨own,h1⟩:=h.app k hk;exact h1.shape
theorem Bun.box {B:Nat} {w:World} {items:List Item} (h:Bun B w items) (k:Nat) {g t:Nat} {cur:List Value} (hk:items[k]? =some (.box g t cur)):Blk w g t cur∧B≤g:=by
 obtain ⟨own,h⟩:=h;have:=h k _ hk;exact ⟨this.2,this.1.1⟩
theorem AppS.foot {S:Nat→Prop} {w:World} {t size n:Nat} {ds:List D} {v:Value} (h1:AppS S w t size n ds v):∃F,Ow w (.sl size n ds) v F∧F.Nodup∧∀b∈F,S b:=by
 have hlen:=(AppS.app (W:={ w with heap:= #[] }) h1 fun b _=>Nat.zero_le _).len;obtain ⟨xs,F,a1,a2,a3,a4,a5⟩:=h1;have hxl:=a1.1
 rcases a1.2 with ⟨rfl,rfl⟩|⟨g,cap,cur,rfl,hg,hb,h5,h6,h7,h8⟩
 ·exact ⟨[],by simp only [Ow]; exact ⟨_,0,rfl,by omega,by simp [maxLen],hlen,by simp,Or.inl (by simp)⟩,by simp,by simp⟩
 by_cases h0:n=0
 ·exact ⟨[],by simp only [Ow]; exact ⟨_,cap,rfl,h5,h6,hlen,by simp,Or.inl (by simp [h0])⟩,by simp,by simp⟩
 have hblk:Blk w g t cur.toList:=by simpa [Blk] using hb
 refine ⟨g::F,by simp only [Ow]; exact ⟨_,cap,rfl,h5,h6,hlen,by simp,Or.inr ⟨g,0,xs,F,rfl,rfl,hblk.free,hblk.row (by rw [hxl]; exact h8),a2⟩⟩, ?_, ?_⟩
 ·rw [List.nodup_cons];exact ⟨fun hm=>(a4 g hm).2 rfl,a3⟩
 intro b hm
 rcases List.mem_cons.1 hm with rfl|hm
 ·exact a5 _ rfl
 exact (a4 b hm).1
theorem Bun.store {B:Nat} {w:World} {items:List Item} (h:Bun B w items) (k:Nat) {g t:Nat} {cur:List Value} (hk:items[k]? =some (.box g t cur)) (i:Nat) (v:Value):Bun B (w.setCell ⟨g,i,none⟩ v) (items.set k (.box g t (cur.set i v))):=by
 obtain ⟨own,h⟩:=h;have hit:=h k _ hk
 have hsz:(w.setCell ⟨g,i,none⟩ v).heap.size=w.heap.size:=by simp [World.setCell]
 have:=bun_turn (w':=w.setCell ⟨g,i,none⟩ v) h (by omega) k (items.length) (it':= .box g t (cur.set i v)) (fun b hb h1 _=>Below.heap_setCell _ _ _ _ (fun e=>h1 (by rw [e]; exact hit.1.2.2)))
  ⟨⟨hit.1.1,by rw [hsz]; exact hit.1.2.1,Or.inr (Or.inl hit.1.2.2)⟩,hit.2.set i v⟩
 rwa [set_none] at this
theorem wpList_append_bun {P:Program} (w:World) {ops:Array Oper} {rest:List Oper} {o:Oper} {a:Act} {Q:Exit→Act→World→Prop} (hgd:o.guard=none) (s x:Operand) (t:TypeId)
  (ho:o.op= .call { callee:= .builtin .append,args:= #[s,x],argTypes:= #[t,t] })
  (e:TypeId) (z:Value) (size bytes:Nat) (ht:P.underlying t=some (.slice e)) (hinfo:(P.info? e).map (fun i=>(i.zero,i.size,i.bytes))=some (some z,size,bytes)) (hzs:z.cells.size=size) (hsz:0<size)
  {B:Nat} {items:List Item} (hb:Bun B w items) (hB:B≤w.heap.size) (k:Nat) (v:Value) {n:Nat} {ds:List D} (hk:items[k]? =some (.app e size n ds v)) (hs:a.eval s=v)
  (ad:Addr) (m c:Nat) {es:List D} (news:List Value) (hx:a.eval x= .slice (some ad) m c) (hnews:∀j u,news[j]? =some u→w.cell? (ad.add j)=some u) (hes:OwS (fun _=>False) w es news)
  (hl:news.length=m*size) (h1:∀u∈news,u.oneCell'=true) (hm:0<m) (hbytes:(n+m)*bytes≤140737488355328) (h63:n+m≤maxLen)
  (h:∀g cap w',Bun B w' (items.set k (.app e size (n+m) (ds++es) (.slice (some ⟨g,0,none⟩) (n+m) cap)))→Below B w w'→wpList P ops Q rest (a.put o.dst (.slice (some ⟨g,0,none⟩) (n+m) cap)) w'):wpList P ops Q (o::rest) a w:=by
 obtain ⟨own,hb⟩:=hb;refine wpList_append_s w hgd s x t ho e z size bytes ht hinfo hzs hsz (S:=fun b=>B≤b∧b<w.heap.size∧own b=k) (T:=fun _=>False) v hs (hb k _ hk) ad m c news hx hnews hes (fun _ _ _ h=>h) hl h1 hm hbytes h63 ?_;intro g cap w' hap hsp;refine h g cap w' ?_ (hsp.below hB fun b hb'=>hb'.1)
 have:=bun_turn (w':=w') hb hsp.size k (items.length) (it':= .app e size (n+m) (ds++es) (.slice (some ⟨g,0,none⟩) (n+m) cap)) (fun b hb' h2 _=>hsp.block b hb' (fun h3=>h2 h3.2.2))
  (AppS.more hap fun b hb' hc=>by
   have hz:=hsp.size
   rcases hc with hc|hc|hc
   ·exact ⟨hc.1,hb',Or.inr (Or.inl hc.2.2)⟩
   ·exact hc.elim
   exact ⟨by omega,hb',Or.inl hc.1⟩)
 rwa [set_none] at this
theorem box4 (w:World) (t:TypeId) (a b c d:Value):∃w',w.alloc (.cells #[a,b,c,d] t)=w'∧Blk w' w.heap.size t [a,b,c,d]∧Below w.heap.size w w'∧w'.heap.size=w.heap.size+1:=
 ⟨_,rfl,Blk.new4 w t a b c d,Below.alloc (Below.refl _ _) (Nat.le_refl _) _,by simp⟩
theorem Blk.all4 {w:World} {g t:Nat} {a b c d:Value} (h:Blk w g t [a,b,c,d]):w.cell? ⟨g,0,none⟩=some a∧w.cell? ⟨g,1,none⟩=some b∧w.cell? ⟨g,2,none⟩=some c∧w.cell? ⟨g,3,none⟩=some d∧
  w.frozen? ⟨g,0,none⟩=false∧w.frozen? ⟨g,1,none⟩=false∧w.frozen? ⟨g,2,none⟩=false∧w.frozen? ⟨g,3,none⟩=false∧g<w.heap.size:=
 ⟨h.c0,h.c1,h.c2,h.c3,h.frozen 0,h.frozen 1,h.frozen 2,h.frozen 3,h.lt⟩
theorem info_bl:(Try.prog.info? 4).map (fun i=>(i.zero,i.size,i.bytes))=some (some (.bool false),1,1):=by kernel_rfl
theorem info_bls:(Try.prog.info? 114).map (fun i=>(i.zero,i.size,i.bytes))=some (some (.slice none 0 0),1,24):=by kernel_rfl
theorem AutAt.box {t a:Int} {ac:List (List Bool)} {nx:List (List (List Int))} {s u:Option Addr} {c d:Nat} {w:World} (hr:Rd w (bbD ac) (.slice s ac.length c)) (hq:Rd w (iiiD nx) (.slice u nx.length d)) (T:TypeId):
  AutAt (w.alloc (.cells #[.int .i64 t,.int .i64 a,.slice s ac.length c,.slice u nx.length d] T)) w.heap.size 0 t a ac nx s u c d:=by
 have L:=Blk.new4 w T (.int .i64 t) (.int .i64 a) (.slice s ac.length c) (.slice u nx.length d);exact ⟨L.c0,L.c1,L.c2,L.c3,hr.alloc _,hq.alloc _⟩
set_option maxRecDepth 100000 in
set_option maxHeartbeats 16000000 in
theorem implValidAutomaton_i {t a:Int} {ac:List (List Bool)} {nx:List (List (List Int))} {s u:Option Addr} {c d:Nat} {w:World} (hr:Rd w (bbD ac) (.slice s ac.length c)) (hq:Rd w (iiiD nx) (.slice u nx.length d)):
  Calls Try.prog 67 #[.agg #[.int .i64 t,.int .i64 a,.slice s ac.length c,.slice u nx.length d]] w fun e w'=>e= .returned (.bool (autB t a ac nx))∧Below w.heap.size w w':=by
 obtain ⟨hlen,hcap⟩:=nest_bd hr;obtain ⟨hlen',hcap'⟩:=nest_bd hq;unfold maxLen at hcap hcap'
 go_enter Try.func67,Try.ntmps67
 go_wp2_with fail;have h:=AutAt.box (t:=t) (a:=a) hr hq 51;have hB0:Below w.heap.size w (w.alloc (.cells #[.int .i64 t,.int .i64 a,.slice s ac.length c,.slice u nx.length d] 51)):=bel
 have hz:w.heap.size≤(w.alloc (.cells #[.int .i64 t,.int .i64 a,.slice s ac.length c,.slice u nx.length d] 51)).heap.size:=by simp
 generalize w.alloc (.cells #[.int .i64 t,.int .i64 a,.slice s ac.length c,.slice u nx.length d] 51)=w0 at h hB0 hz ⊢;have g4:=h.2.2.2.2.1;have g5:=h.2.2.2.2.2;have hbl:=h.lt;have Hh:=hid h;have HB0:=hid hB0;have HZ:=hid hz;clear hr hq hB0 hz h;refine (implValidSig_any t a _).mono ?_;rintro e w1 ⟨rfl,hB⟩;have hBw:=hid (HB0.out.trans (hB.mono HZ.out));have HB:=hid hB;clear hB
 cases hs:sigB t a
 ·have C1:=hid (show autB t a ac nx=false from autB_no fun q=>by rw [q.sig] at hs; cases hs);clear hs;obtain ⟨c0,c1',c2',c3', -, -⟩:=Hh.out.below HB.out;simp only [Nat.zero_add] at c1' c2' c3';go_wp2_with fail;go_ret;exact ⟨ret_bool (by rw [C1.out]),hBw.out⟩
 have Hs:=hid hs;clear hs
 by_cases hn1:1≤ac.length
 rotate_left
 ·have C1:=hid (show autB t a ac nx=false from autB_no fun q=>hn1 q.lo);obtain ⟨c0,c1',c2',c3', -, -⟩:=Hh.out.below HB.out;simp only [Nat.zero_add] at c1' c2' c3';go_wp2_with fail;go_ret;exact ⟨ret_bool (by rw [C1.out]),hBw.out⟩
 by_cases hn2:ac.length≤60
 rotate_left
 ·have C1:=hid (show autB t a ac nx=false from autB_no fun q=>hn2 q.hi);obtain ⟨c0,c1',c2',c3', -, -⟩:=Hh.out.below HB.out;simp only [Nat.zero_add] at c1' c2' c3';go_wp2_with fail;go_ret;exact ⟨ret_bool (by rw [C1.out]),hBw.out⟩
 by_cases hl:nx.length=ac.length
 rotate_left
 ·have C1:=hid (show autB t a ac nx=false from autB_no fun q=>hl q.len)
  have c2:((nx.length:Int) !=(ac.length:Int))=true:=by simp; omega
  clear hl;obtain ⟨c0,c1',c2',c3', -, -⟩:=Hh.out.below HB.out;simp only [Nat.zero_add] at c1' c2' c3';go_wp2_with fail;go_ret;exact ⟨ret_bool (by rw [C1.out]),hBw.out⟩
 have c2:((nx.length:Int) !=(ac.length:Int))=false:=by simp [hl]
 have Hl:=hid hl
 have hl1:nx.length≤ac.length:=by omega
 have hl2:ac.length≤nx.length:=by omega
 clear hl;obtain ⟨ht0,ht1,ha0,ha1⟩:=sigB_bd Hs.out;have hat:=atomsN_bd t;obtain ⟨sb,so,rfl⟩:=nest_some (f:=boolsD) g4 (by omega);obtain ⟨ub,uo,rfl⟩:=nest_some (f:=iiD) g5 (by omega);obtain ⟨c0,c1',c2',c3', -, -⟩:=Hh.out.below HB.out;simp only [Nat.zero_add] at c1' c2' c3';go_wp2_with fail;clear c2 c0 c1' c2' c3'
 go_loopw [32] (fun i wr=>∃k:Nat,k≤ac.length∧i= .int .i64 k∧StsOk t a ac nx k∧Below w0.heap.size w0 wr) (fun i _=>ac.length - (intOf i).toNat)
 case atStart=>exact ⟨0,by omega,rfl,StsOk.zero,HB.out⟩
 case round=>
  clear HB hBw;obtain ⟨k,hk,rfl,hst,hB⟩:=hrel;have szB:=hB.size;have Hst:=hid hst;have HB:=hid hB;clear hst hB
  by_cases hlt:k<ac.length
  rotate_left
  ·have C1:=hid (show autB t a ac nx=true from autB_yes ⟨Hs.out,hn1,hn2,Hl.out,fun i ar nr h1 h2=>Hst.out i ar nr (by have:=(List.getElem?_eq_some_iff.1 h1).1; omega) h1 h2⟩);have hBw:=hid (HB0.out.trans (HB.out.mono HZ.out));go_wp2_with fail;go_ret;exact ⟨ret_bool (by rw [C1.out]),hBw.out⟩
  obtain ⟨ar,har⟩:∃e,ac[k]? =some e:=⟨_,List.getElem?_eq_getElem hlt⟩;obtain ⟨nr,hnr⟩:∃e,nx[k]? =some e:=⟨_,List.getElem?_eq_getElem (by omega)⟩;obtain ⟨hsl,sa,ca,a0,ra⟩:=nest_sl (g:=D.bool) g4 har;obtain ⟨hul,sn,cn,b0,rb⟩:=nest_sl (g:=intsD) g5 hnr;obtain ⟨ra1,ra2⟩:=nest_bd ra;obtain ⟨rb1,rb2⟩:=nest_bd rb;unfold maxLen at ra2 rb2;have A0:=hid a0;have B0:=hid b0;have Har:=hid har;have Hnr:=hid hnr;have hkz:=Int.natCast_nonneg k
  have hkb:(k:Int)<(ac.length:Int):=by omega
  have hkc:(k:Int)<(nx.length:Int):=by omega
  clear a0 b0 har hnr
  by_cases hA:(ar.length:Int)=atomsN t
  rotate_left
  ·have C1:=hid (show autB t a ac nx=false from autB_no fun q=>hA (q.st k ar nr Har.out Hnr.out).1)
   have bA:((ar.length:Int) !=atomsN t)=true:=by simp [hA]
   clear hA;obtain ⟨c0,c1',c2',c3', -, -⟩:=Hh.out.below HB.out;simp only [Nat.zero_add] at c1' c2' c3';have a0:=(HB.out.cell (p:=⟨sb,so+k,none⟩) hsl).trans A0.out;have b0:=(HB.out.cell (p:=⟨ub,uo+k,none⟩) hul).trans B0.out;have gc0:=fun d os=>cell_regrown c0 d os;have gc1:=fun d os=>cell_regrown c1' d os;have gc2:=fun d os=>cell_regrown c2' d os;have gc3:=fun d os=>cell_regrown c3' d os;have ga0:=fun d os=>cell_regrown a0 d os;have gb0:=fun d os=>cell_regrown b0 d os;go_wp2_with fail;refine Go.wp_region_quiet_below (by kernel_rfl) (by kernel_rfl) ?_
   repeat (first|go_big_quiet_step ((exact Calls.regrown_of (atomsIn_i ht0 ht1)))|quiet_step ((exact Calls.regrown_of (atomsIn_i ht0 ht1))))
   refine wpQuiet_nil ?_; intro _ hw'; obtain ⟨⟨dq,osq⟩,hw''⟩:=hw'; subst hw''; have hq:=below_regrown wr dq osq; revert hq; generalize grow (redrawn wr dq) osq=w2; intro hq;have HB2:=hid (show Below w0.heap.size w0 w2 from Below.on HB.out hq HB.out.size);have hBw:=hid (HB0.out.trans (HB2.out.mono HZ.out));clear hq c0 c1' c2' c3' a0 b0 gc0 gc1 gc2 gc3 ga0 gb0;go_wp2_with fail;go_ret;exact ⟨ret_bool (by rw [C1.out]),hBw.out⟩
  have bA:((ar.length:Int) !=atomsN t)=false:=by simp [hA]
  have HA:=hid hA;clear hA
  by_cases hN:(nr.length:Int)=atomsN t
  rotate_left
  ·have C1:=hid (show autB t a ac nx=false from autB_no fun q=>hN (q.st k ar nr Har.out Hnr.out).2.1)
   have bN:((nr.length:Int) !=atomsN t)=true:=by simp [hN]
   clear hN;obtain ⟨c0,c1',c2',c3', -, -⟩:=Hh.out.below HB.out;simp only [Nat.zero_add] at c1' c2' c3';have a0:=(HB.out.cell (p:=⟨sb,so+k,none⟩) hsl).trans A0.out;have b0:=(HB.out.cell (p:=⟨ub,uo+k,none⟩) hul).trans B0.out;have gc0:=fun d os=>cell_regrown c0 d os;have gc1:=fun d os=>cell_regrown c1' d os;have gc2:=fun d os=>cell_regrown c2' d os;have gc3:=fun d os=>cell_regrown c3' d os;have ga0:=fun d os=>cell_regrown a0 d os;have gb0:=fun d os=>cell_regrown b0 d os;go_wp2_with fail;refine Go.wp_region_quiet_below (by kernel_rfl) (by kernel_rfl) ?_
   repeat (first|go_big_quiet_step ((exact Calls.regrown_of (atomsIn_i ht0 ht1)))|quiet_step ((exact Calls.regrown_of (atomsIn_i ht0 ht1))))
   refine wpQuiet_nil ?_; intro _ hw'; obtain ⟨⟨dq,osq⟩,hw''⟩:=hw'; subst hw''; have hq:=below_regrown wr dq osq; revert hq; generalize grow (redrawn wr dq) osq=w2; intro hq;have HB2:=hid (show Below w0.heap.size w0 w2 from Below.on HB.out hq HB.out.size);have hBw:=hid (HB0.out.trans (HB2.out.mono HZ.out));clear hq c0 c1' c2' c3' a0 b0 gc0 gc1 gc2 gc3 ga0 gb0;go_wp2_with fail;go_ret;exact ⟨ret_bool (by rw [C1.out]),hBw.out⟩
  have bN:((nr.length:Int) !=atomsN t)=false:=by simp [hN]
  have HN:=hid hN;clear hN;obtain ⟨c0,c1',c2',c3', -, -⟩:=Hh.out.below HB.out;simp only [Nat.zero_add] at c1' c2' c3';have a0:=(HB.out.cell (p:=⟨sb,so+k,none⟩) hsl).trans A0.out;have b0:=(HB.out.cell (p:=⟨ub,uo+k,none⟩) hul).trans B0.out;have gc0:=fun d os=>cell_regrown c0 d os;have gc1:=fun d os=>cell_regrown c1' d os;have gc2:=fun d os=>cell_regrown c2' d os;have gc3:=fun d os=>cell_regrown c3' d os;have ga0:=fun d os=>cell_regrown a0 d os;have gb0:=fun d os=>cell_regrown b0 d os;go_wp2_with fail;refine Go.wp_region_quiet_below (by kernel_rfl) (by kernel_rfl) ?_
  repeat (first|go_big_quiet_step ((exact Calls.regrown_of (atomsIn_i ht0 ht1)))|quiet_step ((exact Calls.regrown_of (atomsIn_i ht0 ht1))))
  refine wpQuiet_nil ?_; intro _ hw'; obtain ⟨⟨dq,osq⟩,hw''⟩:=hw'; subst hw''; have hq:=below_regrown wr dq osq; revert hq; generalize grow (redrawn wr dq) osq=w2; intro hq;have HB2:=hid (show Below w0.heap.size w0 w2 from Below.on HB.out hq HB.out.size);have hBw:=hid (HB0.out.trans (HB2.out.mono HZ.out));clear hq c0 c1' c2' c3' a0 b0 gc0 gc1 gc2 gc3 ga0 gb0;clear bA bN HB hBw;have HB:=HB2;clear HB2
  have hnp:0<nr.length:=by have:=HN.out; omega
  obtain ⟨vb,vo,rfl⟩:=nest_some (f:=intsD) rb hnp;have q1:IntKind.i64.wrap ((ac.length:Int) - 1)=ac.length - 1:=wrap_of (by omega) (by omega);obtain ⟨c0,c1',c2',c3', -, -⟩:=Hh.out.below HB.out;simp only [Nat.zero_add] at c1' c2' c3';have b0:=(HB.out.cell (p:=⟨ub,uo+k,none⟩) hul).trans B0.out;go_wp2_with fail;clear c0 c1' c2' c3' b0
  go_loopw [63] (fun i wr=>∃j:Nat,j≤nr.length∧i= .int .i64 j∧RowsOk a ac.length nr j∧Below w0.heap.size w0 wr) (fun i _=>nr.length - (intOf i).toNat)
  case atStart=>exact ⟨0,by omega,rfl,RowsOk.zero,HB.out⟩
  case round=>
   clear HB;obtain ⟨j,hj,rfl,hro,hB⟩:=hrel;have szB:=hB.size;have Hro:=hid hro;have HB:=hid hB;clear hro hB
   by_cases hjl:j<nr.length
   rotate_left
   ·have Hs':=hid (Hst.out.succ Har.out Hnr.out ⟨HA.out,HN.out,fun i row h=>Hro.out i row (by have:=(List.getElem?_eq_some_iff.1 h).1; omega) h⟩);go_wp2_with fail
    go_roundw
    case rel=>exact ⟨k+1,by omega,by go_num,Hs'.out,HB.out⟩
    case measure=>simp [intOf]; omega
   obtain ⟨row,hrow⟩:∃e,nr[j]? =some e:=⟨_,List.getElem?_eq_getElem hjl⟩;obtain ⟨hvl,sr,cr,r0,rr⟩:=nest_sl (g:=D.int) rb hrow;obtain ⟨rr1,rr2⟩:=nest_bd rr;unfold maxLen at rr2;replace r0:=(HB.out.cell (p:=⟨vb,vo+j,none⟩) hvl).trans r0;have Hrow:=hid hrow;have hjz:=Int.natCast_nonneg j
   have hjb:(j:Int)<(nr.length:Int):=by omega
   clear hrow
   by_cases hA2:(row.length:Int)=a
   rotate_left
   ·have C1:=hid (show autB t a ac nx=false from autB_no fun q=>hA2 ((q.st k ar nr Har.out Hnr.out).2.2 j row Hrow.out).1)
    have bA:((row.length:Int) !=a)=true:=by simp [hA2]
    have hBw:=hid (HB0.out.trans (HB.out.mono HZ.out));clear hA2;obtain ⟨c0,c1',c2',c3', -, -⟩:=Hh.out.below HB.out;simp only [Nat.zero_add] at c1' c2' c3';go_wp2_with fail;go_ret;exact ⟨ret_bool (by rw [C1.out]),hBw.out⟩
   have bA:((row.length:Int) !=a)=false:=by simp [hA2]
   have HA2:=hid hA2;clear hA2;obtain ⟨c0,c1',c2',c3', -, -⟩:=Hh.out.below HB.out;simp only [Nat.zero_add] at c1' c2' c3';go_wp2_with fail;clear bA r0 c0 c1' c2' c3'
   go_loopw [75] (fun i wr=>∃l:Nat,l≤row.length∧i= .int .i64 l∧CellsOk ac.length row l∧Below w0.heap.size w0 wr) (fun i _=>row.length - (intOf i).toNat)
   case atStart=>exact ⟨0,by omega,rfl,CellsOk.zero,HB.out⟩
   case round=>
    clear HB;obtain ⟨l,hl,rfl,hce,hB⟩:=hrel;have szB:=hB.size;have Hce:=hid hce;have HB:=hid hB;clear hce hB;have hlz:=Int.natCast_nonneg l
    by_cases hll:l<row.length
    rotate_left
    ·have Hs':=hid (Hro.out.succ Hrow.out ⟨HA2.out,fun i z h=>Hce.out i z (by have:=(List.getElem?_eq_some_iff.1 h).1; omega) h⟩);go_wp2_with fail
     go_roundw
     case rel=>exact ⟨j+1,by omega,by go_num,Hs'.out,HB.out⟩
     case measure=>simp [intOf]; omega
    have hlb:(l:Int)<(row.length:Int):=by omega
    obtain ⟨z,hz⟩:∃e,row[l]? =some e:=⟨_,List.getElem?_eq_getElem hll⟩;obtain ⟨tb,to',rfl⟩:=nest_some (f:=D.int) rr (by omega);obtain ⟨-, z0⟩:=int_in (rr.below HB.out) hz;have Hz:=hid hz;clear hz;go_wp2_with fail;refine (within_any _ _ _ _).mono ?_;rintro e w' ⟨rfl,rfl⟩
    cases hin:inB z (-1) (ac.length - 1)
    ·have C1:=hid (show autB t a ac nx=false from autB_no fun q=>by
      have h1:=((q.st k ar nr Har.out Hnr.out).2.2 j row Hrow.out).2 l z Hz.out
      have h2:inB z (-1) (ac.length - 1)=true:=by simp only [inB,Bool.and_eq_true,decide_eq_true_eq]; exact h1
      rw [h2] at hin
      cases hin)
     have hBw:=hid (HB0.out.trans (HB.out.mono HZ.out));clear hin;go_wp2_with fail;go_ret;exact ⟨ret_bool (by rw [C1.out]),hBw.out⟩
    have Hs':=hid (Hce.out.succ Hz.out hin);clear hin;go_wp2_with fail
    go_roundw
    case rel=>exact ⟨l+1,by omega,by go_num,Hs'.out,HB.out⟩
    case measure=>simp [intOf]; omega
theorem App.freshN {α:Type} {f:α→D} {W w:World} {t:TypeId} {xs:List α} {n:Nat} {v:Value} (h:App W w t 1 n (xs.map f) v) (hn:xs.length=n):Fresh W w (nestD f xs) v:=by
 subst hn;exact h.fresh
theorem App.sized {W w:World} {t:TypeId} {ds ds':List D} {n n':Nat} {v:Value} (h:App W w t 1 n ds v) (hd:ds=ds') (hn:n=n'):App W w t 1 n' ds' v:=by
 subst hd hn;exact h
end Go.Proofs.Ytbflhjjnemdecaa
