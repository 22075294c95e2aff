/-
  Parts of a proof, joined: Mem, Rg, Rs. No condition.
-/
import Derived.WalkKit
import Derived.ProofKit
import Derived.OpenShut
import Derived.ChangeSame
import Derived.Carry
import Derived.Deep.Slices
import Derived.Deep.LoopGhost
import Derived.Deep.DeepFit
import Derived.Deep.DeepMust
import Derived.Deep.RegionWith
import Derived.Deep.RegionHeld3
import Derived.Deep.QuietTactic
import Derived.BigQuiet
import Derived.WalkSpells
import Derived.WalkLawsBesides
import Derived.WalkSmall
import Derived.Lib.Hide
import Derived.Lib.QuietBelow
import Derived.Deep.CutRange
namespace Go.Proofs.YtfopdcdbelaapaaDoor
set_option linter.unusedVariables false
set_option linter.unusedSimpArgs false
open Go.ChangeShapes Go.WideShapes Go.ChangeAt Go.RowKit Go.Deep
inductive D where
 |int (n:Int)
 |bool (b:Bool)
 |str (s:ByteArray)
 |raw (u:Value)
 |sl (size n:Nat) (cs:List D)
def Row (w:World) (b o:Nat) (xs:List Value):Prop:=∀i,i<xs.length→w.cell? ⟨b,o+i,none⟩=xs[i]?
mutual
def Rd (w:World):D→Value→Prop
 | .int n,v=>v= .int .i64 n
 | .bool b,v=>v= .bool b
 | .str s,v=>v= .string s∧s.size≤maxLen
 | .raw u,v=>v=u∧u.oneCell'=true
 | .sl size n cs,v=>∃a cap,v= .slice a n cap∧n≤cap∧cap≤maxLen∧cs.length=n*size∧(a=none→cap=0)∧((n=0)∨∃b o xs,a=some ⟨b,o,none⟩∧Row w b o xs∧Rds w cs xs)
def Rds (w:World):List D→List Value→Prop
 |[],xs=>xs=[]
 |c::cs,xs=>∃x r,xs=x::r∧Rd w c x∧Rds w cs r
end
def Free (w:World) (b:Nat):Prop:=∃cur t,w.heap[b]? =some (.cells cur t (0,0))
mutual
def Ow (w:World):D→Value→List Nat→Prop
 | .int n,v,F=>v= .int .i64 n∧F=[]
 | .bool b,v,F=>v= .bool b∧F=[]
 | .str s,v,F=>(v= .string s∧s.size≤maxLen)∧F=[]
 | .raw u,v,F=>(v=u∧u.oneCell'=true)∧F=[]
 | .sl size n cs,v,F=>∃a cap,v= .slice a n cap∧n≤cap∧cap≤maxLen∧cs.length=n*size∧(a=none→cap=0)∧((n=0∧F=[])∨∃b o xs G,a=some ⟨b,o,none⟩∧F=b::G∧Free w b∧Row w b o xs∧Ows w cs xs G)
def Ows (w:World):List D→List Value→List Nat→Prop
 |[],xs,F=>xs=[]∧F=[]
 |c::cs,xs,F=>∃x r G K,xs=x::r∧F=G++K∧Ow w c x G∧Ows w cs r K
end
mutual
theorem Ow.rd {w:World}:∀{d:D} {v:Value} {F:List Nat},Ow w d v F→Rd w d v
 | .int _,_,_,h=>by simp only [Ow] at h; simp only [Rd]; exact h.1
 | .bool _,_,_,h=>by simp only [Ow] at h; simp only [Rd]; exact h.1
 | .str _,_,_,h=>by simp only [Ow] at h; simp only [Rd]; exact h.1
 | .raw _,_,_,h=>by simp only [Ow] at h; simp only [Rd]; exact h.1
 | .sl _ _ cs,_,_,h=>by
  simp only [Ow] at h;simp only [Rd];obtain ⟨a,cap,h1,h2,h3,h4,h6,h5⟩:=h;refine ⟨a,cap,h1,h2,h3,h4,h6, ?_⟩
  rcases h5 with h5|⟨b,o,xs,G,e1,_,_,e3,e4⟩
  ·
   exact Or.inl h5.1
  ·
   exact Or.inr ⟨b,o,xs,e1,e3,Ows.rds e4⟩
theorem Ows.rds {w:World}:∀{cs:List D} {xs:List Value} {F:List Nat},Ows w cs xs F→Rds w cs xs
 |[],_,_,h=>by simp only [Ows] at h; simp only [Rds]; exact h.1
 |c::cs,_,_,h=>by
  simp only [Ows] at h;obtain ⟨x,r,G,K,e1,_,h1,h2⟩:=h;simp only [Rds];exact ⟨x,r,e1,Ow.rd h1,Ows.rds h2⟩
end
theorem Row.congr {w w':World} {b o:Nat} {xs:List Value} (h:Row w b o xs) (hb:w'.heap[b]? =w.heap[b]?):Row w' b o xs:=
 fun i hi=>(World.cell?_of_block (w:=w) (w':=w') (a:=⟨b,o+i,none⟩) hb).trans (h i hi)
theorem Row.lt {w:World} {b o:Nat} {xs:List Value} (h:Row w b o xs) (hx:xs≠[]):b<w.heap.size:=by
 cases xs with
 |nil=>exact absurd rfl hx
 |cons x r=>exact World.block_lt_of_cell? w ⟨b,o+0,none⟩ (by simpa using h 0 (by simp))
theorem Free.lt {w:World} {b:Nat} (h:Free w b):b<w.heap.size:=by
 obtain ⟨cur,t,h⟩:=h;exact (Array.getElem?_eq_some_iff.1 h).1
mutual
theorem Ow.lt {w:World}:∀{d:D} {v:Value} {F:List Nat},Ow w d v F→∀b∈F,b<w.heap.size
 | .int _,_,_,h=>by simp only [Ow] at h; rw [h.2]; simp
 | .bool _,_,_,h=>by simp only [Ow] at h; rw [h.2]; simp
 | .str _,_,_,h=>by simp only [Ow] at h; rw [h.2]; simp
 | .raw _,_,_,h=>by simp only [Ow] at h; rw [h.2]; simp
 | .sl _ _ cs,_,_,h=>by
  simp only [Ow] at h;obtain ⟨a,cap,h1,h2,h3,h4,h6,h5⟩:=h
  rcases h5 with h5|⟨b,o,xs,G,e1,e5,hf,e3,e4⟩
  ·
   rw [h5.2]; simp
  ·
   rw [e5];intro k hk
   rcases List.mem_cons.1 hk with rfl|hk
   ·
    exact hf.lt
   ·
    exact Ows.lt e4 k hk
theorem Ows.lt {w:World}:∀{cs:List D} {xs:List Value} {F:List Nat},Ows w cs xs F→∀b∈F,b<w.heap.size
 |[],_,_,h=>by simp only [Ows] at h; rw [h.2]; simp
 |c::cs,_,_,h=>by
  simp only [Ows] at h;obtain ⟨x,r,G,K,e1,e2,h1,h2⟩:=h;rw [e2];intro k hk
  rcases List.mem_append.1 hk with hk|hk
  ·
   exact Ow.lt h1 k hk
  ·
   exact Ows.lt h2 k hk
end
mutual
theorem Ow.keep {w w':World}:∀{d:D} {v:Value} {F:List Nat},Ow w d v F→(∀b∈F,w'.heap[b]? =w.heap[b]?)→Ow w' d v F
 | .int _,_,_,h,_=>by simp only [Ow] at h ⊢; exact h
 | .bool _,_,_,h,_=>by simp only [Ow] at h ⊢; exact h
 | .str _,_,_,h,_=>by simp only [Ow] at h ⊢; exact h
 | .raw _,_,_,h,_=>by simp only [Ow] at h ⊢; exact h
 | .sl _ _ cs,_,_,h,hk=>by
  simp only [Ow] at h ⊢;obtain ⟨a,cap,h1,h2,h3,h4,h6,h5⟩:=h;refine ⟨a,cap,h1,h2,h3,h4,h6, ?_⟩
  rcases h5 with h5|⟨b,o,xs,G,e1,e5,⟨cur,t,hf⟩,e3,e4⟩
  ·
   exact Or.inl h5
  ·
   subst e5;have hb:=hk b (List.mem_cons_self ..);exact Or.inr ⟨b,o,xs,G,e1,rfl,⟨cur,t,hb.trans hf⟩,e3.congr hb,Ows.keep e4 fun k h=>hk k (List.mem_cons_of_mem _ h)⟩
theorem Ows.keep {w w':World}:∀{cs:List D} {xs:List Value} {F:List Nat},Ows w cs xs F→(∀b∈F,w'.heap[b]? =w.heap[b]?)→Ows w' cs xs F
 |[],_,_,h,_=>by simp only [Ows] at h ⊢; exact h
 |c::cs,_,_,h,hk=>by
  simp only [Ows] at h ⊢;obtain ⟨x,r,G,K,e1,e2,h1,h2⟩:=h;subst e2;exact ⟨x,r,G,K,e1,rfl,Ow.keep h1 fun k h=>hk k (List.mem_append_left _ h),Ows.keep h2 fun k h=>hk k (List.mem_append_right _ h)⟩
end
mutual
theorem Rd.keep {w w':World} (hk:∀b,b<w.heap.size→w'.heap[b]? =w.heap[b]?):∀{d:D} {v:Value},Rd w d v→Rd w' d v
 | .int _,_,h=>by simp only [Rd] at h ⊢; exact h
 | .bool _,_,h=>by simp only [Rd] at h ⊢; exact h
 | .str _,_,h=>by simp only [Rd] at h ⊢; exact h
 | .raw _,_,h=>by simp only [Rd] at h ⊢; exact h
 | .sl size n cs,_,h=>by
  simp only [Rd] at h ⊢;obtain ⟨a,cap,h1,h2,h3,h4,h6,h5⟩:=h;refine ⟨a,cap,h1,h2,h3,h4,h6, ?_⟩
  rcases h5 with h5|⟨b,o,xs,e1,e3,e4⟩
  ·
   exact Or.inl h5
  ·
   refine Or.inr ⟨b,o,xs,e1, ?_,Rds.keep hk e4⟩
   by_cases hx:xs=[]
   ·
    subst hx; intro i hi; exact absurd hi (Nat.not_lt_zero _)
   ·
    exact e3.congr (hk b (e3.lt hx))
theorem Rds.keep {w w':World} (hk:∀b,b<w.heap.size→w'.heap[b]? =w.heap[b]?):∀{cs:List D} {xs:List Value},Rds w cs xs→Rds w' cs xs
 |[],_,h=>by simp only [Rds] at h ⊢; exact h
 |c::cs,_,h=>by
  simp only [Rds] at h ⊢;obtain ⟨x,r,e1,h1,h2⟩:=h;exact ⟨x,r,e1,Rd.keep hk h1,Rds.keep hk h2⟩
end
theorem Rd.below {w w':World} {d:D} {v:Value} (h:Rd w d v) (hb:Below w.heap.size w w'):Rd w' d v:=h.keep hb.block
theorem Rd.alloc {w:World} {d:D} {v:Value} (h:Rd w d v) (o:Obj):Rd (w.alloc o) d v:=h.keep fun k hk=>Below.heap_alloc w o k hk
theorem Rds.length {w:World}:∀{cs:List D} {xs:List Value},Rds w cs xs→xs.length=cs.length
 |[],_,h=>by simp only [Rds] at h; rw [h]; rfl
 |c::cs,_,h=>by
  simp only [Rds] at h;obtain ⟨x,r,e1,_,h2⟩:=h;rw [e1,List.length_cons,List.length_cons,Rds.length h2]
theorem Rds.at {w:World}:∀{cs:List D} {xs:List Value},Rds w cs xs→∀{i:Nat} {c:D},cs[i]? =some c→∃x,xs[i]? =some x∧Rd w c x
 |[],_,_,i,c,hi=>by simp at hi
 |c0::cs,_,h,i,c,hi=>by
  simp only [Rds] at h;obtain ⟨x,r,e1,h1,h2⟩:=h;subst e1
  cases i with
  |zero=>simp at hi; subst hi; exact ⟨x,by simp,h1⟩
  |succ i=>simpa using Rds.at h2 (by simpa using hi)
theorem Ows.length {w:World} {cs:List D} {xs:List Value} {F:List Nat} (h:Ows w cs xs F):xs.length=cs.length:=h.rds.length
theorem Ows.append {w:World}:∀{cs ds:List D} {xs ys:List Value} {F G:List Nat},Ows w cs xs F→Ows w ds ys G→Ows w (cs++ds) (xs++ys) (F++G)
 |[],_,_,_,_,_,h,k=>by simp only [Ows] at h; obtain ⟨rfl,rfl⟩:=h; simpa using k
 |c::cs,_,_,_,_,G,h,k=>by
  simp only [Ows] at h;obtain ⟨x,r,A,B,e1,e2,h1,h2⟩:=h;subst e1 e2;simp only [List.cons_append,Ows];exact ⟨x,_,A,B++G,rfl,by rw [List.append_assoc],h1,Ows.append h2 k⟩
theorem Rd.sl_at {w:World} {size n:Nat} {cs:List D} {a:Option Addr} {len cap:Nat} (h:Rd w (.sl size n cs) (.slice a len cap)):
  len=n∧n≤cap∧cap≤maxLen∧cs.length=n*size∧(a=none→cap=0)∧(n=0∨∃b o,a=some ⟨b,o,none⟩∧∀i c,cs[i]? =some c→∃x,w.cell? ⟨b,o+i,none⟩=some x∧Rd w c x):=by
 simp only [Rd] at h;obtain ⟨a',cap',h1,h2,h3,h4,h6,h5⟩:=h;simp only [Value.slice.injEq] at h1;obtain ⟨rfl,rfl,rfl⟩:=h1;refine ⟨rfl,h2,h3,h4,h6, ?_⟩
 rcases h5 with h5|⟨b,o,xs,e1,e3,e4⟩
 ·
  exact Or.inl h5
 ·
  refine Or.inr ⟨b,o,e1,fun i c hc=> ?_⟩;obtain ⟨x,hx,hr⟩:=e4.at hc;exact ⟨x,(e3 i (List.getElem?_eq_some_iff.1 hx).1).trans hx,hr⟩
theorem Rd.slice {w:World} {size n:Nat} {cs:List D} {v:Value} (h:Rd w (.sl size n cs) v):∃a cap,v= .slice a n cap∧n≤cap∧cap≤maxLen∧(a=none→cap=0):=by
 simp only [Rd] at h;obtain ⟨a,cap,h1,h2,h3,h4,h6,h5⟩:=h;exact ⟨a,cap,h1,h2,h3,h6⟩
def Blk (w:World) (g:Nat) (t:TypeId) (cur:List Value):Prop:=w.heap[g]? =some (.cells cur.toArray t (0,0))
theorem Blk.free {w:World} {g t:Nat} {cur:List Value} (h:Blk w g t cur):Free w g:=⟨_,_,h⟩
theorem Blk.lt {w:World} {g t:Nat} {cur:List Value} (h:Blk w g t cur):g<w.heap.size:=h.free.lt
theorem Blk.cell {w:World} {g t:Nat} {cur:List Value} (h:Blk w g t cur) (i:Nat):w.cell? ⟨g,i,none⟩=cur[i]? :=by
 have h':w.heap[(⟨g,i,none⟩:Addr).block]? =some (.cells cur.toArray t (0,0)):=h
 simp [World.cell?, h']
theorem Blk.frozen {w:World} {g t:Nat} {cur:List Value} (h:Blk w g t cur) (i:Nat):w.frozen? ⟨g,i,none⟩=false:=by
 have h':w.heap[(⟨g,i,none⟩:Addr).block]? =some (.cells cur.toArray t (0,0)):=h
 simp [World.frozen?, h']
theorem Blk.set {w:World} {g t:Nat} {cur:List Value} (h:Blk w g t cur) (i:Nat) (v:Value):Blk (w.setCell ⟨g,i,none⟩ v) g t (cur.set i v):=by
 unfold Blk at h ⊢
 simp [World.setCell,Array.getElem?_modify,h]
theorem Blk.keep {w w':World} {g t:Nat} {cur:List Value} (h:Blk w g t cur) (hk:w'.heap[g]? =w.heap[g]?):Blk w' g t cur:=hk.trans h
theorem Blk.row {w:World} {g t:Nat} {cur xs:List Value} (h:Blk w g t cur) (hx:cur.take xs.length=xs):Row w g 0 xs:=by
 intro i hi;rw [Nat.zero_add,h.cell];have:=List.getElem?_take (l:=cur) (i:=xs.length) (j:=i);rw [hx,if_pos hi] at this;exact this.symm
theorem Blk.made (w:World) (t:TypeId) (cur:Array Value):Blk (w.alloc (.cells cur t)) w.heap.size t cur.toList:=by
 unfold Blk;rw [heap_alloc_new]
theorem Free.frozen {w:World} {g:Nat} (h:Free w g) (i:Nat):w.frozen? ⟨g,i,none⟩=false:=by
 obtain ⟨cur,t,h⟩:=h;have h':w.heap[(⟨g,i,none⟩:Addr).block]? =some (.cells cur t (0,0)):=h
 simp [World.frozen?, h']
theorem Blk.below {w w':World} {g t:Nat} {cur:List Value} (h:Blk w g t cur) (hb:Below w.heap.size w w'):Blk w' g t cur:=h.keep (hb.block _ h.lt)
theorem Blk.alloc {w:World} {g t:Nat} {cur:List Value} (h:Blk w g t cur) (o:Obj):Blk (w.alloc o) g t cur:=h.keep (Below.heap_alloc w o g h.lt)
theorem Blk.c0 {w:World} {g t:Nat} {a:Value} {r:List Value} (h:Blk w g t (a::r)):w.cell? ⟨g,0,none⟩=some a:=by rw [h.cell]; rfl
theorem Blk.c1 {w:World} {g t:Nat} {a b:Value} {r:List Value} (h:Blk w g t (a::b::r)):w.cell? ⟨g,1,none⟩=some b:=by rw [h.cell]; rfl
theorem Blk.c2 {w:World} {g t:Nat} {a b c:Value} {r:List Value} (h:Blk w g t (a::b::c::r)):w.cell? ⟨g,2,none⟩=some c:=by rw [h.cell]; rfl
theorem Blk.new0 (w:World) (t:TypeId):Blk (w.alloc (.cells #[] t)) w.heap.size t []:=Blk.made w t _
theorem Blk.new1 (w:World) (t:TypeId) (a:Value):Blk (w.alloc (.cells #[a] t)) w.heap.size t [a]:=Blk.made w t _
theorem Blk.new2 (w:World) (t:TypeId) (a b:Value):Blk (w.alloc (.cells #[a,b] t)) w.heap.size t [a,b]:=Blk.made w t _
theorem Blk.new3 (w:World) (t:TypeId) (a b c:Value):Blk (w.alloc (.cells #[a,b,c] t)) w.heap.size t [a,b,c]:=Blk.made w t _
def Fresh (w w':World) (d:D) (v:Value):Prop:=∃F:List Nat,Ow w' d v F∧F.Nodup∧∀b∈F,w.heap.size≤b
theorem Fresh.rd {w w':World} {d:D} {v:Value} (h:Fresh w w' d v):Rd w' d v:=by
 obtain ⟨F,h,_⟩:=h;exact h.rd
theorem Fresh.from {w0 w w':World} {d:D} {v:Value} (h:Fresh w w' d v) (hz:w0.heap.size≤w.heap.size):Fresh w0 w' d v:=by
 obtain ⟨F,h,hn,hl⟩:=h;exact ⟨F,h,hn,fun b hb=>Nat.le_trans hz (hl b hb)⟩
theorem Fresh.keep {w w' w'':World} {d:D} {v:Value} (h:Fresh w w' d v) (hk:∀b,w.heap.size≤b→b<w'.heap.size→w''.heap[b]? =w'.heap[b]?):Fresh w w'' d v:=by
 obtain ⟨F,h,hn,hl⟩:=h;exact ⟨F,h.keep fun b hm=>hk b (hl b hm) (h.lt b hm),hn,hl⟩
def Freshs (w w':World) (ds:List D) (vs:List Value):Prop:=∃F:List Nat,Ows w' ds vs F∧F.Nodup∧∀b∈F,w.heap.size≤b
theorem Freshs.rds {w w':World} {ds:List D} {vs:List Value} (h:Freshs w w' ds vs):Rds w' ds vs:=by
 obtain ⟨F,h,_⟩:=h;exact h.rds
theorem Freshs.cons {w w':World} {d:D} {v:Value} {ds:List D} {vs:List Value} {w0:World} (h:Fresh w0 w d v) (k:Freshs w w' ds vs) (hb:Below w.heap.size w w') (hz:w0.heap.size≤w.heap.size):Freshs w0 w' (d::ds) (v::vs):=by
 obtain ⟨F,h1,h2,h3⟩:=h;obtain ⟨G,k1,k2,k3⟩:=k;refine ⟨F++G, ?_, ?_, ?_⟩
 ·
  simp only [Ows];exact ⟨_,_,F,G,rfl,rfl,h1.keep fun b hm=>hb.block b (h1.lt b hm),k1⟩
 ·
  rw [List.nodup_append];refine ⟨h2,k2,fun a ha b hb'=> ?_⟩;have:=h1.lt a ha;have:=k3 b hb';omega
 ·
  intro b hm
  rcases List.mem_append.1 hm with hm|hm
  ·
   exact h3 b hm
  ·
   have:=k3 b hm;omega
theorem Freshs.one {w w':World} {d:D} {v:Value} (h:Fresh w w' d v):Freshs w w' [d] [v]:=by
 obtain ⟨F,h1,h2,h3⟩:=h;exact ⟨F,by simp only [Ows]; exact ⟨_,_,F,[],rfl,by simp,h1,rfl,rfl⟩,h2,h3⟩
theorem Freshs.from {w0 w w':World} {ds:List D} {vs:List Value} (h:Freshs w w' ds vs) (hz:w0.heap.size≤w.heap.size):Freshs w0 w' ds vs:=by
 obtain ⟨F,h,hn,hl⟩:=h;exact ⟨F,h,hn,fun b hb=>Nat.le_trans hz (hl b hb)⟩
theorem Freshs.keep {w w' w'':World} {ds:List D} {vs:List Value} (h:Freshs w w' ds vs) (hk:∀b,w.heap.size≤b→b<w'.heap.size→w''.heap[b]? =w'.heap[b]?):Freshs w w'' ds vs:=by
 obtain ⟨F,h,hn,hl⟩:=h;exact ⟨F,h.keep fun b hm=>hk b (hl b hm) (h.lt b hm),hn,hl⟩
theorem Rds.one {w:World} {d:D} {u:Value} (h:Rds w [d] [u]):Rd w d u:=by
 simp only [Rds] at h;obtain ⟨x,r,e1,h1,_⟩:=h;simp only [List.cons.injEq] at e1;obtain ⟨rfl,_⟩:=e1;exact h1
structure Only (F:List Nat) (w w':World):Prop where
 os:w'.os=w.os
 tape:w'.tape=w.tape
 output:w'.output=w.output
 size:w.heap.size≤w'.heap.size
 block:∀b,b<w.heap.size→b∉F→w'.heap[b]? =w.heap[b]?
theorem Only.refl (F:List Nat) (w:World):Only F w w:=⟨rfl,rfl,rfl,Nat.le_refl _,fun _ _ _=>rfl⟩
theorem Only.trans {F:List Nat} {a b c:World} (h:Only F a b) (k:Only F b c):Only F a c:=
 ⟨k.os.trans h.os,k.tape.trans h.tape,k.output.trans h.output,Nat.le_trans h.size k.size,fun i hi hn=>(k.block i (Nat.lt_of_lt_of_le hi h.size) hn).trans (h.block i hi hn)⟩
theorem Only.more {F G:List Nat} {a b:World} (h:Only F a b) (hs:∀x∈F,x∈G):Only G a b:=
 ⟨h.os,h.tape,h.output,h.size,fun i hi hn=>h.block i hi fun hm=>hn (hs i hm)⟩
theorem Only.setCell {F:List Nat} {a w:World} (h:Only F a w) {p:Addr} (hp:p.block∈F) (u:Value):Only F a (w.setCell p u):=
 h.trans ⟨rfl,rfl,rfl,by simp [World.setCell],fun k _ hn=>Below.heap_setCell _ _ _ _ (fun e=>hn (e ▸ hp))⟩
theorem Only.alloc {F:List Nat} {a w:World} (h:Only F a w) (o:Obj):Only F a (w.alloc o):=
 h.trans ⟨rfl,rfl,rfl,by simp,fun k hk _=>Below.heap_alloc w o k hk⟩
theorem Only.below {F:List Nat} {a w:World} (h:Only F a w) {B:Nat} (hB:B≤a.heap.size) (hF:∀b∈F,B≤b):Below B a w:=
 ⟨h.os,h.tape,h.output,h.size,fun k hk=>h.block k (by omega) (fun hm=>by have:=hF k hm; omega)⟩
theorem Ows.nil {w:World}:Ows w [] [] []:=by simp [Ows]
theorem Ows.cons {w:World} {d:D} {v:Value} {cs:List D} {xs:List Value} {F G:List Nat} (h:Ow w d v F) (k:Ows w cs xs G):Ows w (d::cs) (v::xs) (F++G):=by
 simp only [Ows];exact ⟨_,_,F,G,rfl,rfl,h,k⟩
theorem Ow.int {w:World} (n:Int):Ow w (.int n) (.int .i64 n) []:=by simp [Ow]
theorem Ows.raws {w:World}:∀{us:List Value},(∀u∈us,u.oneCell'=true)→Ows w (us.map D.raw) us []
 |[],_=>by simp [Ows]
 |u::r,h=>by
  simp only [List.map_cons,Ows,Ow];exact ⟨u,r,[],[],rfl,rfl,⟨⟨rfl,h u (by simp)⟩,rfl⟩,Ows.raws fun x hx=>h x (by simp [hx])⟩
theorem Rds.raws {w:World}:∀{us xs:List Value},Rds w (us.map D.raw) xs→xs=us
 |[],_,h=>by simpa [Rds] using h
 |u::r,xs,h=>by
  simp only [List.map_cons,Rds,Rd] at h;obtain ⟨x,r',rfl,⟨rfl, -⟩,h2⟩:=h;rw [Rds.raws h2]
theorem Ows.three {w:World} {k n:Int} {d:D} {v:Value} {F:List Nat} (h:Ow w d v F):Ows w [.int k, .int n,d] [.int .i64 k, .int .i64 n,v] F:=by
 simp only [Ows];exact ⟨_,_,[],F,rfl,rfl,by simp [Ow],_,_,[],F,rfl,rfl,by simp [Ow],_,_,F,[],rfl,by simp,h,rfl,rfl⟩
theorem cells_two {v a b:Value} (h:v.cells.toList=[a,b]):v= .agg #[a,b]:=by
 cases v with
 |agg cs=>simp only [Value.cells] at h; congr 1; exact Array.toList_inj.1 (by rw [h])
 |_=>simp [Value.cells] at h
section
variable {H:Type} {enc:TypeId × Value→H} {P:Program} {w:World} {base:Nat} {sp:Nat→Bool} {hd:Bool}
end
end Go.Proofs.YtfopdcdbelaapaaDoor
namespace Go.Proofs.YtfopdcdbelaapaaDoor
set_option linter.unusedVariables false
set_option linter.unusedSimpArgs false
open Go.ChangeShapes Go.WideShapes Go.ChangeAt Go.RowKit Go.Deep
def slotOf (o:Oper) (a:Act):Value:=match o.dst with
 |some d=>a.tmps.getD d undef
 |none=>undef
def putFrom:List Oper→Nat→(Nat→Value)→Act→Act
 |[],_,_,a=>a
 |o::r,k,vs,a=>putFrom r (k+1) vs (a.put o.dst (vs k))
theorem slotOf_put {o p:Oper} {a:Act} {v:Value} (h:∀d,o.dst=some d→p.dst≠some d):slotOf p (a.put o.dst v)=slotOf p a:=by
 unfold slotOf
 cases hp:p.dst with
 |none=>rfl
 |some d=>
  cases ho:o.dst with
  |none=>rfl
  |some e=>
   have hne:e≠d:=fun he=>h e ho (by rw [hp,he])
   simp [Act.put,Array.getElem?_setIfInBounds_ne hne]
theorem slotOf_same {o:Oper} {a:Act} {v:Value} {d:Tmp} (h:o.dst=some d) (hd:d<a.tmps.size):slotOf o (a.put o.dst v)=v:=by
 unfold slotOf;rw [h]
 simp [Act.put,hd]
theorem putFrom_self:∀(ops:List Oper) (k:Nat) (vs:Nat→Value) (a0 a:Act),a0.defers=a.defers→a0.tmps.size=a.tmps.size→(∀t,(∀o∈ops,o.dst≠some t)→a0.tmps[t]? =a.tmps[t]?)→
  (∀j o,ops[j]? =some o→vs (k+j)=slotOf o a)→putFrom ops k vs a0=a
 |[],k,vs,a0,a,h1,h2,h3,_=>by
  have ht:a0.tmps=a.tmps:=Array.ext_getElem? fun t=>h3 t (by simp)
  cases a0; cases a
  simp only at h1 ht
  simp [putFrom,h1,ht]
 |o::r,k,vs,a0,a,h1,h2,h3,h4=>by
  simp only [putFrom]
  have hv:vs k=slotOf o a:=by simpa using h4 0 o (by simp)
  refine putFrom_self r (k+1) vs _ a ?_ ?_ ?_ ?_
  ·
   cases ho:o.dst<;>simpa [Act.put,ho] using h1
  ·
   cases ho:o.dst<;>simpa [Act.put,ho] using h2
  ·
   intro t ht;rw [hv]
   cases ho:o.dst with
   |none=>
    simp only [Act.put]
    exact h3 t (fun p hp=>by
     rcases List.mem_cons.1 hp with rfl|hp
     ·
      rw [ho]; simp
     ·
      exact ht p hp)
   |some d=>
    by_cases hdt:d=t
    ·
     subst hdt;simp only [Act.put,slotOf,ho]
     by_cases hs:d<a0.tmps.size
     ·
      rw [Array.getElem?_setIfInBounds_self_of_lt hs];rw [h2] at hs
      simp [hs]
     ·
      have hs':¬d<a.tmps.size:=by rw [←h2]; exact hs
      exact (Array.getElem?_eq_none (by rw [Array.size_setIfInBounds]; exact Nat.not_lt.1 hs)).trans (Array.getElem?_eq_none (Nat.not_lt.1 hs')).symm
    ·
     simp only [Act.put];rw [Array.getElem?_setIfInBounds_ne hdt]
     exact h3 t (fun p hp=>by
      rcases List.mem_cons.1 hp with rfl|hp
      ·
       rw [ho]; simpa using hdt
      ·
       exact ht p hp)
  ·
   intro j p hj;have:=h4 (j+1) p (by simpa using hj);rw [←this]
   congr 1
   omega
section
variable {P:Program} {ops:Array Oper}
theorem wpOp_of_list {Q Q1:Exit→Act→World→Prop} {i:Nat} {o:Oper} {K:Act→World→Prop} {a:Act} {w:World} (hi:ops[i]? =some o) (h:wpList P ops Q1 [o] a w)
  (hn:∀a' w',Q1 .normal a' w'→K a' w') (he:∀e a' w',e≠ .normal→¬Q1 e a' w'):wpOp P ops Q i K a w:=by
 unfold wpOp;rw [hi];simp only [wpList] at h;simp only
 split
 ·
  rename_i hw
  rw [if_pos hw] at h
  rcases h with h|⟨_,a',w',h⟩
  ·
   refine Or.inl ?_;unfold Oper.wp at*;generalize (execOp a.eval o).run P w=r at*
   cases r with
   |ok n w'=>
    cases n<;>simp only [Oper.upon] at h ⊢<;>
     first
      |exact hn _ _ h
      |exact Calls.mono h (fun e w'' h'=>by
        cases e
        ·
         exact hn _ _ h'
        ·
         exact absurd h' (he _ _ _ (by simp))
        ·
         obtain ⟨a',w',h'⟩:=h'
         exact absurd h' (he _ _ _ (by simp)))
      |exact Rows.mono h (fun _ _ h'=>hn _ _ h')
      |exact h
   |halt x w'=>
    cases x<;>simp only [Oper.upon] at h ⊢
    all_goals first|exact absurd h (he _ _ _ (by simp))|exact h
  ·
   exact absurd h (he _ _ _ (by simp))
 ·
  rename_i hw
  rw [if_neg hw] at h;exact hn _ _ h
def srcOf (ops:Array Oper) (t:Tmp):Nat:=(List.range ops.size).findIdx fun j=>match ops[j]? with
 |some o=>o.dst==some t
 |none=>false
def deps (ops:Array Oper) (i:Nat):List Nat:=match ops[i]? with
 |some o=>(o.after.toList.filter fun e=>Region.binds .any e).map (·.on)
 |none=>[]
theorem mem_deps {i j:Nat} {o:Oper} (hi:ops[i]? =some o):j∈deps ops i↔∃e∈o.after,Region.binds .any e=true∧e.on=j:=by
 unfold deps;rw [hi];simp only [List.mem_map,List.mem_filter,Array.mem_toList_iff]
 constructor
 ·
  rintro ⟨e,⟨h1,h2⟩,h3⟩; exact ⟨e,h1,h2,h3⟩
 ·
  rintro ⟨e,h1,h2,h3⟩; exact ⟨e,⟨h1,h2⟩,h3⟩
def slots (ops:Array Oper) (a:Act) (i:Nat):Value:=match ops[i]? with
 |some o=>slotOf o a
 |none=>undef
def ancs (ops:Array Oper):Nat→Nat→List Nat
 |0,i=>[i]
 |f+1,i=>i::(deps ops i).flatMap (ancs ops f)
theorem ancs_listed {listed:Array Bool} (hc:∀i,listed.getD i false=true→∀j∈deps ops i,listed.getD j false=true):∀f i,listed.getD i false=true→∀j∈ancs ops f i,listed.getD j false=true
 |0,i,h,j,hj=>by simp only [ancs,List.mem_singleton] at hj; subst hj; exact h
 |f+1,i,h,j,hj=>by
  simp only [ancs,List.mem_cons,List.mem_flatMap] at hj
  rcases hj with rfl|⟨k,hk,hj⟩
  ·
   exact h
  ·
   exact ancs_listed hc f k (hc i h k hk) j hj
def Sep (p q:Nat × Nat):Prop:=p.2≤q.1∨q.2≤p.1
def Agree {α:Type} (l:List Nat) (f g:Nat→α):Prop:=∀j∈l,f j=g j
def upd {α:Type} (f:Nat→α) (i:Nat) (x:α):Nat→α:=fun j=>if j=i then x else f j
theorem getD_false_of {l:Array Bool} {i:Nat} (hi:i<l.size) (h:l.getD i true=false):l.getD i false=false:=by
 simp [hi] at h ⊢; exact h
theorem getD_set_self {l:Array Bool} {i:Nat} (hi:i<l.size) (d:Bool):(l.setIfInBounds i true).getD i d=true:=by simp [hi]
def Onward (K:Act→World→Prop):Exit→Act→World→Prop:=fun e a w=>e= .normal∧K a w
theorem Onward.mk {K:Act→World→Prop} {a:Act} {w:World} (h:K a w):Onward K .normal a w:=⟨rfl,h⟩
end
theorem mem_of {l:List Nat} {j:Nat} (h:l.contains j=true):j∈l:=by simpa using h
def FreshIn (p:Nat × Nat) (w:World) (ds:List D) (vs:List Value):Prop:=∃F:List Nat,Ows w ds vs F∧F.Nodup∧∀b∈F,p.1≤b∧b<p.2
theorem Freshs.stretch {w w':World} {ds:List D} {vs:List Value} (h:Freshs w w' ds vs):FreshIn (w.heap.size,w'.heap.size) w' ds vs:=by
 obtain ⟨F,h1,h2,h3⟩:=h;exact ⟨F,h1,h2,fun b hm=>⟨h3 b hm,h1.lt b hm⟩⟩
structure Spares (X:Nat→Prop) (w w':World):Prop where
 os:w'.os=w.os
 tape:w'.tape=w.tape
 output:w'.output=w.output
 size:w.heap.size≤w'.heap.size
 block:∀b,b<w.heap.size→¬X b→w'.heap[b]? =w.heap[b]?
theorem Spares.of_below {X:Nat→Prop} {w w':World} (h:Below w.heap.size w w'):Spares X w w':=⟨h.os,h.tape,h.output,h.size,fun b hb _=>h.block b hb⟩
theorem Spares.below {X:Nat→Prop} {w w':World} {B:Nat} (h:Spares X w w') (hB:B≤w.heap.size) (hX:∀b,X b→B≤b):Below B w w':=
 ⟨h.os,h.tape,h.output,h.size,fun b hb=>h.block b (by omega) (fun hx=>by have:=hX b hx; omega)⟩
theorem Spares.more {X Y:Nat→Prop} {w w':World} (h:Spares X w w') (hs:∀b,X b→Y b):Spares Y w w':=⟨h.os,h.tape,h.output,h.size,fun b hb hn=>h.block b hb (fun hx=>hn (hs b hx))⟩
theorem Spares.trans {X:Nat→Prop} {a b c:World} (h:Spares X a b) (k:Spares X b c):Spares X a c:=
 ⟨k.os.trans h.os,k.tape.trans h.tape,k.output.trans h.output,Nat.le_trans h.size k.size,fun i hi hn=>(k.block i (Nat.lt_of_lt_of_le hi h.size) hn).trans (h.block i hi hn)⟩
theorem Spares.refl {X:Nat→Prop} (w:World):Spares X w w:=⟨rfl,rfl,rfl,Nat.le_refl _,fun _ _ _=>rfl⟩
theorem Spares.set {b0 o:Nat} {w w':World} {v:Value} (h:Spares (fun b=>b=b0) w w'):Spares (fun b=>b=b0) w (w'.setCell ⟨b0,o,none⟩ v):=
 h.trans ⟨rfl,rfl,rfl,by simp [World.setCell],fun k _ hn=>Below.heap_setCell _ _ _ _ hn⟩
theorem spares_sets {b0:Nat} {w w':World} (h:Spares (fun b=>b=b0) w w'):Spares (fun b=>b=b0) w w':=h
def aggAt (v:Value) (k:Nat):Value:=match v with
 | .agg cs=>cs.getD k undef
 |_=>undef
def eatsOf (C:List (Nat × Nat)) (i:Nat):List Nat:=(C.filter fun p=>p.1==i).map (·.2)
theorem mem_eatsOf {C:List (Nat × Nat)} {i c:Nat}:c∈eatsOf C i↔(i,c)∈C:=by
 unfold eatsOf;simp only [List.mem_map,List.mem_filter,beq_iff_eq]
 constructor
 ·
  rintro ⟨⟨x,y⟩,⟨h,rfl⟩,rfl⟩; exact h
 ·
  intro h; exact ⟨(i,c),⟨h,rfl⟩,rfl⟩
def chainOf (C:List (Nat × Nat)):Nat→Nat→List Nat
 |0,i=>[i]
 |f+1,i=>i::(eatsOf C i).flatMap (chainOf C f)
theorem chainOf_self (C:List (Nat × Nat)) (f i:Nat):i∈chainOf C f i:=by cases f<;>simp [chainOf]
def rsB (ops:Array Oper) (size:Nat) (C D:List (Nat × Nat)):Bool:=
 (List.range ops.size).all (fun i=>
  (deps ops i).all (·<i)&&(chainOf C ops.size i).all (fun x=>(ancs ops ops.size i).contains x)&&
  (match ops[i]? with
   |some o=>(match o.dst with
    |some d=>decide (d<size)&&(List.range ops.size).all (fun j=>j==i||(ops[j]?).all (fun p=>p.dst !=some d))
    |none=>true)
   |none=>false))&&
 C.all (fun p=>(ancs ops ops.size p.1).contains p.2&&p.2 !=p.1&&decide (p.1<ops.size)&&C.all (fun q=>q.2 !=p.2||q.1==p.1)&&
  (List.range ops.size).all (fun k=>k==p.1||k==p.2||(chainOf C ops.size k).all (fun x=> !(chainOf C ops.size p.2).contains x)||(ancs ops ops.size k).contains p.1||C.any (fun q=>q.2==k&&(ancs ops ops.size p.2).contains q.1)))&&
 D.all (fun p=>decide (p.1<ops.size)&&D.all (fun q=>q.2 !=p.2||q.1==p.1))
def sureB (ops:Array Oper) (C:List (Nat × Nat)) (i j:Nat):Bool:=C.all fun p=>p.2 !=j||p.1==i||(ancs ops ops.size p.1).contains i
def sureGB (ops:Array Oper) (D:List (Nat × Nat)) (i m:Nat):Bool:=D.all fun p=>p.2 !=m||p.1==i||(ancs ops ops.size p.1).contains i
structure RsSpec (ops:Array Oper) (size:Nat) (C D:List (Nat × Nat)):Prop where
 back:∀i,i<ops.size→∀j∈deps ops i,j<i
 chain:∀i,i<ops.size→∀x∈chainOf C ops.size i,x∈ancs ops ops.size i
 dst:∀(i:Nat) (o:Oper),ops[i]? =some o→∀d,o.dst=some d→d<size∧∀(j:Nat) (p:Oper),ops[j]? =some p→j≠i→p.dst≠some d
 anc:∀i c,(i,c)∈C→c∈ancs ops ops.size i∧c≠i∧i<ops.size
 one:∀i c k,(i,c)∈C→(k,c)∈C→k=i
 apart:∀i c,(i,c)∈C→∀k,k<ops.size→k≠i→k≠c→(∀x∈chainOf C ops.size k,x∉chainOf C ops.size c)∨i∈ancs ops ops.size k∨∃q,(q,k)∈C∧q∈ancs ops ops.size c
 given:∀i m k,(i,m)∈D→(k,m)∈D→k=i
theorem rsB_spec {ops:Array Oper} {size:Nat} {C D:List (Nat × Nat)} (h:rsB ops size C D=true):RsSpec ops size C D:=by
 simp only [rsB,Bool.and_eq_true] at h;obtain ⟨⟨h1,h2⟩,h3⟩:=h;have h1':=fun i (hi:i<ops.size)=>List.all_eq_true.1 h1 i (List.mem_range.2 hi);have h2':=fun i c (hi:(i,c)∈C)=>List.all_eq_true.1 h2 (i,c) hi;refine ⟨?_, ?_, ?_, ?_, ?_, ?_, ?_⟩
 ·
  intro i hi j hj;have:=h1' i hi;simp only [Bool.and_eq_true] at this
  simpa using List.all_eq_true.1 this.1.1 j hj
 ·
  intro i hi x hx;have:=h1' i hi;simp only [Bool.and_eq_true] at this
  simpa using List.all_eq_true.1 this.1.2 x hx
 ·
  intro i o hi d hd;have hlt:=(Array.getElem?_eq_some_iff.1 hi).1;have:=h1' i hlt;simp only [Bool.and_eq_true] at this;have h:=this.2;rw [hi] at h;simp only [hd,Bool.and_eq_true,decide_eq_true_eq] at h;refine ⟨h.1,fun j p hj hji=> ?_⟩;have hjlt:=(Array.getElem?_eq_some_iff.1 hj).1;have:=List.all_eq_true.1 h.2 j (List.mem_range.2 hjlt);rw [hj] at this
  simpa [hji] using this
 ·
  intro i c hi;have:=h2' i c hi;simp only [Bool.and_eq_true,decide_eq_true_eq,bne_iff_ne,List.contains_iff_mem] at this;exact ⟨this.1.1.1.1,this.1.1.1.2,this.1.1.2⟩
 ·
  intro i c k hi hk;have:=h2' i c hi;simp only [Bool.and_eq_true] at this;have:=List.all_eq_true.1 this.1.2 (k,c) hk
  simpa using this
 ·
  intro i c hi k hk hki hkc;have:=h2' i c hi;simp only [Bool.and_eq_true] at this;have:=List.all_eq_true.1 this.2 k (List.mem_range.2 hk);simp only [Bool.or_eq_true,beq_iff_eq,List.contains_iff_mem] at this
  rcases this with (((h|h)|h)|h)|h
  ·
   exact absurd h hki
  ·
   exact absurd h hkc
  ·
   refine Or.inl fun x hx hx'=> ?_;have:=List.all_eq_true.1 h x hx;rw [Bool.not_eq_true',←Bool.not_eq_true,List.contains_iff_mem] at this;exact this hx'
  ·
   exact Or.inr (Or.inl h)
  ·
   obtain ⟨⟨q,k'⟩,hq,h'⟩:=List.any_eq_true.1 h;simp only [Bool.and_eq_true,beq_iff_eq,List.contains_iff_mem] at h';obtain ⟨rfl,h'⟩:=h';exact Or.inr (Or.inr ⟨q,hq,h'⟩)
 ·
  intro i m k hi hk;have:=List.all_eq_true.1 h3 (i,m) hi;simp only [Bool.and_eq_true] at this;have:=List.all_eq_true.1 this.2 (k,m) hk
  simpa using this
def foot (C D:List (Nat × Nat)) (G:Nat→Nat→Prop) (n i:Nat) (iv:Nat→Nat × Nat) (b:Nat):Prop:=
 ∃j∈chainOf C n i,((iv j).1≤b∧b<(iv j).2)∨∃m,(j,m)∈D∧G m b
def bite (C D:List (Nat × Nat)) (G:Nat→Nat→Prop) (n i:Nat) (iv:Nat→Nat × Nat) (b:Nat):Prop:=
 (∃m,(i,m)∈D∧G m b)∨∃c,(i,c)∈C∧foot C D G n c iv b
theorem foot_own {C D:List (Nat × Nat)} {G:Nat→Nat→Prop} {n i:Nat} {iv:Nat→Nat × Nat} {b:Nat} (h1:(iv i).1≤b) (h2:b<(iv i).2):foot C D G n i iv b:=⟨i,chainOf_self _ _ _,Or.inl ⟨h1,h2⟩⟩
theorem foot_agree {C D:List (Nat × Nat)} {G:Nat→Nat→Prop} {n i:Nat} {iv iv':Nat→Nat × Nat} {l:List Nat} (hl:∀x∈chainOf C n i,x∈l) (h:Agree l iv iv') {b:Nat} (hf:foot C D G n i iv b):foot C D G n i iv' b:=by
 obtain ⟨j,hj,hb⟩:=hf;exact ⟨j,hj,by rw [←h j (hl j hj)]; exact hb⟩
structure RsInv (ops:Array Oper) (C D:List (Nat × Nat)) (G:Nat→Nat→Prop) (a0:Act) (W:World) (J:Nat→(Nat→Nat × Nat)→(Nat→Value)→World→Prop) (JE:Nat→(Nat→Nat × Nat)→(Nat→Value)→Prop)
  (listed:Array Bool) (a:Act) (w:World):Prop where
 size:listed.size=ops.size
 defers:a0.defers=a.defers
 tmps:a0.tmps.size=a.tmps.size
 off:∀t,(∀o∈ops.toList,o.dst≠some t)→a0.tmps[t]? =a.tmps[t]?
 closed:∀i,listed.getD i false=true→∀j∈deps ops i,listed.getD j false=true
 rest:∀i,listed.getD i false=false→slots ops a i=slots ops a0 i
 turned:Spares (fun b=>∃i m,listed.getD i false=true∧(i,m)∈D∧G m b) W w
 facts:∃iv:Nat→Nat × Nat,(∀i,listed.getD i false=true→(∀k,(k,i)∈C→listed.getD k false=false)→J i iv (slots ops a) w)∧(∀i,listed.getD i false=true→JE i iv (slots ops a))∧
  (∀i,listed.getD i false=true→W.heap.size≤(iv i).1∧(iv i).1≤(iv i).2∧(iv i).2≤w.heap.size)∧
  (∀i j,listed.getD i false=true→listed.getD j false=true→i≠j→Sep (iv i) (iv j))
section
variable {P:Program} {ops:Array Oper}
theorem wpAny_rs {Q:Exit→Act→World→Prop} {C D:List (Nat × Nat)} {G:Nat→Nat→Prop} {a0:Act} {W:World} {J:Nat→(Nat→Nat × Nat)→(Nat→Value)→World→Prop} {JE:Nat→(Nat→Nat × Nat)→(Nat→Value)→Prop}
  (sp:RsSpec ops a0.tmps.size C D) (hG:∀m m' b,G m b→G m' b→m=m') (hGW:∀m b,G m b→b<W.heap.size)
  (hJ:∀i iv iv' vs vs' w w',i<ops.size→Agree (ancs ops ops.size i) iv iv'→Agree (ancs ops ops.size i) vs vs'→w.heap.size≤w'.heap.size→(∀b,b<w.heap.size→foot C D G ops.size i iv b→w'.heap[b]? =w.heap[b]?)→J i iv vs w→J i iv' vs' w')
  (hE:∀i iv vs w,i<ops.size→J i iv vs w→JE i iv vs)
  (hEE:∀i iv iv' vs vs',i<ops.size→Agree (ancs ops ops.size i) iv iv'→Agree (ancs ops ops.size i) vs vs'→JE i iv vs→JE i iv' vs')
  (hstep:∀i o,ops[i]? =some o→∀iv vs w,Spares (fun b=>∃m,G m b∧sureGB ops D i m=false) W w→(∀j∈ancs ops ops.size i,j≠i→sureB ops C i j=true→J j iv vs w)→(∀j∈ancs ops ops.size i,j≠i→JE j iv vs)→
   (∀j∈ancs ops ops.size i,j≠i→W.heap.size≤(iv j).1∧(iv j).1≤(iv j).2∧(iv j).2≤w.heap.size)→(∀j∈ancs ops ops.size i,∀k∈ancs ops ops.size i,j≠i→k≠i→j≠k→Sep (iv j) (iv k))→(∀k,i∈ancs ops ops.size k→vs k=slots ops a0 k)→
   wpList P ops (fun e a' w'=>e= .normal∧∃v,(o.dst=none→v=undef)∧a'=(putFrom ops.toList 0 vs a0).put o.dst v∧Spares (bite C D G ops.size i iv) w w'∧
    (∀iv',Agree ((ancs ops ops.size i).erase i) iv iv'→iv' i=(w.heap.size,w'.heap.size)→J i iv' (upd vs i v) w')) [o] (putFrom ops.toList 0 vs a0) w)
  (hQ:∀iv vs w,Spares (fun b=>∃i m,(i,m)∈D∧G m b) W w→(∀i,i<ops.size→(∀k,(k,i)∉C)→J i iv vs w)→(∀i,i<ops.size→JE i iv vs)→
   (∀i,i<ops.size→W.heap.size≤(iv i).1∧(iv i).1≤(iv i).2∧(iv i).2≤w.heap.size)→(∀i j,i<ops.size→j<ops.size→i≠j→Sep (iv i) (iv j))→Q .normal (putFrom ops.toList 0 vs a0) w):
  ∀(fuel:Nat) (U:List Nat) (listed:Array Bool) (a:Act) (w:World),U.length≤fuel→(∀i,i<ops.size→listed.getD i false=false→i∈U)→RsInv ops C D G a0 W J JE listed a w→wpAny P .any ops Q fuel listed a w:=by
 have self:∀(listed:Array Bool) (a:Act) (w:World),RsInv ops C D G a0 W J JE listed a w→putFrom ops.toList 0 (slots ops a) a0=a:=by
  intro listed a w inv;refine putFrom_self _ _ _ _ _ inv.defers inv.tmps inv.off (fun j o hj=> ?_);unfold slots;rw [Nat.zero_add,show ops[j]? =some o by simpa using hj]
 have done:∀(listed:Array Bool) (a:Act) (w:World),RsInv ops C D G a0 W J JE listed a w→(∀i,i<ops.size→listed.getD i false=true)→Q .normal a w:=by
  intro listed a w inv hall;obtain ⟨iv,f1,f2,f3,f4⟩:=inv.facts;have:=hQ iv (slots ops a) w (inv.turned.more fun b ⟨i,m,_,h1,h2⟩=>⟨i,m,h1,h2⟩) (fun i hi hk=>f1 i (hall i hi) (fun k hm=>absurd hm (hk k))) (fun i hi=>f2 i (hall i hi)) (fun i hi=>f3 i (hall i hi)) (fun i j hi hj=>f4 i j (hall i hi) (hall j hj))
  rwa [self listed a w inv] at this
 have allOf:∀(listed:Array Bool),listed.size=ops.size→Region.ready .any ops listed=[]→∀i,i<ops.size→listed.getD i false=true:=by
  intro listed hsz hr i
  induction i using Nat.strongRecOn with
  |_ i ih=>
   intro hi
   cases hl:listed.getD i false with
   |true=>rfl
   |false=>
    exfalso
    have hm:i∈Region.ready .any ops listed:=by
     rw [mem_ready];refine ⟨by simp [hsz,hi] at hl ⊢; exact hl,ops[i],by simp [hi],fun e he hb=> ?_⟩;have hd:e.on∈deps ops i:=(mem_deps (by simp [hi])).2 ⟨e,he,hb,rfl⟩;have:=sp.back i hi _ hd;exact ih _ this (by omega)
    rw [hr] at hm
    cases hm
 intro fuel
 induction fuel with
 |zero=>
  intro U listed a w hU hun inv
  have hall:∀i,i<ops.size→listed.getD i false=true:=by
   intro i hi
   cases hl:listed.getD i false with
   |true=>rfl
   |false=>
    have:=hun i hi hl;rw [List.eq_nil_of_length_eq_zero (Nat.le_zero.1 hU)] at this
    cases this
  refine ⟨?_,done listed a w inv hall⟩
  apply List.eq_nil_iff_forall_not_mem.2
  intro i hi;obtain ⟨h1,o,ho,_⟩:=mem_ready.1 hi;have hlt:=(Array.getElem?_eq_some_iff.1 ho).1;have h2:=hall i hlt;have h3:=getD_false_of (by rw [inv.size]; exact hlt) h1;rw [h2] at h3
  cases h3
 |succ fuel ih=>
  intro U listed a w hU hun inv;refine ⟨fun hr=>done listed a w inv (allOf listed inv.size hr),fun i hi=> ?_⟩;obtain ⟨h1,o,ho,hdeps⟩:=mem_ready.1 hi;have hlt:i<ops.size:=(Array.getElem?_eq_some_iff.1 ho).1
  have hltl:i<listed.size:=by rw [inv.size]; exact hlt
  have hil:=getD_false_of hltl h1
  have hd:∀j∈deps ops i,listed.getD j false=true:=fun j hj=>by
   obtain ⟨e,he,hb,rfl⟩:=(mem_deps ho).1 hj;exact hdeps e he hb
  have hself:=self listed a w inv
  have hU':(U.erase i).length≤fuel:=by
   rw [List.length_erase_of_mem (hun i hlt hil)];omega
  have hun':∀k,k<ops.size→(listed.setIfInBounds i true).getD k false=false→k∈U.erase i:=by
   intro k hk hkl
   by_cases hki:k=i
   ·
    subst hki;rw [getD_set_self hltl] at hkl
    cases hkl
   ·
    rw [getD_set_ne false (Ne.symm hki)] at hkl;exact (List.mem_erase_of_ne hki).2 (hun k hk hkl)
  have hclosed:∀k,(listed.setIfInBounds i true).getD k false=true→∀j∈deps ops k,(listed.setIfInBounds i true).getD j false=true:=by
   intro k hk j hj
   by_cases hki:k=i
   ·
    subst hki;exact getD_set_true (hd j hj)
   ·
    rw [getD_set_ne false (Ne.symm hki)] at hk;exact getD_set_true (inv.closed k hk j hj)
  have hsz:(listed.setIfInBounds i true).size=ops.size:=by rw [Array.size_setIfInBounds]; exact inv.size
  have llt:∀k,listed.getD k false=true→k<ops.size:=by
   intro k hk;rw [←inv.size]
   by_cases hkl:k<listed.size
   ·
    exact hkl
   ·
    simp [hkl] at hk
  have hput:∀v k,k≠i→slots ops (a.put o.dst v) k=slots ops a k:=by
   intro v k hk;unfold slots
   cases hok:ops[k]? with
   |none=>rfl
   |some p=>exact slotOf_put (fun d' hd'=>(sp.dst i o ho d' hd').2 k p hok hk)
  have hputi:∀v,(o.dst=none→v=undef)→slots ops (a.put o.dst v) i=v:=by
   intro v hv;unfold slots;rw [ho];simp only
   cases hdst:o.dst with
   |none=>
    rw [hv hdst];simp only [slotOf,hdst]
   |some d=>
    have:=slotOf_same (o:=o) (a:=a) (v:=v) hdst (by rw [←inv.tmps]; exact (sp.dst i o ho d hdst).1);rw [hdst] at this;exact this
  have hoff:∀v t,(∀p∈ops.toList,p.dst≠some t)→a0.tmps[t]? =(a.put o.dst v).tmps[t]? :=by
   intro v t ht;rw [inv.off t ht]
   cases hdst:o.dst with
   |none=>rfl
   |some d=>
    have hne:d≠t:=fun e=>ht o (by rw [Array.mem_toList_iff]; exact Array.mem_of_getElem? ho) (by rw [hdst,e])
    simp [Act.put,Array.getElem?_setIfInBounds_ne hne]
  have hdef:∀v,a0.defers=(a.put o.dst v).defers:=fun v=>by cases o.dst<;>exact inv.defers
  have hts:∀v,a0.tmps.size=(a.put o.dst v).tmps.size:=fun v=>by cases o.dst<;>simpa [Act.put] using inv.tmps
  obtain ⟨iv,f1,f2,f3,f4⟩:=inv.facts
  -- what an operation waits for is listed
  have hanc:∀j∈ancs ops ops.size i,j≠i→listed.getD j false=true:=by
   have hc':∀f k,k∈deps ops i→∀j∈ancs ops f k,listed.getD j false=true:=fun f k hk j hj=>ancs_listed inv.closed f k (hd k hk) j hj;intro j hj hji
   cases hsz':ops.size with
   |zero=>omega
   |succ f=>
    rw [hsz'] at hj;simp only [ancs,List.mem_cons,List.mem_flatMap] at hj
    rcases hj with hj|⟨k,hk,hj⟩
    ·
     exact absurd hj hji
    ·
     exact hc' f k hk j hj
  have hla:∀k,listed.getD k false=true→∀j∈ancs ops ops.size k,listed.getD j false=true:=fun k hk j hj=>ancs_listed inv.closed _ k hk j hj;have hlc:∀k,listed.getD k false=true→∀j∈chainOf C ops.size k,listed.getD j false=true:=fun k hk j hj=>hla k hk j (sp.chain k (llt k hk) j hj)
  have hni:∀k,listed.getD k false=true→k≠i:=fun k hk e=>by rw [e,hil] at hk; cases hk
  have herase:∀j∈(ancs ops ops.size i).erase i,j≠i:=by
   intro j hj e;subst e
   have hcount:∀f x,x∈deps ops j→j∉ancs ops f x:=fun f x hx hm=>by
    have:=ancs_listed inv.closed f x (hd x hx) j hm;rw [hil] at this
    cases this
   cases hsz':ops.size with
   |zero=>omega
   |succ f=>
    rw [hsz'] at hj;simp only [ancs,List.erase_cons_head,List.mem_flatMap] at hj;obtain ⟨x,hx,hm⟩:=hj;exact hcount f x hx hm
  have:=hstep i o ho iv (slots ops a) w
   ⟨inv.turned.os,inv.turned.tape,inv.turned.output,inv.turned.size,fun b hb hn=>inv.turned.block b hb (by
    rintro ⟨k,m,hk,hm,hg⟩
    cases hs:sureGB ops D i m with
    |false=>exact hn ⟨m,hg,hs⟩
    |true=>
     have:=List.all_eq_true.1 hs (k,m) hm;simp only [Bool.or_eq_true,beq_iff_eq,List.contains_iff_mem,bne_iff_ne] at this
     rcases this with (h|h)|h
     ·
      exact h rfl
     ·
      exact hni k hk h
     ·
      have:=hla k hk i h;rw [hil] at this
      cases this)⟩
   (fun j hj hji hs=>f1 j (hanc j hj hji) (fun k hk=>by
    cases hl:listed.getD k false with
    |false=>rfl
    |true=>
     exfalso
     have:=List.all_eq_true.1 hs (k,j) hk;simp only [Bool.or_eq_true,beq_iff_eq,List.contains_iff_mem,bne_iff_ne] at this
     rcases this with (h|h)|h
     ·
      exact h rfl
     ·
      exact hni k hl h
     ·
      have:=hla k hl i h;rw [hil] at this
      cases this))
   (fun j hj hji=>f2 j (hanc j hj hji)) (fun j hj hji=>f3 j (hanc j hj hji)) (fun j hj k hk hji hki hjk=>f4 j k (hanc j hj hji) (hanc k hk hki) hjk)
   (fun k hk=>inv.rest k (by
    cases hl:listed.getD k false with
    |false=>rfl
    |true=>
     exfalso
     have:=hla k hl i hk;rw [hil] at this
     cases this))
  rw [hself] at this;refine wpOp_of_list ho this ?_ (fun e a' w' he h=>he h.1);rintro a' w' ⟨_,v,hv,rfl,ht,hJv⟩
  have hup:slots ops (a.put o.dst v)=upd (slots ops a) i v:=by
   funext k
   unfold upd
   by_cases hki:k=i
   ·
    subst hki; rw [if_pos rfl,hputi v hv]
   ·
    rw [if_neg hki,hput _ k hki]
  have hJi:J i (upd iv i (w.heap.size,w'.heap.size)) (slots ops (a.put o.dst v)) w':=by
   rw [hup];exact hJv _ (fun j hj=>by simp [upd,herase j hj]) (by simp [upd])
  refine ih (U.erase i) _ _ w' hU' hun' ⟨hsz,hdef v,hts v,hoff v,hclosed, ?_, ?_,upd iv i (w.heap.size,w'.heap.size), ?_, ?_, ?_, ?_⟩
  ·
   intro k hk
   by_cases hki:k=i
   ·
    subst hki;rw [getD_set_self hltl] at hk
    cases hk
   ·
    rw [getD_set_ne false (Ne.symm hki)] at hk;rw [hput _ k hki];exact inv.rest k hk
  ·
   -- the old blocks
   refine ⟨ht.os.trans inv.turned.os,ht.tape.trans inv.turned.tape,ht.output.trans inv.turned.output,Nat.le_trans inv.turned.size ht.size,fun b hb hn=> ?_⟩;refine (ht.block b (Nat.lt_of_lt_of_le hb inv.turned.size) ?_).trans (inv.turned.block b hb ?_)
   ·
    rintro (⟨m,hm,hg⟩|⟨c,hc,x,hx,h|⟨m,hm,hg⟩⟩)
    ·
     exact hn ⟨i,m,getD_set_self hltl _,hm,hg⟩
    ·
     have hcl:=hanc c (sp.anc i c hc).1 (sp.anc i c hc).2.1;have:=(f3 x (hlc c hcl x hx)).1;omega
    ·
     have hcl:=hanc c (sp.anc i c hc).1 (sp.anc i c hc).2.1;exact hn ⟨x,m,getD_set_true (hlc c hcl x hx),hm,hg⟩
   ·
    rintro ⟨k,m,hk,hm,hg⟩;exact hn ⟨k,m,getD_set_true hk,hm,hg⟩
  ·
   intro k hk hek
   by_cases hki:k=i
   ·
    subst hki; exact hJi
   ·
    rw [getD_set_ne false (Ne.symm hki)] at hk
    have hek':∀q,(q,k)∈C→listed.getD q false=false:=by
     intro q hq
     cases hl:listed.getD q false with
     |false=>rfl
     |true=>have:=hek q hq; rw [getD_set_true hl] at this; cases this
    have hnik:(i,k)∉C:=fun hm=>by have:=hek i hm; rw [getD_set_self hltl] at this; cases this
    have hagree:∀j∈ancs ops ops.size k,j≠i:=fun j hj=>hni j (hla k hk j hj);refine hJ k iv _ (slots ops a) _ w w' (llt k hk) (fun j hj=>by simp [upd,hagree j hj]) (fun j hj=>(hput _ j (hagree j hj)).symm) ht.size ?_ (f1 k hk hek');rintro b hb ⟨y,hy,hfy⟩;refine ht.block b hb ?_;have hyl:=hlc k hk y hy;rintro (⟨m,hm,hg⟩|⟨c,hc,x,hx,hfx⟩)
    ·
     rcases hfy with h|⟨m',hm',hg'⟩
     ·
      have:=(f3 y hyl).1;have:=hGW m b hg;omega
     ·
      obtain rfl:=hG m m' b hg hg';exact hni y hyl (sp.given i m y hm hm')
    ·
     have hcl:=hanc c (sp.anc i c hc).1 (sp.anc i c hc).2.1;have hxl:=hlc c hcl x hx
     have hxy:x=y:=by
      by_cases hxy:x=y
      ·
       exact hxy
      exfalso
      rcases hfy with h|⟨m',hm',hg'⟩
      ·
       rcases hfx with h'|⟨m,hm,hg⟩
       ·
        have:=f4 x y hxl hyl hxy;unfold Sep at this;omega
       ·
        have:=(f3 y hyl).1;have:=hGW m b hg;omega
      ·
       rcases hfx with h'|⟨m,hm,hg⟩
       ·
        have:=(f3 x hxl).1;have:=hGW m' b hg';omega
       ·
        obtain rfl:=hG m m' b hg hg';exact hxy (sp.given y m x hm' hm)
     subst hxy
     by_cases hkc:k=c
     ·
      subst hkc; exact hnik hc
     rcases sp.apart i c hc k (llt k hk) hki hkc with h|h|⟨q,hq,h⟩
     ·
      exact h x hy hx
     ·
      exact hni i (hla k hk i h) rfl
     ·
      have:=hla c hcl q h;rw [hek' q hq] at this
      cases this
  ·
   intro k hk
   by_cases hki:k=i
   ·
    subst hki; exact hE _ _ _ _ hlt hJi
   ·
    rw [getD_set_ne false (Ne.symm hki)] at hk;have hagree:∀j∈ancs ops ops.size k,j≠i:=fun j hj=>hni j (hla k hk j hj);exact hEE k iv _ (slots ops a) _ (llt k hk) (fun j hj=>by simp [upd,hagree j hj]) (fun j hj=>(hput _ j (hagree j hj)).symm) (f2 k hk)
  ·
   intro k hk
   by_cases hki:k=i
   ·
    subst hki;simp only [upd,if_pos];exact ⟨inv.turned.size,ht.size,Nat.le_refl _⟩
   ·
    rw [getD_set_ne false (Ne.symm hki)] at hk;simp only [upd,if_neg hki];obtain ⟨b1,b2,b3⟩:=f3 k hk;exact ⟨b1,b2,Nat.le_trans b3 ht.size⟩
  ·
   intro k m hk hm hkm
   by_cases hki:k=i
   ·
    subst hki;have hmk:m≠k:=Ne.symm hkm;rw [getD_set_ne false (Ne.symm hmk)] at hm;simp only [upd,if_pos,if_neg hmk];exact Or.inr (f3 m hm).2.2
   ·
    rw [getD_set_ne false (Ne.symm hki)] at hk
    by_cases hmi:m=i
    ·
     subst hmi;simp only [upd,if_pos,if_neg hki];exact Or.inl (f3 k hk).2.2
    ·
     rw [getD_set_ne false (Ne.symm hmi)] at hm;simp only [upd,if_neg hki,if_neg hmi];exact f4 k m hk hm hkm
theorem region_rs {Q:Exit→Act→World→Prop} {id:Nat} {a0:Act} {w0:World} (C D:List (Nat × Nat)) (G:Nat→Nat→Prop) (base:Nat) (J:Nat→(Nat→Nat × Nat)→(Nat→Value)→World→Prop) (JE:Nat→(Nat→Nat × Nat)→(Nat→Value)→Prop)
  (hm:P.follows .mixedOrders=true) (hB:rsB ops a0.tmps.size C D=true) (l:List Nat) (hl:List.range ops.size=l)
  (hbase:base≤w0.heap.size) (hGb:∀m b,G m b→base≤b∧b<w0.heap.size) (hG:∀m m' b,G m b→G m' b→m=m')
  (hJ:∀i∈l,∀iv iv' vs vs' w w',Hid (Agree (ancs ops ops.size i) iv iv')→Hid (Agree (ancs ops ops.size i) vs vs')→w.heap.size≤w'.heap.size→Hid (∀b,b<w.heap.size→foot C D G ops.size i iv b→w'.heap[b]? =w.heap[b]?)→J i iv vs w→J i iv' vs' w')
  (hE:∀i∈l,∀iv vs w,J i iv vs w→JE i iv vs)
  (hEE:∀i∈l,∀iv iv' vs vs',Hid (Agree (ancs ops ops.size i) iv iv')→Hid (Agree (ancs ops ops.size i) vs vs')→JE i iv vs→JE i iv' vs')
  (hstep:∀i∈l,∀o,ops[i]? =some o→∀iv vs w,Below base w0 w→Hid (∀m b,sureGB ops D i m=true→G m b→w.heap[b]? =w0.heap[b]?)→Hid (Spares (fun b=>∃m,G m b) w0 w)→Hid (∀j∈ancs ops ops.size i,j≠i→sureB ops C i j=true→J j iv vs w)→Hid (∀j∈ancs ops ops.size i,j≠i→JE j iv vs)→
   Hid (∀j∈ancs ops ops.size i,j≠i→w0.heap.size≤(iv j).1∧(iv j).1≤(iv j).2∧(iv j).2≤w.heap.size)→Hid (∀j∈ancs ops ops.size i,∀k∈ancs ops ops.size i,j≠i→k≠i→j≠k→Sep (iv j) (iv k))→Hid (∀k,i∈ancs ops ops.size k→vs k=slots ops a0 k)→
   ∀K:Act→World→Prop,(∀v a' w',(o.dst=none→v=undef)→a'=(putFrom ops.toList 0 vs a0).put o.dst v→Spares (bite C D G ops.size i iv) w w'→
    (∀iv',Hid (Agree ((ancs ops ops.size i).erase i) iv iv')→iv' i=(w.heap.size,w'.heap.size)→J i iv' (upd vs i v) w')→K a' w')→wpList P ops (Onward K) [o] (putFrom ops.toList 0 vs a0) w)
  (hQ:∀iv vs w,Below base w0 w→Hid (Spares (fun b=>∃m,G m b) w0 w)→Hid (∀i∈l,(∀k,(k,i)∉C)→J i iv vs w)→Hid (∀i∈l,JE i iv vs)→
   Hid (∀i∈l,w0.heap.size≤(iv i).1∧(iv i).1≤(iv i).2∧(iv i).2≤w.heap.size)→Hid (∀i∈l,∀j∈l,i≠j→Sep (iv i) (iv j))→Q .normal (putFrom ops.toList 0 vs a0) w):
  (Code.region id ops true).wp P Q a0 w0:=by
 have sp:=rsB_spec hB;subst hl;refine wp_region_any hm ?_
 refine wpAny_rs (W:=w0) sp hG (fun m b h=>(hGb m b h).2) (J:=J) (JE:=JE)
  (fun i iv iv' vs vs' w w' hi h1 h2 h3 h4 h5=>hJ i (List.mem_range.2 hi) iv iv' vs vs' w w' (Lib.hid h1) (Lib.hid h2) h3 (Lib.hid h4) h5)
  (fun i iv vs w hi h=>hE i (List.mem_range.2 hi) iv vs w h)
  (fun i iv iv' vs vs' hi h1 h2 h=>hEE i (List.mem_range.2 hi) iv iv' vs vs' (Lib.hid h1) (Lib.hid h2) h) ?_
  (fun iv vs w ht h1 h2 h3 h4=>hQ iv vs w (ht.below hbase (fun b ⟨_,m,_,hg⟩=>(hGb m b hg).1)) (Lib.hid (ht.more fun b ⟨_,m,_,hg⟩=>⟨m,hg⟩)) (Lib.hid fun i hi=>h1 i (List.mem_range.1 hi)) (Lib.hid fun i hi=>h2 i (List.mem_range.1 hi)) (Lib.hid fun i hi=>h3 i (List.mem_range.1 hi)) (Lib.hid fun i hi j hj=>h4 i j (List.mem_range.1 hi) (List.mem_range.1 hj)))
  ops.size (List.range ops.size) _ _ _ (by simp) (fun i hi _=>List.mem_range.2 hi) ⟨by simp,rfl,rfl,fun _ _=>rfl, ?_,fun _ _=>rfl, ?_, ?_⟩
 ·
  intro i o ho iv vs w ht h1 h2 h3 h4 h5
  have:=hstep i (List.mem_range.2 (Array.getElem?_eq_some_iff.1 ho).1) o ho iv vs w (ht.below hbase (fun b ⟨m,hg,_⟩=>(hGb m b hg).1))
   (Lib.hid fun m b hm hg=>ht.block b (hGb m b hg).2 (fun ⟨m',hg',hn⟩=>by rw [←hG m m' b hg hg',hm] at hn; cases hn)) (Lib.hid (ht.more fun b ⟨m,hg,_⟩=>⟨m,hg⟩)) (Lib.hid h1) (Lib.hid h2) (Lib.hid h3) (Lib.hid h4) (Lib.hid h5)
   (fun a' w'=>∃v,(o.dst=none→v=undef)∧a'=(putFrom ops.toList 0 vs a0).put o.dst v∧Spares (bite C D G ops.size i iv) w w'∧(∀iv',Agree ((ancs ops ops.size i).erase i) iv iv'→iv' i=(w.heap.size,w'.heap.size)→J i iv' (upd vs i v) w'))
   (fun v a' w' h0 h1 h2 h3=>⟨v,h0,h1,h2,fun iv' h4 h5=>h3 iv' (Lib.hid h4) h5⟩)
  exact this
 ·
  intro i h
  exfalso
  by_cases hi:i<ops.size<;>simp [hi] at h
 ·
  exact Spares.of_below (Below.refl _ _).drew
 ·
  have hno:∀i,(Array.replicate ops.size false).getD i false=true→False:=fun i h=>by by_cases hi:i<ops.size<;>simp [hi] at h
  exact ⟨fun _=>(0,0),fun i h=>(hno i h).elim,fun i h=>(hno i h).elim,fun i h=>(hno i h).elim,fun i _ h=>(hno i h).elim⟩
theorem foot_step {C D:List (Nat × Nat)} {G:Nat→Nat→Prop} {i c:Nat} {iv iv':Nat→Nat × Nat} {b:Nat} (h:((chainOf C ops.size c).all fun j=>(chainOf C ops.size i).contains j&&((ancs ops ops.size i).erase i).contains j)=true)
  (hag:Hid (Agree ((ancs ops ops.size i).erase i) iv iv')) (hf:foot C D G ops.size c iv b):foot C D G ops.size i iv' b:=by
 obtain ⟨j,hj,hb⟩:=hf;have:=List.all_eq_true.1 h j hj;simp only [Bool.and_eq_true,List.contains_iff_mem] at this;exact ⟨j,this.1,by rw [←hag.out j this.2]; exact hb⟩
theorem foot_iv {C D:List (Nat × Nat)} {G:Nat→Nat→Prop} {i j:Nat} {iv iv':Nat→Nat × Nat} {b:Nat} (h:((chainOf C ops.size i).contains j&&((ancs ops ops.size i).erase i).contains j)=true)
  (hag:Hid (Agree ((ancs ops ops.size i).erase i) iv iv')) (h1:(iv j).1≤b) (h2:b<(iv j).2):foot C D G ops.size i iv' b:=by
 simp only [Bool.and_eq_true,List.contains_iff_mem] at h;exact ⟨j,h.1,Or.inl (by rw [←hag.out j h.2]; exact ⟨h1,h2⟩)⟩
theorem foot_new {C D:List (Nat × Nat)} {G:Nat→Nat→Prop} {n i p q:Nat} {iv':Nat→Nat × Nat} {b:Nat} (h:iv' i=(p,q)) (h1:p≤b) (h2:b<q):foot C D G n i iv' b:=foot_own (by rw [h]; exact h1) (by rw [h]; exact h2)
theorem foot_given {C D:List (Nat × Nat)} {G:Nat→Nat→Prop} {n i:Nat} (m:Nat) {iv':Nat→Nat × Nat} {b:Nat} (h:(i,m)∈D) (hg:G m b):foot C D G n i iv' b:=⟨i,chainOf_self _ _ _,Or.inr ⟨m,h,hg⟩⟩
theorem not_eaten {C:List (Nat × Nat)} {i:Nat} (h:(C.all fun p=>p.2 !=i)=true):∀k,(k,i)∉C:=by
 intro k hk;have:=List.all_eq_true.1 h (k,i) hk;simp at this
theorem aG {α:Type} {l:List Nat} {f g:Nat→α} (h:Hid (Agree l f g)) (i:Nat) (hm:l.contains i=true:=by kernel_rfl):f i=g i:=h.out i (mem_of hm)
theorem dN {l:List Nat} {i:Nat} {S:Nat→Bool} {P:Nat→Prop} (h:Hid (∀j∈l,j≠i→S j=true→P j)) (j:Nat) (hm:l.contains j=true:=by kernel_rfl) (hn:j≠i:=by decide) (hs:S j=true:=by kernel_rfl):P j:=h.out j (mem_of hm) hn hs
theorem dE {l:List Nat} {C:List (Nat × Nat)} {P:Nat→Prop} (h:Hid (∀i∈l,(∀k,(k,i)∉C)→P i)) (i:Nat) (hm:l.contains i=true:=by kernel_rfl) (hn:(C.all fun p=>p.2 !=i)=true:=by kernel_rfl):P i:=h.out i (mem_of hm) (not_eaten hn)
theorem dL {l:List Nat} {i:Nat} {P:Nat→Prop} (h:Hid (∀j∈l,j≠i→P j)) (j:Nat) (hm:l.contains j=true:=by kernel_rfl) (hn:j≠i:=by decide):P j:=h.out j (mem_of hm) hn
theorem dM {l:List Nat} {P:Nat→Prop} (h:Hid (∀i∈l,P i)) (i:Nat) (hm:l.contains i=true:=by kernel_rfl):P i:=h.out i (mem_of hm)
end
theorem mkval (a:Value):∃x:Value,Hid (x=a):=⟨a,Lib.hid rfl⟩
end Go.Proofs.YtfopdcdbelaapaaDoor
