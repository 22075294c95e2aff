/-
  Parts of a proof, joined: App, Aps, Expr, Rdx, Shelf, Text. No condition.
-/
import Derived.Deep.AppendLies
import Derived.Shelf.Strings.Builder1
import Derived.Shelf.Small.Bits
import Derived.Shelf.Small.Strs
import Derived.Shelf.Strings.BuilderF
import Derived.Shelf.Strings.BuilderK
import Derived.Shelf.Strconv.Itoa0
import Derived.Shelf.Strconv.Itoa1
import Derived.Shelf.LaysM
import Derived.Shelf.Strconv.Itoa2
import Derived.Shelf.Strconv.Itoa3
import Derived.Shelf.Strconv.Itoa4
import Derived.Shelf.Strings.BuilderCap
import Derived.Test.YtfopdcdbelaapaaDoorProg
import Derived.Test.YtfopdcdbelaapaaDoorPk0
import Derived.Test.YtfopdcdbelaapaaDoorPk2
namespace Go.Proofs.YtfopdcdbelaapaaDoor
set_option linter.unusedVariables false
set_option linter.unusedSimpArgs false
open Go.ChangeShapes Go.WideShapes Go.ChangeAt Go.RowKit Go.Deep
def App (W w:World) (t:TypeId) (size n:Nat) (ds:List D) (v:Value):Prop:=
 ∃xs F,w.ownsRow W.heap.size t size v n xs∧Ows w ds xs F∧F.Nodup∧∀b∈F,W.heap.size≤b∧v.ownBlock≠some b
theorem App.nil {W w:World} {t size:Nat}:App W w t size 0 [] (.slice none 0 0):=⟨[],[],World.ownsRow_nil _ _ _ _,Ows.nil,by simp,by simp⟩
theorem App.len {W w:World} {t size n:Nat} {ds:List D} {v:Value} (h:App W w t size n ds v):ds.length=n*size:=by
 obtain ⟨xs,F,h1,h2,_⟩:=h;rw [←h2.length,h1.1]
theorem App.shape {W w:World} {t size n:Nat} {ds:List D} {v:Value} (h:App W w t size n ds v):∃a cap,v= .slice a n cap∧n≤cap∧cap≤maxLen:=by
 obtain ⟨xs,F,⟨_,h1⟩,_⟩:=h
 rcases h1 with ⟨rfl,rfl⟩|⟨g,cap,cur,rfl,_,_,h2,h3,_⟩
 ·
  exact ⟨none,0,rfl,by omega,by simp [maxLen]⟩
 ·
  exact ⟨_,cap,rfl,h2,h3⟩
theorem App.lt {W w:World} {t size n:Nat} {ds:List D} {v:Value} (h:App W w t size n ds v):∀k,v.ownBlock=some k→W.heap.size≤k∧k<w.heap.size:=by
 obtain ⟨xs,F,h1,_⟩:=h;exact h1.lt
theorem App.fresh {W w:World} {t size n:Nat} {ds:List D} {v:Value} (h:App W w t size n ds v):Fresh W w (.sl size n ds) v:=by
 have hlen:=h.len;obtain ⟨xs,F,h1,h2,h3,h4⟩:=h;have hxl:=h1.1
 rcases h1.2 with ⟨rfl,rfl⟩|⟨g,cap,cur,rfl,hg,hb,h5,h6,h7,h8⟩
 ·
  exact ⟨[],by simp only [Ow]; exact ⟨_,0,rfl,by omega,by simp [maxLen],hlen,by simp,Or.inl (by simp)⟩,by simp,by simp⟩
 ·
  by_cases h0:n=0
  ·
   exact ⟨[],by simp only [Ow]; exact ⟨_,cap,rfl,h5,h6,hlen,by simp,Or.inl (by simp [h0])⟩,by simp,by simp⟩
  ·
   have hblk:Blk w g t cur.toList:=by simpa [Blk] using hb
   refine ⟨g::F,by simp only [Ow]; exact ⟨_,cap,rfl,h5,h6,hlen,by simp,Or.inr ⟨g,0,xs,F,rfl,rfl,hblk.free,hblk.row (by rw [hxl]; exact h8),h2⟩⟩, ?_, ?_⟩
   ·
    rw [List.nodup_cons];exact ⟨fun hm=>(h4 g hm).2 rfl,h3⟩
   ·
    intro b hm
    rcases List.mem_cons.1 hm with rfl|hm
    ·
     exact hg
    ·
     exact (h4 b hm).1
def AppS (S:Nat→Prop) (w:World) (t:TypeId) (size n:Nat) (ds:List D) (v:Value):Prop:=
 ∃xs F,w.ownsRow 0 t size v n xs∧Ows w ds xs F∧F.Nodup∧(∀b∈F,S b∧v.ownBlock≠some b)∧∀b,v.ownBlock=some b→S b
def OwS (S:Nat→Prop) (w:World) (ds:List D) (vs:List Value):Prop:=∃F:List Nat,Ows w ds vs F∧F.Nodup∧∀b∈F,S b
theorem OwS.keep {S:Nat→Prop} {w w':World} {ds:List D} {vs:List Value} (h:OwS S w ds vs) (hk:∀b,b<w.heap.size→S b→w'.heap[b]? =w.heap[b]?):OwS S w' ds vs:=by
 obtain ⟨F,h1,h2,h3⟩:=h;exact ⟨F,h1.keep fun b hb=>hk b (h1.lt b hb) (h3 b hb),h2,h3⟩
theorem OwS.more {S T:Nat→Prop} {w:World} {ds:List D} {vs:List Value} (h:OwS S w ds vs) (hs:∀b,b<w.heap.size→S b→T b):OwS T w ds vs:=by
 obtain ⟨F,h1,h2,h3⟩:=h;exact ⟨F,h1,h2,fun b hb=>hs b (h1.lt b hb) (h3 b hb)⟩
theorem FreshIn.keep {p:Nat × Nat} {w w':World} {ds:List D} {vs:List Value} (h:FreshIn p w ds vs) (hk:∀b,b<w.heap.size→p.1≤b→b<p.2→w'.heap[b]? =w.heap[b]?):FreshIn p w' ds vs:=
 OwS.keep h fun b h1 h2=>hk b h1 h2.1 h2.2
theorem FreshIn.three {p:Nat × Nat} {w:World} {a b:Int} {d:D} {v:Value} (h:FreshIn p w [d] [v]):FreshIn p w [.int a, .int b,d] [.int .i64 a, .int .i64 b,v]:=by
 obtain ⟨F,h1,h2,h3⟩:=h;refine ⟨F, ?_,h2,h3⟩;simp only [Ows] at h1 ⊢;obtain ⟨x,r,G,K,e1,e2,h4,e3,e4⟩:=h1;exact ⟨_,_,[],F,rfl,rfl,by simp [Ow],_,_,[],F,rfl,rfl,by simp [Ow],x,r,G,K,e1,e2,h4,e3,e4⟩
theorem AppS.keep {S:Nat→Prop} {w w':World} {t size n:Nat} {ds:List D} {v:Value} (h:AppS S w t size n ds v) (hk:∀b,b<w.heap.size→S b→w'.heap[b]? =w.heap[b]?):AppS S w' t size n ds v:=by
 obtain ⟨xs,F,h1,h2,h3,h4,h5⟩:=h;refine ⟨xs,F,⟨h1.1, ?_⟩,h2.keep fun b hb=>hk b (h2.lt b hb) (h4 b hb).1,h3,h4,h5⟩
 rcases h1.2 with h|⟨g,cap,cur,e,hg,hb,hr⟩
 ·
  exact Or.inl h
 ·
  exact Or.inr ⟨g,cap,cur,e,hg,(hk g (Array.getElem?_eq_some_iff.1 hb).1 (h5 g (by rw [e]; rfl))).trans hb,hr⟩
theorem AppS.more {S T:Nat→Prop} {w:World} {t size n:Nat} {ds:List D} {v:Value} (h:AppS S w t size n ds v) (hs:∀b,b<w.heap.size→S b→T b):AppS T w t size n ds v:=by
 obtain ⟨xs,F,h1,h2,h3,h4,h5⟩:=h;exact ⟨xs,F,h1,h2,h3,fun b hb=>⟨hs b (h2.lt b hb) (h4 b hb).1,(h4 b hb).2⟩,fun b hb=>hs b (h1.lt b hb).2 (h5 b hb)⟩
theorem AppS.app {S:Nat→Prop} {W w:World} {t size n:Nat} {ds:List D} {v:Value} (h:AppS S w t size n ds v) (hS:∀b,S b→W.heap.size≤b):App W w t size n ds v:=by
 obtain ⟨xs,F,h1,h2,h3,h4,h5⟩:=h;refine ⟨xs,F,⟨h1.1, ?_⟩,h2,h3,fun b hb=>⟨hS b (h4 b hb).1,(h4 b hb).2⟩⟩
 rcases h1.2 with h|⟨g,cap,cur,e,_,hb,hr⟩
 ·
  exact Or.inl h
 ·
  exact Or.inr ⟨g,cap,cur,e,hS g (h5 g (by rw [e]; rfl)),hb,hr⟩
theorem App.foot {W w:World} {t size n:Nat} {ds:List D} {v:Value} (h:App W w t size n ds v):∃Fs:List Nat,AppS (·∈Fs) w t size n ds v∧∀b∈Fs,W.heap.size≤b∧b<w.heap.size:=by
 have hlt:=h.lt;obtain ⟨xs,F,h1,h2,h3,h4⟩:=h
 have h1':w.ownsRow 0 t size v n xs:=⟨h1.1,by
  rcases h1.2 with h|⟨g,cap,cur,e,_,hb,hr⟩
  ·
   exact Or.inl h
  ·
   exact Or.inr ⟨g,cap,cur,e,Nat.zero_le _,hb,hr⟩⟩
 refine ⟨(match v.ownBlock with|some g=>g::F|none=>F),⟨xs,F,h1',h2,h3,fun b hb=>⟨?_,(h4 b hb).2⟩,fun b hb=> ?_⟩,fun b hb=> ?_⟩
 ·
  cases v.ownBlock<;>simp [hb]
 ·
  rw [hb]; simp
 ·
  cases hv:v.ownBlock with
  |none=>rw [hv] at hb; exact ⟨(h4 b hb).1,h2.lt b hb⟩
  |some g=>
   rw [hv] at hb
   rcases List.mem_cons.1 hb with rfl|hb
   ·
    exact hlt b hv
   ·
    exact ⟨(h4 b hb).1,h2.lt b hb⟩
theorem AppS.shape {S:Nat→Prop} {w:World} {t size n:Nat} {ds:List D} {v:Value} (h:AppS S w t size n ds v):∃a cap,v= .slice a n cap∧n≤cap∧cap≤maxLen:=by
 obtain ⟨xs,F,⟨_,h1⟩,_⟩:=h
 rcases h1 with ⟨rfl,rfl⟩|⟨g,cap,cur,rfl,_,_,h2,h3,_⟩
 ·
  exact ⟨none,0,rfl,by omega,by simp [maxLen]⟩
 ·
  exact ⟨_,cap,rfl,h2,h3⟩
theorem news_blk {w:World} {g T:Nat} {vs:List Value} (h:Blk w g T vs):∀j u,vs[j]? =some u→w.cell? ((⟨g,0,none⟩:Addr).add j)=some u:=by
 intro j u hj;rw [add_plain,Nat.zero_add,h.cell,hj]
theorem wpList_append_s {P:Program} (w:World) {ops:Array Oper} {rest:List Oper} {o:Oper} {a:Act} {Q:Exit→Act→World→Prop} (hgd:o.guard=none) (s x:Operand) (t:TypeId)
  (ho:o.op= .call { callee:= .builtin .append,args:= #[s,x],argTypes:= #[t,t] })
  (e:TypeId) (z:Value) (size bytes:Nat) (ht:P.underlying t=some (.slice e)) (hinfo:(P.info? e).map (fun i=>(i.zero,i.size,i.bytes))=some (some z,size,bytes)) (hzs:z.cells.size=size) (hsz:0<size)
  {S T:Nat→Prop} (v:Value) {n:Nat} {ds:List D} (hs:a.eval s=v) (happ:AppS S w e size n ds v)
  (ad:Addr) (m c:Nat) {es:List D} (news:List Value) (hx:a.eval x= .slice (some ad) m c) (hnews:∀j u,news[j]? =some u→w.cell? (ad.add j)=some u) (hes:OwS T w es news) (hST:∀b,b<w.heap.size→S b→T b→False)
  (hl:news.length=m*size) (h1:∀u∈news,u.oneCell'=true) (hm:0<m) (hbytes:(n+m)*bytes≤140737488355328) (h63:n+m≤maxLen)
  (h:∀g cap w',AppS (fun b=>S b∨T b∨(w.heap.size≤b∧b<w'.heap.size)) w' e size (n+m) (ds++es) (.slice (some ⟨g,0,none⟩) (n+m) cap)→Spares S w w'→
   wpList P ops Q rest (a.put o.dst (.slice (some ⟨g,0,none⟩) (n+m) cap)) w'):wpList P ops Q (o::rest) a w:=by
 obtain ⟨i,hi,hz,hsize,hby⟩:=info_parts hinfo;obtain ⟨xs,F,a1,a2,a3,a4,a5⟩:=happ;obtain ⟨G,g1,g2,g3⟩:=hes;refine wpList_append_lies w hgd s x t ho 0 e i z size bytes ht hi hz hsize hby hzs hsz v n xs hs a1 ad m c news hx hl hnews h1 hm h63 hbytes (Nat.zero_le _) w.heap.size rfl ?_;intro g cap w' k1 k2 k3 k4;have hF:∀b∈F,some b≠v.ownBlock:=fun b hb' e=>(a4 b hb').2 e.symm;have hG:∀b∈G,some b≠v.ownBlock:=fun b hb' e=>hST b (g1.lt b hb') (a5 b e.symm) (g3 b hb')
 have hgb:∀b,some b≠v.ownBlock→b<w.heap.size→Value.ownBlock (.slice (some ⟨g,0,none⟩) (n+m) cap)≠some b:=by
  intro b hne hlt e;simp only [Value.ownBlock,Option.some.injEq] at e;subst e
  rcases k3 with k3|k3
  ·
   exact hne k3.symm
  ·
   omega
 refine h g cap w' ⟨xs++news,F++G,k1,Ows.append (a2.keep fun b hb'=>k2.block b (a2.lt b hb') (hF b hb')) (g1.keep fun b hb'=>k2.block b (g1.lt b hb') (hG b hb')), ?_, ?_, ?_⟩
  ⟨k2.os,k2.tape,k2.output,k2.size,fun b hb' hn=>k2.block b hb' (fun e=>hn (a5 b e.symm))⟩
 ·
  rw [List.nodup_append];refine ⟨a3,g2,fun p hp q hq hpq=> ?_⟩;subst hpq;exact hST p (a2.lt p hp) (a4 p hp).1 (g3 p hq)
 ·
  intro b hm'
  rcases List.mem_append.1 hm' with hm'|hm'
  ·
   exact ⟨Or.inl (a4 b hm').1,hgb b (hF b hm') (a2.lt b hm')⟩
  ·
   exact ⟨Or.inr (Or.inl (g3 b hm')),hgb b (hG b hm') (g1.lt b hm')⟩
 ·
  intro b hb';simp only [Value.ownBlock,Option.some.injEq] at hb';subst hb'
  rcases k3 with k3|k3
  ·
   exact Or.inl (a5 _ k3)
  ·
   exact Or.inr (Or.inr ⟨by omega,k4⟩)
end Go.Proofs.YtfopdcdbelaapaaDoor
namespace Go.Proofs.YtfopdcdbelaapaaDoor
set_option linter.unusedVariables false
set_option linter.unusedSimpArgs false
open Go.ChangeShapes Go.WideShapes Go.ChangeAt Go.RowKit Go.Deep
inductive Ex where
 |mk (kind num:Int) (kids:List Ex)
def Ex.kind:Ex→Int| .mk k _ _=>k
def Ex.num:Ex→Int| .mk _ n _=>n
def Ex.kids:Ex→List Ex| .mk _ _ ks=>ks
theorem Ex.eta:∀e:Ex,e= .mk e.kind e.num e.kids| .mk _ _ _=>rfl
mutual
def Ex.cells:Ex→List D
 | .mk k n ks=>[.int k, .int n, .sl 3 ks.length (Ex.cellsL ks)]
def Ex.cellsL:List Ex→List D
 |[]=>[]
 |e::r=>e.cells++Ex.cellsL r
end
def kidsD (ks:List Ex):D:= .sl 3 ks.length (Ex.cellsL ks)
mutual
def Ex.size:Ex→Nat
 | .mk _ _ ks=>1+Ex.sizeL ks
def Ex.sizeL:List Ex→Nat
 |[]=>0
 |e::r=>e.size+Ex.sizeL r
end
theorem Ex.cells_eq (e:Ex):e.cells=[.int e.kind, .int e.num,kidsD e.kids]:=by cases e; simp only [Ex.cells,kidsD,Ex.kind,Ex.num,Ex.kids]
theorem Ex.size_eq (e:Ex):e.size=1+Ex.sizeL e.kids:=by cases e; simp only [Ex.size,Ex.kids]
theorem Ex.cells_length (e:Ex):e.cells.length=3:=by rw [Ex.cells_eq]; rfl
theorem Ex.cellsL_length:∀ks:List Ex,(Ex.cellsL ks).length=ks.length*3
 |[]=>by simp [Ex.cellsL]
 |e::r=>by simp only [Ex.cellsL,List.length_append,Ex.cells_length,Ex.cellsL_length r,List.length_cons]; omega
theorem Ex.cellsL_append:∀a b:List Ex,Ex.cellsL (a++b)=Ex.cellsL a++Ex.cellsL b
 |[],b=>by simp [Ex.cellsL]
 |e::r,b=>by simp only [List.cons_append,Ex.cellsL,Ex.cellsL_append r b,List.append_assoc]
theorem Ex.sizeL_append:∀a b:List Ex,Ex.sizeL (a++b)=Ex.sizeL a+Ex.sizeL b
 |[],b=>by simp [Ex.sizeL]
 |e::r,b=>by simp only [List.cons_append,Ex.sizeL,Ex.sizeL_append r b]; omega
theorem Ex.cellsL_at:∀(ks:List Ex) (i:Nat) (e:Ex),ks[i]? =some e→∀j,j<3→(Ex.cellsL ks)[3*i+j]? =e.cells[j]?
 |[],i,e,h=>by simp at h
 |e0::r,0,e,h=>by
  simp at h;subst h;intro j hj;simp only [Ex.cellsL];rw [Nat.mul_zero,Nat.zero_add,List.getElem?_append_left (by rw [Ex.cells_length]; exact hj)]
 |e0::r,i+1,e,h=>by
  intro j hj;simp only [Ex.cellsL];rw [List.getElem?_append_right (by rw [Ex.cells_length]; omega),Ex.cells_length,show 3*(i+1)+j - 3=3*i+j by omega];exact Ex.cellsL_at r i e (by simpa using h) j hj
theorem Ex.sizeL_mem:∀{ks:List Ex} {e:Ex},e∈ks→e.size≤Ex.sizeL ks
 |[],_,h=>by simp at h
 |e0::r,e,h=>by
  simp only [Ex.sizeL]
  rcases List.mem_cons.1 h with rfl|h
  ·
   omega
  ·
   have:=Ex.sizeL_mem h;omega
theorem Ex.length_le_sizeL:∀ks:List Ex,ks.length≤Ex.sizeL ks
 |[]=>Nat.le_refl _
 |e::r=>by
  have:=Ex.length_le_sizeL r;have:=Ex.size_eq e;simp only [Ex.sizeL,List.length_cons];omega
theorem Ex.sizeL_take_succ {ks:List Ex} {i:Nat} {e:Ex} (h:ks[i]? =some e):Ex.sizeL (ks.take (i+1))=Ex.sizeL (ks.take i)+e.size:=by
 obtain ⟨hi,rfl⟩:=List.getElem?_eq_some_iff.1 h;rw [List.take_succ_eq_append_getElem hi,Ex.sizeL_append]
 simp [Ex.sizeL]
theorem Ex.sizeL_take_le (ks:List Ex) (i:Nat):Ex.sizeL (ks.take i)≤Ex.sizeL ks:=by
 have:=Ex.sizeL_append (ks.take i) (ks.drop i);rw [List.take_append_drop] at this;omega
theorem Ex.cellsL_take_succ {ks:List Ex} {i:Nat} {e:Ex} (h:ks[i]? =some e):Ex.cellsL (ks.take (i+1))=Ex.cellsL (ks.take i)++[.int e.kind, .int e.num,kidsD e.kids]:=by
 obtain ⟨hi,rfl⟩:=List.getElem?_eq_some_iff.1 h;rw [List.take_succ_eq_append_getElem hi,Ex.cellsL_append,←Ex.cells_eq]
 simp [Ex.cellsL]
theorem kid_at {w:World} {ks:List Ex} {a:Option Addr} {len cap:Nat} (h:Rd w (kidsD ks) (.slice a len cap)):
  len=ks.length∧len≤cap∧cap≤maxLen∧(a=none→cap=0)∧(ks=[]∨∃b o,a=some ⟨b,o,none⟩∧b<w.heap.size∧∀(i:Nat) (e:Ex),ks[i]? =some e→
   ∃s c,w.cell? ⟨b,o+i*3,none⟩=some (.int .i64 e.kind)∧w.cell? ⟨b,o+i*3+1,none⟩=some (.int .i64 e.num)∧w.cell? ⟨b,o+i*3+2,none⟩=some (.slice s e.kids.length c)∧
    Rd w (kidsD e.kids) (.slice s e.kids.length c)):=by
 obtain ⟨h1,h2,h3,_,h5,h4⟩:=h.sl_at;refine ⟨h1,by omega,h3,h5, ?_⟩
 rcases h4 with h4|⟨b,o,rfl,h4⟩
 ·
  exact Or.inl (List.eq_nil_of_length_eq_zero h4)
 ·
  by_cases hk:ks=[]
  ·
   exact Or.inl hk
  right
  have each:∀(i:Nat) (e:Ex),ks[i]? =some e→∃s c,w.cell? ⟨b,o+i*3,none⟩=some (.int .i64 e.kind)∧w.cell? ⟨b,o+i*3+1,none⟩=some (.int .i64 e.num)∧w.cell? ⟨b,o+i*3+2,none⟩=some (.slice s e.kids.length c)∧
    Rd w (kidsD e.kids) (.slice s e.kids.length c):=by
   intro i e he;have c0:=Ex.cellsL_at ks i e he 0 (by omega);have c1:=Ex.cellsL_at ks i e he 1 (by omega);have c2:=Ex.cellsL_at ks i e he 2 (by omega);rw [Ex.cells_eq] at c0 c1 c2;obtain ⟨x0,g0,r0⟩:=h4 _ _ c0;obtain ⟨x1,g1,r1⟩:=h4 _ _ c1;obtain ⟨x2,g2,r2⟩:=h4 _ _ c2;simp only [Rd] at r0 r1;subst r0 r1;obtain ⟨s,c,rfl,_⟩:=Rd.slice r2;refine ⟨s,c, ?_, ?_, ?_,r2⟩
   ·
    rw [←g0]; congr 2; omega
   ·
    rw [←g1]; congr 2; omega
   ·
    rw [←g2]; congr 2; omega
  refine ⟨b,o,rfl, ?_,each⟩
  cases ks with
  |nil=>exact absurd rfl hk
  |cons e r=>
   obtain ⟨_,_,g0,_⟩:=each 0 e rfl;exact World.block_lt_of_cell? w _ g0
theorem kid_in {w:World} {ks:List Ex} {b o len cap:Nat} (h:Rd w (kidsD ks) (.slice (some ⟨b,o,none⟩) len cap)) {i:Nat} {e:Ex} (he:ks[i]? =some e):
  b<w.heap.size∧∃s c,w.cell? ⟨b,o+i*3,none⟩=some (.int .i64 e.kind)∧w.cell? ⟨b,o+i*3+1,none⟩=some (.int .i64 e.num)∧w.cell? ⟨b,o+i*3+2,none⟩=some (.slice s e.kids.length c)∧
    Rd w (kidsD e.kids) (.slice s e.kids.length c):=by
 obtain ⟨_,_,_,_,h4⟩:=kid_at h
 rcases h4 with rfl|⟨b',o',e1,hb,h4⟩
 ·
  simp at he
 ·
  simp only [Option.some.injEq,Addr.mk.injEq,and_true] at e1;obtain ⟨rfl,rfl⟩:=e1;exact ⟨hb,h4 i e he⟩
theorem kid_some {w:World} {ks:List Ex} {a:Option Addr} {len cap:Nat} (h:Rd w (kidsD ks) (.slice a len cap)) (hk:ks≠[]):∃b o,a=some ⟨b,o,none⟩:=by
 obtain ⟨_,_,_,_,h4⟩:=kid_at h
 rcases h4 with h4|⟨b,o,e,_⟩
 ·
  exact absurd h4 hk
 ·
  exact ⟨b,o,e⟩
def ExAt (w:World) (b o:Nat) (e:Ex):Prop:=w.cell? ⟨b,o,none⟩=some (.int .i64 e.kind)∧w.cell? ⟨b,o+1,none⟩=some (.int .i64 e.num)∧
 ∃s c,w.cell? ⟨b,o+2,none⟩=some (.slice s e.kids.length c)∧Rd w (kidsD e.kids) (.slice s e.kids.length c)
theorem ExAt.lt {w:World} {b o:Nat} {e:Ex} (h:ExAt w b o e):b<w.heap.size:=World.block_lt_of_cell? w _ h.1
theorem ExAt.below {w w':World} {b o:Nat} {e:Ex} (h:ExAt w b o e) (hb:Below w.heap.size w w'):ExAt w' b o e:=by
 have hl:=h.lt;obtain ⟨h0,h1,s,c,h2,h3⟩:=h;exact ⟨(hb.cell (p:=⟨b,o,none⟩) hl).trans h0,(hb.cell (p:=⟨b,o+1,none⟩) hl).trans h1,s,c,(hb.cell (p:=⟨b,o+2,none⟩) hl).trans h2,h3.below hb⟩
theorem kid_exAt {w:World} {ks:List Ex} {b o len cap:Nat} (h:Rd w (kidsD ks) (.slice (some ⟨b,o,none⟩) len cap)) {i:Nat} {e:Ex} (he:ks[i]? =some e):ExAt w b (o+i*3) e:=by
 obtain ⟨_,s,c,g0,g1,g2,g3⟩:=kid_in h he;exact ⟨g0,g1,s,c,g2,g3⟩
theorem Blk.exAt {w:World} {g T:Nat} {k n:Int} {ks:List Ex} {s:Option Addr} {c:Nat} (h:Blk w g T [.int .i64 k, .int .i64 n, .slice s ks.length c]) (hr:Rd w (kidsD ks) (.slice s ks.length c)):ExAt w g 0 (.mk k n ks):=
 ⟨h.c0,h.c1,s,c,h.c2,hr⟩
section
variable {H:Type} {enc:TypeId × Value→H} {P:Program} {w:World} {base:Nat} {sp:Nat→Bool} {hd:Bool}
end
end Go.Proofs.YtfopdcdbelaapaaDoor
namespace Go.Proofs.YtfopdcdbelaapaaDoor
set_option linter.unusedVariables false
set_option linter.unusedSimpArgs false
open Go.ChangeShapes Go.WideShapes Go.ChangeAt Go.RowKit Go.Deep
def KeptX (X:Nat→Prop) (w w':World):Prop:=w.heap.size≤w'.heap.size∧∀b,b<w.heap.size→¬X b→w'.heap[b]? =w.heap[b]?
theorem KeptX.refl (X:Nat→Prop) (w:World):KeptX X w w:=⟨Nat.le_refl _,fun _ _ _=>rfl⟩
theorem KeptX.trans {X:Nat→Prop} {a b c:World} (h:KeptX X a b) (k:KeptX X b c):KeptX X a c:=
 ⟨Nat.le_trans h.1 k.1,fun i hi hx=>(k.2 i (Nat.lt_of_lt_of_le hi h.1) hx).trans (h.2 i hi hx)⟩
theorem KeptX.of_below {X:Nat→Prop} {w w':World} (h:Below w.heap.size w w'):KeptX X w w':=⟨h.size,fun b hb _=>h.block b hb⟩
theorem KeptX.of_spares {X Y:Nat→Prop} {w w':World} (h:Spares Y w w') (hY:∀b,b<w.heap.size→Y b→X b):KeptX X w w':=⟨h.size,fun b hb hx=>h.block b hb fun hy=>hx (hY b hb hy)⟩
theorem KeptX.more {X Y:Nat→Prop} {w w':World} (h:KeptX X w w') (hs:∀b,b<w.heap.size→X b→Y b):KeptX Y w w':=⟨h.1,fun b hb hy=>h.2 b hb fun hx=>hy (hs b hb hx)⟩
def RdX (X:Nat→Prop) (w:World) (d:D) (v:Value):Prop:=∀w',KeptX X w w'→Rd w' d v
theorem RdX.rd {X:Nat→Prop} {w:World} {d:D} {v:Value} (h:RdX X w d v):Rd w d v:=h w (KeptX.refl X w)
theorem RdX.keep {X:Nat→Prop} {w w':World} {d:D} {v:Value} (h:RdX X w d v) (hk:KeptX X w w'):RdX X w' d v:=fun _ k=>h _ (hk.trans k)
theorem RdX.below {X:Nat→Prop} {w w':World} {d:D} {v:Value} (h:RdX X w d v) (hb:Below w.heap.size w w'):RdX X w' d v:=h.keep (KeptX.of_below hb)
theorem RdX.less {X Y:Nat→Prop} {w:World} {d:D} {v:Value} (h:RdX X w d v) (hs:∀b,b<w.heap.size→Y b→X b):RdX Y w d v:=fun w' k=>h w' (k.more hs)
theorem RdX.of_rd {X:Nat→Prop} {w:World} {d:D} {v:Value} (h:Rd w d v) (hX:∀b,X b→w.heap.size≤b):RdX X w d v:=fun _ k=>h.keep fun b hb=>k.2 b hb fun hx=>by have:=hX b hx; omega
theorem RdX.all {w:World} {d:D} {v:Value} (h:Rd w d v):RdX (fun _=>False) w d v:=RdX.of_rd h fun _ h=>h.elim
theorem RdX.nil {X:Nat→Prop} {w:World} {size:Nat}:RdX X w (.sl size 0 []) (.slice Option.none 0 0):=fun _ _=>by simp only [Rd]; exact ⟨Option.none,0,rfl,Nat.le_refl _,by unfold maxLen; omega,by simp,fun _=>rfl,Or.inl trivial⟩
theorem RdX.fresh {X:Nat→Prop} {w w':World} {d:D} {v:Value} (h:Freshs w w' [d] [v]) (hX:∀b,X b→b<w.heap.size):RdX X w' d v:=by
 obtain ⟨F,h1,h2,h3⟩:=h;intro w2 k;exact Rds.one (h1.keep fun b hb=>k.2 b (h1.lt b hb) fun hx=>by have:=h3 b hb; have:=hX b hx; omega).rds
def RdO (W0:World) (X F:Nat→Prop) (w:World) (d:D) (v:Value):Prop:=
 ∀w',w.heap.size≤w'.heap.size→KeptX X W0 w'→(∀b,b<w.heap.size→F b→w'.heap[b]? =w.heap[b]?)→Rd w' d v
theorem RdO.keep {W0:World} {X F F':Nat→Prop} {w w':World} {d:D} {v:Value} (h:RdO W0 X F w d v) (hz:w.heap.size≤w'.heap.size) (hk:∀b,b<w.heap.size→F b→w'.heap[b]? =w.heap[b]?) (hF:∀b,F b→F' b):RdO W0 X F' w' d v:=
 fun w2 h1 h2 h3=>h w2 (Nat.le_trans hz h1) h2 fun b hb hf=>(h3 b (Nat.lt_of_lt_of_le hb hz) (hF b hf)).trans (hk b hb hf)
def OutX (W0:World) (X F:Nat→Prop) (w:World) (b:Nat):Prop:=b<w.heap.size∧¬((b<W0.heap.size∧¬X b)∨F b)
theorem OutX.lt {W0:World} {X F:Nat→Prop} {w:World}:∀b,OutX W0 X F w b→b<w.heap.size:=fun _ h=>h.1
theorem OutX.kept {W0:World} {X F:Nat→Prop} {w w2:World} (k:KeptX (OutX W0 X F w) w w2) (hW:KeptX X W0 w):KeptX X W0 w2:=
 ⟨Nat.le_trans hW.1 k.1,fun b hb hx=>(k.2 b (Nat.lt_of_lt_of_le hb hW.1) fun ho=>ho.2 (Or.inl ⟨hb,hx⟩)).trans (hW.2 b hb hx)⟩
theorem OutX.foot {W0:World} {X F:Nat→Prop} {w w2:World} (k:KeptX (OutX W0 X F w) w w2) {b:Nat} (hb:b<w.heap.size) (hf:F b):w2.heap[b]? =w.heap[b]? :=k.2 b hb fun ho=>ho.2 (Or.inr hf)
theorem RdO.toX {W0:World} {X F F':Nat→Prop} {w:World} {d:D} {v:Value} (h:RdO W0 X F w d v) (hW:KeptX X W0 w) (hF:∀b,F b→F' b):RdX (OutX W0 X F' w) w d v:=
 fun w2 k=>h w2 k.1 (OutX.kept k hW) fun b hb hf=>OutX.foot k hb (hF b hf)
theorem RdX.toOut {W0:World} {X F:Nat→Prop} {w:World} {d:D} {v:Value} (h:RdX X W0 d v) (hW:KeptX X W0 w):RdX (OutX W0 X F w) w d v:=
 fun w2 k=>h w2 (OutX.kept k hW)
theorem RdO.ofX {W0:World} {X F F':Nat→Prop} {w w2:World} {d:D} {v:Value} (h:RdX (OutX W0 X F' w) w2 d v) (hb:Below w.heap.size w w2) (hW:KeptX X W0 w) (hF:∀b,F' b→F b) (hn:∀b,w.heap.size≤b→b<w2.heap.size→F b):RdO W0 X F w2 d v:=
 fun w3 hz k3 h3=>h w3 ⟨hz,fun b hb2 hno=>by
  by_cases hl:b<w.heap.size
  ·
   by_cases hf:F' b
   ·
    exact h3 b hb2 (hF b hf)
   ·
    by_cases ho:b<W0.heap.size∧¬X b
    ·
     exact (k3.2 b ho.1 ho.2).trans (((hW.trans (KeptX.of_below hb)).2 b ho.1 ho.2).symm)
    ·
     exact absurd ⟨hl,fun q=>q.elim ho hf⟩ hno
  ·
   exact h3 b hb2 (hn b (by omega) hb2)⟩
theorem RdO.done {W0:World} {X F:Nat→Prop} {w:World} {d:D} {v:Value} (h:RdO W0 X F w d v) (hW:KeptX X W0 w) (hF:∀b,F b→¬X b):RdX X w d v:=
 fun w2 k=>h w2 k.1 (hW.trans k) fun b hb hf=>k.2 b hb (hF b hf)
theorem foot_no {C D:List (Nat × Nat)} {G:Nat→Nat→Prop} {n i B z:Nat} {iv:Nat→Nat × Nat} {l:List Nat} (hl:((chainOf C n i).all fun j=>l.contains j)=true) (hD:((chainOf C n i).all fun j=>D.all fun p=>p.1 !=j)=true)
  (hb:∀j∈l,B≤(iv j).1∧(iv j).1≤(iv j).2∧(iv j).2≤z) {b:Nat} (hf:foot C D G n i iv b):B≤b:=by
 obtain ⟨j,hj,h|⟨m,hm,hg⟩⟩:=hf
 ·
  have:=List.all_eq_true.1 hl j hj;have:=(hb j (by simpa using this)).1;omega
 ·
  have:=List.all_eq_true.1 (List.all_eq_true.1 hD j hj) (j,m) hm;simp at this
theorem kidsD_nil {X:Nat→Prop} {w:World}:RdX X w (kidsD []) (.slice none 0 0):=RdX.nil
def ExX (X:Nat→Prop) (w:World) (e:Ex) (s:Option Addr) (c:Nat):Prop:=RdX X w (kidsD e.kids) (.slice s e.kids.length c)
theorem kidsD_one {X:Nat→Prop} {w:World} {g t:Nat} {x:Ex} {sx:Option Addr} {cx:Nat} (h:Blk w g t [.int .i64 x.kind, .int .i64 x.num, .slice sx x.kids.length cx]) (hg:¬X g) (hx:ExX X w x sx cx):RdX X w (kidsD [x]) (.slice (some ⟨g,0,none⟩) 1 1):=by
 intro w' k;have h':=h.keep (k.2 g h.lt hg);have hx':=hx w' k;unfold kidsD;simp only [Rd];have hrow:Row w' g 0 [.int .i64 x.kind, .int .i64 x.num, .slice sx x.kids.length cx]:=h'.row rfl;refine ⟨some ⟨g,0,none⟩,1,rfl,Nat.le_refl _,by unfold maxLen; omega,by rw [Ex.cellsL_length],(fun h=>by cases h),Or.inr ⟨g,0,_,rfl,hrow, ?_⟩⟩;simp only [Ex.cellsL,List.append_nil];rw [Ex.cells_eq];simp only [Rds,Rd];exact ⟨_,_,rfl,rfl,_,_,rfl,rfl,_,_,rfl,hx',rfl⟩
theorem kidsD_two {X:Nat→Prop} {w:World} {g t:Nat} {x y:Ex} {sx sy:Option Addr} {cx cy:Nat} (h:Blk w g t [.int .i64 x.kind, .int .i64 x.num, .slice sx x.kids.length cx, .int .i64 y.kind, .int .i64 y.num, .slice sy y.kids.length cy]) (hg:¬X g)
  (hx:ExX X w x sx cx) (hy:ExX X w y sy cy):RdX X w (kidsD [x,y]) (.slice (some ⟨g,0,none⟩) 2 2):=by
 intro w' k;have h':=h.keep (k.2 g h.lt hg);have hx':=hx w' k;have hy':=hy w' k;unfold kidsD;simp only [Rd];have hrow:Row w' g 0 [.int .i64 x.kind, .int .i64 x.num, .slice sx x.kids.length cx, .int .i64 y.kind, .int .i64 y.num, .slice sy y.kids.length cy]:=h'.row rfl;refine ⟨some ⟨g,0,none⟩,2,rfl,Nat.le_refl _,by unfold maxLen; omega,by rw [Ex.cellsL_length],(fun h=>by cases h),Or.inr ⟨g,0,_,rfl,hrow, ?_⟩⟩;simp only [Ex.cellsL,List.append_nil];rw [Ex.cells_eq,Ex.cells_eq];simp only [List.cons_append,List.nil_append,Rds,Rd];exact ⟨_,_,rfl,rfl,_,_,rfl,rfl,_,_,rfl,hx',_,_,rfl,rfl,_,_,rfl,rfl,_,_,rfl,hy',rfl⟩
theorem RdX.row_out {X:Nat→Prop} {w:World} {ks:List Ex} {b o len cap:Nat} (h:RdX X w (kidsD ks) (.slice (some ⟨b,o,none⟩) len cap)) {i:Nat} {x:Ex} (hx:ks[i]? =some x):¬X b:=by
 intro hb;have hlt:=(kid_in h.rd hx).1
 have k:KeptX X w { w with heap:=w.heap.setIfInBounds b (.cells #[] 0) }:=
  ⟨by simp,fun j hj hn=>by
   have hne:b≠j:=fun e=>hn (e ▸ hb)
   simp [Array.getElem?_setIfInBounds_ne hne]⟩
 obtain ⟨-, s',c',k0, -⟩:=kid_in (h _ k) hx
 have hblk:Blk { w with heap:=w.heap.setIfInBounds b (.cells #[] 0) } b 0 []:=by
  unfold Blk
  simp [hlt]
 rw [hblk.cell] at k0;simp at k0
theorem kidX {X:Nat→Prop} {w:World} {ks:List Ex} {b o len cap:Nat} (h:RdX X w (kidsD ks) (.slice (some ⟨b,o,none⟩) len cap)) {i:Nat} {x:Ex} (hx:ks[i]? =some x):
  b<w.heap.size∧¬X b∧∃s c,w.cell? ⟨b,o+i*3,none⟩=some (.int .i64 x.kind)∧w.cell? ⟨b,o+i*3+1,none⟩=some (.int .i64 x.num)∧w.cell? ⟨b,o+i*3+2,none⟩=some (.slice s x.kids.length c)∧ExX X w x s c:=by
 obtain ⟨hb,s,c,h0,h1,h2,h3⟩:=kid_in h.rd hx;have hn:=h.row_out hx;refine ⟨hb,hn,s,c,h0,h1,h2,fun w' k=> ?_⟩;obtain ⟨-, s',c',k0,k1,k2,k3⟩:=kid_in (h w' k) hx;have e:=World.cell?_of_block (w:=w) (w':=w') (a:=⟨b,o+i*3+2,none⟩) (k.2 b hb hn);rw [k2,h2] at e;simp only [Option.some.injEq,Value.slice.injEq,true_and] at e;obtain ⟨rfl,rfl⟩:=e;exact k3
end Go.Proofs.YtfopdcdbelaapaaDoor
namespace Go.Proofs
open Go.Shelf
def Tryd.lays169_ren:Go.Shelf.Ren:=⟨fun|169=>47|n=>n,fun|70=>67|9=>9|0=>0|72=>70|37=>68|127=>80|3=>3|5=>5|n=>n,fun|n=>n⟩
theorem Tryd.lays169:Go.Proofs.Lays.n169 Tryd.prog Tryd.lays169_ren:={
 mixed:=by kernel_rfl
 f169:=Tryd.func47.trans (congrArg some (by kernel_rfl))
 t0:=Tryd.underlying0
 a0:=Tryd.isAgg0
 z0:=Tryd.sizeOf0
 v0:=Tryd.zeroValue0
 t3:=Tryd.underlying3
 a3:=Tryd.isAgg3
 z3:=Tryd.sizeOf3
 v3:=Tryd.zeroValue3
 t9:=Tryd.underlying9
 a9:=Tryd.isAgg9
 z9:=Tryd.sizeOf9
 v9:=Tryd.zeroValue9
 t37:=Tryd.underlying68
 a37:=Tryd.isAgg68
 z37:=Tryd.sizeOf68
 v37:=Tryd.zeroValue68
 t70:=Tryd.underlying67
 a70:=Tryd.isAgg67
 z70:=Tryd.sizeOf67
 v70:=Tryd.zeroValue67
 t72:=Tryd.underlying70
 a72:=Tryd.isAgg70
 z72:=Tryd.sizeOf70
 v72:=Tryd.zeroValue70
 t127:=Tryd.underlying80
 a127:=Tryd.isAgg80
 z127:=Tryd.sizeOf80
 v127:=Tryd.zeroValue80 }
theorem Tryd.Builder_Extra_169:Builder.Extra Tryd.prog Tryd.lays169_ren:={
 sizeBuilder:=by kernel_rfl
 liesBuilder:=by kernel_rfl
 t5:=Tryd.underlying5
 a5:=Tryd.isAgg5
 z5:=Tryd.sizeOf5
 v5:=Tryd.zeroValue5
 infoByte:=by kernel_rfl
 cellsByte:=by kernel_rfl
 sizeByte:=by kernel_rfl
 neB5:=by decide }
open Go.RowKit in
open Go.RowKit in
open Go.RowKit in
theorem Tryd.Builder_String_any (B b:Nat) (l:List UInt8) (w:World) (h:Lib.IsBuilder 70 5 B b (Lib.byteCells l) w) (hBw:B≤w.heap.size):
  Calls Tryd.prog 47 #[.pointer (some ⟨b,0,none⟩)] w fun e w'=>e= .returned (.string ⟨l.toArray⟩)∧Below B w w':=Any.Builder_String_any Tryd.lays169 Tryd.Builder_Extra_169 B b l w h hBw
open Go.RowKit in
def Tryd.lays106_ren:Go.Shelf.Ren:=⟨fun|106=>43|213=>50|265=>63|n=>n,fun|9=>9|3=>3|n=>n,fun|n=>n⟩
theorem Tryd.lays106:Go.Proofs.Lays.n106 Tryd.prog Tryd.lays106_ren:={
 mixed:=by kernel_rfl
 f106:=Tryd.func43.trans (congrArg some (by kernel_rfl))
 f213:=Tryd.func50.trans (congrArg some (by kernel_rfl))
 f265:=Tryd.func63.trans (congrArg some (by kernel_rfl))
 t3:=Tryd.underlying3
 a3:=Tryd.isAgg3
 z3:=Tryd.sizeOf3
 v3:=Tryd.zeroValue3
 t9:=Tryd.underlying9
 a9:=Tryd.isAgg9
 z9:=Tryd.sizeOf9
 v9:=Tryd.zeroValue9 }
open Go.RowKit in
theorem Tryd.strings_Compare (a b:ByteArray) (w:World):
  Calls Tryd.prog 43 #[.string a, .string b] w fun e w'=>e= .returned (.int .i64 (Lib.compareBytes a.data.toList b.data.toList))∧w'=w:=Any.strings_Compare Tryd.lays106 a b w
open Go.RowKit in
open Go.RowKit in
open Go.RowKit in
open Go.RowKit in
open Go.RowKit in
open Go.RowKit in
open Go.Lib in
open Go.Lib in
open Go.Lib in
open Go.Lib in
open Go.RowKit Go.Sort Go.Lib in
open Go.RowKit Go.Sort Go.Lib in
open Go.RowKit Go.Sort Go.Lib in
open Go.RowKit Go.Sort Go.Lib in
def Tryd.lays173_ren:Go.Shelf.Ren:=⟨fun|173=>65|246=>72|283=>74|284=>75|285=>76|286=>77|129=>62|317=>78|318=>79|319=>80|320=>81|337=>82|338=>83|n=>n,fun|2=>2|3=>3|9=>9|4=>4|171=>106|0=>0|53=>92|37=>68|5=>5|173=>108|212=>112|51=>90|20=>20|213=>113|46=>75|232=>115|233=>116|n=>n,fun|17=>1|18=>2|19=>3|n=>n⟩
theorem Tryd.lays173:Go.Proofs.Lays.n173 Tryd.prog Tryd.lays173_ren:={
 mixed:=by kernel_rfl
 f129:=Tryd.func62.trans (congrArg some (by kernel_rfl))
 f173:=Tryd.func65.trans (congrArg some (by kernel_rfl))
 f246:=Tryd.func72.trans (congrArg some (by kernel_rfl))
 f283:=Tryd.func74.trans (congrArg some (by kernel_rfl))
 f284:=Tryd.func75.trans (congrArg some (by kernel_rfl))
 f285:=Tryd.func76.trans (congrArg some (by kernel_rfl))
 f286:=Tryd.func77.trans (congrArg some (by kernel_rfl))
 f317:=Tryd.func78.trans (congrArg some (by kernel_rfl))
 f318:=Tryd.func79.trans (congrArg some (by kernel_rfl))
 f319:=Tryd.func80.trans (congrArg some (by kernel_rfl))
 f320:=Tryd.func81.trans (congrArg some (by kernel_rfl))
 f337:=Tryd.func82.trans (congrArg some (by kernel_rfl))
 f338:=Tryd.func83.trans (congrArg some (by kernel_rfl))
 t0:=Tryd.underlying0
 a0:=Tryd.isAgg0
 z0:=Tryd.sizeOf0
 v0:=Tryd.zeroValue0
 t2:=Tryd.underlying2
 a2:=Tryd.isAgg2
 z2:=Tryd.sizeOf2
 v2:=Tryd.zeroValue2
 t3:=Tryd.underlying3
 a3:=Tryd.isAgg3
 z3:=Tryd.sizeOf3
 v3:=Tryd.zeroValue3
 t4:=Tryd.underlying4
 a4:=Tryd.isAgg4
 z4:=Tryd.sizeOf4
 v4:=Tryd.zeroValue4
 t5:=Tryd.underlying5
 a5:=Tryd.isAgg5
 z5:=Tryd.sizeOf5
 v5:=Tryd.zeroValue5
 t9:=Tryd.underlying9
 a9:=Tryd.isAgg9
 z9:=Tryd.sizeOf9
 v9:=Tryd.zeroValue9
 t20:=Tryd.underlying20
 a20:=Tryd.isAgg20
 z20:=Tryd.sizeOf20
 v20:=Tryd.zeroValue20
 t37:=Tryd.underlying68
 a37:=Tryd.isAgg68
 z37:=Tryd.sizeOf68
 v37:=Tryd.zeroValue68
 t46:=Tryd.underlying75
 a46:=Tryd.isAgg75
 z46:=Tryd.sizeOf75
 v46:=Tryd.zeroValue75
 t51:=Tryd.underlying90
 a51:=Tryd.isAgg90
 z51:=Tryd.sizeOf90
 v51:=Tryd.zeroValue90
 t53:=Tryd.underlying92
 a53:=Tryd.isAgg92
 z53:=Tryd.sizeOf92
 v53:=Tryd.zeroValue92
 t171:=Tryd.underlying106
 a171:=Tryd.isAgg106
 z171:=Tryd.sizeOf106
 v171:=Tryd.zeroValue106
 t173:=Tryd.underlying108
 a173:=Tryd.isAgg108
 z173:=Tryd.sizeOf108
 v173:=Tryd.zeroValue108
 t212:=Tryd.underlying112
 a212:=Tryd.isAgg112
 z212:=Tryd.sizeOf112
 v212:=Tryd.zeroValue112
 t213:=Tryd.underlying113
 a213:=Tryd.isAgg113
 z213:=Tryd.sizeOf113
 t232:=Tryd.underlying115
 a232:=Tryd.isAgg115
 z232:=Tryd.sizeOf115
 v232:=Tryd.zeroValue115
 t233:=Tryd.underlying116
 a233:=Tryd.isAgg116
 z233:=Tryd.sizeOf116
 v233:=Tryd.zeroValue116
 g17:=by kernel_rfl
 g18:=by kernel_rfl
 g19:=by kernel_rfl }
open Go.RowKit Go.Sort Go.Lib in
theorem Tryd.strconv_FormatInt_10_small (i:Nat) (hi:i<100) (w:World):
  Calls Tryd.prog 65 #[.int .i64 i, .int .i64 10] w fun e w'=>e= .returned (.string ⟨(Lib.decDigits i).toArray⟩)∧w'=w:=Any.strconv_FormatInt_10_small Tryd.lays173 i hi w
end Go.Proofs
namespace Go.Proofs.YtfopdcdbelaapaaDoor
set_option linter.unusedVariables false
set_option linter.unusedSimpArgs false
open Go.ChangeShapes Go.WideShapes Go.ChangeAt Go.RowKit
def bs (l:List UInt8):ByteArray:=⟨l.toArray⟩
def dg8 (n:Nat):UInt8:=UInt8.ofNat (48+n)
theorem bs_add (a b:List UInt8):bs a++bs b=bs (a++b):=by
 apply ByteArray.ext
 simp [bs,ByteArray.data_append]
theorem bs_size (a:List UInt8):(bs a).size=a.length:=by simp [bs,ByteArray.size]
theorem bs_inj {a b:List UInt8} (h:bs a=bs b):a=b:=by
 unfold bs at h;have:=congrArg ByteArray.data h
 simpa using this
theorem run_cat {P:Program} (a b:List UInt8) (h:a.length+b.length≤1000000000) (w:World):(Op.stringOp .add (bs a) (bs b)).run P w= .ok (.string (bs (a++b))) w:=by
 rw [Go.run_string_add_sum w _ _ (by rw [bs_size,bs_size]; omega),bs_add]
theorem digit_byte {n:Nat} (h:n<10):(((dg8 n).toNat:Nat):Int)=48+(n:Int):=by
 have:(dg8 n).toNat=48+n:=by unfold dg8; simp [UInt8.toNat_ofNat']; omega
 rw [this];omega
theorem digit_back {n g:Nat} {w:World} (hn:n<10) (h:Blk w g 5 [.int .u8 (48+(n:Int))]):(convert 68 9 (.slice (some ⟨g,0,none⟩) 1 1)).run Tryd.prog w= .ok (.string (bs [dg8 n])) w:=by
 refine run_convert_bytes_back _ 68 9 5 ⟨g,0,none⟩ 1 [dg8 n] Tryd.underlying68 Tryd.underlying5 Tryd.underlying9 ?_;intro j hj
 obtain rfl:j=0:=by simp at hj; omega
 rw [add_plain];simp only [Nat.zero_add,List.getElem_cons_zero,digit_byte hn];exact h.c0
set_option maxRecDepth 100000 in
set_option maxHeartbeats 1000000 in
theorem Decimal_one {n:Nat} {w:World} (hn:n<10):Calls Tryd.prog 45 #[.int .i64 n] w fun e w'=>e= .returned (.string (bs [dg8 n]))∧Below w.heap.size w w':=by
 have hb:=digit_back hn (Blk.new1 w 5 (.int .u8 (48+(n:Int))))
 have hn':(n:Int)<10:=by omega
 go_enter Tryd.func45,Tryd.ntmps45
 go_wp2_with fail;go_ret;exact ⟨rfl,by (repeat' first|exact Below.refl _ _|assumption|apply Below.alloc|apply Below.drew|apply Below.setCell|omega|(simp; done)|(simp; omega))⟩
set_option maxRecDepth 100000 in
set_option maxHeartbeats 4000000 in
theorem Decimal_i {n:Nat} {w:World} (hn:n<100):Calls Tryd.prog 45 #[.int .i64 n] w fun e w'=>e= .returned (.string (bs (Lib.decDigits n)))∧Below w.heap.size w w':=by
 by_cases h1:n<10
 ·
  rw [Lib.decDigits_one h1];exact Decimal_one h1
 ·
  rw [Lib.decDigits_two h1 hn]
  have h4:(10:Int)≤(n:Int):=by omega
  have h5:(n:Int)<100:=by omega
  obtain ⟨a,ha⟩:∃a,n / 10=a:=⟨_,rfl⟩;obtain ⟨c,hc⟩:∃c,n % 10=c:=⟨_,rfl⟩
  have q1:(n:Int) / 10=(a:Int):=by omega
  have q2:(n:Int) % 10=(c:Int):=by omega
  have h2:a<10:=by omega
  have h3:c<10:=by omega
  have h6:(c:Int)<10:=by omega
  have hcz:=Int.natCast_nonneg c;have Hr:Hid (bs [dg8 a]++bs [dg8 c]=bs [UInt8.ofNat (48+a),UInt8.ofNat (48+c)]):=bs_add _ _;rw [ha,hc];clear ha hc
  go_enter Tryd.func45,Tryd.ntmps45
  go_wp2_with fail
  refine region_rs [] [] (fun _ _=>False) (w.heap.size) (fun i iv vs wx=>match i with
   |0=>vs 0= .int .i64 n
   |1=>vs 1= .int .i64 a
   |2=>vs 2= .string (bs [dg8 a])
   |3=>vs 3= .int .i64 n
   |4=>vs 4= .int .i64 c
   |5=>vs 5= .int .i64 (48+↑c)
   |6=>vs 6= .int .u8 (48+↑c)
   |7=>vs 7= .slice (some ⟨(iv 7).1,0,none⟩) 1 1∧(iv 7).2=(iv 7).1+1∧Blk wx (iv 7).1 5 [.int .u8 (48+↑c)]
   |8=>vs 8= .string (bs [dg8 c])
   |9=>vs 9= .string (bs [dg8 a]++bs [dg8 c])
   |10=>vs 10= .string (bs [dg8 a]++bs [dg8 c])
   |_=>True) (fun i iv vs=>match i with
   |0=>vs 0= .int .i64 n
   |1=>vs 1= .int .i64 a
   |2=>vs 2= .string (bs [dg8 a])
   |3=>vs 3= .int .i64 n
   |4=>vs 4= .int .i64 c
   |5=>vs 5= .int .i64 (48+↑c)
   |6=>vs 6= .int .u8 (48+↑c)
   |7=>vs 7= .slice (some ⟨(iv 7).1,0,none⟩) 1 1∧(iv 7).2=(iv 7).1+1
   |8=>vs 8= .string (bs [dg8 c])
   |9=>vs 9= .string (bs [dg8 a]++bs [dg8 c])
   |10=>vs 10= .string (bs [dg8 a]++bs [dg8 c])
   |_=>True) (by kernel_rfl) (by kernel_rfl) [0,1,2,3,4,5,6,7,8,9,10] (by kernel_rfl) ?hbase ?hGb ?hG ?hJ ?hE ?hEE ?hstep ?hQ
  case hbase=>first|exact Nat.le_refl _|omega|(simp; omega)
  case hGb=>
   exact fun _ _ h=>h.elim
  case hG=>
   exact fun _ _ _ h=>h.elim
  case hJ=>
   intro i hi iv iv' vs vs' wx wx' ha hv hz hk hj;simp only [List.mem_cons,List.not_mem_nil,or_false] at hi
   rcases hi with rfl|rfl|rfl|rfl|rfl|rfl|rfl|rfl|rfl|rfl|rfl
   all_goals try exact (aG hv _).symm.trans hj
   ·
    have e7:=aG hv 7;have g7:=aG ha 7;obtain ⟨q1,q3,q2⟩:=hj
    show vs' 7= .slice (some ⟨(iv' 7).1,0,none⟩) 1 1∧(iv' 7).2=(iv' 7).1+1∧Blk wx' (iv' 7).1 5 [.int .u8 (48+↑c)]
    rw [←e7,←g7];exact ⟨q1,q3,q2.keep (hk.out _ q2.lt (foot_own (Nat.le_refl _) (by omega)))⟩
  case hE=>
   intro i hi iv vs wx hj;simp only [List.mem_cons,List.not_mem_nil,or_false] at hi
   rcases hi with rfl|rfl|rfl|rfl|rfl|rfl|rfl|rfl|rfl|rfl|rfl
   all_goals try exact hj
   ·
    exact ⟨hj.1,hj.2.1⟩
  case hEE=>
   intro i hi iv iv' vs vs' ha hv hj;simp only [List.mem_cons,List.not_mem_nil,or_false] at hi
   rcases hi with rfl|rfl|rfl|rfl|rfl|rfl|rfl|rfl|rfl|rfl|rfl
   all_goals try exact (aG hv _).symm.trans hj
   ·
    have e7:=aG hv 7;have g7:=aG ha 7;have hj':vs 7= .slice (some ⟨(iv 7).1,0,none⟩) 1 1∧(iv 7).2=(iv 7).1+1:=hj
    show vs' 7= .slice (some ⟨(iv' 7).1,0,none⟩) 1 1∧(iv' 7).2=(iv' 7).1+1
    rw [←e7,←g7];exact hj'
  case hstep=>
   intro i hi opr ho iv vs w1 hB hS hSo hd he hbd hsep hun K hK;simp only [List.mem_cons,List.not_mem_nil,or_false] at hi;have hzB:=hB.size
   skip
   generalize hA:putFrom _ 0 vs _=A at hK ⊢;simp only [putFrom,puts] at hA
   rcases hi with rfl|rfl|rfl|rfl|rfl|rfl|rfl|rfl|rfl|rfl|rfl
   all_goals
    simp at ho;subst ho;subst hA
   ·
    go_wp2_with fail;exact Onward.mk (hK (.int .i64 n) _ _ (fun h=>by cases h) (by first|rfl|(simp only [puts])) (Spares.refl _) (fun iv' _ _=>rfl))
   ·
    have h0:vs 0= .int .i64 n:=dN hd 0;go_wp2_with fail;exact Onward.mk (hK (.int .i64 a) _ _ (fun h=>by cases h) (by first|rfl|(simp only [puts,h0])) (Spares.refl _) (fun iv' _ _=>rfl))
   ·
    have h1:vs 1= .int .i64 a:=dN hd 1;go_wp2_with fail;refine (Decimal_one h2).mono ?_;rintro e w2 ⟨rfl,hb⟩;go_wp2_with fail;exact Onward.mk (hK (.string (bs [dg8 a])) _ _ (fun h=>by cases h) (by first|rfl|(simp only [puts,h1])) (Spares.of_below hb) (fun iv' _ _=>rfl))
   ·
    go_wp2_with fail;exact Onward.mk (hK (.int .i64 n) _ _ (fun h=>by cases h) (by first|rfl|(simp only [puts])) (Spares.refl _) (fun iv' _ _=>rfl))
   ·
    have h3:vs 3= .int .i64 n:=dN hd 3;go_wp2_with fail;exact Onward.mk (hK (.int .i64 c) _ _ (fun h=>by cases h) (by first|rfl|(simp only [puts,h3])) (Spares.refl _) (fun iv' _ _=>rfl))
   ·
    have h4:vs 4= .int .i64 c:=dN hd 4;go_wp2_with fail;exact Onward.mk (hK (.int .i64 (48+↑c)) _ _ (fun h=>by cases h) (by first|rfl|(simp only [puts,h4])) (Spares.refl _) (fun iv' _ _=>rfl))
   ·
    have h5:vs 5= .int .i64 (48+↑c):=dN hd 5;go_wp2_with fail;exact Onward.mk (hK (.int .u8 (48+↑c)) _ _ (fun h=>by cases h) (by first|rfl|(simp only [puts,h5])) (Spares.refl _) (fun iv' _ _=>rfl))
   ·
    have h6:vs 6= .int .u8 (48+↑c):=dN hd 6;go_wp2_with fail
    exact Onward.mk (hK (.slice (some ⟨w1.heap.size,0,none⟩) 1 1) _ _ (fun h=>by cases h) (by first|rfl|(simp only [puts,h6])) (Spares.of_below (Below.alloc (Below.refl _ _) (Nat.le_refl _) _)) (fun iv' _ hi=>by
     show Value.slice (some ⟨w1.heap.size,0,none⟩) 1 1= .slice (some ⟨(iv' 7).1,0,none⟩) 1 1∧(iv' 7).2=(iv' 7).1+1∧Blk _ (iv' 7).1 5 [.int .u8 (48+↑c)]
     rw [hi]
     exact ⟨rfl,by simp,Blk.new1 _ _ _⟩))
   ·
    obtain ⟨h7,q7,f7⟩:=dN hd 7;obtain ⟨h7,q7,f7⟩:=dN hd 7;have hrun:=digit_back h3 f7;go_wp2_with fail;exact Onward.mk (hK (.string (bs [dg8 c])) _ _ (fun h=>by cases h) (by simp only [Act.put,List.setIfInBounds_toArray,List.set_cons_succ,List.set_cons_zero,h7]) (Spares.of_below (Below.refl _ _)) (fun iv' _ _=>rfl))
   ·
    have h2:vs 2= .string (bs [dg8 a]):=dN hd 2;have h8:vs 8= .string (bs [dg8 c]):=dN hd 8;go_wp2_with fail;exact Onward.mk (hK (.string (bs [dg8 a]++bs [dg8 c])) _ _ (fun h=>by cases h) (by first|rfl|(simp only [puts,h2,h8])) (Spares.refl _) (fun iv' _ _=>rfl))
   ·
    have h9:vs 9= .string (bs [dg8 a]++bs [dg8 c]):=dN hd 9;go_wp2_with fail;exact Onward.mk (hK (.string (bs [dg8 a]++bs [dg8 c])) _ _ (fun h=>by cases h) (by first|rfl|(simp only [puts,h9])) (Spares.refl _) (fun iv' _ _=>rfl))
  case hQ=>
   intro iv vs wx hB hSp hd he hbd hsep;have hzB:=hB.size;have h0:vs 0= .int .i64 n:=dE hd 0;have h1:vs 1= .int .i64 a:=dE hd 1;have h2:vs 2= .string (bs [dg8 a]):=dE hd 2;have h3:vs 3= .int .i64 n:=dE hd 3;have h4:vs 4= .int .i64 c:=dE hd 4;have h5:vs 5= .int .i64 (48+↑c):=dE hd 5;have h6:vs 6= .int .u8 (48+↑c):=dE hd 6;obtain ⟨h7,q7,f7⟩:=dE hd 7;have h8:vs 8= .string (bs [dg8 c]):=dE hd 8;have h9:vs 9= .string (bs [dg8 a]++bs [dg8 c]):=dE hd 9;have h10:vs 10= .string (bs [dg8 a]++bs [dg8 c]):=dE hd 10;simp only [putFrom,puts];simp only [h10,Hr.out];clear hd he hbd hsep h0 h1 h2 h3 h4 h5 h6 h7 h8 h9 h10 Hr;go_wp2_with fail;go_ret;exact ⟨rfl,hB⟩
theorem decimal_i {n:Nat} {w:World} (hn:n<100):Calls Tryd.prog 52 #[.int .i64 n] w fun e w'=>e= .returned (.string (bs (Lib.decDigits n)))∧w=w':=by
 go_enter Tryd.func52,Tryd.ntmps52
 go_wp2_with fail;refine (Tryd.strconv_FormatInt_10_small n hn _).mono ?_;rintro e w1 ⟨rfl,rfl⟩;go_wp2_with fail;go_ret;exact ⟨rfl,rfl⟩
end Go.Proofs.YtfopdcdbelaapaaDoor
