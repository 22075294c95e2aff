/-
  Parts of a proof, joined: Map, StP, Nest, Aut3, Valid, LiveP, Run, PrP. No condition.
-/
import Derived.Maps.OwnOps
import Derived.DeepKeys4
import Derived.Test.YtfopdcdbelaapaaGreatDoorPk12
namespace Go.Proofs.YtfopdcdbelaapaaGreatDoor
set_option linter.unusedVariables false
set_option linter.unusedSimpArgs false
open Go.ChangeShapes Go.WideShapes Go.ChangeAt Go.RowKit Go.Deep Go.ChangeMaps Go.MapKept
open Go.Maps (Keyed)
section
variable {κ ν:Type} [DecidableEq κ]
def findM:List (κ × ν)→κ→Option ν
 |[],_=>none
 |p::r,k=>if p.1=k then some p.2 else findM r k
def putM:List (κ × ν)→κ→ν→List (κ × ν)
 |[],k,v=>[(k,v)]
 |p::r,k,v=>if p.1=k then (k,v)::r else p::putM r k v
theorem findM_putM (k:κ) (v:ν) (k':κ):∀L:List (κ × ν),findM (putM L k v) k'=if k=k' then some v else findM L k'
 |[]=>by simp [putM,findM]
 |p::r=>by
  have ih:=findM_putM k v k' r;unfold putM
  split
  ·
   rename_i h
   simp only [findM]
   by_cases hk:k=k'
   ·
    simp [hk]
   ·
    rw [if_neg hk,if_neg hk,if_neg (by rw [h]; exact hk)]
  ·
   rename_i h
   simp only [findM,ih]
   by_cases hk:k=k'
   ·
    subst hk
    simp [h]
   ·
    simp [hk]
theorem findM_none {k:κ}:∀{L:List (κ × ν)},findM L k=none↔∀p∈L,p.1≠k
 |[]=>by simp [findM]
 |p::r=>by
  simp only [findM,List.mem_cons]
  by_cases h:p.1=k
  ·
   simp [h]
  ·
   rw [if_neg h,findM_none]
   constructor
   ·
    rintro h1 q (rfl|hq)
    ·
     exact h
    ·
     exact h1 q hq
   ·
    exact fun h1 q hq=>h1 q (Or.inr hq)
theorem findM_at {k:κ} {v:ν}:∀{L:List (κ × ν)} {j:Nat},(L.map (·.1)).Nodup→L[j]? =some (k,v)→findM L k=some v
 |[],_,_,h=>by simp at h
 |p::r,0,_,h=>by
  simp at h;subst h
  simp [findM]
 |p::r,j+1,hn,h=>by
  simp only [List.map_cons,List.nodup_cons] at hn
  have hr:r[j]? =some (k,v):=by simpa using h
  have hne:p.1≠k:=fun e=>hn.1 (by rw [e]; exact List.mem_map.2 ⟨(k,v),List.mem_of_getElem? hr,rfl⟩);simp only [findM];rw [if_neg hne];exact findM_at hn.2 hr
theorem findM_mem {k:κ} {v:ν}:∀{L:List (κ × ν)},findM L k=some v→(k,v)∈L
 |[],h=>by simp [findM] at h
 |p::r,h=>by
  simp only [findM] at h
  split at h
  ·
   rename_i hk
   simp only [Option.some.injEq] at h;subst h;exact List.mem_cons.2 (Or.inl (by rw [←hk]))
  ·
   exact List.mem_cons_of_mem _ (findM_mem h)
theorem putM_new {k:κ} {v:ν}:∀{L:List (κ × ν)},findM L k=none→putM L k v=L++[(k,v)]
 |[],_=>rfl
 |p::r,h=>by
  simp only [findM] at h
  split at h
  ·
   cases h
  ·
   rename_i hk
   unfold putM;rw [if_neg hk,putM_new h]
   rfl
theorem putM_set {k:κ} {v:ν}:∀{L:List (κ × ν)} {j:Nat} {u:ν},(L.map (·.1)).Nodup→L[j]? =some (k,u)→putM L k v=L.set j (k,v)
 |[],_,_,_,h=>by simp at h
 |p::r,0,_,_,h=>by
  simp at h;subst h
  simp [putM]
 |p::r,j+1,u,hn,h=>by
  simp only [List.map_cons,List.nodup_cons] at hn
  have hr:r[j]? =some (k,u):=by simpa using h
  have hne:p.1≠k:=fun e=>hn.1 (by rw [e]; exact List.mem_map.2 ⟨(k,u),List.mem_of_getElem? hr,rfl⟩);unfold putM;rw [if_neg hne,putM_set hn.2 hr]
  rfl
theorem putM_nodup {k:κ} {v:ν} {L:List (κ × ν)} (hn:(L.map (·.1)).Nodup):((putM L k v).map (·.1)).Nodup:=by
 cases h:findM L k with
 |none=>
  rw [putM_new h,List.map_append,List.nodup_append];refine ⟨hn,by simp, ?_⟩;intro a ha b hb hab;simp only [List.map_cons,List.map_nil,List.mem_singleton] at hb;obtain ⟨p,hp,rfl⟩:=List.mem_map.1 ha;exact findM_none.1 h p hp (by rw [hab,hb])
 |some u=>
  obtain ⟨j,hj⟩:=List.mem_iff_getElem?.1 (findM_mem h);rw [putM_set hn hj]
  have:(L.set j (k,v)).map (·.1)=L.map (·.1):=by
   rw [List.map_set]
   apply List.ext_getElem?
   intro i
   by_cases hij:j=i
   ·
    subst hij;obtain ⟨h1,h2⟩:=List.getElem?_eq_some_iff.1 hj;rw [List.getElem?_set_self (by simpa using h1),List.getElem?_map,hj]
    rfl
   ·
    rw [List.getElem?_set_ne hij]
  rw [this];exact hn
theorem putM_keys {k:κ} {v:ν} {L:List (κ × ν)} {q:κ} (h:q∈(putM L k v).map (·.1)):q=k∨q∈L.map (·.1):=by
 induction L with
 |nil=>simp [putM] at h; exact Or.inl h
 |cons p r ih=>
  unfold putM at h
  split at h
  ·
   simp only [List.map_cons,List.mem_cons] at h ⊢
   rcases h with h|h
   ·
    exact Or.inl h
   ·
    exact Or.inr (Or.inr h)
  ·
   simp only [List.map_cons,List.mem_cons] at h ⊢
   rcases h with h|h
   ·
    exact Or.inr (Or.inl h)
   ·
    rcases ih h with h|h
    ·
     exact Or.inl h
    ·
     exact Or.inr (Or.inr h)
def MapAt (P:Program) (kt:TypeId) (kf:κ→Value) (vf:ν→Value) (w:World) (b:Nat) (L:List (κ × ν)):Prop:=
 ∃es clock,w.heap[b]? =some (.map es clock)∧es.toList.map (fun e=>(e.key,e.val))=L.map (fun p=>(kf p.1,vf p.2))∧(L.map (·.1)).Nodup∧∀p∈L,∃l,keyOf P kt (kf p.1)=some l
variable {P:Program} {kt:TypeId} {kf:κ→Value} {vf:ν→Value} {w:World} {b:Nat} {L:List (κ × ν)}
omit [DecidableEq κ] in
theorem MapAt.made (w:World):MapAt P kt kf vf (w.alloc (.map #[] 0)) w.heap.size ([]:List (κ × ν)):=⟨#[],0,(MapKept.heap_alloc w _).1,by simp,by simp,by simp⟩
omit [DecidableEq κ] in
theorem MapAt.lt (h:MapAt P kt kf vf w b L):b<w.heap.size:=by
 obtain ⟨es,clock,hb,_⟩:=h;exact (Array.getElem?_eq_some_iff.1 hb).1
omit [DecidableEq κ] in
theorem MapAt.keep {w':World} (h:MapAt P kt kf vf w b L) (hk:w'.heap[b]? =w.heap[b]?):MapAt P kt kf vf w' b L:=by
 obtain ⟨es,clock,hb,h2⟩:=h;exact ⟨es,clock,hk.trans hb,h2⟩
omit [DecidableEq κ] in
theorem MapAt.below {w':World} (h:MapAt P kt kf vf w b L) (hb:Below w.heap.size w w'):MapAt P kt kf vf w' b L:=h.keep (hb.block _ h.lt)
omit [DecidableEq κ] in
theorem MapAt.nodup (h:MapAt P kt kf vf w b L):(L.map (·.1)).Nodup:=by
 obtain ⟨_,_,_,_,h,_⟩:=h;exact h
theorem MapAt.find (h:MapAt P kt kf vf w b L) (K:Keyed P kt) (hinj:∀x y,kf x=kf y→x=y) {k:κ} (hk:∃l,keyOf P kt (kf k)=some l):∃es clock,w.heap[b]? =some (.map es clock)∧es.toList.map (fun e=>(e.key,e.val))=L.map (fun p=>(kf p.1,vf p.2))∧
  (((Instr.findKey kt (kf k) es.toList).run P w= .ok none w∧findM L k=none)∨∃j e v,(Instr.findKey kt (kf k) es.toList).run P w= .ok (some (j,e.val)) w∧es.toList[j]? =some e∧e.key=kf k∧e.val=vf v∧L[j]? =some (k,v)∧findM L k=some v):=by
 obtain ⟨es,clock,hb,he,hn,hl⟩:=h;obtain ⟨l,hkl⟩:=hk;refine ⟨es,clock,hb,he, ?_⟩
 have pair:∀(j:Nat) (e:MapEntry),es.toList[j]? =some e→∃p,L[j]? =some p∧e.key=kf p.1∧e.val=vf p.2:=by
  intro j e h1
  have h2:(es.toList.map (fun e=>(e.key,e.val)))[j]? =some (e.key,e.val):=by rw [List.getElem?_map,h1]; rfl
  rw [he,List.getElem?_map,Option.map_eq_some_iff] at h2;obtain ⟨p,h3,h4⟩:=h2;simp only [Prod.mk.injEq] at h4;exact ⟨p,h3,h4.1.symm,h4.2.symm⟩
 have pair':∀p∈L,∃e∈es.toList,e.key=kf p.1:=by
  intro p hp;have h2:(kf p.1,vf p.2)∈L.map (fun p=>(kf p.1,vf p.2)):=List.mem_map.2 ⟨p,hp,rfl⟩;rw [←he] at h2;obtain ⟨e,h3,h4⟩:=List.mem_map.1 h2;simp only [Prod.mk.injEq] at h4;exact ⟨e,h3,h4.1⟩
 rcases K.find w hkl es.toList (fun e he'=>by
  obtain ⟨j,hj⟩:=List.mem_iff_getElem?.1 he';obtain ⟨p,h1,h2,_⟩:=pair j e hj;rw [h2]
  exact hl p (List.mem_of_getElem? h1)) with ⟨h1,h2⟩|⟨j,e,h1,h2,h3⟩
 ·
  refine Or.inl ⟨h1,findM_none.2 fun p hp hpk=> ?_⟩;obtain ⟨e,h3,h4⟩:=pair' p hp;exact h2 e h3 (by rw [h4,hpk])
 ·
  obtain ⟨p,h4,h5,h6⟩:=pair j e h2;have hpk:p.1=k:=hinj _ _ (h5.symm.trans h3)
  have h7:L[j]? =some (k,p.2):=by rw [h4,←hpk]
  exact Or.inr ⟨j,e,p.2,h1,h2,h3,h6,h7,findM_at hn h7⟩
def lookV (c:Bool) (z:Value) (vf:ν→Value):Option ν→Value
 |none=>if c then .tuple #[z, .bool false] else z
 |some v=>if c then .tuple #[vf v, .bool true] else vf v
theorem MapAt.lookup (h:MapAt P kt kf vf w b L) (c:Bool) (K:Keyed P kt) (hinj:∀x y,kf x=kf y→x=y) {t e:TypeId} (ht:P.underlying t=some (.map kt e)) {z:Value} (hz:(zeroValue e).run P w= .ok z w) {k:κ} (hk:∃l,keyOf P kt (kf k)=some l):
  (Instr.lookup t (.map (some b)) (kf k) c).run P w= .ok (lookV c z vf (findM L k)) w:=by
 obtain ⟨l,hkl⟩:=hk;obtain ⟨es,clock,hb,he,h|⟨j,e,v,h1,h2,h3,h4,_,h5⟩⟩:=h.find K hinj ⟨l,hkl⟩
 ·
  rw [h.2]
  simp [lookV,Instr.lookup,run_underlying ht,MapKept.run_getObj_map hb,K.check w _ hkl,h.1,hz,Result.andThen]
 ·
  rw [h5]
  simp [lookV,Instr.lookup,run_underlying ht,MapKept.run_getObj_map hb,K.check w _ hkl,h1,h4,Result.andThen]
theorem MapAt.update (h:MapAt P kt kf vf w b L) (K:Keyed P kt) (hinj:∀x y,kf x=kf y→x=y) {t e:TypeId} (ht:P.underlying t=some (.map kt e)) {k:κ} (hk:∃l,keyOf P kt (kf k)=some l) (v:ν):
  ∃w',(Instr.mapUpdate t (.map (some b)) (kf k) (vf v)).run P w= .ok () w'∧MapAt P kt kf vf w' b (putM L k v)∧Only [b] w w':=by
 obtain ⟨l,hkl⟩:=hk;have hn:=h.nodup
 have hl:∀p∈L,∃l,keyOf P kt (kf p.1)=some l:=by obtain ⟨_,_,_,_,_,h⟩:=h; exact h
 have hl':∀p∈putM L k v,∃l,keyOf P kt (kf p.1)=some l:=by
  intro p hp
  rcases putM_keys (List.mem_map.2 ⟨p,hp,rfl⟩) with h|h
  ·
   rw [h]; exact ⟨l,hkl⟩
  ·
   obtain ⟨q,hq,he⟩:=List.mem_map.1 h;rw [←he];exact hl q hq
 obtain ⟨es,clock,hb,he,h|⟨j,e,u,h1,h2,h3,h4,h6,h5⟩⟩:=h.find K hinj ⟨l,hkl⟩
 ·
  refine ⟨setBlock w b (.map (es.push ⟨kf k,vf v,clock⟩) (clock+1)), ?_,⟨_,_,heap_setBlock_same hb _, ?_,putM_nodup hn,hl'⟩,⟨rfl,rfl,rfl,by simp [setBlock],fun i _ hi=>heap_setBlock_other hb _ (by simpa using hi)⟩⟩
  ·
   simp [Instr.mapUpdate,run_underlying ht,MapKept.run_getObj_map hb,K.check w false hkl,h.1,MapKept.run_setObj_map _ hb,Result.andThen,setBlock]
  ·
   rw [putM_new h.2,Array.toList_push,List.map_append,List.map_append,he]
   rfl
 ·
  have hj:es[j]? =some e:=by rw [←Array.getElem?_toList]; exact h2
  refine ⟨setBlock w b (.map (es.modify j fun e=>{ e with key:=kf k,val:=vf v }) clock), ?_,⟨_,_,heap_setBlock_same hb _, ?_,putM_nodup hn,hl'⟩,⟨rfl,rfl,rfl,by simp [setBlock],fun i _ hi=>heap_setBlock_other hb _ (by simpa using hi)⟩⟩
  ·
   simp [Instr.mapUpdate,run_underlying ht,MapKept.run_getObj_map hb,K.check w false hkl,h1,MapKept.run_setObj_map _ hb,Result.andThen,setBlock,hj,h3,K.stays w hkl]
  ·
   rw [putM_set hn h6,List.map_set,←he,Array.toList_modify]
   apply List.ext_getElem?
   intro i;rw [List.getElem?_map,List.getElem?_modify]
   by_cases hij:j=i
   ·
    subst hij;rw [List.getElem?_set_self (by have:=(List.getElem?_eq_some_iff.1 h2).1; simpa using this)]
    simp [hj]
   ·
    rw [List.getElem?_set_ne hij,List.getElem?_map]
    simp [hij]
theorem wpList_lookup_at (w:World) {ops:Array Oper} {rest:List Oper} {o:Oper} {a:Act} {Q:Exit→Act→World→Prop} (hg:o.guard=none) (m x:Operand) (t:TypeId) (c:Bool) (hop:o.op=Op.lookup t m x c)
  (kt e:TypeId) (K:Keyed P kt) (ht:P.underlying t=some (.map kt e)) (z:Value) (hz:(zeroValue e).run P w= .ok z w) {kf:κ→Value} (hinj:∀x y,kf x=kf y→x=y) {vf:ν→Value} {L:List (κ × ν)} (b:Nat)
  (hM:MapAt P kt kf vf w b L) (k:κ) (hk:∃l,keyOf P kt (kf k)=some l) (hm:a.eval m= .map (some b)) (hx:a.eval x=kf k) (r:Option ν) (hr:findM L k=r)
  (hK:wpList P ops Q rest (a.put o.dst (lookV c z vf r)) w):wpList P ops Q (o::rest) a w:=by
 subst hr;refine wpList_plain hg fun K' hK'=> ?_;have hrun:=hM.lookup c K hinj ht hz hk;unfold Oper.wp
 simp [execOp,hop,hm,hx,hrun,Result.andThen]
 exact hK' _ _ hK
theorem wpList_mapUpdate_at (w:World) {ops:Array Oper} {rest:List Oper} {o:Oper} {a:Act} {Q:Exit→Act→World→Prop} (hg:o.guard=none) (m x y:Operand) (t:TypeId) (hop:o.op=Op.mapUpdate t m x y)
  (kt e:TypeId) (K:Keyed P kt) (ht:P.underlying t=some (.map kt e)) {kf:κ→Value} (hinj:∀x y,kf x=kf y→x=y) {vf:ν→Value} {L:List (κ × ν)} (b:Nat)
  (hM:MapAt P kt kf vf w b L) (k:κ) (hk:∃l,keyOf P kt (kf k)=some l) (v:ν) (hm:a.eval m= .map (some b)) (hx:a.eval x=kf k) (hy:a.eval y=vf v)
  (hK:∀w',MapAt P kt kf vf w' b (putM L k v)→Only [b] w w'→wpList P ops Q rest (a.put o.dst undef) w'):wpList P ops Q (o::rest) a w:=by
 refine wpList_plain hg fun K' hK'=> ?_;obtain ⟨w',hrun,r1,r2⟩:=hM.update K hinj ht hk v;unfold Oper.wp
 simp [execOp,hop,hm,hx,hy,hrun,Result.andThen]
 exact hK' _ _ (hK w' r1 r2)
end
end Go.Proofs.YtfopdcdbelaapaaGreatDoor
namespace Go.Proofs.YtfopdcdbelaapaaGreatDoor
set_option linter.unusedVariables false
set_option linter.unusedSimpArgs false
def grid {β:Type} (f:Nat→Nat→β) (A a:Nat):List β:=((List.range A).map fun m=>(List.range a).map (f m)).flatten
theorem grid_succ {β:Type} (f:Nat→Nat→β) (A a:Nat):grid f (A+1) a=grid f A a++(List.range a).map (f A):=by
 unfold grid;rw [List.range_succ,List.map_append,List.flatten_append]
 simp
theorem grid_len {β:Type} (f:Nat→Nat→β) (a:Nat):∀A,(grid f A a).length=A*a
 |0=>by simp [grid]
 |A+1=>by rw [grid_succ,List.length_append,grid_len f a A,Nat.succ_mul]; simp
theorem grid_at {β:Type} (f:Nat→Nat→β) {a m k:Nat} (hk:k<a):∀{A:Nat},m<A→(grid f A a)[m*a+k]? =some (f m k)
 |0,h=>absurd h (Nat.not_lt_zero _)
 |A+1,h=>by
  rw [grid_succ]
  by_cases hm:m<A
  ·
   rw [List.getElem?_append_left]
   ·
    exact grid_at f hk hm
   ·
    rw [grid_len];have h1:(m+1)*a≤A*a:=Nat.mul_le_mul_right a hm;rw [Nat.succ_mul] at h1;omega
  ·
   obtain rfl:m=A:=by omega
   rw [List.getElem?_append_right (by rw [grid_len]; omega),grid_len,show m*a+k - m*a=k by omega,List.getElem?_map,List.getElem?_range hk]
   rfl
theorem grid_mem {β:Type} {f:Nat→Nat→β} {A a:Nat} {x:β} (h:x∈grid f A a):∃m k,m<A∧k<a∧f m k=x:=by
 unfold grid at h;obtain ⟨r,hr,hx⟩:=List.mem_flatten.1 h;obtain ⟨m,hm,rfl⟩:=List.mem_map.1 hr;obtain ⟨k,hk,rfl⟩:=List.mem_map.1 hx;exact ⟨m,k,List.mem_range.1 hm,List.mem_range.1 hk,rfl⟩
section
variable {α:Type} [DecidableEq α]
def curG (s:α) (f:Nat→Nat→α→Option α) (A a i:Nat) (x:α) (m k:Nat):List α:=upto (expl s (fun y=>grid (fun m k=>f m k y) A a) i) (grid (fun m k=>f m k x) A a) (m*a+k)
variable {s:α} {f:Nat→Nat→α→Option α} {A a i:Nat} {x:α}
theorem curG_zero:curG s f A a i x 0 0=expl s (fun y=>grid (fun m k=>f m k y) A a) i:=by
 unfold curG;rw [Nat.zero_mul,upto_zero]
theorem curG_line {m:Nat}:curG s f A a i x m a=curG s f A a i x (m+1) 0:=by
 unfold curG;rw [Nat.succ_mul,Nat.add_zero]
theorem curG_cell {m k:Nat} (hm:m<A) (hk:k<a):curG s f A a i x m (k+1)=grow1 (curG s f A a i x m k) (f m k x):=by
 unfold curG;rw [←Nat.add_assoc];exact upto_succ (grid_at (fun m k=>f m k x) hk hm)
theorem curG_all (h:(expl s (fun y=>grid (fun m k=>f m k y) A a) i)[i]? =some x):curG s f A a i x A 0=expl s (fun y=>grid (fun m k=>f m k y) A a) (i+1):=by
 unfold curG;rw [upto_all (by rw [grid_len]; omega),expl_succ h]
theorem curG_prefix {m k:Nat} (h:(expl s (fun y=>grid (fun m k=>f m k y) A a) i)[i]? =some x):curG s f A a i x m k <+: expl s (fun y=>grid (fun m k=>f m k y) A a) (i+1):=by
 rw [expl_succ h,←upto_all (L:=expl s (fun y=>grid (fun m k=>f m k y) A a) i) (ss:=grid (fun m k=>f m k x) A a) (Nat.le_refl _)];unfold curG
 by_cases hl:m*a+k≤(grid (fun m k=>f m k x) A a).length
 ·
  exact upto_le hl
 ·
  rw [upto_all (by omega),upto_all (Nat.le_refl _)];exact List.prefix_refl _
theorem curG_nodup {m k:Nat}:(curG s f A a i x m k).Nodup:=upto_nodup (expl_nodup _ _ _) _ _
theorem curG_old {m k:Nat}:expl s (fun y=>grid (fun m k=>f m k y) A a) i <+: curG s f A a i x m k:=upto_prefix _ _ _
theorem growL_all {P:α→Prop}:∀(ss:List (Option α)) (L:List α),(∀y∈L,P y)→(∀y,some y∈ss→P y)→∀y∈growL L ss,P y
 |[],_,h,_=>h
 |o::r,L,h,hs=>by
  refine growL_all r (grow1 L o) (fun y hy=> ?_) (fun y hy=>hs y (List.mem_cons_of_mem _ hy))
  cases o with
  |none=>exact h y hy
  |some z=>
   by_cases hz:z∈L
   ·
    rw [grow1_old hz] at hy; exact h y hy
   ·
    rw [grow1_new hz] at hy
    rcases List.mem_append.1 hy with hy|hy
    ·
     exact h y hy
    ·
     rw [List.mem_singleton] at hy;subst hy;exact hs y (List.mem_cons_self ..)
theorem expl_all {P:α→Prop} (hs:P s) (hf:∀y,P y→∀m k,m<A→k<a→∀z,f m k y=some z→P z):∀i,∀y∈expl s (fun y=>grid (fun m k=>f m k y) A a) i,P y
 |0=>fun y hy=>by simp [expl] at hy; subst hy; exact hs
 |i+1=>fun y hy=>by
  have ih:=expl_all hs hf i
  cases hx:(expl s (fun y=>grid (fun m k=>f m k y) A a) i)[i]? with
  |none=>simp only [expl,hx] at hy; exact ih y hy
  |some x=>
   rw [expl_succ hx] at hy;refine growL_all _ _ ih (fun z hz=> ?_) y hy;obtain ⟨m,k,hm,hk,h⟩:=grid_mem hz;exact hf x (ih x (List.mem_of_getElem? hx)) m k hm hk z h
end
noncomputable def nxtE (m x:Nat) (e:Ex):Option Ex:=(e.step m x).bind fun d=>if d.kind=1 then none else some d
noncomputable def stL (A a:Nat) (e:Ex) (i:Nat):List Ex:=expl e.tidy (fun y=>grid (fun m k=>nxtE m k y) A a) i
noncomputable def stC (A a:Nat) (e:Ex) (i:Nat) (x:Ex) (m k:Nat):List Ex:=curG e.tidy nxtE A a i x m k
def stOk (A a:Nat) (e:Ex):Prop:=(stL A a e 60).length≤60∧∀y∈stL A a e 60,∀m k,m<A→k<a→y.step m k≠none
noncomputable def rowE (L:List Ex) (a m:Nat) (x:Ex):List Int:=(List.range a).map fun k=>numO L (nxtE m k x)
noncomputable def rowsE (L:List Ex) (A a:Nat) (x:Ex):List (List Int):=(List.range A).map fun m=>rowE L a m x
noncomputable def stN (A a:Nat) (e:Ex):List (List (List Int)):=(stL A a e 60).map (rowsE (stL A a e 60) A a)
theorem stL_spec {tm am:Int} {A a:Nat} {e:Ex} (ht:e.tree tm am=true) (hs:e.size≤200) (i:Nat):∀y∈stL A a e i,y.tree tm am=true∧y.size≤800:=by
 refine expl_all ?_ ?_ i
 ·
  have:=tidy_spec tm am _ e (Nat.le_refl _) ht;exact ⟨this.1,by omega⟩
 ·
  intro y hy m k _ _ z hz;unfold nxtE at hz;obtain ⟨d,hd,h⟩:=Option.bind_eq_some_iff.1 hz
  split at h
  ·
   cases h
  ·
   obtain rfl:=Option.some.inj h;exact step_spec tm am m k _ y d (Nat.le_refl _) hy.1 hd
theorem stL_prefix {A a:Nat} {e:Ex} {i:Nat} (h:i≤60):stL A a e i <+: stL A a e 60:=expl_prefix _ _ h
theorem stL_pos (A a:Nat) (e:Ex) (i:Nat):1≤(stL A a e i).length:=expl_pos _ _ _
theorem stC_zero {A a:Nat} {e:Ex} {i:Nat} {x:Ex}:stC A a e i x 0 0=stL A a e i:=curG_zero
theorem stC_line {A a:Nat} {e:Ex} {i:Nat} {x:Ex} {m:Nat}:stC A a e i x m a=stC A a e i x (m+1) 0:=curG_line
theorem stC_cell {A a:Nat} {e:Ex} {i:Nat} {x:Ex} {m k:Nat} (hm:m<A) (hk:k<a):stC A a e i x m (k+1)=grow1 (stC A a e i x m k) (nxtE m k x):=curG_cell hm hk
theorem stC_all {A a:Nat} {e:Ex} {i:Nat} {x:Ex} (h:(stL A a e i)[i]? =some x):stC A a e i x A 0=stL A a e (i+1):=curG_all h
theorem stC_prefix {A a:Nat} {e:Ex} {i:Nat} {x:Ex} {m k:Nat} (h:(stL A a e i)[i]? =some x) (hi:i<60):stC A a e i x m k <+: stL A a e 60:=(curG_prefix h).trans (stL_prefix (by omega))
theorem stC_old {A a:Nat} {e:Ex} {i:Nat} {x:Ex} {m k:Nat}:stL A a e i <+: stC A a e i x m k:=curG_old
theorem stC_nodup {A a:Nat} {e:Ex} {i:Nat} {x:Ex} {m k:Nat}:(stC A a e i x m k).Nodup:=curG_nodup
theorem stC_spec {tm am:Int} {A a:Nat} {e:Ex} (ht:e.tree tm am=true) (hs:e.size≤200) {i:Nat} {x:Ex} {m k:Nat} (h:(stL A a e i)[i]? =some x) (hi:i<60):∀y∈stC A a e i x m k,y.tree tm am=true∧y.size≤800:=
 fun y hy=>stL_spec ht hs 60 y ((stC_prefix h hi).subset hy)
theorem stL_at {A a:Nat} {e:Ex} {i:Nat} {x:Ex} {m k:Nat} (h:(stL A a e i)[i]? =some x):(stC A a e i x m k)[i]? =some x:=prefix_get stC_old h
theorem stOk_bad {A a:Nat} {e:Ex} {i:Nat} {x:Ex} {m k:Nat} (h:(stL A a e i)[i]? =some x) (hi:i<60) (hm:m<A) (hk:k<a) (hn:x.step m k=none):¬stOk A a e:=
 fun hok=>hok.2 x ((stL_prefix (by omega)).subset (List.mem_of_getElem? h)) m k hm hk hn
theorem stOk_many {A a:Nat} {e:Ex} {i:Nat} {x:Ex} {m k:Nat} (h:(stL A a e i)[i]? =some x) (hi:i<60) (hl:60<(stC A a e i x m k).length):¬stOk A a e:=
 fun hok=>by have:=prefix_length (stC_prefix (m:=m) (k:=k) h hi); have:=hok.1; omega
theorem stOk_many' {A a:Nat} {e:Ex} {i:Nat} (hi:i≤60) (hl:60<(stL A a e i).length):¬stOk A a e:=
 fun hok=>by have:=prefix_length (stL_prefix (A:=A) (a:=a) (e:=e) hi); have:=hok.1; omega
theorem stL_done {A a:Nat} {e:Ex} {i:Nat} (hd:(stL A a e i).length≤i) (hi:i≤60):stL A a e 60=stL A a e i:=expl_stop hd 60 hi
theorem stOk_done {A a:Nat} {e:Ex} {i:Nat} (hd:(stL A a e i).length≤i) (hi:i≤60) (hg:∀j x,j<i→(stL A a e j)[j]? =some x→∀m k,m<A→k<a→x.step m k≠none):stOk A a e:=by
 have hf:=stL_done hd hi;refine ⟨by rw [hf]; omega,fun y hy m k hm hk=> ?_⟩;rw [hf] at hy;obtain ⟨j,hj⟩:=List.mem_iff_getElem?.1 hy;have hj':=(List.getElem?_eq_some_iff.1 hj).1
 have hji:j<i:=by omega
 have hpos:j<(stL A a e j).length:=by
  rcases Nat.lt_or_ge j (stL A a e j).length with h|h
  ·
   exact h
  ·
   have h1:=expl_stop (s:=e.tidy) (succ:=fun y=>grid (fun m k=>nxtE m k y) A a) (k:=j) h i (by omega);have h2:stL A a e i=stL A a e j:=h1;rw [h2] at hj';omega
 have hjj:(stL A a e j)[j]? =some y:=by
  have h1:(stL A a e j)[j]? =some (stL A a e j)[j]:=List.getElem?_eq_getElem hpos;have h2:=prefix_get (expl_prefix e.tidy (fun y=>grid (fun m k=>nxtE m k y) A a) (show j≤i by omega)) h1;have h3:(stL A a e i)[j]? =some (stL A a e j)[j]:=h2;rw [hj] at h3;rw [h1,←h3]
 exact hg j y hji hjj m k hm hk
theorem numO_st {A a:Nat} {e:Ex} {i:Nat} {x:Ex} {m k m' k':Nat} (h:(stL A a e i)[i]? =some x) (hi:i<60) (hm:∀d,nxtE m' k' x=some d→d∈stC A a e i x m k):numO (stC A a e i x m k) (nxtE m' k' x)=numO (stL A a e 60) (nxtE m' k' x):=by
 obtain ⟨L,hL⟩:∃L,L=stL A a e 60:=⟨_,rfl⟩;have hp:=stC_prefix (m:=m) (k:=k) h hi;rw [←hL] at hp ⊢
 cases hd:nxtE m' k' x with
 |none=>simp only [numO]
 |some d=>
  simp only [numO];rw [idxOf_prefix hp (hm d hd)]
theorem stC_mem {A a:Nat} {e:Ex} {i:Nat} {x:Ex} {m k:Nat} (hm:m<A) (hk:k<a) {d:Ex} (hd:nxtE m k x=some d):d∈stC A a e i x m (k+1):=by
 rw [stC_cell hm hk,hd];exact grow1_mem
theorem num_at {A a:Nat} {e:Ex} {i:Nat} {x:Ex} {m k:Nat} (h:(stL A a e i)[i]? =some x) (hi:i<60) (hm:m<A) (hk:k<a) {d:Ex} (hd:nxtE m k x=some d):
  ((stC A a e i x m (k+1)).idxOf d:Int)=numO (stL A a e 60) (nxtE m k x):=by
 have:=numO_st (m:=m) (k:=k+1) (m':=m) (k':=k) h hi (fun d' hd'=>stC_mem hm hk hd');rw [←this,hd]
 rfl
theorem rowE_len (L:List Ex) (a m:Nat) (x:Ex):(rowE L a m x).length=a:=by simp [rowE]
theorem rowE_take {L:List Ex} {a m k:Nat} {x:Ex} (hk:k<a):(rowE L a m x).take (k+1)=(rowE L a m x).take k++[numO L (nxtE m k x)]:=by
 have hl:k<(rowE L a m x).length:=by rw [rowE_len]; exact hk
 rw [List.take_succ_eq_append_getElem hl]
 simp [rowE]
theorem rowsE_len (L:List Ex) (A a:Nat) (x:Ex):(rowsE L A a x).length=A:=by simp [rowsE]
theorem rowsE_take {L:List Ex} {A a m:Nat} {x:Ex} (hm:m<A):(rowsE L A a x).take (m+1)=(rowsE L A a x).take m++[rowE L a m x]:=by
 have hl:m<(rowsE L A a x).length:=by rw [rowsE_len]; exact hm
 rw [List.take_succ_eq_append_getElem hl]
 simp [rowsE]
noncomputable def stR (A a:Nat) (e:Ex) (i:Nat):List (List (List Int)):=((stL A a e 60).take i).map (rowsE (stL A a e 60) A a)
theorem stR_succ {A a:Nat} {e:Ex} {i:Nat} {x:Ex} (h:(stL A a e i)[i]? =some x) (hi:i<60):stR A a e (i+1)=stR A a e i++[rowsE (stL A a e 60) A a x]:=by
 have h1:=prefix_get (stL_prefix (A:=A) (a:=a) (e:=e) (show i≤60 by omega)) h;obtain ⟨hl,h2⟩:=List.getElem?_eq_some_iff.1 h1;unfold stR;rw [List.take_succ_eq_append_getElem hl,List.map_append,h2]
 rfl
theorem stR_done {A a:Nat} {e:Ex} {i:Nat} (hd:(stL A a e i).length≤i) (hi:i≤60):stR A a e i=stN A a e:=by
 unfold stR stN;rw [List.take_of_length_le (by rw [stL_done hd hi]; exact hd)]
end Go.Proofs.YtfopdcdbelaapaaGreatDoor
namespace Go.Proofs.YtfopdcdbelaapaaGreatDoor
set_option linter.unusedVariables false
set_option linter.unusedSimpArgs false
open Go.ChangeShapes Go.WideShapes Go.ChangeAt Go.RowKit Go.Deep
def nestD {α:Type} (f:α→D) (xs:List α):D:= .sl 1 xs.length (xs.map f)
def boolsD (bs:List Bool):D:=nestD D.bool bs
def bbD (xs:List (List Bool)):D:=nestD boolsD xs
def iiD (xs:List (List Int)):D:=nestD intsD xs
def iiiD (xs:List (List (List Int))):D:=nestD iiD xs
section
variable {α:Type}
variable {w:World} {f:α→D} {xs:List α}
theorem nest_in {b o len cap:Nat} (h:Rd w (nestD f xs) (.slice (some ⟨b,o,none⟩) len cap)) {i:Nat} {x:α} (hx:xs[i]? =some x):b<w.heap.size∧∃v,w.cell? ⟨b,o+i,none⟩=some v∧Rd w (f x) v:=by
 obtain ⟨_,_,_,_,_,h4⟩:=Rd.sl_at h
 rcases h4 with h4|⟨b',o',e1,h4⟩
 ·
  have:=(List.getElem?_eq_some_iff.1 hx).1;omega
 ·
  simp only [Option.some.injEq,Addr.mk.injEq,and_true] at e1;obtain ⟨rfl,rfl⟩:=e1;obtain ⟨v,h5,h6⟩:=h4 i (f x) (by rw [List.getElem?_map,hx]; rfl);exact ⟨World.block_lt_of_cell? w _ h5,v,h5,h6⟩
theorem nest_some {a:Option Addr} {len cap:Nat} (h:Rd w (nestD f xs) (.slice a len cap)) (hk:0<xs.length):∃b o,a=some ⟨b,o,none⟩:=by
 obtain ⟨_,_,_,_,_,h4⟩:=Rd.sl_at h
 rcases h4 with h4|⟨b,o,e,_⟩
 ·
  omega
 ·
  exact ⟨b,o,e⟩
theorem nest_bd {a:Option Addr} {len cap:Nat} (h:Rd w (nestD f xs) (.slice a len cap)):xs.length≤cap∧cap≤maxLen:=by
 obtain ⟨_,h2,h3,_⟩:=Rd.sl_at h;exact ⟨h2,h3⟩
theorem nest_sl {β:Type} {g:β→D} {ys:List (List β)} {b o len cap:Nat} (h:Rd w (nestD (nestD g) ys) (.slice (some ⟨b,o,none⟩) len cap)) {i:Nat} {x:List β} (hx:ys[i]? =some x):
  b<w.heap.size∧∃s c,w.cell? ⟨b,o+i,none⟩=some (.slice s x.length c)∧Rd w (nestD g x) (.slice s x.length c):=by
 obtain ⟨h1,v,h2,h3⟩:=nest_in h hx;obtain ⟨s,c,rfl,_⟩:=Rd.slice h3;exact ⟨h1,s,c,h2,h3⟩
theorem bool_in {bs:List Bool} {b o len cap:Nat} (h:Rd w (boolsD bs) (.slice (some ⟨b,o,none⟩) len cap)) {i:Nat} {z:Bool} (hz:bs[i]? =some z):b<w.heap.size∧w.cell? ⟨b,o+i,none⟩=some (.bool z):=by
 obtain ⟨h1,v,h2,h3⟩:=nest_in h hz;simp only [Rd] at h3;subst h3;exact ⟨h1,h2⟩
end
end Go.Proofs.YtfopdcdbelaapaaGreatDoor
namespace Go.Proofs.YtfopdcdbelaapaaGreatDoor
set_option linter.unusedVariables false
set_option linter.unusedSimpArgs false
open Go.ChangeShapes Go.WideShapes Go.ChangeAt Go.RowKit Go.Sort
def autD (ac:List (List Bool)) (nx:List (List (List Int))):List D:=[bbD ac,iiiD nx]
def RowOk (a n:Int) (row:List Int):Prop:=(row.length:Int)=a∧∀(l:Nat) (z:Int),row[l]? =some z→ -1≤z∧z≤n - 1
def StOk (t a n:Int) (ar:List Bool) (nr:List (List Int)):Prop:=(ar.length:Int)=atomsN t∧(nr.length:Int)=atomsN t∧∀(j:Nat) (row:List Int),nr[j]? =some row→RowOk a n row
structure AutOk (t a:Int) (ac:List (List Bool)) (nx:List (List (List Int))):Prop where
 sig:sigB t a=true
 lo:1≤ac.length
 hi:ac.length≤60
 len:nx.length=ac.length
 st:∀(i:Nat) (ar:List Bool) (nr:List (List Int)),ac[i]? =some ar→nx[i]? =some nr→StOk t a ac.length ar nr
def AutAt (w:World) (b o:Nat) (t a:Int) (ac:List (List Bool)) (nx:List (List (List Int))) (s u:Option Addr) (c d:Nat):Prop:=
 w.cell? ⟨b,o,none⟩=some (.int .i64 t)∧w.cell? ⟨b,o+1,none⟩=some (.int .i64 a)∧w.cell? ⟨b,o+2,none⟩=some (.slice s ac.length c)∧w.cell? ⟨b,o+3,none⟩=some (.slice u nx.length d)∧
  Rd w (bbD ac) (.slice s ac.length c)∧Rd w (iiiD nx) (.slice u nx.length d)
theorem AutAt.lt {w:World} {b o:Nat} {t a:Int} {ac:List (List Bool)} {nx:List (List (List Int))} {s u:Option Addr} {c d:Nat} (h:AutAt w b o t a ac nx s u c d):b<w.heap.size:=World.block_lt_of_cell? w _ h.1
theorem AutAt.below {w w':World} {b o:Nat} {t a:Int} {ac:List (List Bool)} {nx:List (List (List Int))} {s u:Option Addr} {c d:Nat} (h:AutAt w b o t a ac nx s u c d) (hb:Below w.heap.size w w'):AutAt w' b o t a ac nx s u c d:=by
 have hl:=h.lt;obtain ⟨h0,h1,h2,h3,h4,h5⟩:=h;exact ⟨(hb.cell (p:=⟨b,o,none⟩) hl).trans h0,(hb.cell (p:=⟨b,o+1,none⟩) hl).trans h1,(hb.cell (p:=⟨b,o+2,none⟩) hl).trans h2,(hb.cell (p:=⟨b,o+3,none⟩) hl).trans h3,h4.below hb,h5.below hb⟩
end Go.Proofs.YtfopdcdbelaapaaGreatDoor
namespace Go.Proofs.YtfopdcdbelaapaaGreatDoor
set_option linter.unusedVariables false
set_option linter.unusedSimpArgs false
open Go.ChangeShapes Go.WideShapes Go.ChangeAt Go.RowKit Go.Deep
def hitR (P:Nat→Bool) (row:List Int):Bool:=row.any fun z=>decide (0≤z)&&P z.toNat
def accW (ac:List (List Bool)) (nx:List (List (List Int))):Nat→Nat→Bool
 |0=>fun s=>(ac.getD s []).any id
 |n+1=>fun s=>(nx.getD s []).any (hitR (accW ac nx n))
def farV (ac:List (List Bool)) (nx:List (List (List Int))):Nat→Nat→Int
 |0=>fun s=>if accW ac nx 0 s then 0 else -1
 |n+1=>fun s=>if 0≤farV ac nx n s then farV ac nx n s else if accW ac nx (n+1) s then ((n+1:Nat):Int) else -1
section
variable {ac:List (List Bool)} {nx:List (List (List Int))}
theorem farV_bd:∀n s, -1≤farV ac nx n s∧farV ac nx n s≤n
 |0,s=>by simp only [farV]; split<;>omega
 |n+1,s=>by
  have:=farV_bd n s;simp only [farV]
  split
  ·
   omega
  ·
   split<;>omega
theorem farV_spec:∀n s,(0≤farV ac nx n s→∃m:Nat,m≤n∧farV ac nx n s=(m:Int)∧accW ac nx m s=true∧∀k,k<m→accW ac nx k s=false)∧(farV ac nx n s<0→∀m,m≤n→accW ac nx m s=false)
 |0,s=>by
  simp only [farV]
  by_cases h:accW ac nx 0 s=true
  ·
   rw [if_pos h];exact ⟨fun _=>⟨0,Nat.le_refl _,rfl,h,fun k hk=>by omega⟩,fun hn=>by omega⟩
  ·
   rw [if_neg h];refine ⟨fun hn=>by omega,fun _ m hm=> ?_⟩
   obtain rfl:m=0:=by omega
   simpa using h
 |n+1,s=>by
  obtain ⟨h1,h2⟩:=farV_spec n s;simp only [farV]
  by_cases h:0≤farV ac nx n s
  ·
   rw [if_pos h];refine ⟨fun _=> ?_,fun hn=>by omega⟩;obtain ⟨m,hm,e,h3,h4⟩:=h1 h;exact ⟨m,by omega,e,h3,h4⟩
  ·
   rw [if_neg h];have h3:=h2 (by omega)
   by_cases h4:accW ac nx (n+1) s=true
   ·
    rw [if_pos h4];exact ⟨fun _=>⟨n+1,Nat.le_refl _,rfl,h4,fun k hk=>h3 k (by omega)⟩,fun hn=>by omega⟩
   ·
    rw [if_neg h4];refine ⟨fun hn=>by omega,fun _ m hm=> ?_⟩
    by_cases he:m=n+1
    ·
     rw [he]; simpa using h4
    ·
     exact h3 m (by omega)
theorem pigeon:∀(n:Nat) (L:List Nat),L.Nodup→(∀x∈L,x<n)→L.length≤n
 |0,L,_,h=>by
  cases L with
  |nil=>simp
  |cons x r=>have:=h x (List.mem_cons_self ..); omega
 |n+1,L,hd,h=>by
  have h1:=pigeon n (L.erase n) (hd.erase n) fun x hx=>by
   have h2:=h x (List.mem_of_mem_erase hx);have h3:=(List.Nodup.mem_erase_iff hd).1 hx;omega
  rw [List.length_erase] at h1
  split at h1<;>omega
end
end Go.Proofs.YtfopdcdbelaapaaGreatDoor
namespace Go.Proofs.YtfopdcdbelaapaaGreatDoor
set_option linter.unusedVariables false
set_option linter.unusedSimpArgs false
open Go.ChangeShapes Go.WideShapes Go.ChangeAt Go.RowKit Go.Sort
def stepN (nx:List (List (List Int))) (s x y:Nat):Int:=((nx.getD s []).getD x []).getD y (-1)
theorem AutOk.next {t a:Int} {ac:List (List Bool)} {nx:List (List (List Int))} (h:AutOk t a ac nx) {s x y:Nat} (hs:s<ac.length) (hx:(x:Int)<atomsN t) (hy:(y:Int)<a):
  ∃nr row z,nx[s]? =some nr∧nr[x]? =some row∧row[y]? =some z∧ -1≤z∧z≤(ac.length:Int) - 1∧stepN nx s x y=z:=by
 obtain ⟨ar,har⟩:∃e,ac[s]? =some e:=⟨_,List.getElem?_eq_getElem hs⟩;obtain ⟨nr,hnr⟩:∃e,nx[s]? =some e:=⟨_,List.getElem?_eq_getElem (by rw [h.len]; exact hs)⟩;obtain ⟨_,h2,h3⟩:=h.st s ar nr har hnr;obtain ⟨row,hrow⟩:∃e,nr[x]? =some e:=⟨_,List.getElem?_eq_getElem (by omega)⟩;obtain ⟨h4,h5⟩:=h3 x row hrow;obtain ⟨z,hz⟩:∃e,row[y]? =some e:=⟨_,List.getElem?_eq_getElem (by omega)⟩;obtain ⟨h6,h7⟩:=h5 y z hz;refine ⟨nr,row,z,hnr,hrow,hz,h6,h7, ?_⟩;unfold stepN;rw [List.getD_eq_getElem?_getD,List.getD_eq_getElem?_getD,List.getD_eq_getElem?_getD,hnr]
 simp [hrow,hz]
theorem AutOk.acc {t a:Int} {ac:List (List Bool)} {nx:List (List (List Int))} (h:AutOk t a ac nx) {s x:Nat} (hs:s<ac.length) (hx:(x:Int)<atomsN t):
  ∃ar z,ac[s]? =some ar∧ar[x]? =some z∧(ac.getD s []).getD x false=z:=by
 obtain ⟨ar,har⟩:∃e,ac[s]? =some e:=⟨_,List.getElem?_eq_getElem hs⟩;obtain ⟨nr,hnr⟩:∃e,nx[s]? =some e:=⟨_,List.getElem?_eq_getElem (by rw [h.len]; exact hs)⟩;obtain ⟨h1,_,_⟩:=h.st s ar nr har hnr;obtain ⟨z,hz⟩:∃e,ar[x]? =some e:=⟨_,List.getElem?_eq_getElem (by omega)⟩;refine ⟨ar,z,har,hz, ?_⟩;rw [List.getD_eq_getElem?_getD,List.getD_eq_getElem?_getD,har]
 simp [hz]
end Go.Proofs.YtfopdcdbelaapaaGreatDoor
namespace Go.Proofs.YtfopdcdbelaapaaGreatDoor
set_option linter.unusedVariables false
set_option linter.unusedSimpArgs false
open Go.ChangeShapes Go.WideShapes Go.ChangeAt Go.RowKit Go.Deep
def goN (nx:List (List (List Int))) (s:Int) (m k:Nat):Int:=if s<0 then -1 else stepN nx s.toNat m k
def hasN (ac:List (List Bool)) (s:Int) (m:Nat):Bool:=decide (0≤s)&&(ac.getD s.toNat []).getD m false
def nxtP (nx ny:List (List (List Int))) (m k:Nat) (p:Int × Int):Option (Int × Int):=if goN nx p.1 m k<0∧goN ny p.2 m k<0 then none else some (goN nx p.1 m k,goN ny p.2 m k)
def prL (nx ny:List (List (List Int))) (A a i:Nat):List (Int × Int):=expl ((0:Int),(0:Int)) (fun y=>grid (fun m k=>nxtP nx ny m k y) A a) i
def prC (nx ny:List (List (List Int))) (A a i:Nat) (x:Int × Int) (m k:Nat):List (Int × Int):=curG ((0:Int),(0:Int)) (nxtP nx ny) A a i x m k
section
variable {nx ny:List (List (List Int))} {A a i:Nat} {x:Int × Int} {m k:Nat}
theorem prC_zero:prC nx ny A a i x 0 0=prL nx ny A a i:=curG_zero
theorem prC_line:prC nx ny A a i x m a=prC nx ny A a i x (m+1) 0:=curG_line
theorem prC_cell (hm:m<A) (hk:k<a):prC nx ny A a i x m (k+1)=grow1 (prC nx ny A a i x m k) (nxtP nx ny m k x):=curG_cell hm hk
theorem prC_all (h:(prL nx ny A a i)[i]? =some x):prC nx ny A a i x A 0=prL nx ny A a (i+1):=curG_all h
theorem prC_old:prL nx ny A a i <+: prC nx ny A a i x m k:=curG_old
theorem prL_at (h:(prL nx ny A a i)[i]? =some x):(prC nx ny A a i x m k)[i]? =some x:=prefix_get prC_old h
theorem prL_stop {n:Nat} (h:(prL nx ny A a i).length≤i) (hn:i≤n):prL nx ny A a n=prL nx ny A a i:=expl_stop h n hn
theorem prC_prefix (h:(prL nx ny A a i)[i]? =some x):prC nx ny A a i x m k <+: prL nx ny A a (i+1):=curG_prefix h
end
def PairOk (N M:Nat) (p:Int × Int):Prop:= -1≤p.1∧p.1<N∧ -1≤p.2∧p.2<M
theorem goN_bd {t a:Int} {ac:List (List Bool)} {nx:List (List (List Int))} (h:AutOk t a ac nx) {s:Int} {m k:Nat} (h1:s<ac.length) (hm:(m:Int)<atomsN t) (hk:(k:Int)<a): -1≤goN nx s m k∧goN nx s m k<ac.length:=by
 unfold goN
 split
 ·
  exact ⟨by omega,by have:=h.lo; omega⟩
 ·
  obtain ⟨nr,row,z, -, -, -, h3,h4,h5⟩:=h.next (s:=s.toNat) (x:=m) (y:=k) (by omega) hm hk;rw [h5];exact ⟨h3,by omega⟩
section
variable {t a:Int} {ac bc:List (List Bool)} {nx ny:List (List (List Int))}
theorem nxtP_ok (h:AutOk t a ac nx) (h':AutOk t a bc ny) {m k:Nat} (hm:m<(atomsN t).toNat) (hk:k<a.toNat) {p z:Int × Int} (hp:PairOk ac.length bc.length p) (hz:nxtP nx ny m k p=some z):PairOk ac.length bc.length z:=by
 unfold nxtP at hz
 split at hz
 ·
  cases hz
 ·
  obtain rfl:=Option.some.inj hz;have h1:=goN_bd h (s:=p.1) (m:=m) (k:=k) hp.2.1 (by omega) (by omega);have h2:=goN_bd h' (s:=p.2) (m:=m) (k:=k) hp.2.2.2 (by omega) (by omega);exact ⟨h1.1,h1.2,h2.1,h2.2⟩
theorem prL_ok (h:AutOk t a ac nx) (h':AutOk t a bc ny) (i:Nat):∀p∈prL nx ny (atomsN t).toNat a.toNat i,PairOk ac.length bc.length p:=by
 refine expl_all ?_ ?_ i
 ·
  have:=h.lo;have:=h'.lo;exact ⟨by simp,by simp; omega,by simp,by simp; omega⟩
 ·
  intro y hy m k hm hk z hz;exact nxtP_ok h h' hm hk hy hz
theorem pair_many {N M:Nat} (hN:N≤60) (hM:M≤60) {L:List (Int × Int)} (hd:L.Nodup) (h:∀p∈L,PairOk N M p):L.length≤3721:=by
 have:=pigeon 3721 (L.map fun p=>((p.1+1)*61+(p.2+1)).toNat) ?_ ?_
 ·
  simpa using this
 ·
  rw [List.nodup_iff_pairwise_ne,List.pairwise_map];refine List.Pairwise.imp_of_mem ?_ (List.nodup_iff_pairwise_ne.1 hd);intro p q hp hq hne e;obtain ⟨a1,a2,a3,a4⟩:=h p hp;obtain ⟨b1,b2,b3,b4⟩:=h q hq
  apply hne
  apply Prod.ext<;>omega
 ·
  intro x hx;obtain ⟨p,hp,rfl⟩:=List.mem_map.1 hx;obtain ⟨a1,a2,a3,a4⟩:=h p hp;omega
theorem prL_many (h:AutOk t a ac nx) (h':AutOk t a bc ny) (i:Nat):(prL nx ny (atomsN t).toNat a.toNat i).length≤3721:=pair_many h.hi h'.hi (expl_nodup _ _ _) (prL_ok h h' i)
theorem prC_ok (h:AutOk t a ac nx) (h':AutOk t a bc ny) {i:Nat} {x:Int × Int} {m k:Nat} (hx:(prL nx ny (atomsN t).toNat a.toNat i)[i]? =some x):(∀p∈prC nx ny (atomsN t).toNat a.toNat i x m k,PairOk ac.length bc.length p)∧(prC nx ny (atomsN t).toNat a.toNat i x m k).length≤3721:=by
 have hp:=prC_prefix (m:=m) (k:=k) hx;exact ⟨fun p hm=>prL_ok h h' (i+1) p (hp.subset hm),Nat.le_trans (prefix_length hp) (prL_many h h' (i+1))⟩
theorem prL_all (h:AutOk t a ac nx) (h':AutOk t a bc ny) {i:Nat} (hd:(prL nx ny (atomsN t).toNat a.toNat i).length≤i):prL nx ny (atomsN t).toNat a.toNat i=prL nx ny (atomsN t).toNat a.toNat 3721:=by
 by_cases hi:i≤3721
 ·
  exact (prL_stop hd hi).symm
 ·
  exact prL_stop (i:=3721) (prL_many h h' 3721) (by omega)
end
def prF (nx ny:List (List (List Int))) (A a:Nat):List (Int × Int):=prL nx ny A a 3721
def inAtB (ac bc:List (List Bool)) (A:Nat) (p:Int × Int):Bool:=(List.range A).all fun m=> !(hasN ac p.1 m&& !hasN bc p.2 m)
def withinB (ac bc:List (List Bool)) (nx ny:List (List (List Int))) (A a:Nat):Bool:=(prF nx ny A a).all (inAtB ac bc A)
end Go.Proofs.YtfopdcdbelaapaaGreatDoor
