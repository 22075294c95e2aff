/-
  Parts of a proof, joined: Grow, TidyP. No condition.
-/
import Derived.Test.YtfopdcdbelaapaaGreatDoorPk6
namespace Go.Proofs.YtfopdcdbelaapaaGreatDoor
set_option linter.unusedVariables false
set_option linter.unusedSimpArgs false
section
variable {α:Type} [DecidableEq α]
def grow1 (L:List α):Option α→List α
 |none=>L
 |some x=>if x∈L then L else L++[x]
def growL (L:List α) (ss:List (Option α)):List α:=ss.foldl grow1 L
def numO (L:List α):Option α→Int
 |none=> -1
 |some x=>(L.idxOf x:Int)
def upto (L:List α) (ss:List (Option α)) (m:Nat):List α:=growL L (ss.take m)
def expl (s:α) (succ:α→List (Option α)):Nat→List α
 |0=>[s]
 |k+1=>match (expl s succ k)[k]? with
  |none=>expl s succ k
  |some x=>growL (expl s succ k) (succ x)
theorem grow1_prefix (L:List α) (o:Option α):L <+: grow1 L o:=by
 cases o with
 |none=>exact List.prefix_refl _
 |some x=>
  show L <+: if x∈L then L else L++[x]
  by_cases h:x∈L
  ·
   rw [if_pos h]; exact List.prefix_refl _
  ·
   rw [if_neg h]; exact List.prefix_append _ _
theorem growL_prefix:∀(ss:List (Option α)) (L:List α),L <+: growL L ss
 |[],L=>List.prefix_refl _
 |o::r,L=>(grow1_prefix L o).trans (growL_prefix r (grow1 L o))
theorem growL_append (L:List α) (a b:List (Option α)):growL L (a++b)=growL (growL L a) b:=List.foldl_append
theorem upto_zero (L:List α) (ss:List (Option α)):upto L ss 0=L:=rfl
theorem upto_succ {L:List α} {ss:List (Option α)} {m:Nat} {o:Option α} (h:ss[m]? =some o):upto L ss (m+1)=grow1 (upto L ss m) o:=by
 obtain ⟨hm,rfl⟩:=List.getElem?_eq_some_iff.1 h;unfold upto;rw [List.take_succ_eq_append_getElem hm,growL_append]
 rfl
theorem upto_all {L:List α} {ss:List (Option α)} {m:Nat} (h:ss.length≤m):upto L ss m=growL L ss:=by
 unfold upto;rw [List.take_of_length_le h]
theorem upto_prefix (L:List α) (ss:List (Option α)) (m:Nat):L <+: upto L ss m:=growL_prefix _ _
theorem upto_le {L:List α} {ss:List (Option α)} {m n:Nat} (h:m≤n):upto L ss m <+: upto L ss n:=by
 unfold upto
 have:ss.take n=ss.take m++(ss.take n).drop m:=by
  have h1:=(List.take_append_drop m (ss.take n)).symm
  rwa [List.take_take,Nat.min_eq_left h] at h1
 rw [this,growL_append];exact growL_prefix _ _
omit [DecidableEq α] in
theorem prefix_get {L M:List α} (h:L <+: M) {i:Nat} {x:α} (hx:L[i]? =some x):M[i]? =some x:=by
 obtain ⟨r,rfl⟩:=h;rw [List.getElem?_append_left (List.getElem?_eq_some_iff.1 hx).1];exact hx
omit [DecidableEq α] in
theorem prefix_length {L M:List α} (h:L <+: M):L.length≤M.length:=by
 obtain ⟨r,rfl⟩:=h
 simp
theorem grow1_old {L:List α} {x:α} (h:x∈L):grow1 L (some x)=L:=if_pos h
theorem grow1_new {L:List α} {x:α} (h:x∉L):grow1 L (some x)=L++[x]:=if_neg h
theorem grow1_mem {L:List α} {x:α}:x∈grow1 L (some x):=by
 by_cases h:x∈L
 ·
  rw [grow1_old h]; exact h
 ·
  rw [grow1_new h]; simp
theorem grow1_nodup {L:List α} (h:L.Nodup) (o:Option α):(grow1 L o).Nodup:=by
 cases o with
 |none=>exact h
 |some x=>
  by_cases hx:x∈L
  ·
   rw [grow1_old hx]; exact h
  ·
   rw [grow1_new hx,List.nodup_append]
   exact ⟨h,by simp,fun a ha b hb hab=>by
    simp only [List.mem_singleton] at hb
    exact hx (by rw [←hb,←hab]; exact ha)⟩
theorem growL_nodup:∀(ss:List (Option α)) {L:List α},L.Nodup→(growL L ss).Nodup
 |[],_,h=>h
 |o::r,_,h=>growL_nodup r (grow1_nodup h o)
theorem upto_nodup {L:List α} (h:L.Nodup) (ss:List (Option α)) (m:Nat):(upto L ss m).Nodup:=growL_nodup _ h
theorem expl_nodup (s:α) (succ:α→List (Option α)):∀k,(expl s succ k).Nodup
 |0=>by simp [expl]
 |k+1=>by
  simp only [expl]
  split
  ·
   exact expl_nodup s succ k
  ·
   exact growL_nodup _ (expl_nodup s succ k)
theorem expl_succ {s:α} {succ:α→List (Option α)} {k:Nat} {x:α} (h:(expl s succ k)[k]? =some x):expl s succ (k+1)=growL (expl s succ k) (succ x):=by
 simp only [expl,h]
theorem expl_stop {s:α} {succ:α→List (Option α)} {k:Nat} (h:(expl s succ k).length≤k):∀m,k≤m→expl s succ m=expl s succ k:=by
 intro m hm
 induction hm with
 |refl=>rfl
 |step hkm ih=>
  simp only [expl,ih];rw [List.getElem?_eq_none (by have:k≤_:=hkm; omega)]
theorem expl_step_prefix (s:α) (succ:α→List (Option α)) (k:Nat):expl s succ k <+: expl s succ (k+1):=by
 simp only [expl]
 split
 ·
  exact List.prefix_refl _
 ·
  exact growL_prefix _ _
theorem expl_prefix (s:α) (succ:α→List (Option α)) {k m:Nat} (h:k≤m):expl s succ k <+: expl s succ m:=by
 induction h with
 |refl=>exact List.prefix_refl _
 |step _ ih=>exact ih.trans (expl_step_prefix s succ _)
theorem expl_pos (s:α) (succ:α→List (Option α)) (k:Nat):1≤(expl s succ k).length:=by
 have:=prefix_length (expl_prefix s succ (Nat.zero_le k))
 simpa [expl] using this
theorem idxOf_prefix {L M:List α} (h:L <+: M) {x:α} (hx:x∈L):M.idxOf x=L.idxOf x:=by
 obtain ⟨r,rfl⟩:=h;rw [List.idxOf_append,if_pos hx]
theorem idxOf_at {L:List α} (hn:L.Nodup) {i:Nat} {x:α} (h:L[i]? =some x):L.idxOf x=i:=by
 obtain ⟨hi,rfl⟩:=List.getElem?_eq_some_iff.1 h;exact hn.idxOf_getElem i hi
theorem idxOf_new {L:List α} {x:α} (h:x∉L):(L++[x]).idxOf x=L.length:=by
 rw [List.idxOf_append,if_neg h]
 simp
theorem numO_bd {L:List α} {o:Option α} (h:∀x,o=some x→x∈L): -1≤numO L o∧numO L o<L.length:=by
 cases o with
 |none=>simp only [numO]; omega
 |some x=>
  have:=List.idxOf_lt_length_of_mem (h x rfl);simp only [numO];omega
end
noncomputable instance exDec:DecidableEq Ex:=fun a b=>Classical.propDecidable (a=b)
def Ex.two (k:Int) (a b:Ex):Ex:= .mk k 0 [a,b]
def Ex.leaf (k:Int):Ex:= .mk k 0 []
def summC (k n:Int) (ks:List Ex) (rs:List (List Ex)):List Ex:=if k=1 then [] else if k=6 then rs.flatten else [.mk k n ks]
mutual
def Ex.summ:Ex→List Ex
 | .mk k n ks=>summC k n ks (Ex.summL ks)
def Ex.summL:List Ex→List (List Ex)
 |[]=>[]
 |e::r=>e.summ::Ex.summL r
end
theorem Ex.summ_zero {n:Int} {ks:List Ex}:(Ex.mk 1 n ks).summ=[]:=by simp [Ex.summ,summC]
theorem Ex.summ_sum {n:Int} {a b:Ex}:(Ex.mk 6 n [a,b]).summ=a.summ++b.summ:=by simp [Ex.summ,summC,Ex.summL]
theorem Ex.summ_else {k n:Int} {ks:List Ex} (h1:k≠1) (h6:k≠6):(Ex.mk k n ks).summ=[.mk k n ks]:=by simp [Ex.summ,summC,h1,h6]
def sizes (L:List Ex):Nat:=(L.map Ex.size).sum
theorem sizes_append (a b:List Ex):sizes (a++b)=sizes a+sizes b:=by simp [sizes]
theorem summ_spec (tm am:Int) (N:Nat):∀e:Ex,e.size≤N→e.tree tm am=true→(∀x∈e.summ,x.tree tm am=true∧x.size≤e.size)∧sizes e.summ+e.summ.length≤e.size+1:=by
 induction N using Nat.strongRecOn with
 |_ N ih=>
 intro e hN ht;obtain ⟨k,n,ks⟩:=e
 by_cases h1:k=1
 ·
  subst h1;rw [Ex.summ_zero]
  simp [sizes]
 by_cases h6:k=6
 ·
  subst h6;obtain ⟨hk, -, -, htl⟩:=tree_parts ht;obtain ⟨a,b,rfl⟩:=two_kids hk (by omega);have hs:=Ex.size_eq (.mk 6 n [a,b]);simp only [Ex.kids,Ex.sizeL] at hs;obtain ⟨a1,a2⟩:=ih a.size (by omega) a (Nat.le_refl _) (Ex.treeL_mem htl (by simp));obtain ⟨b1,b2⟩:=ih b.size (by omega) b (Nat.le_refl _) (Ex.treeL_mem htl (by simp));rw [Ex.summ_sum];refine ⟨fun x hx=> ?_,by rw [sizes_append,List.length_append]; omega⟩
  rcases List.mem_append.1 hx with hx|hx
  ·
   exact ⟨(a1 x hx).1,by have:=(a1 x hx).2; omega⟩
  ·
   exact ⟨(b1 x hx).1,by have:=(b1 x hx).2; omega⟩
 ·
  rw [Ex.summ_else h1 h6];refine ⟨fun x hx=> ?_,by simp [sizes]⟩;rw [List.mem_singleton] at hx;subst hx;exact ⟨ht,Nat.le_refl _⟩
def Ex.lt (a b:Ex):Bool:=decide (a.text<b.text)
def insT (e:Ex) (L:List Ex):List Ex:=L.takeWhile (fun x=>Ex.lt x e)++e::L.dropWhile (fun x=>x.lt e)
def sortI (L:List Ex):List Ex:=L.foldl (fun acc e=>insT e acc) []
theorem insT_perm (e:Ex) (L:List Ex):(insT e L).Perm (e::L):=by
 unfold insT;refine List.perm_middle.trans ?_;rw [List.takeWhile_append_dropWhile]
theorem sortI_perm_aux:∀(L acc:List Ex),(L.foldl (fun acc e=>insT e acc) acc).Perm (acc++L)
 |[],acc=>by simp
 |e::r,acc=>by
  refine (sortI_perm_aux r (insT e acc)).trans ?_;refine ((insT_perm e acc).append_right r).trans ?_;exact (List.perm_middle (a:=e) (l₁:=acc) (l₂:=r)).symm
theorem sortI_perm (L:List Ex):(sortI L).Perm L:=by have:=sortI_perm_aux L []; rwa [List.nil_append] at this
def leT (a b:Ex):Prop:=¬b.text<a.text
theorem leT_trans {a b c:Ex} (h:leT a b) (k:leT b c):leT a c:=by
 unfold leT at*;rw [List.not_lt] at*;exact List.le_trans h k
theorem leT_of_lt {a b:Ex} (h:a.text<b.text):leT a b:=List.lt_asymm h
theorem insT_sorted (e:Ex):∀L:List Ex,L.Pairwise leT→(insT e L).Pairwise leT
 |[],_=>by simp [insT]
 |x::r,h=>by
  rw [List.pairwise_cons] at h;unfold insT
  by_cases hx:x.lt e=true
  ·
   rw [List.takeWhile_cons_of_pos (p:=fun x=>Ex.lt x e) hx,List.dropWhile_cons_of_pos (p:=fun x=>Ex.lt x e) hx,List.cons_append,List.pairwise_cons];refine ⟨fun y hy=> ?_,insT_sorted e r h.2⟩;have hy':y∈insT e r:=hy
   rcases List.mem_cons.1 ((insT_perm e r).mem_iff.1 hy') with rfl|hy2
   ·
    exact leT_of_lt (by simpa [Ex.lt] using hx)
   ·
    exact h.1 y hy2
  ·
   rw [List.takeWhile_cons_of_neg (p:=fun x=>Ex.lt x e) hx,List.dropWhile_cons_of_neg (p:=fun x=>Ex.lt x e) hx,List.nil_append,List.pairwise_cons]
   have hxe:leT e x:=by simpa [Ex.lt,leT] using hx
   refine ⟨fun y hy=> ?_,List.pairwise_cons.2 h⟩
   rcases List.mem_cons.1 hy with rfl|hy
   ·
    exact hxe
   ·
    exact leT_trans hxe (h.1 y hy)
theorem sortI_sorted_aux:∀(L acc:List Ex),acc.Pairwise leT→(L.foldl (fun acc e=>insT e acc) acc).Pairwise leT
 |[],_,h=>h
 |e::r,acc,h=>sortI_sorted_aux r _ (insT_sorted e acc h)
theorem sortI_sorted (L:List Ex):(sortI L).Pairwise leT:=sortI_sorted_aux L [] List.Pairwise.nil
theorem sortI_unique {tm am:Int} (ht:tm≤8) (ha:am≤8) {L M:List Ex} (hL:∀x∈L,x.tree tm am=true) (hp:M.Perm L) (hs:M.Pairwise leT):M=sortI L:=by
 refine List.Perm.eq_of_pairwise (le:=leT) (fun a b h1 h2 h3 h4=> ?_) hs (sortI_sorted L) (hp.trans (sortI_perm L).symm);have ha':=hL a (hp.mem_iff.1 h1);have hb':=hL b ((sortI_perm L).mem_iff.1 h2);unfold leT at h3 h4;rw [List.not_lt] at h3 h4;exact text_inj ht ha ha' hb' (List.le_antisymm h3 h4)
noncomputable def nub (L:List Ex):List Ex:=growL [] (L.map some)
def foldS:List Ex→Ex
 |[]=> .leaf 1
 |x::r=>r.foldl (fun a b=> .two 6 a b) x
noncomputable def sumT (x y:Ex):Ex:=foldS (sortI (nub (x.summ++y.summ)))
theorem growL_mem {α:Type} [DecidableEq α]:∀(ss:List α) (L:List α) (x:α),x∈growL L (ss.map some)↔x∈L∨x∈ss
 |[],L,x=>by simp [growL]
 |s::r,L,x=>by
  show x∈growL (grow1 L (some s)) (r.map some)↔_
  rw [growL_mem r]
  by_cases h:s∈L
  ·
   rw [grow1_old h]
   constructor
   ·
    rintro (q|q); exact Or.inl q; exact Or.inr (List.mem_cons_of_mem _ q)
   ·
    rintro (q|q)
    ·
     exact Or.inl q
    ·
     rcases List.mem_cons.1 q with rfl|q; exact Or.inl h; exact Or.inr q
  ·
   rw [grow1_new h]
   simp [or_assoc]
theorem nub_mem {L:List Ex} {x:Ex}:x∈nub L↔x∈L:=by unfold nub; rw [growL_mem]; simp
theorem grow_sizes:∀(ss:List Ex) (L:List Ex),sizes (growL L (ss.map some))+(growL L (ss.map some)).length≤sizes L+L.length+(sizes ss+ss.length)
 |[],L=>by simp [growL,sizes]
 |s::r,L=>by
  show sizes (growL (grow1 L (some s)) (r.map some))+(growL (grow1 L (some s)) (r.map some)).length≤_
  have:=grow_sizes r (grow1 L (some s))
  have h2:sizes (s::r)=s.size+sizes r:=by simp [sizes]
  have h3:sizes (grow1 L (some s))+(grow1 L (some s)).length≤sizes L+L.length+(s.size+1):=by
   by_cases h:s∈L
   ·
    rw [grow1_old h]; omega
   ·
    rw [grow1_new h,sizes_append,List.length_append]
    simp [sizes]
    omega
  rw [h2,List.length_cons];omega
theorem nub_sizes (L:List Ex):sizes (nub L)+(nub L).length≤sizes L+L.length:=by
 have:=grow_sizes L []
 simpa [nub,sizes] using this
theorem foldS_size:∀(r:List Ex) (x:Ex),(r.foldl (fun a b=>Ex.two 6 a b) x).size=x.size+sizes r+r.length
 |[],x=>by simp [sizes]
 |e::r,x=>by
  rw [List.foldl_cons,foldS_size r]
  have:(Ex.two 6 x e).size=1+(x.size+e.size):=by rw [Ex.size_eq]; simp [Ex.two,Ex.kids,Ex.sizeL]
  simp [this,sizes]
  omega
theorem sizes_perm {L M:List Ex} (h:L.Perm M):sizes L=sizes M:=List.Perm.sum_nat (h.map Ex.size)
theorem tree_two {tm am k:Int} {a b:Ex} (hk:k=6∨k=7) (ha:a.tree tm am=true) (hb:b.tree tm am=true):(Ex.two k a b).tree tm am=true:=by
 rcases hk with rfl|rfl<;>simp [Ex.two,Ex.tree,Ex.treeL,ha,hb,nodeB,kidsN,numB]
theorem tree_leaf {tm am k:Int} (hk:k=1∨k=2):(Ex.leaf k).tree tm am=true:=by
 rcases hk with rfl|rfl<;>simp [Ex.leaf,Ex.tree,Ex.treeL,nodeB,kidsN,numB]
theorem foldS_tree {tm am:Int}:∀(r:List Ex) (x:Ex),x.tree tm am=true→(∀y∈r,y.tree tm am=true)→(r.foldl (fun a b=>Ex.two 6 a b) x).tree tm am=true
 |[],x,h,_=>h
 |e::r,x,h,hr=>foldS_tree r _ (tree_two (Or.inl rfl) h (hr e (by simp))) (fun y hy=>hr y (by simp [hy]))
theorem sumT_spec {tm am:Int} {x y:Ex} (hx:x.tree tm am=true) (hy:y.tree tm am=true):(sumT x y).tree tm am=true∧(sumT x y).size≤1+x.size+y.size:=by
 obtain ⟨x1,x2⟩:=summ_spec tm am _ x (Nat.le_refl _) hx;obtain ⟨y1,y2⟩:=summ_spec tm am _ y (Nat.le_refl _) hy
 have hm:∀z∈sortI (nub (x.summ++y.summ)),z.tree tm am=true:=fun z hz=>by
  have:=nub_mem.1 ((sortI_perm _).mem_iff.1 hz)
  rcases List.mem_append.1 this with h|h
  ·
   exact (x1 z h).1
  ·
   exact (y1 z h).1
 have hs:=nub_sizes (x.summ++y.summ);rw [sizes_append,List.length_append,←sizes_perm (sortI_perm (nub _)),←(sortI_perm (nub _)).length_eq] at hs;unfold sumT;generalize sortI (nub (x.summ++y.summ))=L at hm hs
 cases L with
 |nil=>exact ⟨tree_leaf (Or.inl rfl),by simp [foldS,Ex.leaf,Ex.size,Ex.sizeL]; omega⟩
 |cons z r=>
  refine ⟨foldS_tree r z (hm z (by simp)) (fun q hq=>hm q (by simp [hq])), ?_⟩
  show (r.foldl (fun a b=>Ex.two 6 a b) z).size≤_
  rw [foldS_size]
  have hz:sizes (z::r)=z.size+sizes r:=by simp [sizes]
  rw [hz,List.length_cons] at hs;omega
def dotC (k n:Int) (ks:List Ex) (fs:List (Ex→Ex)) (y:Ex):Ex:=
 if k=1∨y.kind=1 then .leaf 1 else if k=2 then y else if y.kind=2 then .mk k n ks
 else if k=7 then fs.foldr (fun f z=>f z) y else .two 7 (.mk k n ks) y
mutual
def Ex.dot:Ex→Ex→Ex
 | .mk k n ks=>fun y=>dotC k n ks (Ex.dotL ks) y
def Ex.dotL:List Ex→List (Ex→Ex)
 |[]=>[]
 |e::r=>e.dot::Ex.dotL r
end
theorem Ex.dot_eq (k n:Int) (ks:List Ex) (y:Ex):(Ex.mk k n ks).dot y=dotC k n ks (Ex.dotL ks) y:=by simp only [Ex.dot]
theorem Ex.dot_seven {n:Int} {a b y:Ex} (h1:y.kind≠1) (h2:y.kind≠2):(Ex.mk 7 n [a,b]).dot y=a.dot (b.dot y):=by
 rw [Ex.dot_eq]
 simp [dotC,h1,h2,Ex.dotL]
theorem dot_spec (tm am:Int) (N:Nat):∀x y:Ex,x.size≤N→x.tree tm am=true→y.tree tm am=true→(x.dot y).tree tm am=true∧(x.dot y).size≤1+x.size+y.size:=by
 induction N using Nat.strongRecOn with
 |_ N ih=>
 intro x y hN hx hy;obtain ⟨k,n,ks⟩:=x;have hs:=Ex.size_eq (.mk k n ks);simp only [Ex.kids] at hs
 by_cases h1:k=1∨y.kind=1
 ·
  rw [Ex.dot_eq,dotC,if_pos h1];exact ⟨tree_leaf (Or.inl rfl),by simp [Ex.leaf,Ex.size,Ex.sizeL]; omega⟩
 by_cases h2:k=2
 ·
  rw [Ex.dot_eq,dotC,if_neg h1,if_pos h2];exact ⟨hy,by omega⟩
 by_cases h3:y.kind=2
 ·
  rw [Ex.dot_eq,dotC,if_neg h1,if_neg h2,if_pos h3];exact ⟨hx,by omega⟩
 by_cases h7:k=7
 ·
  subst h7;obtain ⟨hk, -, -, htl⟩:=tree_parts hx;obtain ⟨a,b,rfl⟩:=two_kids hk (by omega);simp only [Ex.sizeL] at hs;obtain ⟨b1,b2⟩:=ih b.size (by omega) b y (Nat.le_refl _) (Ex.treeL_mem htl (by simp)) hy;obtain ⟨a1,a2⟩:=ih a.size (by omega) a (b.dot y) (Nat.le_refl _) (Ex.treeL_mem htl (by simp)) b1;rw [Ex.dot_seven (by omega) h3];exact ⟨a1,by omega⟩
 ·
  rw [Ex.dot_eq,dotC,if_neg h1,if_neg h2,if_neg h3,if_neg h7];exact ⟨tree_two (Or.inr rfl) hx hy,by rw [Ex.size_eq]; simp [Ex.two,Ex.kids,Ex.sizeL]; omega⟩
def Ex.star (x:Ex):Ex:=if x.cond=true then .leaf 2 else if x.kind=8 then x else .mk 8 0 [x]
theorem star_spec {tm am:Int} {x:Ex} (hx:x.tree tm am=true):x.star.tree tm am=true∧x.star.size≤1+x.size:=by
 unfold Ex.star
 split
 ·
  exact ⟨tree_leaf (Or.inr rfl),by simp [Ex.leaf,Ex.size,Ex.sizeL]⟩
 split
 ·
  exact ⟨hx,by omega⟩
 ·
  exact ⟨by simp [Ex.tree,Ex.treeL,hx,nodeB,kidsN,numB],by simp [Ex.size,Ex.sizeL]⟩
noncomputable def tidyC (k n:Int) (ks ts:List Ex):Ex:=
 if k=6 then sumT (ts.getD 0 (.leaf 1)) (ts.getD 1 (.leaf 1)) else if k=7 then (ts.getD 0 (.leaf 1)).dot (ts.getD 1 (.leaf 1)) else if k=8 then (ts.getD 0 (.leaf 1)).star else .mk k n ks
mutual
noncomputable def Ex.tidy:Ex→Ex
 | .mk k n ks=>tidyC k n ks (Ex.tidyL ks)
noncomputable def Ex.tidyL:List Ex→List Ex
 |[]=>[]
 |e::r=>e.tidy::Ex.tidyL r
end
theorem Ex.tidy_eq (k n:Int) (ks:List Ex):(Ex.mk k n ks).tidy=tidyC k n ks (Ex.tidyL ks):=by simp only [Ex.tidy]
theorem Ex.tidy_sum {n:Int} {a b:Ex}:(Ex.mk 6 n [a,b]).tidy=sumT a.tidy b.tidy:=by rw [Ex.tidy_eq]; simp [tidyC,Ex.tidyL]
theorem Ex.tidy_dot {n:Int} {a b:Ex}:(Ex.mk 7 n [a,b]).tidy=a.tidy.dot b.tidy:=by rw [Ex.tidy_eq]; simp [tidyC,Ex.tidyL]
theorem Ex.tidy_star {n:Int} {a:Ex}:(Ex.mk 8 n [a]).tidy=a.tidy.star:=by rw [Ex.tidy_eq]; simp [tidyC,Ex.tidyL]
theorem Ex.tidy_else {k n:Int} {ks:List Ex} (h6:k≠6) (h7:k≠7) (h8:k≠8):(Ex.mk k n ks).tidy= .mk k n ks:=by rw [Ex.tidy_eq,tidyC,if_neg h6,if_neg h7,if_neg h8]
theorem tidy_spec (tm am:Int) (N:Nat):∀e:Ex,e.size≤N→e.tree tm am=true→e.tidy.tree tm am=true∧e.tidy.size≤e.size:=by
 induction N using Nat.strongRecOn with
 |_ N ih=>
 intro e hN ht;obtain ⟨k,n,ks⟩:=e;obtain ⟨hk, -, -, htl⟩:=tree_parts ht;have hs:=Ex.size_eq (.mk k n ks);simp only [Ex.kids] at hs
 by_cases h67:k=6∨k=7
 ·
  obtain ⟨a,b,rfl⟩:=two_kids hk h67;simp only [Ex.sizeL] at hs;obtain ⟨a1,a2⟩:=ih a.size (by omega) a (Nat.le_refl _) (Ex.treeL_mem htl (by simp));obtain ⟨b1,b2⟩:=ih b.size (by omega) b (Nat.le_refl _) (Ex.treeL_mem htl (by simp))
  rcases h67 with rfl|rfl
  ·
   rw [Ex.tidy_sum];obtain ⟨c1,c2⟩:=sumT_spec a1 b1;exact ⟨c1,by omega⟩
  ·
   rw [Ex.tidy_dot];obtain ⟨c1,c2⟩:=dot_spec tm am _ a.tidy b.tidy (Nat.le_refl _) a1 b1;exact ⟨c1,by omega⟩
 by_cases h8:k=8
 ·
  subst h8;obtain ⟨a,rfl⟩:=one_kid hk (by omega);simp only [Ex.sizeL] at hs;obtain ⟨a1,a2⟩:=ih a.size (by omega) a (Nat.le_refl _) (Ex.treeL_mem htl (by simp));rw [Ex.tidy_star];obtain ⟨c1,c2⟩:=star_spec a1;exact ⟨c1,by omega⟩
 ·
  rw [Ex.tidy_else (by omega) (by omega) h8];exact ⟨ht,Nat.le_refl _⟩
end Go.Proofs.YtfopdcdbelaapaaGreatDoor
