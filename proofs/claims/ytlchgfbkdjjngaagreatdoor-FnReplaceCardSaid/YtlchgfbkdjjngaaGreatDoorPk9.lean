/-
  Parts of a proof, joined: Grow, TidyP. No condition.
-/
import Derived.Test.YtlchgfbkdjjngaaGreatDoorPk8
set_option linter.unusedVariables false
set_option linter.unusedSimpArgs false
namespace Go.Proofs.YtlchgfbkdjjngaaGreatDoor
section
variable {α:Type} [DecidableEq α]
def Cd (L:List α):Option α→List α
 |none=>L
 |some x=>if x∈L then L else L++[x]
def Bt (L:List α) (ss:List (Option α)):List α:=ss.foldl Cd L
def Dc (L:List α):Option α→Int
 |none=> -1
 |some x=>(L.idxOf x:Int)
def Hu (L:List α) (ss:List (Option α)) (m:Nat):List α:=Bt L (ss.take m)
def Bg (s:α) (succ:α→List (Option α)):Nat→List α
 |0=>[s]
 |k+1=>match (Bg s succ k)[k]? with
  |none=>Bg s succ k
  |some x=>Bt (Bg s succ k) (succ x)
theorem Qc (L:List α) (o:Option α):L <+: Cd L o:=by
 cases o with
 |none=>exact List.prefix_refl _
 |some x=>
  show L <+: if x∈L then L else L++[x]
  by_cases h:x∈L
  ·rw [if_pos h]; exact List.prefix_refl _
  rw [if_neg h]; exact List.prefix_append _ _
theorem Fh:∀(ss:List (Option α)) (L:List α),L <+: Bt L ss
 |[],L=>List.prefix_refl _
 |o::r,L=>(Qc L o).trans (Fh r (Cd L o))
theorem Fi (L:List α) (a b:List (Option α)):Bt L (a++b)=Bt (Bt L a) b:=List.foldl_append
theorem Wv (L:List α) (ss:List (Option α)):Hu L ss 0=L:=rfl
theorem Wf {L:List α} {ss:List (Option α)} {m:Nat} {o:Option α} (h:ss[m]? =some o):Hu L ss (m+1)=Cd (Hu L ss m) o:=by
 obtain ⟨hm,rfl⟩:=List.getElem?_eq_some_iff.1 h;unfold Hu;rw [List.take_succ_eq_append_getElem hm,Fi]
 rfl
theorem Jl {L:List α} {ss:List (Option α)} {m:Nat} (h:ss.length≤m):Hu L ss m=Bt L ss:=by
 unfold Hu;rw [List.take_of_length_le h]
theorem Sv (L:List α) (ss:List (Option α)) (m:Nat):L <+: Hu L ss m:=Fh _ _
theorem Ye {L:List α} {ss:List (Option α)} {m n:Nat} (h:m≤n):Hu L ss m <+: Hu L ss n:=by
 unfold Hu
 have:ss.take n=ss.take m++(ss.take n).drop m:=by
  have h1:=(List.take_append_drop m (ss.take n)).symm
  rwa [List.take_take,Nat.min_eq_left h] at h1
 rw [this,Fi];exact Fh _ _
omit [DecidableEq α] in
theorem Er {L M:List α} (h:L <+: M) {i:Nat} {x:α} (hx:L[i]? =some x):M[i]? =some x:=by
 obtain ⟨r,rfl⟩:=h;rw [List.getElem?_append_left (List.getElem?_eq_some_iff.1 hx).1];exact hx
omit [DecidableEq α] in
theorem C7 {L M:List α} (h:L <+: M):L.length≤M.length:=by
 obtain ⟨r,rfl⟩:=h
 simp
theorem Cx {L:List α} {x:α} (h:x∈L):Cd L (some x)=L:=if_pos h
theorem Cy {L:List α} {x:α} (h:x∉L):Cd L (some x)=L++[x]:=if_neg h
theorem O6 {L:List α} {x:α}:x∈Cd L (some x):=by
 by_cases h:x∈L
 ·rw [Cx h]; exact h
 rw [Cy h]; simp
theorem Sn {L:List α} (h:L.Nodup) (o:Option α):(Cd L o).Nodup:=by
 cases o with
 |none=>exact h
 |some x=>
  by_cases hx:x∈L
  ·rw [Cx hx]; exact h
  rw [Cy hx,List.nodup_append]
  exact ⟨h,by simp,fun a ha b hb hab=>by
   simp only [List.mem_singleton] at hb
   exact hx (by rw [←hb,←hab]; exact ha)⟩
theorem I8:∀(ss:List (Option α)) {L:List α},L.Nodup→(Bt L ss).Nodup
 |[],_,h=>h
 |o::r,_,h=>I8 r (Sn h o)
theorem U1 {L:List α} (h:L.Nodup) (ss:List (Option α)) (m:Nat):(Hu L ss m).Nodup:=I8 _ h
theorem H9 (s:α) (succ:α→List (Option α)):∀k,(Bg s succ k).Nodup
 |0=>by simp [Bg]
 |k+1=>by
  simp only [Bg]
  split
  ·exact H9 s succ k
  exact I8 _ (H9 s succ k)
theorem Iz {s:α} {succ:α→List (Option α)} {k:Nat} {x:α} (h:(Bg s succ k)[k]? =some x):Bg s succ (k+1)=Bt (Bg s succ k) (succ x):=by
 simp only [Bg,h]
theorem I0 {s:α} {succ:α→List (Option α)} {k:Nat} (h:(Bg s succ k).length≤k):∀m,k≤m→Bg s succ m=Bg s succ k:=by
 intro m hm
 induction hm with
 |refl=>rfl
 |step hkm ih=>
  simp only [Bg,ih];rw [List.getElem?_eq_none (by have:k≤_:=hkm; omega)]
theorem Mb (s:α) (succ:α→List (Option α)) (k:Nat):Bg s succ k <+: Bg s succ (k+1):=by
 simp only [Bg]
 split
 ·exact List.prefix_refl _
 exact Fh _ _
theorem E4 (s:α) (succ:α→List (Option α)) {k m:Nat} (h:k≤m):Bg s succ k <+: Bg s succ m:=by
 induction h with
 |refl=>exact List.prefix_refl _
 |step _ ih=>exact ih.trans (Mb s succ _)
theorem Xg (s:α) (succ:α→List (Option α)) (k:Nat):1≤(Bg s succ k).length:=by
 have:=C7 (E4 s succ (Nat.zero_le k))
 simpa [Bg] using this
theorem Rb {L M:List α} (h:L <+: M) {x:α} (hx:x∈L):M.idxOf x=L.idxOf x:=by
 obtain ⟨r,rfl⟩:=h;rw [List.idxOf_append,if_pos hx]
theorem Rc {L:List α} (hn:L.Nodup) {i:Nat} {x:α} (h:L[i]? =some x):L.idxOf x=i:=by
 obtain ⟨hi,rfl⟩:=List.getElem?_eq_some_iff.1 h;exact hn.idxOf_getElem i hi
theorem Wk {L:List α} {x:α} (h:x∉L):(L++[x]).idxOf x=L.length:=by
 rw [List.idxOf_append,if_neg h]
 simp
theorem Y4 {L:List α} {o:Option α} (h:∀x,o=some x→x∈L): -1≤Dc L o∧Dc L o<L.length:=by
 cases o with
 |none=>simp only [Dc]; omega
 |some x=>
  have:=List.idxOf_lt_length_of_mem (h x rfl);simp only [Dc];omega
end
noncomputable instance exDec:DecidableEq Ex:=fun a b=>Classical.propDecidable (a=b)
def Ex.two (k:Int) (a b:Ex):Ex:= .mk k 0 [a,b]
def Ex.leaf (k:Int):Ex:= .mk k 0 []
def P6 (k n:Int) (ks:List Ex) (rs:List (List Ex)):List Ex:=if k=1 then [] else if k=6 then rs.flatten else [.mk k n ks]
mutual
def Ex.summ:Ex→List Ex
 | .mk k n ks=>P6 k n ks (Ex.summL ks)
def Ex.summL:List Ex→List (List Ex)
 |[]=>[]
 |e::r=>e.summ::Ex.summL r
end
theorem Ex.summ_zero {n:Int} {ks:List Ex}:(Ex.mk 1 n ks).summ=[]:=by simp [Ex.summ,P6]
theorem Ex.summ_sum {n:Int} {a b:Ex}:(Ex.mk 6 n [a,b]).summ=a.summ++b.summ:=by simp [Ex.summ,P6,Ex.summL]
theorem Ex.summ_else {k n:Int} {ks:List Ex} (h1:k≠1) (h6:k≠6):(Ex.mk k n ks).summ=[.mk k n ks]:=by simp [Ex.summ,P6,h1,h6]
def B4 (L:List Ex):Nat:=(L.map Ex.size).sum
theorem Gd (a b:List Ex):B4 (a++b)=B4 a+B4 b:=by simp [B4]
theorem Fg (tm am:Int) (N:Nat):∀e:Ex,e.size≤N→e.tree tm am=true→(∀x∈e.summ,x.tree tm am=true∧x.size≤e.size)∧B4 e.summ+e.summ.length≤e.size+1:=by
 induction N using Nat.strongRecOn with
 |_ N ih=>
 intro e hN ht;obtain ⟨k,n,ks⟩:=e
 by_cases h1:k=1
 ·subst h1;rw [Ex.summ_zero]
  simp [B4]
 by_cases h6:k=6
 ·subst h6;obtain ⟨hk, -, -, htl⟩:=Aq ht;obtain ⟨a,b,rfl⟩:=As hk (by omega);have hs:=Ex.size_eq (.mk 6 n [a,b]);simp only [Ex.kids,Ex.sizeL] at hs;obtain ⟨a1,a2⟩:=ih a.size (by omega) a (Nat.le_refl _) (Ex.treeL_mem htl (by simp));obtain ⟨b1,b2⟩:=ih b.size (by omega) b (Nat.le_refl _) (Ex.treeL_mem htl (by simp));rw [Ex.summ_sum];refine ⟨fun x hx=> ?_,by rw [Gd,List.length_append]; omega⟩
  rcases List.mem_append.1 hx with hx|hx
  ·exact ⟨(a1 x hx).1,by have:=(a1 x hx).2; omega⟩
  exact ⟨(b1 x hx).1,by have:=(b1 x hx).2; omega⟩
 rw [Ex.summ_else h1 h6];refine ⟨fun x hx=> ?_,by simp [B4]⟩;rw [List.mem_singleton] at hx;subst hx;exact ⟨ht,Nat.le_refl _⟩
def Ex.lt (a b:Ex):Bool:=decide (a.text<b.text)
def Hm (e:Ex) (L:List Ex):List Ex:=L.takeWhile (fun x=>Ex.lt x e)++e::L.dropWhile (fun x=>x.lt e)
def Et (L:List Ex):List Ex:=L.foldl (fun acc e=>Hm e acc) []
theorem Pq (e:Ex) (L:List Ex):(Hm e L).Perm (e::L):=by
 unfold Hm;refine List.perm_middle.trans ?_;rw [List.takeWhile_append_dropWhile]
theorem Jb:∀(L acc:List Ex),(L.foldl (fun acc e=>Hm e acc) acc).Perm (acc++L)
 |[],acc=>by simp
 |e::r,acc=>by
  refine (Jb r (Hm e acc)).trans ?_;refine ((Pq e acc).append_right r).trans ?_;exact (List.perm_middle (a:=e) (l₁:=acc) (l₂:=r)).symm
theorem Es (L:List Ex):(Et L).Perm L:=by have:=Jb L []; rwa [List.nil_append] at this
def leT (a b:Ex):Prop:=¬b.text<a.text
theorem Wo {a b c:Ex} (h:leT a b) (k:leT b c):leT a c:=by
 unfold leT at*;rw [List.not_lt] at*;exact List.le_trans h k
theorem Vz {a b:Ex} (h:a.text<b.text):leT a b:=List.lt_asymm h
theorem Lj (e:Ex):∀L:List Ex,L.Pairwise leT→(Hm e L).Pairwise leT
 |[],_=>by simp [Hm]
 |x::r,h=>by
  rw [List.pairwise_cons] at h;unfold Hm
  by_cases hx:x.lt e=true
  ·rw [List.takeWhile_cons_of_pos (p:=fun x=>Ex.lt x e) hx,List.dropWhile_cons_of_pos (p:=fun x=>Ex.lt x e) hx,List.cons_append,List.pairwise_cons];refine ⟨fun y hy=> ?_,Lj e r h.2⟩;have hy':y∈Hm e r:=hy
   rcases List.mem_cons.1 ((Pq e r).mem_iff.1 hy') with rfl|hy2
   ·exact Vz (by simpa [Ex.lt] using hx)
   exact h.1 y hy2
  rw [List.takeWhile_cons_of_neg (p:=fun x=>Ex.lt x e) hx,List.dropWhile_cons_of_neg (p:=fun x=>Ex.lt x e) hx,List.nil_append,List.pairwise_cons]
  have hxe:leT e x:=by simpa [Ex.lt,leT] using hx
  refine ⟨fun y hy=> ?_,List.pairwise_cons.2 h⟩
  rcases List.mem_cons.1 hy with rfl|hy
  ·exact hxe
  exact Wo hxe (h.1 y hy)
theorem Ij:∀(L acc:List Ex),acc.Pairwise leT→(L.foldl (fun acc e=>Hm e acc) acc).Pairwise leT
 |[],_,h=>h
 |e::r,acc,h=>Ij r _ (Lj e acc h)
theorem Qh (L:List Ex):(Et L).Pairwise leT:=Ij L [] List.Pairwise.nil
theorem Rh {tm am:Int} (ht:tm≤8) (ha:am≤8) {L M:List Ex} (hL:∀x∈L,x.tree tm am=true) (hp:M.Perm L) (hs:M.Pairwise leT):M=Et L:=by
 refine List.Perm.eq_of_pairwise (le:=leT) (fun a b h1 h2 h3 h4=> ?_) hs (Qh L) (hp.trans (Es L).symm);have ha':=hL a (hp.mem_iff.1 h1);have hb':=hL b ((Es L).mem_iff.1 h2);unfold leT at h3 h4;rw [List.not_lt] at h3 h4;exact Md ht ha ha' hb' (List.le_antisymm h3 h4)
noncomputable def nub (L:List Ex):List Ex:=Bt [] (L.map some)
def G7:List Ex→Ex
 |[]=> .leaf 1
 |x::r=>r.foldl (fun a b=> .two 6 a b) x
noncomputable def Bk (x y:Ex):Ex:=G7 (Et (nub (x.summ++y.summ)))
theorem Oj {α:Type} [DecidableEq α]:∀(ss:List α) (L:List α) (x:α),x∈Bt L (ss.map some)↔x∈L∨x∈ss
 |[],L,x=>by simp [Bt]
 |s::r,L,x=>by
  show x∈Bt (Cd L (some s)) (r.map some)↔_
  rw [Oj r]
  by_cases h:s∈L
  ·rw [Cx h]
   constructor
   ·rintro (q|q); exact Or.inl q; exact Or.inr (List.mem_cons_of_mem _ q)
   rintro (q|q)
   ·exact Or.inl q
   rcases List.mem_cons.1 q with rfl|q; exact Or.inl h; exact Or.inr q
  rw [Cy h]
  simp [or_assoc]
theorem Jk {L:List Ex} {x:Ex}:x∈nub L↔x∈L:=by unfold nub; rw [Oj]; simp
theorem Ni:∀(ss:List Ex) (L:List Ex),B4 (Bt L (ss.map some))+(Bt L (ss.map some)).length≤B4 L+L.length+(B4 ss+ss.length)
 |[],L=>by simp [Bt,B4]
 |s::r,L=>by
  show B4 (Bt (Cd L (some s)) (r.map some))+(Bt (Cd L (some s)) (r.map some)).length≤_
  have:=Ni r (Cd L (some s))
  have h2:B4 (s::r)=s.size+B4 r:=by simp [B4]
  have h3:B4 (Cd L (some s))+(Cd L (some s)).length≤B4 L+L.length+(s.size+1):=by
   by_cases h:s∈L
   ·rw [Cx h]; omega
   rw [Cy h,Gd,List.length_append]
   simp [B4]
   omega
  rw [h2,List.length_cons];omega
theorem Pg (L:List Ex):B4 (nub L)+(nub L).length≤B4 L+L.length:=by
 have:=Ni L []
 simpa [nub,B4] using this
theorem Mz:∀(r:List Ex) (x:Ex),(r.foldl (fun a b=>Ex.two 6 a b) x).size=x.size+B4 r+r.length
 |[],x=>by simp [B4]
 |e::r,x=>by
  rw [List.foldl_cons,Mz r]
  have:(Ex.two 6 x e).size=1+(x.size+e.size):=by rw [Ex.size_eq]; simp [Ex.two,Ex.kids,Ex.sizeL]
  simp [this,B4]
  omega
theorem U2 {L M:List Ex} (h:L.Perm M):B4 L=B4 M:=List.Perm.sum_nat (h.map Ex.size)
theorem Bh {tm am k:Int} {a b:Ex} (hk:k=6∨k=7) (ha:a.tree tm am=true) (hb:b.tree tm am=true):(Ex.two k a b).tree tm am=true:=by
 rcases hk with rfl|rfl<;>simp [Ex.two,Ex.tree,Ex.treeL,ha,hb,Cb,Bi,Ci]
theorem F8 {tm am k:Int} (hk:k=1∨k=2):(Ex.leaf k).tree tm am=true:=by
 rcases hk with rfl|rfl<;>simp [Ex.leaf,Ex.tree,Ex.treeL,Cb,Bi,Ci]
theorem Nu {tm am:Int}:∀(r:List Ex) (x:Ex),x.tree tm am=true→(∀y∈r,y.tree tm am=true)→(r.foldl (fun a b=>Ex.two 6 a b) x).tree tm am=true
 |[],x,h,_=>h
 |e::r,x,h,hr=>Nu r _ (Bh (Or.inl rfl) h (hr e (by simp))) (fun y hy=>hr y (by simp [hy]))
theorem Wt {tm am:Int} {x y:Ex} (hx:x.tree tm am=true) (hy:y.tree tm am=true):(Bk x y).tree tm am=true∧(Bk x y).size≤1+x.size+y.size:=by
 obtain ⟨x1,x2⟩:=Fg tm am _ x (Nat.le_refl _) hx;obtain ⟨y1,y2⟩:=Fg tm am _ y (Nat.le_refl _) hy
 have hm:∀z∈Et (nub (x.summ++y.summ)),z.tree tm am=true:=fun z hz=>by
  have:=Jk.1 ((Es _).mem_iff.1 hz)
  rcases List.mem_append.1 this with h|h
  ·exact (x1 z h).1
  exact (y1 z h).1
 have hs:=Pg (x.summ++y.summ);rw [Gd,List.length_append,←U2 (Es (nub _)),←(Es (nub _)).length_eq] at hs;unfold Bk;generalize Et (nub (x.summ++y.summ))=L at hm hs
 cases L with
 |nil=>exact ⟨F8 (Or.inl rfl),by simp [G7,Ex.leaf,Ex.size,Ex.sizeL]; omega⟩
 |cons z r=>
  refine ⟨Nu r z (hm z (by simp)) (fun q hq=>hm q (by simp [hq])), ?_⟩
  show (r.foldl (fun a b=>Ex.two 6 a b) z).size≤_
  rw [Mz]
  have hz:B4 (z::r)=z.size+B4 r:=by simp [B4]
  rw [hz,List.length_cons] at hs;omega
def Dp (k n:Int) (ks:List Ex) (fs:List (Ex→Ex)) (y:Ex):Ex:=
 if k=1∨y.kind=1 then .leaf 1 else if k=2 then y else if y.kind=2 then .mk k n ks
 else if k=7 then fs.foldr (fun f z=>f z) y else .two 7 (.mk k n ks) y
mutual
def Ex.dot:Ex→Ex→Ex
 | .mk k n ks=>fun y=>Dp k n ks (Ex.dotL ks) y
def Ex.dotL:List Ex→List (Ex→Ex)
 |[]=>[]
 |e::r=>e.dot::Ex.dotL r
end
theorem Ex.dot_eq (k n:Int) (ks:List Ex) (y:Ex):(Ex.mk k n ks).dot y=Dp k n ks (Ex.dotL ks) y:=by simp only [Ex.dot]
theorem Ex.dot_seven {n:Int} {a b y:Ex} (h1:y.kind≠1) (h2:y.kind≠2):(Ex.mk 7 n [a,b]).dot y=a.dot (b.dot y):=by
 rw [Ex.dot_eq]
 simp [Dp,h1,h2,Ex.dotL]
theorem Mq (tm am:Int) (N:Nat):∀x y:Ex,x.size≤N→x.tree tm am=true→y.tree tm am=true→(x.dot y).tree tm am=true∧(x.dot y).size≤1+x.size+y.size:=by
 induction N using Nat.strongRecOn with
 |_ N ih=>
 intro x y hN hx hy;obtain ⟨k,n,ks⟩:=x;have hs:=Ex.size_eq (.mk k n ks);simp only [Ex.kids] at hs
 by_cases h1:k=1∨y.kind=1
 ·rw [Ex.dot_eq,Dp,if_pos h1];exact ⟨F8 (Or.inl rfl),by simp [Ex.leaf,Ex.size,Ex.sizeL]; omega⟩
 by_cases h2:k=2
 ·rw [Ex.dot_eq,Dp,if_neg h1,if_pos h2];exact ⟨hy,by omega⟩
 by_cases h3:y.kind=2
 ·rw [Ex.dot_eq,Dp,if_neg h1,if_neg h2,if_pos h3];exact ⟨hx,by omega⟩
 by_cases h7:k=7
 ·subst h7;obtain ⟨hk, -, -, htl⟩:=Aq hx;obtain ⟨a,b,rfl⟩:=As hk (by omega);simp only [Ex.sizeL] at hs;obtain ⟨b1,b2⟩:=ih b.size (by omega) b y (Nat.le_refl _) (Ex.treeL_mem htl (by simp)) hy;obtain ⟨a1,a2⟩:=ih a.size (by omega) a (b.dot y) (Nat.le_refl _) (Ex.treeL_mem htl (by simp)) b1;rw [Ex.dot_seven (by omega) h3];exact ⟨a1,by omega⟩
 rw [Ex.dot_eq,Dp,if_neg h1,if_neg h2,if_neg h3,if_neg h7];exact ⟨Bh (Or.inr rfl) hx hy,by rw [Ex.size_eq]; simp [Ex.two,Ex.kids,Ex.sizeL]; omega⟩
def Ex.star (x:Ex):Ex:=if x.cond=true then .leaf 2 else if x.kind=8 then x else .mk 8 0 [x]
theorem Vm {tm am:Int} {x:Ex} (hx:x.tree tm am=true):x.star.tree tm am=true∧x.star.size≤1+x.size:=by
 unfold Ex.star
 split
 ·exact ⟨F8 (Or.inr rfl),by simp [Ex.leaf,Ex.size,Ex.sizeL]⟩
 split
 ·exact ⟨hx,by omega⟩
 exact ⟨by simp [Ex.tree,Ex.treeL,hx,Cb,Bi,Ci],by simp [Ex.size,Ex.sizeL]⟩
noncomputable def K4 (k n:Int) (ks ts:List Ex):Ex:=
 if k=6 then Bk (ts.getD 0 (.leaf 1)) (ts.getD 1 (.leaf 1)) else if k=7 then (ts.getD 0 (.leaf 1)).dot (ts.getD 1 (.leaf 1)) else if k=8 then (ts.getD 0 (.leaf 1)).star else .mk k n ks
mutual
noncomputable def Ex.tidy:Ex→Ex
 | .mk k n ks=>K4 k n ks (Ex.tidyL ks)
noncomputable def Ex.tidyL:List Ex→List Ex
 |[]=>[]
 |e::r=>e.tidy::Ex.tidyL r
end
theorem Ex.tidy_eq (k n:Int) (ks:List Ex):(Ex.mk k n ks).tidy=K4 k n ks (Ex.tidyL ks):=by simp only [Ex.tidy]
theorem Ex.tidy_sum {n:Int} {a b:Ex}:(Ex.mk 6 n [a,b]).tidy=Bk a.tidy b.tidy:=by rw [Ex.tidy_eq]; simp [K4,Ex.tidyL]
theorem Ex.tidy_dot {n:Int} {a b:Ex}:(Ex.mk 7 n [a,b]).tidy=a.tidy.dot b.tidy:=by rw [Ex.tidy_eq]; simp [K4,Ex.tidyL]
theorem Ex.tidy_star {n:Int} {a:Ex}:(Ex.mk 8 n [a]).tidy=a.tidy.star:=by rw [Ex.tidy_eq]; simp [K4,Ex.tidyL]
theorem Ex.tidy_else {k n:Int} {ks:List Ex} (h6:k≠6) (h7:k≠7) (h8:k≠8):(Ex.mk k n ks).tidy= .mk k n ks:=by rw [Ex.tidy_eq,K4,if_neg h6,if_neg h7,if_neg h8]
theorem Ce (tm am:Int) (N:Nat):∀e:Ex,e.size≤N→e.tree tm am=true→e.tidy.tree tm am=true∧e.tidy.size≤e.size:=by
 induction N using Nat.strongRecOn with
 |_ N ih=>
 intro e hN ht;obtain ⟨k,n,ks⟩:=e;obtain ⟨hk, -, -, htl⟩:=Aq ht;have hs:=Ex.size_eq (.mk k n ks);simp only [Ex.kids] at hs
 by_cases h67:k=6∨k=7
 ·obtain ⟨a,b,rfl⟩:=As hk h67;simp only [Ex.sizeL] at hs;obtain ⟨a1,a2⟩:=ih a.size (by omega) a (Nat.le_refl _) (Ex.treeL_mem htl (by simp));obtain ⟨b1,b2⟩:=ih b.size (by omega) b (Nat.le_refl _) (Ex.treeL_mem htl (by simp))
  rcases h67 with rfl|rfl
  ·rw [Ex.tidy_sum];obtain ⟨c1,c2⟩:=Wt a1 b1;exact ⟨c1,by omega⟩
  rw [Ex.tidy_dot];obtain ⟨c1,c2⟩:=Mq tm am _ a.tidy b.tidy (Nat.le_refl _) a1 b1;exact ⟨c1,by omega⟩
 by_cases h8:k=8
 ·subst h8;obtain ⟨a,rfl⟩:=Bq hk (by omega);simp only [Ex.sizeL] at hs;obtain ⟨a1,a2⟩:=ih a.size (by omega) a (Nat.le_refl _) (Ex.treeL_mem htl (by simp));rw [Ex.tidy_star];obtain ⟨c1,c2⟩:=Vm a1;exact ⟨c1,by omega⟩
 rw [Ex.tidy_else (by omega) (by omega) h8];exact ⟨ht,Nat.le_refl _⟩
end Go.Proofs.YtlchgfbkdjjngaaGreatDoor
