/-
  Parts of a proof, joined: Grow, TidyP. No condition.
-/
import Derived.Test.YtfopdcdbelaapaaGreatDoorPk8
set_option linter.unusedVariables false
set_option linter.unusedSimpArgs false
namespace Go.Proofs.YtfopdcdbelaapaaGreatDoor
section
variable {α:Type} [DecidableEq α]
def Cb (L:List α):Option α→List α
 |none=>L
 |some x=>if x∈L then L else L++[x]
def Bt (L:List α) (ss:List (Option α)):List α:=ss.foldl Cb L
def Dd (L:List α):Option α→Int
 |none=> -1
 |some x=>(L.idxOf x:Int)
def Ht (L:List α) (ss:List (Option α)) (m:Nat):List α:=Bt L (ss.take m)
def Bg (s:α) (succ:α→List (Option α)):Nat→List α
 |0=>[s]
 |k+1=>match (Bg s succ k)[k]? with
  |none=>Bg s succ k
  |some x=>Bt (Bg s succ k) (succ x)
theorem Rv (L:List α) (o:Option α):L <+: Cb L o:=by
 cases o with
 |none=>exact List.prefix_refl _
 |some x=>
  show L <+: if x∈L then L else L++[x]
  by_cases h:x∈L
  ·rw [if_pos h]; exact List.prefix_refl _
  rw [if_neg h]; exact List.prefix_append _ _
theorem Fd:∀(ss:List (Option α)) (L:List α),L <+: Bt L ss
 |[],L=>List.prefix_refl _
 |o::r,L=>(Rv L o).trans (Fd r (Cb L o))
theorem Fk (L:List α) (a b:List (Option α)):Bt L (a++b)=Bt (Bt L a) b:=List.foldl_append
theorem Wu (L:List α) (ss:List (Option α)):Ht L ss 0=L:=rfl
theorem Vv {L:List α} {ss:List (Option α)} {m:Nat} {o:Option α} (h:ss[m]? =some o):Ht L ss (m+1)=Cb (Ht L ss m) o:=by
 obtain ⟨hm,rfl⟩:=List.getElem?_eq_some_iff.1 h;unfold Ht;rw [List.take_succ_eq_append_getElem hm,Fk]
 rfl
theorem Ka {L:List α} {ss:List (Option α)} {m:Nat} (h:ss.length≤m):Ht L ss m=Bt L ss:=by
 unfold Ht;rw [List.take_of_length_le h]
theorem S2 (L:List α) (ss:List (Option α)) (m:Nat):L <+: Ht L ss m:=Fd _ _
theorem Yt {L:List α} {ss:List (Option α)} {m n:Nat} (h:m≤n):Ht L ss m <+: Ht L ss n:=by
 unfold Ht
 have:ss.take n=ss.take m++(ss.take n).drop m:=by
  have h1:=(List.take_append_drop m (ss.take n)).symm
  rwa [List.take_take,Nat.min_eq_left h] at h1
 rw [this,Fk];exact Fd _ _
omit [DecidableEq α] in
theorem En {L M:List α} (h:L <+: M) {i:Nat} {x:α} (hx:L[i]? =some x):M[i]? =some x:=by
 obtain ⟨r,rfl⟩:=h;rw [List.getElem?_append_left (List.getElem?_eq_some_iff.1 hx).1];exact hx
omit [DecidableEq α] in
theorem C7 {L M:List α} (h:L <+: M):L.length≤M.length:=by
 obtain ⟨r,rfl⟩:=h
 simp
theorem Cy {L:List α} {x:α} (h:x∈L):Cb L (some x)=L:=if_pos h
theorem Cz {L:List α} {x:α} (h:x∉L):Cb L (some x)=L++[x]:=if_neg h
theorem Ox {L:List α} {x:α}:x∈Cb L (some x):=by
 by_cases h:x∈L
 ·rw [Cy h]; exact h
 rw [Cz h]; simp
theorem Ss {L:List α} (h:L.Nodup) (o:Option α):(Cb L o).Nodup:=by
 cases o with
 |none=>exact h
 |some x=>
  by_cases hx:x∈L
  ·rw [Cy hx]; exact h
  rw [Cz hx,List.nodup_append]
  exact ⟨h,by simp,fun a ha b hb hab=>by
   simp only [List.mem_singleton] at hb
   exact hx (by rw [←hb,←hab]; exact ha)⟩
theorem Jc:∀(ss:List (Option α)) {L:List α},L.Nodup→(Bt L ss).Nodup
 |[],_,h=>h
 |o::r,_,h=>Jc r (Ss h o)
theorem Ug {L:List α} (h:L.Nodup) (ss:List (Option α)) (m:Nat):(Ht L ss m).Nodup:=Jc _ h
theorem H6 (s:α) (succ:α→List (Option α)):∀k,(Bg s succ k).Nodup
 |0=>by simp [Bg]
 |k+1=>by
  simp only [Bg]
  split
  ·exact H6 s succ k
  exact Jc _ (H6 s succ k)
theorem Ix {s:α} {succ:α→List (Option α)} {k:Nat} {x:α} (h:(Bg s succ k)[k]? =some x):Bg s succ (k+1)=Bt (Bg s succ k) (succ x):=by
 simp only [Bg,h]
theorem I1 {s:α} {succ:α→List (Option α)} {k:Nat} (h:(Bg s succ k).length≤k):∀m,k≤m→Bg s succ m=Bg s succ k:=by
 intro m hm
 induction hm with
 |refl=>rfl
 |step hkm ih=>
  simp only [Bg,ih];rw [List.getElem?_eq_none (by have:k≤_:=hkm; omega)]
theorem Ly (s:α) (succ:α→List (Option α)) (k:Nat):Bg s succ k <+: Bg s succ (k+1):=by
 simp only [Bg]
 split
 ·exact List.prefix_refl _
 exact Fd _ _
theorem Ew (s:α) (succ:α→List (Option α)) {k m:Nat} (h:k≤m):Bg s succ k <+: Bg s succ m:=by
 induction h with
 |refl=>exact List.prefix_refl _
 |step _ ih=>exact ih.trans (Ly s succ _)
theorem Xe (s:α) (succ:α→List (Option α)) (k:Nat):1≤(Bg s succ k).length:=by
 have:=C7 (Ew s succ (Nat.zero_le k))
 simpa [Bg] using this
theorem Qe {L M:List α} (h:L <+: M) {x:α} (hx:x∈L):M.idxOf x=L.idxOf x:=by
 obtain ⟨r,rfl⟩:=h;rw [List.idxOf_append,if_pos hx]
theorem Sd {L:List α} (hn:L.Nodup) {i:Nat} {x:α} (h:L[i]? =some x):L.idxOf x=i:=by
 obtain ⟨hi,rfl⟩:=List.getElem?_eq_some_iff.1 h;exact hn.idxOf_getElem i hi
theorem Vj {L:List α} {x:α} (h:x∉L):(L++[x]).idxOf x=L.length:=by
 rw [List.idxOf_append,if_neg h]
 simp
theorem Yg {L:List α} {o:Option α} (h:∀x,o=some x→x∈L): -1≤Dd L o∧Dd L o<L.length:=by
 cases o with
 |none=>simp only [Dd]; omega
 |some x=>
  have:=List.idxOf_lt_length_of_mem (h x rfl);simp only [Dd];omega
end
noncomputable instance exDec:DecidableEq Ex:=fun a b=>Classical.propDecidable (a=b)
def Ex.two (k:Int) (a b:Ex):Ex:= .mk k 0 [a,b]
def Ex.leaf (k:Int):Ex:= .mk k 0 []
def P5 (k n:Int) (ks:List Ex) (rs:List (List Ex)):List Ex:=if k=1 then [] else if k=6 then rs.flatten else [.mk k n ks]
mutual
def Ex.summ:Ex→List Ex
 | .mk k n ks=>P5 k n ks (Ex.summL ks)
def Ex.summL:List Ex→List (List Ex)
 |[]=>[]
 |e::r=>e.summ::Ex.summL r
end
theorem Ex.summ_zero {n:Int} {ks:List Ex}:(Ex.mk 1 n ks).summ=[]:=by simp [Ex.summ,P5]
theorem Ex.summ_sum {n:Int} {a b:Ex}:(Ex.mk 6 n [a,b]).summ=a.summ++b.summ:=by simp [Ex.summ,P5,Ex.summL]
theorem Ex.summ_else {k n:Int} {ks:List Ex} (h1:k≠1) (h6:k≠6):(Ex.mk k n ks).summ=[.mk k n ks]:=by simp [Ex.summ,P5,h1,h6]
def B4 (L:List Ex):Nat:=(L.map Ex.size).sum
theorem Ge (a b:List Ex):B4 (a++b)=B4 a+B4 b:=by simp [B4]
theorem Ff (tm am:Int) (N:Nat):∀e:Ex,e.size≤N→e.tree tm am=true→(∀x∈e.summ,x.tree tm am=true∧x.size≤e.size)∧B4 e.summ+e.summ.length≤e.size+1:=by
 induction N using Nat.strongRecOn with
 |_ N ih=>
 intro e hN ht;obtain ⟨k,n,ks⟩:=e
 by_cases h1:k=1
 ·subst h1;rw [Ex.summ_zero]
  simp [B4]
 by_cases h6:k=6
 ·subst h6;obtain ⟨hk, -, -, htl⟩:=Aq ht;obtain ⟨a,b,rfl⟩:=As hk (by omega);have hs:=Ex.size_eq (.mk 6 n [a,b]);simp only [Ex.kids,Ex.sizeL] at hs;obtain ⟨a1,a2⟩:=ih a.size (by omega) a (Nat.le_refl _) (Ex.treeL_mem htl (by simp));obtain ⟨b1,b2⟩:=ih b.size (by omega) b (Nat.le_refl _) (Ex.treeL_mem htl (by simp));rw [Ex.summ_sum];refine ⟨fun x hx=> ?_,by rw [Ge,List.length_append]; omega⟩
  rcases List.mem_append.1 hx with hx|hx
  ·exact ⟨(a1 x hx).1,by have:=(a1 x hx).2; omega⟩
  exact ⟨(b1 x hx).1,by have:=(b1 x hx).2; omega⟩
 rw [Ex.summ_else h1 h6];refine ⟨fun x hx=> ?_,by simp [B4]⟩;rw [List.mem_singleton] at hx;subst hx;exact ⟨ht,Nat.le_refl _⟩
def Ex.lt (a b:Ex):Bool:=decide (a.text<b.text)
def Hq (e:Ex) (L:List Ex):List Ex:=L.takeWhile (fun x=>Ex.lt x e)++e::L.dropWhile (fun x=>x.lt e)
def El (L:List Ex):List Ex:=L.foldl (fun acc e=>Hq e acc) []
theorem O2 (e:Ex) (L:List Ex):(Hq e L).Perm (e::L):=by
 unfold Hq;refine List.perm_middle.trans ?_;rw [List.takeWhile_append_dropWhile]
theorem Jl:∀(L acc:List Ex),(L.foldl (fun acc e=>Hq e acc) acc).Perm (acc++L)
 |[],acc=>by simp
 |e::r,acc=>by
  refine (Jl r (Hq e acc)).trans ?_;refine ((O2 e acc).append_right r).trans ?_;exact (List.perm_middle (a:=e) (l₁:=acc) (l₂:=r)).symm
theorem Ep (L:List Ex):(El L).Perm L:=by have:=Jl L []; rwa [List.nil_append] at this
def leT (a b:Ex):Prop:=¬b.text<a.text
theorem Vs {a b c:Ex} (h:leT a b) (k:leT b c):leT a c:=by
 unfold leT at*;rw [List.not_lt] at*;exact List.le_trans h k
theorem Vp {a b:Ex} (h:a.text<b.text):leT a b:=List.lt_asymm h
theorem Lo (e:Ex):∀L:List Ex,L.Pairwise leT→(Hq e L).Pairwise leT
 |[],_=>by simp [Hq]
 |x::r,h=>by
  rw [List.pairwise_cons] at h;unfold Hq
  by_cases hx:x.lt e=true
  ·rw [List.takeWhile_cons_of_pos (p:=fun x=>Ex.lt x e) hx,List.dropWhile_cons_of_pos (p:=fun x=>Ex.lt x e) hx,List.cons_append,List.pairwise_cons];refine ⟨fun y hy=> ?_,Lo e r h.2⟩;have hy':y∈Hq e r:=hy
   rcases List.mem_cons.1 ((O2 e r).mem_iff.1 hy') with rfl|hy2
   ·exact Vp (by simpa [Ex.lt] using hx)
   exact h.1 y hy2
  rw [List.takeWhile_cons_of_neg (p:=fun x=>Ex.lt x e) hx,List.dropWhile_cons_of_neg (p:=fun x=>Ex.lt x e) hx,List.nil_append,List.pairwise_cons]
  have hxe:leT e x:=by simpa [Ex.lt,leT] using hx
  refine ⟨fun y hy=> ?_,List.pairwise_cons.2 h⟩
  rcases List.mem_cons.1 hy with rfl|hy
  ·exact hxe
  exact Vs hxe (h.1 y hy)
theorem Ij:∀(L acc:List Ex),acc.Pairwise leT→(L.foldl (fun acc e=>Hq e acc) acc).Pairwise leT
 |[],_,h=>h
 |e::r,acc,h=>Ij r _ (Lo e acc h)
theorem P9 (L:List Ex):(El L).Pairwise leT:=Ij L [] List.Pairwise.nil
theorem Qz {tm am:Int} (ht:tm≤8) (ha:am≤8) {L M:List Ex} (hL:∀x∈L,x.tree tm am=true) (hp:M.Perm L) (hs:M.Pairwise leT):M=El L:=by
 refine List.Perm.eq_of_pairwise (le:=leT) (fun a b h1 h2 h3 h4=> ?_) hs (P9 L) (hp.trans (Ep L).symm);have ha':=hL a (hp.mem_iff.1 h1);have hb':=hL b ((Ep L).mem_iff.1 h2);unfold leT at h3 h4;rw [List.not_lt] at h3 h4;exact L8 ht ha ha' hb' (List.le_antisymm h3 h4)
noncomputable def nub (L:List Ex):List Ex:=Bt [] (L.map some)
def Gz:List Ex→Ex
 |[]=> .leaf 1
 |x::r=>r.foldl (fun a b=> .two 6 a b) x
noncomputable def Bl (x y:Ex):Ex:=Gz (El (nub (x.summ++y.summ)))
theorem O9 {α:Type} [DecidableEq α]:∀(ss:List α) (L:List α) (x:α),x∈Bt L (ss.map some)↔x∈L∨x∈ss
 |[],L,x=>by simp [Bt]
 |s::r,L,x=>by
  show x∈Bt (Cb L (some s)) (r.map some)↔_
  rw [O9 r]
  by_cases h:s∈L
  ·rw [Cy h]
   constructor
   ·rintro (q|q); exact Or.inl q; exact Or.inr (List.mem_cons_of_mem _ q)
   rintro (q|q)
   ·exact Or.inl q
   rcases List.mem_cons.1 q with rfl|q; exact Or.inl h; exact Or.inr q
  rw [Cz h]
  simp [or_assoc]
theorem Jo {L:List Ex} {x:Ex}:x∈nub L↔x∈L:=by unfold nub; rw [O9]; simp
theorem Mv:∀(ss:List Ex) (L:List Ex),B4 (Bt L (ss.map some))+(Bt L (ss.map some)).length≤B4 L+L.length+(B4 ss+ss.length)
 |[],L=>by simp [Bt,B4]
 |s::r,L=>by
  show B4 (Bt (Cb L (some s)) (r.map some))+(Bt (Cb L (some s)) (r.map some)).length≤_
  have:=Mv r (Cb L (some s))
  have h2:B4 (s::r)=s.size+B4 r:=by simp [B4]
  have h3:B4 (Cb L (some s))+(Cb L (some s)).length≤B4 L+L.length+(s.size+1):=by
   by_cases h:s∈L
   ·rw [Cy h]; omega
   rw [Cz h,Ge,List.length_append]
   simp [B4]
   omega
  rw [h2,List.length_cons];omega
theorem Om (L:List Ex):B4 (nub L)+(nub L).length≤B4 L+L.length:=by
 have:=Mv L []
 simpa [nub,B4] using this
theorem Ng:∀(r:List Ex) (x:Ex),(r.foldl (fun a b=>Ex.two 6 a b) x).size=x.size+B4 r+r.length
 |[],x=>by simp [B4]
 |e::r,x=>by
  rw [List.foldl_cons,Ng r]
  have:(Ex.two 6 x e).size=1+(x.size+e.size):=by rw [Ex.size_eq]; simp [Ex.two,Ex.kids,Ex.sizeL]
  simp [this,B4]
  omega
theorem Uz {L M:List Ex} (h:L.Perm M):B4 L=B4 M:=List.Perm.sum_nat (h.map Ex.size)
theorem Bh {tm am k:Int} {a b:Ex} (hk:k=6∨k=7) (ha:a.tree tm am=true) (hb:b.tree tm am=true):(Ex.two k a b).tree tm am=true:=by
 rcases hk with rfl|rfl<;>simp [Ex.two,Ex.tree,Ex.treeL,ha,hb,Cd,Bi,Ci]
theorem F8 {tm am k:Int} (hk:k=1∨k=2):(Ex.leaf k).tree tm am=true:=by
 rcases hk with rfl|rfl<;>simp [Ex.leaf,Ex.tree,Ex.treeL,Cd,Bi,Ci]
theorem Na {tm am:Int}:∀(r:List Ex) (x:Ex),x.tree tm am=true→(∀y∈r,y.tree tm am=true)→(r.foldl (fun a b=>Ex.two 6 a b) x).tree tm am=true
 |[],x,h,_=>h
 |e::r,x,h,hr=>Na r _ (Bh (Or.inl rfl) h (hr e (by simp))) (fun y hy=>hr y (by simp [hy]))
theorem Vy {tm am:Int} {x y:Ex} (hx:x.tree tm am=true) (hy:y.tree tm am=true):(Bl x y).tree tm am=true∧(Bl x y).size≤1+x.size+y.size:=by
 obtain ⟨x1,x2⟩:=Ff tm am _ x (Nat.le_refl _) hx;obtain ⟨y1,y2⟩:=Ff tm am _ y (Nat.le_refl _) hy
 have hm:∀z∈El (nub (x.summ++y.summ)),z.tree tm am=true:=fun z hz=>by
  have:=Jo.1 ((Ep _).mem_iff.1 hz)
  rcases List.mem_append.1 this with h|h
  ·exact (x1 z h).1
  exact (y1 z h).1
 have hs:=Om (x.summ++y.summ);rw [Ge,List.length_append,←Uz (Ep (nub _)),←(Ep (nub _)).length_eq] at hs;unfold Bl;generalize El (nub (x.summ++y.summ))=L at hm hs
 cases L with
 |nil=>exact ⟨F8 (Or.inl rfl),by simp [Gz,Ex.leaf,Ex.size,Ex.sizeL]; omega⟩
 |cons z r=>
  refine ⟨Na r z (hm z (by simp)) (fun q hq=>hm q (by simp [hq])), ?_⟩
  show (r.foldl (fun a b=>Ex.two 6 a b) z).size≤_
  rw [Ng]
  have hz:B4 (z::r)=z.size+B4 r:=by simp [B4]
  rw [hz,List.length_cons] at hs;omega
def Dp (k n:Int) (ks:List Ex) (fs:List (Ex→Ex)) (y:Ex):Ex:=
 if k=1∨y.kind=1 then .leaf 1 else if k=2 then y else if y.kind=2 then .mk k n ks
 else if k=7 then fs.foldr (fun f z=>f z) y else .two 7 (.mk k n ks) y
mutual
def Ex.dot:Ex→Ex→Ex
 | .mk k n ks=>fun y=>Dp k n ks (Ex.dotL ks) y
def Ex.dotL:List Ex→List (Ex→Ex)
 |[]=>[]
 |e::r=>e.dot::Ex.dotL r
end
theorem Ex.dot_eq (k n:Int) (ks:List Ex) (y:Ex):(Ex.mk k n ks).dot y=Dp k n ks (Ex.dotL ks) y:=by simp only [Ex.dot]
theorem Ex.dot_seven {n:Int} {a b y:Ex} (h1:y.kind≠1) (h2:y.kind≠2):(Ex.mk 7 n [a,b]).dot y=a.dot (b.dot y):=by
 rw [Ex.dot_eq]
 simp [Dp,h1,h2,Ex.dotL]
theorem Lz (tm am:Int) (N:Nat):∀x y:Ex,x.size≤N→x.tree tm am=true→y.tree tm am=true→(x.dot y).tree tm am=true∧(x.dot y).size≤1+x.size+y.size:=by
 induction N using Nat.strongRecOn with
 |_ N ih=>
 intro x y hN hx hy;obtain ⟨k,n,ks⟩:=x;have hs:=Ex.size_eq (.mk k n ks);simp only [Ex.kids] at hs
 by_cases h1:k=1∨y.kind=1
 ·rw [Ex.dot_eq,Dp,if_pos h1];exact ⟨F8 (Or.inl rfl),by simp [Ex.leaf,Ex.size,Ex.sizeL]; omega⟩
 by_cases h2:k=2
 ·rw [Ex.dot_eq,Dp,if_neg h1,if_pos h2];exact ⟨hy,by omega⟩
 by_cases h3:y.kind=2
 ·rw [Ex.dot_eq,Dp,if_neg h1,if_neg h2,if_pos h3];exact ⟨hx,by omega⟩
 by_cases h7:k=7
 ·subst h7;obtain ⟨hk, -, -, htl⟩:=Aq hx;obtain ⟨a,b,rfl⟩:=As hk (by omega);simp only [Ex.sizeL] at hs;obtain ⟨b1,b2⟩:=ih b.size (by omega) b y (Nat.le_refl _) (Ex.treeL_mem htl (by simp)) hy;obtain ⟨a1,a2⟩:=ih a.size (by omega) a (b.dot y) (Nat.le_refl _) (Ex.treeL_mem htl (by simp)) b1;rw [Ex.dot_seven (by omega) h3];exact ⟨a1,by omega⟩
 rw [Ex.dot_eq,Dp,if_neg h1,if_neg h2,if_neg h3,if_neg h7];exact ⟨Bh (Or.inr rfl) hx hy,by rw [Ex.size_eq]; simp [Ex.two,Ex.kids,Ex.sizeL]; omega⟩
def Ex.star (x:Ex):Ex:=if x.cond=true then .leaf 2 else if x.kind=8 then x else .mk 8 0 [x]
theorem Wv {tm am:Int} {x:Ex} (hx:x.tree tm am=true):x.star.tree tm am=true∧x.star.size≤1+x.size:=by
 unfold Ex.star
 split
 ·exact ⟨F8 (Or.inr rfl),by simp [Ex.leaf,Ex.size,Ex.sizeL]⟩
 split
 ·exact ⟨hx,by omega⟩
 exact ⟨by simp [Ex.tree,Ex.treeL,hx,Cd,Bi,Ci],by simp [Ex.size,Ex.sizeL]⟩
noncomputable def Lf (k n:Int) (ks ts:List Ex):Ex:=
 if k=6 then Bl (ts.getD 0 (.leaf 1)) (ts.getD 1 (.leaf 1)) else if k=7 then (ts.getD 0 (.leaf 1)).dot (ts.getD 1 (.leaf 1)) else if k=8 then (ts.getD 0 (.leaf 1)).star else .mk k n ks
mutual
noncomputable def Ex.tidy:Ex→Ex
 | .mk k n ks=>Lf k n ks (Ex.tidyL ks)
noncomputable def Ex.tidyL:List Ex→List Ex
 |[]=>[]
 |e::r=>e.tidy::Ex.tidyL r
end
theorem Ex.tidy_eq (k n:Int) (ks:List Ex):(Ex.mk k n ks).tidy=Lf k n ks (Ex.tidyL ks):=by simp only [Ex.tidy]
theorem Ex.tidy_sum {n:Int} {a b:Ex}:(Ex.mk 6 n [a,b]).tidy=Bl a.tidy b.tidy:=by rw [Ex.tidy_eq]; simp [Lf,Ex.tidyL]
theorem Ex.tidy_dot {n:Int} {a b:Ex}:(Ex.mk 7 n [a,b]).tidy=a.tidy.dot b.tidy:=by rw [Ex.tidy_eq]; simp [Lf,Ex.tidyL]
theorem Ex.tidy_star {n:Int} {a:Ex}:(Ex.mk 8 n [a]).tidy=a.tidy.star:=by rw [Ex.tidy_eq]; simp [Lf,Ex.tidyL]
theorem Ex.tidy_else {k n:Int} {ks:List Ex} (h6:k≠6) (h7:k≠7) (h8:k≠8):(Ex.mk k n ks).tidy= .mk k n ks:=by rw [Ex.tidy_eq,Lf,if_neg h6,if_neg h7,if_neg h8]
theorem Cf (tm am:Int) (N:Nat):∀e:Ex,e.size≤N→e.tree tm am=true→e.tidy.tree tm am=true∧e.tidy.size≤e.size:=by
 induction N using Nat.strongRecOn with
 |_ N ih=>
 intro e hN ht;obtain ⟨k,n,ks⟩:=e;obtain ⟨hk, -, -, htl⟩:=Aq ht;have hs:=Ex.size_eq (.mk k n ks);simp only [Ex.kids] at hs
 by_cases h67:k=6∨k=7
 ·obtain ⟨a,b,rfl⟩:=As hk h67;simp only [Ex.sizeL] at hs;obtain ⟨a1,a2⟩:=ih a.size (by omega) a (Nat.le_refl _) (Ex.treeL_mem htl (by simp));obtain ⟨b1,b2⟩:=ih b.size (by omega) b (Nat.le_refl _) (Ex.treeL_mem htl (by simp))
  rcases h67 with rfl|rfl
  ·rw [Ex.tidy_sum];obtain ⟨c1,c2⟩:=Vy a1 b1;exact ⟨c1,by omega⟩
  rw [Ex.tidy_dot];obtain ⟨c1,c2⟩:=Lz tm am _ a.tidy b.tidy (Nat.le_refl _) a1 b1;exact ⟨c1,by omega⟩
 by_cases h8:k=8
 ·subst h8;obtain ⟨a,rfl⟩:=Br hk (by omega);simp only [Ex.sizeL] at hs;obtain ⟨a1,a2⟩:=ih a.size (by omega) a (Nat.le_refl _) (Ex.treeL_mem htl (by simp));rw [Ex.tidy_star];obtain ⟨c1,c2⟩:=Wv a1;exact ⟨c1,by omega⟩
 rw [Ex.tidy_else (by omega) (by omega) h8];exact ⟨ht,Nat.le_refl _⟩
end Go.Proofs.YtfopdcdbelaapaaGreatDoor
