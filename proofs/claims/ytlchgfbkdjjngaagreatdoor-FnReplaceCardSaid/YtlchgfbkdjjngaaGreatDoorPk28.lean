/-
  Parts of a proof, joined: Lang, StP, Nest, Aut3, Valid, LiveP, Run, PrP, New6. No condition.
-/
import Derived.Test.YtlchgfbkdjjngaaGreatDoorPk14
set_option linter.unusedVariables false
set_option linter.unusedSimpArgs false
namespace Go.Proofs.YtlchgfbkdjjngaaGreatDoor
def Lng:=List (Nat × Nat)→Nat→Prop
def hdA:List (Nat × Nat)→Nat→Nat
 |[],m=>m
 |p::_,_=>p.1
theorem Eq (u v:List (Nat × Nat)) (m:Nat):hdA (u++v) m=hdA u (hdA v m):=by cases u<;>rfl
def Rj (K L:Lng):Lng:=fun ws m=>K ws m∨L ws m
def Fd (K L:Lng):Lng:=fun ws m=>∃u v,ws=u++v∧K u (hdA v m)∧L v m
inductive Ky (K:Lng):List (Nat × Nat)→Nat→Prop
 |nil (m:Nat):Ky K [] m
 |cons (u v:List (Nat × Nat)) (m:Nat):K u (hdA v m)→Ky K v m→Ky K (u++v) m
def Bj (K:Lng):Lng:=fun ws m=>Ky K ws m
theorem Bj.nil {K:Lng} (m:Nat):Bj K [] m:=Ky.nil m
theorem Bj.cons {K:Lng} (u v:List (Nat × Nat)) (m:Nat) (h:K u (hdA v m)) (k:Bj K v m):Bj K (u++v) m:=Ky.cons u v m h k
def Rw:Lng:=fun ws _=>ws=[]
def actG (n:Int):Lng:=fun ws _=>∃p y:Nat,ws=[(p,y)]∧(y:Int)=n
def cndG (e:Ex):Lng:=fun ws m=>ws=[]∧e.emp (m:Int)=true
def noG:Lng:=fun _ _=>False
def Mf (k n:Int) (ks:List Ex) (Ls:List Lng):Lng:=
 if k=4 then actG n
 else if k=6 then Rj (Ls.getD 0 noG) (Ls.getD 1 noG)
 else if k=7 then Fd (Ls.getD 0 noG) (Ls.getD 1 noG)
 else if k=8 then Bj (Ls.getD 0 noG)
 else cndG (.mk k n ks)
mutual
def Ex.lng:Ex→Lng
 | .mk k n ks=>Mf k n ks (Ex.lngL ks)
def Ex.lngL:List Ex→List Lng
 |[]=>[]
 |e::r=>e.lng::Ex.lngL r
end
theorem Ex.lng_eq (k n:Int) (ks:List Ex):(Ex.mk k n ks).lng=Mf k n ks (Ex.lngL ks):=by simp only [Ex.lng]
theorem Ex.lng_act {n:Int} {ks:List Ex}:(Ex.mk 4 n ks).lng=actG n:=by rw [Ex.lng_eq]; simp [Mf]
theorem Ex.lng_sum {n:Int} {a b:Ex}:(Ex.mk 6 n [a,b]).lng=Rj a.lng b.lng:=by rw [Ex.lng_eq]; simp [Mf,Ex.lngL]
theorem Ex.lng_dot {n:Int} {a b:Ex}:(Ex.mk 7 n [a,b]).lng=Fd a.lng b.lng:=by rw [Ex.lng_eq]; simp [Mf,Ex.lngL]
theorem Ex.lng_star {n:Int} {a:Ex}:(Ex.mk 8 n [a]).lng=Bj a.lng:=by
 rw [Ex.lng_eq]
 simp [Mf,Ex.lngL]
theorem Ex.lng_else {k n:Int} {ks:List Ex} (h4:k≠4) (h6:k≠6) (h7:k≠7) (h8:k≠8):(Ex.mk k n ks).lng=cndG (.mk k n ks):=by
 rw [Ex.lng_eq];unfold Mf;rw [if_neg h4,if_neg h6,if_neg h7];exact if_neg h8
theorem W2 {m n:Int} {ks:List Ex}:(Ex.mk 1 n ks).emp m=false:=by simp [Ex.emp,Dw]
theorem Ym {m n:Int} {ks:List Ex}:(Ex.mk 2 n ks).emp m=true:=by simp [Ex.emp,Dw]
theorem Yi {m n:Int} {ks:List Ex}:(Ex.mk 4 n ks).emp m=false:=by simp [Ex.emp,Dw]
theorem Yr {m n:Int} {a b:Ex}:(Ex.mk 6 n [a,b]).emp m=(a.emp m||b.emp m):=by simp [Ex.emp,Dw,Ex.empL]
theorem Yp {m n:Int} {a b:Ex}:(Ex.mk 7 n [a,b]).emp m=(a.emp m&&b.emp m):=by simp [Ex.emp,Dw,Ex.empL]
theorem Xw {m n:Int} {a:Ex}:(Ex.mk 8 n [a]).emp m=true:=by simp [Ex.emp,Dw]
theorem Ex.lng_zero {n:Int} {ks:List Ex} {ws:List (Nat × Nat)} {m:Nat}:¬(Ex.mk 1 n ks).lng ws m:=by
 rw [Ex.lng_else (by omega) (by omega) (by omega) (by omega)];rintro ⟨-, h⟩;rw [W2] at h
 cases h
theorem Ex.lng_one {n:Int} {ks:List Ex}:(Ex.mk 2 n ks).lng=Rw:=by
 rw [Ex.lng_else (by omega) (by omega) (by omega) (by omega)];exact funext fun ws=>funext fun m=>propext ⟨fun h=>h.1,fun h=>⟨h,Ym⟩⟩
theorem Lng.ext {K L:Lng} (h:∀ws m,K ws m↔L ws m):K=L:=funext fun ws=>funext fun m=>propext (h ws m)
def Le:Lng:=fun _ _=>False
theorem P3 (L:Lng):Fd Rw L=L:=Lng.ext fun ws m=>⟨by rintro ⟨u,v,rfl,rfl,h⟩; exact h,fun h=>⟨[],ws,rfl,rfl,h⟩⟩
theorem N6 (L:Lng):Fd L Rw=L:=Lng.ext fun ws m=>⟨by rintro ⟨u,v,rfl,h,rfl⟩; rw [List.append_nil]; exact h,fun h=>⟨ws,[],by simp,h,rfl⟩⟩
theorem Od (L:Lng):Fd Le L=Le:=Lng.ext fun ws m=>⟨by rintro ⟨u,v,rfl,h,_⟩; exact h,fun h=>h.elim⟩
theorem Mu (L:Lng):Fd L Le=Le:=Lng.ext fun ws m=>⟨by rintro ⟨u,v,rfl,_,h⟩; exact h,fun h=>h.elim⟩
theorem Ty (J K L:Lng):Fd (Fd J K) L=Fd J (Fd K L):=Lng.ext fun ws m=>by
 constructor
 ·rintro ⟨u,v,rfl,⟨p,q,rfl,hp,hq⟩,hv⟩;exact ⟨p,q++v,by simp,by rw [Eq]; exact hp,q,v,rfl,hq,hv⟩
 rintro ⟨u,v,rfl,hu,⟨p,q,rfl,hp,hq⟩⟩;exact ⟨u++p,q,by simp,⟨u,p,rfl,by rw [Eq] at hu; exact hu,hp⟩,hq⟩
theorem Bj.one {K:Lng} {u:List (Nat × Nat)} {m:Nat} (h:K u m):Bj K u m:=by
 have:=Bj.cons u [] m h (Bj.nil m)
 rwa [List.append_nil] at this
theorem Bj.append {K:Lng} {u v:List (Nat × Nat)} {m:Nat} (hu:Bj K u (hdA v m)) (hv:Bj K v m):Bj K (u++v) m:=by
 generalize hx:hdA v m=x at hu
 induction hu with
 |nil=>exact hv
 |cons p q y hp hq ih=>
  subst hx;rw [List.append_assoc];exact Bj.cons p (q++v) m (by rw [Eq]; exact hp) (ih rfl)
theorem Bj.star {K:Lng} {ws:List (Nat × Nat)} {m:Nat} (hs:Bj (Bj K) ws m):Bj K ws m:=by
 induction hs with
 |nil=>exact Bj.nil _
 |cons u v m hu _ ih=>exact Bj.append hu ih
theorem Uh (K:Lng):Bj (Bj K)=Bj K:=Lng.ext fun _ _=>⟨Bj.star,Bj.one⟩
theorem Bj.step {K:Lng} {p:Nat × Nat} {ws:List (Nat × Nat)} {m:Nat}:Bj K (p::ws) m↔∃u v,ws=u++v∧K (p::u) (hdA v m)∧Bj K v m:=by
 constructor
 ·intro h;generalize hx:p::ws=x at h
  induction h with
  |nil=>cases hx
  |cons u v m hu hv ih=>
   cases u with
   |nil=>exact ih hx
   |cons q u=>
    simp only [List.cons_append,List.cons.injEq] at hx;obtain ⟨rfl,rfl⟩:=hx;exact ⟨u,v,rfl,hu,hv⟩
 rintro ⟨u,v,rfl,hu,hv⟩;exact Bj.cons (p::u) v m hu hv
theorem Wd {K L:Lng} {p:Nat × Nat} {ws:List (Nat × Nat)} {m:Nat}:Fd K L (p::ws) m↔Fd (fun us x=>K (p::us) x) L ws m∨(K [] p.1∧L (p::ws) m):=by
 constructor
 ·rintro ⟨u,v,h,hu,hv⟩
  cases u with
  |nil=>
   simp only [List.nil_append] at h;subst h;exact Or.inr ⟨hu,hv⟩
  |cons q u=>
   simp only [List.cons_append,List.cons.injEq] at h;obtain ⟨rfl,rfl⟩:=h;exact Or.inl ⟨u,v,rfl,hu,hv⟩
 rintro (⟨u,v,rfl,hu,hv⟩|⟨hu,hv⟩)
 ·exact ⟨p::u,v,rfl,hu,hv⟩
 exact ⟨[],p::ws,rfl,hu,hv⟩
theorem S3 (tm am:Int) (N:Nat):∀e:Ex,e.size≤N→e.tree tm am=true→∀m:Nat,e.lng [] m↔e.emp (m:Int)=true:=by
 induction N using Nat.strongRecOn with
 |_ N ih=>
 intro e hN ht m;obtain ⟨k,n,ks⟩:=e;obtain ⟨hk, -, -, htl⟩:=Aq ht;have hs:=Ex.size_eq (.mk k n ks);simp only [Ex.kids] at hs
 by_cases h67:k=6∨k=7
 ·obtain ⟨a,b,rfl⟩:=As hk h67;simp only [Ex.sizeL] at hs;have ha:=ih a.size (by omega) a (Nat.le_refl _) (Ex.treeL_mem htl (by simp)) m;have hb:=ih b.size (by omega) b (Nat.le_refl _) (Ex.treeL_mem htl (by simp)) m
  rcases h67 with rfl|rfl
  ·rw [Ex.lng_sum,Yr,Bool.or_eq_true,←ha,←hb]
   rfl
  rw [Ex.lng_dot,Yp,Bool.and_eq_true,←ha,←hb]
  constructor
  ·rintro ⟨u,v,h,hu,hv⟩;obtain ⟨rfl,rfl⟩:=List.append_eq_nil_iff.1 h.symm;exact ⟨hu,hv⟩
  rintro ⟨hu,hv⟩;exact ⟨[],[],rfl,hu,hv⟩
 by_cases h8:k=8
 ·subst h8;obtain ⟨a,rfl⟩:=Bq hk (by omega);rw [Ex.lng_star,Xw];exact ⟨fun _=>rfl,fun _=>Bj.nil _⟩
 by_cases h4:k=4
 ·subst h4;rw [Ex.lng_act,Yi];refine ⟨?_,fun h=>by cases h⟩;rintro ⟨p,y,h, -⟩
  cases h
 rw [Ex.lng_else h4 (by omega) (by omega) h8];exact ⟨fun h=>h.2,fun h=>⟨rfl,h⟩⟩
theorem Lo {k:Int} (h:Bl k=true):k≠4∧k≠8:=by
 simp only [Bl,decide_eq_true_eq] at h;omega
theorem Xu (tm am:Int) (N:Nat):∀e:Ex,e.size≤N→e.tree tm am=true→e.cond=true→∀ws m,e.lng ws m→ws=[]:=by
 induction N using Nat.strongRecOn with
 |_ N ih=>
 intro e hN ht hc ws m h;obtain ⟨k,n,ks⟩:=e;obtain ⟨hk, -, -, htl⟩:=Aq ht;rw [Ex.cond_eq,Bool.and_eq_true] at hc;obtain ⟨hck,hcl⟩:=hc;simp only [Ex.kids,Ex.kind] at hck hcl;have hs:=Ex.size_eq (.mk k n ks);simp only [Ex.kids] at hs;obtain ⟨h4,h8⟩:=Lo hck
 by_cases h67:k=6∨k=7
 ·obtain ⟨a,b,rfl⟩:=As hk h67;simp only [Ex.sizeL] at hs;have ha:=ih a.size (by omega) a (Nat.le_refl _) (Ex.treeL_mem htl (by simp)) (Ex.condL_mem hcl (by simp));have hb:=ih b.size (by omega) b (Nat.le_refl _) (Ex.treeL_mem htl (by simp)) (Ex.condL_mem hcl (by simp))
  rcases h67 with rfl|rfl
  ·rw [Ex.lng_sum] at h
   rcases h with h|h
   ·exact ha _ _ h
   exact hb _ _ h
  rw [Ex.lng_dot] at h;obtain ⟨u,v,rfl,hu,hv⟩:=h;rw [ha _ _ hu,hb _ _ hv]
  rfl
 rw [Ex.lng_else h4 (by omega) (by omega) h8] at h;exact h.1
theorem Rf (tm am:Int) (N:Nat):∀e:Ex,e.size≤N→e.tree tm am=true→∀ws m,e.lng ws m↔∃x∈e.summ,x.lng ws m:=by
 induction N using Nat.strongRecOn with
 |_ N ih=>
 intro e hN ht ws m;obtain ⟨k,n,ks⟩:=e
 by_cases h1:k=1
 ·subst h1;rw [Ex.summ_zero]
  simp [Ex.lng_zero]
 by_cases h6:k=6
 ·subst h6;obtain ⟨hk, -, -, htl⟩:=Aq ht;obtain ⟨a,b,rfl⟩:=As hk (by omega);have hs:=Ex.size_eq (.mk 6 n [a,b]);simp only [Ex.kids,Ex.sizeL] at hs;have ha:=ih a.size (by omega) a (Nat.le_refl _) (Ex.treeL_mem htl (by simp)) ws m;have hb:=ih b.size (by omega) b (Nat.le_refl _) (Ex.treeL_mem htl (by simp)) ws m;rw [Ex.summ_sum,Ex.lng_sum]
  show a.lng ws m∨b.lng ws m↔_
  rw [ha,hb];simp only [List.mem_append]
  constructor
  ·rintro (⟨x,h,h'⟩|⟨x,h,h'⟩)
   ·exact ⟨x,Or.inl h,h'⟩
   exact ⟨x,Or.inr h,h'⟩
  rintro ⟨x,h|h,h'⟩
  ·exact Or.inl ⟨x,h,h'⟩
  exact Or.inr ⟨x,h,h'⟩
 rw [Ex.summ_else h1 h6]
 simp
theorem J8:∀(r:List Ex) (x:Ex) (ws:List (Nat × Nat)) (m:Nat),(r.foldl (fun a b=>Ex.two 6 a b) x).lng ws m↔x.lng ws m∨∃y∈r,y.lng ws m
 |[],x,ws,m=>by simp
 |e::r,x,ws,m=>by
  rw [List.foldl_cons,J8 r]
  have:(Ex.two 6 x e).lng ws m↔x.lng ws m∨e.lng ws m:=by
   unfold Ex.two;rw [Ex.lng_sum]
   rfl
  rw [this]
  simp [or_assoc]
theorem Vr (L:List Ex) (ws:List (Nat × Nat)) (m:Nat):(G7 L).lng ws m↔∃y∈L,y.lng ws m:=by
 cases L with
 |nil=>
  show (Ex.leaf 1).lng ws m↔_
  unfold Ex.leaf
  simp [Ex.lng_zero]
 |cons x r=>
  show (r.foldl (fun a b=>Ex.two 6 a b) x).lng ws m↔_
  rw [J8]
  simp
theorem Xd {tm am:Int} {x y:Ex} (hx:x.tree tm am=true) (hy:y.tree tm am=true):(Bk x y).lng=Rj x.lng y.lng:=Lng.ext fun ws m=>by
 unfold Bk;rw [Vr]
 show _↔x.lng ws m∨y.lng ws m
 rw [Rf tm am _ x (Nat.le_refl _) hx,Rf tm am _ y (Nat.le_refl _) hy]
 constructor
 ·rintro ⟨z,hz,h⟩;have:=Jk.1 ((Es _).mem_iff.1 hz)
  rcases List.mem_append.1 this with h'|h'
  ·exact Or.inl ⟨z,h',h⟩
  exact Or.inr ⟨z,h',h⟩
 have key:∀z,z∈x.summ++y.summ→z∈Et (nub (x.summ++y.summ)):=fun z hz=>(Es _).mem_iff.2 (Jk.2 hz);rintro (⟨z,hz,h⟩|⟨z,hz,h⟩)
 ·exact ⟨z,key z (List.mem_append_left _ hz),h⟩
 exact ⟨z,key z (List.mem_append_right _ hz),h⟩
theorem Hi {e:Ex} (h:e.kind=1):e.lng=Le:=by
 obtain ⟨k,n,ks⟩:=e;simp only [Ex.kind] at h;subst h;exact Lng.ext fun ws m=>⟨fun h=>Ex.lng_zero h,fun h=>h.elim⟩
theorem O2 {e:Ex} (h:e.kind=2):e.lng=Rw:=by
 obtain ⟨k,n,ks⟩:=e;simp only [Ex.kind] at h;subst h;exact Ex.lng_one
theorem Y3 (tm am:Int) (N:Nat):∀x y:Ex,x.size≤N→x.tree tm am=true→y.tree tm am=true→(x.dot y).lng=Fd x.lng y.lng:=by
 induction N using Nat.strongRecOn with
 |_ N ih=>
 intro x y hN hx hy;obtain ⟨k,n,ks⟩:=x;have hs:=Ex.size_eq (.mk k n ks);simp only [Ex.kids] at hs
 by_cases h1:k=1
 ·rw [Ex.dot_eq,Dp,if_pos (Or.inl h1),Hi (e:= .mk k n ks) h1,Od];exact Hi rfl
 by_cases h1':y.kind=1
 ·rw [Ex.dot_eq,Dp,if_pos (Or.inr h1'),Hi h1',Mu];exact Hi rfl
 by_cases h2:k=2
 ·rw [Ex.dot_eq,Dp,if_neg (by omega),if_pos h2,O2 (e:= .mk k n ks) h2,P3]
 by_cases h3:y.kind=2
 ·rw [Ex.dot_eq,Dp,if_neg (by omega),if_neg h2,if_pos h3,O2 h3,N6]
 by_cases h7:k=7
 ·subst h7;obtain ⟨hk, -, -, htl⟩:=Aq hx;obtain ⟨a,b,rfl⟩:=As hk (by omega);simp only [Ex.sizeL] at hs;have hat:a.tree tm am=true:=Ex.treeL_mem htl (by simp);have hbt:b.tree tm am=true:=Ex.treeL_mem htl (by simp);rw [Ex.dot_seven h1' h3,Ex.lng_dot,ih a.size (by omega) a _ (Nat.le_refl _) hat (Mq tm am _ b y (Nat.le_refl _) hbt hy).1,ih b.size (by omega) b y (Nat.le_refl _) hbt hy,Ty]
 rw [Ex.dot_eq,Dp,if_neg (by omega),if_neg h2,if_neg h3,if_neg h7];unfold Ex.two;rw [Ex.lng_dot]
theorem Xp {tm am:Int} {x:Ex} (hx:x.tree tm am=true):x.star.lng=Bj x.lng:=by
 unfold Ex.star
 split
 ·rename_i hc
  unfold Ex.leaf;rw [Ex.lng_one];refine Lng.ext fun ws m=>⟨fun h=> ?_,fun h=> ?_⟩
  ·unfold Rw at h;subst h;exact Bj.nil _
  show ws=[]
  induction h with
  |nil=>rfl
  |cons u v m hu _ ih=>
   rw [ih,Xu tm am _ x (Nat.le_refl _) hx hc _ _ hu]
   rfl
 split
 ·rename_i h8
  obtain ⟨k,n,ks⟩:=x;simp only [Ex.kind] at h8;subst h8;obtain ⟨hk, -, -, -⟩:=Aq hx;obtain ⟨a,rfl⟩:=Bq hk (by omega);rw [Ex.lng_star,Uh]
 rw [Ex.lng_star]
theorem Ra (tm am:Int) (N:Nat):∀e:Ex,e.size≤N→e.tree tm am=true→e.tidy.lng=e.lng:=by
 induction N using Nat.strongRecOn with
 |_ N ih=>
 intro e hN ht;obtain ⟨k,n,ks⟩:=e;obtain ⟨hk, -, -, htl⟩:=Aq ht;have hs:=Ex.size_eq (.mk k n ks);simp only [Ex.kids] at hs
 by_cases h67:k=6∨k=7
 ·obtain ⟨a,b,rfl⟩:=As hk h67;simp only [Ex.sizeL] at hs;have hat:a.tree tm am=true:=Ex.treeL_mem htl (by simp);have hbt:b.tree tm am=true:=Ex.treeL_mem htl (by simp);have ha:=ih a.size (by omega) a (Nat.le_refl _) hat;have hb:=ih b.size (by omega) b (Nat.le_refl _) hbt;have ta:=(Ce tm am _ a (Nat.le_refl _) hat).1;have tb:=(Ce tm am _ b (Nat.le_refl _) hbt).1
  rcases h67 with rfl|rfl
  ·rw [Ex.tidy_sum,Xd ta tb,ha,hb,Ex.lng_sum]
  rw [Ex.tidy_dot,Y3 tm am _ _ _ (Nat.le_refl _) ta tb,ha,hb,Ex.lng_dot]
 by_cases h8:k=8
 ·subst h8;obtain ⟨a,rfl⟩:=Bq hk (by omega);simp only [Ex.sizeL] at hs;have hat:a.tree tm am=true:=Ex.treeL_mem htl (by simp);rw [Ex.tidy_star,Xp (Ce tm am _ a (Nat.le_refl _) hat).1,ih a.size (by omega) a (Nat.le_refl _) hat,Ex.lng_star]
 rw [Ex.tidy_else (by omega) (by omega) h8]
theorem Jy {tm am:Int} {e d:Ex} (h:Ba e=some d) (ht:e.tree tm am=true):d.lng=e.lng:=by
 unfold Ba at h
 split at h
 ·obtain rfl:=Option.some.inj h;exact Ra tm am _ e (Nat.le_refl _) ht
 cases h
theorem Xh (tm am:Int) (p x:Nat) (N:Nat):∀e d:Ex,e.size≤N→e.tree tm am=true→e.step (p:Int) (x:Int)=some d→∀ws m,d.lng ws m↔e.lng ((p,x)::ws) m:=by
 induction N using Nat.strongRecOn with
 |_ N ih=>
 intro e d hN ht h ws m;obtain ⟨k,n,ks⟩:=e;obtain ⟨hk, -, -, htl⟩:=Aq ht;have hs:=Ex.size_eq (.mk k n ks);simp only [Ex.kids] at hs
 by_cases h4:k=4
 ·subst h4;rw [Ex.step_act] at h;obtain rfl:=Option.some.inj h;rw [Ex.lng_act]
  by_cases hn:n=(x:Int)
  ·rw [if_pos hn];unfold Ex.leaf;rw [Ex.lng_one]
   show ws=[]↔_
   constructor
   ·rintro rfl;exact ⟨p,x,rfl,hn.symm⟩
   rintro ⟨q,y,hq, -⟩;exact (List.cons.inj hq).2
  rw [if_neg hn];unfold Ex.leaf;refine ⟨fun h=>absurd h Ex.lng_zero, ?_⟩;rintro ⟨q,y,hq,hy⟩
  exfalso
  have:=(List.cons.inj hq).1;simp only [Prod.mk.injEq] at this;exact hn (by rw [←hy,this.2])
 by_cases h6:k=6
 ·obtain ⟨a,b,rfl⟩:=As hk (Or.inl h6);subst h6;simp only [Ex.sizeL] at hs;rw [Ex.step_sum] at h;obtain ⟨q,hq,h⟩:=Option.bind_eq_some_iff.1 h;obtain ⟨r,hr,h⟩:=Option.bind_eq_some_iff.1 h;have hat:a.tree tm am=true:=Ex.treeL_mem htl (by simp);have hbt:b.tree tm am=true:=Ex.treeL_mem htl (by simp);rw [Jy h (Bh (Or.inl rfl) (B8 tm am p x _ a q (Nat.le_refl _) hat hq).1 (B8 tm am p x _ b r (Nat.le_refl _) hbt hr).1)];unfold Ex.two;rw [Ex.lng_sum,Ex.lng_sum];exact or_congr (ih a.size (by omega) a q (Nat.le_refl _) hat hq ws m) (ih b.size (by omega) b r (Nat.le_refl _) hbt hr ws m)
 by_cases h7:k=7
 ·obtain ⟨a,b,rfl⟩:=As hk (Or.inr h7);subst h7;simp only [Ex.sizeL] at hs;rw [Ex.step_dot] at h;obtain ⟨q,hq,h⟩:=Option.bind_eq_some_iff.1 h;have hat:a.tree tm am=true:=Ex.treeL_mem htl (by simp);have hbt:b.tree tm am=true:=Ex.treeL_mem htl (by simp);have hqt:=(B8 tm am p x _ a q (Nat.le_refl _) hat hq).1;have hqL:q.lng=fun us y=>a.lng ((p,x)::us) y:=Lng.ext fun us y=>ih a.size (by omega) a q (Nat.le_refl _) hat hq us y;have hemp:=S3 tm am _ a (Nat.le_refl _) hat p;rw [Ex.lng_dot,Wd,←hqL]
  show _↔Fd q.lng b.lng ws m∨(a.lng [] p∧_)
  rw [hemp]
  split at h
  ·rename_i he
   obtain ⟨r,hr,h⟩:=Option.bind_eq_some_iff.1 h;rw [Jy h (Bh (Or.inl rfl) (Bh (Or.inr rfl) hqt hbt) (B8 tm am p x _ b r (Nat.le_refl _) hbt hr).1)];unfold Ex.two;rw [Ex.lng_sum,Ex.lng_dot]
   show Fd q.lng b.lng ws m∨r.lng ws m↔_
   rw [ih b.size (by omega) b r (Nat.le_refl _) hbt hr ws m]
   simp [he]
  rename_i he
  rw [Jy h (Bh (Or.inr rfl) hqt hbt)];unfold Ex.two;rw [Ex.lng_dot]
  simp [he]
 by_cases h8:k=8
 ·subst h8;obtain ⟨a,rfl⟩:=Bq hk (by omega);simp only [Ex.sizeL] at hs;rw [Ex.step_star] at h;obtain ⟨q,hq,h⟩:=Option.bind_eq_some_iff.1 h;have hat:a.tree tm am=true:=Ex.treeL_mem htl (by simp);have hqL:q.lng=fun us y=>a.lng ((p,x)::us) y:=Lng.ext fun us y=>ih a.size (by omega) a q (Nat.le_refl _) hat hq us y;rw [Jy h (Bh (Or.inr rfl) (B8 tm am p x _ a q (Nat.le_refl _) hat hq).1 ht)];unfold Ex.two;rw [Ex.lng_dot,Ex.lng_star,Bj.step,hqL]
  rfl
 rw [Ex.step_else h4 h6 h7 h8] at h;obtain rfl:=Option.some.inj h;rw [Ex.lng_else h4 h6 h7 h8];unfold Ex.leaf;refine ⟨fun h=>absurd h Ex.lng_zero, ?_⟩;rintro ⟨h, -⟩
 cases h
def Cv {β:Type} (f:Nat→Nat→β) (A a:Nat):List β:=((List.range A).map fun m=>(List.range a).map (f m)).flatten
theorem I1 {β:Type} (f:Nat→Nat→β) (A a:Nat):Cv f (A+1) a=Cv f A a++(List.range a).map (f A):=by
 unfold Cv;rw [List.range_succ,List.map_append,List.flatten_append]
 simp
theorem Gr {β:Type} (f:Nat→Nat→β) (a:Nat):∀A,(Cv f A a).length=A*a
 |0=>by simp [Cv]
 |A+1=>by rw [I1,List.length_append,Gr f a A,Nat.succ_mul]; simp
theorem Og {β:Type} (f:Nat→Nat→β) {a m k:Nat} (hk:k<a):∀{A:Nat},m<A→(Cv f A a)[m*a+k]? =some (f m k)
 |0,h=>absurd h (Nat.not_lt_zero _)
 |A+1,h=>by
  rw [I1]
  by_cases hm:m<A
  ·rw [List.getElem?_append_left]
   ·exact Og f hk hm
   rw [Gr];have h1:(m+1)*a≤A*a:=Nat.mul_le_mul_right a hm;rw [Nat.succ_mul] at h1;omega
  obtain rfl:m=A:=by omega
  rw [List.getElem?_append_right (by rw [Gr]; omega),Gr,show m*a+k - m*a=k by omega,List.getElem?_map,List.getElem?_range hk]
  rfl
theorem Xl {β:Type} {f:Nat→Nat→β} {A a:Nat} {x:β} (h:x∈Cv f A a):∃m k,m<A∧k<a∧f m k=x:=by
 unfold Cv at h;obtain ⟨r,hr,hx⟩:=List.mem_flatten.1 h;obtain ⟨m,hm,rfl⟩:=List.mem_map.1 hr;obtain ⟨k,hk,rfl⟩:=List.mem_map.1 hx;exact ⟨m,k,List.mem_range.1 hm,List.mem_range.1 hk,rfl⟩
section
variable {α:Type} [DecidableEq α]
def Fn (s:α) (f:Nat→Nat→α→Option α) (A a i:Nat) (x:α) (m k:Nat):List α:=Hu (Bg s (fun y=>Cv (fun m k=>f m k y) A a) i) (Cv (fun m k=>f m k x) A a) (m*a+k)
variable {s:α} {f:Nat→Nat→α→Option α} {A a i:Nat} {x:α}
theorem Pp:Fn s f A a i x 0 0=Bg s (fun y=>Cv (fun m k=>f m k y) A a) i:=by
 unfold Fn;rw [Nat.zero_mul,Wv]
theorem O1 {m:Nat}:Fn s f A a i x m a=Fn s f A a i x (m+1) 0:=by
 unfold Fn;rw [Nat.succ_mul,Nat.add_zero]
theorem Pt {m k:Nat} (hm:m<A) (hk:k<a):Fn s f A a i x m (k+1)=Cd (Fn s f A a i x m k) (f m k x):=by
 unfold Fn;rw [←Nat.add_assoc];exact Wf (Og (fun m k=>f m k x) hk hm)
theorem Qn (h:(Bg s (fun y=>Cv (fun m k=>f m k y) A a) i)[i]? =some x):Fn s f A a i x A 0=Bg s (fun y=>Cv (fun m k=>f m k y) A a) (i+1):=by
 unfold Fn;rw [Jl (by rw [Gr]; omega),Iz h]
theorem Lp {m k:Nat} (h:(Bg s (fun y=>Cv (fun m k=>f m k y) A a) i)[i]? =some x):Fn s f A a i x m k <+: Bg s (fun y=>Cv (fun m k=>f m k y) A a) (i+1):=by
 rw [Iz h,←Jl (L:=Bg s (fun y=>Cv (fun m k=>f m k y) A a) i) (ss:=Cv (fun m k=>f m k x) A a) (Nat.le_refl _)];unfold Fn
 by_cases hl:m*a+k≤(Cv (fun m k=>f m k x) A a).length
 ·exact Ye hl
 rw [Jl (by omega),Jl (Nat.le_refl _)];exact List.prefix_refl _
theorem Ug {m k:Nat}:(Fn s f A a i x m k).Nodup:=U1 (H9 _ _ _) _ _
theorem Se {m k:Nat}:Bg s (fun y=>Cv (fun m k=>f m k y) A a) i <+: Fn s f A a i x m k:=Sv _ _ _
theorem Ot {P:α→Prop}:∀(ss:List (Option α)) (L:List α),(∀y∈L,P y)→(∀y,some y∈ss→P y)→∀y∈Bt L ss,P y
 |[],_,h,_=>h
 |o::r,L,h,hs=>by
  refine Ot r (Cd L o) (fun y hy=> ?_) (fun y hy=>hs y (List.mem_cons_of_mem _ hy))
  cases o with
  |none=>exact h y hy
  |some z=>
   by_cases hz:z∈L
   ·rw [Cx hz] at hy; exact h y hy
   rw [Cy hz] at hy
   rcases List.mem_append.1 hy with hy|hy
   ·exact h y hy
   rw [List.mem_singleton] at hy;subst hy;exact hs y (List.mem_cons_self ..)
theorem Jo {P:α→Prop} (hs:P s) (hf:∀y,P y→∀m k,m<A→k<a→∀z,f m k y=some z→P z):∀i,∀y∈Bg s (fun y=>Cv (fun m k=>f m k y) A a) i,P y
 |0=>fun y hy=>by simp [Bg] at hy; subst hy; exact hs
 |i+1=>fun y hy=>by
  have ih:=Jo hs hf i
  cases hx:(Bg s (fun y=>Cv (fun m k=>f m k y) A a) i)[i]? with
  |none=>simp only [Bg,hx] at hy; exact ih y hy
  |some x=>
   rw [Iz hx] at hy;refine Ot _ _ ih (fun z hz=> ?_) y hy;obtain ⟨m,k,hm,hk,h⟩:=Xl hz;exact hf x (ih x (List.mem_of_getElem? hx)) m k hm hk z h
end
noncomputable def Bo (m x:Nat) (e:Ex):Option Ex:=(e.step m x).bind fun d=>if d.kind=1 then none else some d
noncomputable def stL (A a:Nat) (e:Ex) (i:Nat):List Ex:=Bg e.tidy (fun y=>Cv (fun m k=>Bo m k y) A a) i
noncomputable def stC (A a:Nat) (e:Ex) (i:Nat) (x:Ex) (m k:Nat):List Ex:=Fn e.tidy Bo A a i x m k
def Eh (A a:Nat) (e:Ex):Prop:=(stL A a e 60).length≤60∧∀y∈stL A a e 60,∀m k,m<A→k<a→y.step m k≠none
noncomputable def Co (L:List Ex) (a m:Nat) (x:Ex):List Int:=(List.range a).map fun k=>Dc L (Bo m k x)
noncomputable def C5 (L:List Ex) (A a:Nat) (x:Ex):List (List Int):=(List.range A).map fun m=>Co L a m x
noncomputable def stN (A a:Nat) (e:Ex):List (List (List Int)):=(stL A a e 60).map (C5 (stL A a e 60) A a)
theorem Gu {tm am:Int} {A a:Nat} {e:Ex} (ht:e.tree tm am=true) (hs:e.size≤200) (i:Nat):∀y∈stL A a e i,y.tree tm am=true∧y.size≤800:=by
 refine Jo ?_ ?_ i
 ·have:=Ce tm am _ e (Nat.le_refl _) ht;exact ⟨this.1,by omega⟩
 intro y hy m k _ _ z hz;unfold Bo at hz;obtain ⟨d,hd,h⟩:=Option.bind_eq_some_iff.1 hz
 split at h
 ·cases h
 obtain rfl:=Option.some.inj h;exact B8 tm am m k _ y d (Nat.le_refl _) hy.1 hd
theorem Gb {A a:Nat} {e:Ex} {i:Nat} (h:i≤60):stL A a e i <+: stL A a e 60:=E4 _ _ h
theorem Of (A a:Nat) (e:Ex) (i:Nat):1≤(stL A a e i).length:=Xg _ _ _
theorem Jt {A a:Nat} {e:Ex} {i:Nat} {x:Ex}:stC A a e i x 0 0=stL A a e i:=Pp
theorem Q6 {A a:Nat} {e:Ex} {i:Nat} {x:Ex} {m:Nat}:stC A a e i x m a=stC A a e i x (m+1) 0:=O1
theorem Ju {A a:Nat} {e:Ex} {i:Nat} {x:Ex} {m k:Nat} (hm:m<A) (hk:k<a):stC A a e i x m (k+1)=Cd (stC A a e i x m k) (Bo m k x):=Pt hm hk
theorem Tr {A a:Nat} {e:Ex} {i:Nat} {x:Ex} (h:(stL A a e i)[i]? =some x):stC A a e i x A 0=stL A a e (i+1):=Qn h
theorem H4 {A a:Nat} {e:Ex} {i:Nat} {x:Ex} {m k:Nat} (h:(stL A a e i)[i]? =some x) (hi:i<60):stC A a e i x m k <+: stL A a e 60:=(Lp h).trans (Gb (by omega))
theorem Jg {A a:Nat} {e:Ex} {i:Nat} {x:Ex} {m k:Nat}:stL A a e i <+: stC A a e i x m k:=Se
theorem Pc {A a:Nat} {e:Ex} {i:Nat} {x:Ex} {m k:Nat}:(stC A a e i x m k).Nodup:=Ug
theorem Xx {tm am:Int} {A a:Nat} {e:Ex} (ht:e.tree tm am=true) (hs:e.size≤200) {i:Nat} {x:Ex} {m k:Nat} (h:(stL A a e i)[i]? =some x) (hi:i<60):∀y∈stC A a e i x m k,y.tree tm am=true∧y.size≤800:=
 fun y hy=>Gu ht hs 60 y ((H4 h hi).subset hy)
theorem V9 {A a:Nat} {e:Ex} {i:Nat} {x:Ex} {m k:Nat} (h:(stL A a e i)[i]? =some x):(stC A a e i x m k)[i]? =some x:=Er Jg h
theorem Ry {A a:Nat} {e:Ex} {i:Nat} {x:Ex} {m k:Nat} (h:(stL A a e i)[i]? =some x) (hi:i<60) (hm:m<A) (hk:k<a) (hn:x.step m k=none):¬Eh A a e:=
 fun hok=>hok.2 x ((Gb (by omega)).subset (List.mem_of_getElem? h)) m k hm hk hn
theorem Wu {A a:Nat} {e:Ex} {i:Nat} {x:Ex} {m k:Nat} (h:(stL A a e i)[i]? =some x) (hi:i<60) (hl:60<(stC A a e i x m k).length):¬Eh A a e:=
 fun hok=>by have:=C7 (H4 (m:=m) (k:=k) h hi); have:=hok.1; omega
theorem Ul {A a:Nat} {e:Ex} {i:Nat} (hi:i≤60) (hl:60<(stL A a e i).length):¬Eh A a e:=
 fun hok=>by have:=C7 (Gb (A:=A) (a:=a) (e:=e) hi); have:=hok.1; omega
theorem Fy {A a:Nat} {e:Ex} {i:Nat} (hd:(stL A a e i).length≤i) (hi:i≤60):stL A a e 60=stL A a e i:=I0 hd 60 hi
theorem Po {A a:Nat} {e:Ex} {i:Nat} (hd:(stL A a e i).length≤i) (hi:i≤60) (hg:∀j x,j<i→(stL A a e j)[j]? =some x→∀m k,m<A→k<a→x.step m k≠none):Eh A a e:=by
 have hf:=Fy hd hi;refine ⟨by rw [hf]; omega,fun y hy m k hm hk=> ?_⟩;rw [hf] at hy;obtain ⟨j,hj⟩:=List.mem_iff_getElem?.1 hy;have hj':=(List.getElem?_eq_some_iff.1 hj).1
 have hji:j<i:=by omega
 have hpos:j<(stL A a e j).length:=by
  rcases Nat.lt_or_ge j (stL A a e j).length with h|h
  ·exact h
  have h1:=I0 (s:=e.tidy) (succ:=fun y=>Cv (fun m k=>Bo m k y) A a) (k:=j) h i (by omega);have h2:stL A a e i=stL A a e j:=h1;rw [h2] at hj';omega
 have hjj:(stL A a e j)[j]? =some y:=by
  have h1:(stL A a e j)[j]? =some (stL A a e j)[j]:=List.getElem?_eq_getElem hpos;have h2:=Er (E4 e.tidy (fun y=>Cv (fun m k=>Bo m k y) A a) (show j≤i by omega)) h1;have h3:(stL A a e i)[j]? =some (stL A a e j)[j]:=h2;rw [hj] at h3;rw [h1,←h3]
 exact hg j y hji hjj m k hm hk
theorem Yl {A a:Nat} {e:Ex} {i:Nat} {x:Ex} {m k m' k':Nat} (h:(stL A a e i)[i]? =some x) (hi:i<60) (hm:∀d,Bo m' k' x=some d→d∈stC A a e i x m k):Dc (stC A a e i x m k) (Bo m' k' x)=Dc (stL A a e 60) (Bo m' k' x):=by
 obtain ⟨L,hL⟩:∃L,L=stL A a e 60:=⟨_,rfl⟩;have hp:=H4 (m:=m) (k:=k) h hi;rw [←hL] at hp ⊢
 cases hd:Bo m' k' x with
 |none=>simp only [Dc]
 |some d=>
  simp only [Dc];rw [Rb hp (hm d hd)]
theorem S2 {A a:Nat} {e:Ex} {i:Nat} {x:Ex} {m k:Nat} (hm:m<A) (hk:k<a) {d:Ex} (hd:Bo m k x=some d):d∈stC A a e i x m (k+1):=by
 rw [Ju hm hk,hd];exact O6
theorem U7 {A a:Nat} {e:Ex} {i:Nat} {x:Ex} {m k:Nat} (h:(stL A a e i)[i]? =some x) (hi:i<60) (hm:m<A) (hk:k<a) {d:Ex} (hd:Bo m k x=some d):
  ((stC A a e i x m (k+1)).idxOf d:Int)=Dc (stL A a e 60) (Bo m k x):=by
 have:=Yl (m:=m) (k:=k+1) (m':=m) (k':=k) h hi (fun d' hd'=>S2 hm hk hd');rw [←this,hd]
 rfl
theorem Fv (L:List Ex) (a m:Nat) (x:Ex):(Co L a m x).length=a:=by simp [Co]
theorem F7 {L:List Ex} {a m k:Nat} {x:Ex} (hk:k<a):(Co L a m x).take (k+1)=(Co L a m x).take k++[Dc L (Bo m k x)]:=by
 have hl:k<(Co L a m x).length:=by rw [Fv]; exact hk
 rw [List.take_succ_eq_append_getElem hl]
 simp [Co]
theorem Fc (L:List Ex) (A a:Nat) (x:Ex):(C5 L A a x).length=A:=by simp [C5]
theorem Nl {L:List Ex} {A a m:Nat} {x:Ex} (hm:m<A):(C5 L A a x).take (m+1)=(C5 L A a x).take m++[Co L a m x]:=by
 have hl:m<(C5 L A a x).length:=by rw [Fc]; exact hm
 rw [List.take_succ_eq_append_getElem hl]
 simp [C5]
noncomputable def stR (A a:Nat) (e:Ex) (i:Nat):List (List (List Int)):=((stL A a e 60).take i).map (C5 (stL A a e 60) A a)
theorem Ro {A a:Nat} {e:Ex} {i:Nat} {x:Ex} (h:(stL A a e i)[i]? =some x) (hi:i<60):stR A a e (i+1)=stR A a e i++[C5 (stL A a e 60) A a x]:=by
 have h1:=Er (Gb (A:=A) (a:=a) (e:=e) (show i≤60 by omega)) h;obtain ⟨hl,h2⟩:=List.getElem?_eq_some_iff.1 h1;unfold stR;rw [List.take_succ_eq_append_getElem hl,List.map_append,h2]
 rfl
theorem Rl {A a:Nat} {e:Ex} {i:Nat} (hd:(stL A a e i).length≤i) (hi:i≤60):stR A a e i=stN A a e:=by
 unfold stR stN;rw [List.take_of_length_le (by rw [Fy hd hi]; exact hd)]
open Go.ChangeShapes Go.WideShapes Go.ChangeAt Go.RowKit Go.Deep
def Da {α:Type} (f:α→D) (xs:List α):D:= .sl 1 xs.length (xs.map f)
def D6 (bs:List Bool):D:=Da D.bool bs
def bbD (xs:List (List Bool)):D:=Da D6 xs
def iiD (xs:List (List Int)):D:=Da Cm xs
def Ek (xs:List (List (List Int))):D:=Da iiD xs
section
variable {α:Type}
variable {w:World} {f:α→D} {xs:List α}
theorem S8 {b o len cap:Nat} (h:Rd w (Da f xs) (.slice (some ⟨b,o,none⟩) len cap)) {i:Nat} {x:α} (hx:xs[i]? =some x):b<w.heap.size∧∃v,w.cell? ⟨b,o+i,none⟩=some v∧Rd w (f x) v:=by
 obtain ⟨_,_,_,_,_,h4⟩:=Rd.sl_at h
 rcases h4 with h4|⟨b',o',e1,h4⟩
 ·have:=(List.getElem?_eq_some_iff.1 hx).1;omega
 simp only [Option.some.injEq,Addr.mk.injEq,and_true] at e1;obtain ⟨rfl,rfl⟩:=e1;obtain ⟨v,h5,h6⟩:=h4 i (f x) (by rw [List.getElem?_map,hx]; rfl);exact ⟨World.block_lt_of_cell? w _ h5,v,h5,h6⟩
theorem Cl {a:Option Addr} {len cap:Nat} (h:Rd w (Da f xs) (.slice a len cap)) (hk:0<xs.length):∃b o,a=some ⟨b,o,none⟩:=by
 obtain ⟨_,_,_,_,_,h4⟩:=Rd.sl_at h
 rcases h4 with h4|⟨b,o,e,_⟩
 ·omega
 exact ⟨b,o,e⟩
theorem E5 {a:Option Addr} {len cap:Nat} (h:Rd w (Da f xs) (.slice a len cap)):xs.length≤cap∧cap≤maxLen:=by
 obtain ⟨_,h2,h3,_⟩:=Rd.sl_at h;exact ⟨h2,h3⟩
theorem Ia {β:Type} {g:β→D} {ys:List (List β)} {b o len cap:Nat} (h:Rd w (Da (Da g) ys) (.slice (some ⟨b,o,none⟩) len cap)) {i:Nat} {x:List β} (hx:ys[i]? =some x):
  b<w.heap.size∧∃s c,w.cell? ⟨b,o+i,none⟩=some (.slice s x.length c)∧Rd w (Da g x) (.slice s x.length c):=by
 obtain ⟨h1,v,h2,h3⟩:=S8 h hx;obtain ⟨s,c,rfl,_⟩:=Rd.slice h3;exact ⟨h1,s,c,h2,h3⟩
theorem Th {bs:List Bool} {b o len cap:Nat} (h:Rd w (D6 bs) (.slice (some ⟨b,o,none⟩) len cap)) {i:Nat} {z:Bool} (hz:bs[i]? =some z):b<w.heap.size∧w.cell? ⟨b,o+i,none⟩=some (.bool z):=by
 obtain ⟨h1,v,h2,h3⟩:=S8 h hz;simp only [Rd] at h3;subst h3;exact ⟨h1,h2⟩
end
open Go.Sort
def Gc (ac:List (List Bool)) (nx:List (List (List Int))):List D:=[bbD ac,Ek nx]
def RowOk (a n:Int) (row:List Int):Prop:=(row.length:Int)=a∧∀(l:Nat) (z:Int),row[l]? =some z→ -1≤z∧z≤n - 1
def StOk (t a n:Int) (ar:List Bool) (nr:List (List Int)):Prop:=(ar.length:Int)=Ah t∧(nr.length:Int)=Ah t∧∀(j:Nat) (row:List Int),nr[j]? =some row→RowOk a n row
structure By (t a:Int) (ac:List (List Bool)) (nx:List (List (List Int))):Prop where
 sig:Cj t a=true
 lo:1≤ac.length
 hi:ac.length≤60
 len:nx.length=ac.length
 st:∀(i:Nat) (ar:List Bool) (nr:List (List Int)),ac[i]? =some ar→nx[i]? =some nr→StOk t a ac.length ar nr
def Fl (w:World) (b o:Nat) (t a:Int) (ac:List (List Bool)) (nx:List (List (List Int))) (s u:Option Addr) (c d:Nat):Prop:=
 w.cell? ⟨b,o,none⟩=some (.int .i64 t)∧w.cell? ⟨b,o+1,none⟩=some (.int .i64 a)∧w.cell? ⟨b,o+2,none⟩=some (.slice s ac.length c)∧w.cell? ⟨b,o+3,none⟩=some (.slice u nx.length d)∧
  Rd w (bbD ac) (.slice s ac.length c)∧Rd w (Ek nx) (.slice u nx.length d)
theorem Fl.lt {w:World} {b o:Nat} {t a:Int} {ac:List (List Bool)} {nx:List (List (List Int))} {s u:Option Addr} {c d:Nat} (h:Fl w b o t a ac nx s u c d):b<w.heap.size:=World.block_lt_of_cell? w _ h.1
theorem Fl.below {w w':World} {b o:Nat} {t a:Int} {ac:List (List Bool)} {nx:List (List (List Int))} {s u:Option Addr} {c d:Nat} (h:Fl w b o t a ac nx s u c d) (hb:Below w.heap.size w w'):Fl w' b o t a ac nx s u c d:=by
 have hl:=h.lt;obtain ⟨h0,h1,h2,h3,h4,h5⟩:=h;exact ⟨(hb.cell (p:=⟨b,o,none⟩) hl).trans h0,(hb.cell (p:=⟨b,o+1,none⟩) hl).trans h1,(hb.cell (p:=⟨b,o+2,none⟩) hl).trans h2,(hb.cell (p:=⟨b,o+3,none⟩) hl).trans h3,h4.below hb,h5.below hb⟩
def hitR (P:Nat→Bool) (row:List Int):Bool:=row.any fun z=>decide (0≤z)&&P z.toNat
def Kv (ac:List (List Bool)) (nx:List (List (List Int))):Nat→Nat→Bool
 |0=>fun s=>(ac.getD s []).any id
 |n+1=>fun s=>(nx.getD s []).any (hitR (Kv ac nx n))
def Hq (ac:List (List Bool)) (nx:List (List (List Int))):Nat→Nat→Int
 |0=>fun s=>if Kv ac nx 0 s then 0 else -1
 |n+1=>fun s=>if 0≤Hq ac nx n s then Hq ac nx n s else if Kv ac nx (n+1) s then ((n+1:Nat):Int) else -1
section
variable {ac:List (List Bool)} {nx:List (List (List Int))}
theorem Yu:∀n s, -1≤Hq ac nx n s∧Hq ac nx n s≤n
 |0,s=>by simp only [Hq]; split<;>omega
 |n+1,s=>by
  have:=Yu n s;simp only [Hq]
  split
  ·omega
  split<;>omega
theorem Wi:∀n s,(0≤Hq ac nx n s→∃m:Nat,m≤n∧Hq ac nx n s=(m:Int)∧Kv ac nx m s=true∧∀k,k<m→Kv ac nx k s=false)∧(Hq ac nx n s<0→∀m,m≤n→Kv ac nx m s=false)
 |0,s=>by
  simp only [Hq]
  by_cases h:Kv ac nx 0 s=true
  ·rw [if_pos h];exact ⟨fun _=>⟨0,Nat.le_refl _,rfl,h,fun k hk=>by omega⟩,fun hn=>by omega⟩
  rw [if_neg h];refine ⟨fun hn=>by omega,fun _ m hm=> ?_⟩
  obtain rfl:m=0:=by omega
  simpa using h
 |n+1,s=>by
  obtain ⟨h1,h2⟩:=Wi n s;simp only [Hq]
  by_cases h:0≤Hq ac nx n s
  ·rw [if_pos h];refine ⟨fun _=> ?_,fun hn=>by omega⟩;obtain ⟨m,hm,e,h3,h4⟩:=h1 h;exact ⟨m,by omega,e,h3,h4⟩
  rw [if_neg h];have h3:=h2 (by omega)
  by_cases h4:Kv ac nx (n+1) s=true
  ·rw [if_pos h4];exact ⟨fun _=>⟨n+1,Nat.le_refl _,rfl,h4,fun k hk=>h3 k (by omega)⟩,fun hn=>by omega⟩
  rw [if_neg h4];refine ⟨fun hn=>by omega,fun _ m hm=> ?_⟩
  by_cases he:m=n+1
  ·rw [he]; simpa using h4
  exact h3 m (by omega)
theorem Wj:∀(n:Nat) (L:List Nat),L.Nodup→(∀x∈L,x<n)→L.length≤n
 |0,L,_,h=>by
  cases L with
  |nil=>simp
  |cons x r=>have:=h x (List.mem_cons_self ..); omega
 |n+1,L,hd,h=>by
  have h1:=Wj n (L.erase n) (hd.erase n) fun x hx=>by
   have h2:=h x (List.mem_of_mem_erase hx);have h3:=(List.Nodup.mem_erase_iff hd).1 hx;omega
  rw [List.length_erase] at h1
  split at h1<;>omega
end
def M7 (nx:List (List (List Int))) (s x y:Nat):Int:=((nx.getD s []).getD x []).getD y (-1)
theorem By.next {t a:Int} {ac:List (List Bool)} {nx:List (List (List Int))} (h:By t a ac nx) {s x y:Nat} (hs:s<ac.length) (hx:(x:Int)<Ah t) (hy:(y:Int)<a):
  ∃nr row z,nx[s]? =some nr∧nr[x]? =some row∧row[y]? =some z∧ -1≤z∧z≤(ac.length:Int) - 1∧M7 nx s x y=z:=by
 obtain ⟨ar,har⟩:∃e,ac[s]? =some e:=⟨_,List.getElem?_eq_getElem hs⟩;obtain ⟨nr,hnr⟩:∃e,nx[s]? =some e:=⟨_,List.getElem?_eq_getElem (by rw [h.len]; exact hs)⟩;obtain ⟨_,h2,h3⟩:=h.st s ar nr har hnr;obtain ⟨row,hrow⟩:∃e,nr[x]? =some e:=⟨_,List.getElem?_eq_getElem (by omega)⟩;obtain ⟨h4,h5⟩:=h3 x row hrow;obtain ⟨z,hz⟩:∃e,row[y]? =some e:=⟨_,List.getElem?_eq_getElem (by omega)⟩;obtain ⟨h6,h7⟩:=h5 y z hz;refine ⟨nr,row,z,hnr,hrow,hz,h6,h7, ?_⟩;unfold M7;rw [List.getD_eq_getElem?_getD,List.getD_eq_getElem?_getD,List.getD_eq_getElem?_getD,hnr]
 simp [hrow,hz]
theorem By.acc {t a:Int} {ac:List (List Bool)} {nx:List (List (List Int))} (h:By t a ac nx) {s x:Nat} (hs:s<ac.length) (hx:(x:Int)<Ah t):
  ∃ar z,ac[s]? =some ar∧ar[x]? =some z∧(ac.getD s []).getD x false=z:=by
 obtain ⟨ar,har⟩:∃e,ac[s]? =some e:=⟨_,List.getElem?_eq_getElem hs⟩;obtain ⟨nr,hnr⟩:∃e,nx[s]? =some e:=⟨_,List.getElem?_eq_getElem (by rw [h.len]; exact hs)⟩;obtain ⟨h1,_,_⟩:=h.st s ar nr har hnr;obtain ⟨z,hz⟩:∃e,ar[x]? =some e:=⟨_,List.getElem?_eq_getElem (by omega)⟩;refine ⟨ar,z,har,hz, ?_⟩;rw [List.getD_eq_getElem?_getD,List.getD_eq_getElem?_getD,har]
 simp [hz]
def goN (nx:List (List (List Int))) (s:Int) (m k:Nat):Int:=if s<0 then -1 else M7 nx s.toNat m k
def Br (ac:List (List Bool)) (s:Int) (m:Nat):Bool:=decide (0≤s)&&(ac.getD s.toNat []).getD m false
def Dz (nx ny:List (List (List Int))) (m k:Nat) (p:Int × Int):Option (Int × Int):=if goN nx p.1 m k<0∧goN ny p.2 m k<0 then none else some (goN nx p.1 m k,goN ny p.2 m k)
def prL (nx ny:List (List (List Int))) (A a i:Nat):List (Int × Int):=Bg ((0:Int),(0:Int)) (fun y=>Cv (fun m k=>Dz nx ny m k y) A a) i
def prC (nx ny:List (List (List Int))) (A a i:Nat) (x:Int × Int) (m k:Nat):List (Int × Int):=Fn ((0:Int),(0:Int)) (Dz nx ny) A a i x m k
section
variable {nx ny:List (List (List Int))} {A a i:Nat} {x:Int × Int} {m k:Nat}
theorem Ru:prC nx ny A a i x 0 0=prL nx ny A a i:=Pp
theorem Qf:prC nx ny A a i x m a=prC nx ny A a i x (m+1) 0:=O1
theorem Mj (hm:m<A) (hk:k<a):prC nx ny A a i x m (k+1)=Cd (prC nx ny A a i x m k) (Dz nx ny m k x):=Pt hm hk
theorem Lg (h:(prL nx ny A a i)[i]? =some x):prC nx ny A a i x A 0=prL nx ny A a (i+1):=Qn h
theorem Y6:prL nx ny A a i <+: prC nx ny A a i x m k:=Se
theorem Jh (h:(prL nx ny A a i)[i]? =some x):(prC nx ny A a i x m k)[i]? =some x:=Er Y6 h
theorem Qg {n:Nat} (h:(prL nx ny A a i).length≤i) (hn:i≤n):prL nx ny A a n=prL nx ny A a i:=I0 h n hn
theorem U0 (h:(prL nx ny A a i)[i]? =some x):prC nx ny A a i x m k <+: prL nx ny A a (i+1):=Lp h
end
def Ii (N M:Nat) (p:Int × Int):Prop:= -1≤p.1∧p.1<N∧ -1≤p.2∧p.2<M
theorem M4 {t a:Int} {ac:List (List Bool)} {nx:List (List (List Int))} (h:By t a ac nx) {s:Int} {m k:Nat} (h1:s<ac.length) (hm:(m:Int)<Ah t) (hk:(k:Int)<a): -1≤goN nx s m k∧goN nx s m k<ac.length:=by
 unfold goN
 split
 ·exact ⟨by omega,by have:=h.lo; omega⟩
 obtain ⟨nr,row,z, -, -, -, h3,h4,h5⟩:=h.next (s:=s.toNat) (x:=m) (y:=k) (by omega) hm hk;rw [h5];exact ⟨h3,by omega⟩
section
variable {t a:Int} {ac bc:List (List Bool)} {nx ny:List (List (List Int))}
theorem Y2 (h:By t a ac nx) (h':By t a bc ny) {m k:Nat} (hm:m<(Ah t).toNat) (hk:k<a.toNat) {p z:Int × Int} (hp:Ii ac.length bc.length p) (hz:Dz nx ny m k p=some z):Ii ac.length bc.length z:=by
 unfold Dz at hz
 split at hz
 ·cases hz
 obtain rfl:=Option.some.inj hz;have h1:=M4 h (s:=p.1) (m:=m) (k:=k) hp.2.1 (by omega) (by omega);have h2:=M4 h' (s:=p.2) (m:=m) (k:=k) hp.2.2.2 (by omega) (by omega);exact ⟨h1.1,h1.2,h2.1,h2.2⟩
theorem Mt (h:By t a ac nx) (h':By t a bc ny) (i:Nat):∀p∈prL nx ny (Ah t).toNat a.toNat i,Ii ac.length bc.length p:=by
 refine Jo ?_ ?_ i
 ·have:=h.lo;have:=h'.lo;exact ⟨by simp,by simp; omega,by simp,by simp; omega⟩
 intro y hy m k hm hk z hz;exact Y2 h h' hm hk hy hz
theorem Wn {N M:Nat} (hN:N≤60) (hM:M≤60) {L:List (Int × Int)} (hd:L.Nodup) (h:∀p∈L,Ii N M p):L.length≤3721:=by
 have:=Wj 3721 (L.map fun p=>((p.1+1)*61+(p.2+1)).toNat) ?_ ?_
 ·simpa using this
 ·rw [List.nodup_iff_pairwise_ne,List.pairwise_map];refine List.Pairwise.imp_of_mem ?_ (List.nodup_iff_pairwise_ne.1 hd);intro p q hp hq hne e;obtain ⟨a1,a2,a3,a4⟩:=h p hp;obtain ⟨b1,b2,b3,b4⟩:=h q hq
  apply hne
  apply Prod.ext<;>omega
 intro x hx;obtain ⟨p,hp,rfl⟩:=List.mem_map.1 hx;obtain ⟨a1,a2,a3,a4⟩:=h p hp;omega
theorem Fw (h:By t a ac nx) (h':By t a bc ny) (i:Nat):(prL nx ny (Ah t).toNat a.toNat i).length≤3721:=Wn h.hi h'.hi (H9 _ _ _) (Mt h h' i)
theorem U6 (h:By t a ac nx) (h':By t a bc ny) {i:Nat} {x:Int × Int} {m k:Nat} (hx:(prL nx ny (Ah t).toNat a.toNat i)[i]? =some x):(∀p∈prC nx ny (Ah t).toNat a.toNat i x m k,Ii ac.length bc.length p)∧(prC nx ny (Ah t).toNat a.toNat i x m k).length≤3721:=by
 have hp:=U0 (m:=m) (k:=k) hx;exact ⟨fun p hm=>Mt h h' (i+1) p (hp.subset hm),Nat.le_trans (C7 hp) (Fw h h' (i+1))⟩
theorem To (h:By t a ac nx) (h':By t a bc ny) {i:Nat} (hd:(prL nx ny (Ah t).toNat a.toNat i).length≤i):prL nx ny (Ah t).toNat a.toNat i=prL nx ny (Ah t).toNat a.toNat 3721:=by
 by_cases hi:i≤3721
 ·exact (Qg hd hi).symm
 exact Qg (i:=3721) (Fw h h' 3721) (by omega)
end
def prF (nx ny:List (List (List Int))) (A a:Nat):List (Int × Int):=prL nx ny A a 3721
theorem V6 {α β:Type} [DecidableEq α] [DecidableEq β] {g:α→β} (hg:∀x y,g x=g y→x=y) (L:List α) (o:Option α):Cd (L.map g) (o.map g)=(Cd L o).map g:=by
 cases o with
 |none=>rfl
 |some x=>
  by_cases h:x∈L
  ·rw [Cx h,Option.map_some,Cx (List.mem_map.2 ⟨x,h,rfl⟩)]
  rw [Cy h,Option.map_some,Cy,List.map_append]
  ·rfl
  intro hm;obtain ⟨y,hy,e⟩:=List.mem_map.1 hm;exact h (hg y x e ▸ hy)
theorem Ps {α β:Type} [DecidableEq α] [DecidableEq β] {g:α→β} (hg:∀x y,g x=g y→x=y):∀(ss:List (Option α)) (L:List α),Bt (L.map g) (ss.map (Option.map g))=(Bt L ss).map g
 |[],_=>rfl
 |o::r,L=>by
  show Bt (Cd (L.map g) (o.map g)) (r.map (Option.map g))=_
  rw [V6 hg,Ps hg r]
  rfl
theorem Sb {α β:Type} [DecidableEq α] [DecidableEq β] {g:α→β} (hg:∀x y,g x=g y→x=y) {s:α} {f:α→List (Option α)} {f':β→List (Option β)} (hf:∀x,f' (g x)=(f x).map (Option.map g)):∀i,Bg (g s) f' i=(Bg s f i).map g
 |0=>rfl
 |i+1=>by
  have ih:=Sb hg hf i (s:=s)
  cases h:(Bg s f i)[i]? with
  |none=>
   simp only [Bg,ih,List.getElem?_map,h,Option.map_none]
  |some x=>
   simp only [Bg,ih,List.getElem?_map,h,Option.map_some];rw [hf,Ps hg]
theorem Sg {α β:Type} (f:Nat→Nat→α) (g:α→β) (a:Nat):∀A,Cv (fun m k=>g (f m k)) A a=(Cv f A a).map g
 |0=>rfl
 |A+1=>by
  rw [I1,I1,List.map_append,Sg f g a A,List.map_map]
  rfl
def J3 (p:Int × Int):Int × Int:=(p.2,p.1)
theorem Vc (nx ny:List (List (List Int))) (m k:Nat) (p:Int × Int):Dz ny nx m k (J3 p)=(Dz nx ny m k p).map J3:=by
 unfold Dz J3;simp only
 by_cases h:goN nx p.1 m k<0∧goN ny p.2 m k<0
 ·rw [if_pos h,if_pos ⟨h.2,h.1⟩]
  rfl
 rw [if_neg h,if_neg fun h'=>h ⟨h'.2,h'.1⟩]
 rfl
theorem W5 (nx ny:List (List (List Int))) (A a i:Nat):prL ny nx A a i=(prL nx ny A a i).map J3:=by
 unfold prL;refine Sb (g:=J3) (s:=((0:Int),(0:Int))) (fun x y h=> ?_) (fun x=> ?_) i
 ·simp only [J3,Prod.mk.injEq] at h;exact Prod.ext h.2 h.1
 rw [←Sg]
 congr 1
 funext m k
 exact Vc nx ny m k x
def Fa (ac bc:List (List Bool)) (A:Nat) (p:Int × Int):Bool:=(List.range A).all fun m=> !(Br ac p.1 m&& !Br bc p.2 m)
def Gx (ac bc:List (List Bool)) (A:Nat) (p:Int × Int):Bool:=(List.range A).all fun m=>Br ac p.1 m==Br bc p.2 m
def Fj (ac bc:List (List Bool)) (nx ny:List (List (List Int))) (A a:Nat):Bool:=(prF nx ny A a).all (Fa ac bc A)
def Nt (ac bc:List (List Bool)) (nx ny:List (List (List Int))) (A a:Nat):Bool:=(prF nx ny A a).all (Gx ac bc A)
theorem Sm (ac bc:List (List Bool)) (nx ny:List (List (List Int))) (A a:Nat):Nt ac bc nx ny A a=(Fj ac bc nx ny A a&&Fj bc ac ny nx A a):=by
 unfold Nt Fj prF;rw [W5 nx ny A a 3721,Bool.eq_iff_iff];simp only [Bool.and_eq_true,List.all_eq_true,List.mem_map,Fa,Gx,List.mem_range,J3]
 constructor
 ·intro h;refine ⟨fun p hp m hm=> ?_, ?_⟩
  ·have:=h p hp m hm;simp only [beq_iff_eq] at this;rw [this]
   simp
  rintro q ⟨p,hp,rfl⟩ m hm;have:=h p hp m hm;simp only [beq_iff_eq] at this
  simp [this]
 rintro ⟨h1,h2⟩ p hp m hm;have h3:=h1 p hp m hm;have h4:=h2 _ ⟨p,hp,rfl⟩ m hm;simp only at h4
 cases e1:Br ac p.1 m<;>cases e2:Br bc p.2 m<;>simp_all
theorem Blk.new6 (w:World) (t:TypeId) (a b c d e f:Value):Blk (w.alloc (.cells #[a,b,c,d,e,f] t)) w.heap.size t [a,b,c,d,e,f]:=Blk.made _ _ _
end Go.Proofs.YtlchgfbkdjjngaaGreatDoor
