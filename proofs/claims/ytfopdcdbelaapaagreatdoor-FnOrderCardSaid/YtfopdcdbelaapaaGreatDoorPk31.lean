/-
  Parts of a proof, joined: Lw, Lang, LangA, Kleene, LwA. No condition.
-/
import Derived.Test.YtfopdcdbelaapaaGreatDoorPk30
namespace Go.Proofs.YtfopdcdbelaapaaGreatDoor
set_option linter.unusedVariables false
set_option linter.unusedSimpArgs false
open Go.ChangeShapes Go.WideShapes Go.ChangeAt Go.RowKit Go.Deep Go.Sort
structure Later (w:World) (F:World→Prop):Prop where
 ok:∀w',Below w.heap.size w w'→F w'
theorem Later.now {w:World} {F:World→Prop} (h:Later w F):F w:=h.ok w (Below.refl _ _)
theorem Later.on {w w':World} {F:World→Prop} (h:Later w F) (hb:Below w.heap.size w w'):Later w' F:=⟨fun w2 k=>h.ok w2 (hb.trans (k.mono hb.size))⟩
theorem Later.and {w:World} {F G:World→Prop} (h:Later w F) (k:Later w G):Later w (fun w=>F w∧G w):=⟨fun w' b=>⟨h.ok w' b,k.ok w' b⟩⟩
theorem Later.rd {w:World} {d:D} {v:Value} (h:Rd w d v):Later w (fun w=>Rd w d v):=⟨fun _ b=>h.below b⟩
theorem Later.blk {w:World} {g t:Nat} {cur:List Value} (h:Blk w g t cur):Later w (fun w=>Blk w g t cur):=⟨fun _ b=>h.below b⟩
set_option maxRecDepth 10000
section
variable {H:Type} {enc:TypeId × Value→H} {W:World} {base:Nat} {sp:Nat→Bool} {hd:Bool} {v:Value} {d:DataW H} {ps:List MemPlace}
theorem cells_uint8:Tryz.prog.cellsOf 5=1:=by kernel_rfl
theorem open_byteS {r:Reach} {b0:Nat} (hval:Value.okWide Tryz.prog W r b0 68 v) (h:DataW.Trod enc Tryz.prog W base sp hd 68 v d ps):
  ∃(zs:List Int) (s:Option Addr) (cap:Nat),v= .slice s zs.length cap∧Rd W (bytesD zs) (.slice s zs.length cap)∧∀x∈zs,0≤x∧x≤255:=by
 obtain ⟨a,len,cap,rfl⟩:=okWide_slice Tryz.underlying68 hval;obtain ⟨fuel,hf⟩:=h;obtain ⟨v',zs,e,hr,hz⟩:=open_bytes Tryz.underlying68 Tryz.underlying5 cells_uint8 hf
 have e3:v'= .slice a len cap:=by simpa [Value.cells] using e.symm
 subst e3;obtain ⟨rfl,_⟩:=hr.sl_at;exact ⟨zs,a,cap,rfl,hr,hz⟩
end
theorem size_pairE {k:Int} {x y e:Ex} (h:e= .mk k 0 [x,y]):e.size=1+x.size+y.size:=by rw [h,Ex.size_eq]; simp only [Ex.kids,Ex.sizeL]; omega
theorem size_starE {x e:Ex} (h:e= .mk 8 0 [x]):e.size=1+x.size:=by rw [h,Ex.size_eq]; simp only [Ex.kids,Ex.sizeL]; omega
end Go.Proofs.YtfopdcdbelaapaaGreatDoor
namespace Go.Proofs.YtfopdcdbelaapaaGreatDoor
set_option linter.unusedVariables false
set_option linter.unusedSimpArgs false
def Lng:=List (Nat × Nat)→Nat→Prop
def hdA:List (Nat × Nat)→Nat→Nat
 |[],m=>m
 |p::_,_=>p.1
theorem hdA_append (u v:List (Nat × Nat)) (m:Nat):hdA (u++v) m=hdA u (hdA v m):=by cases u<;>rfl
def sumG (K L:Lng):Lng:=fun ws m=>K ws m∨L ws m
def dotG (K L:Lng):Lng:=fun ws m=>∃u v,ws=u++v∧K u (hdA v m)∧L v m
inductive StarI (K:Lng):List (Nat × Nat)→Nat→Prop
 |nil (m:Nat):StarI K [] m
 |cons (u v:List (Nat × Nat)) (m:Nat):K u (hdA v m)→StarI K v m→StarI K (u++v) m
def StarG (K:Lng):Lng:=fun ws m=>StarI K ws m
theorem StarG.nil {K:Lng} (m:Nat):StarG K [] m:=StarI.nil m
theorem StarG.cons {K:Lng} (u v:List (Nat × Nat)) (m:Nat) (h:K u (hdA v m)) (k:StarG K v m):StarG K (u++v) m:=StarI.cons u v m h k
def oneG:Lng:=fun ws _=>ws=[]
def actG (n:Int):Lng:=fun ws _=>∃p y:Nat,ws=[(p,y)]∧(y:Int)=n
def cndG (e:Ex):Lng:=fun ws m=>ws=[]∧e.emp (m:Int)=true
def noG:Lng:=fun _ _=>False
def lngC (k n:Int) (ks:List Ex) (Ls:List Lng):Lng:=
 if k=4 then actG n
 else if k=6 then sumG (Ls.getD 0 noG) (Ls.getD 1 noG)
 else if k=7 then dotG (Ls.getD 0 noG) (Ls.getD 1 noG)
 else if k=8 then StarG (Ls.getD 0 noG)
 else cndG (.mk k n ks)
mutual
def Ex.lng:Ex→Lng
 | .mk k n ks=>lngC k n ks (Ex.lngL ks)
def Ex.lngL:List Ex→List Lng
 |[]=>[]
 |e::r=>e.lng::Ex.lngL r
end
theorem Ex.lng_eq (k n:Int) (ks:List Ex):(Ex.mk k n ks).lng=lngC k n ks (Ex.lngL ks):=by simp only [Ex.lng]
theorem Ex.lng_act {n:Int} {ks:List Ex}:(Ex.mk 4 n ks).lng=actG n:=by rw [Ex.lng_eq]; simp [lngC]
theorem Ex.lng_sum {n:Int} {a b:Ex}:(Ex.mk 6 n [a,b]).lng=sumG a.lng b.lng:=by rw [Ex.lng_eq]; simp [lngC,Ex.lngL]
theorem Ex.lng_dot {n:Int} {a b:Ex}:(Ex.mk 7 n [a,b]).lng=dotG a.lng b.lng:=by rw [Ex.lng_eq]; simp [lngC,Ex.lngL]
theorem Ex.lng_star {n:Int} {a:Ex}:(Ex.mk 8 n [a]).lng=StarG a.lng:=by
 rw [Ex.lng_eq]
 simp [lngC,Ex.lngL]
theorem Ex.lng_else {k n:Int} {ks:List Ex} (h4:k≠4) (h6:k≠6) (h7:k≠7) (h8:k≠8):(Ex.mk k n ks).lng=cndG (.mk k n ks):=by
 rw [Ex.lng_eq];unfold lngC;rw [if_neg h4,if_neg h6,if_neg h7];exact if_neg h8
theorem emp_zero {m n:Int} {ks:List Ex}:(Ex.mk 1 n ks).emp m=false:=by simp [Ex.emp,empC]
theorem emp_one {m n:Int} {ks:List Ex}:(Ex.mk 2 n ks).emp m=true:=by simp [Ex.emp,empC]
theorem emp_act {m n:Int} {ks:List Ex}:(Ex.mk 4 n ks).emp m=false:=by simp [Ex.emp,empC]
theorem emp_sum {m n:Int} {a b:Ex}:(Ex.mk 6 n [a,b]).emp m=(a.emp m||b.emp m):=by simp [Ex.emp,empC,Ex.empL]
theorem emp_dot {m n:Int} {a b:Ex}:(Ex.mk 7 n [a,b]).emp m=(a.emp m&&b.emp m):=by simp [Ex.emp,empC,Ex.empL]
theorem emp_star {m n:Int} {a:Ex}:(Ex.mk 8 n [a]).emp m=true:=by simp [Ex.emp,empC]
theorem Ex.lng_zero {n:Int} {ks:List Ex} {ws:List (Nat × Nat)} {m:Nat}:¬(Ex.mk 1 n ks).lng ws m:=by
 rw [Ex.lng_else (by omega) (by omega) (by omega) (by omega)];rintro ⟨-, h⟩;rw [emp_zero] at h
 cases h
theorem Ex.lng_one {n:Int} {ks:List Ex}:(Ex.mk 2 n ks).lng=oneG:=by
 rw [Ex.lng_else (by omega) (by omega) (by omega) (by omega)];exact funext fun ws=>funext fun m=>propext ⟨fun h=>h.1,fun h=>⟨h,emp_one⟩⟩
theorem Lng.ext {K L:Lng} (h:∀ws m,K ws m↔L ws m):K=L:=funext fun ws=>funext fun m=>propext (h ws m)
def zeroG:Lng:=fun _ _=>False
theorem dotG_one_left (L:Lng):dotG oneG L=L:=Lng.ext fun ws m=>⟨by rintro ⟨u,v,rfl,rfl,h⟩; exact h,fun h=>⟨[],ws,rfl,rfl,h⟩⟩
theorem dotG_one_right (L:Lng):dotG L oneG=L:=Lng.ext fun ws m=>⟨by rintro ⟨u,v,rfl,h,rfl⟩; rw [List.append_nil]; exact h,fun h=>⟨ws,[],by simp,h,rfl⟩⟩
theorem dotG_zero_left (L:Lng):dotG zeroG L=zeroG:=Lng.ext fun ws m=>⟨by rintro ⟨u,v,rfl,h,_⟩; exact h,fun h=>h.elim⟩
theorem dotG_zero_right (L:Lng):dotG L zeroG=zeroG:=Lng.ext fun ws m=>⟨by rintro ⟨u,v,rfl,_,h⟩; exact h,fun h=>h.elim⟩
theorem dotG_assoc (J K L:Lng):dotG (dotG J K) L=dotG J (dotG K L):=Lng.ext fun ws m=>by
 constructor
 ·
  rintro ⟨u,v,rfl,⟨p,q,rfl,hp,hq⟩,hv⟩;exact ⟨p,q++v,by simp,by rw [hdA_append]; exact hp,q,v,rfl,hq,hv⟩
 ·
  rintro ⟨u,v,rfl,hu,⟨p,q,rfl,hp,hq⟩⟩;exact ⟨u++p,q,by simp,⟨u,p,rfl,by rw [hdA_append] at hu; exact hu,hp⟩,hq⟩
theorem StarG.one {K:Lng} {u:List (Nat × Nat)} {m:Nat} (h:K u m):StarG K u m:=by
 have:=StarG.cons u [] m h (StarG.nil m)
 rwa [List.append_nil] at this
theorem StarG.append {K:Lng} {u v:List (Nat × Nat)} {m:Nat} (hu:StarG K u (hdA v m)) (hv:StarG K v m):StarG K (u++v) m:=by
 generalize hx:hdA v m=x at hu
 induction hu with
 |nil=>exact hv
 |cons p q y hp hq ih=>
  subst hx;rw [List.append_assoc];exact StarG.cons p (q++v) m (by rw [hdA_append]; exact hp) (ih rfl)
theorem StarG.star {K:Lng} {ws:List (Nat × Nat)} {m:Nat} (hs:StarG (StarG K) ws m):StarG K ws m:=by
 induction hs with
 |nil=>exact StarG.nil _
 |cons u v m hu _ ih=>exact StarG.append hu ih
theorem starG_star (K:Lng):StarG (StarG K)=StarG K:=Lng.ext fun _ _=>⟨StarG.star,StarG.one⟩
theorem StarG.step {K:Lng} {p:Nat × Nat} {ws:List (Nat × Nat)} {m:Nat}:StarG K (p::ws) m↔∃u v,ws=u++v∧K (p::u) (hdA v m)∧StarG K v m:=by
 constructor
 ·
  intro h;generalize hx:p::ws=x at h
  induction h with
  |nil=>cases hx
  |cons u v m hu hv ih=>
   cases u with
   |nil=>exact ih hx
   |cons q u=>
    simp only [List.cons_append,List.cons.injEq] at hx;obtain ⟨rfl,rfl⟩:=hx;exact ⟨u,v,rfl,hu,hv⟩
 ·
  rintro ⟨u,v,rfl,hu,hv⟩;exact StarG.cons (p::u) v m hu hv
theorem dotG_step {K L:Lng} {p:Nat × Nat} {ws:List (Nat × Nat)} {m:Nat}:dotG K L (p::ws) m↔dotG (fun us x=>K (p::us) x) L ws m∨(K [] p.1∧L (p::ws) m):=by
 constructor
 ·
  rintro ⟨u,v,h,hu,hv⟩
  cases u with
  |nil=>
   simp only [List.nil_append] at h;subst h;exact Or.inr ⟨hu,hv⟩
  |cons q u=>
   simp only [List.cons_append,List.cons.injEq] at h;obtain ⟨rfl,rfl⟩:=h;exact Or.inl ⟨u,v,rfl,hu,hv⟩
 ·
  rintro (⟨u,v,rfl,hu,hv⟩|⟨hu,hv⟩)
  ·
   exact ⟨p::u,v,rfl,hu,hv⟩
  ·
   exact ⟨[],p::ws,rfl,hu,hv⟩
theorem lng_nil (tm am:Int) (N:Nat):∀e:Ex,e.size≤N→e.tree tm am=true→∀m:Nat,e.lng [] m↔e.emp (m:Int)=true:=by
 induction N using Nat.strongRecOn with
 |_ N ih=>
 intro e hN ht m;obtain ⟨k,n,ks⟩:=e;obtain ⟨hk, -, -, htl⟩:=tree_parts ht;have hs:=Ex.size_eq (.mk k n ks);simp only [Ex.kids] at hs
 by_cases h67:k=6∨k=7
 ·
  obtain ⟨a,b,rfl⟩:=two_kids hk h67;simp only [Ex.sizeL] at hs;have ha:=ih a.size (by omega) a (Nat.le_refl _) (Ex.treeL_mem htl (by simp)) m;have hb:=ih b.size (by omega) b (Nat.le_refl _) (Ex.treeL_mem htl (by simp)) m
  rcases h67 with rfl|rfl
  ·
   rw [Ex.lng_sum,emp_sum,Bool.or_eq_true,←ha,←hb]
   rfl
  ·
   rw [Ex.lng_dot,emp_dot,Bool.and_eq_true,←ha,←hb]
   constructor
   ·
    rintro ⟨u,v,h,hu,hv⟩;obtain ⟨rfl,rfl⟩:=List.append_eq_nil_iff.1 h.symm;exact ⟨hu,hv⟩
   ·
    rintro ⟨hu,hv⟩;exact ⟨[],[],rfl,hu,hv⟩
 by_cases h8:k=8
 ·
  subst h8;obtain ⟨a,rfl⟩:=one_kid hk (by omega);rw [Ex.lng_star,emp_star];exact ⟨fun _=>rfl,fun _=>StarG.nil _⟩
 by_cases h4:k=4
 ·
  subst h4;rw [Ex.lng_act,emp_act];refine ⟨?_,fun h=>by cases h⟩;rintro ⟨p,y,h, -⟩
  cases h
 ·
  rw [Ex.lng_else h4 (by omega) (by omega) h8];exact ⟨fun h=>h.2,fun h=>⟨rfl,h⟩⟩
theorem condKind_no {k:Int} (h:condKind k=true):k≠4∧k≠8:=by
 simp only [condKind,decide_eq_true_eq] at h;omega
theorem cond_lng (tm am:Int) (N:Nat):∀e:Ex,e.size≤N→e.tree tm am=true→e.cond=true→∀ws m,e.lng ws m→ws=[]:=by
 induction N using Nat.strongRecOn with
 |_ N ih=>
 intro e hN ht hc ws m h;obtain ⟨k,n,ks⟩:=e;obtain ⟨hk, -, -, htl⟩:=tree_parts ht;rw [Ex.cond_eq,Bool.and_eq_true] at hc;obtain ⟨hck,hcl⟩:=hc;simp only [Ex.kids,Ex.kind] at hck hcl;have hs:=Ex.size_eq (.mk k n ks);simp only [Ex.kids] at hs;obtain ⟨h4,h8⟩:=condKind_no hck
 by_cases h67:k=6∨k=7
 ·
  obtain ⟨a,b,rfl⟩:=two_kids hk h67;simp only [Ex.sizeL] at hs;have ha:=ih a.size (by omega) a (Nat.le_refl _) (Ex.treeL_mem htl (by simp)) (Ex.condL_mem hcl (by simp));have hb:=ih b.size (by omega) b (Nat.le_refl _) (Ex.treeL_mem htl (by simp)) (Ex.condL_mem hcl (by simp))
  rcases h67 with rfl|rfl
  ·
   rw [Ex.lng_sum] at h
   rcases h with h|h
   ·
    exact ha _ _ h
   ·
    exact hb _ _ h
  ·
   rw [Ex.lng_dot] at h;obtain ⟨u,v,rfl,hu,hv⟩:=h;rw [ha _ _ hu,hb _ _ hv]
   rfl
 ·
  rw [Ex.lng_else h4 (by omega) (by omega) h8] at h;exact h.1
theorem summ_lng (tm am:Int) (N:Nat):∀e:Ex,e.size≤N→e.tree tm am=true→∀ws m,e.lng ws m↔∃x∈e.summ,x.lng ws m:=by
 induction N using Nat.strongRecOn with
 |_ N ih=>
 intro e hN ht ws m;obtain ⟨k,n,ks⟩:=e
 by_cases h1:k=1
 ·
  subst h1;rw [Ex.summ_zero]
  simp [Ex.lng_zero]
 by_cases h6:k=6
 ·
  subst h6;obtain ⟨hk, -, -, htl⟩:=tree_parts ht;obtain ⟨a,b,rfl⟩:=two_kids hk (by omega);have hs:=Ex.size_eq (.mk 6 n [a,b]);simp only [Ex.kids,Ex.sizeL] at hs;have ha:=ih a.size (by omega) a (Nat.le_refl _) (Ex.treeL_mem htl (by simp)) ws m;have hb:=ih b.size (by omega) b (Nat.le_refl _) (Ex.treeL_mem htl (by simp)) ws m;rw [Ex.summ_sum,Ex.lng_sum]
  show a.lng ws m∨b.lng ws m↔_
  rw [ha,hb];simp only [List.mem_append]
  constructor
  ·
   rintro (⟨x,h,h'⟩|⟨x,h,h'⟩)
   ·
    exact ⟨x,Or.inl h,h'⟩
   ·
    exact ⟨x,Or.inr h,h'⟩
  ·
   rintro ⟨x,h|h,h'⟩
   ·
    exact Or.inl ⟨x,h,h'⟩
   ·
    exact Or.inr ⟨x,h,h'⟩
 ·
  rw [Ex.summ_else h1 h6]
  simp
theorem foldS_lng_aux:∀(r:List Ex) (x:Ex) (ws:List (Nat × Nat)) (m:Nat),(r.foldl (fun a b=>Ex.two 6 a b) x).lng ws m↔x.lng ws m∨∃y∈r,y.lng ws m
 |[],x,ws,m=>by simp
 |e::r,x,ws,m=>by
  rw [List.foldl_cons,foldS_lng_aux r]
  have:(Ex.two 6 x e).lng ws m↔x.lng ws m∨e.lng ws m:=by
   unfold Ex.two;rw [Ex.lng_sum]
   rfl
  rw [this]
  simp [or_assoc]
theorem foldS_lng (L:List Ex) (ws:List (Nat × Nat)) (m:Nat):(foldS L).lng ws m↔∃y∈L,y.lng ws m:=by
 cases L with
 |nil=>
  show (Ex.leaf 1).lng ws m↔_
  unfold Ex.leaf
  simp [Ex.lng_zero]
 |cons x r=>
  show (r.foldl (fun a b=>Ex.two 6 a b) x).lng ws m↔_
  rw [foldS_lng_aux]
  simp
theorem sumT_lng {tm am:Int} {x y:Ex} (hx:x.tree tm am=true) (hy:y.tree tm am=true):(sumT x y).lng=sumG x.lng y.lng:=Lng.ext fun ws m=>by
 unfold sumT;rw [foldS_lng]
 show _↔x.lng ws m∨y.lng ws m
 rw [summ_lng tm am _ x (Nat.le_refl _) hx,summ_lng tm am _ y (Nat.le_refl _) hy]
 constructor
 ·
  rintro ⟨z,hz,h⟩;have:=nub_mem.1 ((sortI_perm _).mem_iff.1 hz)
  rcases List.mem_append.1 this with h'|h'
  ·
   exact Or.inl ⟨z,h',h⟩
  ·
   exact Or.inr ⟨z,h',h⟩
 ·
  have key:∀z,z∈x.summ++y.summ→z∈sortI (nub (x.summ++y.summ)):=fun z hz=>(sortI_perm _).mem_iff.2 (nub_mem.2 hz);rintro (⟨z,hz,h⟩|⟨z,hz,h⟩)
  ·
   exact ⟨z,key z (List.mem_append_left _ hz),h⟩
  ·
   exact ⟨z,key z (List.mem_append_right _ hz),h⟩
theorem lng_kind1 {e:Ex} (h:e.kind=1):e.lng=zeroG:=by
 obtain ⟨k,n,ks⟩:=e;simp only [Ex.kind] at h;subst h;exact Lng.ext fun ws m=>⟨fun h=>Ex.lng_zero h,fun h=>h.elim⟩
theorem lng_kind2 {e:Ex} (h:e.kind=2):e.lng=oneG:=by
 obtain ⟨k,n,ks⟩:=e;simp only [Ex.kind] at h;subst h;exact Ex.lng_one
theorem dot_lng (tm am:Int) (N:Nat):∀x y:Ex,x.size≤N→x.tree tm am=true→y.tree tm am=true→(x.dot y).lng=dotG x.lng y.lng:=by
 induction N using Nat.strongRecOn with
 |_ N ih=>
 intro x y hN hx hy;obtain ⟨k,n,ks⟩:=x;have hs:=Ex.size_eq (.mk k n ks);simp only [Ex.kids] at hs
 by_cases h1:k=1
 ·
  rw [Ex.dot_eq,dotC,if_pos (Or.inl h1),lng_kind1 (e:= .mk k n ks) h1,dotG_zero_left];exact lng_kind1 rfl
 by_cases h1':y.kind=1
 ·
  rw [Ex.dot_eq,dotC,if_pos (Or.inr h1'),lng_kind1 h1',dotG_zero_right];exact lng_kind1 rfl
 by_cases h2:k=2
 ·
  rw [Ex.dot_eq,dotC,if_neg (by omega),if_pos h2,lng_kind2 (e:= .mk k n ks) h2,dotG_one_left]
 by_cases h3:y.kind=2
 ·
  rw [Ex.dot_eq,dotC,if_neg (by omega),if_neg h2,if_pos h3,lng_kind2 h3,dotG_one_right]
 by_cases h7:k=7
 ·
  subst h7;obtain ⟨hk, -, -, htl⟩:=tree_parts hx;obtain ⟨a,b,rfl⟩:=two_kids hk (by omega);simp only [Ex.sizeL] at hs;have hat:a.tree tm am=true:=Ex.treeL_mem htl (by simp);have hbt:b.tree tm am=true:=Ex.treeL_mem htl (by simp);rw [Ex.dot_seven h1' h3,Ex.lng_dot,ih a.size (by omega) a _ (Nat.le_refl _) hat (dot_spec tm am _ b y (Nat.le_refl _) hbt hy).1,ih b.size (by omega) b y (Nat.le_refl _) hbt hy,dotG_assoc]
 ·
  rw [Ex.dot_eq,dotC,if_neg (by omega),if_neg h2,if_neg h3,if_neg h7];unfold Ex.two;rw [Ex.lng_dot]
theorem star_lng {tm am:Int} {x:Ex} (hx:x.tree tm am=true):x.star.lng=StarG x.lng:=by
 unfold Ex.star
 split
 ·
  rename_i hc
  unfold Ex.leaf;rw [Ex.lng_one];refine Lng.ext fun ws m=>⟨fun h=> ?_,fun h=> ?_⟩
  ·
   unfold oneG at h;subst h;exact StarG.nil _
  ·
   show ws=[]
   induction h with
   |nil=>rfl
   |cons u v m hu _ ih=>
    rw [ih,cond_lng tm am _ x (Nat.le_refl _) hx hc _ _ hu]
    rfl
 split
 ·
  rename_i h8
  obtain ⟨k,n,ks⟩:=x;simp only [Ex.kind] at h8;subst h8;obtain ⟨hk, -, -, -⟩:=tree_parts hx;obtain ⟨a,rfl⟩:=one_kid hk (by omega);rw [Ex.lng_star,starG_star]
 ·
  rw [Ex.lng_star]
theorem tidy_lng (tm am:Int) (N:Nat):∀e:Ex,e.size≤N→e.tree tm am=true→e.tidy.lng=e.lng:=by
 induction N using Nat.strongRecOn with
 |_ N ih=>
 intro e hN ht;obtain ⟨k,n,ks⟩:=e;obtain ⟨hk, -, -, htl⟩:=tree_parts ht;have hs:=Ex.size_eq (.mk k n ks);simp only [Ex.kids] at hs
 by_cases h67:k=6∨k=7
 ·
  obtain ⟨a,b,rfl⟩:=two_kids hk h67;simp only [Ex.sizeL] at hs;have hat:a.tree tm am=true:=Ex.treeL_mem htl (by simp);have hbt:b.tree tm am=true:=Ex.treeL_mem htl (by simp);have ha:=ih a.size (by omega) a (Nat.le_refl _) hat;have hb:=ih b.size (by omega) b (Nat.le_refl _) hbt;have ta:=(tidy_spec tm am _ a (Nat.le_refl _) hat).1;have tb:=(tidy_spec tm am _ b (Nat.le_refl _) hbt).1
  rcases h67 with rfl|rfl
  ·
   rw [Ex.tidy_sum,sumT_lng ta tb,ha,hb,Ex.lng_sum]
  ·
   rw [Ex.tidy_dot,dot_lng tm am _ _ _ (Nat.le_refl _) ta tb,ha,hb,Ex.lng_dot]
 by_cases h8:k=8
 ·
  subst h8;obtain ⟨a,rfl⟩:=one_kid hk (by omega);simp only [Ex.sizeL] at hs;have hat:a.tree tm am=true:=Ex.treeL_mem htl (by simp);rw [Ex.tidy_star,star_lng (tidy_spec tm am _ a (Nat.le_refl _) hat).1,ih a.size (by omega) a (Nat.le_refl _) hat,Ex.lng_star]
 ·
  rw [Ex.tidy_else (by omega) (by omega) h8]
theorem limE_lng {tm am:Int} {e d:Ex} (h:limE e=some d) (ht:e.tree tm am=true):d.lng=e.lng:=by
 unfold limE at h
 split at h
 ·
  obtain rfl:=Option.some.inj h;exact tidy_lng tm am _ e (Nat.le_refl _) ht
 ·
  cases h
theorem step_lng (tm am:Int) (p x:Nat) (N:Nat):∀e d:Ex,e.size≤N→e.tree tm am=true→e.step (p:Int) (x:Int)=some d→∀ws m,d.lng ws m↔e.lng ((p,x)::ws) m:=by
 induction N using Nat.strongRecOn with
 |_ N ih=>
 intro e d hN ht h ws m;obtain ⟨k,n,ks⟩:=e;obtain ⟨hk, -, -, htl⟩:=tree_parts ht;have hs:=Ex.size_eq (.mk k n ks);simp only [Ex.kids] at hs
 by_cases h4:k=4
 ·
  subst h4;rw [Ex.step_act] at h;obtain rfl:=Option.some.inj h;rw [Ex.lng_act]
  by_cases hn:n=(x:Int)
  ·
   rw [if_pos hn];unfold Ex.leaf;rw [Ex.lng_one]
   show ws=[]↔_
   constructor
   ·
    rintro rfl;exact ⟨p,x,rfl,hn.symm⟩
   ·
    rintro ⟨q,y,hq, -⟩;exact (List.cons.inj hq).2
  ·
   rw [if_neg hn];unfold Ex.leaf;refine ⟨fun h=>absurd h Ex.lng_zero, ?_⟩;rintro ⟨q,y,hq,hy⟩
   exfalso
   have:=(List.cons.inj hq).1;simp only [Prod.mk.injEq] at this;exact hn (by rw [←hy,this.2])
 by_cases h6:k=6
 ·
  obtain ⟨a,b,rfl⟩:=two_kids hk (Or.inl h6);subst h6;simp only [Ex.sizeL] at hs;rw [Ex.step_sum] at h;obtain ⟨q,hq,h⟩:=Option.bind_eq_some_iff.1 h;obtain ⟨r,hr,h⟩:=Option.bind_eq_some_iff.1 h;have hat:a.tree tm am=true:=Ex.treeL_mem htl (by simp);have hbt:b.tree tm am=true:=Ex.treeL_mem htl (by simp);rw [limE_lng h (tree_two (Or.inl rfl) (step_spec tm am p x _ a q (Nat.le_refl _) hat hq).1 (step_spec tm am p x _ b r (Nat.le_refl _) hbt hr).1)];unfold Ex.two;rw [Ex.lng_sum,Ex.lng_sum];exact or_congr (ih a.size (by omega) a q (Nat.le_refl _) hat hq ws m) (ih b.size (by omega) b r (Nat.le_refl _) hbt hr ws m)
 by_cases h7:k=7
 ·
  obtain ⟨a,b,rfl⟩:=two_kids hk (Or.inr h7);subst h7;simp only [Ex.sizeL] at hs;rw [Ex.step_dot] at h;obtain ⟨q,hq,h⟩:=Option.bind_eq_some_iff.1 h;have hat:a.tree tm am=true:=Ex.treeL_mem htl (by simp);have hbt:b.tree tm am=true:=Ex.treeL_mem htl (by simp);have hqt:=(step_spec tm am p x _ a q (Nat.le_refl _) hat hq).1;have hqL:q.lng=fun us y=>a.lng ((p,x)::us) y:=Lng.ext fun us y=>ih a.size (by omega) a q (Nat.le_refl _) hat hq us y;have hemp:=lng_nil tm am _ a (Nat.le_refl _) hat p;rw [Ex.lng_dot,dotG_step,←hqL]
  show _↔dotG q.lng b.lng ws m∨(a.lng [] p∧_)
  rw [hemp]
  split at h
  ·
   rename_i he
   obtain ⟨r,hr,h⟩:=Option.bind_eq_some_iff.1 h;rw [limE_lng h (tree_two (Or.inl rfl) (tree_two (Or.inr rfl) hqt hbt) (step_spec tm am p x _ b r (Nat.le_refl _) hbt hr).1)];unfold Ex.two;rw [Ex.lng_sum,Ex.lng_dot]
   show dotG q.lng b.lng ws m∨r.lng ws m↔_
   rw [ih b.size (by omega) b r (Nat.le_refl _) hbt hr ws m]
   simp [he]
  ·
   rename_i he
   rw [limE_lng h (tree_two (Or.inr rfl) hqt hbt)];unfold Ex.two;rw [Ex.lng_dot]
   simp [he]
 by_cases h8:k=8
 ·
  subst h8;obtain ⟨a,rfl⟩:=one_kid hk (by omega);simp only [Ex.sizeL] at hs;rw [Ex.step_star] at h;obtain ⟨q,hq,h⟩:=Option.bind_eq_some_iff.1 h;have hat:a.tree tm am=true:=Ex.treeL_mem htl (by simp);have hqL:q.lng=fun us y=>a.lng ((p,x)::us) y:=Lng.ext fun us y=>ih a.size (by omega) a q (Nat.le_refl _) hat hq us y;rw [limE_lng h (tree_two (Or.inr rfl) (step_spec tm am p x _ a q (Nat.le_refl _) hat hq).1 ht)];unfold Ex.two;rw [Ex.lng_dot,Ex.lng_star,StarG.step,hqL]
  rfl
 ·
  rw [Ex.step_else h4 h6 h7 h8] at h;obtain rfl:=Option.some.inj h;rw [Ex.lng_else h4 h6 h7 h8];unfold Ex.leaf;refine ⟨fun h=>absurd h Ex.lng_zero, ?_⟩;rintro ⟨h, -⟩
  cases h
def okW (A a:Nat) (ws:List (Nat × Nat)) (m:Nat):Prop:=(∀q∈ws,q.1<A∧q.2<a)∧m<A
theorem okW.tail {A a:Nat} {q:Nat × Nat} {ws:List (Nat × Nat)} {m:Nat} (h:okW A a (q::ws) m):q.1<A∧q.2<a∧okW A a ws m:=
 ⟨(h.1 q (by simp)).1,(h.1 q (by simp)).2,fun p hp=>h.1 p (by simp [hp]),h.2⟩
def accN (ac:List (List Bool)) (nx:List (List (List Int))):Int→List (Nat × Nat)→Nat→Bool
 |s,[],m=>hasN ac s m
 |s,q::ws,m=>accN ac nx (goN nx s q.1 q.2) ws m
def goW (nx:List (List (List Int))):Int→List (Nat × Nat)→Int
 |s,[]=>s
 |s,q::ws=>goW nx (goN nx s q.1 q.2) ws
theorem accN_append (ac:List (List Bool)) (nx:List (List (List Int))):∀(us ws:List (Nat × Nat)) (s:Int) (m:Nat),accN ac nx s (us++ws) m=accN ac nx (goW nx s us) ws m
 |[],_,_,_=>rfl
 |q::us,ws,s,m=>accN_append ac nx us ws (goN nx s q.1 q.2) m
theorem goW_append (nx:List (List (List Int))):∀(us ws:List (Nat × Nat)) (s:Int),goW nx s (us++ws)=goW nx (goW nx s us) ws
 |[],_,_=>rfl
 |q::us,ws,s=>goW_append nx us ws (goN nx s q.1 q.2)
theorem accN_goW (ac:List (List Bool)) (nx:List (List (List Int))) (us:List (Nat × Nat)) (s:Int) (m:Nat):accN ac nx s us m=hasN ac (goW nx s us) m:=by
 have:=accN_append ac nx us [] s m;rw [List.append_nil] at this;rw [this]
 rfl
theorem accN_neg (ac:List (List Bool)) (nx:List (List (List Int))):∀(ws:List (Nat × Nat)) (s:Int) (m:Nat),s<0→accN ac nx s ws m=false
 |[],s,m,h=>by
  show hasN ac s m=false
  unfold hasN;rw [decide_eq_false (by omega),Bool.false_and]
 |q::ws,s,m,h=>by
  show accN ac nx (goN nx s q.1 q.2) ws m=false
  refine accN_neg ac nx ws _ m ?_;unfold goN;rw [if_pos h];omega
section
variable {α:Type} [DecidableEq α]
theorem growL_has:∀(ss:List (Option α)) (L:List α) {y:α},some y∈ss→y∈growL L ss
 |o::r,L,y,h=>by
  show y∈growL (grow1 L o) r
  rcases List.mem_cons.1 h with h|h
  ·
   subst h;exact (growL_prefix r _).subset grow1_mem
  ·
   exact growL_has r _ h
theorem expl_closed {s:α} {succ:α→List (Option α)} {k:Nat} (h:(expl s succ k).length≤k) {x y:α} (hx:x∈expl s succ k) (hy:some y∈succ x):y∈expl s succ k:=by
 obtain ⟨i,hi⟩:=List.mem_iff_getElem?.1 hx;have hlt:=(List.getElem?_eq_some_iff.1 hi).1
 have hik:i<k:=by omega
 have hpos:i<(expl s succ i).length:=by
  rcases Nat.lt_or_ge i (expl s succ i).length with q|q
  ·
   exact q
  ·
   rw [expl_stop q k (by omega)] at hlt;omega
 have hii:(expl s succ i)[i]? =some x:=by
  have h1:(expl s succ i)[i]? =some (expl s succ i)[i]:=List.getElem?_eq_getElem hpos;have h2:=prefix_get (expl_prefix s succ (show i≤k by omega)) h1;rw [hi] at h2;rw [h1,←h2]
 refine (expl_prefix s succ (show i+1≤k by omega)).subset ?_;rw [expl_succ hii];exact growL_has _ _ hy
theorem expl_first (s:α) (succ:α→List (Option α)) (k:Nat):(expl s succ k)[0]? =some s:=prefix_get (expl_prefix s succ (Nat.zero_le k)) (by simp [expl])
theorem grid_has {β:Type} {f:Nat→Nat→β} {A a m k:Nat} (hm:m<A) (hk:k<a):f m k∈grid f A a:=List.mem_of_getElem? (grid_at f hk hm)
end
theorem stN_go {A a:Nat} {e x:Ex} {s m k:Nat} (h:(stL A a e 60)[s]? =some x) (hm:m<A) (hk:k<a):goN (stN A a e) s m k=numO (stL A a e 60) (nxtE m k x):=by
 unfold goN stepN;rw [if_neg (by omega),Int.toNat_natCast]
 have h1:(stN A a e)[s]? =some (rowsE (stL A a e 60) A a x):=by unfold stN; rw [List.getElem?_map,h]; rfl
 have h2:(rowsE (stL A a e 60) A a x)[m]? =some (rowE (stL A a e 60) a m x):=by unfold rowsE; rw [List.getElem?_map,List.getElem?_range hm]; rfl
 have h3:(rowE (stL A a e 60) a m x)[k]? =some (numO (stL A a e 60) (nxtE m k x)):=by unfold rowE; rw [List.getElem?_map,List.getElem?_range hk]; rfl
 rw [List.getD_eq_getElem?_getD,List.getD_eq_getElem?_getD,List.getD_eq_getElem?_getD,h1];simp only [Option.getD_some];rw [h2];simp only [Option.getD_some];rw [h3]
 rfl
theorem mad_has {A a:Nat} {e x:Ex} {s m:Nat} (hok:stOk A a e) (h:(stL A a e 60)[s]? =some x) (hm:m<A):hasN (madA A a e) s m=x.emp (m:Int):=by
 unfold hasN;rw [decide_eq_true (by omega),Bool.true_and,Int.toNat_natCast]
 have h1:(madA A a e)[s]? =some (accE A x):=by unfold madA; rw [(stLL_yes hok).1,List.getElem?_map,h]; rfl
 have h2:(accE A x)[m]? =some (x.emp (m:Int)):=by unfold accE; rw [List.getElem?_map,List.getElem?_range hm]; rfl
 rw [List.getD_eq_getElem?_getD,List.getD_eq_getElem?_getD,h1];simp only [Option.getD_some];rw [h2]
 rfl
theorem acc_aux {tm am:Int} {A a:Nat} {L:List Ex} {ac:List (List Bool)} {nx:List (List (List Int))} (hsp:∀x∈L,x.tree tm am=true) (hst:∀x∈L,∀p k:Nat,p<A→k<a→x.step (p:Int) (k:Int)≠none)
  (hcl:∀x∈L,∀p k:Nat,p<A→k<a→∀d,nxtE p k x=some d→d∈L) (hgo:∀(s:Nat) (x:Ex) (p k:Nat),L[s]? =some x→p<A→k<a→goN nx s p k=numO L (nxtE p k x)) (hhas:∀(s:Nat) (x:Ex) (m:Nat),L[s]? =some x→m<A→hasN ac s m=x.emp (m:Int))
  (ws:List (Nat × Nat)):∀(s:Nat) (x:Ex) (m:Nat),L[s]? =some x→okW A a ws m→(accN ac nx s ws m=true↔x.lng ws m):=by
 induction ws with
 |nil=>
  intro s x m h hw;rw [lng_nil tm am _ x (Nat.le_refl _) (hsp x (List.mem_of_getElem? h))]
  show hasN _ _ _=true↔_
  rw [hhas s x m h hw.2]
 |cons q ws ih=>
  intro s x m h hw;obtain ⟨hq1,hq2,hw'⟩:=hw.tail;have hmem:=List.mem_of_getElem? h;obtain ⟨p,k⟩:=q;simp only at hq1 hq2
  show accN _ _ (goN nx s p k) ws m=true↔_
  rw [hgo s x p k h hq1 hq2];obtain ⟨d,hd⟩:∃d,x.step (p:Int) (k:Int)=some d:=Option.ne_none_iff_exists'.1 (hst x hmem p k hq1 hq2);rw [←step_lng tm am p k _ x d (Nat.le_refl _) (hsp x hmem) hd]
  by_cases h1:d.kind=1
  ·
   rw [nxtE_dead hd h1];simp only [numO];rw [accN_neg _ _ _ _ _ (by omega),lng_kind1 h1]
   simp [zeroG]
  ·
   have hn:=nxtE_live hd h1;have hin:d∈L:=hcl x hmem p k hq1 hq2 d hn;rw [hn];simp only [numO];refine ih _ d m ?_ hw';have hlt:=List.idxOf_lt_length_of_mem hin;rw [List.getElem?_eq_getElem hlt,List.getElem_idxOf hlt]
theorem st_acc {tm am:Int} {A a:Nat} {e:Ex} (ht:e.tree tm am=true) (hs:e.size≤200) (hok:stOk A a e) (ws:List (Nat × Nat)) (m:Nat) (hw:okW A a ws m):accN (madA A a e) (stNN A a e) 0 ws m=true↔e.tidy.lng ws m:=by
 obtain ⟨L,hL⟩:∃L,L=stL A a e 60:=⟨_,rfl⟩
 have hsp:∀x∈L,x.tree tm am=true:=fun x hx=>by rw [hL] at hx; exact (stL_spec ht hs 60 x hx).1
 have hst:∀x∈L,∀p k:Nat,p<A→k<a→x.step (p:Int) (k:Int)≠none:=by rw [hL]; exact hok.2
 have hcl:∀x∈L,∀p k:Nat,p<A→k<a→∀d,nxtE p k x=some d→d∈L:=fun x hx p k hp hk d hd=>by
  rw [hL] at hx ⊢;exact expl_closed hok.1 hx (by rw [←hd]; exact grid_has (f:=fun m k=>nxtE m k x) hp hk)
 have hgo:∀(s:Nat) (x:Ex) (p k:Nat),L[s]? =some x→p<A→k<a→goN (stNN A a e) s p k=numO L (nxtE p k x):=fun s x p k h hp hk=>by
  rw [hL] at h ⊢;rw [(stLL_yes hok).2.1];exact stN_go h hp hk
 have hhas:∀(s:Nat) (x:Ex) (m:Nat),L[s]? =some x→m<A→hasN (madA A a e) s m=x.emp (m:Int):=fun s x m h hm=>by
  rw [hL] at h;exact mad_has hok h hm
 have h0:L[0]? =some e.tidy:=by rw [hL]; exact expl_first _ _ _
 exact acc_aux hsp hst hcl hgo hhas ws 0 e.tidy m h0 hw
theorem au_lng {t a:Int} {e:Ex} (hc:auC t a e=0) {ws:List (Nat × Nat)} {m:Nat} (hw:okW (atomsN t).toNat a.toNat ws m):accN (auA t a e) (auX t a e) 0 ws m=true↔e.lng ws m:=by
 obtain ⟨hok, -, -, -⟩:=au_ok hc;obtain ⟨-, -, e3,e4,e5⟩:=au_yes hok;rw [e5] at hc
 have hst:stOk (atomsN t).toNat a.toNat e:=by
  apply Classical.byContradiction
  intro hn;have:=(stLL_no hn).2.2;omega
 have hs:=(okB_bd hok).2.2;have ht:=okB_tree hok;rw [e3,e4,st_acc ht hs hst ws m hw,tidy_lng _ _ _ e (Nat.le_refl _) ht]
section
variable {t a:Int} {ac bc:List (List Bool)} {nx ny:List (List (List Int))}
theorem prF_closed (h:AutOk t a ac nx) (h':AutOk t a bc ny) {m k:Nat} (hm:m<(atomsN t).toNat) (hk:k<a.toNat) {p z:Int × Int} (hp:p∈prF nx ny (atomsN t).toNat a.toNat) (hz:nxtP nx ny m k p=some z):z∈prF nx ny (atomsN t).toNat a.toNat:=
 expl_closed (prL_many h h' 3721) hp (by rw [←hz]; exact grid_has (f:=fun m k=>nxtP nx ny m k p) hm hk)
theorem within_acc {A b:Nat} {L:List (Int × Int)} (hcl:∀p∈L,∀m k:Nat,m<A→k<b→∀z,nxtP nx ny m k p=some z→z∈L) (hw:∀p∈L,∀m,m<A→hasN ac p.1 m=true→hasN bc p.2 m=true)
  (ws:List (Nat × Nat)):∀(m:Nat) (p:Int × Int),p∈L→okW A b ws m→accN ac nx p.1 ws m=true→accN bc ny p.2 ws m=true:=by
 induction ws with
 |nil=>exact fun m p hp ho ha=>hw p hp m ho.2 ha
 |cons q ws ih=>
  intro m p hp ho ha;obtain ⟨hq1,hq2,ho'⟩:=ho.tail;have ha':accN ac nx (goN nx p.1 q.1 q.2) ws m=true:=ha
  show accN bc ny (goN ny p.2 q.1 q.2) ws m=true
  by_cases hg:goN nx p.1 q.1 q.2<0
  ·
   rw [accN_neg _ _ _ _ _ hg] at ha'
   cases ha'
  ·
   have hz:nxtP nx ny q.1 q.2 p=some (goN nx p.1 q.1 q.2,goN ny p.2 q.1 q.2):=by
    unfold nxtP;rw [if_neg (fun q=>hg q.1)]
   exact ih m (_,_) (hcl p hp q.1 q.2 hq1 hq2 _ hz) ho' ha'
theorem run_aux {A b:Nat} (i:Nat):∀p∈prL nx ny A b i,∃us:List (Nat × Nat),(∀q∈us,q.1<A∧q.2<b)∧p.1=goW nx 0 us∧p.2=goW ny 0 us:=by
 refine expl_all ⟨[],by simp,rfl,rfl⟩ ?_ i;rintro y ⟨us,hu,h1,h2⟩ m k hm hk z hz;unfold nxtP at hz
 split at hz
 ·
  cases hz
 ·
  obtain rfl:=Option.some.inj hz;refine ⟨us++[(m,k)], ?_, ?_, ?_⟩
  ·
   intro q hq
   rcases List.mem_append.1 hq with hq|hq
   ·
    exact hu q hq
   ·
    rw [List.mem_singleton] at hq;subst hq;exact ⟨hm,hk⟩
  ·
   rw [goW_append,←h1]; rfl
  ·
   rw [goW_append,←h2]; rfl
theorem within_list {A b:Nat} {L:List (Int × Int)} (h0:((0:Int),(0:Int))∈L) (hcl:∀p∈L,∀m k:Nat,m<A→k<b→∀z,nxtP nx ny m k p=some z→z∈L) (hrun:∀p∈L,∃us:List (Nat × Nat),(∀q∈us,q.1<A∧q.2<b)∧p.1=goW nx 0 us∧p.2=goW ny 0 us):
  L.all (inAtB ac bc A)=true↔∀ws m,okW A b ws m→accN ac nx 0 ws m=true→accN bc ny 0 ws m=true:=by
 constructor
 ·
  intro hw ws m ho ha;refine within_acc (L:=L) hcl (fun p hp m hm h=> ?_) ws m ((0:Int),(0:Int)) h0 ho ha;have:=List.all_eq_true.1 hw p hp;unfold inAtB at this;have:=List.all_eq_true.1 this m (List.mem_range.2 hm);rw [h] at this
  simpa using this
 ·
  intro hw;rw [List.all_eq_true];intro p hp;obtain ⟨us,hu,h1,h2⟩:=hrun p hp;unfold inAtB;rw [List.all_eq_true];intro m hm;have:=hw us m ⟨hu,List.mem_range.1 hm⟩;rw [accN_goW,accN_goW,←h1,←h2] at this
  cases e1:hasN ac p.1 m
  ·
   rfl
  ·
   rw [this e1]
   rfl
theorem prL_first (nx ny:List (List (List Int))) (A b i:Nat):((0:Int),(0:Int))∈prL nx ny A b i:=by unfold prL; exact List.mem_of_getElem? (expl_first _ _ i)
theorem within_iff (h:AutOk t a ac nx) (h':AutOk t a bc ny):withinB ac bc nx ny (atomsN t).toNat a.toNat=true↔∀ws m,okW (atomsN t).toNat a.toNat ws m→accN ac nx 0 ws m=true→accN bc ny 0 ws m=true:=
 within_list (prL_first nx ny _ _ 3721) (fun _ hp _ _ hm hk _ hz=>prF_closed h h' hm hk hp hz) (run_aux 3721)
end
theorem atB_iff {t a:Int} {e f:Ex} (hc:bothC t a e f=0):atB t a e f=true↔∀ws m,okW (atomsN t).toNat a.toNat ws m→e.lng ws m→f.lng ws m:=by
 obtain ⟨hce,hcf⟩:=both_ok hc;obtain ⟨-, -, -, hoke⟩:=au_ok hce;obtain ⟨-, -, -, hokf⟩:=au_ok hcf;unfold atB;rw [within_iff hoke hokf]
 constructor
 ·
  intro h ws m ho he;exact (au_lng hcf ho).1 (h ws m ho ((au_lng hce ho).2 he))
 ·
  intro h ws m ho he;exact (au_lng hcf ho).2 (h ws m ho ((au_lng hce ho).1 he))
def Ex.sumE (a b:Ex):Ex:= .mk 6 0 [a,b]
def Ex.dotE (a b:Ex):Ex:= .mk 7 0 [a,b]
def Ex.starE (a:Ex):Ex:= .mk 8 0 [a]
theorem lng_sumE (a b:Ex):(a.sumE b).lng=sumG a.lng b.lng:=Ex.lng_sum
theorem lng_dotE (a b:Ex):(a.dotE b).lng=dotG a.lng b.lng:=Ex.lng_dot
theorem lng_starE (a:Ex):a.starE.lng=StarG a.lng:=Ex.lng_star
end Go.Proofs.YtfopdcdbelaapaaGreatDoor
namespace Go.Proofs.YtfopdcdbelaapaaGreatDoor
set_option linter.unusedVariables false
set_option linter.unusedSimpArgs false
open Go.ChangeShapes Go.WideShapes Go.ChangeAt Go.RowKit Go.Deep Go.Sort
theorem specAtMost_l {t a:Int} {e f:Ex} {s s':Option Addr} {c c':Nat} {w:World} (hr:Rd w (kidsD e.kids) (.slice s e.kids.length c)) (hr':Rd w (kidsD f.kids) (.slice s' f.kids.length c')) (h1:e.size≤1000) (h2:f.size≤1000):
  Calls Tryz.prog 62 #[.agg #[.int .i64 t, .int .i64 a], .agg #[.int .i64 e.kind, .int .i64 e.num, .slice s e.kids.length c], .agg #[.int .i64 f.kind, .int .i64 f.num, .slice s' f.kids.length c']] w fun z w'=>z= .returned (.tuple #[.bool (atR t a e f), .int .i64 (bothC t a e f)])∧Below w.heap.size w w':=by
 obtain ⟨k,n,ks⟩:=e;obtain ⟨k',n',ks'⟩:=f;rw [Ex.size_eq] at h1 h2;exact specAtMost_i hr hr' (by omega) (by omega)
end Go.Proofs.YtfopdcdbelaapaaGreatDoor
