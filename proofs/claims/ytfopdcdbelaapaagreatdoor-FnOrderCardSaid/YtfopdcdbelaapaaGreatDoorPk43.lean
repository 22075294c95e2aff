/-
  Parts of a proof, joined: Mem, Mark, PrP, Swap, WdB, AtS, AtI, Lw. No condition.
-/
import Derived.Test.YtfopdcdbelaapaaGreatDoorPk30
namespace Go.Proofs.YtfopdcdbelaapaaGreatDoor
set_option linter.unusedVariables false
set_option linter.unusedSimpArgs false
open Go.ChangeShapes Go.WideShapes Go.ChangeAt Go.RowKit Go.Deep
theorem Free.frozen {w:World} {g:Nat} (h:Free w g) (i:Nat):w.frozen? ⟨g,i,none⟩=false:=by
 obtain ⟨cur,t,h⟩:=h;have h':w.heap[(⟨g,i,none⟩:Addr).block]? =some (.cells cur t (0,0)):=h
 simp [World.frozen?, h']
theorem Only.refl (F:List Nat) (w:World):Only F w w:=⟨rfl,rfl,rfl,Nat.le_refl _,fun _ _ _=>rfl⟩
theorem Only.setCell {F:List Nat} {a w:World} (h:Only F a w) {p:Addr} (hp:p.block∈F) (u:Value):Only F a (w.setCell p u):=
 h.trans ⟨rfl,rfl,rfl,by simp [World.setCell],fun k _ hn=>Below.heap_setCell _ _ _ _ (fun e=>hn (e ▸ hp))⟩
theorem Ow.int {w:World} (n:Int):Ow w (.int n) (.int .i64 n) []:=by simp [Ow]
section
variable {H:Type} {enc:TypeId × Value→H} {P:Program} {w:World} {base:Nat} {sp:Nat→Bool} {hd:Bool}
end
theorem Ows.split {w:World}:∀{cs:List D} {xs:List Value} {F:List Nat},Ows w cs xs F→∀{j:Nat} {c:D},cs[j]? =some c→
  ∃x A G B,xs[j]? =some x∧F=A++(G++B)∧Ow w c x G∧
   (∀w' c' x' G',Ow w' c' x' G'→(∀b∈A++B,w'.heap[b]? =w.heap[b]?)→Ows w' (cs.set j c') (xs.set j x') (A++(G'++B)))
 |[],_,_,_,j,c,hj=>by simp at hj
 |c0::cs,_,_,h,j,c,hj=>by
  simp only [Ows] at h;obtain ⟨x,r,G,K,rfl,rfl,h1,h2⟩:=h
  cases j with
  |zero=>
   simp at hj;subst hj;refine ⟨x,[],G,K,by simp,by simp,h1,fun w' c' x' G' h' hk=> ?_⟩;simp only [List.set_cons_zero,Ows,List.nil_append];exact ⟨x',r,G',K,rfl,rfl,h',h2.keep fun b hb=>hk b (by simpa using hb)⟩
  |succ j=>
   obtain ⟨y,A,G1,B,e1,e2,e3,e4⟩:=Ows.split h2 (j:=j) (c:=c) (by simpa using hj);subst e2;refine ⟨y,G++A,G1,B,by simpa using e1,by simp,e3,fun w' c' x' G' h' hk=> ?_⟩
   have:=e4 w' c' x' G' h' (fun b hb=>hk b (by
    rcases List.mem_append.1 hb with hb|hb
    ·
     exact List.mem_append_left _ (List.mem_append_right _ hb)
    ·
     exact List.mem_append_right _ hb))
   simp only [List.set_cons_succ,Ows];exact ⟨x,_,G,A++(G'++B),rfl,by simp,h1.keep fun b hb=>hk b (by simp [hb]),this⟩
theorem Free.blk {w:World} {b:Nat} (h:Free w b):∃t cur,Blk w b t cur:=by
 obtain ⟨cur,t,h⟩:=h;exact ⟨t,cur.toList,by simpa [Blk] using h⟩
theorem Free.set {w:World} {b:Nat} (h:Free w b) (i:Nat) (v:Value):Free (w.setCell ⟨b,i,none⟩ v) b:=by
 obtain ⟨t,cur,h⟩:=h.blk;exact (h.set i v).free
theorem Row.set {w:World} {b o:Nat} {xs:List Value} (hf:Free w b) (h:Row w b o xs) (j:Nat) (v:Value):Row (w.setCell ⟨b,o+j,none⟩ v) b o (xs.set j v):=by
 obtain ⟨t,cur,hb⟩:=hf.blk;have hb':=hb.set (o+j) v;intro i hi;have h1:=h i (by simpa using hi);rw [hb.cell] at h1;rw [hb'.cell,List.getElem?_set,List.getElem?_set]
 by_cases hij:j=i
 ·
  subst hij
  have hlen:j<xs.length:=by simpa using hi
  have hcur:o+j<cur.length:=by
   by_cases hc:o+j<cur.length
   ·
    exact hc
   ·
    rw [List.getElem?_eq_none (by omega),List.getElem?_eq_getElem hlen] at h1
    cases h1
  simp [hlen,hcur]
 ·
  rw [if_neg (by omega),if_neg hij,h1]
theorem Ow.spot {w:World} {size n len cap:Nat} {cs:List D} {a:Option Addr} {F:List Nat} (h:Ow w (.sl size n cs) (.slice a len cap) F) (hn:0<n):∃b o,a=some ⟨b,o,none⟩:=by
 simp only [Ow] at h;obtain ⟨a',cap',h1,h2,h3,h4,h6,h5⟩:=h;simp only [Value.slice.injEq] at h1;obtain ⟨rfl,rfl,rfl⟩:=h1
 rcases h5 with h5|⟨b,o,xs,G,e1,_⟩
 ·
  omega
 ·
  exact ⟨b,o,e1⟩
theorem Ow.cell {w:World} {size n b o len cap:Nat} {cs:List D} {F:List Nat} (h:Ow w (.sl size n cs) (.slice (some ⟨b,o,none⟩) len cap) F) (hn:F.Nodup) {j:Nat} {c:D} (hj:cs[j]? =some c):
  ∃x G,w.cell? ⟨b,o+j,none⟩=some x∧w.frozen? ⟨b,o+j,none⟩=false∧b∈F∧b<w.heap.size∧b∉G∧(∀g∈G,g∈F)∧G.Nodup∧Ow w c x G∧
   (∀w' c',Ow w' c' x G→Only G w w'→Ow w' (.sl size n (cs.set j c')) (.slice (some ⟨b,o,none⟩) len cap) F)∧
   (G=[]→∀c' x',(∀w',Ow w' c' x' [])→Ow (w.setCell ⟨b,o+j,none⟩ x') (.sl size n (cs.set j c')) (.slice (some ⟨b,o,none⟩) len cap) F):=by
 simp only [Ow] at h;obtain ⟨a,cap',h1,h2,h3,h4,h6,h5⟩:=h;simp only [Value.slice.injEq] at h1;obtain ⟨rfl,rfl,rfl⟩:=h1
 rcases h5 with ⟨h0,_⟩|⟨b',o',xs,K,e1,rfl,hf,hrow,hows⟩
 ·
  have:=(List.getElem?_eq_some_iff.1 hj).1;rw [h4,h0] at this;omega
 simp only [Option.some.injEq,Addr.mk.injEq,and_true] at e1;obtain ⟨rfl,rfl⟩:=e1;obtain ⟨x,A,G,B,s1,s2,s3,s4⟩:=hows.split hj;subst s2;rw [List.nodup_cons] at hn;obtain ⟨hnb,hnd⟩:=hn;have hbl:=hf.lt
 have ndG:G.Nodup:=by
  rw [List.nodup_append,List.nodup_append] at hnd;exact hnd.2.1.1
 have dis:∀g∈A++B,g∉G:=by
  intro g hg hg';rw [List.nodup_append,List.nodup_append] at hnd
  rcases List.mem_append.1 hg with hg|hg
  ·
   exact hnd.2.2 g hg g (List.mem_append_left _ hg') rfl
  ·
   exact hnd.2.1.2.2 g hg' g hg rfl
 have hltAB:∀g∈A++B,g<w.heap.size:=fun g hg=>hows.lt g (by
  rcases List.mem_append.1 hg with hg|hg
  ·
   exact List.mem_append_left _ hg
  ·
   exact List.mem_append_right _ (List.mem_append_right _ hg))
 have hj':j<xs.length:=(List.getElem?_eq_some_iff.1 s1).1;refine ⟨x,G,(hrow j hj').trans s1,hf.frozen _,List.mem_cons_self .., hbl,fun hm=>hnb (List.mem_append_right _ (List.mem_append_left _ hm)),fun g hg=>List.mem_cons_of_mem _ (List.mem_append_right _ (List.mem_append_left _ hg)),ndG,s3, ?_, ?_⟩
 ·
  intro w' c' hc' honly;have hb':w'.heap[b]? =w.heap[b]? :=honly.block b hbl (fun hm=>hnb (List.mem_append_right _ (List.mem_append_left _ hm)));have hset:=s4 w' c' x G hc' (fun g hg=>honly.block g (hltAB g hg) (dis g hg))
  rw [show xs.set j x=xs by
   obtain ⟨hl,hx⟩:=List.getElem?_eq_some_iff.1 s1
   rw [←hx]; exact List.set_getElem_self hl] at hset
  obtain ⟨cur,t,hcur⟩:=hf;simp only [Ow];exact ⟨_,cap,rfl,h2,h3,by rw [List.length_set]; exact h4,h6,Or.inr ⟨b,o,xs,A++(G++B),rfl,rfl,⟨cur,t,hb'.trans hcur⟩,hrow.congr hb',hset⟩⟩
 ·
  intro hG c' x' hc';subst hG
  have hset:=s4 (w.setCell ⟨b,o+j,none⟩ x') c' x' [] (hc' _) (fun g hg=>Below.heap_setCell _ _ _ _ (fun e=>hnb (by
   have e':g=b:=e;rw [←e']
   rcases List.mem_append.1 hg with hg|hg
   ·
    exact List.mem_append_left _ hg
   ·
    exact List.mem_append_right _ (List.mem_append_right _ hg))))
  simp only [Ow];exact ⟨_,cap,rfl,h2,h3,by rw [List.length_set]; exact h4,h6,Or.inr ⟨b,o,_,_,rfl,rfl,hf.set _ _,hrow.set hf j x',hset⟩⟩
theorem Ow.int_cell {w:World} {size n b o len cap:Nat} {cs:List D} {F:List Nat} (h:Ow w (.sl size n cs) (.slice (some ⟨b,o,none⟩) len cap) F) (hn:F.Nodup) {j:Nat} {z:Int} (hj:cs[j]? =some (.int z)):
  w.cell? ⟨b,o+j,none⟩=some (.int .i64 z)∧w.frozen? ⟨b,o+j,none⟩=false∧b<w.heap.size∧
   (∀z':Int,Ow (w.setCell ⟨b,o+j,none⟩ (.int .i64 z')) (.sl size n (cs.set j (.int z'))) (.slice (some ⟨b,o,none⟩) len cap) F∧Only F w (w.setCell ⟨b,o+j,none⟩ (.int .i64 z'))):=by
 obtain ⟨x,G,h1,h2,h3,h4,h5,h6,h7,h8,h9,h10⟩:=h.cell hn hj;simp only [Ow] at h8;obtain ⟨rfl,rfl⟩:=h8;exact ⟨h1,h2,h4,fun z'=>⟨h10 rfl _ _ (fun _=>Ow.int _),(Only.refl F w).setCell h3 _⟩⟩
theorem ints_at {zs:List Int} {i:Nat} {z:Int} (h:zs[i]? =some z):(zs.map D.int)[i]? =some (D.int z):=by rw [List.getElem?_map,h]; rfl
section
variable {nx ny:List (List (List Int))} {A a i:Nat} {x:Int × Int} {m k:Nat}
end
section
variable {t a:Int} {ac bc:List (List Bool)} {nx ny:List (List (List Int))}
end
theorem grow1_map {α β:Type} [DecidableEq α] [DecidableEq β] {g:α→β} (hg:∀x y,g x=g y→x=y) (L:List α) (o:Option α):grow1 (L.map g) (o.map g)=(grow1 L o).map g:=by
 cases o with
 |none=>rfl
 |some x=>
  by_cases h:x∈L
  ·
   rw [grow1_old h,Option.map_some,grow1_old (List.mem_map.2 ⟨x,h,rfl⟩)]
  ·
   rw [grow1_new h,Option.map_some,grow1_new,List.map_append]
   ·
    rfl
   ·
    intro hm;obtain ⟨y,hy,e⟩:=List.mem_map.1 hm;exact h (hg y x e ▸ hy)
theorem growL_map {α β:Type} [DecidableEq α] [DecidableEq β] {g:α→β} (hg:∀x y,g x=g y→x=y):∀(ss:List (Option α)) (L:List α),growL (L.map g) (ss.map (Option.map g))=(growL L ss).map g
 |[],_=>rfl
 |o::r,L=>by
  show growL (grow1 (L.map g) (o.map g)) (r.map (Option.map g))=_
  rw [grow1_map hg,growL_map hg r]
  rfl
theorem expl_map {α β:Type} [DecidableEq α] [DecidableEq β] {g:α→β} (hg:∀x y,g x=g y→x=y) {s:α} {f:α→List (Option α)} {f':β→List (Option β)} (hf:∀x,f' (g x)=(f x).map (Option.map g)):∀i,expl (g s) f' i=(expl s f i).map g
 |0=>rfl
 |i+1=>by
  have ih:=expl_map hg hf i (s:=s)
  cases h:(expl s f i)[i]? with
  |none=>
   simp only [expl,ih,List.getElem?_map,h,Option.map_none]
  |some x=>
   simp only [expl,ih,List.getElem?_map,h,Option.map_some];rw [hf,growL_map hg]
theorem grid_map {α β:Type} (f:Nat→Nat→α) (g:α→β) (a:Nat):∀A,grid (fun m k=>g (f m k)) A a=(grid f A a).map g
 |0=>rfl
 |A+1=>by
  rw [grid_succ,grid_succ,List.map_append,grid_map f g a A,List.map_map]
  rfl
def swapP (p:Int × Int):Int × Int:=(p.2,p.1)
theorem nxtP_swap (nx ny:List (List (List Int))) (m k:Nat) (p:Int × Int):nxtP ny nx m k (swapP p)=(nxtP nx ny m k p).map swapP:=by
 unfold nxtP swapP;simp only
 by_cases h:goN nx p.1 m k<0∧goN ny p.2 m k<0
 ·
  rw [if_pos h,if_pos ⟨h.2,h.1⟩]
  rfl
 ·
  rw [if_neg h,if_neg fun h'=>h ⟨h'.2,h'.1⟩]
  rfl
theorem prL_swap (nx ny:List (List (List Int))) (A a i:Nat):prL ny nx A a i=(prL nx ny A a i).map swapP:=by
 unfold prL;refine expl_map (g:=swapP) (s:=((0:Int),(0:Int))) (fun x y h=> ?_) (fun x=> ?_) i
 ·
  simp only [swapP,Prod.mk.injEq] at h;exact Prod.ext h.2 h.1
 ·
  rw [←grid_map]
  congr 1
  funext m k
  exact nxtP_swap nx ny m k x
def eqAtB (ac bc:List (List Bool)) (A:Nat) (p:Int × Int):Bool:=(List.range A).all fun m=>hasN ac p.1 m==hasN bc p.2 m
def sameB (ac bc:List (List Bool)) (nx ny:List (List (List Int))) (A a:Nat):Bool:=(prF nx ny A a).all (eqAtB ac bc A)
theorem same_within (ac bc:List (List Bool)) (nx ny:List (List (List Int))) (A a:Nat):sameB ac bc nx ny A a=(withinB ac bc nx ny A a&&withinB bc ac ny nx A a):=by
 unfold sameB withinB prF;rw [prL_swap nx ny A a 3721,Bool.eq_iff_iff];simp only [Bool.and_eq_true,List.all_eq_true,List.mem_map,inAtB,eqAtB,List.mem_range,swapP]
 constructor
 ·
  intro h;refine ⟨fun p hp m hm=> ?_, ?_⟩
  ·
   have:=h p hp m hm;simp only [beq_iff_eq] at this;rw [this]
   simp
  ·
   rintro q ⟨p,hp,rfl⟩ m hm;have:=h p hp m hm;simp only [beq_iff_eq] at this
   simp [this]
 ·
  rintro ⟨h1,h2⟩ p hp m hm;have h3:=h1 p hp m hm;have h4:=h2 _ ⟨p,hp,rfl⟩ m hm;simp only at h4
  cases e1:hasN ac p.1 m<;>cases e2:hasN bc p.2 m<;>simp_all
end Go.Proofs.YtfopdcdbelaapaaGreatDoor
namespace Go.Proofs.YtfopdcdbelaapaaGreatDoor
set_option linter.unusedVariables false
set_option linter.unusedSimpArgs false
open Go.ChangeShapes Go.WideShapes Go.ChangeAt Go.RowKit Go.Deep Go.Sort
def Turned {α:Type} (zs ys:List α) (k:Nat):Prop:=ys.length=zs.length∧∀p,p<zs.length→ys[p]? =if p<k∨zs.length - k≤p then zs[zs.length - 1 - p]? else zs[p]?
theorem Turned.zero {α:Type} (zs:List α):Turned zs zs 0:=⟨rfl,fun p hp=>by rw [if_neg (by omega)]⟩
theorem Turned.step {α:Type} {zs ys:List α} {k:Nat} {a b:α} (h:Turned zs ys k) (hk:k<zs.length - 1 - k) (ha:zs[k]? =some a) (hb:zs[zs.length - 1 - k]? =some b):
  ys[k]? =some a∧ys[zs.length - 1 - k]? =some b∧Turned zs ((ys.set k b).set (zs.length - 1 - k) a) (k+1):=by
 obtain ⟨hl,h⟩:=h;have h1:=h k (by omega);have h2:=h (zs.length - 1 - k) (by omega);rw [if_neg (by omega)] at h1 h2;refine ⟨by rw [h1,ha],by rw [h2,hb],by simp [hl],fun p hp=> ?_⟩;rw [List.getElem?_set,List.getElem?_set];have h3:=h p hp
 by_cases e1:zs.length - 1 - k=p
 ·
  rw [if_pos e1,if_pos (by simp; omega),if_pos (by omega),show zs.length - 1 - p=k by omega,ha]
 ·
  rw [if_neg e1]
  by_cases e2:k=p
  ·
   rw [if_pos e2,if_pos (by omega),if_pos (by omega)];subst e2;rw [hb]
  ·
   rw [if_neg e2,h3]
   by_cases e3:p<k∨zs.length - k≤p
   ·
    rw [if_pos e3,if_pos (by omega)]
   ·
    rw [if_neg e3,if_neg (by omega)]
theorem Turned.done {α:Type} {zs ys:List α} {k:Nat} (h:Turned zs ys k) (hk:zs.length - 1 - k≤k):ys=zs.reverse:=by
 obtain ⟨hl,h⟩:=h
 apply List.ext_getElem?
 intro p
 by_cases hp:p<zs.length
 ·
  rw [h p hp,List.getElem?_reverse hp]
  by_cases e:p<k∨zs.length - k≤p
  ·
   rw [if_pos e]
  ·
   rw [if_neg e,show zs.length - 1 - p=p by omega]
 ·
  rw [List.getElem?_eq_none (by omega),List.getElem?_eq_none (by simp; omega)]
set_option maxHeartbeats 1000000 in
theorem reverse_ints {zs:List Int} {s:Option Addr} {c:Nat} {F:List Nat} {w:World} (h:Ow w (intsD zs) (.slice s zs.length c) F) (hn:F.Nodup) (h1:zs.length≤1000000000):
  Calls Tryz.prog 150 #[.slice s zs.length c] w fun e w'=>e= .returned (.tuple #[])∧Ow w' (intsD zs.reverse) (.slice s zs.length c) F∧Only F w w':=by
 go_enter Tryz.func150,Tryz.ntmps150
 go_wp2_with fail
 go_loopw [2,3] (fun i j wr=>∃(k:Nat) (ys:List Int),2*k≤zs.length∧i= .int .i64 k∧j= .int .i64 ((zs.length:Int) - 1 - k)∧Turned zs ys k∧Ow wr (.sl 1 zs.length (ys.map D.int)) (.slice s zs.length c) F∧Only F w wr) (fun i j _=>zs.length - 2*(intOf i).toNat)
 case atStart=>exact ⟨0,zs,by omega,rfl,by simp,Turned.zero zs,h,Only.refl _ _⟩
 case round=>
  clear h;obtain ⟨k,ys,hk,rfl,rfl,ht,h,hO⟩:=hrel
  by_cases hlt:k<zs.length - 1 - k
  ·
   obtain ⟨a,ha⟩:∃e,zs[k]? =some e:=⟨_,List.getElem?_eq_getElem (by omega)⟩;obtain ⟨b,hb⟩:∃e,zs[zs.length - 1 - k]? =some e:=⟨_,List.getElem?_eq_getElem (by omega)⟩;obtain ⟨t1,t2,t3⟩:=ht.step hlt ha hb;obtain ⟨g,o,rfl⟩:=h.spot (by omega);obtain ⟨c1,z1,gl,s1⟩:=h.int_cell hn (ints_at t1);obtain ⟨c2,z2, -, -⟩:=h.int_cell hn (ints_at t2);obtain ⟨q1,q2⟩:=s1 b
   have m1:(ys.map D.int).set k (.int b)=(ys.set k b).map D.int:=by simp only [List.map_set]
   rw [m1] at q1
   have hne:k≠zs.length - 1 - k:=by omega
   have t2':(ys.set k b)[zs.length - 1 - k]? =some b:=by rw [List.getElem?_set_ne hne]; exact t2
   obtain ⟨-, -, -, s2⟩:=q1.int_cell hn (ints_at t2');obtain ⟨r1,r2⟩:=s2 a
   have m2:((ys.set k b).map D.int).set (zs.length - 1 - k) (.int a)=((ys.set k b).set (zs.length - 1 - k) a).map D.int:=by simp only [List.map_set]
   rw [m2] at r1;obtain ⟨j,hj⟩:∃j:Nat,zs.length - 1 - k=j:=⟨_,rfl⟩
   have ej:(zs.length:Int) - 1 - k=(j:Int):=by omega
   rw [hj] at c2 z2 r1 r2 t3 hlt hne;rw [ej]
   have Hfin:Hid (Turned zs ((ys.set k b).set j a) (k+1)∧Ow (World.setCell (World.setCell wr ⟨g,o+k,none⟩ (.int .i64 b)) ⟨g,o+j,none⟩ (.int .i64 a)) (.sl 1 zs.length (((ys.set k b).set j a).map D.int)) (.slice (some ⟨g,o,none⟩) zs.length c) F∧Only F w (World.setCell (World.setCell wr ⟨g,o+k,none⟩ (.int .i64 b)) ⟨g,o+j,none⟩ (.int .i64 a))):=
    ⟨t3,r1,(hO.trans q2).trans r2⟩
   clear t1 t2 t3 s1 s2 q1 q2 r1 r2 m1 m2 t2' ht h hO ha hb ej
   have hjl:j<zs.length:=by omega
   go_wp2_with fail
   go_region
   go_wp2_with fail
   go_roundw
   case rel=>exact ⟨k+1,_,by omega,by go_num,by congr 1; omega,Hfin.out.1,Hfin.out.2.1.keep (fun _ _=>rfl),Hfin.out.2.2.trans ⟨rfl,rfl,rfl,Nat.le_refl _,fun _ _ _=>rfl⟩⟩
   case measure=>simp [intOf]; omega
  ·
   have e:=ht.done (by omega);subst e;go_wp2_with fail;refine bodyPost_end (v:= .tuple #[]) (by simp [results,Tryz.results150,go_sem]) rfl ?_;exact ⟨rfl,by unfold intsD; rw [List.length_reverse]; exact h,hO⟩
end Go.Proofs.YtfopdcdbelaapaaGreatDoor
namespace Go.Proofs.YtfopdcdbelaapaaGreatDoor
set_option linter.unusedVariables false
set_option linter.unusedSimpArgs false
open Go.ChangeShapes Go.WideShapes Go.ChangeAt Go.RowKit Go.Deep
theorem bun_two {B:Nat} {w w':World} {items:List Item} {own:Nat→Nat} (h:∀(i:Nat) (it:Item),items[i]? =some it→it.on (fun b=>B≤b∧b<w.heap.size∧own b=i) w) (hB:B≤w.heap.size) (hz:w.heap.size≤w'.heap.size) (k j:Nat) {it jt:Item} (hkj:k≠j)
  (ho:∀b,b<w.heap.size→own b≠k→own b≠j→w'.heap[b]? =w.heap[b]?) (hk:it.on (fun b=>B≤b∧b<w'.heap.size∧(w.heap.size≤b∨own b=k)) w') (hj:jt.on (fun b=>B≤b∧b<w.heap.size∧own b=j) w'):
  Bun B w' ((items.set j jt).set k it):=by
 refine ⟨fun b=>if w.heap.size≤b then k else own b,fun i x hi=> ?_⟩
 by_cases hik:k=i
 ·
  subst hik
  have hl:k<(items.set j jt).length:=by have:=(List.getElem?_eq_some_iff.1 hi).1; simpa using this
  rw [List.getElem?_set_self hl] at hi;obtain rfl:=Option.some.inj hi;refine Item.more hk fun b _ hb=>⟨hb.1,hb.2.1, ?_⟩
  dsimp only
  split
  ·
   rfl
  ·
   omega
 ·
  rw [List.getElem?_set_ne hik] at hi
  by_cases hij:j=i
  ·
   subst hij
   have hl:j<items.length:=by have:=(List.getElem?_eq_some_iff.1 hi).1; simpa using this
   rw [List.getElem?_set_self hl] at hi;obtain rfl:=Option.some.inj hi;refine Item.more hj fun b _ hb=>⟨hb.1,by omega, ?_⟩
   dsimp only
   rw [if_neg (by omega)];exact hb.2.2
  ·
   rw [List.getElem?_set_ne hij] at hi;have h1:=Item.keep (w':=w') hz (h i x hi) fun b hb hs=>ho b hb (by rw [hs.2.2]; omega) (by rw [hs.2.2]; omega);refine Item.more h1 fun b _ hb=>⟨hb.1,by omega, ?_⟩
   dsimp only
   rw [if_neg (by omega)];exact hb.2.2
theorem int_own (w:World) (x:Int):OwS (fun _=>False) w [.int x] [.int .i64 x]:=⟨[],Ows.cons (F:=[]) (by simp [Ow]) Ows.nil,by simp,by simp⟩
def WdB (B:Nat) (w:World) (wb:Nat) (xs ys:List Int) (va vb:Value):Prop:=
 Bun B w [.app 2 1 xs.length (xs.map D.int) va, .box wb 40 [va,vb], .app 2 1 ys.length (ys.map D.int) vb]
theorem WdB.box {B:Nat} {w:World} {wb:Nat} {xs ys:List Int} {va vb:Value} (h:WdB B w wb xs ys va vb):Blk w wb 40 [va,vb]∧B≤wb:=Bun.box h 1 rfl
theorem WdB.shapeA {B:Nat} {w:World} {wb:Nat} {xs ys:List Int} {va vb:Value} (h:WdB B w wb xs ys va vb):∃a cap,va= .slice a xs.length cap∧xs.length≤cap∧cap≤maxLen:=Bun.shape h 0 rfl
theorem WdB.shapeB {B:Nat} {w:World} {wb:Nat} {xs ys:List Int} {va vb:Value} (h:WdB B w wb xs ys va vb):∃a cap,vb= .slice a ys.length cap∧ys.length≤cap∧cap≤maxLen:=Bun.shape h 2 rfl
theorem WdB.parts {B:Nat} {w:World} {wb:Nat} {xs ys:List Int} {va vb:Value} (h:WdB B w wb xs ys va vb):∃own:Nat→Nat,own wb=1∧B≤wb∧wb<w.heap.size∧AppS (fun b=>B≤b∧b<w.heap.size∧own b=0) w 2 1 xs.length (xs.map D.int) va∧
  AppS (fun b=>B≤b∧b<w.heap.size∧own b=2) w 2 1 ys.length (ys.map D.int) vb∧
  (∀(w':World) (v:Value) (x:Int) (S:Nat→Prop),B≤w.heap.size→w.heap.size≤w'.heap.size→(∀b,b<w.heap.size→own b≠0→own b≠1→w'.heap[b]? =w.heap[b]?)→AppS S w' 2 1 (xs.length+1) (xs.map D.int++[.int x]) v→(∀b,b<w'.heap.size→S b→(B≤b∧b<w.heap.size∧own b=0)∨w.heap.size≤b)→Blk w' wb 40 [v,vb]→WdB B w' wb (xs++[x]) ys v vb)∧
  (∀(w':World) (v:Value) (x:Int) (S:Nat→Prop),B≤w.heap.size→w.heap.size≤w'.heap.size→(∀b,b<w.heap.size→own b≠2→own b≠1→w'.heap[b]? =w.heap[b]?)→AppS S w' 2 1 (ys.length+1) (ys.map D.int++[.int x]) v→(∀b,b<w'.heap.size→S b→(B≤b∧b<w.heap.size∧own b=2)∨w.heap.size≤b)→Blk w' wb 40 [va,v]→WdB B w' wb xs (ys++[x]) va v):=by
 obtain ⟨own,h⟩:=h;have h0:=h 0 _ rfl;have h1:=h 1 _ rfl;have h2:=h 2 _ rfl;refine ⟨own,h1.1.2.2,h1.1.1,h1.1.2.1,h0,h2, ?_, ?_⟩
 ·
  intro w' v x S hB hz ho ha hS hb;have:=bun_two (w':=w') h hB hz 0 1 (it:= .app 2 1 (xs++[x]).length ((xs++[x]).map D.int) v) (jt:= .box wb 40 [v,vb]) (by decide) ho ?_ ⟨⟨h1.1.1,h1.1.2.1,h1.1.2.2⟩,hb⟩
  ·
   exact this
  ·
   rw [List.length_append,List.map_append]
   exact AppS.more ha fun b hl hs=>by
    rcases hS b hl hs with q|q
    ·
     exact ⟨q.1,hl,Or.inr q.2.2⟩
    ·
     exact ⟨by omega,hl,Or.inl q⟩
 ·
  intro w' v x S hB hz ho ha hS hb;have:=bun_two (w':=w') h hB hz 2 1 (it:= .app 2 1 (ys++[x]).length ((ys++[x]).map D.int) v) (jt:= .box wb 40 [va,v]) (by decide) ho ?_ ⟨⟨h1.1.1,h1.1.2.1,h1.1.2.2⟩,hb⟩
  ·
   exact this
  ·
   rw [List.length_append,List.map_append]
   exact AppS.more ha fun b hl hs=>by
    rcases hS b hl hs with q|q
    ·
     exact ⟨q.1,hl,Or.inr q.2.2⟩
    ·
     exact ⟨by omega,hl,Or.inl q⟩
theorem WdB.owns {B:Nat} {w:World} {wb:Nat} {xs ys:List Int} {va vb:Value} (h:WdB B w wb xs ys va vb):∃F G:List Nat,Ow w (intsD xs) va F∧F.Nodup∧Ow w (intsD ys) vb G∧G.Nodup∧(∀b∈F,B≤b∧b≠wb∧b∉G)∧∀b∈G,B≤b∧b≠wb:=by
 obtain ⟨own,h⟩:=h;have h0:=h 0 _ rfl;have h1:=h 1 _ rfl;have h2:=h 2 _ rfl;have h0':AppS (fun b=>B≤b∧b<w.heap.size∧own b=0) w 2 1 xs.length (xs.map D.int) va:=h0;have h2':AppS (fun b=>B≤b∧b<w.heap.size∧own b=2) w 2 1 ys.length (ys.map D.int) vb:=h2;obtain ⟨F,f1,f2,f3⟩:=h0'.foot;obtain ⟨G,g1,g2,g3⟩:=h2'.foot;have hw:own wb=1:=h1.1.2.2;refine ⟨F,G,f1,f2,g1,g2,fun b hb=> ?_,fun b hb=> ?_⟩
 ·
  have q:=f3 b hb;refine ⟨q.1,fun e=> ?_,fun hg=> ?_⟩
  ·
   rw [e,hw] at q; omega
  ·
   have:=g3 b hg; omega
 ·
  have q:=g3 b hb;exact ⟨q.1,fun e=>by rw [e,hw] at q; omega⟩
theorem WdB.one (w:World) (x:Int):WdB w.heap.size ((w.alloc (.cells #[.int .i64 x] 2)).alloc (.cells #[.slice (some ⟨w.heap.size,0,none⟩) 1 1, .slice none 0 0] 40)) (w.heap.size+1) [x] [] (.slice (some ⟨w.heap.size,0,none⟩) 1 1) (.slice none 0 0):=by
 have h0:Bun w.heap.size (w.alloc (.cells #[.int .i64 x] 2)) [.app 2 1 1 [.int x] (.slice (some ⟨w.heap.size,0,none⟩) 1 1)]:=by
  refine (Bun.nil (B:=w.heap.size) (w:=w)).push (Below.alloc (Below.refl _ _) (Nat.le_refl _) _) ?_;refine AppS.more (AppS.made (t:=2) (size:=1) (m:=1) (S:=fun _=>False) (w:=w) (es:=[.int x]) (news:=[.int .i64 x]) ⟨[],Ows.cons (F:=[]) (by simp [Ow]) Ows.nil,by simp,by simp⟩ (fun b h=>h.elim) rfl (by unfold maxLen; omega)) fun b _ hc=> ?_
  have hz:(w.alloc (.cells #[.int .i64 x] 2)).heap.size=w.heap.size+1:=by simp
  rcases hc with hc|hc
  ·
   exact hc.elim
  ·
   subst hc; exact ⟨Nat.le_refl _,by omega,Nat.le_refl _⟩
 have h1:=h0.push_box (by simp) 40 #[.slice (some ⟨w.heap.size,0,none⟩) 1 1, .slice none 0 0];have h2:=h1.push_nil 2 1
 have hz:(w.alloc (.cells #[.int .i64 x] 2)).heap.size=w.heap.size+1:=by simp
 rw [hz] at h2;exact h2
noncomputable def eqR (t a:Int) (e f:Ex):Bool:=if bothC t a e f=0 then (atB t a e f&&atB t a f e) else false
set_option maxHeartbeats 8000000 in
theorem specEqualExprs_i {t a k n k' n':Int} {ks ks':List Ex} {s s':Option Addr} {c c':Nat} {w:World} (hr:Rd w (kidsD ks) (.slice s ks.length c)) (hr':Rd w (kidsD ks') (.slice s' ks'.length c')) (h1:Ex.sizeL ks≤1048576) (h2:Ex.sizeL ks'≤1048576):
  Calls Tryz.prog 26 #[.agg #[.int .i64 t, .int .i64 a], .agg #[.int .i64 k, .int .i64 n, .slice s ks.length c], .agg #[.int .i64 k', .int .i64 n', .slice s' ks'.length c']] w fun e w'=>e= .returned (.tuple #[.bool (eqR t a (.mk k n ks) (.mk k' n' ks')), .int .i64 (bothC t a (.mk k n ks) (.mk k' n' ks'))])∧Below w.heap.size w w':=by
 have Hsz:Hid (Ex.size (.mk k n ks)≤1073741824):=by show _≤_; rw [Ex.size_eq]; simp only [Ex.kids]; omega
 have Hsz':Hid (Ex.size (.mk k' n' ks')≤1073741824):=by show _≤_; rw [Ex.size_eq]; simp only [Ex.kids]; omega
 obtain ⟨e,he⟩:∃e,Ex.mk k n ks=e:=⟨_,rfl⟩;obtain ⟨f,hf⟩:∃f,Ex.mk k' n' ks'=f:=⟨_,rfl⟩;rw [he] at Hsz ⊢;rw [hf] at Hsz' ⊢;have He:=Lib.hid he;have Hf:=Lib.hid hf;clear he hf h1 h2
 cases hcb:(bothC t a e f !=0)
 rotate_left
 ·
  have HE:Hid (eqR t a e f=false):=by show _=_; unfold eqR; rw [if_neg (by simpa using hcb)]
  go_enter Tryz.func26,Tryz.ntmps26
  go_wp2_with fail;obtain ⟨w1,e1,G,hb1,hz1⟩:=box2 w 37 (.int .i64 t) (.int .i64 a);rw [e1];obtain ⟨w2,e2,X,hb2,hz2⟩:=box3 w1 34 (.int .i64 k) (.int .i64 n) (.slice s ks.length c);rw [e2];obtain ⟨w0,e0,Y,hb3,hz3⟩:=box3 w2 34 (.int .i64 k') (.int .i64 n') (.slice s' ks'.length c');rw [e0];have hB:Below w.heap.size w w0:=(hb1.trans (hb2.mono (by omega))).trans (hb3.mono (by omega));rw [hz1] at X;rw [show w2.heap.size=w.heap.size+1+1 by omega] at Y;replace X:=X.below hb3;replace G:=(G.below hb2).below hb3;clear e1 e2 e0 hb1 hb2 hb3 hz1 hz2 hz3
  have hxa:ExAt w0 (w.heap.size+1) 0 e:=by rw [←He.out]; exact X.exAt (hr.below hB)
  have hya:ExAt w0 (w.heap.size+1+1) 0 f:=by rw [←Hf.out]; exact Y.exAt (hr'.below hB)
  clear X Y G;refine (l03Both_i hxa hya Hsz.out Hsz'.out).mono ?_;rintro g w3 ⟨v1,v2,rfl,⟨t1,a1,s1,u1,l1,c1,m1,d1,rfl⟩,⟨t2,a2,s2,u2,l2,c2,m2,d2,rfl⟩,hb, -⟩;replace hB:=Below.on hB hb hB.size;have hzB:=hB.size;clear hb hxa hya;go_wp2_with fail;go_ret2;exact ⟨ret_bi HE.out.symm rfl,by (repeat' first|exact Below.refl _ _|assumption|apply Below.alloc|apply Below.drew|apply Below.setCell|omega|(simp; done)|(simp; omega))⟩
 ·
  skip
  have hc:bothC t a e f=0:=by simpa using hcb
  obtain ⟨hce,hcf⟩:=both_ok hc;obtain ⟨-, -, -, hoke⟩:=au_ok hce;obtain ⟨-, -, -, hokf⟩:=au_ok hcf;have Hoke:=Lib.hid hoke;have Hokf:=Lib.hid hokf;have Hc:=Lib.hid hc;clear hcb hc hce hcf hoke hokf
  have HE:Hid (eqR t a e f=(atB t a e f&&atB t a f e)):=by show _=_; unfold eqR; rw [if_pos Hc.out]
  go_enter Tryz.func26,Tryz.ntmps26
  go_wp2_with fail;obtain ⟨w1,e1,G,hb1,hz1⟩:=box2 w 37 (.int .i64 t) (.int .i64 a);rw [e1];obtain ⟨w2,e2,X,hb2,hz2⟩:=box3 w1 34 (.int .i64 k) (.int .i64 n) (.slice s ks.length c);rw [e2];obtain ⟨w0,e0,Y,hb3,hz3⟩:=box3 w2 34 (.int .i64 k') (.int .i64 n') (.slice s' ks'.length c');rw [e0];have hB:Below w.heap.size w w0:=(hb1.trans (hb2.mono (by omega))).trans (hb3.mono (by omega));rw [hz1] at X;rw [show w2.heap.size=w.heap.size+1+1 by omega] at Y;replace X:=X.below hb3;replace G:=(G.below hb2).below hb3;clear e1 e2 e0 hb1 hb2 hb3 hz1 hz2 hz3
  have hxa:ExAt w0 (w.heap.size+1) 0 e:=by rw [←He.out]; exact X.exAt (hr.below hB)
  have hya:ExAt w0 (w.heap.size+1+1) 0 f:=by rw [←Hf.out]; exact Y.exAt (hr'.below hB)
  clear X Y G;refine (l03Both_i hxa hya Hsz.out Hsz'.out).mono ?_;rintro g w3 ⟨v1,v2,rfl, -, -, hb,hgot⟩;obtain ⟨s1,c1,u1,d1,s2,c2,u2,d2,rfl,rfl,hd1,hd2⟩:=hgot Hc.out;rw [Hc.out];replace hB:=Below.on hB hb hB.size;clear hb hxa hya hgot;go_wp2_with fail;obtain ⟨w4,e4,A1,hb4,hz4⟩:=box4 w3 107 (.int .i64 t) (.int .i64 a) (.slice s1 (auA t a e).length c1) (.slice u1 (auX t a e).length d1);rw [e4];obtain ⟨w5,e5,A2,hb5,hz5⟩:=box4 w4 107 (.int .i64 t) (.int .i64 a) (.slice s2 (auA t a f).length c2) (.slice u2 (auX t a f).length d2);rw [e5];replace hB:=(hB.trans (hb4.mono hB.size)).trans (hb5.mono (by have:=hB.size; omega));rw [hz4] at A2;have HA1:=Lib.hid (autAt_box (A1.below hb5) ((hd1.below hb4).below hb5));have HA2:=Lib.hid (autAt_box A2 ((hd2.below hb4).below hb5));clear e4 e5 hb4 hb5 hd1 hd2 A1 A2 hz5;refine (l03Within_i HA1.out HA2.out Hoke.out Hokf.out).mono ?_;rintro g w6 ⟨rfl,hb6⟩;have hB6:=hB.trans (hb6.mono hB.size);have HA1':=Lib.hid (HA1.out.below hb6);have HA2':=Lib.hid (HA2.out.below hb6);clear hb6
  cases h1:withinB (auA t a e) (auA t a f) (auX t a e) (auX t a f) (atomsN t).toNat a.toNat
  ·
   have HE2:Hid (eqR t a e f=false):=by show _=_; rw [HE.out]; unfold atB; rw [h1,Bool.false_and]
   clear h1;go_wp2_with fail;go_ret2;exact ⟨ret_bi HE2.out.symm Hc.out.symm,hB6⟩
  ·
   have HE2:Hid (eqR t a e f=withinB (auA t a f) (auA t a e) (auX t a f) (auX t a e) (atomsN t).toNat a.toNat):=by show _=_; rw [HE.out]; unfold atB; rw [h1,Bool.true_and]
   clear h1;go_wp2_with fail;refine (l03Within_i HA2'.out HA1'.out Hokf.out Hoke.out).mono ?_;rintro g w7 ⟨rfl,hb7⟩;have hB7:=hB6.trans (hb7.mono hB6.size);rw [←HE2.out];clear hb7;go_wp2_with fail;go_ret2;exact ⟨ret_bi rfl Hc.out.symm,hB7⟩
set_option maxRecDepth 100000 in
set_option maxHeartbeats 8000000 in
theorem implAtMost_i {t a k n k' n':Int} {ks ks':List Ex} {s s':Option Addr} {c c':Nat} {w:World} (hr:Rd w (kidsD ks) (.slice s ks.length c)) (hr':Rd w (kidsD ks') (.slice s' ks'.length c')) (h1:Ex.sizeL ks≤1048576) (h2:Ex.sizeL ks'≤1048576):
  Calls Tryz.prog 63 #[.agg #[.int .i64 t, .int .i64 a], .agg #[.int .i64 k, .int .i64 n, .slice s ks.length c], .agg #[.int .i64 k', .int .i64 n', .slice s' ks'.length c']] w fun e w'=>e= .returned (.tuple #[.bool (atR t a (.mk k n ks) (.mk k' n' ks')), .int .i64 (bothC t a (.mk k n ks) (.mk k' n' ks'))])∧Below w.heap.size w w':=by
 have Hsz:Hid (Ex.size (.mk k n ks)≤1073741824):=by show _≤_; rw [Ex.size_eq]; simp only [Ex.kids]; omega
 have Hsz':Hid (Ex.size (.mk k' n' ks')≤1073741824):=by show _≤_; rw [Ex.size_eq]; simp only [Ex.kids]; omega
 obtain ⟨e,he⟩:∃e,Ex.mk k n ks=e:=⟨_,rfl⟩;obtain ⟨f,hf⟩:∃f,Ex.mk k' n' ks'=f:=⟨_,rfl⟩;rw [he] at Hsz ⊢;rw [hf] at Hsz' ⊢;have He:=Lib.hid he;have Hf:=Lib.hid hf;clear he hf h1 h2
 cases hcb:(bothC t a e f !=0)
 rotate_left
 ·
  have HE:Hid (atR t a e f=false):=by show _=_; unfold atR; rw [if_neg (by simpa using hcb)]
  go_enter Tryz.func63,Tryz.ntmps63
  go_wp2_with fail;obtain ⟨w1,e1,G,hb1,hz1⟩:=box2 w 37 (.int .i64 t) (.int .i64 a);rw [e1];obtain ⟨w2,e2,X,hb2,hz2⟩:=box3 w1 34 (.int .i64 k) (.int .i64 n) (.slice s ks.length c);rw [e2];obtain ⟨w0,e0,Y,hb3,hz3⟩:=box3 w2 34 (.int .i64 k') (.int .i64 n') (.slice s' ks'.length c');rw [e0];have hB:Below w.heap.size w w0:=(hb1.trans (hb2.mono (by omega))).trans (hb3.mono (by omega));rw [hz1] at X;rw [show w2.heap.size=w.heap.size+1+1 by omega] at Y;replace X:=X.below hb3;replace G:=(G.below hb2).below hb3;clear e1 e2 e0 hb1 hb2 hb3 hz1 hz2 hz3;refine (bothAutomata_i (e:= .mk k n ks) (f:= .mk k' n' ks') (hr.below hB) (hr'.below hB)).mono ?_;intro g w3 hpost;rw [He.out,Hf.out] at hpost;obtain ⟨v1,v2,rfl,⟨t1,a1,s1,u1,l1,c1,m1,d1,rfl⟩,⟨t2,a2,s2,u2,l2,c2,m2,d2,rfl⟩,hb, -⟩:=hpost;replace hB:=Below.on hB hb hB.size;have hzB:=hB.size;clear hb;go_wp2_with fail;go_ret2;exact ⟨ret_bi HE.out.symm rfl,by (repeat' first|exact Below.refl _ _|assumption|apply Below.alloc|apply Below.drew|apply Below.setCell|omega|(simp; done)|(simp; omega))⟩
 ·
  skip
  have hc:bothC t a e f=0:=by simpa using hcb
  obtain ⟨hce,hcf⟩:=both_ok hc;obtain ⟨-, -, -, hoke⟩:=au_ok hce;obtain ⟨-, -, -, hokf⟩:=au_ok hcf;have Hoke:=Lib.hid hoke;have Hokf:=Lib.hid hokf;have Hc:=Lib.hid hc;clear hcb hc hce hcf hoke hokf
  have HE:Hid (atR t a e f=atB t a e f):=by show _=_; unfold atR; rw [if_pos Hc.out]
  have hmany:=prL_many Hoke.out Hokf.out 3721;have hall:=fun p hp=>prL_ok Hoke.out Hokf.out 3721 p hp;obtain ⟨ht0,ht3,ha0,ha4⟩:=sigB_bd Hoke.out.sig;obtain ⟨hat1,hat8⟩:=atomsN_bd t;obtain ⟨A,hA⟩:∃A:Nat,atomsN t=(A:Int):=⟨(atomsN t).toNat,by omega⟩
  have hA':(atomsN t).toNat=A:=by omega
  go_enter Tryz.func63,Tryz.ntmps63
  go_wp2_with fail;obtain ⟨w1,e1,G,hb1,hz1⟩:=box2 w 37 (.int .i64 t) (.int .i64 a);rw [e1];obtain ⟨w2,e2,X,hb2,hz2⟩:=box3 w1 34 (.int .i64 k) (.int .i64 n) (.slice s ks.length c);rw [e2];obtain ⟨w0,e0,Y,hb3,hz3⟩:=box3 w2 34 (.int .i64 k') (.int .i64 n') (.slice s' ks'.length c');rw [e0];have hB:Below w.heap.size w w0:=(hb1.trans (hb2.mono (by omega))).trans (hb3.mono (by omega));rw [hz1] at X;rw [show w2.heap.size=w.heap.size+1+1 by omega] at Y;replace X:=X.below hb3;replace G:=(G.below hb2).below hb3;clear e1 e2 e0 hb1 hb2 hb3 hz1 hz2 hz3;refine (bothAutomata_i (e:= .mk k n ks) (f:= .mk k' n' ks') (hr.below hB) (hr'.below hB)).mono ?_;intro g w3 hpost;rw [He.out,Hf.out] at hpost;obtain ⟨v1,v2,rfl, -, -, hb,hgot⟩:=hpost;obtain ⟨s1,c1,u1,d1,s2,c2,u2,d2,rfl,rfl,hd1,hd2⟩:=hgot Hc.out;rw [Hc.out];replace hB:=Below.on hB hb hB.size;replace G:=G.below hb;clear hb hgot X Y;go_wp2_with fail;obtain ⟨w4,e4,A1,hb4,hz4⟩:=box4 w3 107 (.int .i64 t) (.int .i64 a) (.slice s1 (auA t a e).length c1) (.slice u1 (auX t a e).length d1);rw [e4];obtain ⟨w5,e5,A2,hb5,hz5⟩:=box4 w4 107 (.int .i64 t) (.int .i64 a) (.slice s2 (auA t a f).length c2) (.slice u2 (auX t a f).length d2);rw [e5];replace hB:=(hB.trans (hb4.mono hB.size)).trans (hb5.mono (by have:=hB.size; omega));rw [hz4] at A2;replace A1:=A1.below hb5;replace G:=(G.below hb4).below hb5;have Hd1:=Lib.hid ((hd1.below hb4).below hb5);have Hd2:=Lib.hid ((hd2.below hb4).below hb5);clear e4 e5 hb4 hb5 hd1 hd2 hz5;refine (reach_i Hd1.out Hd2.out Hoke.out Hokf.out).mono ?_;rintro g w6 ⟨R,sa,ca,rfl,hrd,hRm, -, hb6⟩;have hF:atB t a e f=(prF (auX t a e) (auX t a f) (atomsN t).toNat a.toNat).all (inAtB (auA t a e) (auA t a f) (atomsN t).toNat):=rfl;have hall':∀p∈prF (auX t a e) (auX t a f) (atomsN t).toNat a.toNat,PairOk (auA t a e).length (auA t a f).length p:=hall;have hmany':(prF (auX t a e) (auX t a f) (atomsN t).toNat a.toNat).length≤3721:=hmany;rw [←hRm,hA'] at hF;rw [←hRm] at hall' hmany';rw [List.length_map] at hmany';have HF:=Lib.hid hF;have HA:=Lib.hid hA;have Hall:=Lib.hid hall';have Hrd:=Lib.hid hrd;have HB6:=Lib.hid (hB.trans (hb6.mono hB.size));replace G:=G.below hb6;replace A1:=A1.below hb6;replace A2:=A2.below hb6;have HG:=Lib.hid G;have HA1:=Lib.hid A1;have HA2:=Lib.hid A2;have Hd1':=Lib.hid (Hd1.out.below hb6);have Hd2':=Lib.hid (Hd2.out.below hb6);have hz6:=HB6.out.size;have Hc2:=Lib.hid Hc.out;obtain ⟨ga,gb,hga,hgb⟩:∃ga gb,ga=w3.heap.size∧gb=w3.heap.size+1:=⟨_,_,rfl,rfl⟩;clear hF hA hA' hall hall' hmany hRm hrd hb6 G A1 A2 hB Hd1 Hd2 hat1 hga hgb ga gb;go_wp2_with fail
  go_loopw [29] (fun i wr=>∃k:Nat,i= .int .i64 k∧k≤R.length∧Hid (WithinTo (auA t a e) (auA t a f) A (R.map Rch.p) k)∧Below w6.heap.size w6 wr) (fun i _=>R.length - (intOf i).toNat)
  case atStart=>exact ⟨0,rfl,by omega,fun i p hi=>by omega,Below.refl _ _⟩
  case round=>
   obtain ⟨i,rfl,hi,HW,hbe⟩:=hrel;obtain ⟨wo,rfl⟩:∃v,v=wr:=⟨_,rfl⟩;have hi0:=Int.natCast_nonneg i;have hzo:=hbe.size;have HBe:=Lib.hid hbe
   by_cases hlt:i<R.length
   rotate_left
   ·
    obtain rfl:i=R.length:=by omega
    have HR:Hid (atR t a e f=true):=by show _=_; rw [HE.out,HF.out]; exact all_yes fun j p hj hp=>HW.out j p (by rw [List.length_map] at hj; exact hj) hp
    clear hbe;go_wp2_with fail;go_ret2;exact ⟨ret_bi HR.out.symm Hc2.out.symm,HB6.out.trans (HBe.out.mono hz6)⟩
   obtain ⟨r,hr0⟩:∃r,R[i]? =some r:=⟨_,List.getElem?_eq_getElem hlt⟩;obtain ⟨x,hxe⟩:∃x,r.p=x:=⟨_,rfl⟩
   have hx:(R.map Rch.p)[i]? =some x:=by rw [List.getElem?_map,hr0,←hxe]; rfl
   have hxok:=Hall.out x (List.mem_of_getElem? hx);have Hx:=Lib.hid hx;have hrd:=Hrd.out.below hbe
   obtain ⟨b0,o0,rfl⟩:∃b0 o0,sa=some ⟨b0,o0,none⟩:=by
    obtain ⟨_,_,_,_,_,h4⟩:=hrd.sl_at
    rcases h4 with h4|⟨b,o,e,_⟩
    ·
     omega
    ·
     exact ⟨b,o,e⟩
   obtain ⟨-, k2,k3, -⟩:=hrd.sl_at;unfold maxLen at k3;obtain ⟨hbl,y0,y1,y2,y3,y4⟩:=rch_in hrd hr0;rw [hxe] at y0 y1
   have hil:(i:Int)<(R.length:Int):=by omega
   obtain ⟨g0,g1,ltG⟩:=(HG.out.below hbe).all2;clear hr0 hxe hx hrd hbe;go_wp2_with fail;clear y0 y1 y2 y3 y4 g0 g1 ltG;obtain ⟨w7,e7,N,hb7,hz7⟩:=box5 wo 161 (.int .i64 x.1) (.int .i64 x.2) (.int .i64 r.f) (.int .i64 r.m) (.int .i64 r.k);rw [e7];have HBe7:=Lib.hid (HBe.out.trans (hb7.mono hzo));have HN:=Lib.hid N;obtain ⟨nb,hnb⟩:∃nb,wo.heap.size=nb:=⟨_,rfl⟩;rw [hnb] at HN ⊢
   have hz7':w6.heap.size≤w7.heap.size:=by omega
   clear e7 hb7 N hnb;refine (atomsIn_i ht0 ht3).mono ?_;rintro g w8 ⟨rfl,hb8⟩;rw [HA.out];have HBe8:=Lib.hid (HBe7.out.trans (hb8.mono hz7'));have HN8:=Lib.hid (HN.out.below hb8);clear hb8;go_wp2_with fail
   go_loopw [35] (fun j wr=>∃m:Nat,j= .int .i64 m∧m≤A∧Hid (InTo (auA t a e) (auA t a f) x m)∧Below w8.heap.size w8 wr) (fun j _=>A - (intOf j).toNat)
   case atStart=>exact ⟨0,rfl,by omega,fun m hm=>by omega,Below.refl _ _⟩
   case round=>
    obtain ⟨m,rfl,hmA,HI,hbe⟩:=hrel;obtain ⟨wm,rfl⟩:∃v,v=wr:=⟨_,rfl⟩;have hm0:=Int.natCast_nonneg m;have hz8:=HBe8.out.size;have hbe8:=HBe8.out.trans (hbe.mono hz8);have HBe9:=Lib.hid hbe8
    by_cases hmlt:m<A
    rotate_left
    ·
     obtain rfl:A=m:=by omega
     have HW2:=Lib.hid (HW.out.succ Hx.out (inAt_yes HI.out));clear hbe hbe8;go_wp2_with fail
     go_roundw
     case rel=>exact ⟨i+1,by go_num,by omega,HW2.out,HBe9.out⟩
     case measure=>simp [intOf]; omega
    have hm1:(m:Int)<(A:Int):=by omega
    have hmat:(m:Int)<atomsN t:=by rw [HA.out]; exact hm1
    obtain ⟨x0,x1,x2,x3, -, -, -, -, ltX⟩:=(HA1.out.below hbe8).all4;have N9:=HN8.out.below hbe;have n0:=N9.c0;have n1:=N9.c1;have ltN:=N9.lt;have hz9:=hbe.size;have HBm:=Lib.hid hbe;have HD1:=Lib.hid (Hd1'.out.below hbe8);clear hbe hbe8 N9;go_wp2_with fail;refine (accepts_i (Rds.two HD1.out).1 (Rds.two HD1.out).2 Hoke.out hxok.2.1 hmat).mono ?_;rintro g w9 ⟨rfl,hb9⟩;have HBe10:=Lib.hid (HBe9.out.trans (hb9.mono (by omega)));have HBm10:=Lib.hid (HBm.out.trans (hb9.mono hz9));clear x0 x1 x2 x3 ltX n0 n1 ltN hb9
    cases h1:hasN (auA t a e) x.1 m
    ·
     have HI2:=Lib.hid (HI.out.succ (by rw [h1]; rfl));clear h1;go_wp2_with fail
     go_roundw
     case rel=>exact ⟨m+1,by go_num,by omega,HI2.out,HBm10.out⟩
     case measure=>simp [intOf]; omega
    ·
     have H1:=Lib.hid h1;obtain ⟨x0,x1,x2,x3, -, -, -, -, ltX⟩:=(HA2.out.below HBe10.out).all4;have N10:=HN8.out.below HBm10.out;have n0:=N10.c0;have n1:=N10.c1;have ltN:=N10.lt;have HD2:=Lib.hid (Hd2'.out.below HBe10.out);clear h1 N10;go_wp2_with fail;refine (accepts_i (Rds.two HD2.out).1 (Rds.two HD2.out).2 Hokf.out hxok.2.2.2 hmat).mono ?_;rintro g w10 ⟨rfl,hb10⟩;have HBe11:=Lib.hid (HBe10.out.trans (hb10.mono (by have:=HBe10.out.size; omega)));have HBm11:=Lib.hid (HBm10.out.trans (hb10.mono HBm10.out.size));clear x0 x1 x2 x3 ltX n0 n1 ltN hb10
     cases h2:hasN (auA t a f) x.2 m
     ·
      have HR:Hid (atR t a e f=false):=by show _=_; rw [HE.out,HF.out]; exact all_no (List.mem_of_getElem? Hx.out) (inAt_no hmlt H1.out h2)
      clear h2;go_wp2_with fail;go_ret2;exact ⟨ret_bi HR.out.symm Hc2.out.symm,HB6.out.trans (HBe11.out.mono hz6)⟩
     ·
      have HI2:=Lib.hid (HI.out.succ (by rw [H1.out,h2]; rfl));clear h2;go_wp2_with fail
      go_roundw
      case rel=>exact ⟨m+1,by go_num,by omega,HI2.out,HBm11.out⟩
      case measure=>simp [intOf]; omega
end Go.Proofs.YtfopdcdbelaapaaGreatDoor
namespace Go.Proofs.YtfopdcdbelaapaaGreatDoor
set_option linter.unusedVariables false
set_option linter.unusedSimpArgs false
open Go.ChangeShapes Go.WideShapes Go.ChangeAt Go.RowKit Go.Deep Go.Sort
theorem Freshs.rd1 {w w':World} {d:D} {v:Value} (h:Freshs w w' [d] [v]):Rd w' d v:=h.rds.one
set_option maxRecDepth 10000
section
variable {H:Type} {enc:TypeId × Value→H} {W:World} {base:Nat} {sp:Nat→Bool} {hd:Bool} {v:Value} {d:DataW H} {ps:List MemPlace}
end
theorem a2Pair_l {k:Int} {x y:Ex} {sx sy:Option Addr} {cx cy:Nat} {w:World} (hx:Rd w (kidsD x.kids) (.slice sx x.kids.length cx)) (hy:Rd w (kidsD y.kids) (.slice sy y.kids.length cy)) (h1:x.size≤1000) (h2:y.size≤1000):
  Calls Tryz.prog 60 #[.int .i64 k, .agg #[.int .i64 x.kind, .int .i64 x.num, .slice sx x.kids.length cx], .agg #[.int .i64 y.kind, .int .i64 y.num, .slice sy y.kids.length cy]] w fun f w'=>∃(e:Ex) (s:Option Addr) (c:Nat),f= .returned (.agg #[.int .i64 e.kind, .int .i64 e.num, .slice s e.kids.length c])∧e= .mk k 0 [x,y]∧Rd w' (kidsD e.kids) (.slice s e.kids.length c)∧Below w.heap.size w w':=
 (a2Pair_i hx hy (by omega) (by omega)).mono fun f w' ⟨s,c,h1,h2,h3⟩=>⟨.mk k 0 [x,y],s,c,h1,rfl,h2.rd1,h3⟩
end Go.Proofs.YtfopdcdbelaapaaGreatDoor
