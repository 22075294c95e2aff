/-
  Parts of a proof, joined: LangA, Kleene, Sub, KeyP, BothI, BothJ. No condition.
-/
import Derived.WideKeyPair
import Derived.Test.YtlchgfbkdjjngaaGreatDoorPk35
set_option linter.unusedVariables false
set_option linter.unusedSimpArgs false
namespace Go.Proofs.YtlchgfbkdjjngaaGreatDoor
def okW (A a:Nat) (ws:List (Nat × Nat)) (m:Nat):Prop:=(∀q∈ws,q.1<A∧q.2<a)∧m<A
theorem okW.tail {A a:Nat} {q:Nat × Nat} {ws:List (Nat × Nat)} {m:Nat} (h:okW A a (q::ws) m):q.1<A∧q.2<a∧okW A a ws m:=
 ⟨(h.1 q (by simp)).1,(h.1 q (by simp)).2,fun p hp=>h.1 p (by simp [hp]),h.2⟩
def E9 (ac:List (List Bool)) (nx:List (List (List Int))):Int→List (Nat × Nat)→Nat→Bool
 |s,[],m=>Br ac s m
 |s,q::ws,m=>E9 ac nx (goN nx s q.1 q.2) ws m
def goW (nx:List (List (List Int))):Int→List (Nat × Nat)→Int
 |s,[]=>s
 |s,q::ws=>goW nx (goN nx s q.1 q.2) ws
theorem Lt (ac:List (List Bool)) (nx:List (List (List Int))):∀(us ws:List (Nat × Nat)) (s:Int) (m:Nat),E9 ac nx s (us++ws) m=E9 ac nx (goW nx s us) ws m
 |[],_,_,_=>rfl
 |q::us,ws,s,m=>Lt ac nx us ws (goN nx s q.1 q.2) m
theorem J0 (nx:List (List (List Int))):∀(us ws:List (Nat × Nat)) (s:Int),goW nx s (us++ws)=goW nx (goW nx s us) ws
 |[],_,_=>rfl
 |q::us,ws,s=>J0 nx us ws (goN nx s q.1 q.2)
theorem Qd (ac:List (List Bool)) (nx:List (List (List Int))) (us:List (Nat × Nat)) (s:Int) (m:Nat):E9 ac nx s us m=Br ac (goW nx s us) m:=by
 have:=Lt ac nx us [] s m;rw [List.append_nil] at this;rw [this]
 rfl
theorem Me (ac:List (List Bool)) (nx:List (List (List Int))):∀(ws:List (Nat × Nat)) (s:Int) (m:Nat),s<0→E9 ac nx s ws m=false
 |[],s,m,h=>by
  show Br ac s m=false
  unfold Br;rw [decide_eq_false (by omega),Bool.false_and]
 |q::ws,s,m,h=>by
  show E9 ac nx (goN nx s q.1 q.2) ws m=false
  refine Me ac nx ws _ m ?_;unfold goN;rw [if_pos h];omega
section
variable {α:Type} [DecidableEq α]
theorem Pv:∀(ss:List (Option α)) (L:List α) {y:α},some y∈ss→y∈Bt L ss
 |o::r,L,y,h=>by
  show y∈Bt (Cd L o) r
  rcases List.mem_cons.1 h with h|h
  ·subst h;exact (Fh r _).subset O6
  exact Pv r _ h
theorem Li {s:α} {succ:α→List (Option α)} {k:Nat} (h:(Bg s succ k).length≤k) {x y:α} (hx:x∈Bg s succ k) (hy:some y∈succ x):y∈Bg s succ k:=by
 obtain ⟨i,hi⟩:=List.mem_iff_getElem?.1 hx;have hlt:=(List.getElem?_eq_some_iff.1 hi).1
 have hik:i<k:=by omega
 have hpos:i<(Bg s succ i).length:=by
  rcases Nat.lt_or_ge i (Bg s succ i).length with q|q
  ·exact q
  rw [I0 q k (by omega)] at hlt;omega
 have hii:(Bg s succ i)[i]? =some x:=by
  have h1:(Bg s succ i)[i]? =some (Bg s succ i)[i]:=List.getElem?_eq_getElem hpos;have h2:=Er (E4 s succ (show i≤k by omega)) h1;rw [hi] at h2;rw [h1,←h2]
 refine (E4 s succ (show i+1≤k by omega)).subset ?_;rw [Iz hii];exact Pv _ _ hy
theorem Nf (s:α) (succ:α→List (Option α)) (k:Nat):(Bg s succ k)[0]? =some s:=Er (E4 s succ (Nat.zero_le k)) (by simp [Bg])
theorem Rr {β:Type} {f:Nat→Nat→β} {A a m k:Nat} (hm:m<A) (hk:k<a):f m k∈Cv f A a:=List.mem_of_getElem? (Og f hk hm)
end
theorem Za {A a:Nat} {e x:Ex} {s m k:Nat} (h:(stL A a e 60)[s]? =some x) (hm:m<A) (hk:k<a):goN (stN A a e) s m k=Dc (stL A a e 60) (Bo m k x):=by
 unfold goN M7;rw [if_neg (by omega),Int.toNat_natCast]
 have h1:(stN A a e)[s]? =some (C5 (stL A a e 60) A a x):=by unfold stN; rw [List.getElem?_map,h]; rfl
 have h2:(C5 (stL A a e 60) A a x)[m]? =some (Co (stL A a e 60) a m x):=by unfold C5; rw [List.getElem?_map,List.getElem?_range hm]; rfl
 have h3:(Co (stL A a e 60) a m x)[k]? =some (Dc (stL A a e 60) (Bo m k x)):=by unfold Co; rw [List.getElem?_map,List.getElem?_range hk]; rfl
 rw [List.getD_eq_getElem?_getD,List.getD_eq_getElem?_getD,List.getD_eq_getElem?_getD,h1];simp only [Option.getD_some];rw [h2];simp only [Option.getD_some];rw [h3]
 rfl
theorem Yv {A a:Nat} {e x:Ex} {s m:Nat} (hok:Eh A a e) (h:(stL A a e 60)[s]? =some x) (hm:m<A):Br (Du A a e) s m=x.emp (m:Int):=by
 unfold Br;rw [decide_eq_true (by omega),Bool.true_and,Int.toNat_natCast]
 have h1:(Du A a e)[s]? =some (Ed A x):=by unfold Du; rw [(Dm hok).1,List.getElem?_map,h]; rfl
 have h2:(Ed A x)[m]? =some (x.emp (m:Int)):=by unfold Ed; rw [List.getElem?_map,List.getElem?_range hm]; rfl
 rw [List.getD_eq_getElem?_getD,List.getD_eq_getElem?_getD,h1];simp only [Option.getD_some];rw [h2]
 rfl
theorem Yw {tm am:Int} {A a:Nat} {L:List Ex} {ac:List (List Bool)} {nx:List (List (List Int))} (hsp:∀x∈L,x.tree tm am=true) (hst:∀x∈L,∀p k:Nat,p<A→k<a→x.step (p:Int) (k:Int)≠none)
  (hcl:∀x∈L,∀p k:Nat,p<A→k<a→∀d,Bo p k x=some d→d∈L) (hgo:∀(s:Nat) (x:Ex) (p k:Nat),L[s]? =some x→p<A→k<a→goN nx s p k=Dc L (Bo p k x)) (hhas:∀(s:Nat) (x:Ex) (m:Nat),L[s]? =some x→m<A→Br ac s m=x.emp (m:Int))
  (ws:List (Nat × Nat)):∀(s:Nat) (x:Ex) (m:Nat),L[s]? =some x→okW A a ws m→(E9 ac nx s ws m=true↔x.lng ws m):=by
 induction ws with
 |nil=>
  intro s x m h hw;rw [S3 tm am _ x (Nat.le_refl _) (hsp x (List.mem_of_getElem? h))]
  show Br _ _ _=true↔_
  rw [hhas s x m h hw.2]
 |cons q ws ih=>
  intro s x m h hw;obtain ⟨hq1,hq2,hw'⟩:=hw.tail;have hmem:=List.mem_of_getElem? h;obtain ⟨p,k⟩:=q;simp only at hq1 hq2
  show E9 _ _ (goN nx s p k) ws m=true↔_
  rw [hgo s x p k h hq1 hq2];obtain ⟨d,hd⟩:∃d,x.step (p:Int) (k:Int)=some d:=Option.ne_none_iff_exists'.1 (hst x hmem p k hq1 hq2);rw [←Xh tm am p k _ x d (Nat.le_refl _) (hsp x hmem) hd]
  by_cases h1:d.kind=1
  ·rw [Ku hd h1];simp only [Dc];rw [Me _ _ _ _ _ (by omega),Hi h1]
   simp [Le]
  have hn:=Kt hd h1;have hin:d∈L:=hcl x hmem p k hq1 hq2 d hn;rw [hn];simp only [Dc];refine ih _ d m ?_ hw';have hlt:=List.idxOf_lt_length_of_mem hin;rw [List.getElem?_eq_getElem hlt,List.getElem_idxOf hlt]
theorem Zf {tm am:Int} {A a:Nat} {e:Ex} (ht:e.tree tm am=true) (hs:e.size≤200) (hok:Eh A a e) (ws:List (Nat × Nat)) (m:Nat) (hw:okW A a ws m):E9 (Du A a e) (Cu A a e) 0 ws m=true↔e.tidy.lng ws m:=by
 obtain ⟨L,hL⟩:∃L,L=stL A a e 60:=⟨_,rfl⟩
 have hsp:∀x∈L,x.tree tm am=true:=fun x hx=>by rw [hL] at hx; exact (Gu ht hs 60 x hx).1
 have hst:∀x∈L,∀p k:Nat,p<A→k<a→x.step (p:Int) (k:Int)≠none:=by rw [hL]; exact hok.2
 have hcl:∀x∈L,∀p k:Nat,p<A→k<a→∀d,Bo p k x=some d→d∈L:=fun x hx p k hp hk d hd=>by
  rw [hL] at hx ⊢;exact Li hok.1 hx (by rw [←hd]; exact Rr (f:=fun m k=>Bo m k x) hp hk)
 have hgo:∀(s:Nat) (x:Ex) (p k:Nat),L[s]? =some x→p<A→k<a→goN (Cu A a e) s p k=Dc L (Bo p k x):=fun s x p k h hp hk=>by
  rw [hL] at h ⊢;rw [(Dm hok).2.1];exact Za h hp hk
 have hhas:∀(s:Nat) (x:Ex) (m:Nat),L[s]? =some x→m<A→Br (Du A a e) s m=x.emp (m:Int):=fun s x m h hm=>by
  rw [hL] at h;exact Yv hok h hm
 have h0:L[0]? =some e.tidy:=by rw [hL]; exact Nf _ _ _
 exact Yw hsp hst hcl hgo hhas ws 0 e.tidy m h0 hw
theorem Nr {t a:Int} {e:Ex} (hc:auC t a e=0) {ws:List (Nat × Nat)} {m:Nat} (hw:okW (Ah t).toNat a.toNat ws m):E9 (auA t a e) (auX t a e) 0 ws m=true↔e.lng ws m:=by
 obtain ⟨hok, -, -, -⟩:=Fr hc;obtain ⟨-, -, e3,e4,e5⟩:=M9 hok;rw [e5] at hc
 have hst:Eh (Ah t).toNat a.toNat e:=by
  apply Classical.byContradiction
  intro hn;have:=(Dr hn).2.2;omega
 have hs:=(Vh hok).2.2;have ht:=Gt hok;rw [e3,e4,Zf ht hs hst ws m hw,Ra _ _ _ e (Nat.le_refl _) ht]
section
variable {t a:Int} {ac bc:List (List Bool)} {nx ny:List (List (List Int))}
theorem Ut (h:By t a ac nx) (h':By t a bc ny) {m k:Nat} (hm:m<(Ah t).toNat) (hk:k<a.toNat) {p z:Int × Int} (hp:p∈prF nx ny (Ah t).toNat a.toNat) (hz:Dz nx ny m k p=some z):z∈prF nx ny (Ah t).toNat a.toNat:=
 Li (Fw h h' 3721) hp (by rw [←hz]; exact Rr (f:=fun m k=>Dz nx ny m k p) hm hk)
theorem Tz {A b:Nat} {L:List (Int × Int)} (hcl:∀p∈L,∀m k:Nat,m<A→k<b→∀z,Dz nx ny m k p=some z→z∈L) (hw:∀p∈L,∀m,m<A→Br ac p.1 m=true→Br bc p.2 m=true)
  (ws:List (Nat × Nat)):∀(m:Nat) (p:Int × Int),p∈L→okW A b ws m→E9 ac nx p.1 ws m=true→E9 bc ny p.2 ws m=true:=by
 induction ws with
 |nil=>exact fun m p hp ho ha=>hw p hp m ho.2 ha
 |cons q ws ih=>
  intro m p hp ho ha;obtain ⟨hq1,hq2,ho'⟩:=ho.tail;have ha':E9 ac nx (goN nx p.1 q.1 q.2) ws m=true:=ha
  show E9 bc ny (goN ny p.2 q.1 q.2) ws m=true
  by_cases hg:goN nx p.1 q.1 q.2<0
  ·rw [Me _ _ _ _ _ hg] at ha'
   cases ha'
  have hz:Dz nx ny q.1 q.2 p=some (goN nx p.1 q.1 q.2,goN ny p.2 q.1 q.2):=by
   unfold Dz;rw [if_neg (fun q=>hg q.1)]
  exact ih m (_,_) (hcl p hp q.1 q.2 hq1 hq2 _ hz) ho' ha'
theorem Yb {A b:Nat} (i:Nat):∀p∈prL nx ny A b i,∃us:List (Nat × Nat),(∀q∈us,q.1<A∧q.2<b)∧p.1=goW nx 0 us∧p.2=goW ny 0 us:=by
 refine Jo ⟨[],by simp,rfl,rfl⟩ ?_ i;rintro y ⟨us,hu,h1,h2⟩ m k hm hk z hz;unfold Dz at hz
 split at hz
 ·cases hz
 obtain rfl:=Option.some.inj hz;refine ⟨us++[(m,k)], ?_, ?_, ?_⟩
 ·intro q hq
  rcases List.mem_append.1 hq with hq|hq
  ·exact hu q hq
  rw [List.mem_singleton] at hq;subst hq;exact ⟨hm,hk⟩
 ·rw [J0,←h1]; rfl
 rw [J0,←h2]; rfl
theorem Sx {A b:Nat} {L:List (Int × Int)} (h0:((0:Int),(0:Int))∈L) (hcl:∀p∈L,∀m k:Nat,m<A→k<b→∀z,Dz nx ny m k p=some z→z∈L) (hrun:∀p∈L,∃us:List (Nat × Nat),(∀q∈us,q.1<A∧q.2<b)∧p.1=goW nx 0 us∧p.2=goW ny 0 us):
  L.all (Fa ac bc A)=true↔∀ws m,okW A b ws m→E9 ac nx 0 ws m=true→E9 bc ny 0 ws m=true:=by
 constructor
 ·intro hw ws m ho ha;refine Tz (L:=L) hcl (fun p hp m hm h=> ?_) ws m ((0:Int),(0:Int)) h0 ho ha;have:=List.all_eq_true.1 hw p hp;unfold Fa at this;have:=List.all_eq_true.1 this m (List.mem_range.2 hm);rw [h] at this
  simpa using this
 intro hw;rw [List.all_eq_true];intro p hp;obtain ⟨us,hu,h1,h2⟩:=hrun p hp;unfold Fa;rw [List.all_eq_true];intro m hm;have:=hw us m ⟨hu,List.mem_range.1 hm⟩;rw [Qd,Qd,←h1,←h2] at this
 cases e1:Br ac p.1 m
 ·rfl
 rw [this e1]
 rfl
theorem Vd (nx ny:List (List (List Int))) (A b i:Nat):((0:Int),(0:Int))∈prL nx ny A b i:=by unfold prL; exact List.mem_of_getElem? (Nf _ _ i)
theorem Us (h:By t a ac nx) (h':By t a bc ny):Fj ac bc nx ny (Ah t).toNat a.toNat=true↔∀ws m,okW (Ah t).toNat a.toNat ws m→E9 ac nx 0 ws m=true→E9 bc ny 0 ws m=true:=
 Sx (Vd nx ny _ _ 3721) (fun _ hp _ _ hm hk _ hz=>Ut h h' hm hk hp hz) (Yb 3721)
end
theorem Tc {t a:Int} {e f:Ex} (hc:Bs t a e f=0):atB t a e f=true↔∀ws m,okW (Ah t).toNat a.toNat ws m→e.lng ws m→f.lng ws m:=by
 obtain ⟨hce,hcf⟩:=Kz hc;obtain ⟨-, -, -, hoke⟩:=Fr hce;obtain ⟨-, -, -, hokf⟩:=Fr hcf;unfold atB;rw [Us hoke hokf]
 constructor
 ·intro h ws m ho he;exact (Nr hcf ho).1 (h ws m ho ((Nr hce ho).2 he))
 intro h ws m ho he;exact (Nr hcf ho).2 (h ws m ho ((Nr hce ho).1 he))
theorem Un {t a:Int} {e f:Ex} (hc:Bs t a e f=0):Bs t a f e=0:=by
 obtain ⟨hce,hcf⟩:=Kz hc;rw [Jp (Fr hcf).1 (Fr hce).1 hcf];exact hce
theorem Tx {t a:Int} {e f:Ex} (hc:Bs t a e f=0):eqR t a e f=true↔∀ws m,okW (Ah t).toNat a.toNat ws m→(e.lng ws m↔f.lng ws m):=by
 unfold eqR;rw [if_pos hc,Bool.and_eq_true,Tc hc,Tc (Un hc)];exact ⟨fun h ws m ho=>⟨h.1 ws m ho,h.2 ws m ho⟩,fun h=>⟨fun ws m ho=>(h ws m ho).1,fun ws m ho=>(h ws m ho).2⟩⟩
noncomputable def Mc (t a:Int) (e f:Ex):Bool:=(Bs t a e f==0)&& !eqR t a e f
theorem okW.append {A a:Nat} {u v:List (Nat × Nat)} {m:Nat}:okW A a (u++v) m↔okW A a u (hdA v m)∧okW A a v m:=by
 constructor
 ·rintro ⟨h1,h2⟩;have hv:okW A a v m:=⟨fun q hq=>h1 q (List.mem_append_right _ hq),h2⟩;refine ⟨⟨fun q hq=>h1 q (List.mem_append_left _ hq), ?_⟩,hv⟩
  cases v with
  |nil=>exact h2
  |cons q v=>exact (hv.1 q (by simp)).1
 rintro ⟨h1,h2⟩;refine ⟨fun q hq=> ?_,h2.2⟩
 rcases List.mem_append.1 hq with hq|hq
 ·exact h1.1 q hq
 exact h2.1 q hq
inductive Dj (F:Nat→Lng):List (Nat × Nat)→List (Nat × Nat)→Nat→Prop
 |nil (m:Nat):Dj F [] [] m
 |cons (p y:Nat) (v us ws:List (Nat × Nat)) (m:Nat):p=hdA (v++ws) m→F y v (hdA ws m)→Dj F us ws m→Dj F ((p,y)::us) (v++ws) m
theorem Dj.hd {F:Nat→Lng} {us ws:List (Nat × Nat)} {m:Nat} (h:Dj F us ws m):hdA us m=hdA ws m:=by
 cases h with
 |nil=>rfl
 |cons p y v us ws m hp hv h=>exact hp
theorem Dj.nil_inv {F:Nat→Lng} {ws:List (Nat × Nat)} {m:Nat} (h:Dj F [] ws m):ws=[]:=by
 cases h with
 |nil=>rfl
theorem Dj.append {F:Nat→Lng} {us ws:List (Nat × Nat)} {x:Nat} (h:Dj F us ws x):∀{us' vs:List (Nat × Nat)} {m:Nat},x=hdA vs m→Dj F us' vs m→Dj F (us++us') (ws++vs) m:=by
 induction h with
 |nil=>intro us' vs m _ k; exact k
 |cons p y v us ws x hp hv _ ih=>
  intro us' vs m hx k;rw [List.append_assoc];subst hx;refine Dj.cons p y v (us++us') (ws++vs) m ?_ ?_ (ih rfl k)
  ·rw [←List.append_assoc,Eq]; exact hp
  rw [Eq]; exact hv
theorem Dj.split {F:Nat→Lng}:∀{u u' ws:List (Nat × Nat)} {m:Nat},Dj F (u++u') ws m→∃w1 w2,ws=w1++w2∧Dj F u w1 (hdA w2 m)∧Dj F u' w2 m
 |[],u',ws,m,h=>⟨[],ws,rfl,Dj.nil _,h⟩
 |q::u,u',ws,m,h=>by
  rw [List.cons_append] at h
  cases h with
  |cons p y v us ws m hp hv h=>
   obtain ⟨w1,w2,rfl,h1,h2⟩:=Dj.split h;refine ⟨v++w1,w2,by rw [List.append_assoc],Dj.cons p y v u w1 _ ?_ ?_ h1,h2⟩
   ·rw [←Eq,List.append_assoc]; exact hp
   rw [←Eq]; exact hv
def Ip (F:Nat→Lng) (K:Lng):Lng:=fun ws m=>∃us,Dj F us ws m∧K us m
theorem Xt (F:Nat→Lng) (K L:Lng):Ip F (Rj K L)=Rj (Ip F K) (Ip F L):=Lng.ext fun ws m=>by
 constructor
 ·rintro ⟨us,h,k|k⟩
  ·exact Or.inl ⟨us,h,k⟩
  exact Or.inr ⟨us,h,k⟩
 rintro (⟨us,h,k⟩|⟨us,h,k⟩)
 ·exact ⟨us,h,Or.inl k⟩
 exact ⟨us,h,Or.inr k⟩
theorem Xq (F:Nat→Lng) (K L:Lng):Ip F (Fd K L)=Fd (Ip F K) (Ip F L):=Lng.ext fun ws m=>by
 constructor
 ·rintro ⟨us,h,u,v,rfl,hu,hv⟩;obtain ⟨w1,w2,rfl,h1,h2⟩:=h.split;rw [h2.hd] at hu;exact ⟨w1,w2,rfl,⟨u,h1,hu⟩,⟨v,h2,hv⟩⟩
 rintro ⟨w1,w2,rfl,⟨u,h1,hu⟩,⟨v,h2,hv⟩⟩;exact ⟨u++v,h1.append rfl h2,u,v,rfl,by rw [h2.hd]; exact hu,hv⟩
theorem Vl (F:Nat→Lng) (K:Lng):Ip F (Bj K)=Bj (Ip F K):=Lng.ext fun ws m=>by
 constructor
 ·rintro ⟨us,h,k⟩
  induction k generalizing ws with
  |nil=>rw [h.nil_inv]; exact Bj.nil _
  |cons u v m hu hv ih=>
   obtain ⟨w1,w2,rfl,h1,h2⟩:=h.split;rw [h2.hd] at hu;exact Bj.cons w1 w2 m ⟨u,h1,hu⟩ (ih w2 h2)
 intro h
 induction h with
 |nil m=>exact ⟨[],Dj.nil _,Bj.nil _⟩
 |cons u v m hu _ ih=>
  obtain ⟨us,h1,k1⟩:=hu;obtain ⟨vs,h2,k2⟩:=ih;exact ⟨us++vs,h1.append rfl h2,Bj.cons us vs m (by rw [h2.hd]; exact k1) k2⟩
theorem W3 (F:Nat→Lng) (e:Ex):Ip F (cndG e)=cndG e:=Lng.ext fun ws m=>by
 constructor
 ·rintro ⟨us,h,rfl,k⟩;exact ⟨h.nil_inv,k⟩
 rintro ⟨rfl,k⟩;exact ⟨[],Dj.nil _,rfl,k⟩
theorem Xm (F:Nat→Lng) (y:Nat):Ip F (actG (y:Int))=F y:=Lng.ext fun ws m=>by
 constructor
 ·rintro ⟨us,h,p,z,rfl,hz⟩
  obtain rfl:z=y:=by omega
  cases h with
  |cons p y v us ws m hp hv h=>
   rw [h.nil_inv] at hv ⊢;rw [List.append_nil];exact hv
 intro h;have:=Dj.cons (F:=F) (hdA ws m) y ws [] [] m (by rw [List.append_nil]) h (Dj.nil m);rw [List.append_nil] at this;exact ⟨_,this,_,_,rfl,rfl⟩
theorem Mn (b:List Ex):Ex.putL b []=[]:=by simp only [Ex.putL]
theorem Qq (b:List Ex) {k n:Int} {ks:List Ex} (hk:k≠4):(Ex.mk k n ks).put b= .mk k n (Ex.putL b ks):=by simp only [Ex.put,if_neg hk]
theorem Ga {k n:Int} {ks:List Ex} {x:Ex} (h:x∈ks):x.size<(Ex.mk k n ks).size:=by
 have h1:=Ex.sizeL_mem h;have h2:=Ex.size_eq (Ex.mk k n ks);simp only [Ex.kids] at h2;omega
theorem Wx (b:List Ex) (N:Nat):∀e:Ex,e.size≤N→e.cond=true→e.put b=e:=by
 induction N with
 |zero=>intro e h; have:=Ex.size_pos e; omega
 |succ N ih=>
  rintro ⟨k,n,ks⟩ hs hc;rw [Ex.cond_eq,Bool.and_eq_true] at hc;simp only [Ex.kind,Ex.kids] at hc;rw [Qq b (Lo hc.1).1]
  have key:∀l:List Ex,(∀x∈l,x∈ks)→Ex.putL b l=l:=by
   intro l
   induction l with
   |nil=>intro _; exact Mn b
   |cons x r ihl=>
    intro hl;have hx:=hl x (List.mem_cons_self ..);simp only [Ex.putL];rw [ih x (by have:=Ga (k:=k) (n:=n) hx; omega) (Ex.condL_mem hc.2 hx),ihl fun y hy=>hl y (List.mem_cons_of_mem _ hy)]
  rw [key ks fun _ h=>h]
theorem S6 (b:List Ex) (tm am:Int) (N:Nat):∀e:Ex,e.size≤N→e.tree tm am=true→(e.put b).lng=Ip (fun y=>(b.getD y Ex.zerP).lng) e.lng:=by
 induction N with
 |zero=>intro e h; have:=Ex.size_pos e; omega
 |succ N ih=>
  rintro ⟨k,n,ks⟩ hs ht;obtain ⟨hk,hn,hc,hl⟩:=Aq ht
  by_cases h4:k=4
  ·subst h4
   have h0:0≤n:=by
    simp [Ci,inB] at hn
    exact hn.1
   obtain ⟨y,rfl⟩:=Int.eq_ofNat_of_zero_le h0;rw [Ex.lng_act,Xm];simp only [Ex.put,if_true,Int.toNat_natCast]
  rw [Qq b h4]
  by_cases h67:k=6∨k=7
  ·obtain ⟨x,y,rfl⟩:=As hk h67;have ex:=ih x (by have:=Ga (k:=k) (n:=n) (ks:=[x,y]) (x:=x) (by simp); omega) (Ex.treeL_mem hl (by simp));have ey:=ih y (by have:=Ga (k:=k) (n:=n) (ks:=[x,y]) (x:=y) (by simp); omega) (Ex.treeL_mem hl (by simp));simp only [Ex.putL]
   rcases h67 with rfl|rfl
   ·rw [Ex.lng_sum,Ex.lng_sum,Xt,ex,ey]
   rw [Ex.lng_dot,Ex.lng_dot,Xq,ex,ey]
  by_cases h8:k=8
  ·subst h8;obtain ⟨x,rfl⟩:=Bq hk (Or.inr rfl);have ex:=ih x (by have:=Ga (k:=8) (n:=n) (ks:=[x]) (x:=x) (by simp); omega) (Ex.treeL_mem hl (by simp));simp only [Ex.putL];rw [Ex.lng_star,Ex.lng_star,Vl,ex]
  have e1:Ex.putL b ks=ks:=by
   by_cases h5:k=5
   ·obtain ⟨x,rfl⟩:=Bq hk (Or.inl h5);simp only [Ex.putL];rw [Wx b x.size x (Nat.le_refl _) (Ex.condL_mem (hc h5) (by simp))]
   have h0:ks.length=0:=by
    unfold Bi at hk;rw [if_neg (show ¬(k=5∨k=8) by omega),if_neg (show ¬(k=6∨k=7) by omega)] at hk
    split at hk<;>omega
   rw [List.eq_nil_of_length_eq_zero h0,Mn]
  rw [e1,Ex.lng_else h4 (by omega) (by omega) h8,W3]
theorem Qk (tm am:Int) (N:Nat):∀e:Ex,e.size≤N→e.tree tm am=true→∀ws m,e.lng ws m→∀q∈ws,(q.2:Int)≤am:=by
 induction N with
 |zero=>intro e h; have:=Ex.size_pos e; omega
 |succ N ih=>
  rintro ⟨k,n,ks⟩ hs ht ws m h;obtain ⟨hk,hn,hc,hl⟩:=Aq ht;have kid:∀x∈ks,∀ws m,x.lng ws m→∀q∈ws,(q.2:Int)≤am:=fun x hx=>ih x (by have:=Ga (k:=k) (n:=n) hx; omega) (Ex.treeL_mem hl hx)
  by_cases h4:k=4
  ·subst h4;rw [Ex.lng_act] at h;obtain ⟨p,y,rfl,hy⟩:=h
   simp [Ci,inB] at hn
   intro q hq;simp only [List.mem_cons,List.not_mem_nil,or_false] at hq;subst hq;simp only;omega
  by_cases h67:k=6∨k=7
  ·obtain ⟨x,y,rfl⟩:=As hk h67
   rcases h67 with rfl|rfl
   ·rw [Ex.lng_sum] at h
    rcases h with h|h
    ·exact kid x (by simp) ws m h
    exact kid y (by simp) ws m h
   rw [Ex.lng_dot] at h;obtain ⟨u,v,rfl,hu,hv⟩:=h;intro q hq
   rcases List.mem_append.1 hq with hq|hq
   ·exact kid x (by simp) _ _ hu q hq
   exact kid y (by simp) _ _ hv q hq
  by_cases h8:k=8
  ·subst h8;obtain ⟨x,rfl⟩:=Bq hk (Or.inr rfl);rw [Ex.lng_star] at h
   induction h with
   |nil=>simp
   |cons u v m hu _ ihs=>
    intro q hq
    rcases List.mem_append.1 hq with hq|hq
    ·exact kid x (by simp) _ _ hu q hq
    exact ihs q hq
  rw [Ex.lng_else h4 (by omega) (by omega) h8] at h;obtain ⟨rfl, -⟩:=h
  simp
theorem Ve {F:Nat→Lng} {A a:Nat} {us ws:List (Nat × Nat)} {m:Nat} (h:Dj F us ws m) (ho:okW A a ws m) (ha:∀q∈us,q.2<a):okW A a us m:=by
 induction h with
 |nil=>exact ho
 |cons p y v us ws m hp hv h ih=>
  have h2:=ih (okW.append.1 ho).2 fun q hq=>ha q (List.mem_cons_of_mem _ hq);refine ⟨fun q hq=> ?_,h2.2⟩
  rcases List.mem_cons.1 hq with rfl|hq
  ·refine ⟨?_,ha _ (List.mem_cons_self ..)⟩;have h3:=(okW.append (u:=v++ws) (v:=[]) (m:=m) (A:=A) (a:=a)).1 (by rw [List.append_nil]; exact ho);subst hp
   cases hx:v++ws with
   |nil=>exact ho.2
   |cons z r=>exact (ho.1 z (by rw [hx]; simp)).1
  exact h2.1 q hq
theorem Wq {t a:Int} {e f:Ex} {bs:List Ex} (ht:e.tree (t - 1) (a - 1)=true) (ht':f.tree (t - 1) (a - 1)=true) (hc:Bs t a e f=0) (h:eqR t a e f=true):Mc t a (e.put bs) (f.put bs)=false:=by
 unfold Mc
 by_cases hc':Bs t a (e.put bs) (f.put bs)=0
 ·rw [(Tx hc').2 fun ws m ho=> ?_,Bool.not_true,Bool.and_false];rw [S6 bs _ _ _ e (Nat.le_refl _) ht,S6 bs _ _ _ f (Nat.le_refl _) ht'];have h':=(Tx hc).1 h
  constructor
  ·rintro ⟨us,hi,hu⟩;have hq:=Qk _ _ _ e (Nat.le_refl _) ht us m hu;exact ⟨us,hi,(h' us m (Ve hi ho fun q hm=>by have:=hq q hm; omega)).1 hu⟩
  rintro ⟨us,hi,hu⟩;have hq:=Qk _ _ _ f (Nat.le_refl _) ht' us m hu;exact ⟨us,hi,(h' us m (Ve hi ho fun q hm=>by have:=hq q hm; omega)).2 hu⟩
 rw [beq_eq_false_iff_ne.2 hc',Bool.false_and]
def Eb (n:Nat):List Ex:=(List.range n).map fun (i:Nat)=>Ex.mk 4 (i:Int) []
theorem Xb (tm am:Int) {n:Nat} (hn:am<n) (N:Nat):∀e:Ex,e.size≤N→e.tree tm am=true→e.put (Eb n)=e:=by
 induction N with
 |zero=>intro e h; have:=Ex.size_pos e; omega
 |succ N ih=>
  rintro ⟨k,x,ks⟩ hs ht;obtain ⟨hk,hx,hc,hl⟩:=Aq ht
  by_cases h4:k=4
  ·subst h4
   simp [Ci,inB] at hx
   obtain ⟨y,rfl⟩:=Int.eq_ofNat_of_zero_le hx.1;have h0:ks=[]:=H5 hk (Or.inr rfl);subst h0;simp only [Ex.put,if_true,Int.toNat_natCast,Eb,List.getD_eq_getElem?_getD];rw [List.getElem?_map,List.getElem?_range (by omega)]
   rfl
  rw [Qq _ h4]
  have key:∀l:List Ex,(∀x∈l,x∈ks)→Ex.putL (Eb n) l=l:=by
   intro l
   induction l with
   |nil=>intro _; exact Mn _
   |cons z r ihl=>
    intro hl';have hz:=hl' z (List.mem_cons_self ..);simp only [Ex.putL];rw [ih z (by have:=Ga (k:=k) (n:=x) hz; omega) (Ex.treeL_mem hl hz),ihl fun y hy=>hl' y (List.mem_cons_of_mem _ hy)]
  rw [key ks fun _ h=>h]
end Go.Proofs.YtlchgfbkdjjngaaGreatDoor
namespace Go.Proofs.YtlchgfbkdjjngaaGreatDoor
open Go.ChangeShapes Go.WideShapes Go.ChangeAt Go.RowKit Go.Deep Go.ChangeMaps Go.MapKept Go.WideMaps
open Go.Maps (Keyed)
theorem arrP:ArrKey Tryz.prog 101 2 2:=⟨Tryz.underlying101,by kernel_rfl,by kernel_rfl,by kernel_rfl⟩
def kfP (p:Int × Int):Value:= .agg #[.int .i64 p.1,.int .i64 p.2]
theorem Gv (x y:Int × Int) (h:kfP x=kfP y):x=y:=by
 simp only [kfP,Value.agg.injEq] at h;simp at h;exact Prod.ext h.1 h.2
theorem Rp {x:Int} (h1: -1≤x) (h2:x≤1000):(Lit.int .i64 x).wf=true:=by
 have hm:IntKind.i64.min= -9223372036854775808:=rfl
 simp [Lit.wf,hm]
 omega
theorem Ur:∃m,Tryz.prog.types.size=m+1:=⟨Tryz.prog.types.size - 1,by have h:0<Tryz.prog.types.size:=of_decide_eq_true (by kernel_rfl); omega⟩
theorem keyP {p:Int × Int} (h1: -1≤p.1∧p.1≤1000) (h2: -1≤p.2∧p.2≤1000):∃l,keyOf Tryz.prog 101 (kfP p)=some l:=
 ⟨_,keyOf_pair arrP Tryz.underlying2 Ur (Rp h1.1 h1.2) (Rp h2.1 h2.2)⟩
theorem L0:Keyed Tryz.prog 101:=Keyed.of_law arrP.law
end Go.Proofs.YtlchgfbkdjjngaaGreatDoor
namespace Go.Proofs.YtlchgfbkdjjngaaGreatDoor
open Go.ChangeShapes Go.WideShapes Go.ChangeAt Go.RowKit Go.Deep
def vE (t a:Int) (e:Ex):Bool:=shF (IntKind.i64.wrap (t - 1)) (IntKind.i64.wrap (a - 1)) e 200 40
theorem X2 {t a:Int} {e:Ex}:(Cj t a&&vE t a e)=okB t a e:=by
 cases hs:Cj t a
 ·unfold okB;rw [hs]
  rfl
 obtain ⟨h0,h1,h2,h3⟩:=Db hs;rw [Bool.true_and,←Qx hs];unfold vE;rw [Ew (by omega) (by omega),Ew (by omega) (by omega)]
def VTo (t a:Int) (L:List Ex) (k:Nat):Prop:=∀(j:Nat) (e:Ex),j<k→L[j]? =some e→vE t a e=true
theorem VTo.succ {t a:Int} {L:List Ex} {k:Nat} {e:Ex} (h:VTo t a L k) (he:L[k]? =some e) (hv:vE t a e=true):VTo t a L (k+1):=fun j f hj hf=>by
 by_cases hjk:j=k
 ·rw [hjk,he] at hf;rw [←Option.some.inj hf];exact hv
 exact h j f (by omega) hf
theorem Xj {t a:Int} {L:List Ex} (h:VTo t a L L.length):L.all (vE t a)=true:=by
 rw [List.all_eq_true];intro x hx;obtain ⟨i,hi⟩:=List.mem_iff_getElem?.1 hx;exact h i x (List.getElem?_eq_some_iff.1 hi).1 hi
theorem Yt {t a:Int} {L:List Ex} {k:Nat} {e:Ex} (he:L[k]? =some e) (hv:vE t a e=false):L.all (vE t a)=false:=by
 rw [List.all_eq_false];exact ⟨e,List.mem_of_getElem? he,by rw [hv]; simp⟩
set_option maxRecDepth 100000 in
set_option maxHeartbeats 8000000 in
theorem Sa {t a:Int} {L:List Ex} {b o c:Nat} {w:World} (hr:Rd w (Ae L) (.slice (some ⟨b,o,none⟩) L.length c)):
  Calls Tryz.prog 19 #[.agg #[.int .i64 t,.int .i64 a],.slice (some ⟨b,o,none⟩) L.length c] w fun e w'=>e= .returned (.bool (Cj t a&&L.all (vE t a)))∧Below w.heap.size w w':=by
 obtain ⟨-, hl2,hl3, -⟩:=A0 hr;unfold maxLen at hl3;have Hr:=hid hr;clear hr
 go_enter Tryz.func19,Tryz.ntmps19
 go_wp2_with fail;obtain ⟨w1,e1,G,hb1,hz1⟩:=Dl w 25 (.int .i64 t) (.int .i64 a);rw [e1];have hz1':=hb1.size;have HB1:=hid hb1;clear e1 hb1
 go_loopw [9] (fun i wr=>∃k:Nat,i= .int .i64 k∧k≤L.length∧Hid (VTo t a L k)∧Below w1.heap.size w1 wr) (fun i _=>L.length - (intOf i).toNat)
 case atStart=>exact ⟨0,rfl,by omega,fun j e hj=>by omega,Below.refl _ _⟩
 case round=>
  obtain ⟨k,rfl,hk,HV,hbe⟩:=hrel;obtain ⟨wo,rfl⟩:∃v,v=wr:=⟨_,rfl⟩;have hk0:=Int.natCast_nonneg k;have hzo:=hbe.size;obtain ⟨g0,g1,ltG⟩:=(G.below hbe).all2;have HBe:=hid hbe
  by_cases hlt:k<L.length
  rotate_left
  ·obtain rfl:k=L.length:=by omega
   have HA:Hid (L.all (vE t a)=true):=Xj HV.out;clear hbe;go_wp2_with fail;refine (Fz t a _).mono ?_;rintro e w2 ⟨rfl,hb2⟩;go_wp2_with fail;go_ret;exact ⟨Av (by rw [HA.out]; simp),(HB1.out.trans (HBe.out.mono hz1')).trans (hb2.mono (by omega))⟩
  obtain ⟨x,hx⟩:∃x,L[k]? =some x:=⟨_,List.getElem?_eq_getElem hlt⟩;obtain ⟨hkb,sx,cx,i0,i1,i2,hxr⟩:=A3 (Hr.out.below (HB1.out.trans (hbe.mono hz1'))) hx
  have hkL:(k:Int)<(L.length:Int):=by omega
  have Hx:=hid hx;have G4:=G.below hbe;clear hx hbe;go_wp2_with fail;clear i0 i1 i2 g0 g1 ltG;obtain ⟨w4,e4,X,hb4,hz4⟩:=A7 wo 28 (.int .i64 x.kind) (.int .i64 x.num) (.slice sx x.kids.length cx);rw [e4];have HBe4:=hid (HBe.out.trans (hb4.mono hzo));have hxr4:=hxr.below hb4;clear e4 hb4 hxr;refine (Ma _ _ rfl rfl hxr4).mono ?_;rintro e w5 ⟨rfl,hb5⟩;have HBe5:=hid (HBe4.out.trans (hb5.mono (by omega)))
  have HEV:Hid (shF (IntKind.i64.wrap (t - 1)) (IntKind.i64.wrap (a - 1)) (.mk x.kind x.num x.kids) 200 40=vE t a x):=by show _=_; rw [←Ex.eta]; rfl
  rw [HEV.out];clear hb5 hxr4 HEV
  cases hv:vE t a x
  ·have HA:Hid (L.all (vE t a)=false):=Yt Hx.out hv;clear hv;go_wp2_with fail;go_ret;exact ⟨Av (by rw [HA.out]; simp),HB1.out.trans (HBe5.out.mono hz1')⟩
  have HV2:=hid (HV.out.succ Hx.out hv);clear hv;go_wp2_with fail
  go_roundw
  case rel=>exact ⟨k+1,by go_num,by omega,HV2.out,HBe5.out⟩
  case measure=>simp [intOf]; omega
theorem Y5 {w:World} {g T:Nat} {e f:Ex} {s s':Option Addr} {c c':Nat} (h:Blk w g T [.int .i64 e.kind,.int .i64 e.num,.slice s e.kids.length c,.int .i64 f.kind,.int .i64 f.num,.slice s' f.kids.length c']) (h1:Rd w (Ae e.kids) (.slice s e.kids.length c)) (h2:Rd w (Ae f.kids) (.slice s' f.kids.length c')):
  Rd w (Ae [e,f]) (.slice (some ⟨g,0,none⟩) 2 2):=by
 show Rd w (.sl 3 2 (Ex.cellsL [e,f])) _
 have hc:Ex.cellsL [e,f]=[.int e.kind,.int e.num,Ae e.kids,.int f.kind,.int f.num,Ae f.kids]:=by
  simp only [Ex.cellsL,List.append_nil];rw [Ex.cells_eq,Ex.cells_eq]
  rfl
 rw [hc];simp only [Rd];refine ⟨some ⟨g,0,none⟩,2,rfl,by omega,by simp [maxLen],by simp,by simp,Or.inr ⟨g,0,_,rfl,h.row (List.take_length ..), ?_⟩⟩;simp only [Rds,Rd];exact ⟨_,_,rfl,rfl,_,_,rfl,rfl,_,_,rfl,h1,_,_,rfl,rfl,_,_,rfl,rfl,_,_,rfl,h2,rfl⟩
theorem Uj {t a:Int} {e f:Ex}:(Cj t a&&[e,f].all (vE t a))=(okB t a e&&okB t a f):=by
 rw [←X2,←X2];simp only [List.all_cons,List.all_nil,Bool.and_true]
 cases Cj t a<;>simp
set_option maxRecDepth 100000 in
set_option maxHeartbeats 8000000 in
theorem Jd {t a:Int} {e f:Ex} {s s':Option Addr} {c c':Nat} {w:World} (hr:Rd w (Ae e.kids) (.slice s e.kids.length c)) (hr':Rd w (Ae f.kids) (.slice s' f.kids.length c')):
  Calls Tryz.prog 42 #[.agg #[.int .i64 t,.int .i64 a],.agg #[.int .i64 e.kind,.int .i64 e.num,.slice s e.kids.length c],.agg #[.int .i64 f.kind,.int .i64 f.num,.slice s' f.kids.length c']] w (Rt t a e f w):=by
 go_enter Tryz.func42,Tryz.ntmps42
 go_wp2_with fail;obtain ⟨w1,e1,G,hb1,hz1⟩:=Dl w 25 (.int .i64 t) (.int .i64 a);rw [e1];obtain ⟨w2,e2,X,hb2,hz2⟩:=A7 w1 28 (.int .i64 e.kind) (.int .i64 e.num) (.slice s e.kids.length c);rw [e2];obtain ⟨w3,e3,Y,hb3,hz3⟩:=A7 w2 28 (.int .i64 f.kind) (.int .i64 f.num) (.slice s' f.kids.length c');rw [e3];obtain ⟨w4,e4,R,hb4,hz4⟩:=Dx w3 73 (.int .i64 0) (.int .i64 0) (.slice none 0 0) (.slice none 0 0);rw [e4];obtain ⟨w0,e0,Q,hb5,hz5⟩:=Dx w4 73 (.int .i64 0) (.int .i64 0) (.slice none 0 0) (.slice none 0 0);rw [e0];have hB:Below w.heap.size w w0:=(((hb1.trans (hb2.mono (by omega))).trans (hb3.mono (by omega))).trans (hb4.mono (by omega))).trans (hb5.mono (by omega));replace R:=R.below hb5;replace Y:=(Y.below hb4).below hb5;replace X:=((X.below hb3).below hb4).below hb5;replace G:=(((G.below hb2).below hb3).below hb4).below hb5;clear e1 e2 e3 e4 e0;have S:=Blk.new6 w0 28 (.int .i64 e.kind) (.int .i64 e.num) (.slice s e.kids.length c) (.int .i64 f.kind) (.int .i64 f.num) (.slice s' f.kids.length c');have hb6:Below w0.heap.size w0 (w0.alloc (.cells #[.int .i64 e.kind,.int .i64 e.num,.slice s e.kids.length c,.int .i64 f.kind,.int .i64 f.num,.slice s' f.kids.length c'] 28)):=Below.alloc (Below.refl _ _) (Nat.le_refl _) _;generalize w0.alloc (.cells #[.int .i64 e.kind,.int .i64 e.num,.slice s e.kids.length c,.int .i64 f.kind,.int .i64 f.num,.slice s' f.kids.length c'] 28)=w5 at S hb6 ⊢
 have hzz:w0.heap.size=w.heap.size+5:=by omega
 rw [show w1.heap.size=w.heap.size+1 by omega] at X;rw [show w2.heap.size=w.heap.size+1+1 by omega] at Y;rw [show w3.heap.size=w.heap.size+1+1+1 by omega] at R;rw [show w4.heap.size=w.heap.size+1+1+1+1 by omega] at Q;rw [show w0.heap.size=w.heap.size+1+1+1+1+1 by omega] at S;have hz6:=hb6.size;have hB6:=Below.on hB hb6 hB.size;replace R:=R.below hb6;replace Q:=Q.below hb6;replace X:=X.below hb6;replace Y:=Y.below hb6;replace G:=G.below hb6;clear hb1 hb2 hb3 hb4 hb5 hz1 hz2 hz3 hz4 hz5 hb6 hB;refine (Sa (L:=[e,f]) (Y5 S (hr.below hB6) (hr'.below hB6))).mono ?_;rintro g w6 ⟨rfl,hb⟩;have hB:=Below.on hB6 hb hB6.size;replace R:=R.below hb;replace Q:=Q.below hb;replace X:=X.below hb;replace Y:=Y.below hb;replace G:=G.below hb;have hz7:=hb.size;clear hb S hB6;rw [Uj];obtain ⟨g0,g1,ltG⟩:=G.all2;obtain ⟨x0,x1,x2, -, -, -, ltX⟩:=X.all3
 cases h1:(okB t a e&&okB t a f)
 ·have HC:Hid (Bs t a e f=1):=Ih (by
   cases h2:okB t a e
   ·exact Or.inl rfl
   rw [h2] at h1; exact Or.inr (by simpa using h1))
  clear h1;obtain ⟨r0,r1,r2,r3,z0,z1,z2,z3,ltR⟩:=R.all4;obtain ⟨p0,p1,p2,p3,y0,y1,y2,y3,ltQ⟩:=Q.all4;go_wp2_with fail;obtain ⟨w5,e5,T1,hs5⟩:=Eg R (.int .i64 0) (.int .i64 0) (.slice none 0 0) (.slice none 0 0);rw [e5];have Q5:=Q.keep (hs5.block _ Q.lt (by simp));obtain ⟨w6,e6,T2,hs6⟩:=Eg Q5 (.int .i64 0) (.int .i64 0) (.slice none 0 0) (.slice none 0 0);rw [e6];have T3:=T1.keep (hs6.block _ T1.lt (by simp));clear e5 e6 T1;obtain ⟨t0,t1,t2,t3, -, -, -, -, -⟩:=T3.all4;obtain ⟨ss0,ss1,ss2,ss3, -, -, -, -, -⟩:=T2.all4;have hzB5:=hB.size;have hB5:=(hB.trans (hs5.below (B:=w.heap.size) (by omega) (fun y hy=>by omega))).trans (hs6.below (B:=w.heap.size) (by have:=hs5.size; omega) (fun y hy=>by omega));refine bodyPost_ret (v:= .tuple #[.agg #[.int .i64 0,.int .i64 0,.slice none 0 0,.slice none 0 0],.agg #[.int .i64 0,.int .i64 0,.slice none 0 0,.slice none 0 0],.int .i64 1]) (by simp [results,Tryz.results42,go_sem,t0,t1,t2,t3,ss0,ss1,ss2,ss3]) rfl ?_;exact ⟨_,_,by rw [HC.out],Dq,Dq,hB5,fun h=>by rw [HC.out] at h; omega⟩
 rw [Bool.and_eq_true] at h1;have H1:=hid h1.1;have H2:=hid h1.2;clear h1;go_wp2_with fail;clear g0 g1 ltG x0 x1 x2 ltX;have ltQ4:=Q.lt;refine (Je H1.out (hr.below hB)).mono ?_;intro g w8 hpost
 cases hcb:(auC t a e !=0)
 rotate_left
 ·have hc0:¬auC t a e=0:=by simpa using hcb
  have HC:Hid (Bs t a e f=auC t a e):=Mk H1.out H2.out hc0;have Hc0:=hid hc0;obtain ⟨t',a',s9,u9,l',c9,m',d9,rfl,hb⟩:=hpost.no;have ltR0:=R.lt;have ltQ0:=Q.lt;replace hB:=Below.on hB hb hB.size;replace R:=R.below hb;replace Q:=Q.below hb;clear hb hc0;obtain ⟨r0,r1,r2,r3,z0,z1,z2,z3,ltR⟩:=R.all4;obtain ⟨p0,p1,p2,p3,y0,y1,y2,y3,ltQ⟩:=Q.all4;go_wp2_with fail;obtain ⟨w5',e5,T1,hs5⟩:=Eg R (.int .i64 0) (.int .i64 0) (.slice none 0 0) (.slice none 0 0);rw [e5];have Q5:=Q.keep (hs5.block _ Q.lt (by simp));obtain ⟨wz,e6,T2,hs6⟩:=Eg Q5 (.int .i64 0) (.int .i64 0) (.slice none 0 0) (.slice none 0 0);rw [e6];have T3:=(T1.keep (hs6.block _ T1.lt (by simp))).alloc (.cells #[.int .i64 t',.int .i64 a',.slice s9 l' c9,.slice u9 m' d9] 73);have T4:=T2.alloc (.cells #[.int .i64 t',.int .i64 a',.slice s9 l' c9,.slice u9 m' d9] 73);clear e5 e6 T1 T2;obtain ⟨t0,t1,t2,t3, -, -, -, -, -⟩:=T3.all4;obtain ⟨ss0,ss1,ss2,ss3, -, -, -, -, -⟩:=T4.all4;have hzB5:=hB.size;have hB4:=(hB.trans (hs5.below (B:=w.heap.size) (by omega) (fun y hy=>by omega))).trans (hs6.below (B:=w.heap.size) (by have:=hs5.size; omega) (fun y hy=>by omega));have hB5:Below w.heap.size w (wz.alloc (.cells #[.int .i64 t',.int .i64 a',.slice s9 l' c9,.slice u9 m' d9] 73)):=hB4.alloc hB4.size _;generalize wz.alloc (.cells #[.int .i64 t',.int .i64 a',.slice s9 l' c9,.slice u9 m' d9] 73)=wy at t0 t1 t2 t3 ss0 ss1 ss2 ss3 hB5 ⊢;refine bodyPost_ret (v:= .tuple #[.agg #[.int .i64 0,.int .i64 0,.slice none 0 0,.slice none 0 0],.agg #[.int .i64 0,.int .i64 0,.slice none 0 0,.slice none 0 0],.int .i64 (auC t a e)]) (by simp [results,Tryz.results42,go_sem,t0,t1,t2,t3,ss0,ss1,ss2,ss3]) rfl ?_;exact ⟨_,_,by rw [HC.out],Dq,Dq,hB5,fun h=>by rw [HC.out] at h; exact absurd h Hc0.out⟩
 have hc0:auC t a e=0:=by simpa using hcb
 have HC:Hid (Bs t a e f=auC t a f):=Jp H1.out H2.out hc0;obtain ⟨s1,c1,u1,d1,rfl,hf,hb⟩:=hpost.yes hc0;have Hrd:=hid hf;have hz6':=hb.size;replace hB:=Below.on hB hb hB.size;replace R:=R.below hb;replace Q:=Q.below hb;replace G:=G.below hb;replace Y:=Y.below hb;obtain ⟨g0,g1,ltG⟩:=G.all2;obtain ⟨y0',y1',y2', -, -, -, ltY'⟩:=Y.all3;clear hb hcb hc0 hf;go_wp2_with fail;clear g0 g1 ltG y0' y1' y2' ltY';obtain ⟨w7,e7,X7,hb7,hz7'⟩:=Dx w8 73 (.int .i64 t) (.int .i64 a) (.slice s1 (auA t a e).length c1) (.slice u1 (auX t a e).length d1);rw [e7];replace hB:=Below.on hB hb7 hB.size;have ltR6:=R.lt;have ltQ6:=Q.lt;replace R:=R.below hb7;replace Q:=Q.below hb7;have Hrd7:=hid (Hrd.out.on hb7);obtain ⟨xb,hxb⟩:∃xb,w8.heap.size=xb:=⟨_,rfl⟩;rw [hxb] at X7 ltR6 ltQ6 ⊢;clear e7 hb7 hxb Hrd G Y X;refine (Je H2.out (hr'.below hB)).mono ?_;rintro g w9 ⟨s2,c2,u2,d2,rfl,hf2,hb⟩;have Hrd2:=hid hf2;have Hrd8:=hid (Hrd7.out.on hb);replace hB:=Below.on hB hb hB.size;replace R:=R.below hb;replace Q:=Q.below hb;have X8:=X7.below hb;have ltX8:=X8.lt;have ltR8:=R.lt;have ltQ8:=Q.lt;clear hb hf2 Hrd7 X7
 cases hcb:(auC t a f !=0)
 rotate_left
 ·have Hc0:Hid (¬auC t a f=0):=by show ¬_; simpa using hcb
  obtain ⟨r0,r1,r2,r3,z0,z1,z2,z3,ltR⟩:=R.all4;obtain ⟨p0,p1,p2,p3,y0,y1,y2,y3,ltQ⟩:=Q.all4;go_wp2_with fail;obtain ⟨w5',e5,T1,hs5⟩:=Eg R (.int .i64 0) (.int .i64 0) (.slice none 0 0) (.slice none 0 0);rw [e5];have Q5:=Q.keep (hs5.block _ Q.lt (by simp));obtain ⟨wz,e6,T2,hs6⟩:=Eg Q5 (.int .i64 0) (.int .i64 0) (.slice none 0 0) (.slice none 0 0);rw [e6];have T3:=(T1.keep (hs6.block _ T1.lt (by simp))).alloc (.cells #[.int .i64 (auT t a f),.int .i64 (auN t a f),.slice s2 (auA t a f).length c2,.slice u2 (auX t a f).length d2] 73);have T4:=T2.alloc (.cells #[.int .i64 (auT t a f),.int .i64 (auN t a f),.slice s2 (auA t a f).length c2,.slice u2 (auX t a f).length d2] 73);clear e5 e6 T1 T2;obtain ⟨t0,t1,t2,t3, -, -, -, -, -⟩:=T3.all4;obtain ⟨ss0,ss1,ss2,ss3, -, -, -, -, -⟩:=T4.all4;have hzB5:=hB.size;have hB4:=(hB.trans (hs5.below (B:=w.heap.size) (by omega) (fun y hy=>by omega))).trans (hs6.below (B:=w.heap.size) (by have:=hs5.size; omega) (fun y hy=>by omega));have hB5:Below w.heap.size w (wz.alloc (.cells #[.int .i64 (auT t a f),.int .i64 (auN t a f),.slice s2 (auA t a f).length c2,.slice u2 (auX t a f).length d2] 73)):=hB4.alloc hB4.size _;generalize wz.alloc (.cells #[.int .i64 (auT t a f),.int .i64 (auN t a f),.slice s2 (auA t a f).length c2,.slice u2 (auX t a f).length d2] 73)=wy at t0 t1 t2 t3 ss0 ss1 ss2 ss3 hB5 ⊢;refine bodyPost_ret (v:= .tuple #[.agg #[.int .i64 0,.int .i64 0,.slice none 0 0,.slice none 0 0],.agg #[.int .i64 0,.int .i64 0,.slice none 0 0,.slice none 0 0],.int .i64 (auC t a f)]) (by simp [results,Tryz.results42,go_sem,t0,t1,t2,t3,ss0,ss1,ss2,ss3]) rfl ?_;exact ⟨_,_,by rw [HC.out],Dq,Dq,hB5,fun h=>by rw [HC.out] at h; exact absurd h Hc0.out⟩
 have hc0:auC t a f=0:=by simpa using hcb
 obtain ⟨-, e1,e2, -⟩:=Fr hc0;rw [hc0] at HC;rw [e1,e2,hc0];clear hcb e1 e2 hc0;go_wp2_with fail;obtain ⟨w10,e9,Y9,hb9,hz9⟩:=Dx w9 73 (.int .i64 t) (.int .i64 a) (.slice s2 (auA t a f).length c2) (.slice u2 (auX t a f).length d2);rw [e9];replace hB:=Below.on hB hb9 hB.size;replace R:=R.below hb9;replace Q:=Q.below hb9;replace X8:=X8.below hb9;have Hf1:=hid (Hrd8.out.on hb9);have Hf2:=hid (Hrd2.out.on hb9);obtain ⟨yb,hyb⟩:∃yb,w9.heap.size=yb:=⟨_,rfl⟩;rw [hyb] at Y9 ltR8 ltQ8 ltX8 ⊢;clear e9 hb9 hyb Hrd8 Hrd2;obtain ⟨x0,x1,x2,x3, -, -, -, -, ltX⟩:=X8.all4;obtain ⟨v0,v1,v2,v3, -, -, -, -, ltY⟩:=Y9.all4;obtain ⟨r0,r1,r2,r3,z0,z1,z2,z3,ltR⟩:=R.all4;obtain ⟨p0,p1,p2,p3,y0,y1,y2,y3,ltQ⟩:=Q.all4
 have n1:w.heap.size+1+1+1≠xb:=by omega
 have n2:w.heap.size+1+1+1+1≠xb:=by omega
 have n3:w.heap.size+1+1+1≠yb:=by omega
 have n4:w.heap.size+1+1+1+1≠yb:=by omega
 go_region
 go_wp2_with fail;obtain ⟨w5,e5,T1,hs5⟩:=Eg R (.int .i64 t) (.int .i64 a) (.slice s1 (auA t a e).length c1) (.slice u1 (auX t a e).length d1);rw [e5];have Q5:=Q.keep (hs5.block _ Q.lt (by simp));obtain ⟨wz,e6,T2,hs6⟩:=Eg Q5 (.int .i64 t) (.int .i64 a) (.slice s2 (auA t a f).length c2) (.slice u2 (auX t a f).length d2);rw [e6];have T3:=(T1.keep (hs6.block _ T1.lt (by simp))).drew;have T4:=T2.drew;clear e5 e6 T1 T2;obtain ⟨t0,t1,t2,t3, -, -, -, -, -⟩:=T3.all4;obtain ⟨ss0,ss1,ss2,ss3, -, -, -, -, -⟩:=T4.all4;have hzB5:=hB.size;have hB4:=(hB.trans (hs5.below (B:=w.heap.size) (by omega) (fun y hy=>by omega))).trans (hs6.below (B:=w.heap.size) (by have:=hs5.size; omega) (fun y hy=>by omega));have hB5:Below w.heap.size w wz.drew:=hB4.drew;refine bodyPost_ret (v:= .tuple #[.agg #[.int .i64 t,.int .i64 a,.slice s1 (auA t a e).length c1,.slice u1 (auX t a e).length d1],.agg #[.int .i64 t,.int .i64 a,.slice s2 (auA t a f).length c2,.slice u2 (auX t a f).length d2],.int .i64 0]) (by simp [results,Tryz.results42,go_sem,t0,t1,t2,t3,ss0,ss1,ss2,ss3]) rfl ?_;have hk:∀y,w6.heap.size≤y→y<w10.heap.size→wz.drew.heap[y]? =w10.heap[y]? :=fun y hy1 hy2=>(hs6.block y (by have:=hs5.size; omega) (fun h=>by omega)).trans (hs5.block y hy2 (fun h=>by omega));exact ⟨_,_,by rw [HC.out],⟨_,_,_,_,_,_,_,_,rfl⟩,⟨_,_,_,_,_,_,_,_,rfl⟩,hB5,fun h=>⟨s1,c1,u1,d1,s2,c2,u2,d2,rfl,rfl,(Hf1.out.keep hk).rds,(Hf2.out.keep fun y hy1 hy2=>hk y (by omega) hy2).rds⟩⟩
end Go.Proofs.YtlchgfbkdjjngaaGreatDoor
