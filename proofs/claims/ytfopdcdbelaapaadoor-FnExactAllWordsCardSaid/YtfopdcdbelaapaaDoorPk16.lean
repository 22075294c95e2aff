/-
  Parts of a proof, joined: Mark, Turn3, SpTidy2, Bun, New6. No condition.
-/
import Derived.Test.YtfopdcdbelaapaaDoorPk14
namespace Go.Proofs.YtfopdcdbelaapaaDoor
set_option linter.unusedVariables false
set_option linter.unusedSimpArgs false
open Go.ChangeShapes Go.WideShapes Go.ChangeAt Go.RowKit Go.Deep
mutual
def D.marks:D→Nat
 | .int _=>1
 | .bool _=>1
 | .str _=>0
 | .raw _=>0
 | .sl _ _ cs=>D.marksL cs
def D.marksL:List D→Nat
 |[]=>0
 |c::cs=>D.marks c+D.marksL cs
end
mutual
def D.mark:D→Nat→D
 | .int _,k=> .int k
 | .bool _,k=> .bool ((k:Int).tmod 3==0)
 | .str s,_=> .str s
 | .raw u,_=> .raw u
 | .sl size n cs,k=> .sl size n (D.markL cs k)
def D.markL:List D→Nat→List D
 |[],_=>[]
 |c::cs,k=>D.mark c k::D.markL cs (k+D.marks c)
end
theorem marksL_append:∀a b:List D,D.marksL (a++b)=D.marksL a+D.marksL b
 |[],b=>by simp [D.marksL]
 |c::a,b=>by simp only [List.cons_append,D.marksL,marksL_append a b]; omega
theorem markL_append:∀(a b:List D) (k:Nat),D.markL (a++b) k=D.markL a k++D.markL b (k+D.marksL a)
 |[],b,k=>by simp [D.markL,D.marksL]
 |c::a,b,k=>by simp only [List.cons_append,D.markL,D.marksL,markL_append a b,Nat.add_assoc]
theorem markL_length:∀(a:List D) (k:Nat),(D.markL a k).length=a.length
 |[],_=>by simp [D.markL]
 |c::a,k=>by simp [D.markL,markL_length a]
theorem marks_step {cs:List D} {j:Nat} {c:D} (h:cs[j]? =some c):D.marksL (cs.take (j+1))=D.marksL (cs.take j)+c.marks:=by
 obtain ⟨hj,rfl⟩:=List.getElem?_eq_some_iff.1 h;rw [List.take_succ_eq_append_getElem hj,marksL_append]
 simp [D.marksL]
theorem markL_at {cs:List D} {j:Nat} {c:D} (h:cs[j]? =some c) (k:Nat):(D.markL cs k)[j]? =some (c.mark (k+D.marksL (cs.take j))):=by
 obtain ⟨hj,rfl⟩:=List.getElem?_eq_some_iff.1 h
 have e:D.markL cs k=D.markL (cs.take j) k++D.markL (cs.drop j) (k+D.marksL (cs.take j)):=by rw [←markL_append,List.take_append_drop]
 rw [e,List.getElem?_append_right (by rw [markL_length,List.length_take]; omega),markL_length,List.length_take,Nat.min_eq_left (by omega),Nat.sub_self,List.drop_eq_getElem_cons hj]
 simp [D.markL]
def mkd (cs:List D) (j k:Nat):List D:=D.markL (cs.take j) k++cs.drop j
theorem mkd_zero (cs:List D) (k:Nat):mkd cs 0 k=cs:=by simp [mkd,D.markL]
theorem mkd_all (cs:List D) (k:Nat):mkd cs cs.length k=D.markL cs k:=by simp [mkd]
theorem mkd_at {cs:List D} {i j:Nat} {c:D} (h:cs[i]? =some c) (hij:j≤i) (k:Nat):(mkd cs j k)[i]? =some c:=by
 obtain ⟨hj,rfl⟩:=List.getElem?_eq_some_iff.1 h;unfold mkd;rw [List.getElem?_append_right (by rw [markL_length,List.length_take]; omega),markL_length,List.length_take,Nat.min_eq_left (by omega),List.getElem?_drop];rw [show j+(i - j)=i by omega];exact h
theorem mkd_step {cs:List D} {j:Nat} {c:D} (h:cs[j]? =some c) (k:Nat):(mkd cs j k).set j (c.mark (k+D.marksL (cs.take j)))=mkd cs (j+1) k:=by
 obtain ⟨hj,rfl⟩:=List.getElem?_eq_some_iff.1 h;unfold mkd
 have e1:(D.markL (cs.take j) k).length=j:=by rw [markL_length,List.length_take]; omega
 rw [List.set_append_right _ _ (by omega),e1,Nat.sub_self,List.drop_eq_getElem_cons hj,List.set_cons_zero,List.take_succ_eq_append_getElem hj,markL_append]
 simp [D.markL]
theorem Ows.split {w:World}:∀{cs:List D} {xs:List Value} {F:List Nat},Ows w cs xs F→∀{j:Nat} {c:D},cs[j]? =some c→
  ∃x A G B,xs[j]? =some x∧F=A++(G++B)∧Ow w c x G∧
   (∀w' c' x' G',Ow w' c' x' G'→(∀b∈A++B,w'.heap[b]? =w.heap[b]?)→Ows w' (cs.set j c') (xs.set j x') (A++(G'++B)))
 |[],_,_,_,j,c,hj=>by simp at hj
 |c0::cs,_,_,h,j,c,hj=>by
  simp only [Ows] at h;obtain ⟨x,r,G,K,rfl,rfl,h1,h2⟩:=h
  cases j with
  |zero=>
   simp at hj;subst hj;refine ⟨x,[],G,K,by simp,by simp,h1,fun w' c' x' G' h' hk=> ?_⟩;simp only [List.set_cons_zero,Ows,List.nil_append];exact ⟨x',r,G',K,rfl,rfl,h',h2.keep fun b hb=>hk b (by simpa using hb)⟩
  |succ j=>
   obtain ⟨y,A,G1,B,e1,e2,e3,e4⟩:=Ows.split h2 (j:=j) (c:=c) (by simpa using hj);subst e2;refine ⟨y,G++A,G1,B,by simpa using e1,by simp,e3,fun w' c' x' G' h' hk=> ?_⟩
   have:=e4 w' c' x' G' h' (fun b hb=>hk b (by
    rcases List.mem_append.1 hb with hb|hb
    ·
     exact List.mem_append_left _ (List.mem_append_right _ hb)
    ·
     exact List.mem_append_right _ hb))
   simp only [List.set_cons_succ,Ows];exact ⟨x,_,G,A++(G'++B),rfl,by simp,h1.keep fun b hb=>hk b (by simp [hb]),this⟩
theorem Free.blk {w:World} {b:Nat} (h:Free w b):∃t cur,Blk w b t cur:=by
 obtain ⟨cur,t,h⟩:=h;exact ⟨t,cur.toList,by simpa [Blk] using h⟩
theorem Free.set {w:World} {b:Nat} (h:Free w b) (i:Nat) (v:Value):Free (w.setCell ⟨b,i,none⟩ v) b:=by
 obtain ⟨t,cur,h⟩:=h.blk;exact (h.set i v).free
theorem Row.set {w:World} {b o:Nat} {xs:List Value} (hf:Free w b) (h:Row w b o xs) (j:Nat) (v:Value):Row (w.setCell ⟨b,o+j,none⟩ v) b o (xs.set j v):=by
 obtain ⟨t,cur,hb⟩:=hf.blk;have hb':=hb.set (o+j) v;intro i hi;have h1:=h i (by simpa using hi);rw [hb.cell] at h1;rw [hb'.cell,List.getElem?_set,List.getElem?_set]
 by_cases hij:j=i
 ·
  subst hij
  have hlen:j<xs.length:=by simpa using hi
  have hcur:o+j<cur.length:=by
   by_cases hc:o+j<cur.length
   ·
    exact hc
   ·
    rw [List.getElem?_eq_none (by omega),List.getElem?_eq_getElem hlen] at h1
    cases h1
  simp [hlen,hcur]
 ·
  rw [if_neg (by omega),if_neg hij,h1]
theorem Ow.spot {w:World} {size n len cap:Nat} {cs:List D} {a:Option Addr} {F:List Nat} (h:Ow w (.sl size n cs) (.slice a len cap) F) (hn:0<n):∃b o,a=some ⟨b,o,none⟩:=by
 simp only [Ow] at h;obtain ⟨a',cap',h1,h2,h3,h4,h6,h5⟩:=h;simp only [Value.slice.injEq] at h1;obtain ⟨rfl,rfl,rfl⟩:=h1
 rcases h5 with h5|⟨b,o,xs,G,e1,_⟩
 ·
  omega
 ·
  exact ⟨b,o,e1⟩
theorem Ow.cell {w:World} {size n b o len cap:Nat} {cs:List D} {F:List Nat} (h:Ow w (.sl size n cs) (.slice (some ⟨b,o,none⟩) len cap) F) (hn:F.Nodup) {j:Nat} {c:D} (hj:cs[j]? =some c):
  ∃x G,w.cell? ⟨b,o+j,none⟩=some x∧w.frozen? ⟨b,o+j,none⟩=false∧b∈F∧b<w.heap.size∧b∉G∧(∀g∈G,g∈F)∧G.Nodup∧Ow w c x G∧
   (∀w' c',Ow w' c' x G→Only G w w'→Ow w' (.sl size n (cs.set j c')) (.slice (some ⟨b,o,none⟩) len cap) F)∧
   (G=[]→∀c' x',(∀w',Ow w' c' x' [])→Ow (w.setCell ⟨b,o+j,none⟩ x') (.sl size n (cs.set j c')) (.slice (some ⟨b,o,none⟩) len cap) F):=by
 simp only [Ow] at h;obtain ⟨a,cap',h1,h2,h3,h4,h6,h5⟩:=h;simp only [Value.slice.injEq] at h1;obtain ⟨rfl,rfl,rfl⟩:=h1
 rcases h5 with ⟨h0,_⟩|⟨b',o',xs,K,e1,rfl,hf,hrow,hows⟩
 ·
  have:=(List.getElem?_eq_some_iff.1 hj).1;rw [h4,h0] at this;omega
 simp only [Option.some.injEq,Addr.mk.injEq,and_true] at e1;obtain ⟨rfl,rfl⟩:=e1;obtain ⟨x,A,G,B,s1,s2,s3,s4⟩:=hows.split hj;subst s2;rw [List.nodup_cons] at hn;obtain ⟨hnb,hnd⟩:=hn;have hbl:=hf.lt
 have ndG:G.Nodup:=by
  rw [List.nodup_append,List.nodup_append] at hnd;exact hnd.2.1.1
 have dis:∀g∈A++B,g∉G:=by
  intro g hg hg';rw [List.nodup_append,List.nodup_append] at hnd
  rcases List.mem_append.1 hg with hg|hg
  ·
   exact hnd.2.2 g hg g (List.mem_append_left _ hg') rfl
  ·
   exact hnd.2.1.2.2 g hg' g hg rfl
 have hltAB:∀g∈A++B,g<w.heap.size:=fun g hg=>hows.lt g (by
  rcases List.mem_append.1 hg with hg|hg
  ·
   exact List.mem_append_left _ hg
  ·
   exact List.mem_append_right _ (List.mem_append_right _ hg))
 have hj':j<xs.length:=(List.getElem?_eq_some_iff.1 s1).1;refine ⟨x,G,(hrow j hj').trans s1,hf.frozen _,List.mem_cons_self .., hbl,fun hm=>hnb (List.mem_append_right _ (List.mem_append_left _ hm)),fun g hg=>List.mem_cons_of_mem _ (List.mem_append_right _ (List.mem_append_left _ hg)),ndG,s3, ?_, ?_⟩
 ·
  intro w' c' hc' honly;have hb':w'.heap[b]? =w.heap[b]? :=honly.block b hbl (fun hm=>hnb (List.mem_append_right _ (List.mem_append_left _ hm)));have hset:=s4 w' c' x G hc' (fun g hg=>honly.block g (hltAB g hg) (dis g hg))
  rw [show xs.set j x=xs by
   obtain ⟨hl,hx⟩:=List.getElem?_eq_some_iff.1 s1
   rw [←hx]; exact List.set_getElem_self hl] at hset
  obtain ⟨cur,t,hcur⟩:=hf;simp only [Ow];exact ⟨_,cap,rfl,h2,h3,by rw [List.length_set]; exact h4,h6,Or.inr ⟨b,o,xs,A++(G++B),rfl,rfl,⟨cur,t,hb'.trans hcur⟩,hrow.congr hb',hset⟩⟩
 ·
  intro hG c' x' hc';subst hG
  have hset:=s4 (w.setCell ⟨b,o+j,none⟩ x') c' x' [] (hc' _) (fun g hg=>Below.heap_setCell _ _ _ _ (fun e=>hnb (by
   have e':g=b:=e;rw [←e']
   rcases List.mem_append.1 hg with hg|hg
   ·
    exact List.mem_append_left _ hg
   ·
    exact List.mem_append_right _ (List.mem_append_right _ hg))))
  simp only [Ow];exact ⟨_,cap,rfl,h2,h3,by rw [List.length_set]; exact h4,h6,Or.inr ⟨b,o,_,_,rfl,rfl,hf.set _ _,hrow.set hf j x',hset⟩⟩
theorem Ow.int_cell {w:World} {size n b o len cap:Nat} {cs:List D} {F:List Nat} (h:Ow w (.sl size n cs) (.slice (some ⟨b,o,none⟩) len cap) F) (hn:F.Nodup) {j:Nat} {z:Int} (hj:cs[j]? =some (.int z)):
  w.cell? ⟨b,o+j,none⟩=some (.int .i64 z)∧w.frozen? ⟨b,o+j,none⟩=false∧b<w.heap.size∧
   (∀z':Int,Ow (w.setCell ⟨b,o+j,none⟩ (.int .i64 z')) (.sl size n (cs.set j (.int z'))) (.slice (some ⟨b,o,none⟩) len cap) F∧Only F w (w.setCell ⟨b,o+j,none⟩ (.int .i64 z'))):=by
 obtain ⟨x,G,h1,h2,h3,h4,h5,h6,h7,h8,h9,h10⟩:=h.cell hn hj;simp only [Ow] at h8;obtain ⟨rfl,rfl⟩:=h8;exact ⟨h1,h2,h4,fun z'=>⟨h10 rfl _ _ (fun _=>Ow.int _),(Only.refl F w).setCell h3 _⟩⟩
theorem Ow.sl_cell {w:World} {size n b o len cap:Nat} {cs:List D} {F:List Nat} (h:Ow w (.sl size n cs) (.slice (some ⟨b,o,none⟩) len cap) F) (hn:F.Nodup) {j size' n':Nat} {ds:List D} (hj:cs[j]? =some (.sl size' n' ds)):
  ∃a c G,w.cell? ⟨b,o+j,none⟩=some (.slice a n' c)∧w.frozen? ⟨b,o+j,none⟩=false∧b<w.heap.size∧b∉G∧(∀g∈G,g∈F)∧G.Nodup∧Ow w (.sl size' n' ds) (.slice a n' c) G∧
   (∀w' ds',Ow w' (.sl size' n' ds') (.slice a n' c) G→Only G w w'→Ow w' (.sl size n (cs.set j (.sl size' n' ds'))) (.slice (some ⟨b,o,none⟩) len cap) F∧Only F w w'):=by
 obtain ⟨x,G,h1,h2,h3,h4,h5,h6,h7,h8,h9,h10⟩:=h.cell hn hj;have h8':=h8;simp only [Ow] at h8';obtain ⟨a,c,rfl,_⟩:=h8';exact ⟨a,c,G,h1,h2,h4,h5,h6,h7,h8,fun w' ds' k1 k2=>⟨h9 w' _ k1 k2,k2.more h6⟩⟩
end Go.Proofs.YtfopdcdbelaapaaDoor
namespace Go.Proofs.YtfopdcdbelaapaaDoor
set_option linter.unusedVariables false
set_option linter.unusedSimpArgs false
open Go.ChangeShapes Go.WideShapes Go.ChangeAt Go.RowKit Go.Deep Go.Sort
def Ex.zero:Ex:= .mk 0 0 []
theorem fresh_nil1 (w w':World):Freshs w w' [kidsD []] [.slice none 0 0]:=
 Freshs.one ⟨[],by simp only [kidsD,Ow]; exact ⟨none,0,rfl,by simp,by simp [maxLen],by simp [Ex.cellsL],by simp,Or.inl (by simp)⟩,by simp,by simp⟩
set_option maxRecDepth 100000 in
set_option maxHeartbeats 8000000 in
theorem l02Tidy_all (tm am:Int) (ht:tm≤8) (ha:am≤8) (N:Nat):∀(e:Ex) (b o:Nat) (w:World),e.size≤N→ExAt w b o e→e.tree tm am=true→e.size≤90000→
  Calls Tryd.prog 13 #[.pointer (some ⟨b,o,none⟩)] w (OutE w e.tidy):=by
 induction N using Nat.strongRecOn with
 |_ N ih=>
 intro e b o w hN hx hxt hsz1;have HIH:=Lib.hid ih;clear ih;have hlt:=hx.lt;obtain ⟨k,n,ks⟩:=e;obtain ⟨hk, -, -, htl⟩:=tree_parts hxt
 by_cases h6:k=6
 ·
  subst h6;obtain ⟨u,v,rfl⟩:=two_kids hk (by omega);have hsz:=Ex.size_eq (.mk 6 n [u,v]);simp only [Ex.sizeL,Ex.kids_mk] at hsz
  have E1:Hid ((Ex.mk 6 n [u,v]).tidy=sumT u.tidy v.tidy):=by show _=_; exact Ex.tidy_sum
  have hut:u.tree tm am=true:=Ex.treeL_mem htl (by simp);have hvt:v.tree tm am=true:=Ex.treeL_mem htl (by simp);obtain ⟨hu1,hu2⟩:=tidy_spec tm am _ u (Nat.le_refl _) hut;obtain ⟨hv1,hv2⟩:=tidy_spec tm am _ v (Nat.le_refl _) hvt;clear htl hk;obtain ⟨g0,g1,sx,cx,g2,g3⟩:=id hx;simp only [Ex.kind_mk,Ex.num_mk,Ex.kids_mk] at g0 g1 g2;obtain ⟨kb,ko,rfl⟩:=kid_some g3 (by simp [Ex.kids])
  have hu:ExAt w kb ko u:=by have:=kid_exAt g3 (i:=0) (e:=u) rfl; simpa using this
  obtain ⟨-, hlen,hcap, -, -⟩:=kid_at g3;unfold maxLen at hcap;simp only [Ex.kids_mk,List.length_cons,List.length_nil,Nat.zero_add,Nat.reduceAdd] at g2 hlen hcap;have Hg0:=Lib.hid g0;have Hg2:=Lib.hid g2
  have hv:ExAt w kb (ko+3) v:=by have:=kid_exAt g3 (i:=1) (e:=v) rfl; simpa using this
  go_enter Tryd.func13,Tryd.ntmps13
  go_wp2_with fail;have R:=Blk.new3 w 26 (.int .i64 0) (.int .i64 0) (.slice none 0 0)
  have hB:Below w.heap.size w (w.alloc (.cells #[.int .i64 0, .int .i64 0, .slice none 0 0] 26)):=by (repeat' first|exact Below.refl _ _|assumption|apply Below.alloc|apply Below.drew|apply Below.setCell|omega|(simp; done)|(simp; omega))
  have hz0:(w.alloc (.cells #[.int .i64 0, .int .i64 0, .slice none 0 0] 26)).heap.size=w.heap.size+1:=by simp
  generalize w.alloc (.cells #[.int .i64 0, .int .i64 0, .slice none 0 0] 26)=w1 at R hB hz0 ⊢;have hx1:=hx.below hB;clear g0 g1 g2;refine (HIH.out u.size (by omega) u _ _ _ (Nat.le_refl _) (hu.below hB) hut (by omega)).mono ?_;rintro f w2 ⟨s2,c2,rfl,hf2,hb2⟩;have hz2:=hb2.size;have g2q:=(hb2.cell (p:=⟨b,o+2,none⟩) (by have:=hx1.lt; omega)).trans ((hB.cell (p:=⟨b,o+2,none⟩) hlt).trans Hg2.out)
  have hlt2:b<w2.heap.size:=by have:=hx1.lt; omega
  go_wp2_with fail;clear g2q;have U:=Blk.new3 w2 26 (.int .i64 u.tidy.kind) (.int .i64 u.tidy.num) (.slice s2 u.tidy.kids.length c2);have hb3:Below w1.heap.size w1 (w2.alloc (.cells #[.int .i64 u.tidy.kind, .int .i64 u.tidy.num, .slice s2 u.tidy.kids.length c2] 26)):=hb2.alloc hz2 _;have hd2:=(Rds.one hf2.rds).alloc (.cells #[.int .i64 u.tidy.kind, .int .i64 u.tidy.num, .slice s2 u.tidy.kids.length c2] 26);generalize w2.alloc (.cells #[.int .i64 u.tidy.kind, .int .i64 u.tidy.num, .slice s2 u.tidy.kids.length c2] 26)=w3 at U hb3 hd2 ⊢;have hua:ExAt w3 w2.heap.size 0 u.tidy:=⟨U.c0,U.c1,s2,c2,U.c2,hd2⟩;have hz3:=hb3.size;refine (HIH.out v.size (by omega) v _ _ _ (Nat.le_refl _) ((hv.below hB).below hb3) hvt (by omega)).mono ?_;rintro f w4 ⟨s4,c4,rfl,hf4,hb4⟩;have hz4:=hb4.size;have hb14:=hb3.trans (hb4.mono hz3);have g0q:=(hb14.cell (p:=⟨b,o,none⟩) (by have:=hx1.lt; omega)).trans ((hB.cell (p:=⟨b,o,none⟩) hlt).trans Hg0.out)
  have hlt4:b<w4.heap.size:=by have:=hx1.lt; omega
  go_wp2_with fail;clear g0q;have V:=Blk.new3 w4 26 (.int .i64 v.tidy.kind) (.int .i64 v.tidy.num) (.slice s4 v.tidy.kids.length c4);have hb5:Below w1.heap.size w1 (w4.alloc (.cells #[.int .i64 v.tidy.kind, .int .i64 v.tidy.num, .slice s4 v.tidy.kids.length c4] 26)):=hb14.alloc (by omega) _;have hd4:=(Rds.one hf4.rds).alloc (.cells #[.int .i64 v.tidy.kind, .int .i64 v.tidy.num, .slice s4 v.tidy.kids.length c4] 26);have hua5:=(hua.below hb4).below (Below.alloc (Below.refl w4.heap.size w4) (Nat.le_refl _) (.cells #[.int .i64 v.tidy.kind, .int .i64 v.tidy.num, .slice s4 v.tidy.kids.length c4] 26));generalize w4.alloc (.cells #[.int .i64 v.tidy.kind, .int .i64 v.tidy.num, .slice s4 v.tidy.kids.length c4] 26)=v5 at V hb5 hd4 hua5 ⊢;have hva:ExAt v5 w4.heap.size 0 v.tidy:=⟨V.c0,V.c1,s4,c4,V.c2,hd4⟩;refine (l02Sum_i ht ha hua5 hva hu1 hv1 (by omega)).mono ?_;rintro f v6 ⟨s6,c6,rfl,hf6,hb6⟩;have hz5:=hb5.size;replace hB:=Below.on hB (hb5.trans (hb6.mono hz5)) hB.size;replace R:=R.below (hb5.trans (hb6.mono hz5));have hz6:=hb6.size
  -- the function's end:R the result's box,hB; h3:Freshs W V .. (W below V),E1:Hid (result=(sumT u.tidy v.tidy))
  -- the result box w.heap.size of world v6 is set to an expression; goal:bodyPost. R:the box; Rests:hs5:Spares,T2
  have r0:=R.c0;have r1:=R.c1;have r2:=R.c2;have z0:=R.frozen 0;have z1:=R.frozen 1;have z2:=R.frozen 2;have ltR:=R.lt;go_wp2_with fail;have T2:=((R.set 0 (.int .i64 (sumT u.tidy v.tidy).kind)).set 1 (.int .i64 (sumT u.tidy v.tidy).num)).set 2 (.slice s6 (sumT u.tidy v.tidy).kids.length c6);have hs5:Spares (fun y=>y=w.heap.size) v6 (((v6.setCell ⟨w.heap.size,0,none⟩ (.int .i64 (sumT u.tidy v.tidy).kind)).setCell ⟨w.heap.size,1,none⟩ (.int .i64 (sumT u.tidy v.tidy).num)).setCell ⟨w.heap.size,2,none⟩ (.slice s6 (sumT u.tidy v.tidy).kids.length c6)):=Spares.set (Spares.set (Spares.set (Spares.refl v6)));generalize (((v6.setCell ⟨w.heap.size,0,none⟩ (.int .i64 (sumT u.tidy v.tidy).kind)).setCell ⟨w.heap.size,1,none⟩ (.int .i64 (sumT u.tidy v.tidy).num)).setCell ⟨w.heap.size,2,none⟩ (.slice s6 (sumT u.tidy v.tidy).kids.length c6))=w5 at T2 hs5 ⊢;have t0:=T2.c0;have t1:=T2.c1;have t2:=T2.c2;have hzB5:=hB.size;have hB5:=hB.trans (hs5.below (B:=w.heap.size) (by omega) (fun y hy=>by omega));refine bodyPost_ret (v:= .agg #[.int .i64 (sumT u.tidy v.tidy).kind, .int .i64 (sumT u.tidy v.tidy).num, .slice s6 (sumT u.tidy v.tidy).kids.length c6]) (by simp [results,Tryd.results13,go_sem,t0,t1,t2]) rfl ?_;rw [E1.out];exact ⟨_,_,rfl,Freshs.from (Freshs.keep hf6 (fun y _ hy2=>hs5.block y hy2 (by omega))) (by omega),hB5⟩
 have c6:(k==6)=false:=by simp [h6]
 by_cases h7:k=7
 ·
  subst h7;obtain ⟨u,v,rfl⟩:=two_kids hk (by omega);have hsz:=Ex.size_eq (.mk 7 n [u,v]);simp only [Ex.sizeL,Ex.kids_mk] at hsz
  have E1:Hid ((Ex.mk 7 n [u,v]).tidy=Ex.dot u.tidy v.tidy):=by show _=_; exact Ex.tidy_dot
  have hut:u.tree tm am=true:=Ex.treeL_mem htl (by simp);have hvt:v.tree tm am=true:=Ex.treeL_mem htl (by simp);obtain ⟨hu1,hu2⟩:=tidy_spec tm am _ u (Nat.le_refl _) hut;obtain ⟨hv1,hv2⟩:=tidy_spec tm am _ v (Nat.le_refl _) hvt;clear htl hk;obtain ⟨g0,g1,sx,cx,g2,g3⟩:=id hx;simp only [Ex.kind_mk,Ex.num_mk,Ex.kids_mk] at g0 g1 g2;obtain ⟨kb,ko,rfl⟩:=kid_some g3 (by simp [Ex.kids])
  have hu:ExAt w kb ko u:=by have:=kid_exAt g3 (i:=0) (e:=u) rfl; simpa using this
  obtain ⟨-, hlen,hcap, -, -⟩:=kid_at g3;unfold maxLen at hcap;simp only [Ex.kids_mk,List.length_cons,List.length_nil,Nat.zero_add,Nat.reduceAdd] at g2 hlen hcap;have Hg0:=Lib.hid g0;have Hg2:=Lib.hid g2
  have hv:ExAt w kb (ko+3) v:=by have:=kid_exAt g3 (i:=1) (e:=v) rfl; simpa using this
  go_enter Tryd.func13,Tryd.ntmps13
  go_wp2_with fail;have R:=Blk.new3 w 26 (.int .i64 0) (.int .i64 0) (.slice none 0 0)
  have hB:Below w.heap.size w (w.alloc (.cells #[.int .i64 0, .int .i64 0, .slice none 0 0] 26)):=by (repeat' first|exact Below.refl _ _|assumption|apply Below.alloc|apply Below.drew|apply Below.setCell|omega|(simp; done)|(simp; omega))
  have hz0:(w.alloc (.cells #[.int .i64 0, .int .i64 0, .slice none 0 0] 26)).heap.size=w.heap.size+1:=by simp
  generalize w.alloc (.cells #[.int .i64 0, .int .i64 0, .slice none 0 0] 26)=w1 at R hB hz0 ⊢;have hx1:=hx.below hB;clear g0 g1 g2;refine (HIH.out u.size (by omega) u _ _ _ (Nat.le_refl _) (hu.below hB) hut (by omega)).mono ?_;rintro f w2 ⟨s2,c2,rfl,hf2,hb2⟩;have hz2:=hb2.size;have g2q:=(hb2.cell (p:=⟨b,o+2,none⟩) (by have:=hx1.lt; omega)).trans ((hB.cell (p:=⟨b,o+2,none⟩) hlt).trans Hg2.out)
  have hlt2:b<w2.heap.size:=by have:=hx1.lt; omega
  go_wp2_with fail;clear g2q;have U:=Blk.new3 w2 26 (.int .i64 u.tidy.kind) (.int .i64 u.tidy.num) (.slice s2 u.tidy.kids.length c2);have hb3:Below w1.heap.size w1 (w2.alloc (.cells #[.int .i64 u.tidy.kind, .int .i64 u.tidy.num, .slice s2 u.tidy.kids.length c2] 26)):=hb2.alloc hz2 _;have hd2:=(Rds.one hf2.rds).alloc (.cells #[.int .i64 u.tidy.kind, .int .i64 u.tidy.num, .slice s2 u.tidy.kids.length c2] 26);generalize w2.alloc (.cells #[.int .i64 u.tidy.kind, .int .i64 u.tidy.num, .slice s2 u.tidy.kids.length c2] 26)=w3 at U hb3 hd2 ⊢;have hua:ExAt w3 w2.heap.size 0 u.tidy:=⟨U.c0,U.c1,s2,c2,U.c2,hd2⟩;have hz3:=hb3.size;refine (HIH.out v.size (by omega) v _ _ _ (Nat.le_refl _) ((hv.below hB).below hb3) hvt (by omega)).mono ?_;rintro f w4 ⟨s4,c4,rfl,hf4,hb4⟩;have hz4:=hb4.size;have hb14:=hb3.trans (hb4.mono hz3);have g0q:=(hb14.cell (p:=⟨b,o,none⟩) (by have:=hx1.lt; omega)).trans ((hB.cell (p:=⟨b,o,none⟩) hlt).trans Hg0.out)
  have hlt4:b<w4.heap.size:=by have:=hx1.lt; omega
  go_wp2_with fail;clear g0q;have V:=Blk.new3 w4 26 (.int .i64 v.tidy.kind) (.int .i64 v.tidy.num) (.slice s4 v.tidy.kids.length c4);have hb5:Below w1.heap.size w1 (w4.alloc (.cells #[.int .i64 v.tidy.kind, .int .i64 v.tidy.num, .slice s4 v.tidy.kids.length c4] 26)):=hb14.alloc (by omega) _;have hd4:=(Rds.one hf4.rds).alloc (.cells #[.int .i64 v.tidy.kind, .int .i64 v.tidy.num, .slice s4 v.tidy.kids.length c4] 26);have hua5:=(hua.below hb4).below (Below.alloc (Below.refl w4.heap.size w4) (Nat.le_refl _) (.cells #[.int .i64 v.tidy.kind, .int .i64 v.tidy.num, .slice s4 v.tidy.kids.length c4] 26));generalize w4.alloc (.cells #[.int .i64 v.tidy.kind, .int .i64 v.tidy.num, .slice s4 v.tidy.kids.length c4] 26)=v5 at V hb5 hd4 hua5 ⊢;have hva:ExAt v5 w4.heap.size 0 v.tidy:=⟨V.c0,V.c1,s4,c4,V.c2,hd4⟩;refine (l02Dot_all tm am _ _ _ _ _ _ _ _ (Nat.le_refl _) hua5 hva hu1 hv1 (by omega)).mono ?_;rintro f v6 ⟨s6,c6,rfl,hf6,hb6⟩;have hz5:=hb5.size;replace hB:=Below.on hB (hb5.trans (hb6.mono hz5)) hB.size;replace R:=R.below (hb5.trans (hb6.mono hz5));have hz6:=hb6.size
  -- the function's end:R the result's box,hB; h3:Freshs W V .. (W below V),E1:Hid (result=(Ex.dot u.tidy v.tidy))
  -- the result box w.heap.size of world v6 is set to an expression; goal:bodyPost. R:the box; Rests:hs5:Spares,T2
  have r0:=R.c0;have r1:=R.c1;have r2:=R.c2;have z0:=R.frozen 0;have z1:=R.frozen 1;have z2:=R.frozen 2;have ltR:=R.lt;go_wp2_with fail;have T2:=((R.set 0 (.int .i64 (Ex.dot u.tidy v.tidy).kind)).set 1 (.int .i64 (Ex.dot u.tidy v.tidy).num)).set 2 (.slice s6 (Ex.dot u.tidy v.tidy).kids.length c6);have hs5:Spares (fun y=>y=w.heap.size) v6 (((v6.setCell ⟨w.heap.size,0,none⟩ (.int .i64 (Ex.dot u.tidy v.tidy).kind)).setCell ⟨w.heap.size,1,none⟩ (.int .i64 (Ex.dot u.tidy v.tidy).num)).setCell ⟨w.heap.size,2,none⟩ (.slice s6 (Ex.dot u.tidy v.tidy).kids.length c6)):=Spares.set (Spares.set (Spares.set (Spares.refl v6)));generalize (((v6.setCell ⟨w.heap.size,0,none⟩ (.int .i64 (Ex.dot u.tidy v.tidy).kind)).setCell ⟨w.heap.size,1,none⟩ (.int .i64 (Ex.dot u.tidy v.tidy).num)).setCell ⟨w.heap.size,2,none⟩ (.slice s6 (Ex.dot u.tidy v.tidy).kids.length c6))=w5 at T2 hs5 ⊢;have t0:=T2.c0;have t1:=T2.c1;have t2:=T2.c2;have hzB5:=hB.size;have hB5:=hB.trans (hs5.below (B:=w.heap.size) (by omega) (fun y hy=>by omega));refine bodyPost_ret (v:= .agg #[.int .i64 (Ex.dot u.tidy v.tidy).kind, .int .i64 (Ex.dot u.tidy v.tidy).num, .slice s6 (Ex.dot u.tidy v.tidy).kids.length c6]) (by simp [results,Tryd.results13,go_sem,t0,t1,t2]) rfl ?_;rw [E1.out];exact ⟨_,_,rfl,Freshs.from (Freshs.keep hf6 (fun y _ hy2=>hs5.block y hy2 (by omega))) (by omega),hB5⟩
 have c7:(k==7)=false:=by simp [h7]
 by_cases h8:k=8
 ·
  subst h8;obtain ⟨u,rfl⟩:=one_kid hk (by omega);have hsz:=Ex.size_eq (.mk 8 n [u]);simp only [Ex.sizeL,Ex.kids_mk] at hsz
  have E1:Hid ((Ex.mk 8 n [u]).tidy=u.tidy.star):=by show _=_; exact Ex.tidy_star
  have hut:u.tree tm am=true:=Ex.treeL_mem htl (by simp);obtain ⟨hu1,hu2⟩:=tidy_spec tm am _ u (Nat.le_refl _) hut;clear htl hk;obtain ⟨g0,g1,sx,cx,g2,g3⟩:=id hx;simp only [Ex.kind_mk,Ex.num_mk,Ex.kids_mk] at g0 g1 g2;obtain ⟨kb,ko,rfl⟩:=kid_some g3 (by simp [Ex.kids])
  have hu:ExAt w kb ko u:=by have:=kid_exAt g3 (i:=0) (e:=u) rfl; simpa using this
  obtain ⟨-, hlen,hcap, -, -⟩:=kid_at g3;unfold maxLen at hcap;simp only [Ex.kids_mk,List.length_cons,List.length_nil,Nat.zero_add,Nat.reduceAdd] at g2 hlen hcap;have Hg0:=Lib.hid g0;have Hg2:=Lib.hid g2
  go_enter Tryd.func13,Tryd.ntmps13
  go_wp2_with fail;have R:=Blk.new3 w 26 (.int .i64 0) (.int .i64 0) (.slice none 0 0)
  have hB:Below w.heap.size w (w.alloc (.cells #[.int .i64 0, .int .i64 0, .slice none 0 0] 26)):=by (repeat' first|exact Below.refl _ _|assumption|apply Below.alloc|apply Below.drew|apply Below.setCell|omega|(simp; done)|(simp; omega))
  have hz0:(w.alloc (.cells #[.int .i64 0, .int .i64 0, .slice none 0 0] 26)).heap.size=w.heap.size+1:=by simp
  generalize w.alloc (.cells #[.int .i64 0, .int .i64 0, .slice none 0 0] 26)=w1 at R hB hz0 ⊢;have hx1:=hx.below hB;clear g0 g1 g2;refine (HIH.out u.size (by omega) u _ _ _ (Nat.le_refl _) (hu.below hB) hut (by omega)).mono ?_;rintro f w2 ⟨s2,c2,rfl,hf2,hb2⟩;have hz2:=hb2.size;go_wp2_with fail;have U:=Blk.new3 w2 26 (.int .i64 u.tidy.kind) (.int .i64 u.tidy.num) (.slice s2 u.tidy.kids.length c2);have hb3:Below w1.heap.size w1 (w2.alloc (.cells #[.int .i64 u.tidy.kind, .int .i64 u.tidy.num, .slice s2 u.tidy.kids.length c2] 26)):=hb2.alloc hz2 _;have hd2:=(Rds.one hf2.rds).alloc (.cells #[.int .i64 u.tidy.kind, .int .i64 u.tidy.num, .slice s2 u.tidy.kids.length c2] 26);generalize w2.alloc (.cells #[.int .i64 u.tidy.kind, .int .i64 u.tidy.num, .slice s2 u.tidy.kids.length c2] 26)=w3 at U hb3 hd2 ⊢;have hua:ExAt w3 w2.heap.size 0 u.tidy:=⟨U.c0,U.c1,s2,c2,U.c2,hd2⟩;have hz3:=hb3.size;refine (l02Star_i hua (by omega)).mono ?_;rintro f w4 ⟨s4,c4,rfl,hf4,hb4⟩;replace hB:=Below.on hB (hb3.trans (hb4.mono hz3)) hB.size;replace R:=R.below (hb3.trans (hb4.mono hz3));have hz4:=hb4.size
  -- the function's end:R the result's box,hB; h3:Freshs W V .. (W below V),E1:Hid (result=u.tidy.star)
  -- the result box w.heap.size of world w4 is set to an expression; goal:bodyPost. R:the box; Rests:hs5:Spares,T2
  have r0:=R.c0;have r1:=R.c1;have r2:=R.c2;have z0:=R.frozen 0;have z1:=R.frozen 1;have z2:=R.frozen 2;have ltR:=R.lt;go_wp2_with fail;have T2:=((R.set 0 (.int .i64 u.tidy.star.kind)).set 1 (.int .i64 u.tidy.star.num)).set 2 (.slice s4 u.tidy.star.kids.length c4);have hs5:Spares (fun y=>y=w.heap.size) w4 (((w4.setCell ⟨w.heap.size,0,none⟩ (.int .i64 u.tidy.star.kind)).setCell ⟨w.heap.size,1,none⟩ (.int .i64 u.tidy.star.num)).setCell ⟨w.heap.size,2,none⟩ (.slice s4 u.tidy.star.kids.length c4)):=Spares.set (Spares.set (Spares.set (Spares.refl w4)));generalize (((w4.setCell ⟨w.heap.size,0,none⟩ (.int .i64 u.tidy.star.kind)).setCell ⟨w.heap.size,1,none⟩ (.int .i64 u.tidy.star.num)).setCell ⟨w.heap.size,2,none⟩ (.slice s4 u.tidy.star.kids.length c4))=w5 at T2 hs5 ⊢;have t0:=T2.c0;have t1:=T2.c1;have t2:=T2.c2;have hzB5:=hB.size;have hB5:=hB.trans (hs5.below (B:=w.heap.size) (by omega) (fun y hy=>by omega));refine bodyPost_ret (v:= .agg #[.int .i64 u.tidy.star.kind, .int .i64 u.tidy.star.num, .slice s4 u.tidy.star.kids.length c4]) (by simp [results,Tryd.results13,go_sem,t0,t1,t2]) rfl ?_;rw [E1.out];exact ⟨_,_,rfl,Freshs.from (Freshs.keep hf4 (fun y _ hy2=>hs5.block y hy2 (by omega))) (by omega),hB5⟩
 have c8:(k==8)=false:=by simp [h8]
 have E1:Hid ((Ex.mk k n ks).tidy= .mk k n ks):=by show _=_; exact Ex.tidy_else h6 h7 h8
 clear htl hk h6 h7 h8;obtain ⟨g0,g1,sx,cx,g2,g3⟩:=id hx;simp only [Ex.kind_mk,Ex.num_mk,Ex.kids_mk] at g0 g1 g2
 skip
 go_enter Tryd.func13,Tryd.ntmps13
 go_wp2_with fail;have R:=Blk.new3 w 26 (.int .i64 0) (.int .i64 0) (.slice none 0 0)
 have hB:Below w.heap.size w (w.alloc (.cells #[.int .i64 0, .int .i64 0, .slice none 0 0] 26)):=by (repeat' first|exact Below.refl _ _|assumption|apply Below.alloc|apply Below.drew|apply Below.setCell|omega|(simp; done)|(simp; omega))
 have hz0:(w.alloc (.cells #[.int .i64 0, .int .i64 0, .slice none 0 0] 26)).heap.size=w.heap.size+1:=by simp
 generalize w.alloc (.cells #[.int .i64 0, .int .i64 0, .slice none 0 0] 26)=w1 at R hB hz0 ⊢;have hx1:=hx.below hB;clear g0 g1 g2;refine (l01Own_e hx1 (by omega)).mono ?_;rintro f w3 ⟨s3,c3,rfl,hf,hb⟩;replace hB:=Below.on hB hb hB.size;replace R:=R.below hb;have hz3:=hb.size
 -- the function's end:R the result's box,hB; h3:Freshs W V .. (W below V),E1:Hid (result=(Ex.mk k n ks))
 -- the result box w.heap.size of world w3 is set to an expression; goal:bodyPost. R:the box; Rests:hs5:Spares,T2
 have r0:=R.c0;have r1:=R.c1;have r2:=R.c2;have z0:=R.frozen 0;have z1:=R.frozen 1;have z2:=R.frozen 2;have ltR:=R.lt;go_wp2_with fail;have T2:=((R.set 0 (.int .i64 (Ex.mk k n ks).kind)).set 1 (.int .i64 (Ex.mk k n ks).num)).set 2 (.slice s3 (Ex.mk k n ks).kids.length c3);have hs5:Spares (fun y=>y=w.heap.size) w3 (((w3.setCell ⟨w.heap.size,0,none⟩ (.int .i64 (Ex.mk k n ks).kind)).setCell ⟨w.heap.size,1,none⟩ (.int .i64 (Ex.mk k n ks).num)).setCell ⟨w.heap.size,2,none⟩ (.slice s3 (Ex.mk k n ks).kids.length c3)):=Spares.set (Spares.set (Spares.set (Spares.refl w3)));generalize (((w3.setCell ⟨w.heap.size,0,none⟩ (.int .i64 (Ex.mk k n ks).kind)).setCell ⟨w.heap.size,1,none⟩ (.int .i64 (Ex.mk k n ks).num)).setCell ⟨w.heap.size,2,none⟩ (.slice s3 (Ex.mk k n ks).kids.length c3))=w5 at T2 hs5 ⊢;have t0:=T2.c0;have t1:=T2.c1;have t2:=T2.c2;have hzB5:=hB.size;have hB5:=hB.trans (hs5.below (B:=w.heap.size) (by omega) (fun y hy=>by omega));refine bodyPost_ret (v:= .agg #[.int .i64 (Ex.mk k n ks).kind, .int .i64 (Ex.mk k n ks).num, .slice s3 (Ex.mk k n ks).kids.length c3]) (by simp [results,Tryd.results13,go_sem,t0,t1,t2]) rfl ?_;rw [E1.out];exact ⟨_,_,rfl,Freshs.from (Freshs.keep hf (fun y _ hy2=>hs5.block y hy2 (by omega))) (by omega),hB5⟩
end Go.Proofs.YtfopdcdbelaapaaDoor
namespace Go.Proofs.YtfopdcdbelaapaaDoor
set_option linter.unusedVariables false
set_option linter.unusedSimpArgs false
open Go.ChangeShapes Go.WideShapes Go.ChangeAt Go.RowKit Go.Deep
inductive Item where
 |app (t:TypeId) (size n:Nat) (ds:List D) (v:Value)
 |box (g t:Nat) (cur:List Value)
 |one (g:Nat) (P:World→Prop)
 |own (ds:List D) (vs:List Value)
 |pool (w0:World) (E:List (D × Value))
 |gone
def Item.on (S:Nat→Prop) (w:World):Item→Prop
 | .app t size n ds v=>AppS S w t size n ds v
 | .box g t cur=>S g∧Blk w g t cur
 | .one g P=>S g∧g<w.heap.size∧∀w',w'.heap[g]? =w.heap[g]? →P w'
 | .own ds vs=>OwS S w ds vs
 | .pool w0 E=>∀w',w.heap.size≤w'.heap.size→(∀b,b<w0.heap.size→w'.heap[b]? =w0.heap[b]?)→(∀b,b<w.heap.size→S b→w'.heap[b]? =w.heap[b]?)→∀x∈E,Rd w' x.1 x.2
 | .gone=>True
theorem Item.keep {S:Nat→Prop} {w w':World} (hz:w.heap.size≤w'.heap.size):∀{it:Item},it.on S w→(∀b,b<w.heap.size→S b→w'.heap[b]? =w.heap[b]?)→it.on S w'
 | .app .., h,hk=>AppS.keep h hk
 | .box .., h,hk=>⟨h.1,h.2.keep (hk _ h.2.lt h.1)⟩
 | .one g P,h,hk=>by
  have e:=hk g h.2.1 h.1;refine ⟨h.1, ?_,fun w1 h1=>h.2.2 w1 (h1.trans e)⟩
  have hs:(w.heap[g]?).isSome=true:=by simp [h.2.1]
  rw [←e] at hs
  simpa using hs
 | .own .., h,hk=>OwS.keep h hk
 | .pool .., h,hk=>fun w2 h1 h2 h3=>h w2 (Nat.le_trans hz h1) h2 fun b hb hs=>(h3 b (Nat.lt_of_lt_of_le hb hz) hs).trans (hk b hb hs)
 | .gone,_,_=>trivial
theorem Item.more {S T:Nat→Prop} {w:World}:∀{it:Item},it.on S w→(∀b,b<w.heap.size→S b→T b)→it.on T w
 | .app .., h,hs=>AppS.more h hs
 | .box .., h,hs=>⟨hs _ h.2.lt h.1,h.2⟩
 | .one .., h,hs=>⟨hs _ h.2.1 h.1,h.2⟩
 | .own .., h,hs=>OwS.more h hs
 | .pool .., h,hs=>fun w2 h1 h2 h3=>h w2 h1 h2 fun b hb hS=>h3 b hb (hs b hb hS)
 | .gone,_,_=>trivial
def Bun (B:Nat) (w:World) (items:List Item):Prop:=∃own:Nat→Nat,∀(i:Nat) (it:Item),items[i]? =some it→it.on (fun b=>B≤b∧b<w.heap.size∧own b=i) w
theorem bun_turn {B:Nat} {w w':World} {items:List Item} {own:Nat→Nat} (h:∀(i:Nat) (it:Item),items[i]? =some it→it.on (fun b=>B≤b∧b<w.heap.size∧own b=i) w) (hz:w.heap.size≤w'.heap.size) (k j:Nat) {it':Item}
  (ho:∀b,b<w.heap.size→own b≠k→own b≠j→w'.heap[b]? =w.heap[b]?) (hn:it'.on (fun b=>B≤b∧b<w'.heap.size∧(w.heap.size≤b∨own b=k∨own b=j)) w'):
  Bun B w' ((items.set j .gone).set k it'):=by
 refine ⟨fun b=>if w.heap.size≤b∨own b=j then k else own b,fun i it hi=> ?_⟩
 by_cases hik:k=i
 ·
  subst hik
  have hl:k<(items.set j .gone).length:=by have:=(List.getElem?_eq_some_iff.1 hi).1; simpa using this
  rw [List.getElem?_set_self hl] at hi;obtain rfl:=Option.some.inj hi;refine Item.more hn fun b _ hb=>⟨hb.1,hb.2.1, ?_⟩
  by_cases hc:w.heap.size≤b∨own b=j
  ·
   dsimp only; rw [if_pos hc]
  ·
   dsimp only; rw [if_neg hc]
   omega
 ·
  rw [List.getElem?_set_ne hik] at hi
  by_cases hij:j=i
  ·
   subst hij
   have hl:j<items.length:=by have:=(List.getElem?_eq_some_iff.1 hi).1; simpa using this
   rw [List.getElem?_set_self hl] at hi;obtain rfl:=Option.some.inj hi
   trivial
  ·
   rw [List.getElem?_set_ne hij] at hi;have h1:=Item.keep (w':=w') hz (h i it hi) fun b hb hs=>ho b hb (by rw [hs.2.2]; omega) (by rw [hs.2.2]; omega);refine Item.more h1 fun b _ hb=>⟨hb.1,by omega, ?_⟩
   have:¬(w.heap.size≤b∨own b=j):=by omega
   dsimp only
   rw [if_neg this];exact hb.2.2
theorem Bun.keep {B:Nat} {w w':World} {items:List Item} (h:Bun B w items) (hz:w.heap.size≤w'.heap.size) (hk:∀b,B≤b→b<w.heap.size→w'.heap[b]? =w.heap[b]?):Bun B w' items:=by
 obtain ⟨own,h⟩:=h;refine ⟨fun b=>if w.heap.size≤b then items.length else own b,fun i it hi=> ?_⟩;have hl:=(List.getElem?_eq_some_iff.1 hi).1;have h1:=Item.keep (w':=w') hz (h i it hi) fun b hb hs=>hk b hs.1 hb;refine Item.more h1 fun b _ hb=>⟨hb.1,by omega, ?_⟩
 dsimp only
 rw [if_neg (by omega)];exact hb.2.2
theorem Bun.below {B:Nat} {w w':World} {items:List Item} (h:Bun B w items) (hb:Below w.heap.size w w'):Bun B w' items:=h.keep hb.size fun b _ hl=>hb.block b hl
theorem Bun.alloc {B:Nat} {w:World} {items:List Item} (h:Bun B w items) (o:Obj):Bun B (w.alloc o) items:=h.below (Below.alloc (Below.refl _ _) (Nat.le_refl _) o)
theorem Bun.push {B:Nat} {w w':World} {items:List Item} {it:Item} (h:Bun B w items) (hb:Below w.heap.size w w') (hi:it.on (fun b=>B≤b∧b<w'.heap.size∧w.heap.size≤b) w'):Bun B w' (items++[it]):=by
 have hz:=hb.size;obtain ⟨own,h⟩:=h;refine ⟨fun b=>if w.heap.size≤b then items.length else own b,fun i it' h'=> ?_⟩
 by_cases hl:i<items.length
 ·
  rw [List.getElem?_append_left hl] at h';have h1:=Item.keep (w':=w') hz (h i it' h') fun b hb' _=>hb.block b hb';refine Item.more h1 fun b _ hb'=>⟨hb'.1,by omega, ?_⟩
  dsimp only
  rw [if_neg (by omega)];exact hb'.2.2
 ·
  have hi':=(List.getElem?_eq_some_iff.1 h').1;simp only [List.length_append,List.length_cons,List.length_nil] at hi'
  obtain rfl:i=items.length:=by omega
  simp only [List.getElem?_append_right (Nat.le_refl _),Nat.sub_self,List.getElem?_cons_zero,Option.some.injEq] at h';subst h';exact Item.more hi fun b _ hb'=>⟨hb'.1,hb'.2.1,by dsimp only; rw [if_pos hb'.2.2]⟩
theorem Bun.take {B:Nat} {w:World} {items:List Item} (h:Bun B w items) (n:Nat):Bun B w (items.take n):=by
 obtain ⟨own,h⟩:=h;refine ⟨own,fun i it hi=>h i it ?_⟩;rw [List.getElem?_take] at hi
 split at hi
 ·
  exact hi
 ·
  cases hi
theorem Bun.app {B:Nat} {w:World} {items:List Item} (h:Bun B w items) (k:Nat) {t size n:Nat} {ds:List D} {v:Value} (hk:items[k]? =some (.app t size n ds v)):∃own:Nat→Nat,AppS (fun b=>B≤b∧b<w.heap.size∧own b=k) w t size n ds v:=by
 obtain ⟨own,h⟩:=h;exact ⟨own,h k _ hk⟩
theorem Bun.shape {B:Nat} {w:World} {items:List Item} (h:Bun B w items) (k:Nat) {t size n:Nat} {ds:List D} {v:Value} (hk:items[k]? =some (.app t size n ds v)):∃a cap,v= .slice a n cap∧n≤cap∧cap≤maxLen:=by
 obtain ⟨own,h1⟩:=h.app k hk;exact h1.shape
theorem Bun.fresh {B:Nat} {W w:World} {items:List Item} (h:Bun B w items) (hB:W.heap.size≤B) (k:Nat) {t size n:Nat} {ds:List D} {v:Value} (hk:items[k]? =some (.app t size n ds v)):Fresh W w (.sl size n ds) v:=by
 obtain ⟨own,h1⟩:=h.app k hk;exact (h1.app fun b hb=>by omega).fresh
theorem Bun.push_own {B:Nat} {w w':World} {items:List Item} {ds:List D} {vs:List Value} (h:Bun B w items) (hb:Below w.heap.size w w') (hB:B≤w.heap.size) (hf:Freshs w w' ds vs):Bun B w' (items++[.own ds vs]):=
 h.push hb (by obtain ⟨F,f1,f2,f3⟩:=hf; exact ⟨F,f1,f2,fun b hm=>⟨by have:=f3 b hm; omega,f1.lt b hm,f3 b hm⟩⟩)
theorem wpList_append_bun_mv {P:Program} (w:World) {ops:Array Oper} {rest:List Oper} {o:Oper} {a:Act} {Q:Exit→Act→World→Prop} (hgd:o.guard=none) (s x:Operand) (t:TypeId)
  (ho:o.op= .call { callee:= .builtin .append,args:= #[s,x],argTypes:= #[t,t] })
  (e:TypeId) (z:Value) (size bytes:Nat) (ht:P.underlying t=some (.slice e)) (hinfo:(P.info? e).map (fun i=>(i.zero,i.size,i.bytes))=some (some z,size,bytes)) (hzs:z.cells.size=size) (hsz:0<size)
  {B:Nat} {items:List Item} (hb:Bun B w items) (hB:B≤w.heap.size) (k:Nat) (v:Value) {n:Nat} {ds:List D} (hk:items[k]? =some (.app e size n ds v)) (hs:a.eval s=v)
  (j:Nat) (hjk:j≠k) {es:List D} {news:List Value} (hj:items[j]? =some (.own es news))
  (ad:Addr) (m c:Nat) (hx:a.eval x= .slice (some ad) m c) (hnews:∀j u,news[j]? =some u→w.cell? (ad.add j)=some u)
  (hl:news.length=m*size) (h1:∀u∈news,u.oneCell'=true) (hm:0<m) (hbytes:(n+m)*bytes≤140737488355328) (h63:n+m≤maxLen)
  (h:∀g cap w',Bun B w' ((items.set j .gone).set k (.app e size (n+m) (ds++es) (.slice (some ⟨g,0,none⟩) (n+m) cap)))→Below B w w'→wpList P ops Q rest (a.put o.dst (.slice (some ⟨g,0,none⟩) (n+m) cap)) w'):wpList P ops Q (o::rest) a w:=by
 obtain ⟨own,hb⟩:=hb;have hows:OwS (fun b=>B≤b∧b<w.heap.size∧own b=j) w es news:=hb j _ hj;refine wpList_append_s w hgd s x t ho e z size bytes ht hinfo hzs hsz (S:=fun b=>B≤b∧b<w.heap.size∧own b=k) (T:=fun b=>B≤b∧b<w.heap.size∧own b=j) v hs (hb k _ hk) ad m c news hx hnews hows (fun b _ h1 h2=>hjk (h2.2.2.symm.trans h1.2.2)) hl h1 hm hbytes h63 ?_;intro g cap w' hap hsp;refine h g cap w' ?_ (hsp.below hB fun b hb'=>hb'.1)
 exact bun_turn (w':=w') hb hsp.size k j (it':= .app e size (n+m) (ds++es) (.slice (some ⟨g,0,none⟩) (n+m) cap)) (fun b hb' h2 _=>hsp.block b hb' (fun h3=>h2 h3.2.2))
  (AppS.more hap fun b hb' hc=>by
   have hz:=hsp.size
   rcases hc with hc|hc|hc
   ·
    exact ⟨hc.1,hb',Or.inr (Or.inl hc.2.2)⟩
   ·
    exact ⟨hc.1,hb',Or.inr (Or.inr hc.2.2)⟩
   ·
    exact ⟨by omega,hb',Or.inl hc.1⟩)
theorem Blk.new6 (w:World) (t:TypeId) (a b c d e f:Value):Blk (w.alloc (.cells #[a,b,c,d,e,f] t)) w.heap.size t [a,b,c,d,e,f]:=Blk.made _ _ _
end Go.Proofs.YtfopdcdbelaapaaDoor
