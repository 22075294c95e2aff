/-
  Parts of a proof, joined: TextE, Inj, Grow, TidyP. No condition.
-/
import Derived.Test.YtfopdcdbelaapaaDoorPk4
namespace Go.Proofs.YtfopdcdbelaapaaDoor
set_option linter.unusedVariables false
set_option linter.unusedSimpArgs false
open Go.ChangeShapes Go.WideShapes Go.ChangeAt Go.RowKit Go.Sort
def texC (k n:Int) (ts:List (List UInt8)):List UInt8:=
 if k=1 then [48] else if k=2 then [49] else if k=3 then [116]++Lib.decDigits n.toNat else if k=4 then [97]++Lib.decDigits n.toNat else if k=5 then [126]++ts.getD 0 []
 else if k=6 then [40]++ts.getD 0 []++[32,43,32]++ts.getD 1 []++[41] else if k=7 then [40]++ts.getD 0 []++[32]++ts.getD 1 []++[41] else ts.getD 0 []++[42]
mutual
def Ex.text:Ex→List UInt8
 | .mk k n ks=>texC k n (Ex.textL ks)
def Ex.textL:List Ex→List (List UInt8)
 |[]=>[]
 |e::r=>e.text::Ex.textL r
end
theorem numB_any {tm am k n:Int} (hk:k=3∨k=4) (h:numB tm am k n=true) (ht:tm≤8) (ha:am≤8):0≤n∧n≤8:=by
 rcases hk with rfl|rfl<;>simp [numB,inB] at h<;>omega
theorem digits_one {m:Nat} (h:m<10):(Lib.decDigits m).length=1:=by rw [Lib.decDigits_one h]; rfl
theorem text_bound (tm am:Int) (ht:tm≤8) (ha:am≤8) (N:Nat):∀e:Ex,e.size≤N→e.tree tm am=true→e.text.length≤5*e.size:=by
 induction N using Nat.strongRecOn with
 |_ N ih=>
 intro e hN htr;obtain ⟨k,n,ks⟩:=e;obtain ⟨hk,hnum,hc,htl⟩:=tree_parts htr;have hs:=Ex.size_eq (.mk k n ks);simp only [Ex.kids] at hs;have kid:∀x,x∈ks→x.text.length≤5*x.size:=fun x hx=>ih x.size (by have:=Ex.sizeL_mem hx; omega) x (Nat.le_refl _) (Ex.treeL_mem htl hx)
 rcases kind_cases hk with rfl|rfl|rfl|rfl|rfl|rfl|rfl|rfl
 ·
  simp [Ex.text,texC]; omega
 ·
  simp [Ex.text,texC]; omega
 ·
  obtain ⟨h0,h8⟩:=numB_any (by omega) hnum ht ha;simp only [Ex.text,texC]
  simp [digits_one (show n.toNat<10 by omega)]
  omega
 ·
  obtain ⟨h0,h8⟩:=numB_any (by omega) hnum ht ha;simp only [Ex.text,texC]
  simp [digits_one (show n.toNat<10 by omega)]
  omega
 ·
  obtain ⟨x,rfl⟩:=one_kid hk (by omega);have:=kid x (by simp)
  simp [Ex.text,texC,Ex.textL]
  simp only [Ex.sizeL] at hs;omega
 ·
  obtain ⟨x,y,rfl⟩:=two_kids hk (by omega);have:=kid x (by simp);have:=kid y (by simp)
  simp [Ex.text,texC,Ex.textL]
  simp only [Ex.sizeL] at hs;omega
 ·
  obtain ⟨x,y,rfl⟩:=two_kids hk (by omega);have:=kid x (by simp);have:=kid y (by simp)
  simp [Ex.text,texC,Ex.textL]
  simp only [Ex.sizeL] at hs;omega
 ·
  obtain ⟨x,rfl⟩:=one_kid hk (by omega);have:=kid x (by simp)
  simp [Ex.text,texC,Ex.textL]
  simp only [Ex.sizeL] at hs;omega
set_option maxHeartbeats 16000000 in
theorem writeExpr_all (W0:World) (B b:Nat) (hW:W0.heap.size≤B) (tm am:Int) (ht:tm≤8) (ha:am≤8) (N:Nat):∀(k n:Int) (ks:List Ex) (s:Option Addr) (c:Nat) (S:Nat→Prop) (l:List UInt8) (w:World),Ex.sizeL ks≤N→Rd W0 (kidsD ks) (.slice s ks.length c)→
  Ex.tree tm am (.mk k n ks)=true→Below W0.heap.size W0 w→BldAt B S b l w→B≤w.heap.size→l.length+5*(1+Ex.sizeL ks)≤100000000→
  Calls Tryd.prog 46 #[.pointer (some ⟨b,0,none⟩), .agg #[.int .i64 k, .int .i64 n, .slice s ks.length c]] w fun e w'=>e= .returned (.tuple #[])∧BldAt B (fun x=>S x∨(w.heap.size≤x∧x<w'.heap.size)) b (l++Ex.text (.mk k n ks)) w'∧Spares S w w':=by
 induction N using Nat.strongRecOn with
 |_ N ih=>
 intro k n ks s c S l w hN hr htr h0 hb hB hlen;obtain ⟨hk,hnum,hc,htl⟩:=tree_parts htr
 rcases kind_cases hk with rfl|rfl|rfl|rfl|rfl|rfl|rfl|rfl
 ·
  have e0:Ex.text (.mk 1 n ks)=[48]:=by simp [Ex.text,texC]
  clear hk hnum htl hc htr
  go_enter Tryd.func46,Tryd.ntmps46
  go_wp2_with fail;have L:=Blk.new3 w 26 (.int .i64 1) (.int .i64 n) (.slice s ks.length c);have hS:=hb.set.2;have hb1:=BldS.start (hb.below (Below.alloc (Below.refl _ _) (Nat.le_refl _) (.cells #[.int .i64 1, .int .i64 n, .slice s ks.length c] 26)));have hBw:Below w.heap.size w (w.alloc (.cells #[.int .i64 1, .int .i64 n, .slice s ks.length c] 26)):=Below.alloc (Below.refl _ _) (Nat.le_refl _) _;clear hb;generalize w.alloc (.cells #[.int .i64 1, .int .i64 n, .slice s ks.length c] 26)=w1 at L hb1 hBw ⊢;have hb:=hb1;have h01:Below W0.heap.size W0 w1:=h0.trans (hBw.mono (by omega));have hz1:=hBw.size;have HS:=Lib.hid hS;have HBw:=Lib.hid hBw;have H01:=Lib.hid h01;clear hb1 hS hBw h01;have l0:=L.c0;go_wp2_with fail;clear l0;obtain ⟨T,hT,hTS⟩:=hb.ex;refine (WriteString_i (s:=[48]) hT (by simp only [List.length_append,List.length_cons,List.length_nil] at*; omega) (by omega)).mono ?_;rintro e w2 ⟨⟨u,rfl⟩,hb',hs'⟩;have szw2:=hs'.size;replace hb:=hb.next hTS hb' hs';clear hT hTS hb' hs' T;have h0c:Below W0.heap.size W0 w2:=H01.out.trans (hb.sp.below (by omega) (fun x hx=>by have:=HS.out x hx; omega));have L2:=L.keep (hb.sp.block _ L.lt (fun hx=>by have:=HS.out _ hx; omega));have l0:=L2.c0;have l1:=L2.c1;have l2:=L2.c2;go_wp2_with fail;refine bodyPost_end (v:= .tuple #[]) (by simp [results,Tryd.results46,go_sem]) rfl ?_;refine ⟨rfl, ?_⟩;rw [e0]
  try simp only [List.append_assoc] at hb ⊢
  exact hb.done HBw.out HS.out hB
 ·
  have e0:Ex.text (.mk 2 n ks)=[49]:=by simp [Ex.text,texC]
  clear hk hnum htl hc htr
  go_enter Tryd.func46,Tryd.ntmps46
  go_wp2_with fail;have L:=Blk.new3 w 26 (.int .i64 2) (.int .i64 n) (.slice s ks.length c);have hS:=hb.set.2;have hb1:=BldS.start (hb.below (Below.alloc (Below.refl _ _) (Nat.le_refl _) (.cells #[.int .i64 2, .int .i64 n, .slice s ks.length c] 26)));have hBw:Below w.heap.size w (w.alloc (.cells #[.int .i64 2, .int .i64 n, .slice s ks.length c] 26)):=Below.alloc (Below.refl _ _) (Nat.le_refl _) _;clear hb;generalize w.alloc (.cells #[.int .i64 2, .int .i64 n, .slice s ks.length c] 26)=w1 at L hb1 hBw ⊢;have hb:=hb1;have h01:Below W0.heap.size W0 w1:=h0.trans (hBw.mono (by omega));have hz1:=hBw.size;have HS:=Lib.hid hS;have HBw:=Lib.hid hBw;have H01:=Lib.hid h01;clear hb1 hS hBw h01;have l0:=L.c0;go_wp2_with fail;clear l0;obtain ⟨T,hT,hTS⟩:=hb.ex;refine (WriteString_i (s:=[49]) hT (by simp only [List.length_append,List.length_cons,List.length_nil] at*; omega) (by omega)).mono ?_;rintro e w2 ⟨⟨u,rfl⟩,hb',hs'⟩;have szw2:=hs'.size;replace hb:=hb.next hTS hb' hs';clear hT hTS hb' hs' T;have h0c:Below W0.heap.size W0 w2:=H01.out.trans (hb.sp.below (by omega) (fun x hx=>by have:=HS.out x hx; omega));have L2:=L.keep (hb.sp.block _ L.lt (fun hx=>by have:=HS.out _ hx; omega));have l0:=L2.c0;have l1:=L2.c1;have l2:=L2.c2;go_wp2_with fail;refine bodyPost_end (v:= .tuple #[]) (by simp [results,Tryd.results46,go_sem]) rfl ?_;refine ⟨rfl, ?_⟩;rw [e0]
  try simp only [List.append_assoc] at hb ⊢
  exact hb.done HBw.out HS.out hB
 ·
  obtain ⟨n0,n8⟩:=numB_any (by omega) hnum ht ha;obtain ⟨m,rfl⟩:∃m:Nat,n=(m:Int):=⟨n.toNat,by omega⟩
  have e0:Ex.text (.mk 3 m ks)=116::Lib.decDigits m:=by simp [Ex.text,texC]
  have hm:m<10:=by omega
  have Hd:=Lib.hid (digits_one hm);have Ha:∀w,(Op.stringOp .add { data:= #[116] } (bs (Lib.decDigits m))).run Tryd.prog w= .ok (.string (bs ([116]++Lib.decDigits m))) w:=run_cat [116] _ (by rw [digits_one hm]; simp);clear hk hnum htl hc htr n0 n8
  go_enter Tryd.func46,Tryd.ntmps46
  go_wp2_with fail;have L:=Blk.new3 w 26 (.int .i64 3) (.int .i64 m) (.slice s ks.length c);have hS:=hb.set.2;have hb1:=BldS.start (hb.below (Below.alloc (Below.refl _ _) (Nat.le_refl _) (.cells #[.int .i64 3, .int .i64 m, .slice s ks.length c] 26)));have hBw:Below w.heap.size w (w.alloc (.cells #[.int .i64 3, .int .i64 m, .slice s ks.length c] 26)):=Below.alloc (Below.refl _ _) (Nat.le_refl _) _;clear hb;generalize w.alloc (.cells #[.int .i64 3, .int .i64 m, .slice s ks.length c] 26)=w1 at L hb1 hBw ⊢;have hb:=hb1;have h01:Below W0.heap.size W0 w1:=h0.trans (hBw.mono (by omega));have hz1:=hBw.size;have HS:=Lib.hid hS;have HBw:=Lib.hid hBw;have H01:=Lib.hid h01;clear hb1 hS hBw h01;have l0:=L.c0;have l1:=L.c1;go_wp2_with fail;refine (decimal_i (n:=m) (by omega)).mono ?_;rintro e w2 ⟨rfl,rfl⟩;go_wp2_with fail;clear l0 l1 Ha;obtain ⟨T,hT,hTS⟩:=hb.ex;refine (WriteString_i (s:=116::Lib.decDigits m) hT (by have hgg:=Hd.out; simp only [List.length_append,List.length_cons,List.length_nil]; omega) (by omega)).mono ?_;rintro e w2 ⟨⟨u,rfl⟩,hb',hs'⟩;have szw2:=hs'.size;replace hb:=hb.next hTS hb' hs';clear hT hTS hb' hs' T;have h0c:Below W0.heap.size W0 w2:=H01.out.trans (hb.sp.below (by omega) (fun x hx=>by have:=HS.out x hx; omega));have L2:=L.keep (hb.sp.block _ L.lt (fun hx=>by have:=HS.out _ hx; omega));have l0:=L2.c0;have l1:=L2.c1;have l2:=L2.c2;go_wp2_with fail;refine bodyPost_end (v:= .tuple #[]) (by simp [results,Tryd.results46,go_sem]) rfl ?_;refine ⟨rfl, ?_⟩;rw [e0]
  try simp only [List.append_assoc] at hb ⊢
  exact hb.done HBw.out HS.out hB
 ·
  obtain ⟨n0,n8⟩:=numB_any (by omega) hnum ht ha;obtain ⟨m,rfl⟩:∃m:Nat,n=(m:Int):=⟨n.toNat,by omega⟩
  have e0:Ex.text (.mk 4 m ks)=97::Lib.decDigits m:=by simp [Ex.text,texC]
  have hm:m<10:=by omega
  have Hd:=Lib.hid (digits_one hm);have Ha:∀w,(Op.stringOp .add { data:= #[97] } (bs (Lib.decDigits m))).run Tryd.prog w= .ok (.string (bs ([97]++Lib.decDigits m))) w:=run_cat [97] _ (by rw [digits_one hm]; simp);clear hk hnum htl hc htr n0 n8
  go_enter Tryd.func46,Tryd.ntmps46
  go_wp2_with fail;have L:=Blk.new3 w 26 (.int .i64 4) (.int .i64 m) (.slice s ks.length c);have hS:=hb.set.2;have hb1:=BldS.start (hb.below (Below.alloc (Below.refl _ _) (Nat.le_refl _) (.cells #[.int .i64 4, .int .i64 m, .slice s ks.length c] 26)));have hBw:Below w.heap.size w (w.alloc (.cells #[.int .i64 4, .int .i64 m, .slice s ks.length c] 26)):=Below.alloc (Below.refl _ _) (Nat.le_refl _) _;clear hb;generalize w.alloc (.cells #[.int .i64 4, .int .i64 m, .slice s ks.length c] 26)=w1 at L hb1 hBw ⊢;have hb:=hb1;have h01:Below W0.heap.size W0 w1:=h0.trans (hBw.mono (by omega));have hz1:=hBw.size;have HS:=Lib.hid hS;have HBw:=Lib.hid hBw;have H01:=Lib.hid h01;clear hb1 hS hBw h01;have l0:=L.c0;have l1:=L.c1;go_wp2_with fail;refine (decimal_i (n:=m) (by omega)).mono ?_;rintro e w2 ⟨rfl,rfl⟩;go_wp2_with fail;clear l0 l1 Ha;obtain ⟨T,hT,hTS⟩:=hb.ex;refine (WriteString_i (s:=97::Lib.decDigits m) hT (by have hgg:=Hd.out; simp only [List.length_append,List.length_cons,List.length_nil]; omega) (by omega)).mono ?_;rintro e w2 ⟨⟨u,rfl⟩,hb',hs'⟩;have szw2:=hs'.size;replace hb:=hb.next hTS hb' hs';clear hT hTS hb' hs' T;have h0c:Below W0.heap.size W0 w2:=H01.out.trans (hb.sp.below (by omega) (fun x hx=>by have:=HS.out x hx; omega));have L2:=L.keep (hb.sp.block _ L.lt (fun hx=>by have:=HS.out _ hx; omega));have l0:=L2.c0;have l1:=L2.c1;have l2:=L2.c2;go_wp2_with fail;refine bodyPost_end (v:= .tuple #[]) (by simp [results,Tryd.results46,go_sem]) rfl ?_;refine ⟨rfl, ?_⟩;rw [e0]
  try simp only [List.append_assoc] at hb ⊢
  exact hb.done HBw.out HS.out hB
 ·
  obtain ⟨x,rfl⟩:=one_kid hk (by omega);have hx:[x][0]? =some x:=rfl;obtain ⟨b',o',rfl⟩:=kid_some hr (by simp);have hxt0:x.tree tm am=true:=Ex.treeL_mem htl (by simp);have bx:=text_bound tm am ht ha _ x (Nat.le_refl _) hxt0
  have hxt:Ex.tree tm am (.mk x.kind x.num x.kids)=true:=by rw [←Ex.eta x]; exact hxt0
  have hsx:=Ex.size_eq x;simp only [Ex.sizeL] at hN hlen
  have hxs:Ex.sizeL x.kids<N:=by omega
  have ex:Ex.text (.mk x.kind x.num x.kids)=x.text:=by rw [←Ex.eta x]
  obtain ⟨hbl,s',c',g0,g1,g2,gr⟩:=kid_in hr hx;simp only [Nat.zero_mul,Nat.add_zero] at g0 g1 g2
  have e0:Ex.text (.mk 5 n [x])=[126]++x.text:=by simp [Ex.text,texC,Ex.textL]
  clear hk hnum htl hc htr hx hxt0
  go_enter Tryd.func46,Tryd.ntmps46
  go_wp2_with fail;have L:=Blk.new3 w 26 (.int .i64 5) (.int .i64 n) (.slice (some ⟨b',o',none⟩) 1 c);have hS:=hb.set.2;have hb1:=BldS.start (hb.below (Below.alloc (Below.refl _ _) (Nat.le_refl _) (.cells #[.int .i64 5, .int .i64 n, .slice (some ⟨b',o',none⟩) 1 c] 26)));have hBw:Below w.heap.size w (w.alloc (.cells #[.int .i64 5, .int .i64 n, .slice (some ⟨b',o',none⟩) 1 c] 26)):=Below.alloc (Below.refl _ _) (Nat.le_refl _) _;clear hb;generalize w.alloc (.cells #[.int .i64 5, .int .i64 n, .slice (some ⟨b',o',none⟩) 1 c] 26)=w1 at L hb1 hBw ⊢;have hb:=hb1;have h01:Below W0.heap.size W0 w1:=h0.trans (hBw.mono (by omega));have hz1:=hBw.size;have HS:=Lib.hid hS;have HBw:=Lib.hid hBw;have H01:=Lib.hid h01;clear hb1 hS hBw h01;have l0:=L.c0;go_wp2_with fail;clear l0;obtain ⟨T,hT,hTS⟩:=hb.ex;refine (WriteString_i (s:=[126]) hT (by simp only [List.length_append,List.length_cons,List.length_nil] at*; omega) (by omega)).mono ?_;rintro e w2 ⟨⟨u,rfl⟩,hb',hs'⟩;have szw2:=hs'.size;replace hb:=hb.next hTS hb' hs';clear hT hTS hb' hs' T;have h0c:Below W0.heap.size W0 w2:=H01.out.trans (hb.sp.below (by omega) (fun x hx=>by have:=HS.out x hx; omega));have L2:=L.keep (hb.sp.block _ L.lt (fun hx=>by have:=HS.out _ hx; omega));have l0:=L2.c0;have l1:=L2.c1;have l2:=L2.c2;have q0:=(h0c.cell (p:=⟨b',o',none⟩) hbl).trans g0;have q1:=(h0c.cell (p:=⟨b',o'+1,none⟩) hbl).trans g1;have q2:=(h0c.cell (p:=⟨b',o'+2,none⟩) hbl).trans g2;go_wp2_with fail;clear l0 l1 l2 L2 q0 q1 q2;obtain ⟨T,hT,hTS⟩:=hb.ex;refine (ih _ hxs _ _ _ _ _ T _ _ (Nat.le_refl _) gr hxt h0c hT (by omega) (by simp only [List.length_append,List.length_cons,List.length_nil] at*; omega)).mono ?_;rintro e w3 ⟨rfl,hb',hs'⟩;have szw3:=hs'.size;replace hb:=hb.next hTS hb' hs';clear hT hTS hb' hs' T;have h0c:Below W0.heap.size W0 w3:=H01.out.trans (hb.sp.below (by omega) (fun x hx=>by have:=HS.out x hx; omega));have L2:=L.keep (hb.sp.block _ L.lt (fun hx=>by have:=HS.out _ hx; omega));have l0:=L2.c0;have l1:=L2.c1;have l2:=L2.c2;rw [ex] at hb;go_wp2_with fail;refine bodyPost_end (v:= .tuple #[]) (by simp [results,Tryd.results46,go_sem]) rfl ?_;refine ⟨rfl, ?_⟩;rw [e0]
  try simp only [List.append_assoc] at hb ⊢
  exact hb.done HBw.out HS.out hB
 ·
  obtain ⟨x,y,rfl⟩:=two_kids hk (by omega);have hx:[x,y][0]? =some x:=rfl;have hy:[x,y][1]? =some y:=rfl;obtain ⟨b',o',rfl⟩:=kid_some hr (by simp);have hxt0:x.tree tm am=true:=Ex.treeL_mem htl (by simp);have hyt0:y.tree tm am=true:=Ex.treeL_mem htl (by simp);have bx:=text_bound tm am ht ha _ x (Nat.le_refl _) hxt0;have bY:=text_bound tm am ht ha _ y (Nat.le_refl _) hyt0
  have hxt:Ex.tree tm am (.mk x.kind x.num x.kids)=true:=by rw [←Ex.eta x]; exact hxt0
  have hyt:Ex.tree tm am (.mk y.kind y.num y.kids)=true:=by rw [←Ex.eta y]; exact hyt0
  have hsx:=Ex.size_eq x;have hsy:=Ex.size_eq y;simp only [Ex.sizeL] at hN hlen
  have hxs:Ex.sizeL x.kids<N:=by omega
  have hys:Ex.sizeL y.kids<N:=by omega
  have ex:Ex.text (.mk x.kind x.num x.kids)=x.text:=by rw [←Ex.eta x]
  have ey:Ex.text (.mk y.kind y.num y.kids)=y.text:=by rw [←Ex.eta y]
  have e0:Ex.text (.mk 6 n [x,y])=[40]++x.text++[32,43,32]++y.text++[41]:=by simp [Ex.text,texC,Ex.textL]
  obtain ⟨hbl,s',c',g0,g1,g2,gr⟩:=kid_in hr hx;obtain ⟨-, s2,c2,k0,k1,k2,kr⟩:=kid_in hr hy;simp only [Nat.zero_mul,Nat.add_zero] at g0 g1 g2;simp only [Nat.one_mul] at k0 k1 k2;clear hk hnum htl hc htr hx hy hxt0 hyt0
  go_enter Tryd.func46,Tryd.ntmps46
  go_wp2_with fail;have L:=Blk.new3 w 26 (.int .i64 6) (.int .i64 n) (.slice (some ⟨b',o',none⟩) 2 c);have hS:=hb.set.2;have hb1:=BldS.start (hb.below (Below.alloc (Below.refl _ _) (Nat.le_refl _) (.cells #[.int .i64 6, .int .i64 n, .slice (some ⟨b',o',none⟩) 2 c] 26)));have hBw:Below w.heap.size w (w.alloc (.cells #[.int .i64 6, .int .i64 n, .slice (some ⟨b',o',none⟩) 2 c] 26)):=Below.alloc (Below.refl _ _) (Nat.le_refl _) _;clear hb;generalize w.alloc (.cells #[.int .i64 6, .int .i64 n, .slice (some ⟨b',o',none⟩) 2 c] 26)=w1 at L hb1 hBw ⊢;have hb:=hb1;have h01:Below W0.heap.size W0 w1:=h0.trans (hBw.mono (by omega));have hz1:=hBw.size;have HS:=Lib.hid hS;have HBw:=Lib.hid hBw;have H01:=Lib.hid h01;clear hb1 hS hBw h01;have l0:=L.c0;go_wp2_with fail;clear l0;obtain ⟨T,hT,hTS⟩:=hb.ex;refine (WriteString_i (s:=[40]) hT (by simp only [List.length_append,List.length_cons,List.length_nil] at*; omega) (by omega)).mono ?_;rintro e w2 ⟨⟨u,rfl⟩,hb',hs'⟩;have szw2:=hs'.size;replace hb:=hb.next hTS hb' hs';clear hT hTS hb' hs' T;have h0c:Below W0.heap.size W0 w2:=H01.out.trans (hb.sp.below (by omega) (fun x hx=>by have:=HS.out x hx; omega));have L2:=L.keep (hb.sp.block _ L.lt (fun hx=>by have:=HS.out _ hx; omega));have l0:=L2.c0;have l1:=L2.c1;have l2:=L2.c2;have q0:=(h0c.cell (p:=⟨b',o',none⟩) hbl).trans g0;have q1:=(h0c.cell (p:=⟨b',o'+1,none⟩) hbl).trans g1;have q2:=(h0c.cell (p:=⟨b',o'+2,none⟩) hbl).trans g2;go_wp2_with fail;clear l0 l1 l2 L2 q0 q1 q2;obtain ⟨T,hT,hTS⟩:=hb.ex;refine (ih _ hxs _ _ _ _ _ T _ _ (Nat.le_refl _) gr hxt h0c hT (by omega) (by simp only [List.length_append,List.length_cons,List.length_nil] at*; omega)).mono ?_;rintro e w3 ⟨rfl,hb',hs'⟩;have szw3:=hs'.size;replace hb:=hb.next hTS hb' hs';clear hT hTS hb' hs' T;have h0c:Below W0.heap.size W0 w3:=H01.out.trans (hb.sp.below (by omega) (fun x hx=>by have:=HS.out x hx; omega));have L2:=L.keep (hb.sp.block _ L.lt (fun hx=>by have:=HS.out _ hx; omega));have l0:=L2.c0;have l1:=L2.c1;have l2:=L2.c2;rw [ex] at hb;go_wp2_with fail;clear l0 l1 l2 L2 h0c;obtain ⟨T,hT,hTS⟩:=hb.ex;refine (WriteString_i (s:=[32,43,32]) hT (by simp only [List.length_append,List.length_cons,List.length_nil] at*; omega) (by omega)).mono ?_;rintro e w4 ⟨⟨u,rfl⟩,hb',hs'⟩;have szw4:=hs'.size;replace hb:=hb.next hTS hb' hs';clear hT hTS hb' hs' T;have h0c:Below W0.heap.size W0 w4:=H01.out.trans (hb.sp.below (by omega) (fun x hx=>by have:=HS.out x hx; omega));have L2:=L.keep (hb.sp.block _ L.lt (fun hx=>by have:=HS.out _ hx; omega));have l0:=L2.c0;have l1:=L2.c1;have l2:=L2.c2;have q0:=(h0c.cell (p:=⟨b',o'+3,none⟩) hbl).trans k0;have q1:=(h0c.cell (p:=⟨b',o'+3+1,none⟩) hbl).trans k1;have q2:=(h0c.cell (p:=⟨b',o'+3+2,none⟩) hbl).trans k2;go_wp2_with fail;clear l0 l1 l2 L2 q0 q1 q2;obtain ⟨T,hT,hTS⟩:=hb.ex;refine (ih _ hys _ _ _ _ _ T _ _ (Nat.le_refl _) kr hyt h0c hT (by omega) (by simp only [List.length_append,List.length_cons,List.length_nil] at*; omega)).mono ?_;rintro e w5 ⟨rfl,hb',hs'⟩;have szw5:=hs'.size;replace hb:=hb.next hTS hb' hs';clear hT hTS hb' hs' T;have h0c:Below W0.heap.size W0 w5:=H01.out.trans (hb.sp.below (by omega) (fun x hx=>by have:=HS.out x hx; omega));have L2:=L.keep (hb.sp.block _ L.lt (fun hx=>by have:=HS.out _ hx; omega));have l0:=L2.c0;have l1:=L2.c1;have l2:=L2.c2;rw [ey] at hb;go_wp2_with fail;clear l0 l1 l2 L2 h0c;obtain ⟨T,hT,hTS⟩:=hb.ex;refine (WriteString_i (s:=[41]) hT (by simp only [List.length_append,List.length_cons,List.length_nil] at*; omega) (by omega)).mono ?_;rintro e w6 ⟨⟨u,rfl⟩,hb',hs'⟩;have szw6:=hs'.size;replace hb:=hb.next hTS hb' hs';clear hT hTS hb' hs' T;have h0c:Below W0.heap.size W0 w6:=H01.out.trans (hb.sp.below (by omega) (fun x hx=>by have:=HS.out x hx; omega));have L2:=L.keep (hb.sp.block _ L.lt (fun hx=>by have:=HS.out _ hx; omega));have l0:=L2.c0;have l1:=L2.c1;have l2:=L2.c2;go_wp2_with fail;refine bodyPost_end (v:= .tuple #[]) (by simp [results,Tryd.results46,go_sem]) rfl ?_;refine ⟨rfl, ?_⟩;rw [e0]
  try simp only [List.append_assoc] at hb ⊢
  exact hb.done HBw.out HS.out hB
 ·
  obtain ⟨x,y,rfl⟩:=two_kids hk (by omega);have hx:[x,y][0]? =some x:=rfl;have hy:[x,y][1]? =some y:=rfl;obtain ⟨b',o',rfl⟩:=kid_some hr (by simp);have hxt0:x.tree tm am=true:=Ex.treeL_mem htl (by simp);have hyt0:y.tree tm am=true:=Ex.treeL_mem htl (by simp);have bx:=text_bound tm am ht ha _ x (Nat.le_refl _) hxt0;have bY:=text_bound tm am ht ha _ y (Nat.le_refl _) hyt0
  have hxt:Ex.tree tm am (.mk x.kind x.num x.kids)=true:=by rw [←Ex.eta x]; exact hxt0
  have hyt:Ex.tree tm am (.mk y.kind y.num y.kids)=true:=by rw [←Ex.eta y]; exact hyt0
  have hsx:=Ex.size_eq x;have hsy:=Ex.size_eq y;simp only [Ex.sizeL] at hN hlen
  have hxs:Ex.sizeL x.kids<N:=by omega
  have hys:Ex.sizeL y.kids<N:=by omega
  have ex:Ex.text (.mk x.kind x.num x.kids)=x.text:=by rw [←Ex.eta x]
  have ey:Ex.text (.mk y.kind y.num y.kids)=y.text:=by rw [←Ex.eta y]
  have e0:Ex.text (.mk 7 n [x,y])=[40]++x.text++[32]++y.text++[41]:=by simp [Ex.text,texC,Ex.textL]
  obtain ⟨hbl,s',c',g0,g1,g2,gr⟩:=kid_in hr hx;obtain ⟨-, s2,c2,k0,k1,k2,kr⟩:=kid_in hr hy;simp only [Nat.zero_mul,Nat.add_zero] at g0 g1 g2;simp only [Nat.one_mul] at k0 k1 k2;clear hk hnum htl hc htr hx hy hxt0 hyt0
  go_enter Tryd.func46,Tryd.ntmps46
  go_wp2_with fail;have L:=Blk.new3 w 26 (.int .i64 7) (.int .i64 n) (.slice (some ⟨b',o',none⟩) 2 c);have hS:=hb.set.2;have hb1:=BldS.start (hb.below (Below.alloc (Below.refl _ _) (Nat.le_refl _) (.cells #[.int .i64 7, .int .i64 n, .slice (some ⟨b',o',none⟩) 2 c] 26)));have hBw:Below w.heap.size w (w.alloc (.cells #[.int .i64 7, .int .i64 n, .slice (some ⟨b',o',none⟩) 2 c] 26)):=Below.alloc (Below.refl _ _) (Nat.le_refl _) _;clear hb;generalize w.alloc (.cells #[.int .i64 7, .int .i64 n, .slice (some ⟨b',o',none⟩) 2 c] 26)=w1 at L hb1 hBw ⊢;have hb:=hb1;have h01:Below W0.heap.size W0 w1:=h0.trans (hBw.mono (by omega));have hz1:=hBw.size;have HS:=Lib.hid hS;have HBw:=Lib.hid hBw;have H01:=Lib.hid h01;clear hb1 hS hBw h01;have l0:=L.c0;go_wp2_with fail;clear l0;obtain ⟨T,hT,hTS⟩:=hb.ex;refine (WriteString_i (s:=[40]) hT (by simp only [List.length_append,List.length_cons,List.length_nil] at*; omega) (by omega)).mono ?_;rintro e w2 ⟨⟨u,rfl⟩,hb',hs'⟩;have szw2:=hs'.size;replace hb:=hb.next hTS hb' hs';clear hT hTS hb' hs' T;have h0c:Below W0.heap.size W0 w2:=H01.out.trans (hb.sp.below (by omega) (fun x hx=>by have:=HS.out x hx; omega));have L2:=L.keep (hb.sp.block _ L.lt (fun hx=>by have:=HS.out _ hx; omega));have l0:=L2.c0;have l1:=L2.c1;have l2:=L2.c2;have q0:=(h0c.cell (p:=⟨b',o',none⟩) hbl).trans g0;have q1:=(h0c.cell (p:=⟨b',o'+1,none⟩) hbl).trans g1;have q2:=(h0c.cell (p:=⟨b',o'+2,none⟩) hbl).trans g2;go_wp2_with fail;clear l0 l1 l2 L2 q0 q1 q2;obtain ⟨T,hT,hTS⟩:=hb.ex;refine (ih _ hxs _ _ _ _ _ T _ _ (Nat.le_refl _) gr hxt h0c hT (by omega) (by simp only [List.length_append,List.length_cons,List.length_nil] at*; omega)).mono ?_;rintro e w3 ⟨rfl,hb',hs'⟩;have szw3:=hs'.size;replace hb:=hb.next hTS hb' hs';clear hT hTS hb' hs' T;have h0c:Below W0.heap.size W0 w3:=H01.out.trans (hb.sp.below (by omega) (fun x hx=>by have:=HS.out x hx; omega));have L2:=L.keep (hb.sp.block _ L.lt (fun hx=>by have:=HS.out _ hx; omega));have l0:=L2.c0;have l1:=L2.c1;have l2:=L2.c2;rw [ex] at hb;go_wp2_with fail;clear l0 l1 l2 L2 h0c;obtain ⟨T,hT,hTS⟩:=hb.ex;refine (WriteString_i (s:=[32]) hT (by simp only [List.length_append,List.length_cons,List.length_nil] at*; omega) (by omega)).mono ?_;rintro e w4 ⟨⟨u,rfl⟩,hb',hs'⟩;have szw4:=hs'.size;replace hb:=hb.next hTS hb' hs';clear hT hTS hb' hs' T;have h0c:Below W0.heap.size W0 w4:=H01.out.trans (hb.sp.below (by omega) (fun x hx=>by have:=HS.out x hx; omega));have L2:=L.keep (hb.sp.block _ L.lt (fun hx=>by have:=HS.out _ hx; omega));have l0:=L2.c0;have l1:=L2.c1;have l2:=L2.c2;have q0:=(h0c.cell (p:=⟨b',o'+3,none⟩) hbl).trans k0;have q1:=(h0c.cell (p:=⟨b',o'+3+1,none⟩) hbl).trans k1;have q2:=(h0c.cell (p:=⟨b',o'+3+2,none⟩) hbl).trans k2;go_wp2_with fail;clear l0 l1 l2 L2 q0 q1 q2;obtain ⟨T,hT,hTS⟩:=hb.ex;refine (ih _ hys _ _ _ _ _ T _ _ (Nat.le_refl _) kr hyt h0c hT (by omega) (by simp only [List.length_append,List.length_cons,List.length_nil] at*; omega)).mono ?_;rintro e w5 ⟨rfl,hb',hs'⟩;have szw5:=hs'.size;replace hb:=hb.next hTS hb' hs';clear hT hTS hb' hs' T;have h0c:Below W0.heap.size W0 w5:=H01.out.trans (hb.sp.below (by omega) (fun x hx=>by have:=HS.out x hx; omega));have L2:=L.keep (hb.sp.block _ L.lt (fun hx=>by have:=HS.out _ hx; omega));have l0:=L2.c0;have l1:=L2.c1;have l2:=L2.c2;rw [ey] at hb;go_wp2_with fail;clear l0 l1 l2 L2 h0c;obtain ⟨T,hT,hTS⟩:=hb.ex;refine (WriteString_i (s:=[41]) hT (by simp only [List.length_append,List.length_cons,List.length_nil] at*; omega) (by omega)).mono ?_;rintro e w6 ⟨⟨u,rfl⟩,hb',hs'⟩;have szw6:=hs'.size;replace hb:=hb.next hTS hb' hs';clear hT hTS hb' hs' T;have h0c:Below W0.heap.size W0 w6:=H01.out.trans (hb.sp.below (by omega) (fun x hx=>by have:=HS.out x hx; omega));have L2:=L.keep (hb.sp.block _ L.lt (fun hx=>by have:=HS.out _ hx; omega));have l0:=L2.c0;have l1:=L2.c1;have l2:=L2.c2;go_wp2_with fail;refine bodyPost_end (v:= .tuple #[]) (by simp [results,Tryd.results46,go_sem]) rfl ?_;refine ⟨rfl, ?_⟩;rw [e0]
  try simp only [List.append_assoc] at hb ⊢
  exact hb.done HBw.out HS.out hB
 ·
  obtain ⟨x,rfl⟩:=one_kid hk (by omega);have hx:[x][0]? =some x:=rfl;obtain ⟨b',o',rfl⟩:=kid_some hr (by simp);have hxt0:x.tree tm am=true:=Ex.treeL_mem htl (by simp);have bx:=text_bound tm am ht ha _ x (Nat.le_refl _) hxt0
  have hxt:Ex.tree tm am (.mk x.kind x.num x.kids)=true:=by rw [←Ex.eta x]; exact hxt0
  have hsx:=Ex.size_eq x;simp only [Ex.sizeL] at hN hlen
  have hxs:Ex.sizeL x.kids<N:=by omega
  have ex:Ex.text (.mk x.kind x.num x.kids)=x.text:=by rw [←Ex.eta x]
  obtain ⟨hbl,s',c',g0,g1,g2,gr⟩:=kid_in hr hx;simp only [Nat.zero_mul,Nat.add_zero] at g0 g1 g2
  have e0:Ex.text (.mk 8 n [x])=x.text++[42]:=by simp [Ex.text,texC,Ex.textL]
  clear hk hnum htl hc htr hx hxt0;have p0:=(h0.cell (p:=⟨b',o',none⟩) hbl).trans g0;have p1:=(h0.cell (p:=⟨b',o'+1,none⟩) hbl).trans g1;have p2:=(h0.cell (p:=⟨b',o'+2,none⟩) hbl).trans g2
  have pl:b'<w.heap.size:=by omega
  go_enter Tryd.func46,Tryd.ntmps46
  go_wp2_with fail;have L:=Blk.new3 w 26 (.int .i64 8) (.int .i64 n) (.slice (some ⟨b',o',none⟩) 1 c);have hS:=hb.set.2;have hb1:=BldS.start (hb.below (Below.alloc (Below.refl _ _) (Nat.le_refl _) (.cells #[.int .i64 8, .int .i64 n, .slice (some ⟨b',o',none⟩) 1 c] 26)));have hBw:Below w.heap.size w (w.alloc (.cells #[.int .i64 8, .int .i64 n, .slice (some ⟨b',o',none⟩) 1 c] 26)):=Below.alloc (Below.refl _ _) (Nat.le_refl _) _;clear hb;generalize w.alloc (.cells #[.int .i64 8, .int .i64 n, .slice (some ⟨b',o',none⟩) 1 c] 26)=w1 at L hb1 hBw ⊢;have hb:=hb1;have h01:Below W0.heap.size W0 w1:=h0.trans (hBw.mono (by omega));have hz1:=hBw.size;have HS:=Lib.hid hS;have HBw:=Lib.hid hBw;have H01:=Lib.hid h01;clear hb1 hS hBw h01;have h0c:=H01.out;clear p0 p1 p2 pl;obtain ⟨T,hT,hTS⟩:=hb.ex;refine (ih _ hxs _ _ _ _ _ T _ _ (Nat.le_refl _) gr hxt h0c hT (by omega) (by simp only [List.length_append,List.length_cons,List.length_nil] at*; omega)).mono ?_;rintro e w3 ⟨rfl,hb',hs'⟩;have szw3:=hs'.size;replace hb:=hb.next hTS hb' hs';clear hT hTS hb' hs' T;have h0c:Below W0.heap.size W0 w3:=H01.out.trans (hb.sp.below (by omega) (fun x hx=>by have:=HS.out x hx; omega));have L2:=L.keep (hb.sp.block _ L.lt (fun hx=>by have:=HS.out _ hx; omega));have l0:=L2.c0;have l1:=L2.c1;have l2:=L2.c2;rw [ex] at hb;go_wp2_with fail;clear l0 l1 l2 L2 h0c;obtain ⟨T,hT,hTS⟩:=hb.ex;refine (WriteString_i (s:=[42]) hT (by simp only [List.length_append,List.length_cons,List.length_nil] at*; omega) (by omega)).mono ?_;rintro e w4 ⟨⟨u,rfl⟩,hb',hs'⟩;have szw4:=hs'.size;replace hb:=hb.next hTS hb' hs';clear hT hTS hb' hs' T;have h0c:Below W0.heap.size W0 w4:=H01.out.trans (hb.sp.below (by omega) (fun x hx=>by have:=HS.out x hx; omega));have L2:=L.keep (hb.sp.block _ L.lt (fun hx=>by have:=HS.out _ hx; omega));have l0:=L2.c0;have l1:=L2.c1;have l2:=L2.c2;go_wp2_with fail;refine bodyPost_end (v:= .tuple #[]) (by simp [results,Tryd.results46,go_sem]) rfl ?_;refine ⟨rfl, ?_⟩;rw [e0]
  try simp only [List.append_assoc] at hb ⊢
  exact hb.done HBw.out HS.out hB
end Go.Proofs.YtfopdcdbelaapaaDoor
namespace Go.Proofs.YtfopdcdbelaapaaDoor
set_option linter.unusedVariables false
set_option linter.unusedSimpArgs false
open Go.ChangeShapes Go.WideShapes Go.ChangeAt Go.RowKit
theorem digit_inj {m n:Nat} (hm:m<10) (hn:n<10) {r s:List UInt8} (h:Lib.decDigits m++r=Lib.decDigits n++s):m=n∧r=s:=by
 rw [Lib.decDigits_one hm,Lib.decDigits_one hn] at h;simp only [List.cons_append,List.nil_append,List.cons.injEq] at h;refine ⟨?_,h.2⟩;have:=congrArg UInt8.toNat h.1;simp at this;omega
def starN:Nat→Ex→Ex
 |0,x=>x
 |i+1,x=> .mk 8 0 [starN i x]
theorem starN_text (x:Ex):∀i,(starN i x).text=x.text++List.replicate i 42
 |0=>by simp [starN]
 |i+1=>by
  simp only [starN,Ex.text,Ex.textL];rw [starN_text x i]
  simp [texC,List.replicate_succ']
theorem star_base (tm am:Int) (N:Nat):∀e:Ex,e.size≤N→e.tree tm am=true→∃i x,e=starN i x∧x.kind≠8∧x.tree tm am=true∧x.size≤e.size:=by
 induction N using Nat.strongRecOn with
 |_ N ih=>
 intro e hN ht
 by_cases h8:e.kind=8
 ·
  obtain ⟨k,n,ks⟩:=e;simp only [Ex.kind] at h8;subst h8;obtain ⟨hk,hnum, -, htl⟩:=tree_parts ht;obtain ⟨x,rfl⟩:=one_kid hk (by omega);have hx:x.tree tm am=true:=Ex.treeL_mem htl (by simp);have hs:=Ex.size_eq (.mk 8 n [x]);simp only [Ex.kids,Ex.sizeL] at hs;obtain ⟨i,y,hy,h1,h2,h3⟩:=ih x.size (by omega) x (Nat.le_refl _) hx
  obtain rfl:n=0:=by simpa [numB] using hnum
  exact ⟨i+1,y,by rw [hy]; rfl,h1,h2,by omega⟩
 ·
  exact ⟨0,e,rfl,h8,ht,Nat.le_refl _⟩
theorem rep_inj:∀(i j:Nat) {r s:List UInt8},r.head? ≠some 42→s.head? ≠some 42→List.replicate i 42++r=List.replicate j 42++s→i=j∧r=s
 |0,0,r,s,_,_,h=>⟨rfl,by simpa using h⟩
 |0,j+1,r,s,h1,_,h=>by rw [List.replicate_zero,List.nil_append] at h; rw [h] at h1; simp [List.replicate_succ] at h1
 |i+1,0,r,s,_,h2,h=>by rw [List.replicate_zero,List.nil_append] at h; rw [←h] at h2; simp [List.replicate_succ] at h2
 |i+1,j+1,r,s,h1,h2,h=>by
  simp only [List.replicate_succ,List.cons_append,List.cons.injEq,true_and] at h;obtain ⟨a,b⟩:=rep_inj i j h1 h2 h;exact ⟨by omega,b⟩
theorem cond_kind {e:Ex} (h:e.cond=true):e.kind≠8:=by
 intro h8;obtain ⟨k,n,ks⟩:=e;simp only [Ex.kind] at h8;subst h8
 simp [Ex.cond,condKind] at h
theorem text_head (tm am:Int) (N:Nat):∀e:Ex,e.size≤N→e.tree tm am=true→∃c l,e.text=c::l∧c≠43:=by
 induction N using Nat.strongRecOn with
 |_ N ih=>
 intro e hN ht;obtain ⟨k,n,ks⟩:=e;obtain ⟨hk, -, -, htl⟩:=tree_parts ht;have hs:=Ex.size_eq (.mk k n ks);simp only [Ex.kids] at hs
 rcases kind_cases hk with rfl|rfl|rfl|rfl|rfl|rfl|rfl|rfl
 ·
  exact ⟨48,[],by simp [Ex.text,texC],by decide⟩
 ·
  exact ⟨49,[],by simp [Ex.text,texC],by decide⟩
 ·
  exact ⟨116,_,by simp [Ex.text,texC]; rfl,by decide⟩
 ·
  exact ⟨97,_,by simp [Ex.text,texC]; rfl,by decide⟩
 ·
  exact ⟨126,_,by simp [Ex.text,texC]; rfl,by decide⟩
 ·
  exact ⟨40,_,by simp [Ex.text,texC]; rfl,by decide⟩
 ·
  exact ⟨40,_,by simp [Ex.text,texC]; rfl,by decide⟩
 ·
  obtain ⟨x,rfl⟩:=one_kid hk (by omega);simp only [Ex.sizeL] at hs;obtain ⟨c,l,h1,h2⟩:=ih x.size (by omega) x (Nat.le_refl _) (Ex.treeL_mem htl (by simp));exact ⟨c,l++[42],by simp [Ex.text,texC,Ex.textL,h1],h2⟩
theorem text_inj_core (tm am:Int) (ht:tm≤8) (ha:am≤8) (N:Nat):∀(e f:Ex) (r s:List UInt8),e.size≤N→e.tree tm am=true→f.tree tm am=true→e.kind≠8→f.kind≠8→e.text++r=f.text++s→e=f∧r=s:=by
  induction N using Nat.strongRecOn with
  |_ N ih=>
  intro e f r s hN he hf h8 h8' h
  have whole:∀(x y:Ex) (r s:List UInt8),x.size<N→x.tree tm am=true→y.tree tm am=true→r.head? ≠some 42→s.head? ≠some 42→x.text++r=y.text++s→x=y∧r=s:=by
    intro x y r s hx tx ty hr hs h;obtain ⟨i,x0,rfl,a1,a2,a3⟩:=star_base tm am _ x (Nat.le_refl _) tx;obtain ⟨j,y0,rfl,b1,b2,b3⟩:=star_base tm am _ y (Nat.le_refl _) ty;rw [starN_text,starN_text,List.append_assoc,List.append_assoc] at h;obtain ⟨rfl,h'⟩:=ih x0.size (by omega) x0 y0 _ _ (Nat.le_refl _) a2 b2 a1 b1 h;obtain ⟨rfl,rfl⟩:=rep_inj i j hr hs h';exact ⟨rfl,rfl⟩
  obtain ⟨k,n,ks⟩:=e;obtain ⟨k',n',ks'⟩:=f;obtain ⟨hk,hnum,hc,htl⟩:=tree_parts he;obtain ⟨hk',hnum',hc',htl'⟩:=tree_parts hf;simp only [Ex.kind] at h8 h8';have hs:=Ex.size_eq (.mk k n ks);simp only [Ex.kids] at hs
  have z0:∀{q:Int} {l:List Ex},kidsN q=(l.length:Int)→q=1∨q=2∨q=3∨q=4→l=[]:=by
    intro q l hq hh
    have:kidsN q=0:=by unfold kidsN; rw [if_pos hh]
    exact List.eq_nil_of_length_eq_zero (by omega)
  rcases kind_cases hk with rfl|rfl|rfl|rfl|rfl|rfl|rfl|rfl<;>rcases kind_cases hk' with rfl|rfl|rfl|rfl|rfl|rfl|rfl|rfl
  all_goals first
    |exact absurd rfl h8
    |exact absurd rfl h8'
    |(exfalso; simp [Ex.text,texC] at h; done)
    |skip
  · obtain rfl:=z0 hk (by omega)
    obtain rfl:=z0 hk' (by omega)
    obtain rfl:n=0:=by simpa [numB] using hnum
    obtain rfl:n'=0:=by simpa [numB] using hnum'
    exact ⟨rfl,by simpa [Ex.text,texC] using h⟩
  · obtain rfl:=z0 hk (by omega)
    obtain rfl:=z0 hk' (by omega)
    obtain rfl:n=0:=by simpa [numB] using hnum
    obtain rfl:n'=0:=by simpa [numB] using hnum'
    exact ⟨rfl,by simpa [Ex.text,texC] using h⟩
  · obtain rfl:=z0 hk (by omega)
    obtain rfl:=z0 hk' (by omega);obtain ⟨a0,a8⟩:=numB_any (by omega) hnum ht ha;obtain ⟨b0,b8⟩:=numB_any (by omega) hnum' ht ha
    simp [Ex.text,texC] at h
    obtain ⟨h1,h2⟩:=digit_inj (by omega) (by omega) h
    obtain rfl:n=n':=by omega
    exact ⟨rfl,h2⟩
  · obtain rfl:=z0 hk (by omega)
    obtain rfl:=z0 hk' (by omega);obtain ⟨a0,a8⟩:=numB_any (by omega) hnum ht ha;obtain ⟨b0,b8⟩:=numB_any (by omega) hnum' ht ha
    simp [Ex.text,texC] at h
    obtain ⟨h1,h2⟩:=digit_inj (by omega) (by omega) h
    obtain rfl:n=n':=by omega
    exact ⟨rfl,h2⟩
  · obtain ⟨x,rfl⟩:=one_kid hk (by omega)
    obtain ⟨y,rfl⟩:=one_kid hk' (by omega)
    obtain rfl:n=0:=by simpa [numB] using hnum
    obtain rfl:n'=0:=by simpa [numB] using hnum'
    have cx:x.cond=true:=by simpa [Ex.condL] using hc rfl
    have cy:y.cond=true:=by simpa [Ex.condL] using hc' rfl
    simp [Ex.text,texC,Ex.textL] at h
    simp only [Ex.sizeL] at hs;obtain ⟨rfl,h'⟩:=ih x.size (by omega) x y r s (Nat.le_refl _) (Ex.treeL_mem htl (by simp)) (Ex.treeL_mem htl' (by simp)) (cond_kind cx) (cond_kind cy) h;exact ⟨rfl,h'⟩
  all_goals
    obtain ⟨x,y,rfl⟩:=two_kids hk (by omega);obtain ⟨x',y',rfl⟩:=two_kids hk' (by omega)
    obtain rfl:n=0:=by simpa [numB] using hnum
    obtain rfl:n'=0:=by simpa [numB] using hnum'
    have ty:y.tree tm am=true:=Ex.treeL_mem htl (by simp);have ty':y'.tree tm am=true:=Ex.treeL_mem htl' (by simp)
    simp [Ex.text,texC,Ex.textL] at h
    simp only [Ex.sizeL] at hs;obtain ⟨hxx,h2⟩:=whole x x' _ _ (by omega) (Ex.treeL_mem htl (by simp)) (Ex.treeL_mem htl' (by simp)) (by simp) (by simp) h;subst hxx;clear h;obtain ⟨c1,l1,q1,p1⟩:=text_head tm am _ y (Nat.le_refl _) ty;obtain ⟨c2,l2,q2,p2⟩:=text_head tm am _ y' (Nat.le_refl _) ty'
    first
      |(exfalso; rw [q1] at h2; simp at h2; exact p1 h2.1)
      |(exfalso; rw [q2] at h2; simp at h2; exact p2 h2.1.symm)
      | (simp at h2
         obtain ⟨hyy,h3⟩:=whole y y' _ _ (by omega) ty ty' (by simp) (by simp) h2;subst hyy
         exact ⟨rfl,by simpa using h3⟩)
theorem text_inj {tm am:Int} (ht:tm≤8) (ha:am≤8) {e f:Ex} (he:e.tree tm am=true) (hf:f.tree tm am=true) (h:e.text=f.text):e=f:=by
 obtain ⟨i,x0,rfl,a1,a2, -⟩:=star_base tm am _ e (Nat.le_refl _) he;obtain ⟨j,y0,rfl,b1,b2, -⟩:=star_base tm am _ f (Nat.le_refl _) hf;rw [starN_text,starN_text] at h;obtain ⟨rfl,h'⟩:=text_inj_core tm am ht ha _ x0 y0 _ _ (Nat.le_refl _) a2 b2 a1 b1 h;obtain ⟨rfl, -⟩:=rep_inj i j (r:=[]) (s:=[]) (by simp) (by simp) (by simpa using h')
 rfl
end Go.Proofs.YtfopdcdbelaapaaDoor
namespace Go.Proofs.YtfopdcdbelaapaaDoor
set_option linter.unusedVariables false
set_option linter.unusedSimpArgs false
section
variable {α:Type} [DecidableEq α]
def grow1 (L:List α):Option α→List α
 |none=>L
 |some x=>if x∈L then L else L++[x]
def growL (L:List α) (ss:List (Option α)):List α:=ss.foldl grow1 L
theorem growL_append (L:List α) (a b:List (Option α)):growL L (a++b)=growL (growL L a) b:=List.foldl_append
theorem grow1_old {L:List α} {x:α} (h:x∈L):grow1 L (some x)=L:=if_pos h
theorem grow1_new {L:List α} {x:α} (h:x∉L):grow1 L (some x)=L++[x]:=if_neg h
end
noncomputable instance exDec:DecidableEq Ex:=fun a b=>Classical.propDecidable (a=b)
def Ex.two (k:Int) (a b:Ex):Ex:= .mk k 0 [a,b]
def Ex.leaf (k:Int):Ex:= .mk k 0 []
def summC (k n:Int) (ks:List Ex) (rs:List (List Ex)):List Ex:=if k=1 then [] else if k=6 then rs.flatten else [.mk k n ks]
mutual
def Ex.summ:Ex→List Ex
 | .mk k n ks=>summC k n ks (Ex.summL ks)
def Ex.summL:List Ex→List (List Ex)
 |[]=>[]
 |e::r=>e.summ::Ex.summL r
end
theorem Ex.summ_zero {n:Int} {ks:List Ex}:(Ex.mk 1 n ks).summ=[]:=by simp [Ex.summ,summC]
theorem Ex.summ_sum {n:Int} {a b:Ex}:(Ex.mk 6 n [a,b]).summ=a.summ++b.summ:=by simp [Ex.summ,summC,Ex.summL]
theorem Ex.summ_else {k n:Int} {ks:List Ex} (h1:k≠1) (h6:k≠6):(Ex.mk k n ks).summ=[.mk k n ks]:=by simp [Ex.summ,summC,h1,h6]
def sizes (L:List Ex):Nat:=(L.map Ex.size).sum
theorem sizes_append (a b:List Ex):sizes (a++b)=sizes a+sizes b:=by simp [sizes]
theorem summ_spec (tm am:Int) (N:Nat):∀e:Ex,e.size≤N→e.tree tm am=true→(∀x∈e.summ,x.tree tm am=true∧x.size≤e.size)∧sizes e.summ+e.summ.length≤e.size+1:=by
 induction N using Nat.strongRecOn with
 |_ N ih=>
 intro e hN ht;obtain ⟨k,n,ks⟩:=e
 by_cases h1:k=1
 ·
  subst h1;rw [Ex.summ_zero]
  simp [sizes]
 by_cases h6:k=6
 ·
  subst h6;obtain ⟨hk, -, -, htl⟩:=tree_parts ht;obtain ⟨a,b,rfl⟩:=two_kids hk (by omega);have hs:=Ex.size_eq (.mk 6 n [a,b]);simp only [Ex.kids,Ex.sizeL] at hs;obtain ⟨a1,a2⟩:=ih a.size (by omega) a (Nat.le_refl _) (Ex.treeL_mem htl (by simp));obtain ⟨b1,b2⟩:=ih b.size (by omega) b (Nat.le_refl _) (Ex.treeL_mem htl (by simp));rw [Ex.summ_sum];refine ⟨fun x hx=> ?_,by rw [sizes_append,List.length_append]; omega⟩
  rcases List.mem_append.1 hx with hx|hx
  ·
   exact ⟨(a1 x hx).1,by have:=(a1 x hx).2; omega⟩
  ·
   exact ⟨(b1 x hx).1,by have:=(b1 x hx).2; omega⟩
 ·
  rw [Ex.summ_else h1 h6];refine ⟨fun x hx=> ?_,by simp [sizes]⟩;rw [List.mem_singleton] at hx;subst hx;exact ⟨ht,Nat.le_refl _⟩
def Ex.lt (a b:Ex):Bool:=decide (a.text<b.text)
def insT (e:Ex) (L:List Ex):List Ex:=L.takeWhile (fun x=>Ex.lt x e)++e::L.dropWhile (fun x=>x.lt e)
def sortI (L:List Ex):List Ex:=L.foldl (fun acc e=>insT e acc) []
theorem insT_perm (e:Ex) (L:List Ex):(insT e L).Perm (e::L):=by
 unfold insT;refine List.perm_middle.trans ?_;rw [List.takeWhile_append_dropWhile]
theorem sortI_perm_aux:∀(L acc:List Ex),(L.foldl (fun acc e=>insT e acc) acc).Perm (acc++L)
 |[],acc=>by simp
 |e::r,acc=>by
  refine (sortI_perm_aux r (insT e acc)).trans ?_;refine ((insT_perm e acc).append_right r).trans ?_;exact (List.perm_middle (a:=e) (l₁:=acc) (l₂:=r)).symm
theorem sortI_perm (L:List Ex):(sortI L).Perm L:=by have:=sortI_perm_aux L []; rwa [List.nil_append] at this
def leT (a b:Ex):Prop:=¬b.text<a.text
theorem leT_trans {a b c:Ex} (h:leT a b) (k:leT b c):leT a c:=by
 unfold leT at*;rw [List.not_lt] at*;exact List.le_trans h k
theorem leT_of_lt {a b:Ex} (h:a.text<b.text):leT a b:=List.lt_asymm h
theorem insT_sorted (e:Ex):∀L:List Ex,L.Pairwise leT→(insT e L).Pairwise leT
 |[],_=>by simp [insT]
 |x::r,h=>by
  rw [List.pairwise_cons] at h;unfold insT
  by_cases hx:x.lt e=true
  ·
   rw [List.takeWhile_cons_of_pos (p:=fun x=>Ex.lt x e) hx,List.dropWhile_cons_of_pos (p:=fun x=>Ex.lt x e) hx,List.cons_append,List.pairwise_cons];refine ⟨fun y hy=> ?_,insT_sorted e r h.2⟩;have hy':y∈insT e r:=hy
   rcases List.mem_cons.1 ((insT_perm e r).mem_iff.1 hy') with rfl|hy2
   ·
    exact leT_of_lt (by simpa [Ex.lt] using hx)
   ·
    exact h.1 y hy2
  ·
   rw [List.takeWhile_cons_of_neg (p:=fun x=>Ex.lt x e) hx,List.dropWhile_cons_of_neg (p:=fun x=>Ex.lt x e) hx,List.nil_append,List.pairwise_cons]
   have hxe:leT e x:=by simpa [Ex.lt,leT] using hx
   refine ⟨fun y hy=> ?_,List.pairwise_cons.2 h⟩
   rcases List.mem_cons.1 hy with rfl|hy
   ·
    exact hxe
   ·
    exact leT_trans hxe (h.1 y hy)
theorem sortI_sorted_aux:∀(L acc:List Ex),acc.Pairwise leT→(L.foldl (fun acc e=>insT e acc) acc).Pairwise leT
 |[],_,h=>h
 |e::r,acc,h=>sortI_sorted_aux r _ (insT_sorted e acc h)
theorem sortI_sorted (L:List Ex):(sortI L).Pairwise leT:=sortI_sorted_aux L [] List.Pairwise.nil
theorem sortI_unique {tm am:Int} (ht:tm≤8) (ha:am≤8) {L M:List Ex} (hL:∀x∈L,x.tree tm am=true) (hp:M.Perm L) (hs:M.Pairwise leT):M=sortI L:=by
 refine List.Perm.eq_of_pairwise (le:=leT) (fun a b h1 h2 h3 h4=> ?_) hs (sortI_sorted L) (hp.trans (sortI_perm L).symm);have ha':=hL a (hp.mem_iff.1 h1);have hb':=hL b ((sortI_perm L).mem_iff.1 h2);unfold leT at h3 h4;rw [List.not_lt] at h3 h4;exact text_inj ht ha ha' hb' (List.le_antisymm h3 h4)
noncomputable def nub (L:List Ex):List Ex:=growL [] (L.map some)
def foldS:List Ex→Ex
 |[]=> .leaf 1
 |x::r=>r.foldl (fun a b=> .two 6 a b) x
noncomputable def sumT (x y:Ex):Ex:=foldS (sortI (nub (x.summ++y.summ)))
theorem growL_mem {α:Type} [DecidableEq α]:∀(ss:List α) (L:List α) (x:α),x∈growL L (ss.map some)↔x∈L∨x∈ss
 |[],L,x=>by simp [growL]
 |s::r,L,x=>by
  show x∈growL (grow1 L (some s)) (r.map some)↔_
  rw [growL_mem r]
  by_cases h:s∈L
  ·
   rw [grow1_old h]
   constructor
   ·
    rintro (q|q); exact Or.inl q; exact Or.inr (List.mem_cons_of_mem _ q)
   ·
    rintro (q|q)
    ·
     exact Or.inl q
    ·
     rcases List.mem_cons.1 q with rfl|q; exact Or.inl h; exact Or.inr q
  ·
   rw [grow1_new h]
   simp [or_assoc]
theorem nub_mem {L:List Ex} {x:Ex}:x∈nub L↔x∈L:=by unfold nub; rw [growL_mem]; simp
theorem grow_sizes:∀(ss:List Ex) (L:List Ex),sizes (growL L (ss.map some))+(growL L (ss.map some)).length≤sizes L+L.length+(sizes ss+ss.length)
 |[],L=>by simp [growL,sizes]
 |s::r,L=>by
  show sizes (growL (grow1 L (some s)) (r.map some))+(growL (grow1 L (some s)) (r.map some)).length≤_
  have:=grow_sizes r (grow1 L (some s))
  have h2:sizes (s::r)=s.size+sizes r:=by simp [sizes]
  have h3:sizes (grow1 L (some s))+(grow1 L (some s)).length≤sizes L+L.length+(s.size+1):=by
   by_cases h:s∈L
   ·
    rw [grow1_old h]; omega
   ·
    rw [grow1_new h,sizes_append,List.length_append]
    simp [sizes]
    omega
  rw [h2,List.length_cons];omega
theorem nub_sizes (L:List Ex):sizes (nub L)+(nub L).length≤sizes L+L.length:=by
 have:=grow_sizes L []
 simpa [nub,sizes] using this
theorem foldS_size:∀(r:List Ex) (x:Ex),(r.foldl (fun a b=>Ex.two 6 a b) x).size=x.size+sizes r+r.length
 |[],x=>by simp [sizes]
 |e::r,x=>by
  rw [List.foldl_cons,foldS_size r]
  have:(Ex.two 6 x e).size=1+(x.size+e.size):=by rw [Ex.size_eq]; simp [Ex.two,Ex.kids,Ex.sizeL]
  simp [this,sizes]
  omega
theorem sizes_perm {L M:List Ex} (h:L.Perm M):sizes L=sizes M:=List.Perm.sum_nat (h.map Ex.size)
theorem tree_two {tm am k:Int} {a b:Ex} (hk:k=6∨k=7) (ha:a.tree tm am=true) (hb:b.tree tm am=true):(Ex.two k a b).tree tm am=true:=by
 rcases hk with rfl|rfl<;>simp [Ex.two,Ex.tree,Ex.treeL,ha,hb,nodeB,kidsN,numB]
theorem tree_leaf {tm am k:Int} (hk:k=1∨k=2):(Ex.leaf k).tree tm am=true:=by
 rcases hk with rfl|rfl<;>simp [Ex.leaf,Ex.tree,Ex.treeL,nodeB,kidsN,numB]
theorem foldS_tree {tm am:Int}:∀(r:List Ex) (x:Ex),x.tree tm am=true→(∀y∈r,y.tree tm am=true)→(r.foldl (fun a b=>Ex.two 6 a b) x).tree tm am=true
 |[],x,h,_=>h
 |e::r,x,h,hr=>foldS_tree r _ (tree_two (Or.inl rfl) h (hr e (by simp))) (fun y hy=>hr y (by simp [hy]))
theorem sumT_spec {tm am:Int} {x y:Ex} (hx:x.tree tm am=true) (hy:y.tree tm am=true):(sumT x y).tree tm am=true∧(sumT x y).size≤1+x.size+y.size:=by
 obtain ⟨x1,x2⟩:=summ_spec tm am _ x (Nat.le_refl _) hx;obtain ⟨y1,y2⟩:=summ_spec tm am _ y (Nat.le_refl _) hy
 have hm:∀z∈sortI (nub (x.summ++y.summ)),z.tree tm am=true:=fun z hz=>by
  have:=nub_mem.1 ((sortI_perm _).mem_iff.1 hz)
  rcases List.mem_append.1 this with h|h
  ·
   exact (x1 z h).1
  ·
   exact (y1 z h).1
 have hs:=nub_sizes (x.summ++y.summ);rw [sizes_append,List.length_append,←sizes_perm (sortI_perm (nub _)),←(sortI_perm (nub _)).length_eq] at hs;unfold sumT;generalize sortI (nub (x.summ++y.summ))=L at hm hs
 cases L with
 |nil=>exact ⟨tree_leaf (Or.inl rfl),by simp [foldS,Ex.leaf,Ex.size,Ex.sizeL]; omega⟩
 |cons z r=>
  refine ⟨foldS_tree r z (hm z (by simp)) (fun q hq=>hm q (by simp [hq])), ?_⟩
  show (r.foldl (fun a b=>Ex.two 6 a b) z).size≤_
  rw [foldS_size]
  have hz:sizes (z::r)=z.size+sizes r:=by simp [sizes]
  rw [hz,List.length_cons] at hs;omega
def dotC (k n:Int) (ks:List Ex) (fs:List (Ex→Ex)) (y:Ex):Ex:=
 if k=1∨y.kind=1 then .leaf 1 else if k=2 then y else if y.kind=2 then .mk k n ks
 else if k=7 then fs.foldr (fun f z=>f z) y else .two 7 (.mk k n ks) y
mutual
def Ex.dot:Ex→Ex→Ex
 | .mk k n ks=>fun y=>dotC k n ks (Ex.dotL ks) y
def Ex.dotL:List Ex→List (Ex→Ex)
 |[]=>[]
 |e::r=>e.dot::Ex.dotL r
end
theorem Ex.dot_eq (k n:Int) (ks:List Ex) (y:Ex):(Ex.mk k n ks).dot y=dotC k n ks (Ex.dotL ks) y:=by simp only [Ex.dot]
theorem Ex.dot_seven {n:Int} {a b y:Ex} (h1:y.kind≠1) (h2:y.kind≠2):(Ex.mk 7 n [a,b]).dot y=a.dot (b.dot y):=by
 rw [Ex.dot_eq]
 simp [dotC,h1,h2,Ex.dotL]
theorem dot_spec (tm am:Int) (N:Nat):∀x y:Ex,x.size≤N→x.tree tm am=true→y.tree tm am=true→(x.dot y).tree tm am=true∧(x.dot y).size≤1+x.size+y.size:=by
 induction N using Nat.strongRecOn with
 |_ N ih=>
 intro x y hN hx hy;obtain ⟨k,n,ks⟩:=x;have hs:=Ex.size_eq (.mk k n ks);simp only [Ex.kids] at hs
 by_cases h1:k=1∨y.kind=1
 ·
  rw [Ex.dot_eq,dotC,if_pos h1];exact ⟨tree_leaf (Or.inl rfl),by simp [Ex.leaf,Ex.size,Ex.sizeL]; omega⟩
 by_cases h2:k=2
 ·
  rw [Ex.dot_eq,dotC,if_neg h1,if_pos h2];exact ⟨hy,by omega⟩
 by_cases h3:y.kind=2
 ·
  rw [Ex.dot_eq,dotC,if_neg h1,if_neg h2,if_pos h3];exact ⟨hx,by omega⟩
 by_cases h7:k=7
 ·
  subst h7;obtain ⟨hk, -, -, htl⟩:=tree_parts hx;obtain ⟨a,b,rfl⟩:=two_kids hk (by omega);simp only [Ex.sizeL] at hs;obtain ⟨b1,b2⟩:=ih b.size (by omega) b y (Nat.le_refl _) (Ex.treeL_mem htl (by simp)) hy;obtain ⟨a1,a2⟩:=ih a.size (by omega) a (b.dot y) (Nat.le_refl _) (Ex.treeL_mem htl (by simp)) b1;rw [Ex.dot_seven (by omega) h3];exact ⟨a1,by omega⟩
 ·
  rw [Ex.dot_eq,dotC,if_neg h1,if_neg h2,if_neg h3,if_neg h7];exact ⟨tree_two (Or.inr rfl) hx hy,by rw [Ex.size_eq]; simp [Ex.two,Ex.kids,Ex.sizeL]; omega⟩
def Ex.star (x:Ex):Ex:=if x.cond=true then .leaf 2 else if x.kind=8 then x else .mk 8 0 [x]
theorem star_spec {tm am:Int} {x:Ex} (hx:x.tree tm am=true):x.star.tree tm am=true∧x.star.size≤1+x.size:=by
 unfold Ex.star
 split
 ·
  exact ⟨tree_leaf (Or.inr rfl),by simp [Ex.leaf,Ex.size,Ex.sizeL]⟩
 split
 ·
  exact ⟨hx,by omega⟩
 ·
  exact ⟨by simp [Ex.tree,Ex.treeL,hx,nodeB,kidsN,numB],by simp [Ex.size,Ex.sizeL]⟩
noncomputable def tidyC (k n:Int) (ks ts:List Ex):Ex:=
 if k=6 then sumT (ts.getD 0 (.leaf 1)) (ts.getD 1 (.leaf 1)) else if k=7 then (ts.getD 0 (.leaf 1)).dot (ts.getD 1 (.leaf 1)) else if k=8 then (ts.getD 0 (.leaf 1)).star else .mk k n ks
mutual
noncomputable def Ex.tidy:Ex→Ex
 | .mk k n ks=>tidyC k n ks (Ex.tidyL ks)
noncomputable def Ex.tidyL:List Ex→List Ex
 |[]=>[]
 |e::r=>e.tidy::Ex.tidyL r
end
theorem Ex.tidy_eq (k n:Int) (ks:List Ex):(Ex.mk k n ks).tidy=tidyC k n ks (Ex.tidyL ks):=by simp only [Ex.tidy]
theorem Ex.tidy_sum {n:Int} {a b:Ex}:(Ex.mk 6 n [a,b]).tidy=sumT a.tidy b.tidy:=by rw [Ex.tidy_eq]; simp [tidyC,Ex.tidyL]
theorem Ex.tidy_dot {n:Int} {a b:Ex}:(Ex.mk 7 n [a,b]).tidy=a.tidy.dot b.tidy:=by rw [Ex.tidy_eq]; simp [tidyC,Ex.tidyL]
theorem Ex.tidy_star {n:Int} {a:Ex}:(Ex.mk 8 n [a]).tidy=a.tidy.star:=by rw [Ex.tidy_eq]; simp [tidyC,Ex.tidyL]
theorem Ex.tidy_else {k n:Int} {ks:List Ex} (h6:k≠6) (h7:k≠7) (h8:k≠8):(Ex.mk k n ks).tidy= .mk k n ks:=by rw [Ex.tidy_eq,tidyC,if_neg h6,if_neg h7,if_neg h8]
theorem tidy_spec (tm am:Int) (N:Nat):∀e:Ex,e.size≤N→e.tree tm am=true→e.tidy.tree tm am=true∧e.tidy.size≤e.size:=by
 induction N using Nat.strongRecOn with
 |_ N ih=>
 intro e hN ht;obtain ⟨k,n,ks⟩:=e;obtain ⟨hk, -, -, htl⟩:=tree_parts ht;have hs:=Ex.size_eq (.mk k n ks);simp only [Ex.kids] at hs
 by_cases h67:k=6∨k=7
 ·
  obtain ⟨a,b,rfl⟩:=two_kids hk h67;simp only [Ex.sizeL] at hs;obtain ⟨a1,a2⟩:=ih a.size (by omega) a (Nat.le_refl _) (Ex.treeL_mem htl (by simp));obtain ⟨b1,b2⟩:=ih b.size (by omega) b (Nat.le_refl _) (Ex.treeL_mem htl (by simp))
  rcases h67 with rfl|rfl
  ·
   rw [Ex.tidy_sum];obtain ⟨c1,c2⟩:=sumT_spec a1 b1;exact ⟨c1,by omega⟩
  ·
   rw [Ex.tidy_dot];obtain ⟨c1,c2⟩:=dot_spec tm am _ a.tidy b.tidy (Nat.le_refl _) a1 b1;exact ⟨c1,by omega⟩
 by_cases h8:k=8
 ·
  subst h8;obtain ⟨a,rfl⟩:=one_kid hk (by omega);simp only [Ex.sizeL] at hs;obtain ⟨a1,a2⟩:=ih a.size (by omega) a (Nat.le_refl _) (Ex.treeL_mem htl (by simp));rw [Ex.tidy_star];obtain ⟨c1,c2⟩:=star_spec a1;exact ⟨c1,by omega⟩
 ·
  rw [Ex.tidy_else (by omega) (by omega) h8];exact ⟨ht,Nat.le_refl _⟩
end Go.Proofs.YtfopdcdbelaapaaDoor
