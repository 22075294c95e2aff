/-
  Parts of a proof, joined: Empty, TextE, Inj. No condition.
-/
import Derived.Test.YtlchgfbkdjjngaaGreatDoorPk7
set_option linter.unusedVariables false
set_option linter.unusedSimpArgs false
namespace Go.Proofs.YtlchgfbkdjjngaaGreatDoor
open Go.ChangeShapes Go.WideShapes Go.ChangeAt Go.RowKit Go.Sort
theorem D5 {k:Int} {n:Nat} (h:Bi k=(n:Int)):k=1∨k=2∨k=3∨k=4∨k=5∨k=6∨k=7∨k=8:=by
 by_cases hk:k=1∨k=2∨k=3∨k=4∨k=5∨k=6∨k=7∨k=8
 ·exact hk
 exfalso
 unfold Bi at h;rw [if_neg (by omega),if_neg (by omega),if_neg (by omega)] at h;omega
set_option maxHeartbeats 4000000 in
theorem Lh (tm am atom:Int) (ht:tm≤2) (h0:0≤atom) (h7:atom≤7) (N:Nat):∀(k n:Int) (ks:List Ex) (s:Option Addr) (c:Nat) (w:World),Ex.sizeL ks≤N→Rd w (Ae ks) (.slice s ks.length c)→
    Ex.tree tm am (.mk k n ks)=true→
    Calls Tryz.prog 73 #[.agg #[.int .i64 k,.int .i64 n,.slice s ks.length c],.int .i64 atom] w fun f w'=>f= .returned (.bool (Ex.emp atom (.mk k n ks)))∧Below w.heap.size w w':=by
  induction N using Nat.strongRecOn with
  |_ N ih=>
  intro k n ks s c w hN hr htr;obtain ⟨hk,hnum,hc,htl⟩:=Aq htr
  rcases D5 hk with rfl|rfl|rfl|rfl|rfl|rfl|rfl|rfl
  · have e:Ex.emp atom (.mk 1 n ks)=false:=by simp [Ex.emp,Dw]
    rw [e];clear hk hnum htl e hc
    go_enter Tryz.func73,Tryz.ntmps73
    go_wp2_with fail;go_ret;exact ⟨rfl,bel⟩
  · have e:Ex.emp atom (.mk 2 n ks)=true:=by simp [Ex.emp,Dw]
    rw [e];clear hk hnum htl e hc
    go_enter Tryz.func73,Tryz.ntmps73
    go_wp2_with fail;go_ret;exact ⟨rfl,bel⟩
  · have e:Ex.emp atom (.mk 3 n ks)=Ex.tru atom (.mk 3 n ks):=by simp [Ex.emp,Dw,Ex.tru]
    have hcc:Ex.cond (.mk 3 n ks)=true:=by rw [Ex.cond_eq]; simp [Ex.kind,Ex.kids,Bl,H5 hk (by omega),Ex.condL]
    rw [e];clear hk hnum htl e hc
    go_enter Tryz.func73,Tryz.ntmps73
    go_wp2_with fail;refine (Pf tm am atom ht h0 h7 _ _ _ _ _ _ _ (Nat.le_refl _) (hr.alloc _) htr hcc).mono ?_;rintro y w1 ⟨rfl,hb⟩;have hB:Below w.heap.size w w1:=Below.on (bel) hb (by simp);go_wp2_with fail;go_ret;exact ⟨rfl,hB⟩
  · have e:Ex.emp atom (.mk 4 n ks)=false:=by simp [Ex.emp,Dw]
    rw [e];clear hk hnum htl e hc
    go_enter Tryz.func73,Tryz.ntmps73
    go_wp2_with fail;go_ret;exact ⟨rfl,bel⟩
  · have e:Ex.emp atom (.mk 5 n ks)=Ex.tru atom (.mk 5 n ks):=by simp [Ex.emp,Dw,Ex.tru]
    have hcc:Ex.cond (.mk 5 n ks)=true:=by rw [Ex.cond_eq]; simp [Ex.kind,Ex.kids,Bl,hc rfl]
    rw [e];clear hk hnum htl e hc
    go_enter Tryz.func73,Tryz.ntmps73
    go_wp2_with fail;refine (Pf tm am atom ht h0 h7 _ _ _ _ _ _ _ (Nat.le_refl _) (hr.alloc _) htr hcc).mono ?_;rintro y w1 ⟨rfl,hb⟩;have hB:Below w.heap.size w w1:=Below.on (bel) hb (by simp);go_wp2_with fail;go_ret;exact ⟨rfl,hB⟩
  · obtain ⟨x,y,rfl⟩:=As hk (by omega)
    have hx:[x,y][0]? =some x:=rfl;have hy:[x,y][1]? =some y:=rfl;obtain ⟨b',o',rfl⟩:=An hr (by simp)
    have e:Ex.emp atom (.mk 6 n [x,y])=or (Ex.emp atom (.mk x.kind x.num x.kids)) (Ex.emp atom (.mk y.kind y.num y.kids)):=by rw [←Ex.eta x,←Ex.eta y]; simp [Ex.emp,Ex.empL,Dw]
    have hxt:Ex.tree tm am (.mk x.kind x.num x.kids)=true:=by rw [←Ex.eta x]; exact Ex.treeL_mem htl (by simp)
    have hyt:Ex.tree tm am (.mk y.kind y.num y.kids)=true:=by rw [←Ex.eta y]; exact Ex.treeL_mem htl (by simp)
    skip
    have hxs:Ex.sizeL x.kids<N:=by have:=Ex.size_eq x; simp only [Ex.sizeL] at hN; omega
    have hys:Ex.sizeL y.kids<N:=by have:=Ex.size_eq y; simp only [Ex.sizeL] at hN; omega
    rw [e];clear hk hnum htl hc htr e;obtain ⟨hbl,s',c',g0,g1,g2,gr⟩:=A3 hr hx;obtain ⟨-, s2,c2,k0,k1,k2,kr⟩:=A3 hr hy;simp only [Nat.zero_mul,Nat.add_zero] at g0 g1 g2;simp only [Nat.one_mul] at k0 k1 k2;have L:=Blk.new3 w 28 (.int .i64 6) (.int .i64 n) (.slice (some ⟨b',o',none⟩) 2 c)
    go_enter Tryz.func73,Tryz.ntmps73
    go_wp2_with fail;refine (ih _ hxs _ _ _ _ _ _ (Nat.le_refl _) (gr.alloc _) hxt ).mono ?_;rintro z w1 ⟨rfl,hb⟩;have hB:Below w.heap.size w w1:=Below.on (bel) hb (by simp);replace L:=L.below hb;have l2:=L.c2;have k0':=(hB.cell (p:=⟨b',o'+3,none⟩) hbl).trans k0;have k1':=(hB.cell (p:=⟨b',o'+3+1,none⟩) hbl).trans k1;have k2':=(hB.cell (p:=⟨b',o'+3+2,none⟩) hbl).trans k2;clear k0 k1 k2 g0 g1 g2 hb
    cases h1:Ex.emp atom (.mk x.kind x.num x.kids)
    all_goals
      go_wp2_with fail
      first
        | (refine (ih _ hys _ _ _ _ _ _ (Nat.le_refl _) (kr.below hB) hyt ).mono ?_
           rintro z w2 ⟨rfl,hb⟩;replace hB:=Below.on hB hb hB.size;go_wp2_with fail;go_ret
           exact ⟨Av (by simp [h1]),hB⟩)
        | (go_ret
           exact ⟨Av (by simp [h1]),hB⟩)
  · obtain ⟨x,y,rfl⟩:=As hk (by omega)
    have hx:[x,y][0]? =some x:=rfl;have hy:[x,y][1]? =some y:=rfl;obtain ⟨b',o',rfl⟩:=An hr (by simp)
    have e:Ex.emp atom (.mk 7 n [x,y])=and (Ex.emp atom (.mk x.kind x.num x.kids)) (Ex.emp atom (.mk y.kind y.num y.kids)):=by rw [←Ex.eta x,←Ex.eta y]; simp [Ex.emp,Ex.empL,Dw]
    have hxt:Ex.tree tm am (.mk x.kind x.num x.kids)=true:=by rw [←Ex.eta x]; exact Ex.treeL_mem htl (by simp)
    have hyt:Ex.tree tm am (.mk y.kind y.num y.kids)=true:=by rw [←Ex.eta y]; exact Ex.treeL_mem htl (by simp)
    skip
    have hxs:Ex.sizeL x.kids<N:=by have:=Ex.size_eq x; simp only [Ex.sizeL] at hN; omega
    have hys:Ex.sizeL y.kids<N:=by have:=Ex.size_eq y; simp only [Ex.sizeL] at hN; omega
    rw [e];clear hk hnum htl hc htr e;obtain ⟨hbl,s',c',g0,g1,g2,gr⟩:=A3 hr hx;obtain ⟨-, s2,c2,k0,k1,k2,kr⟩:=A3 hr hy;simp only [Nat.zero_mul,Nat.add_zero] at g0 g1 g2;simp only [Nat.one_mul] at k0 k1 k2;have L:=Blk.new3 w 28 (.int .i64 7) (.int .i64 n) (.slice (some ⟨b',o',none⟩) 2 c)
    go_enter Tryz.func73,Tryz.ntmps73
    go_wp2_with fail;refine (ih _ hxs _ _ _ _ _ _ (Nat.le_refl _) (gr.alloc _) hxt ).mono ?_;rintro z w1 ⟨rfl,hb⟩;have hB:Below w.heap.size w w1:=Below.on (bel) hb (by simp);replace L:=L.below hb;have l2:=L.c2;have k0':=(hB.cell (p:=⟨b',o'+3,none⟩) hbl).trans k0;have k1':=(hB.cell (p:=⟨b',o'+3+1,none⟩) hbl).trans k1;have k2':=(hB.cell (p:=⟨b',o'+3+2,none⟩) hbl).trans k2;clear k0 k1 k2 g0 g1 g2 hb
    cases h1:Ex.emp atom (.mk x.kind x.num x.kids)
    all_goals
      go_wp2_with fail
      first
        | (refine (ih _ hys _ _ _ _ _ _ (Nat.le_refl _) (kr.below hB) hyt ).mono ?_
           rintro z w2 ⟨rfl,hb⟩;replace hB:=Below.on hB hb hB.size;go_wp2_with fail;go_ret
           exact ⟨Av (by simp [h1]),hB⟩)
        | (go_ret
           exact ⟨Av (by simp [h1]),hB⟩)
  · have e:Ex.emp atom (.mk 8 n ks)=true:=by simp [Ex.emp,Dw]
    rw [e];clear hk hnum htl e hc
    go_enter Tryz.func73,Tryz.ntmps73
    go_wp2_with fail;go_ret;exact ⟨rfl,bel⟩
theorem Jz {k:Int} {ks:List Ex} (h:Bi k=(ks.length:Int)) (hk:k=1∨k=2∨k=3∨k=4):ks=[]:=by
 unfold Bi at h; rw [if_pos hk] at h; exact List.eq_nil_of_length_eq_zero (by omega)
set_option maxHeartbeats 4000000 in
theorem Kf (tm am atom:Int) (ht:tm≤2) (h0:0≤atom) (h7:atom≤7) (N:Nat):∀(e:Ex) (b o:Nat) (w:World),e.size≤N→Ap w b o e→e.tree tm am=true→
    Calls Tryz.prog 70 #[.pointer (some ⟨b,o,none⟩),.int .i64 atom] w fun f w'=>f= .returned (.bool (e.emp atom))∧w=w':=by
  induction N using Nat.strongRecOn with
  |_ N ih=>
  intro e b o w hN hr htr;obtain ⟨k,n,ks⟩:=e;obtain ⟨g0,g1,s,c,g2,hr⟩:=hr;simp only [Ex.kind,Ex.num,Ex.kids] at g0 g1 g2 hr;obtain ⟨hk,hnum,hc,htl⟩:=Aq htr
  rcases D5 hk with rfl|rfl|rfl|rfl|rfl|rfl|rfl|rfl
  · have e:Ex.emp atom (.mk 1 n ks)=Ex.tru atom (.mk 1 n ks):=by simp [Ex.emp,Dw,Ex.tru,E6]
    have hcc:Ex.cond (.mk 1 n ks)=true:=by rw [Ex.cond_eq]; simp [Ex.kind,Ex.kids,Bl,Jz hk (by omega),Ex.condL]
    rw [e];clear hk hnum htl e hc;have hat:Ap w b o (.mk 1 n ks):=⟨g0,g1,s,c,g2,hr⟩
    go_enter Tryz.func70,Tryz.ntmps70
    go_wp2_with fail;refine (G5 tm am atom ht h0 h7 _ _ _ _ _ (Nat.le_refl _) hat htr hcc).mono ?_;rintro y w' ⟨rfl,rfl⟩;go_wp2_with fail;go_ret;exact ⟨rfl,rfl⟩
  · have e:Ex.emp atom (.mk 2 n ks)=Ex.tru atom (.mk 2 n ks):=by simp [Ex.emp,Dw,Ex.tru,E6]
    have hcc:Ex.cond (.mk 2 n ks)=true:=by rw [Ex.cond_eq]; simp [Ex.kind,Ex.kids,Bl,Jz hk (by omega),Ex.condL]
    rw [e];clear hk hnum htl e hc;have hat:Ap w b o (.mk 2 n ks):=⟨g0,g1,s,c,g2,hr⟩
    go_enter Tryz.func70,Tryz.ntmps70
    go_wp2_with fail;refine (G5 tm am atom ht h0 h7 _ _ _ _ _ (Nat.le_refl _) hat htr hcc).mono ?_;rintro y w' ⟨rfl,rfl⟩;go_wp2_with fail;go_ret;exact ⟨rfl,rfl⟩
  · have e:Ex.emp atom (.mk 3 n ks)=Ex.tru atom (.mk 3 n ks):=by simp [Ex.emp,Dw,Ex.tru,E6]
    have hcc:Ex.cond (.mk 3 n ks)=true:=by rw [Ex.cond_eq]; simp [Ex.kind,Ex.kids,Bl,Jz hk (by omega),Ex.condL]
    rw [e];clear hk hnum htl e hc;have hat:Ap w b o (.mk 3 n ks):=⟨g0,g1,s,c,g2,hr⟩
    go_enter Tryz.func70,Tryz.ntmps70
    go_wp2_with fail;refine (G5 tm am atom ht h0 h7 _ _ _ _ _ (Nat.le_refl _) hat htr hcc).mono ?_;rintro y w' ⟨rfl,rfl⟩;go_wp2_with fail;go_ret;exact ⟨rfl,rfl⟩
  · have e:Ex.emp atom (.mk 4 n ks)=false:=by simp [Ex.emp,Dw]
    rw [e];clear hk hnum htl e hc
    go_enter Tryz.func70,Tryz.ntmps70
    go_wp2_with fail;go_ret;exact ⟨rfl,rfl⟩
  · have e:Ex.emp atom (.mk 5 n ks)=Ex.tru atom (.mk 5 n ks):=by simp [Ex.emp,Dw,Ex.tru,E6]
    have hcc:Ex.cond (.mk 5 n ks)=true:=by rw [Ex.cond_eq]; simp [Ex.kind,Ex.kids,Bl,hc rfl]
    rw [e];clear hk hnum htl e hc;have hat:Ap w b o (.mk 5 n ks):=⟨g0,g1,s,c,g2,hr⟩
    go_enter Tryz.func70,Tryz.ntmps70
    go_wp2_with fail;refine (G5 tm am atom ht h0 h7 _ _ _ _ _ (Nat.le_refl _) hat htr hcc).mono ?_;rintro y w' ⟨rfl,rfl⟩;go_wp2_with fail;go_ret;exact ⟨rfl,rfl⟩
  · obtain ⟨x,y,rfl⟩:=As hk (by omega)
    have hx:[x,y][0]? =some x:=rfl;have hy:[x,y][1]? =some y:=rfl;obtain ⟨b',o',rfl⟩:=An hr (by simp)
    have e:Ex.emp atom (.mk 6 n [x,y])=or (Ex.emp atom x) (Ex.emp atom y):=by simp [Ex.emp,Ex.empL,Dw]
    have hxt:Ex.tree tm am x=true:=Ex.treeL_mem htl (by simp);have hyt:Ex.tree tm am y=true:=Ex.treeL_mem htl (by simp)
    skip
    have hxs:x.size<N:=by simp only [Ex.size,Ex.sizeL] at hN; omega
    have hys:y.size<N:=by simp only [Ex.size,Ex.sizeL] at hN; omega
    have hax:=Ay hr hx;have hay:=Ay hr hy;simp only [Nat.zero_mul,Nat.one_mul,Nat.add_zero] at hax hay;obtain ⟨-, hlen,hcap, -, -⟩:=A0 hr;unfold maxLen at hcap;simp only [List.length_cons,List.length_nil] at hlen;rw [e];clear hk hnum htl hc htr e
    go_enter Tryz.func70,Tryz.ntmps70
    go_wp2_with fail;refine (ih _ hxs x _ _ _ (Nat.le_refl _) hax hxt ).mono ?_;rintro z w' ⟨rfl,rfl⟩
    cases h1:Ex.emp atom x
    all_goals
      go_wp2_with fail
      first
        | (refine (ih _ hys y _ _ _ (Nat.le_refl _) hay hyt ).mono ?_
           rintro z w' ⟨rfl,rfl⟩;go_wp2_with fail;go_ret
           exact ⟨Av (by simp [h1]),rfl⟩)
        | (go_ret
           exact ⟨Av (by simp [h1]),rfl⟩)
  · obtain ⟨x,y,rfl⟩:=As hk (by omega)
    have hx:[x,y][0]? =some x:=rfl;have hy:[x,y][1]? =some y:=rfl;obtain ⟨b',o',rfl⟩:=An hr (by simp)
    have e:Ex.emp atom (.mk 7 n [x,y])=and (Ex.emp atom x) (Ex.emp atom y):=by simp [Ex.emp,Ex.empL,Dw]
    have hxt:Ex.tree tm am x=true:=Ex.treeL_mem htl (by simp);have hyt:Ex.tree tm am y=true:=Ex.treeL_mem htl (by simp)
    skip
    have hxs:x.size<N:=by simp only [Ex.size,Ex.sizeL] at hN; omega
    have hys:y.size<N:=by simp only [Ex.size,Ex.sizeL] at hN; omega
    have hax:=Ay hr hx;have hay:=Ay hr hy;simp only [Nat.zero_mul,Nat.one_mul,Nat.add_zero] at hax hay;obtain ⟨-, hlen,hcap, -, -⟩:=A0 hr;unfold maxLen at hcap;simp only [List.length_cons,List.length_nil] at hlen;rw [e];clear hk hnum htl hc htr e
    go_enter Tryz.func70,Tryz.ntmps70
    go_wp2_with fail;refine (ih _ hxs x _ _ _ (Nat.le_refl _) hax hxt ).mono ?_;rintro z w' ⟨rfl,rfl⟩
    cases h1:Ex.emp atom x
    all_goals
      go_wp2_with fail
      first
        | (refine (ih _ hys y _ _ _ (Nat.le_refl _) hay hyt ).mono ?_
           rintro z w' ⟨rfl,rfl⟩;go_wp2_with fail;go_ret
           exact ⟨Av (by simp [h1]),rfl⟩)
        | (go_ret
           exact ⟨Av (by simp [h1]),rfl⟩)
  · have e:Ex.emp atom (.mk 8 n ks)=true:=by simp [Ex.emp,Dw]
    rw [e];clear hk hnum htl e hc
    go_enter Tryz.func70,Tryz.ntmps70
    go_wp2_with fail;go_ret;exact ⟨rfl,rfl⟩
def B2 (k n:Int) (ts:List (List UInt8)):List UInt8:=
 if k=1 then [48] else if k=2 then [49] else if k=3 then [116]++Lib.decDigits n.toNat else if k=4 then [97]++Lib.decDigits n.toNat else if k=5 then [126]++ts.getD 0 []
 else if k=6 then [40]++ts.getD 0 []++[32,43,32]++ts.getD 1 []++[41] else if k=7 then [40]++ts.getD 0 []++[32]++ts.getD 1 []++[41] else ts.getD 0 []++[42]
mutual
def Ex.text:Ex→List UInt8
 | .mk k n ks=>B2 k n (Ex.textL ks)
def Ex.textL:List Ex→List (List UInt8)
 |[]=>[]
 |e::r=>e.text::Ex.textL r
end
theorem Ee {tm am k n:Int} (hk:k=3∨k=4) (h:Ci tm am k n=true) (ht:tm≤8) (ha:am≤8):0≤n∧n≤8:=by
 rcases hk with rfl|rfl<;>simp [Ci,inB] at h<;>omega
theorem Ea {m:Nat} (h:m<10):(Lib.decDigits m).length=1:=by rw [Lib.decDigits_one h]; rfl
theorem B9 (tm am:Int) (ht:tm≤8) (ha:am≤8) (N:Nat):∀e:Ex,e.size≤N→e.tree tm am=true→e.text.length≤5*e.size:=by
 induction N using Nat.strongRecOn with
 |_ N ih=>
 intro e hN htr;obtain ⟨k,n,ks⟩:=e;obtain ⟨hk,hnum,hc,htl⟩:=Aq htr;have hs:=Ex.size_eq (.mk k n ks);simp only [Ex.kids] at hs;have kid:∀x,x∈ks→x.text.length≤5*x.size:=fun x hx=>ih x.size (by have:=Ex.sizeL_mem hx; omega) x (Nat.le_refl _) (Ex.treeL_mem htl hx)
 rcases D5 hk with rfl|rfl|rfl|rfl|rfl|rfl|rfl|rfl
 ·simp [Ex.text,B2]; omega
 ·simp [Ex.text,B2]; omega
 ·obtain ⟨h0,h8⟩:=Ee (by omega) hnum ht ha;simp only [Ex.text,B2]
  simp [Ea (show n.toNat<10 by omega)]
  omega
 ·obtain ⟨h0,h8⟩:=Ee (by omega) hnum ht ha;simp only [Ex.text,B2]
  simp [Ea (show n.toNat<10 by omega)]
  omega
 ·obtain ⟨x,rfl⟩:=Bq hk (by omega);have:=kid x (by simp)
  simp [Ex.text,B2,Ex.textL]
  simp only [Ex.sizeL] at hs;omega
 ·obtain ⟨x,y,rfl⟩:=As hk (by omega);have:=kid x (by simp);have:=kid y (by simp)
  simp [Ex.text,B2,Ex.textL]
  simp only [Ex.sizeL] at hs;omega
 ·obtain ⟨x,y,rfl⟩:=As hk (by omega);have:=kid x (by simp);have:=kid y (by simp)
  simp [Ex.text,B2,Ex.textL]
  simp only [Ex.sizeL] at hs;omega
 obtain ⟨x,rfl⟩:=Bq hk (by omega);have:=kid x (by simp)
 simp [Ex.text,B2,Ex.textL]
 simp only [Ex.sizeL] at hs;omega
set_option maxHeartbeats 16000000 in
theorem Py (W0:World) (B b:Nat) (hW:W0.heap.size≤B) (tm am:Int) (ht:tm≤8) (ha:am≤8) (N:Nat):∀(k n:Int) (ks:List Ex) (s:Option Addr) (c:Nat) (S:Nat→Prop) (l:List UInt8) (w:World),Ex.sizeL ks≤N→Rd W0 (Ae ks) (.slice s ks.length c)→
  Ex.tree tm am (.mk k n ks)=true→Below W0.heap.size W0 w→Cq B S b l w→B≤w.heap.size→l.length+5*(1+Ex.sizeL ks)≤100000000→
  Calls Tryz.prog 87 #[.pointer (some ⟨b,0,none⟩),.agg #[.int .i64 k,.int .i64 n,.slice s ks.length c]] w fun e w'=>e= .returned (.tuple #[])∧Cq B (fun x=>S x∨(w.heap.size≤x∧x<w'.heap.size)) b (l++Ex.text (.mk k n ks)) w'∧Aa S w w':=by
 induction N using Nat.strongRecOn with
 |_ N ih=>
 intro k n ks s c S l w hN hr htr h0 hb hB hlen;obtain ⟨hk,hnum,hc,htl⟩:=Aq htr
 rcases D5 hk with rfl|rfl|rfl|rfl|rfl|rfl|rfl|rfl
 ·have e0:Ex.text (.mk 1 n ks)=[48]:=by simp [Ex.text,B2]
  clear hk hnum htl hc htr
  go_enter Tryz.func87,Tryz.ntmps87
  go_wp2_with fail;have L:=Blk.new3 w 28 (.int .i64 1) (.int .i64 n) (.slice s ks.length c);have hS:=hb.set.2;have hb1:=Fu.start (hb.below (Below.alloc (Below.refl _ _) (Nat.le_refl _) (.cells #[.int .i64 1,.int .i64 n,.slice s ks.length c] 28)));have hBw:Below w.heap.size w (w.alloc (.cells #[.int .i64 1,.int .i64 n,.slice s ks.length c] 28)):=Below.alloc (Below.refl _ _) (Nat.le_refl _) _;clear hb;generalize w.alloc (.cells #[.int .i64 1,.int .i64 n,.slice s ks.length c] 28)=w1 at L hb1 hBw ⊢;have hb:=hb1;have h01:Below W0.heap.size W0 w1:=h0.trans (hBw.mono (by omega));have hz1:=hBw.size;have HS:=hid hS;have HBw:=hid hBw;have H01:=hid h01;clear hb1 hS hBw h01;have l0:=L.c0;go_wp2_with fail;clear l0;obtain ⟨T,hT,hTS⟩:=hb.ex;refine (B0 (s:=[48]) hT (by simp only [List.length_append,List.length_cons,List.length_nil] at*; omega) (by omega)).mono ?_;rintro e w2 ⟨⟨u,rfl⟩,hb',hs'⟩;have szw2:=hs'.size;replace hb:=hb.next hTS hb' hs';clear hT hTS hb' hs' T;have h0c:Below W0.heap.size W0 w2:=H01.out.trans (hb.sp.below (by omega) (fun x hx=>by have:=HS.out x hx; omega));have L2:=L.keep (hb.sp.block _ L.lt (fun hx=>by have:=HS.out _ hx; omega));have l0:=L2.c0;have l1:=L2.c1;have l2:=L2.c2;go_wp2_with fail;refine bodyPost_end (v:= .tuple #[]) (by simp [results,Tryz.results87,go_sem]) rfl ?_;refine ⟨rfl, ?_⟩;rw [e0]
  try simp only [List.append_assoc] at hb ⊢
  exact hb.done HBw.out HS.out hB
 ·have e0:Ex.text (.mk 2 n ks)=[49]:=by simp [Ex.text,B2]
  clear hk hnum htl hc htr
  go_enter Tryz.func87,Tryz.ntmps87
  go_wp2_with fail;have L:=Blk.new3 w 28 (.int .i64 2) (.int .i64 n) (.slice s ks.length c);have hS:=hb.set.2;have hb1:=Fu.start (hb.below (Below.alloc (Below.refl _ _) (Nat.le_refl _) (.cells #[.int .i64 2,.int .i64 n,.slice s ks.length c] 28)));have hBw:Below w.heap.size w (w.alloc (.cells #[.int .i64 2,.int .i64 n,.slice s ks.length c] 28)):=Below.alloc (Below.refl _ _) (Nat.le_refl _) _;clear hb;generalize w.alloc (.cells #[.int .i64 2,.int .i64 n,.slice s ks.length c] 28)=w1 at L hb1 hBw ⊢;have hb:=hb1;have h01:Below W0.heap.size W0 w1:=h0.trans (hBw.mono (by omega));have hz1:=hBw.size;have HS:=hid hS;have HBw:=hid hBw;have H01:=hid h01;clear hb1 hS hBw h01;have l0:=L.c0;go_wp2_with fail;clear l0;obtain ⟨T,hT,hTS⟩:=hb.ex;refine (B0 (s:=[49]) hT (by simp only [List.length_append,List.length_cons,List.length_nil] at*; omega) (by omega)).mono ?_;rintro e w2 ⟨⟨u,rfl⟩,hb',hs'⟩;have szw2:=hs'.size;replace hb:=hb.next hTS hb' hs';clear hT hTS hb' hs' T;have h0c:Below W0.heap.size W0 w2:=H01.out.trans (hb.sp.below (by omega) (fun x hx=>by have:=HS.out x hx; omega));have L2:=L.keep (hb.sp.block _ L.lt (fun hx=>by have:=HS.out _ hx; omega));have l0:=L2.c0;have l1:=L2.c1;have l2:=L2.c2;go_wp2_with fail;refine bodyPost_end (v:= .tuple #[]) (by simp [results,Tryz.results87,go_sem]) rfl ?_;refine ⟨rfl, ?_⟩;rw [e0]
  try simp only [List.append_assoc] at hb ⊢
  exact hb.done HBw.out HS.out hB
 ·obtain ⟨n0,n8⟩:=Ee (by omega) hnum ht ha;obtain ⟨m,rfl⟩:∃m:Nat,n=(m:Int):=⟨n.toNat,by omega⟩
  have e0:Ex.text (.mk 3 m ks)=116::Lib.decDigits m:=by simp [Ex.text,B2]
  have hm:m<10:=by omega
  have Hd:=hid (Ea hm);have Ha:∀w,(Op.stringOp .add { data:= #[116] } (bs (Lib.decDigits m))).run Tryz.prog w= .ok (.string (bs ([116]++Lib.decDigits m))) w:=Jf [116] _ (by rw [Ea hm]; simp);clear hk hnum htl hc htr n0 n8
  go_enter Tryz.func87,Tryz.ntmps87
  go_wp2_with fail;have L:=Blk.new3 w 28 (.int .i64 3) (.int .i64 m) (.slice s ks.length c);have hS:=hb.set.2;have hb1:=Fu.start (hb.below (Below.alloc (Below.refl _ _) (Nat.le_refl _) (.cells #[.int .i64 3,.int .i64 m,.slice s ks.length c] 28)));have hBw:Below w.heap.size w (w.alloc (.cells #[.int .i64 3,.int .i64 m,.slice s ks.length c] 28)):=Below.alloc (Below.refl _ _) (Nat.le_refl _) _;clear hb;generalize w.alloc (.cells #[.int .i64 3,.int .i64 m,.slice s ks.length c] 28)=w1 at L hb1 hBw ⊢;have hb:=hb1;have h01:Below W0.heap.size W0 w1:=h0.trans (hBw.mono (by omega));have hz1:=hBw.size;have HS:=hid hS;have HBw:=hid hBw;have H01:=hid h01;clear hb1 hS hBw h01;have l0:=L.c0;have l1:=L.c1;go_wp2_with fail;refine (Pb (n:=m) (by omega)).mono ?_;rintro e w2 ⟨rfl,rfl⟩;go_wp2_with fail;clear l0 l1 Ha;obtain ⟨T,hT,hTS⟩:=hb.ex;refine (B0 (s:=116::Lib.decDigits m) hT (by have hgg:=Hd.out; simp only [List.length_append,List.length_cons,List.length_nil]; omega) (by omega)).mono ?_;rintro e w2 ⟨⟨u,rfl⟩,hb',hs'⟩;have szw2:=hs'.size;replace hb:=hb.next hTS hb' hs';clear hT hTS hb' hs' T;have h0c:Below W0.heap.size W0 w2:=H01.out.trans (hb.sp.below (by omega) (fun x hx=>by have:=HS.out x hx; omega));have L2:=L.keep (hb.sp.block _ L.lt (fun hx=>by have:=HS.out _ hx; omega));have l0:=L2.c0;have l1:=L2.c1;have l2:=L2.c2;go_wp2_with fail;refine bodyPost_end (v:= .tuple #[]) (by simp [results,Tryz.results87,go_sem]) rfl ?_;refine ⟨rfl, ?_⟩;rw [e0]
  try simp only [List.append_assoc] at hb ⊢
  exact hb.done HBw.out HS.out hB
 ·obtain ⟨n0,n8⟩:=Ee (by omega) hnum ht ha;obtain ⟨m,rfl⟩:∃m:Nat,n=(m:Int):=⟨n.toNat,by omega⟩
  have e0:Ex.text (.mk 4 m ks)=97::Lib.decDigits m:=by simp [Ex.text,B2]
  have hm:m<10:=by omega
  have Hd:=hid (Ea hm);have Ha:∀w,(Op.stringOp .add { data:= #[97] } (bs (Lib.decDigits m))).run Tryz.prog w= .ok (.string (bs ([97]++Lib.decDigits m))) w:=Jf [97] _ (by rw [Ea hm]; simp);clear hk hnum htl hc htr n0 n8
  go_enter Tryz.func87,Tryz.ntmps87
  go_wp2_with fail;have L:=Blk.new3 w 28 (.int .i64 4) (.int .i64 m) (.slice s ks.length c);have hS:=hb.set.2;have hb1:=Fu.start (hb.below (Below.alloc (Below.refl _ _) (Nat.le_refl _) (.cells #[.int .i64 4,.int .i64 m,.slice s ks.length c] 28)));have hBw:Below w.heap.size w (w.alloc (.cells #[.int .i64 4,.int .i64 m,.slice s ks.length c] 28)):=Below.alloc (Below.refl _ _) (Nat.le_refl _) _;clear hb;generalize w.alloc (.cells #[.int .i64 4,.int .i64 m,.slice s ks.length c] 28)=w1 at L hb1 hBw ⊢;have hb:=hb1;have h01:Below W0.heap.size W0 w1:=h0.trans (hBw.mono (by omega));have hz1:=hBw.size;have HS:=hid hS;have HBw:=hid hBw;have H01:=hid h01;clear hb1 hS hBw h01;have l0:=L.c0;have l1:=L.c1;go_wp2_with fail;refine (Pb (n:=m) (by omega)).mono ?_;rintro e w2 ⟨rfl,rfl⟩;go_wp2_with fail;clear l0 l1 Ha;obtain ⟨T,hT,hTS⟩:=hb.ex;refine (B0 (s:=97::Lib.decDigits m) hT (by have hgg:=Hd.out; simp only [List.length_append,List.length_cons,List.length_nil]; omega) (by omega)).mono ?_;rintro e w2 ⟨⟨u,rfl⟩,hb',hs'⟩;have szw2:=hs'.size;replace hb:=hb.next hTS hb' hs';clear hT hTS hb' hs' T;have h0c:Below W0.heap.size W0 w2:=H01.out.trans (hb.sp.below (by omega) (fun x hx=>by have:=HS.out x hx; omega));have L2:=L.keep (hb.sp.block _ L.lt (fun hx=>by have:=HS.out _ hx; omega));have l0:=L2.c0;have l1:=L2.c1;have l2:=L2.c2;go_wp2_with fail;refine bodyPost_end (v:= .tuple #[]) (by simp [results,Tryz.results87,go_sem]) rfl ?_;refine ⟨rfl, ?_⟩;rw [e0]
  try simp only [List.append_assoc] at hb ⊢
  exact hb.done HBw.out HS.out hB
 ·obtain ⟨x,rfl⟩:=Bq hk (by omega);have hx:[x][0]? =some x:=rfl;obtain ⟨b',o',rfl⟩:=An hr (by simp);have hxt0:x.tree tm am=true:=Ex.treeL_mem htl (by simp);have bx:=B9 tm am ht ha _ x (Nat.le_refl _) hxt0
  have hxt:Ex.tree tm am (.mk x.kind x.num x.kids)=true:=by rw [←Ex.eta x]; exact hxt0
  have hsx:=Ex.size_eq x;simp only [Ex.sizeL] at hN hlen
  have hxs:Ex.sizeL x.kids<N:=by omega
  have ex:Ex.text (.mk x.kind x.num x.kids)=x.text:=by rw [←Ex.eta x]
  obtain ⟨hbl,s',c',g0,g1,g2,gr⟩:=A3 hr hx;simp only [Nat.zero_mul,Nat.add_zero] at g0 g1 g2
  have e0:Ex.text (.mk 5 n [x])=[126]++x.text:=by simp [Ex.text,B2,Ex.textL]
  clear hk hnum htl hc htr hx hxt0
  go_enter Tryz.func87,Tryz.ntmps87
  go_wp2_with fail;have L:=Blk.new3 w 28 (.int .i64 5) (.int .i64 n) (.slice (some ⟨b',o',none⟩) 1 c);have hS:=hb.set.2;have hb1:=Fu.start (hb.below (Below.alloc (Below.refl _ _) (Nat.le_refl _) (.cells #[.int .i64 5,.int .i64 n,.slice (some ⟨b',o',none⟩) 1 c] 28)));have hBw:Below w.heap.size w (w.alloc (.cells #[.int .i64 5,.int .i64 n,.slice (some ⟨b',o',none⟩) 1 c] 28)):=Below.alloc (Below.refl _ _) (Nat.le_refl _) _;clear hb;generalize w.alloc (.cells #[.int .i64 5,.int .i64 n,.slice (some ⟨b',o',none⟩) 1 c] 28)=w1 at L hb1 hBw ⊢;have hb:=hb1;have h01:Below W0.heap.size W0 w1:=h0.trans (hBw.mono (by omega));have hz1:=hBw.size;have HS:=hid hS;have HBw:=hid hBw;have H01:=hid h01;clear hb1 hS hBw h01;have l0:=L.c0;go_wp2_with fail;clear l0;obtain ⟨T,hT,hTS⟩:=hb.ex;refine (B0 (s:=[126]) hT (by simp only [List.length_append,List.length_cons,List.length_nil] at*; omega) (by omega)).mono ?_;rintro e w2 ⟨⟨u,rfl⟩,hb',hs'⟩;have szw2:=hs'.size;replace hb:=hb.next hTS hb' hs';clear hT hTS hb' hs' T;have h0c:Below W0.heap.size W0 w2:=H01.out.trans (hb.sp.below (by omega) (fun x hx=>by have:=HS.out x hx; omega));have L2:=L.keep (hb.sp.block _ L.lt (fun hx=>by have:=HS.out _ hx; omega));have l0:=L2.c0;have l1:=L2.c1;have l2:=L2.c2;have q0:=(h0c.cell (p:=⟨b',o',none⟩) hbl).trans g0;have q1:=(h0c.cell (p:=⟨b',o'+1,none⟩) hbl).trans g1;have q2:=(h0c.cell (p:=⟨b',o'+2,none⟩) hbl).trans g2;go_wp2_with fail;clear l0 l1 l2 L2 q0 q1 q2;obtain ⟨T,hT,hTS⟩:=hb.ex;refine (ih _ hxs _ _ _ _ _ T _ _ (Nat.le_refl _) gr hxt h0c hT (by omega) (by simp only [List.length_append,List.length_cons,List.length_nil] at*; omega)).mono ?_;rintro e w3 ⟨rfl,hb',hs'⟩;have szw3:=hs'.size;replace hb:=hb.next hTS hb' hs';clear hT hTS hb' hs' T;have h0c:Below W0.heap.size W0 w3:=H01.out.trans (hb.sp.below (by omega) (fun x hx=>by have:=HS.out x hx; omega));have L2:=L.keep (hb.sp.block _ L.lt (fun hx=>by have:=HS.out _ hx; omega));have l0:=L2.c0;have l1:=L2.c1;have l2:=L2.c2;rw [ex] at hb;go_wp2_with fail;refine bodyPost_end (v:= .tuple #[]) (by simp [results,Tryz.results87,go_sem]) rfl ?_;refine ⟨rfl, ?_⟩;rw [e0]
  try simp only [List.append_assoc] at hb ⊢
  exact hb.done HBw.out HS.out hB
 ·obtain ⟨x,y,rfl⟩:=As hk (by omega);have hx:[x,y][0]? =some x:=rfl;have hy:[x,y][1]? =some y:=rfl;obtain ⟨b',o',rfl⟩:=An hr (by simp);have hxt0:x.tree tm am=true:=Ex.treeL_mem htl (by simp);have hyt0:y.tree tm am=true:=Ex.treeL_mem htl (by simp);have bx:=B9 tm am ht ha _ x (Nat.le_refl _) hxt0;have bY:=B9 tm am ht ha _ y (Nat.le_refl _) hyt0
  have hxt:Ex.tree tm am (.mk x.kind x.num x.kids)=true:=by rw [←Ex.eta x]; exact hxt0
  have hyt:Ex.tree tm am (.mk y.kind y.num y.kids)=true:=by rw [←Ex.eta y]; exact hyt0
  have hsx:=Ex.size_eq x;have hsy:=Ex.size_eq y;simp only [Ex.sizeL] at hN hlen
  have hxs:Ex.sizeL x.kids<N:=by omega
  have hys:Ex.sizeL y.kids<N:=by omega
  have ex:Ex.text (.mk x.kind x.num x.kids)=x.text:=by rw [←Ex.eta x]
  have ey:Ex.text (.mk y.kind y.num y.kids)=y.text:=by rw [←Ex.eta y]
  have e0:Ex.text (.mk 6 n [x,y])=[40]++x.text++[32,43,32]++y.text++[41]:=by simp [Ex.text,B2,Ex.textL]
  obtain ⟨hbl,s',c',g0,g1,g2,gr⟩:=A3 hr hx;obtain ⟨-, s2,c2,k0,k1,k2,kr⟩:=A3 hr hy;simp only [Nat.zero_mul,Nat.add_zero] at g0 g1 g2;simp only [Nat.one_mul] at k0 k1 k2;clear hk hnum htl hc htr hx hy hxt0 hyt0
  go_enter Tryz.func87,Tryz.ntmps87
  go_wp2_with fail;have L:=Blk.new3 w 28 (.int .i64 6) (.int .i64 n) (.slice (some ⟨b',o',none⟩) 2 c);have hS:=hb.set.2;have hb1:=Fu.start (hb.below (Below.alloc (Below.refl _ _) (Nat.le_refl _) (.cells #[.int .i64 6,.int .i64 n,.slice (some ⟨b',o',none⟩) 2 c] 28)));have hBw:Below w.heap.size w (w.alloc (.cells #[.int .i64 6,.int .i64 n,.slice (some ⟨b',o',none⟩) 2 c] 28)):=Below.alloc (Below.refl _ _) (Nat.le_refl _) _;clear hb;generalize w.alloc (.cells #[.int .i64 6,.int .i64 n,.slice (some ⟨b',o',none⟩) 2 c] 28)=w1 at L hb1 hBw ⊢;have hb:=hb1;have h01:Below W0.heap.size W0 w1:=h0.trans (hBw.mono (by omega));have hz1:=hBw.size;have HS:=hid hS;have HBw:=hid hBw;have H01:=hid h01;clear hb1 hS hBw h01;have l0:=L.c0;go_wp2_with fail;clear l0;obtain ⟨T,hT,hTS⟩:=hb.ex;refine (B0 (s:=[40]) hT (by simp only [List.length_append,List.length_cons,List.length_nil] at*; omega) (by omega)).mono ?_;rintro e w2 ⟨⟨u,rfl⟩,hb',hs'⟩;have szw2:=hs'.size;replace hb:=hb.next hTS hb' hs';clear hT hTS hb' hs' T;have h0c:Below W0.heap.size W0 w2:=H01.out.trans (hb.sp.below (by omega) (fun x hx=>by have:=HS.out x hx; omega));have L2:=L.keep (hb.sp.block _ L.lt (fun hx=>by have:=HS.out _ hx; omega));have l0:=L2.c0;have l1:=L2.c1;have l2:=L2.c2;have q0:=(h0c.cell (p:=⟨b',o',none⟩) hbl).trans g0;have q1:=(h0c.cell (p:=⟨b',o'+1,none⟩) hbl).trans g1;have q2:=(h0c.cell (p:=⟨b',o'+2,none⟩) hbl).trans g2;go_wp2_with fail;clear l0 l1 l2 L2 q0 q1 q2;obtain ⟨T,hT,hTS⟩:=hb.ex;refine (ih _ hxs _ _ _ _ _ T _ _ (Nat.le_refl _) gr hxt h0c hT (by omega) (by simp only [List.length_append,List.length_cons,List.length_nil] at*; omega)).mono ?_;rintro e w3 ⟨rfl,hb',hs'⟩;have szw3:=hs'.size;replace hb:=hb.next hTS hb' hs';clear hT hTS hb' hs' T;have h0c:Below W0.heap.size W0 w3:=H01.out.trans (hb.sp.below (by omega) (fun x hx=>by have:=HS.out x hx; omega));have L2:=L.keep (hb.sp.block _ L.lt (fun hx=>by have:=HS.out _ hx; omega));have l0:=L2.c0;have l1:=L2.c1;have l2:=L2.c2;rw [ex] at hb;go_wp2_with fail;clear l0 l1 l2 L2 h0c;obtain ⟨T,hT,hTS⟩:=hb.ex;refine (B0 (s:=[32,43,32]) hT (by simp only [List.length_append,List.length_cons,List.length_nil] at*; omega) (by omega)).mono ?_;rintro e w4 ⟨⟨u,rfl⟩,hb',hs'⟩;have szw4:=hs'.size;replace hb:=hb.next hTS hb' hs';clear hT hTS hb' hs' T;have h0c:Below W0.heap.size W0 w4:=H01.out.trans (hb.sp.below (by omega) (fun x hx=>by have:=HS.out x hx; omega));have L2:=L.keep (hb.sp.block _ L.lt (fun hx=>by have:=HS.out _ hx; omega));have l0:=L2.c0;have l1:=L2.c1;have l2:=L2.c2;have q0:=(h0c.cell (p:=⟨b',o'+3,none⟩) hbl).trans k0;have q1:=(h0c.cell (p:=⟨b',o'+3+1,none⟩) hbl).trans k1;have q2:=(h0c.cell (p:=⟨b',o'+3+2,none⟩) hbl).trans k2;go_wp2_with fail;clear l0 l1 l2 L2 q0 q1 q2;obtain ⟨T,hT,hTS⟩:=hb.ex;refine (ih _ hys _ _ _ _ _ T _ _ (Nat.le_refl _) kr hyt h0c hT (by omega) (by simp only [List.length_append,List.length_cons,List.length_nil] at*; omega)).mono ?_;rintro e w5 ⟨rfl,hb',hs'⟩;have szw5:=hs'.size;replace hb:=hb.next hTS hb' hs';clear hT hTS hb' hs' T;have h0c:Below W0.heap.size W0 w5:=H01.out.trans (hb.sp.below (by omega) (fun x hx=>by have:=HS.out x hx; omega));have L2:=L.keep (hb.sp.block _ L.lt (fun hx=>by have:=HS.out _ hx; omega));have l0:=L2.c0;have l1:=L2.c1;have l2:=L2.c2;rw [ey] at hb;go_wp2_with fail;clear l0 l1 l2 L2 h0c;obtain ⟨T,hT,hTS⟩:=hb.ex;refine (B0 (s:=[41]) hT (by simp only [List.length_append,List.length_cons,List.length_nil] at*; omega) (by omega)).mono ?_;rintro e w6 ⟨⟨u,rfl⟩,hb',hs'⟩;have szw6:=hs'.size;replace hb:=hb.next hTS hb' hs';clear hT hTS hb' hs' T;have h0c:Below W0.heap.size W0 w6:=H01.out.trans (hb.sp.below (by omega) (fun x hx=>by have:=HS.out x hx; omega));have L2:=L.keep (hb.sp.block _ L.lt (fun hx=>by have:=HS.out _ hx; omega));have l0:=L2.c0;have l1:=L2.c1;have l2:=L2.c2;go_wp2_with fail;refine bodyPost_end (v:= .tuple #[]) (by simp [results,Tryz.results87,go_sem]) rfl ?_;refine ⟨rfl, ?_⟩;rw [e0]
  try simp only [List.append_assoc] at hb ⊢
  exact hb.done HBw.out HS.out hB
 ·obtain ⟨x,y,rfl⟩:=As hk (by omega);have hx:[x,y][0]? =some x:=rfl;have hy:[x,y][1]? =some y:=rfl;obtain ⟨b',o',rfl⟩:=An hr (by simp);have hxt0:x.tree tm am=true:=Ex.treeL_mem htl (by simp);have hyt0:y.tree tm am=true:=Ex.treeL_mem htl (by simp);have bx:=B9 tm am ht ha _ x (Nat.le_refl _) hxt0;have bY:=B9 tm am ht ha _ y (Nat.le_refl _) hyt0
  have hxt:Ex.tree tm am (.mk x.kind x.num x.kids)=true:=by rw [←Ex.eta x]; exact hxt0
  have hyt:Ex.tree tm am (.mk y.kind y.num y.kids)=true:=by rw [←Ex.eta y]; exact hyt0
  have hsx:=Ex.size_eq x;have hsy:=Ex.size_eq y;simp only [Ex.sizeL] at hN hlen
  have hxs:Ex.sizeL x.kids<N:=by omega
  have hys:Ex.sizeL y.kids<N:=by omega
  have ex:Ex.text (.mk x.kind x.num x.kids)=x.text:=by rw [←Ex.eta x]
  have ey:Ex.text (.mk y.kind y.num y.kids)=y.text:=by rw [←Ex.eta y]
  have e0:Ex.text (.mk 7 n [x,y])=[40]++x.text++[32]++y.text++[41]:=by simp [Ex.text,B2,Ex.textL]
  obtain ⟨hbl,s',c',g0,g1,g2,gr⟩:=A3 hr hx;obtain ⟨-, s2,c2,k0,k1,k2,kr⟩:=A3 hr hy;simp only [Nat.zero_mul,Nat.add_zero] at g0 g1 g2;simp only [Nat.one_mul] at k0 k1 k2;clear hk hnum htl hc htr hx hy hxt0 hyt0
  go_enter Tryz.func87,Tryz.ntmps87
  go_wp2_with fail;have L:=Blk.new3 w 28 (.int .i64 7) (.int .i64 n) (.slice (some ⟨b',o',none⟩) 2 c);have hS:=hb.set.2;have hb1:=Fu.start (hb.below (Below.alloc (Below.refl _ _) (Nat.le_refl _) (.cells #[.int .i64 7,.int .i64 n,.slice (some ⟨b',o',none⟩) 2 c] 28)));have hBw:Below w.heap.size w (w.alloc (.cells #[.int .i64 7,.int .i64 n,.slice (some ⟨b',o',none⟩) 2 c] 28)):=Below.alloc (Below.refl _ _) (Nat.le_refl _) _;clear hb;generalize w.alloc (.cells #[.int .i64 7,.int .i64 n,.slice (some ⟨b',o',none⟩) 2 c] 28)=w1 at L hb1 hBw ⊢;have hb:=hb1;have h01:Below W0.heap.size W0 w1:=h0.trans (hBw.mono (by omega));have hz1:=hBw.size;have HS:=hid hS;have HBw:=hid hBw;have H01:=hid h01;clear hb1 hS hBw h01;have l0:=L.c0;go_wp2_with fail;clear l0;obtain ⟨T,hT,hTS⟩:=hb.ex;refine (B0 (s:=[40]) hT (by simp only [List.length_append,List.length_cons,List.length_nil] at*; omega) (by omega)).mono ?_;rintro e w2 ⟨⟨u,rfl⟩,hb',hs'⟩;have szw2:=hs'.size;replace hb:=hb.next hTS hb' hs';clear hT hTS hb' hs' T;have h0c:Below W0.heap.size W0 w2:=H01.out.trans (hb.sp.below (by omega) (fun x hx=>by have:=HS.out x hx; omega));have L2:=L.keep (hb.sp.block _ L.lt (fun hx=>by have:=HS.out _ hx; omega));have l0:=L2.c0;have l1:=L2.c1;have l2:=L2.c2;have q0:=(h0c.cell (p:=⟨b',o',none⟩) hbl).trans g0;have q1:=(h0c.cell (p:=⟨b',o'+1,none⟩) hbl).trans g1;have q2:=(h0c.cell (p:=⟨b',o'+2,none⟩) hbl).trans g2;go_wp2_with fail;clear l0 l1 l2 L2 q0 q1 q2;obtain ⟨T,hT,hTS⟩:=hb.ex;refine (ih _ hxs _ _ _ _ _ T _ _ (Nat.le_refl _) gr hxt h0c hT (by omega) (by simp only [List.length_append,List.length_cons,List.length_nil] at*; omega)).mono ?_;rintro e w3 ⟨rfl,hb',hs'⟩;have szw3:=hs'.size;replace hb:=hb.next hTS hb' hs';clear hT hTS hb' hs' T;have h0c:Below W0.heap.size W0 w3:=H01.out.trans (hb.sp.below (by omega) (fun x hx=>by have:=HS.out x hx; omega));have L2:=L.keep (hb.sp.block _ L.lt (fun hx=>by have:=HS.out _ hx; omega));have l0:=L2.c0;have l1:=L2.c1;have l2:=L2.c2;rw [ex] at hb;go_wp2_with fail;clear l0 l1 l2 L2 h0c;obtain ⟨T,hT,hTS⟩:=hb.ex;refine (B0 (s:=[32]) hT (by simp only [List.length_append,List.length_cons,List.length_nil] at*; omega) (by omega)).mono ?_;rintro e w4 ⟨⟨u,rfl⟩,hb',hs'⟩;have szw4:=hs'.size;replace hb:=hb.next hTS hb' hs';clear hT hTS hb' hs' T;have h0c:Below W0.heap.size W0 w4:=H01.out.trans (hb.sp.below (by omega) (fun x hx=>by have:=HS.out x hx; omega));have L2:=L.keep (hb.sp.block _ L.lt (fun hx=>by have:=HS.out _ hx; omega));have l0:=L2.c0;have l1:=L2.c1;have l2:=L2.c2;have q0:=(h0c.cell (p:=⟨b',o'+3,none⟩) hbl).trans k0;have q1:=(h0c.cell (p:=⟨b',o'+3+1,none⟩) hbl).trans k1;have q2:=(h0c.cell (p:=⟨b',o'+3+2,none⟩) hbl).trans k2;go_wp2_with fail;clear l0 l1 l2 L2 q0 q1 q2;obtain ⟨T,hT,hTS⟩:=hb.ex;refine (ih _ hys _ _ _ _ _ T _ _ (Nat.le_refl _) kr hyt h0c hT (by omega) (by simp only [List.length_append,List.length_cons,List.length_nil] at*; omega)).mono ?_;rintro e w5 ⟨rfl,hb',hs'⟩;have szw5:=hs'.size;replace hb:=hb.next hTS hb' hs';clear hT hTS hb' hs' T;have h0c:Below W0.heap.size W0 w5:=H01.out.trans (hb.sp.below (by omega) (fun x hx=>by have:=HS.out x hx; omega));have L2:=L.keep (hb.sp.block _ L.lt (fun hx=>by have:=HS.out _ hx; omega));have l0:=L2.c0;have l1:=L2.c1;have l2:=L2.c2;rw [ey] at hb;go_wp2_with fail;clear l0 l1 l2 L2 h0c;obtain ⟨T,hT,hTS⟩:=hb.ex;refine (B0 (s:=[41]) hT (by simp only [List.length_append,List.length_cons,List.length_nil] at*; omega) (by omega)).mono ?_;rintro e w6 ⟨⟨u,rfl⟩,hb',hs'⟩;have szw6:=hs'.size;replace hb:=hb.next hTS hb' hs';clear hT hTS hb' hs' T;have h0c:Below W0.heap.size W0 w6:=H01.out.trans (hb.sp.below (by omega) (fun x hx=>by have:=HS.out x hx; omega));have L2:=L.keep (hb.sp.block _ L.lt (fun hx=>by have:=HS.out _ hx; omega));have l0:=L2.c0;have l1:=L2.c1;have l2:=L2.c2;go_wp2_with fail;refine bodyPost_end (v:= .tuple #[]) (by simp [results,Tryz.results87,go_sem]) rfl ?_;refine ⟨rfl, ?_⟩;rw [e0]
  try simp only [List.append_assoc] at hb ⊢
  exact hb.done HBw.out HS.out hB
 obtain ⟨x,rfl⟩:=Bq hk (by omega);have hx:[x][0]? =some x:=rfl;obtain ⟨b',o',rfl⟩:=An hr (by simp);have hxt0:x.tree tm am=true:=Ex.treeL_mem htl (by simp);have bx:=B9 tm am ht ha _ x (Nat.le_refl _) hxt0
 have hxt:Ex.tree tm am (.mk x.kind x.num x.kids)=true:=by rw [←Ex.eta x]; exact hxt0
 have hsx:=Ex.size_eq x;simp only [Ex.sizeL] at hN hlen
 have hxs:Ex.sizeL x.kids<N:=by omega
 have ex:Ex.text (.mk x.kind x.num x.kids)=x.text:=by rw [←Ex.eta x]
 obtain ⟨hbl,s',c',g0,g1,g2,gr⟩:=A3 hr hx;simp only [Nat.zero_mul,Nat.add_zero] at g0 g1 g2
 have e0:Ex.text (.mk 8 n [x])=x.text++[42]:=by simp [Ex.text,B2,Ex.textL]
 clear hk hnum htl hc htr hx hxt0;have p0:=(h0.cell (p:=⟨b',o',none⟩) hbl).trans g0;have p1:=(h0.cell (p:=⟨b',o'+1,none⟩) hbl).trans g1;have p2:=(h0.cell (p:=⟨b',o'+2,none⟩) hbl).trans g2
 have pl:b'<w.heap.size:=by omega
 go_enter Tryz.func87,Tryz.ntmps87
 go_wp2_with fail;have L:=Blk.new3 w 28 (.int .i64 8) (.int .i64 n) (.slice (some ⟨b',o',none⟩) 1 c);have hS:=hb.set.2;have hb1:=Fu.start (hb.below (Below.alloc (Below.refl _ _) (Nat.le_refl _) (.cells #[.int .i64 8,.int .i64 n,.slice (some ⟨b',o',none⟩) 1 c] 28)));have hBw:Below w.heap.size w (w.alloc (.cells #[.int .i64 8,.int .i64 n,.slice (some ⟨b',o',none⟩) 1 c] 28)):=Below.alloc (Below.refl _ _) (Nat.le_refl _) _;clear hb;generalize w.alloc (.cells #[.int .i64 8,.int .i64 n,.slice (some ⟨b',o',none⟩) 1 c] 28)=w1 at L hb1 hBw ⊢;have hb:=hb1;have h01:Below W0.heap.size W0 w1:=h0.trans (hBw.mono (by omega));have hz1:=hBw.size;have HS:=hid hS;have HBw:=hid hBw;have H01:=hid h01;clear hb1 hS hBw h01;have h0c:=H01.out;clear p0 p1 p2 pl;obtain ⟨T,hT,hTS⟩:=hb.ex;refine (ih _ hxs _ _ _ _ _ T _ _ (Nat.le_refl _) gr hxt h0c hT (by omega) (by simp only [List.length_append,List.length_cons,List.length_nil] at*; omega)).mono ?_;rintro e w3 ⟨rfl,hb',hs'⟩;have szw3:=hs'.size;replace hb:=hb.next hTS hb' hs';clear hT hTS hb' hs' T;have h0c:Below W0.heap.size W0 w3:=H01.out.trans (hb.sp.below (by omega) (fun x hx=>by have:=HS.out x hx; omega));have L2:=L.keep (hb.sp.block _ L.lt (fun hx=>by have:=HS.out _ hx; omega));have l0:=L2.c0;have l1:=L2.c1;have l2:=L2.c2;rw [ex] at hb;go_wp2_with fail;clear l0 l1 l2 L2 h0c;obtain ⟨T,hT,hTS⟩:=hb.ex;refine (B0 (s:=[42]) hT (by simp only [List.length_append,List.length_cons,List.length_nil] at*; omega) (by omega)).mono ?_;rintro e w4 ⟨⟨u,rfl⟩,hb',hs'⟩;have szw4:=hs'.size;replace hb:=hb.next hTS hb' hs';clear hT hTS hb' hs' T;have h0c:Below W0.heap.size W0 w4:=H01.out.trans (hb.sp.below (by omega) (fun x hx=>by have:=HS.out x hx; omega));have L2:=L.keep (hb.sp.block _ L.lt (fun hx=>by have:=HS.out _ hx; omega));have l0:=L2.c0;have l1:=L2.c1;have l2:=L2.c2;go_wp2_with fail;refine bodyPost_end (v:= .tuple #[]) (by simp [results,Tryz.results87,go_sem]) rfl ?_;refine ⟨rfl, ?_⟩;rw [e0]
 try simp only [List.append_assoc] at hb ⊢
 exact hb.done HBw.out HS.out hB
theorem Pk {m n:Nat} (hm:m<10) (hn:n<10) {r s:List UInt8} (h:Lib.decDigits m++r=Lib.decDigits n++s):m=n∧r=s:=by
 rw [Lib.decDigits_one hm,Lib.decDigits_one hn] at h;simp only [List.cons_append,List.nil_append,List.cons.injEq] at h;refine ⟨?_,h.2⟩;have:=congrArg UInt8.toNat h.1;simp at this;omega
def Mx:Nat→Ex→Ex
 |0,x=>x
 |i+1,x=> .mk 8 0 [Mx i x]
theorem Gg (x:Ex):∀i,(Mx i x).text=x.text++List.replicate i 42
 |0=>by simp [Mx]
 |i+1=>by
  simp only [Mx,Ex.text,Ex.textL];rw [Gg x i]
  simp [B2,List.replicate_succ']
theorem I4 (tm am:Int) (N:Nat):∀e:Ex,e.size≤N→e.tree tm am=true→∃i x,e=Mx i x∧x.kind≠8∧x.tree tm am=true∧x.size≤e.size:=by
 induction N using Nat.strongRecOn with
 |_ N ih=>
 intro e hN ht
 by_cases h8:e.kind=8
 ·obtain ⟨k,n,ks⟩:=e;simp only [Ex.kind] at h8;subst h8;obtain ⟨hk,hnum, -, htl⟩:=Aq ht;obtain ⟨x,rfl⟩:=Bq hk (by omega);have hx:x.tree tm am=true:=Ex.treeL_mem htl (by simp);have hs:=Ex.size_eq (.mk 8 n [x]);simp only [Ex.kids,Ex.sizeL] at hs;obtain ⟨i,y,hy,h1,h2,h3⟩:=ih x.size (by omega) x (Nat.le_refl _) hx
  obtain rfl:n=0:=by simpa [Ci] using hnum
  exact ⟨i+1,y,by rw [hy]; rfl,h1,h2,by omega⟩
 exact ⟨0,e,rfl,h8,ht,Nat.le_refl _⟩
theorem N8:∀(i j:Nat) {r s:List UInt8},r.head? ≠some 42→s.head? ≠some 42→List.replicate i 42++r=List.replicate j 42++s→i=j∧r=s
 |0,0,r,s,_,_,h=>⟨rfl,by simpa using h⟩
 |0,j+1,r,s,h1,_,h=>by rw [List.replicate_zero,List.nil_append] at h; rw [h] at h1; simp [List.replicate_succ] at h1
 |i+1,0,r,s,_,h2,h=>by rw [List.replicate_zero,List.nil_append] at h; rw [←h] at h2; simp [List.replicate_succ] at h2
 |i+1,j+1,r,s,h1,h2,h=>by
  simp only [List.replicate_succ,List.cons_append,List.cons.injEq,true_and] at h;obtain ⟨a,b⟩:=N8 i j h1 h2 h;exact ⟨by omega,b⟩
theorem O9 {e:Ex} (h:e.cond=true):e.kind≠8:=by
 intro h8;obtain ⟨k,n,ks⟩:=e;simp only [Ex.kind] at h8;subst h8
 simp [Ex.cond,Bl] at h
theorem Om (tm am:Int) (N:Nat):∀e:Ex,e.size≤N→e.tree tm am=true→∃c l,e.text=c::l∧c≠43:=by
 induction N using Nat.strongRecOn with
 |_ N ih=>
 intro e hN ht;obtain ⟨k,n,ks⟩:=e;obtain ⟨hk, -, -, htl⟩:=Aq ht;have hs:=Ex.size_eq (.mk k n ks);simp only [Ex.kids] at hs
 rcases D5 hk with rfl|rfl|rfl|rfl|rfl|rfl|rfl|rfl
 ·exact ⟨48,[],by simp [Ex.text,B2],by decide⟩
 ·exact ⟨49,[],by simp [Ex.text,B2],by decide⟩
 ·exact ⟨116,_,by simp [Ex.text,B2]; rfl,by decide⟩
 ·exact ⟨97,_,by simp [Ex.text,B2]; rfl,by decide⟩
 ·exact ⟨126,_,by simp [Ex.text,B2]; rfl,by decide⟩
 ·exact ⟨40,_,by simp [Ex.text,B2]; rfl,by decide⟩
 ·exact ⟨40,_,by simp [Ex.text,B2]; rfl,by decide⟩
 obtain ⟨x,rfl⟩:=Bq hk (by omega);simp only [Ex.sizeL] at hs;obtain ⟨c,l,h1,h2⟩:=ih x.size (by omega) x (Nat.le_refl _) (Ex.treeL_mem htl (by simp));exact ⟨c,l++[42],by simp [Ex.text,B2,Ex.textL,h1],h2⟩
theorem P4 (tm am:Int) (ht:tm≤8) (ha:am≤8) (N:Nat):∀(e f:Ex) (r s:List UInt8),e.size≤N→e.tree tm am=true→f.tree tm am=true→e.kind≠8→f.kind≠8→e.text++r=f.text++s→e=f∧r=s:=by
  induction N using Nat.strongRecOn with
  |_ N ih=>
  intro e f r s hN he hf h8 h8' h
  have whole:∀(x y:Ex) (r s:List UInt8),x.size<N→x.tree tm am=true→y.tree tm am=true→r.head? ≠some 42→s.head? ≠some 42→x.text++r=y.text++s→x=y∧r=s:=by
    intro x y r s hx tx ty hr hs h;obtain ⟨i,x0,rfl,a1,a2,a3⟩:=I4 tm am _ x (Nat.le_refl _) tx;obtain ⟨j,y0,rfl,b1,b2,b3⟩:=I4 tm am _ y (Nat.le_refl _) ty;rw [Gg,Gg,List.append_assoc,List.append_assoc] at h;obtain ⟨rfl,h'⟩:=ih x0.size (by omega) x0 y0 _ _ (Nat.le_refl _) a2 b2 a1 b1 h;obtain ⟨rfl,rfl⟩:=N8 i j hr hs h';exact ⟨rfl,rfl⟩
  obtain ⟨k,n,ks⟩:=e;obtain ⟨k',n',ks'⟩:=f;obtain ⟨hk,hnum,hc,htl⟩:=Aq he;obtain ⟨hk',hnum',hc',htl'⟩:=Aq hf;simp only [Ex.kind] at h8 h8';have hs:=Ex.size_eq (.mk k n ks);simp only [Ex.kids] at hs
  have z0:∀{q:Int} {l:List Ex},Bi q=(l.length:Int)→q=1∨q=2∨q=3∨q=4→l=[]:=by
    intro q l hq hh
    have:Bi q=0:=by unfold Bi; rw [if_pos hh]
    exact List.eq_nil_of_length_eq_zero (by omega)
  rcases D5 hk with rfl|rfl|rfl|rfl|rfl|rfl|rfl|rfl<;>rcases D5 hk' with rfl|rfl|rfl|rfl|rfl|rfl|rfl|rfl
  all_goals first
    |exact absurd rfl h8
    |exact absurd rfl h8'
    |(exfalso; simp [Ex.text,B2] at h; done)
    |skip
  · obtain rfl:=z0 hk (by omega)
    obtain rfl:=z0 hk' (by omega)
    obtain rfl:n=0:=by simpa [Ci] using hnum
    obtain rfl:n'=0:=by simpa [Ci] using hnum'
    exact ⟨rfl,by simpa [Ex.text,B2] using h⟩
  · obtain rfl:=z0 hk (by omega)
    obtain rfl:=z0 hk' (by omega)
    obtain rfl:n=0:=by simpa [Ci] using hnum
    obtain rfl:n'=0:=by simpa [Ci] using hnum'
    exact ⟨rfl,by simpa [Ex.text,B2] using h⟩
  · obtain rfl:=z0 hk (by omega)
    obtain rfl:=z0 hk' (by omega);obtain ⟨a0,a8⟩:=Ee (by omega) hnum ht ha;obtain ⟨b0,b8⟩:=Ee (by omega) hnum' ht ha
    simp [Ex.text,B2] at h
    obtain ⟨h1,h2⟩:=Pk (by omega) (by omega) h
    obtain rfl:n=n':=by omega
    exact ⟨rfl,h2⟩
  · obtain rfl:=z0 hk (by omega)
    obtain rfl:=z0 hk' (by omega);obtain ⟨a0,a8⟩:=Ee (by omega) hnum ht ha;obtain ⟨b0,b8⟩:=Ee (by omega) hnum' ht ha
    simp [Ex.text,B2] at h
    obtain ⟨h1,h2⟩:=Pk (by omega) (by omega) h
    obtain rfl:n=n':=by omega
    exact ⟨rfl,h2⟩
  · obtain ⟨x,rfl⟩:=Bq hk (by omega)
    obtain ⟨y,rfl⟩:=Bq hk' (by omega)
    obtain rfl:n=0:=by simpa [Ci] using hnum
    obtain rfl:n'=0:=by simpa [Ci] using hnum'
    have cx:x.cond=true:=by simpa [Ex.condL] using hc rfl
    have cy:y.cond=true:=by simpa [Ex.condL] using hc' rfl
    simp [Ex.text,B2,Ex.textL] at h
    simp only [Ex.sizeL] at hs;obtain ⟨rfl,h'⟩:=ih x.size (by omega) x y r s (Nat.le_refl _) (Ex.treeL_mem htl (by simp)) (Ex.treeL_mem htl' (by simp)) (O9 cx) (O9 cy) h;exact ⟨rfl,h'⟩
  all_goals
    obtain ⟨x,y,rfl⟩:=As hk (by omega);obtain ⟨x',y',rfl⟩:=As hk' (by omega)
    obtain rfl:n=0:=by simpa [Ci] using hnum
    obtain rfl:n'=0:=by simpa [Ci] using hnum'
    have ty:y.tree tm am=true:=Ex.treeL_mem htl (by simp);have ty':y'.tree tm am=true:=Ex.treeL_mem htl' (by simp)
    simp [Ex.text,B2,Ex.textL] at h
    simp only [Ex.sizeL] at hs;obtain ⟨hxx,h2⟩:=whole x x' _ _ (by omega) (Ex.treeL_mem htl (by simp)) (Ex.treeL_mem htl' (by simp)) (by simp) (by simp) h;subst hxx;clear h;obtain ⟨c1,l1,q1,p1⟩:=Om tm am _ y (Nat.le_refl _) ty;obtain ⟨c2,l2,q2,p2⟩:=Om tm am _ y' (Nat.le_refl _) ty'
    first
      |(exfalso; rw [q1] at h2; simp at h2; exact p1 h2.1)
      |(exfalso; rw [q2] at h2; simp at h2; exact p2 h2.1.symm)
      | (simp at h2
         obtain ⟨hyy,h3⟩:=whole y y' _ _ (by omega) ty ty' (by simp) (by simp) h2;subst hyy
         exact ⟨rfl,by simpa using h3⟩)
theorem Md {tm am:Int} (ht:tm≤8) (ha:am≤8) {e f:Ex} (he:e.tree tm am=true) (hf:f.tree tm am=true) (h:e.text=f.text):e=f:=by
 obtain ⟨i,x0,rfl,a1,a2, -⟩:=I4 tm am _ e (Nat.le_refl _) he;obtain ⟨j,y0,rfl,b1,b2, -⟩:=I4 tm am _ f (Nat.le_refl _) hf;rw [Gg,Gg] at h;obtain ⟨rfl,h'⟩:=P4 tm am ht ha _ x0 y0 _ _ (Nat.le_refl _) a2 b2 a1 b1 h;obtain ⟨rfl, -⟩:=N8 i j (r:=[]) (s:=[]) (by simp) (by simp) (by simpa using h')
 rfl
end Go.Proofs.YtlchgfbkdjjngaaGreatDoor
