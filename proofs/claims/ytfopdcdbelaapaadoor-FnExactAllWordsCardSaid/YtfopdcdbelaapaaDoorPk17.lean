/-
  Parts of a proof, joined: All, MarkE, Eq. No condition.
-/
import Derived.Test.YtfopdcdbelaapaaDoorPk15
import Derived.Test.YtfopdcdbelaapaaDoorPk16
namespace Go.Proofs.YtfopdcdbelaapaaDoor
set_option linter.unusedVariables false
set_option linter.unusedSimpArgs false
open Go.ChangeShapes Go.WideShapes Go.ChangeAt Go.RowKit Go.Deep Go.Sort
def sumA:Nat→Ex
 |0=> .mk 1 0 []
 |n+1=> .mk 6 0 [sumA n, .mk 4 (n:Int) []]
theorem sumA_size:∀n,(sumA n).size=1+2*n
 |0=>rfl
 |n+1=>by
  have:=sumA_size n
  show (Ex.mk 6 0 [sumA n, .mk 4 (n:Int) []]).size=_
  rw [Ex.size_eq];simp only [Ex.kids,Ex.sizeL,Ex.size];omega
theorem sumA_tree {tm:Int}:∀n:Nat,(sumA n).tree tm ((n:Int) - 1)=true:=by
 have key:∀(n m:Nat),n≤m→(sumA n).tree tm ((m:Int) - 1)=true:=by
  intro n
  induction n with
  |zero=>
   intro m _
   show (Ex.mk 1 0 []).tree _ _=true
   simp [Ex.tree,Ex.treeL,nodeB,kidsN,numB,Ex.condL]
  |succ n ih=>
   intro m h;have:=ih m (by omega)
   show (Ex.mk 6 0 [sumA n, .mk 4 (n:Int) []]).tree _ _=true
   simp [Ex.tree,Ex.treeL,nodeB,kidsN,numB,Ex.condL,this,inB]
   omega
 exact fun n=>key n n (Nat.le_refl _)
def allA (n:Nat):Ex:= .mk 8 0 [sumA n]
theorem allA_size (n:Nat):(allA n).size=2+2*n:=by
 have:=sumA_size n
 show (Ex.mk 8 0 [sumA n]).size=_
 rw [Ex.size_eq];simp only [Ex.kids,Ex.sizeL];omega
theorem allA_tree {tm:Int} (n:Nat):(allA n).tree tm ((n:Int) - 1)=true:=by
 have:=sumA_tree (tm:=tm) n
 show (Ex.mk 8 0 [sumA n]).tree _ _=true
 simp [Ex.tree,Ex.treeL,nodeB,kidsN,numB,Ex.condL,this]
noncomputable def awE (t a:Int):Ex:=if sigB t a=true then (allA a.toNat).tidy else Ex.zero
def awC (t a:Int):Int:=if sigB t a=true then 0 else 1
theorem awE_size (t a:Int):Ex.sizeL (awE t a).kids≤100:=by
 unfold awE
 split
 ·
  rename_i h
  obtain ⟨h0,h1,h2,h3⟩:=sigB_bd h;have hs:=(tidy_spec 0 (((a.toNat:Nat):Int) - 1) _ (allA a.toNat) (Nat.le_refl _) (allA_tree a.toNat)).2;rw [allA_size] at hs;have:=Ex.size_eq (allA a.toNat).tidy;omega
 ·
  simp [Ex.zero,Ex.kids,Ex.sizeL]
theorem l02Zero_w {w:World}:Calls Tryd.prog 11 #[] w fun f w'=>f= .returned (.agg #[.int .i64 1, .int .i64 0, .slice none 0 0])∧Below w.heap.size w w':=by
 go_enter Tryd.func11,Tryd.ntmps11
 go_wp2_with fail;have T:=(((Blk.new3 w 26 (.int .i64 0) (.int .i64 0) (.slice none 0 0)).set 0 (.int .i64 1)).set 1 (.int .i64 0)).set 2 (.slice none 0 0);have t0:=T.c0;have t1:=T.c1;have t2:=T.c2;exact bodyPost_ret (v:= .agg #[.int .i64 1, .int .i64 0, .slice none 0 0]) (by simp [results,Tryd.results11,go_sem,t0,t1,t2]) rfl ⟨rfl,by (repeat' first|exact Below.refl _ _|assumption|apply Below.alloc|apply Below.drew|apply Below.setCell|omega|(simp; done)|(simp; omega))⟩
theorem l02Pair_w {X:Nat→Prop} {k:Int} {x y:Ex} {sx sy:Option Addr} {cx cy:Nat} {w:World} (hX:∀b,X b→b<w.heap.size) (hx:ExX X w x sx cx) (hy:ExX X w y sy cy):
  Calls Tryd.prog 12 #[.int .i64 k, .agg #[.int .i64 x.kind, .int .i64 x.num, .slice sx x.kids.length cx], .agg #[.int .i64 y.kind, .int .i64 y.num, .slice sy y.kids.length cy]] w fun f w'=>∃g,f= .returned (.agg #[.int .i64 k, .int .i64 0, .slice (some ⟨g,0,none⟩) 2 2])∧
   RdX X w' (kidsD [x,y]) (.slice (some ⟨g,0,none⟩) 2 2)∧Below w.heap.size w w':=
 (l02Pair_i).mono fun _ _ ⟨g,h1,h2,h3,h4⟩=>⟨g,h1,kidsD_two h3 (fun h=>by have:=hX g h; omega) (hx.below h4) (hy.below h4),h4⟩
set_option maxHeartbeats 4000000 in
theorem specAllWords_i {t a:Int} {w:World}:
  Calls Tryd.prog 4 #[.agg #[.int .i64 t, .int .i64 a]] w fun e w'=>∃s' c',e= .returned (.tuple #[.agg #[.int .i64 (awE t a).kind, .int .i64 (awE t a).num, .slice s' (awE t a).kids.length c'], .int .i64 (awC t a)])∧
   Freshs w w' [kidsD (awE t a).kids] [.slice s' (awE t a).kids.length c']∧Below w.heap.size w w':=by
 go_enter Tryd.func4,Tryd.ntmps4
 go_wp2_with fail;have L:=(Blk.new2 w 29 (.int .i64 t) (.int .i64 a)).alloc (.cells #[.int .i64 0, .int .i64 0, .slice none 0 0] 26);have R:=Blk.new3 (w.alloc (.cells #[.int .i64 t, .int .i64 a] 29)) 26 (.int .i64 0) (.int .i64 0) (.slice none 0 0);simp at R
 have hB:Below w.heap.size w ((w.alloc (.cells #[.int .i64 t, .int .i64 a] 29)).alloc (.cells #[.int .i64 0, .int .i64 0, .slice none 0 0] 26)):=by (repeat' first|exact Below.refl _ _|assumption|apply Below.alloc|apply Below.drew|apply Below.setCell|omega|(simp; done)|(simp; omega))
 have hB0:=hB;generalize ((w.alloc (.cells #[.int .i64 t, .int .i64 a] 29)).alloc (.cells #[.int .i64 0, .int .i64 0, .slice none 0 0] 26))=v0 at L R hB hB0 ⊢;have l0:=L.c0;have l1:=L.c1;have r0:=R.c0;have r1:=R.c1;have r2:=R.c2;have ltL:=L.lt;have ltR:=R.lt;have zz0:=R.frozen 0;have zz1:=R.frozen 1;have zz2:=R.frozen 2;go_wp2_with fail;refine (l01Sig_any t a _).mono ?_;rintro x w1 ⟨rfl,hb⟩;clear l0 l1 r0 r1 r2 ltL ltR zz0 zz1 zz2;replace hB:=Below.on hB hb hB.size;replace L:=L.below hb;replace R:=R.below hb;clear hb;have szW1:=hB.size;have rlt1:=R.lt
 cases hs1:sigB t a
 ·
  have l0:=L.c0;have l1:=L.c1;have ltL:=L.lt;have r0:=R.c0;have zz0:=R.frozen 0;have r1:=R.c1;have zz1:=R.frozen 1;have r2:=R.c2;have zz2:=R.frozen 2;have ltR:=R.lt;go_wp2_with fail;have R':=(((R.set 0 (.int .i64 0)).set 1 (.int .i64 0)).set 2 (.slice none 0 0));have c0:=R'.c0;have c1:=R'.c1;have c2:=R'.c2;refine bodyPost_ret (v:= .tuple #[.agg #[.int .i64 0, .int .i64 0, .slice none 0 0], .int .i64 1]) (by simp [results,Tryd.results4,go_sem,c0,c1,c2]) rfl ?_
  have e1:awE t a= .mk 0 0 []:=by simp [awE,hs1,Ex.zero]
  have e2:awC t a=1:=by simp [awC,hs1]
  rw [e1,e2];exact ⟨none,0,rfl,fresh_nil1 _ _,by (repeat' first|exact Below.refl _ _|assumption|apply Below.alloc|apply Below.drew|apply Below.setCell|omega|(simp; done)|(simp; omega))⟩
 have Hs1:=Lib.hid hs1;clear hs1;have l0:=L.c0;have l1:=L.c1;have r0:=R.c0;have r1:=R.c1;have r2:=R.c2;have ltL:=L.lt;have ltR:=R.lt;have zz0:=R.frozen 0;have zz1:=R.frozen 1;have zz2:=R.frozen 2;go_wp2_with fail;refine (l02Zero_w).mono ?_;rintro x w2 ⟨rfl,hb⟩;clear l0 l1 r0 r1 r2 ltL ltR zz0 zz1 zz2;replace hB:=Below.on hB hb hB.size;replace L:=L.below hb;replace R:=R.below hb;clear hb;have szW2:=hB.size;have rlt2:=R.lt;have l0:=L.c0;have l1:=L.c1;have r0:=R.c0;have r1:=R.c1;have r2:=R.c2;have ltL:=L.lt;have ltR:=R.lt;have zz0:=R.frozen 0;have zz1:=R.frozen 1;have zz2:=R.frozen 2;go_wp2_with fail;go_wp2_with fail;clear l0 l1 r0 r1 r2 ltL zz0 zz1 zz2 hB0;obtain ⟨h0,h1,h2,h3⟩:=sigB_bd Hs1.out;have T:=Blk.new3 w2 26 (.int .i64 1) (.int .i64 0) (.slice none 0 0);replace L:=L.alloc (.cells #[.int .i64 1, .int .i64 0, .slice none 0 0] 26);replace R:=R.alloc (.cells #[.int .i64 1, .int .i64 0, .slice none 0 0] 26)
 have hB3:Below w.heap.size w (w2.alloc (.cells #[.int .i64 1, .int .i64 0, .slice none 0 0] 26)):=by (repeat' first|exact Below.refl _ _|assumption|apply Below.alloc|apply Below.drew|apply Below.setCell|omega|(simp; done)|(simp; omega))
 generalize w2.alloc (.cells #[.int .i64 1, .int .i64 0, .slice none 0 0] 26)=v3 at T L R hB3 ⊢;clear hB;obtain ⟨q,hq⟩:∃q,w2.heap.size=q:=⟨_,rfl⟩;simp only [hq] at T ltR rlt2 szW2 ⊢
 go_loopw [5] (fun i wr=>∃(k:Nat) (s:Option Addr) (c:Nat),i= .int .i64 k∧(k:Int)≤a∧Blk wr q 26 [.int .i64 (sumA k).kind, .int .i64 (sumA k).num, .slice s (sumA k).kids.length c]∧ExX (fun b=>b=q) wr (sumA k) s c∧Blk wr w.heap.size 29 [.int .i64 t, .int .i64 a]∧Blk wr (w.heap.size+1) 26 [.int .i64 0, .int .i64 0, .slice none 0 0]∧Below w.heap.size w wr) (fun i _=>a.toNat - (intOf i).toNat)
 case atStart=>exact ⟨0,none,0,rfl,by omega,T,kidsD_nil,L,R,hB3⟩
 case round=>
  clear T L R hB3;obtain ⟨k,s,c,rfl,hk,T,hx,L,R,hB⟩:=hrel;obtain ⟨wo,rfl⟩:∃v,v=wr:=⟨_,rfl⟩;have hk0:=Int.natCast_nonneg k;have hzo:=hB.size;have ltT:=T.lt;have T0:=T.c0;have T1:=T.c1;have T2:=T.c2;have L1:=L.c1;have Z0:=T.frozen 0;have Z1:=T.frozen 1;have Z2:=T.frozen 2
  by_cases hlt:(k:Int)<a
  rotate_left
  ·
   obtain rfl:a=(k:Int):=by omega
   clear Z0 Z1 Z2;go_wp2_with fail;have P:=(Blk.new3 wo 26 (.int .i64 (sumA k).kind) (.int .i64 (sumA k).num) (.slice s (sumA k).kids.length c)).alloc (.cells #[.int .i64 8, .int .i64 0, .slice (some ⟨wo.heap.size,0,none⟩) 1 1] 26);have A:=Blk.new3 (wo.alloc (.cells #[.int .i64 (sumA k).kind, .int .i64 (sumA k).num, .slice s (sumA k).kids.length c] 26)) 26 (.int .i64 8) (.int .i64 0) (.slice (some ⟨wo.heap.size,0,none⟩) 1 1);simp at A
   have hb2:Below wo.heap.size wo ((wo.alloc (.cells #[.int .i64 (sumA k).kind, .int .i64 (sumA k).num, .slice s (sumA k).kids.length c] 26)).alloc (.cells #[.int .i64 8, .int .i64 0, .slice (some ⟨wo.heap.size,0,none⟩) 1 1] 26)):=by (repeat' first|exact Below.refl _ _|assumption|apply Below.alloc|apply Below.drew|apply Below.setCell|omega|(simp; done)|(simp; omega))
   generalize (wo.alloc (.cells #[.int .i64 (sumA k).kind, .int .i64 (sumA k).num, .slice s (sumA k).kids.length c] 26)).alloc (.cells #[.int .i64 8, .int .i64 0, .slice (some ⟨wo.heap.size,0,none⟩) 1 1] 26)=v6 at P A hb2 ⊢;have hat:=A.exAt (ks:=[sumA k]) (kidsD_one P (X:=fun _=>False) (fun h=>h) (RdX.all (hx.below hb2).rd)).rd;have hz6:=hb2.size;have hB6:=hB.trans (hb2.mono (by omega));have R6:=R.below hb2;clear P A hx T T0 T1 T2 L L1 R hb2;have htr:=allA_tree (tm:=t - 1) k;have hasz:=allA_size k;refine (l02Tidy_all (t - 1) ((k:Int) - 1) (by omega) (by omega) _ (allA k) _ _ _ (Nat.le_refl _) hat htr (by omega)).mono ?_;rintro f w7 ⟨sb,cb,rfl,hf,hb⟩;have hz7:=hb.size;have hB7:=hB6.trans (hb.mono (by omega));have R7:=R6.below hb
   have e1:awE t (k:Int)=(allA k).tidy:=by rw [awE,if_pos Hs1.out,Int.toNat_natCast]
   have e2:awC t (k:Int)=0:=by rw [awC,if_pos Hs1.out]
   clear hb hat hB6 R6 htr;have r0:=R7.c0;have r1:=R7.c1;have r2:=R7.c2;have zz0:=R7.frozen 0;have zz1:=R7.frozen 1;have zz2:=R7.frozen 2;have ltR7:=R7.lt;go_wp2_with fail;have R':=((R7.set 0 (.int .i64 (allA k).tidy.kind)).set 1 (.int .i64 (allA k).tidy.num)).set 2 (.slice sb (allA k).tidy.kids.length cb);have c0:=R'.c0;have c1:=R'.c1;have c2:=R'.c2;refine bodyPost_ret (v:= .tuple #[.agg #[.int .i64 (allA k).tidy.kind, .int .i64 (allA k).tidy.num, .slice sb (allA k).tidy.kids.length cb], .int .i64 0]) (by simp [results,Tryd.results4,go_sem,c0,c1,c2]) rfl ?_;rw [e1,e2];refine ⟨sb,cb,rfl,(hf.keep fun b hb1 hb2=> ?_).from (by omega),by (repeat' first|exact Below.refl _ _|assumption|apply Below.alloc|apply Below.drew|apply Below.setCell|omega|(simp; done)|(simp; omega))⟩
   repeat rw [Below.heap_setCell _ _ _ _ (by show b≠w.heap.size+1; omega)]
  ·
   go_wp2_with fail;refine (l02Pair_w (k:=6) (x:=sumA k) (y:= .mk 4 k []) (X:=fun b=>b=q) (fun b h=>by omega) hx kidsD_nil).mono ?_;rintro f w5 ⟨g,rfl,hr,hb⟩
   have ltT5:q<w5.heap.size:=by have:=hb.size; omega
   have hB5:=hB.trans (hb.mono (by omega));replace T:=T.below hb;replace L:=L.below hb;replace R:=R.below hb;clear hx hb hB T0 T1 T2 L1 Z0 Z1 Z2;have Z0:=T.frozen 0;have Z1:=T.frozen 1;have Z2:=T.frozen 2;have T0:=T.c0;have T1:=T.c1;have T2:=T.c2;go_wp2_with fail
   go_roundw
   case rel=>
    have hs8:Spares (fun y=>y=q) w5 (((w5.setCell ⟨q,0,none⟩ (.int .i64 6)).setCell ⟨q,1,none⟩ (.int .i64 0)).setCell ⟨q,2,none⟩ (.slice (some ⟨g,0,none⟩) 2 2)):=Spares.set (Spares.set (Spares.set (Spares.refl w5)));refine ⟨k+1,some ⟨g,0,none⟩,2,by go_num,by omega,((T.set 0 (.int .i64 6)).set 1 (.int .i64 0)).set 2 (.slice (some ⟨g,0,none⟩) 2 2),hr.keep (KeptX.of_spares hs8 (fun b _ h=>h)),L.keep (hs8.block _ (by omega) (by omega)),R.keep (hs8.block _ (by omega) (by omega)),hB5.trans (hs8.below (by omega) (fun y hy=>by omega))⟩
   case measure=>simp [intOf]; omega
theorem Bun.singleA {B:Nat} {w:World} {t size n:Nat} {ds:List D} {v:Value} (h:AppS (fun b=>B≤b∧b<w.heap.size) w t size n ds v):Bun B w [.app t size n ds v]:=by
 refine ⟨fun _=>0,fun i it hi=> ?_⟩
 match i,hi with
 |0,hi=>
  simp at hi;subst hi;exact AppS.more h fun b _ hb=>⟨hb.1,hb.2,rfl⟩
 |i+1,hi=>simp at hi
theorem own_exA {w1 w2:World} {x:Ex} {s:Option Addr} {c:Nat} (hf:Freshs w1 w2 [kidsD x.kids] [.slice s x.kids.length c]):Freshs w1 w2 [.int x.kind, .int x.num,kidsD x.kids] [.int .i64 x.kind, .int .i64 x.num, .slice s x.kids.length c]:=by
 obtain ⟨F,h1,h2,h3⟩:=hf.single;exact ⟨F,Ows.three h1,h2,h3⟩
def acts (n:Nat):List Ex:=(List.range n).map fun i:Nat=> .mk 4 (i:Int) []
theorem acts_len (n:Nat):(acts n).length=n:=by simp [acts]
theorem acts_at {n k:Nat} (h:k<n):(acts n)[k]? =some (.mk 4 (k:Int) []):=by simp [acts,h]
theorem acts_cells (n:Nat):Ex.cellsL (acts (n+1))=Ex.cellsL (acts n)++[.int 4, .int n,kidsD []]:=by
 unfold acts;rw [List.range_succ,List.map_append,Ex.cellsL_append]
 rfl
theorem nil_rdX {X:Nat→Prop} {w:World} {v:Value} (h:Rd w (kidsD []) v):RdX X w (kidsD []) v:=fun w' _=>by
 simp only [kidsD,Rd] at h ⊢;obtain ⟨a,cap,h1,h2,h3,h4,h5,h6⟩:=h;exact ⟨a,cap,h1,h2,h3,h4,h5,Or.inl (by simp)⟩
set_option maxHeartbeats 4000000 in
theorem sumOf_i {X:Nat→Prop} {n:Nat} {s:Option Addr} {c:Nat} {w:World} (hX:∀b,X b→b<w.heap.size) (hn:n≤1000) (hr:Rd w (kidsD (acts n)) (.slice s n c)):
  Calls Tryd.prog 29 #[.slice s n c] w fun f w'=>∃s' c',f= .returned (.agg #[.int .i64 (sumA n).kind, .int .i64 (sumA n).num, .slice s' (sumA n).kids.length c'])∧ExX X w' (sumA n) s' c'∧Below w.heap.size w w':=by
 go_enter Tryd.func29,Tryd.ntmps29
 go_wp2_with fail;have R:=Blk.new3 w 26 (.int .i64 0) (.int .i64 0) (.slice none 0 0)
 have hB:Below w.heap.size w (w.alloc (.cells #[.int .i64 0, .int .i64 0, .slice none 0 0] 26)):=by (repeat' first|exact Below.refl _ _|assumption|apply Below.alloc|apply Below.drew|apply Below.setCell|omega|(simp; done)|(simp; omega))
 generalize w.alloc (.cells #[.int .i64 0, .int .i64 0, .slice none 0 0] 26)=w1 at R hB ⊢;refine (leaf_i (k:=1) (n:=0)).mono ?_;rintro f w2 ⟨rfl,hb⟩;replace hB:=Below.on hB hb hB.size;replace R:=R.below hb;have ltR:=R.lt;clear hb;go_wp2_with fail;have T:=Blk.new3 w2 26 (.int .i64 1) (.int .i64 0) (.slice none 0 0);replace R:=R.alloc (.cells #[.int .i64 1, .int .i64 0, .slice none 0 0] 26)
 have hB3:Below w.heap.size w (w2.alloc (.cells #[.int .i64 1, .int .i64 0, .slice none 0 0] 26)):=by (repeat' first|exact Below.refl _ _|assumption|apply Below.alloc|apply Below.drew|apply Below.setCell|omega|(simp; done)|(simp; omega))
 generalize w2.alloc (.cells #[.int .i64 1, .int .i64 0, .slice none 0 0] 26)=v3 at T R hB3 ⊢;clear hB;obtain ⟨q,hq⟩:∃q,w2.heap.size=q:=⟨_,rfl⟩;simp only [hq] at T ltR ⊢
 go_loopw [9] (fun i wr=>∃(k:Nat) (s1:Option Addr) (c1:Nat),i= .int .i64 k∧k≤n∧Blk wr q 26 [.int .i64 (sumA k).kind, .int .i64 (sumA k).num, .slice s1 (sumA k).kids.length c1]∧ExX (fun b=>X b∨b=q∨b=w.heap.size) wr (sumA k) s1 c1∧Blk wr w.heap.size 26 [.int .i64 0, .int .i64 0, .slice none 0 0]∧Below w.heap.size w wr) (fun i _=>n - (intOf i).toNat)
 case atStart=>exact ⟨0,none,0,rfl,by omega,T,kidsD_nil,R,hB3⟩
 case round=>
  clear T R hB3;obtain ⟨k,s1,c1,rfl,hk,T,hx,R,hB⟩:=hrel;obtain ⟨wo,rfl⟩:∃v,v=wr:=⟨_,rfl⟩;have hk0:=Int.natCast_nonneg k;have hzo:=hB.size;have ltT:=T.lt;have T0:=T.c0;have T1:=T.c1;have T2:=T.c2
  by_cases hlt:k<n
  rotate_left
  ·
   obtain rfl:n=k:=by omega
   have r0:=R.c0;have r1:=R.c1;have r2:=R.c2;have zz0:=R.frozen 0;have zz1:=R.frozen 1;have zz2:=R.frozen 2;go_wp2_with fail;have R':=((R.set 0 (.int .i64 (sumA n).kind)).set 1 (.int .i64 (sumA n).num)).set 2 (.slice s1 (sumA n).kids.length c1);have c0:=R'.c0;have c1':=R'.c1;have c2:=R'.c2;refine bodyPost_ret (v:= .agg #[.int .i64 (sumA n).kind, .int .i64 (sumA n).num, .slice s1 (sumA n).kids.length c1]) (by simp [results,Tryd.results29,go_sem,c0,c1',c2]) rfl ?_;have hs5:Spares (fun y=>y=w.heap.size) wo (((wo.setCell ⟨w.heap.size,0,none⟩ (.int .i64 (sumA n).kind)).setCell ⟨w.heap.size,1,none⟩ (.int .i64 (sumA n).num)).setCell ⟨w.heap.size,2,none⟩ (.slice s1 (sumA n).kids.length c1)):=Spares.set (Spares.set (Spares.set (Spares.refl wo)));exact ⟨s1,c1,rfl,RdX.less (hx.keep (KeptX.of_spares hs5 (fun b _ h=>Or.inr (Or.inr h)))) (fun b _ h=>Or.inl h),by (repeat' first|exact Below.refl _ _|assumption|apply Below.alloc|apply Below.drew|apply Below.setCell|omega|(simp; done)|(simp; omega))⟩
  ·
   have hro:=hr.below hB;have hln:(acts n).length=n:=acts_len n;obtain ⟨kb,ko,rfl⟩:=kid_some hro (fun h=>by rw [h] at hln; simp at hln; omega);obtain ⟨hkb,sx,cx,i0',i1,i2,hxr⟩:=kid_in hro (acts_at hlt);simp only [Ex.kind_mk,Ex.num_mk,Ex.kids_mk] at i0' i1 i2 hxr
   have hk1:(k:Int)<(n:Int):=by omega
   go_wp2_with fail;have P:=Blk.new6 (wo.alloc (.cells #[.int .i64 4, .int .i64 k, .slice sx 0 cx] 26)) 26 (.int .i64 (sumA k).kind) (.int .i64 (sumA k).num) (.slice s1 (sumA k).kids.length c1) (.int .i64 4) (.int .i64 k) (.slice sx 0 cx);simp at P
   have hb2:Below wo.heap.size wo ((wo.alloc (.cells #[.int .i64 4, .int .i64 k, .slice sx 0 cx] 26)).alloc (.cells #[.int .i64 (sumA k).kind, .int .i64 (sumA k).num, .slice s1 (sumA k).kids.length c1, .int .i64 4, .int .i64 k, .slice sx 0 cx] 26)):=by (repeat' first|exact Below.refl _ _|assumption|apply Below.alloc|apply Below.drew|apply Below.setCell|omega|(simp; done)|(simp; omega))
   generalize (wo.alloc (.cells #[.int .i64 4, .int .i64 k, .slice sx 0 cx] 26)).alloc (.cells #[.int .i64 (sumA k).kind, .int .i64 (sumA k).num, .slice s1 (sumA k).kids.length c1, .int .i64 4, .int .i64 k, .slice sx 0 cx] 26)=w6 at P hb2 ⊢;have hk2:RdX (fun b=>X b∨b=q∨b=w.heap.size) w6 (kidsD [sumA k, .mk 4 k []]) (.slice (some ⟨wo.heap.size+1,0,none⟩) 2 2):=kidsD_two P (fun h=>by rcases h with h|h|h; have:=hX _ h; all_goals omega) (hx.below hb2) ((nil_rdX hxr).below hb2);have hz6:=hb2.size;have hB6:=hB.trans (hb2.mono (by omega));replace T:=T.below hb2;replace R:=R.below hb2;clear P hx hB T0 T1 T2 i0' i1 i2 hxr hb2;refine (tree_i (k:=6)).mono ?_;rintro f w7 ⟨rfl,hb⟩;have hz7:=hb.size;have hB7:=hB6.trans (hb.mono (by omega));replace hk2:=hk2.below hb;replace T:=T.below hb;replace R:=R.below hb;clear hb hB6;have Z0:=T.frozen 0;have Z1:=T.frozen 1;have Z2:=T.frozen 2;have T0:=T.c0;have T1:=T.c1;have T2:=T.c2;have ltT7:=T.lt;go_wp2_with fail
   go_roundw
   case rel=>
    have hs8:Spares (fun y=>y=q) w7 (((w7.setCell ⟨q,0,none⟩ (.int .i64 6)).setCell ⟨q,1,none⟩ (.int .i64 0)).setCell ⟨q,2,none⟩ (.slice (some ⟨wo.heap.size+1,0,none⟩) 2 2)):=Spares.set (Spares.set (Spares.set (Spares.refl w7)));exact ⟨k+1,some ⟨wo.heap.size+1,0,none⟩,2,by go_num,by omega,((T.set 0 (.int .i64 6)).set 1 (.int .i64 0)).set 2 (.slice (some ⟨wo.heap.size+1,0,none⟩) 2 2),hk2.keep (KeptX.of_spares hs8 (fun b _ h=>Or.inr (Or.inl h))),R.keep (hs8.block _ (by omega) (by omega)),hB7.trans (hs8.below (by omega) (fun y hy=>by omega))⟩
   case measure=>simp [intOf]; omega
set_option maxHeartbeats 4000000 in
theorem allWords_i {t a:Int} {w:World} (hs:sigB t a=true):
  Calls Tryd.prog 16 #[.agg #[.int .i64 t, .int .i64 a]] w fun e w'=>∃s' c',e= .returned (.agg #[.int .i64 (allA a.toNat).tidy.kind, .int .i64 (allA a.toNat).tidy.num, .slice s' (allA a.toNat).tidy.kids.length c'])∧
   Rd w' (kidsD (allA a.toNat).tidy.kids) (.slice s' (allA a.toNat).tidy.kids.length c')∧Below w.heap.size w w':=by
 obtain ⟨h0,h1,h2,h3⟩:=sigB_bd hs;obtain ⟨n,rfl⟩:∃n:Nat,a=(n:Int):=⟨a.toNat,by omega⟩;rw [Int.toNat_natCast];clear hs
 go_enter Tryd.func16,Tryd.ntmps16
 go_wp2_with fail;have R:=(Blk.new3 (w.alloc (.cells #[.int .i64 t, .int .i64 n] 29)) 26 (.int .i64 0) (.int .i64 0) (.slice none 0 0)).alloc (.cells #[] 26);have E:=Blk.made ((w.alloc (.cells #[.int .i64 t, .int .i64 n] 29)).alloc (.cells #[.int .i64 0, .int .i64 0, .slice none 0 0] 26)) 26 #[];simp at R E
 have hB:Below w.heap.size w (((w.alloc (.cells #[.int .i64 t, .int .i64 n] 29)).alloc (.cells #[.int .i64 0, .int .i64 0, .slice none 0 0] 26)).alloc (.cells #[] 26)):=by (repeat' first|exact Below.refl _ _|assumption|apply Below.alloc|apply Below.drew|apply Below.setCell|omega|(simp; done)|(simp; omega))
 generalize ((w.alloc (.cells #[.int .i64 t, .int .i64 n] 29)).alloc (.cells #[.int .i64 0, .int .i64 0, .slice none 0 0] 26)).alloc (.cells #[] 26)=w1 at R E hB ⊢;have ltE:w.heap.size+1+1<w1.heap.size:=Blk.lt E;have hBu:Bun (w.heap.size+2) w1 [.app 26 3 0 [] (.slice (some ⟨w.heap.size+1+1,0,none⟩) 0 0)]:=Bun.singleA (AppS.empty E ⟨by omega,ltE⟩);clear E
 go_loopw [3,8] (fun v i wr=>∃k:Nat,i= .int .i64 k∧k≤n∧Bun (w.heap.size+2) wr [.app 26 3 k (Ex.cellsL (acts k)) v]∧Blk wr (w.heap.size+1) 26 [.int .i64 0, .int .i64 0, .slice none 0 0]∧Below w.heap.size w wr∧w.heap.size+2≤wr.heap.size) (fun _ i _=>n - (intOf i).toNat)
 case atStart=>exact ⟨0,rfl,by omega,hBu,R,hB,by omega⟩
 case round=>
  clear hBu R hB;obtain ⟨k,rfl,hk,hbun,R,hbe,hzr⟩:=hrel;obtain ⟨wo,rfl⟩:∃v,v=wr:=⟨_,rfl⟩;obtain ⟨a0,c0,rfl,hc1,hc2⟩:=hbun.shape 0 rfl;unfold maxLen at hc2;have hk0:=Int.natCast_nonneg k
  by_cases hlt:(k:Int)<(n:Int)
  rotate_left
  ·
   obtain rfl:k=n:=by omega
   have hrd:Rd wo (kidsD (acts k)) (.slice a0 k c0):=by
    have hf:=(hbun.fresh (W:=w) (by omega) 0 rfl).rd;have hl:=acts_len k
    simpa [kidsD,hl] using hf
   clear hbun;go_wp2_with fail;refine (sumOf_i (X:=fun b=>b=w.heap.size+1) (fun b h=>by omega) (by omega) hrd).mono ?_;rintro f w3 ⟨s3,c3,rfl,hx3,hb3⟩;have hz3:=hb3.size;have hbe3:=hbe.trans (hb3.mono (by omega));replace R:=R.below hb3;clear hb3 hbe hrd;go_wp2_with fail;have P:=Blk.new3 w3 26 (.int .i64 (sumA k).kind) (.int .i64 (sumA k).num) (.slice s3 (sumA k).kids.length c3)
   have hb4:Below w3.heap.size w3 (w3.alloc (.cells #[.int .i64 (sumA k).kind, .int .i64 (sumA k).num, .slice s3 (sumA k).kids.length c3] 26)):=by (repeat' first|exact Below.refl _ _|assumption|apply Below.alloc|apply Below.drew|apply Below.setCell|omega|(simp; done)|(simp; omega))
   generalize w3.alloc (.cells #[.int .i64 (sumA k).kind, .int .i64 (sumA k).num, .slice s3 (sumA k).kids.length c3] 26)=w4 at P hb4 ⊢;have hz4:=hb4.size;have hk4:ExX (fun b=>b=w.heap.size+1) w4 (allA k) (some ⟨w3.heap.size,0,none⟩) 1:=kidsD_one P (fun h=>by omega) (hx3.below hb4);have hbe4:=hbe3.trans (hb4.mono (by omega));replace R:=R.below hb4;clear P hb4 hbe3 hx3;refine (tree_i (k:=8)).mono ?_;rintro f w5 ⟨rfl,hb⟩;have hz5:=hb.size;have hbe5:=hbe4.trans (hb.mono (by omega));have hk5:=hk4.below hb;replace R:=R.below hb;clear hk4 hb hbe4;have htr:=allA_tree (tm:=t - 1) k;have hasz:=allA_size k;go_wp2_with fail;refine (tidy_all (t - 1) ((k:Int) - 1) (by omega) (by omega) _ (allA k) (fun b=>b=w.heap.size+1) _ _ _ (Nat.le_refl _) (fun b h=>by omega) hk5 htr (by omega)).mono ?_;rintro f w7 ⟨sb,cb,rfl,hx7,hb⟩;have hz7:=hb.size;have hbe7:=hbe5.trans (hb.mono (by omega));replace R:=R.below hb;clear hb hk5 hbe5;have r0:=R.c0;have r1:=R.c1;have r2:=R.c2;have zz0:=R.frozen 0;have zz1:=R.frozen 1;have zz2:=R.frozen 2;go_wp2_with fail;have R':=((R.set 0 (.int .i64 (allA k).tidy.kind)).set 1 (.int .i64 (allA k).tidy.num)).set 2 (.slice sb (allA k).tidy.kids.length cb);have q0:=R'.c0;have q1:=R'.c1;have q2:=R'.c2;have hs8:Spares (fun y=>y=w.heap.size+1) w7 (((w7.setCell ⟨w.heap.size+1,0,none⟩ (.int .i64 (allA k).tidy.kind)).setCell ⟨w.heap.size+1,1,none⟩ (.int .i64 (allA k).tidy.num)).setCell ⟨w.heap.size+1,2,none⟩ (.slice sb (allA k).tidy.kids.length cb)):=Spares.set (Spares.set (Spares.set (Spares.refl w7)));refine bodyPost_ret (v:= .agg #[.int .i64 (allA k).tidy.kind, .int .i64 (allA k).tidy.num, .slice sb (allA k).tidy.kids.length cb]) (by simp [results,Tryd.results16,go_sem,q0,q1,q2]) rfl ?_;exact ⟨sb,cb,rfl,(hx7.keep (KeptX.of_spares hs8 (fun b _ h=>h))).rd,hbe7.trans (hs8.below (by omega) (fun y hy=>by omega))⟩
  ·
   go_wp2_with fail;refine (leaf_i (k:=4) (n:=(k:Int))).mono ?_;rintro f w3 ⟨rfl,hb3⟩;have hz3:=hb3.size;have hbe3:=hbe.trans (hb3.mono (by omega));have HB3:=Lib.hid (hbun.push_own hb3 (by omega) (own_exA (x:= .mk 4 (k:Int) []) (nil_freshs (w:=wo) (w':=w3))));replace R:=R.below hb3;clear hb3 hbe hbun;have hBl:=HB3.out.alloc (.cells #[.int .i64 4, .int .i64 k, .slice none 0 0] 26);have hNl:=Blk.new3 w3 26 (.int .i64 4) (.int .i64 k) (.slice none 0 0)
   go_wp2_with (at_builtin; go_must (refine wpList_append_bun_mv _ rfl _ _ 24 rfl 26 (.agg #[.int .i64 0, .int .i64 0, .slice none 0 0]) 3 40 Tryd.underlying24 zero_implExpr rfl (by decide) hBl (by simp; omega) 0 _ rfl rfl 1 (by decide) rfl ⟨w3.heap.size,0,none⟩ 1 1 rfl (news_blk hNl) rfl (by simp [Value.oneCell']) (by omega) (by omega) (by unfold maxLen; omega) ?_); intro g5 cap5 w4 hbun5 hb5)
   have ltR:=R.lt;replace R:=R.alloc (.cells #[.int .i64 4, .int .i64 k, .slice none 0 0] 26)
   have hzA:(w3.alloc (.cells #[.int .i64 4, .int .i64 k, .slice none 0 0] 26)).heap.size=w3.heap.size+1:=by simp
   have hz5:=hb5.size;have Hfin:=Lib.hid (And.intro (hbun5.take 1) (And.intro (R.keep (hb5.block _ (by omega))) ((hbe3.alloc (by omega) (.cells #[.int .i64 4, .int .i64 k, .slice none 0 0] 26)).trans (hb5.mono (by omega)))));clear hbun5 hb5 hBl hNl R;go_wp2_with fail
   go_roundw
   case rel=>
    obtain ⟨q1,q2,q3⟩:=Hfin.out;refine ⟨k+1,by go_num,by omega, ?_,q2,q3,by omega⟩;rw [acts_cells];exact q1
   case measure=>simp [intOf]; omega
set_option maxHeartbeats 4000000 in
theorem implAllWords_i {t a:Int} {w:World}:
  Calls Tryd.prog 6 #[.agg #[.int .i64 t, .int .i64 a]] w fun e w'=>∃s' c',e= .returned (.tuple #[.agg #[.int .i64 (awE t a).kind, .int .i64 (awE t a).num, .slice s' (awE t a).kids.length c'], .int .i64 (awC t a)])∧
   Freshs w w' [kidsD (awE t a).kids] [.slice s' (awE t a).kids.length c']∧Below w.heap.size w w':=by
 go_enter Tryd.func6,Tryd.ntmps6
 go_wp2_with fail;have L:=(Blk.new2 w 29 (.int .i64 t) (.int .i64 a)).alloc (.cells #[.int .i64 0, .int .i64 0, .slice none 0 0] 26);have R:=Blk.new3 (w.alloc (.cells #[.int .i64 t, .int .i64 a] 29)) 26 (.int .i64 0) (.int .i64 0) (.slice none 0 0);simp at R
 have hB:Below w.heap.size w ((w.alloc (.cells #[.int .i64 t, .int .i64 a] 29)).alloc (.cells #[.int .i64 0, .int .i64 0, .slice none 0 0] 26)):=by (repeat' first|exact Below.refl _ _|assumption|apply Below.alloc|apply Below.drew|apply Below.setCell|omega|(simp; done)|(simp; omega))
 have hB0:=hB;generalize ((w.alloc (.cells #[.int .i64 t, .int .i64 a] 29)).alloc (.cells #[.int .i64 0, .int .i64 0, .slice none 0 0] 26))=v0 at L R hB hB0 ⊢;have l0:=L.c0;have l1:=L.c1;have r0:=R.c0;have r1:=R.c1;have r2:=R.c2;have ltL:=L.lt;have ltR:=R.lt;have zz0:=R.frozen 0;have zz1:=R.frozen 1;have zz2:=R.frozen 2;go_wp2_with fail;refine (implValidSig_any t a _).mono ?_;rintro x w1 ⟨rfl,hb⟩;clear l0 l1 r0 r1 r2 ltL ltR zz0 zz1 zz2;replace hB:=Below.on hB hb hB.size;replace L:=L.below hb;replace R:=R.below hb;clear hb;have szW1:=hB.size;have rlt1:=R.lt
 cases hs1:sigB t a
 ·
  have l0:=L.c0;have l1:=L.c1;have ltL:=L.lt;have r0:=R.c0;have zz0:=R.frozen 0;have r1:=R.c1;have zz1:=R.frozen 1;have r2:=R.c2;have zz2:=R.frozen 2;have ltR:=R.lt;go_wp2_with fail;have R':=(((R.set 0 (.int .i64 0)).set 1 (.int .i64 0)).set 2 (.slice none 0 0));have c0:=R'.c0;have c1:=R'.c1;have c2:=R'.c2;refine bodyPost_ret (v:= .tuple #[.agg #[.int .i64 0, .int .i64 0, .slice none 0 0], .int .i64 1]) (by simp [results,Tryd.results6,go_sem,c0,c1,c2]) rfl ?_
  have e1:awE t a= .mk 0 0 []:=by simp [awE,hs1,Ex.zero]
  have e2:awC t a=1:=by simp [awC,hs1]
  rw [e1,e2];exact ⟨none,0,rfl,fresh_nil1 _ _,by (repeat' first|exact Below.refl _ _|assumption|apply Below.alloc|apply Below.drew|apply Below.setCell|omega|(simp; done)|(simp; omega))⟩
 have Hs1:=Lib.hid hs1;clear hs1;have l0:=L.c0;have l1:=L.c1;have r0:=R.c0;have r1:=R.c1;have r2:=R.c2;have ltL:=L.lt;have ltR:=R.lt;have zz0:=R.frozen 0;have zz1:=R.frozen 1;have zz2:=R.frozen 2;go_wp2_with fail;refine (allWords_i Hs1.out).mono ?_;rintro x w2 ⟨sb,cb,rfl,hx,hb⟩;clear l0 l1 r0 r1 r2 ltL ltR zz0 zz1 zz2;replace hB:=Below.on hB hb hB.size;replace L:=L.below hb;replace R:=R.below hb;clear hb;have szW2:=hB.size;have rlt2:=R.lt;have l0:=L.c0;have l1:=L.c1;have r0:=R.c0;have r1:=R.c1;have r2:=R.c2;have ltL:=L.lt;have ltR:=R.lt;have zz0:=R.frozen 0;have zz1:=R.frozen 1;have zz2:=R.frozen 2;go_wp2_with fail;refine (copy_k hx (by have h0:=awE_size t a; rw [awE,if_pos Hs1.out] at h0; omega)).mono ?_;rintro x w3 ⟨sd,cd,rfl,hf,hb⟩;clear l0 l1 r0 r1 r2 ltL ltR zz0 zz1 zz2;replace hB:=Below.on hB hb hB.size;replace L:=L.below hb;replace R:=R.below hb;clear hb;have szW3:=hB.size;have rlt3:=R.lt;have l0:=L.c0;have l1:=L.c1;have r0:=R.c0;have r1:=R.c1;have r2:=R.c2;have ltL:=L.lt;have ltR:=R.lt;have zz0:=R.frozen 0;have zz1:=R.frozen 1;have zz2:=R.frozen 2;go_wp2_with fail;have R':=(((R.set 0 (.int .i64 (allA a.toNat).tidy.kind)).set 1 (.int .i64 (allA a.toNat).tidy.num)).set 2 (.slice sd (allA a.toNat).tidy.kids.length cd));have c0:=R'.c0;have c1:=R'.c1;have c2:=R'.c2;refine bodyPost_ret (v:= .tuple #[.agg #[.int .i64 (allA a.toNat).tidy.kind, .int .i64 (allA a.toNat).tidy.num, .slice sd (allA a.toNat).tidy.kids.length cd], .int .i64 0]) (by simp [results,Tryd.results6,go_sem,c0,c1,c2]) rfl ?_
 have e1:awE t a=(allA a.toNat).tidy:=by simp [awE,Hs1.out]
 have e2:awC t a=0:=by simp [awC,Hs1.out]
 rw [e1,e2];refine ⟨sd,cd,rfl,(hf.keep fun b hb1 hb2=> ?_).from szW2,by (repeat' first|exact Below.refl _ _|assumption|apply Below.alloc|apply Below.drew|apply Below.setCell|omega|(simp; done)|(simp; omega))⟩
 repeat rw [Below.heap_setCell _ _ _ _ (by show b≠w.heap.size+1; omega)]
end Go.Proofs.YtfopdcdbelaapaaDoor
namespace Go.Proofs.YtfopdcdbelaapaaDoor
set_option linter.unusedVariables false
set_option linter.unusedSimpArgs false
open Go.ChangeShapes Go.WideShapes Go.ChangeAt Go.RowKit Go.Sort
theorem marksL_cells:∀ks:List Ex,D.marksL (Ex.cellsL ks)=2*Ex.sizeL ks
 |[]=>by simp [Ex.cellsL,D.marksL,Ex.sizeL]
 | .mk k n us::r=>by
  have h1:=marksL_cells us;have h2:=marksL_cells r;simp only [Ex.cellsL,Ex.cells,List.cons_append,List.nil_append,D.marksL,D.marks,Ex.sizeL,Ex.size,h1,h2];omega
theorem cellsL_take:∀(ks:List Ex) (j:Nat),(Ex.cellsL ks).take (j*3)=Ex.cellsL (ks.take j)
 |[],j=>by simp [Ex.cellsL]
 |e::r,0=>by simp [Ex.cellsL]
 |e::r,j+1=>by
  simp only [List.take_succ_cons,Ex.cellsL];rw [←cellsL_take r j,List.take_append,Ex.cells_length,List.take_of_length_le (by rw [Ex.cells_length]; omega)]
  congr 2
  omega
set_option maxHeartbeats 2000000 in
theorem markExprS_all (N:Nat):∀(ks:List Ex) (s:Option Addr) (c k:Nat) (F:List Nat) (w:World),Ex.sizeL ks≤N→Ow w (kidsD ks) (.slice s ks.length c) F→F.Nodup→k+2*Ex.sizeL ks≤1000000000000→
  Calls Tryd.prog 18 #[.slice s ks.length c, .int .i64 k] w fun e w'=>e= .returned (.int .i64 (k+2*Ex.sizeL ks:Nat))∧Ow w' (D.mark (kidsD ks) k) (.slice s ks.length c) F∧Only F w w':=by
 induction N using Nat.strongRecOn with
 |_ N ih=>
 intro ks s c k F w hN h hn hk;have hkl:=Ex.length_le_sizeL ks
 have H0:Ow w (.sl 3 ks.length (mkd (Ex.cellsL ks) (0*3) k)) (.slice s ks.length c) F:=by rw [Nat.zero_mul,mkd_zero]; exact h
 go_enter Tryd.func18,Tryd.ntmps18
 go_wp2_with fail
 go_loopw [1,5] (fun q i wr=>∃j:Nat,j≤ks.length∧i= .int .i64 j∧q= .int .i64 (k+2*Ex.sizeL (ks.take j):Nat)∧Ow wr (.sl 3 ks.length (mkd (Ex.cellsL ks) (j*3) k)) (.slice s ks.length c) F∧Only F w wr) (fun _ i _=>ks.length - (intOf i).toNat)
 case atStart=>exact ⟨0,by omega,rfl,by simp [Ex.sizeL],H0,Only.refl _ _⟩
 case round=>
  clear h H0;obtain ⟨j,hj,rfl,rfl,h,hO⟩:=hrel
  by_cases hlt:j<ks.length
  ·
   obtain ⟨x,hx⟩:∃e,ks[j]? =some e:=⟨_,List.getElem?_eq_getElem hlt⟩;obtain ⟨b,o,rfl⟩:=h.spot (by omega);have hxs:=Ex.size_eq x;have hxm:=Ex.sizeL_mem (List.mem_of_getElem? hx);have htk:=Ex.sizeL_take_succ hx;have htl:=Ex.sizeL_take_le ks (j+1);have c0:=Ex.cellsL_at ks j x hx 0 (by omega);have c1:=Ex.cellsL_at ks j x hx 1 (by omega);have c2:=Ex.cellsL_at ks j x hx 2 (by omega);rw [Ex.cells_eq] at c0 c1 c2;rw [show 3*j+0=j*3 by omega] at c0;rw [show 3*j+1=j*3+1 by omega] at c1;rw [show 3*j+2=j*3+2 by omega] at c2;simp only [List.getElem?_cons_zero,List.getElem?_cons_succ] at c0 c1 c2;obtain ⟨q,hq⟩:∃q,k+2*Ex.sizeL (ks.take j)=q:=⟨_,rfl⟩
   have m0:D.marksL ((Ex.cellsL ks).take (j*3))=2*Ex.sizeL (ks.take j):=by rw [cellsL_take,marksL_cells]
   have m1:D.marksL ((Ex.cellsL ks).take (j*3+1))=2*Ex.sizeL (ks.take j)+1:=by rw [marks_step c0,m0]; rfl
   have m2:D.marksL ((Ex.cellsL ks).take (j*3+2))=2*Ex.sizeL (ks.take j)+2:=by rw [marks_step c1,m1]; rfl
   obtain ⟨g0,z0,gl,s0⟩:=h.int_cell hn (mkd_at c0 (Nat.le_refl _) k);obtain ⟨p1,p2⟩:=s0 (q:Int);have e1:=mkd_step c0 k;rw [m0,hq] at e1;rw [show D.mark (D.int x.kind) q=D.int (q:Int) from by simp only [D.mark]] at e1;rw [e1] at p1;obtain ⟨g1,z1, -, s1⟩:=p1.int_cell hn (mkd_at c1 (Nat.le_refl _) k);obtain ⟨q1,q2⟩:=s1 ((q:Int)+1);have e2:=mkd_step c1 k;rw [m1,show k+(2*Ex.sizeL (ks.take j)+1)=q+1 by omega] at e2;rw [show D.mark (D.int x.num) (q+1)=D.int ((q:Int)+1) from by simp only [D.mark]; congr 1] at e2;rw [e2] at q1;obtain ⟨a',c',G,g2,z2, -, -, hGF,hGn,hG,s2⟩:=q1.sl_cell hn (mkd_at c2 (Nat.le_refl _) k);have e3:=mkd_step c2 k;rw [m2,show k+(2*Ex.sizeL (ks.take j)+2)=q+2 by omega] at e3;rw [show j*3+2+1=(j+1)*3 by omega] at e3;have He3:=Lib.hid e3;have q12:=hO.trans (p2.trans q2);simp only [←Nat.add_assoc] at s2 q12;have Hs2:=Lib.hid s2;have Hq12:=Lib.hid q12
   have Hq:Hid (q+2+2*Ex.sizeL x.kids=k+2*Ex.sizeL (ks.take (j+1))):=by show _=_; omega
   have hqb:q+2+2*Ex.sizeL x.kids≤1000000000000:=by omega
   have hxN:Ex.sizeL x.kids<N:=by omega
   rw [←Nat.add_assoc] at g1 z1 g2 z2;rw [hq];simp only [←Nat.add_assoc] at hG g2 z2;clear q12 e1 e2 e3 m0 m1 m2 c0 c1 c2 hq p1 p2 q1 q2 s0 s1 s2 hxs hxm htk htl hO h hx;go_wp2_with fail;rw [show ((q:Int)+1+1)=((q+2:Nat):Int) from by omega];refine (ih _ hxN x.kids a' c' (q+2) G _ (Nat.le_refl _) hG hGn hqb).mono ?_;rintro e w1 ⟨rfl,hm,hO2⟩;obtain ⟨t1,t2⟩:=Hs2.out w1 _ hm hO2
   have t3:Ow w1 (.sl 3 ks.length (mkd (Ex.cellsL ks) ((j+1)*3) k)) (.slice (some ⟨b,o,none⟩) ks.length c) F:=by rw [←He3.out]; exact t1
   have Hfin:=Lib.hid (And.intro t3 (Hq12.out.trans t2));clear t1 t2 t3 hm hO2 hG g2 z2 g0 z0 g1 z1;rw [Hq.out];go_wp2_with fail
   go_roundw
   case rel=>exact ⟨j+1,by omega,by go_num,rfl,Hfin.out.1,Hfin.out.2⟩
   case measure=>simp [intOf]; omega
  ·
   obtain rfl:j=ks.length:=by omega
   have e:=mkd_all (Ex.cellsL ks) k;rw [Ex.cellsL_length] at e;rw [e] at h;rw [List.take_length] at*;go_wp2_with fail;go_ret;exact ⟨rfl,h,hO⟩
theorem markExpr_i {kd n:Int} {ks:List Ex} {s:Option Addr} {c k:Nat} {F:List Nat} {w:World} (h:Ow w (kidsD ks) (.slice s ks.length c) F) (hn:F.Nodup) (hk:k+2*Ex.sizeL ks≤1000000000000):
  Calls Tryd.prog 8 #[.agg #[.int .i64 kd, .int .i64 n, .slice s ks.length c], .int .i64 k] w fun e w'=>e= .returned (.int .i64 (k+2*Ex.sizeL ks:Nat))∧Ow w' (D.mark (kidsD ks) k) (.slice s ks.length c) F∧Only F w w':=by
 have hO:Only F w (w.alloc (.cells #[.int .i64 kd, .int .i64 n, .slice s ks.length c] 26)):=(Only.refl _ _).alloc _;have h':=h.keep (w':=w.alloc (.cells #[.int .i64 kd, .int .i64 n, .slice s ks.length c] 26)) fun b hb=>Below.heap_alloc w _ b (h.lt b hb)
 go_enter Tryd.func8,Tryd.ntmps8
 go_wp2_with fail;refine (markExprS_all _ ks s c k F _ (Nat.le_refl _) h' hn hk).mono ?_;rintro e w1 ⟨rfl,hm,hO2⟩;go_wp2_with fail;go_ret;exact ⟨rfl,hm,hO.trans hO2⟩
set_option maxHeartbeats 2000000 in
theorem heldExprS_all (N:Nat):∀(ks:List Ex) (s:Option Addr) (c k:Nat) (w:World),Ex.sizeL ks≤N→Rd w (D.mark (kidsD ks) k) (.slice s ks.length c)→k+2*Ex.sizeL ks≤1000000000000→
  Calls Tryd.prog 19 #[.slice s ks.length c, .int .i64 k] w fun e w'=>e= .returned (.int .i64 (k+2*Ex.sizeL ks:Nat))∧w=w':=by
 induction N using Nat.strongRecOn with
 |_ N ih=>
 intro ks s c k w hN h hk;have hkl:=Ex.length_le_sizeL ks;have h':=h;unfold kidsD D.mark at h';obtain ⟨-, hln,hcp, -, -, h4⟩:=h'.sl_at;unfold maxLen at hcp;clear h'
 go_enter Tryd.func19,Tryd.ntmps19
 go_wp2_with fail
 go_loop [1,5] (fun q i=>∃j:Nat,j≤ks.length∧i= .int .i64 j∧q= .int .i64 (k+2*Ex.sizeL (ks.take j):Nat)) (fun _ i=>ks.length - (intOf i).toNat)
 case atStart=>exact ⟨0,by omega,rfl,by simp [Ex.sizeL]⟩
 case round=>
  obtain ⟨j,hj,rfl,rfl⟩:=hrel
  by_cases hlt:j<ks.length
  ·
   obtain ⟨x,hx⟩:∃e,ks[j]? =some e:=⟨_,List.getElem?_eq_getElem hlt⟩
   rcases h4 with h4|⟨b,o,rfl,h4⟩
   ·
    omega
   have hxs:=Ex.size_eq x;have hxm:=Ex.sizeL_mem (List.mem_of_getElem? hx);have htk:=Ex.sizeL_take_succ hx;have htl:=Ex.sizeL_take_le ks (j+1);have c0:=Ex.cellsL_at ks j x hx 0 (by omega);have c1:=Ex.cellsL_at ks j x hx 1 (by omega);have c2:=Ex.cellsL_at ks j x hx 2 (by omega);rw [Ex.cells_eq] at c0 c1 c2;rw [show 3*j+0=j*3 by omega] at c0;rw [show 3*j+1=j*3+1 by omega] at c1;rw [show 3*j+2=j*3+2 by omega] at c2;simp only [List.getElem?_cons_zero,List.getElem?_cons_succ] at c0 c1 c2;obtain ⟨q,hq⟩:∃q,k+2*Ex.sizeL (ks.take j)=q:=⟨_,rfl⟩
   have m0:D.marksL ((Ex.cellsL ks).take (j*3))=2*Ex.sizeL (ks.take j):=by rw [cellsL_take,marksL_cells]
   have m1:D.marksL ((Ex.cellsL ks).take (j*3+1))=2*Ex.sizeL (ks.take j)+1:=by rw [marks_step c0,m0]; rfl
   have m2:D.marksL ((Ex.cellsL ks).take (j*3+2))=2*Ex.sizeL (ks.take j)+2:=by rw [marks_step c1,m1]; rfl
   have a0:=markL_at c0 k;have a1:=markL_at c1 k;have a2:=markL_at c2 k;rw [m0,hq] at a0;rw [m1,show k+(2*Ex.sizeL (ks.take j)+1)=q+1 by omega] at a1;rw [m2,show k+(2*Ex.sizeL (ks.take j)+2)=q+2 by omega] at a2;obtain ⟨x0,g0,r0⟩:=h4 _ _ a0;obtain ⟨x1,g1,r1⟩:=h4 _ _ a1;obtain ⟨x2,g2,r2⟩:=h4 _ _ a2;simp only [D.mark,Rd] at r0 r1;subst r0 r1
   obtain ⟨a',c',rfl, -⟩:∃a' c',x2= .slice a' x.kids.length c'∧True:=by
    unfold kidsD D.mark at r2;obtain ⟨a',c',e,_⟩:=r2.slice;exact ⟨a',c',e,trivial⟩
   have Hq:Hid (q+2+2*Ex.sizeL x.kids=k+2*Ex.sizeL (ks.take (j+1))):=by show _=_; omega
   have hqb:q+2+2*Ex.sizeL x.kids≤1000000000000:=by omega
   have hxN:Ex.sizeL x.kids<N:=by omega
   rw [←Nat.add_assoc] at g1 g2;rw [hq];rw [show ((q+1:Nat):Int)=(q:Int)+1 from by omega] at g1;clear m0 m1 m2 c0 c1 c2 a0 a1 a2 hq hxs hxm htk htl h hx h4;go_wp2_with fail;rw [show ((q:Int)+1+1)=((q+2:Nat):Int) from by omega];refine (ih _ hxN x.kids a' c' (q+2) _ (Nat.le_refl _) r2 hqb).mono ?_;rintro e w' ⟨rfl,rfl⟩;rw [Hq.out];clear g0 g1 g2;go_wp2_with fail
   go_round
   case rel=>exact ⟨j+1,by omega,by go_num,rfl⟩
   case measure=>simp [intOf]; omega
  ·
   obtain rfl:j=ks.length:=by omega
   rw [List.take_length] at*;go_wp2_with fail;go_ret;exact ⟨rfl,rfl⟩
theorem heldExpr_i {kd n:Int} {ks:List Ex} {s:Option Addr} {c k:Nat} {w:World} (h:Rd w (D.mark (kidsD ks) k) (.slice s ks.length c)) (hk:k+2*Ex.sizeL ks≤1000000000000):
  Calls Tryd.prog 9 #[.agg #[.int .i64 kd, .int .i64 n, .slice s ks.length c], .int .i64 k] w fun e w'=>e= .returned (.int .i64 (k+2*Ex.sizeL ks:Nat))∧Below w.heap.size w w':=by
 have h':=h.alloc (.cells #[.int .i64 kd, .int .i64 n, .slice s ks.length c] 26)
 go_enter Tryd.func9,Tryd.ntmps9
 go_wp2_with fail;refine (heldExprS_all _ ks s c k _ (Nat.le_refl _) h' hk).mono ?_;rintro e w' ⟨rfl,rfl⟩;go_wp2_with fail;go_ret;exact ⟨rfl,by (repeat' first|exact Below.refl _ _|assumption|apply Below.alloc|apply Below.drew|apply Below.setCell|omega|(simp; done)|(simp; omega))⟩
theorem Ows.single {w:World} {d:D} {v:Value} {F:List Nat} (h:Ows w [d] [v] F):Ow w d v F:=by
 simp only [Ows] at h;obtain ⟨x,r,G,K,e1,e2,h1,e3,rfl⟩:=h;simp only [List.cons.injEq] at e1;obtain ⟨rfl, -⟩:=e1;rw [e2,List.append_nil];exact h1
theorem Ow.single {w:World} {d:D} {v:Value} {F:List Nat} (h:Ow w d v F):Ows w [d] [v] F:=by
 have:=Ows.cons h Ows.nil
 simpa using this
theorem markExprL_i {kd n:Int} {ks:List Ex} {s:Option Addr} {c k:Nat} {F:List Nat} {w:World} (h:Ows w [kidsD ks] [.slice s ks.length c] F) (hn:F.Nodup) (hk:k+2*Ex.sizeL ks≤1000000000000):
  Calls Tryd.prog 8 #[.agg #[.int .i64 kd, .int .i64 n, .slice s ks.length c], .int .i64 k] w fun e w'=>e= .returned (.int .i64 (k+2*Ex.sizeL ks:Nat))∧Ows w' (D.markL [kidsD ks] k) [.slice s ks.length c] F∧Only F w w':=
 (markExpr_i h.single hn hk).mono fun _ _ ⟨h1,h2,h3⟩=>⟨h1,h2.single,h3⟩
theorem heldExprL_i {kd n:Int} {ks:List Ex} {s:Option Addr} {c k:Nat} {w:World} (h:Rds w (D.markL [kidsD ks] k) [.slice s ks.length c]) (hk:k+2*Ex.sizeL ks≤1000000000000):
  Calls Tryd.prog 9 #[.agg #[.int .i64 kd, .int .i64 n, .slice s ks.length c], .int .i64 k] w fun e w'=>e= .returned (.int .i64 (k+2*Ex.sizeL ks:Nat))∧Below w.heap.size w w':=
 heldExpr_i (Rds.one h) hk
def EqS (N:Nat):Prop:=∀(ks js:List Ex) (s t:Option Addr) (cap cap':Nat) (w:World),Ex.sizeL ks≤N→Rd w (kidsD ks) (.slice s ks.length cap)→Rd w (kidsD js) (.slice t js.length cap')→
  Calls Tryd.prog 17 #[.slice s ks.length cap, .slice t js.length cap'] w fun e w'=>e= .returned (.bool (eqb ks js))∧Below w.heap.size w w'
theorem eqExpr_of {N:Nat} (hS:EqS N) (k n k' n':Int) (ks js:List Ex) (s t:Option Addr) (cap cap':Nat) (w:World) (hN:Ex.sizeL ks≤N) (hr:Rd w (kidsD ks) (.slice s ks.length cap)) (hr':Rd w (kidsD js) (.slice t js.length cap')):
  Calls Tryd.prog 7 #[.agg #[.int .i64 k, .int .i64 n, .slice s ks.length cap], .agg #[.int .i64 k', .int .i64 n', .slice t js.length cap']] w fun e w'=>e= .returned (.bool (eqb (Ex.mk k n ks) (Ex.mk k' n' js)))∧Below w.heap.size w w':=by
 by_cases h1:k=k'
 ·
  subst h1
  by_cases h2:n=n'
  ·
   subst h2
   have b1:(k !=k)=false:=by simp
   have b2:(n !=n)=false:=by simp
   have e1:eqb (Ex.mk k n ks) (Ex.mk k n js)=eqb ks js:=by
    by_cases h:ks=js
    ·
     rw [eqb_true h,eqb_true (by rw [h])]
    ·
     rw [eqb_false h,eqb_false (by simp [h])]
   rw [e1];clear e1
   go_enter Tryd.func7,Tryd.ntmps7
   go_wp2_with fail;refine (hS ks js s t cap cap' _ hN (by repeat (first|exact hr|apply Rd.alloc)) (by repeat (first|exact hr'|apply Rd.alloc))).mono ?_;rintro e w1 ⟨rfl,hb⟩;have hB:Below w.heap.size w w1:=Below.on (by (repeat' first|exact Below.refl _ _|assumption|apply Below.alloc|apply Below.drew|apply Below.setCell|omega|(simp; done)|(simp; omega))) hb (by simp; omega);clear hb
   go_wp2
   all_goals go_ret
   all_goals exact ⟨by simp_all,hB⟩
  ·
   have b1:(k !=k)=false:=by simp
   have b2:(n !=n')=true:=by simp [h2]
   have e1:eqb (Ex.mk k n ks) (Ex.mk k n' js)=false:=eqb_false (by simp [h2]);rw [e1]
   go_enter Tryd.func7,Tryd.ntmps7
   go_wp2_with fail;go_ret;exact ⟨rfl,by (repeat' first|exact Below.refl _ _|assumption|apply Below.alloc|apply Below.drew|apply Below.setCell|omega|(simp; done)|(simp; omega))⟩
 ·
  have b1:(k !=k')=true:=by simp [h1]
  have e1:eqb (Ex.mk k n ks) (Ex.mk k' n' js)=false:=eqb_false (by simp [h1]);rw [e1]
  go_enter Tryd.func7,Tryd.ntmps7
  go_wp2_with fail;go_ret;exact ⟨rfl,by (repeat' first|exact Below.refl _ _|assumption|apply Below.alloc|apply Below.drew|apply Below.setCell|omega|(simp; done)|(simp; omega))⟩
theorem eqExprS_all (N:Nat):EqS N:=by
 induction N using Nat.strongRecOn with
 |_ N ih=>
 intro ks js s t cap cap' w hN hr hr';obtain ⟨-, hlen,hcap, -, -⟩:=kid_at hr;obtain ⟨-, hlen',hcap', -, -⟩:=kid_at hr';unfold maxLen at hcap hcap'
 by_cases hl:ks.length=js.length
 ·
  have b1:((ks.length:Int) !=(js.length:Int))=false:=by simp [hl]
  have Hl:=Lib.hid hl;clear hl
  go_enter Tryd.func17,Tryd.ntmps17
  go_wp2_with fail
  go_loopw [5] (fun i wr=>∃k:Nat,k≤ks.length∧i= .int .i64 k∧ks.take k=js.take k∧Below w.heap.size w wr) (fun i _=>ks.length - (intOf i).toNat)
  case atStart=>exact ⟨0,by omega,rfl,by simp,Below.refl _ _⟩
  case round=>
   obtain ⟨k,hk,rfl,hpre,hB⟩:=hrel;have Hpre:=Lib.hid hpre;clear hpre
   by_cases hlt:k<ks.length
   ·
    have hlt':k<js.length:=by have:=Hl.out; omega
    obtain ⟨e,he⟩:∃e,ks[k]? =some e:=⟨_,List.getElem?_eq_getElem hlt⟩;obtain ⟨f,hf⟩:∃e,js[k]? =some e:=⟨_,List.getElem?_eq_getElem hlt'⟩;obtain ⟨b,o,rfl⟩:=kid_some hr (by intro h; simp [h] at hlt);obtain ⟨c,p,rfl⟩:=kid_some hr' (by intro h; simp [h] at hlt');obtain ⟨-, s',c',g0,g1,g2,gr⟩:=kid_in (hr.below hB) he;obtain ⟨-, t',d',k0,k1,k2,kr⟩:=kid_in (hr'.below hB) hf
    have hltN:Ex.sizeL e.kids<N:=by
     have:=Ex.size_eq e;have:=Ex.sizeL_mem (List.mem_of_getElem? he);omega
    have ha:=Int.natCast_nonneg k
    have hb:(k:Int)<(ks.length:Int):=by omega
    have hb':(k:Int)<(js.length:Int):=by omega
    have i0:=fun d os=>cell_regrown g0 d os;have i1:=fun d os=>cell_regrown g1 d os;have i2:=fun d os=>cell_regrown g2 d os;have j0:=fun d os=>cell_regrown k0 d os;have j1:=fun d os=>cell_regrown k1 d os;have j2:=fun d os=>cell_regrown k2 d os;clear g0 g1 g2 k0 k1 k2;go_wp2_with fail;refine Go.wp_region_quiet_below (by kernel_rfl) (by kernel_rfl) ?_
    repeat (quiet_step (exact Calls.regrown_of (eqExpr_of (ih _ hltN) _ _ _ _ _ _ _ _ _ _ _ (Nat.le_refl _) (gr.below (below_regrown _ _ _)) (kr.below (below_regrown _ _ _)))))
    refine wpQuiet_nil ?_; intro _ hw'; obtain ⟨⟨dq,osq⟩,hw''⟩:=hw'; subst hw''; have hq:=below_regrown wr dq osq; revert hq; generalize grow (redrawn wr dq) osq=w1; intro hq;have hB1:Below w.heap.size w w1:=Below.on hB hq hB.size;clear hq i0 i1 i2 j0 j1 j2
    by_cases hef:e=f
    ·
     have c1:eqb (Ex.mk e.kind e.num e.kids) (Ex.mk f.kind f.num f.kids)=true:=eqb_true (by rw [hef])
     have Hst:Hid (ks.take (k+1)=js.take (k+1)):=by
      have h1:=List.getElem?_eq_some_iff.1 he;have h2:=List.getElem?_eq_some_iff.1 hf
      show _=_
      rw [List.take_succ_eq_append_getElem hlt,List.take_succ_eq_append_getElem hlt',Hpre.out,h1.2,h2.2,hef]
     clear hef;simp only [c1,Bool.not_true];go_wp2_with fail
     go_roundw
     case rel=>exact ⟨k+1,by omega,by go_num,Hst.out,hB1⟩
     case measure=>simp [intOf]; omega
    ·
     have c1:eqb (Ex.mk e.kind e.num e.kids) (Ex.mk f.kind f.num f.kids)=false:=eqb_false (by rw [←Ex.eta,←Ex.eta]; exact hef)
     have c2:eqb ks js=false:=eqb_false (by
      intro h;rw [h] at he
      exact hef (Option.some.inj (he.symm.trans hf)))
     simp only [c1,Bool.not_false];go_wp2_with fail;go_ret;exact ⟨by first|rfl|(rw [c2]; rfl),hB1⟩
   ·
    obtain rfl:k=ks.length:=by omega
    have c2:eqb ks js=true:=eqb_true (by
     have:=Hpre.out
     rwa [List.take_length,Hl.out,List.take_length] at this)
    go_wp2_with fail;go_ret;exact ⟨by first|rfl|(rw [c2]; rfl),hB⟩
 ·
  have b1:((ks.length:Int) !=(js.length:Int))=true:=by simp; omega
  have c2:eqb ks js=false:=eqb_false (by intro h; rw [h] at hl; exact hl rfl)
  go_enter Tryd.func17,Tryd.ntmps17
  go_wp2_with fail;go_ret;exact ⟨by first|rfl|(rw [c2]; rfl),Below.refl _ _⟩
theorem eqExpr_i {k n k' n':Int} {ks js:List Ex} {s t:Option Addr} {cap cap':Nat} {w:World} (hr:Rd w (kidsD ks) (.slice s ks.length cap)) (hr':Rd w (kidsD js) (.slice t js.length cap')):
  Calls Tryd.prog 7 #[.agg #[.int .i64 k, .int .i64 n, .slice s ks.length cap], .agg #[.int .i64 k', .int .i64 n', .slice t js.length cap']] w fun e w'=>e= .returned (.bool (eqb (Ex.mk k n ks) (Ex.mk k' n' js)))∧Below w.heap.size w w':=
 eqExpr_of (eqExprS_all _) k n k' n' ks js s t cap cap' w (Nat.le_refl _) hr hr'
end Go.Proofs.YtfopdcdbelaapaaDoor
