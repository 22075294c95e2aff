/-
  Parts of a proof, joined: Bld, Own, Sig, Cond, Trace, Shape, Truth, Empty. No condition.
-/
import Derived.Lib.AppendStr
import Derived.Test.YtfopdcdbelaapaaDoorPk3
namespace Go.Proofs.YtfopdcdbelaapaaDoor
set_option linter.unusedVariables false
set_option linter.unusedSimpArgs false
open Go.ChangeShapes Go.WideShapes Go.ChangeAt Go.RowKit
def BldAt (B:Nat) (S:Nat→Prop) (b:Nat) (l:List UInt8) (w:World):Prop:=
 ∃p v,(p= .pointer none∨p= .pointer (some ⟨b,0,none⟩))∧w.heap[b]? =some (.cells #[p,v] 70 (0,0))∧w.ownsRow B 5 1 v l.length (Lib.byteCells l)∧v.ownBlock≠some b∧S b∧(∀g,v.ownBlock=some g→S g)∧∀x,S x→B≤x∧x<w.heap.size
theorem bytes_cells (l:List UInt8):Lib.strCells (bs l)=Lib.byteCells l:=by simp [Lib.strCells,Lib.byteCells,bs]
theorem cells_app (a b:List UInt8):Lib.byteCells (a++b)=Lib.byteCells a++Lib.byteCells b:=by simp [Lib.byteCells]
theorem byteCells_len (l:List UInt8):(Lib.byteCells l).length=l.length:=by simp [Lib.byteCells]
theorem BldAt.made {w:World} {B:Nat} (hB:B≤w.heap.size):BldAt B (fun x=>x=w.heap.size) w.heap.size [] (w.alloc (.cells #[.pointer none, .slice none 0 0] 70)):=by
 refine ⟨_,_,Or.inl rfl,(MapKept.heap_alloc w _).1,World.ownsRow_nil _ _ _ _,by simp [Value.ownBlock],rfl,by simp [Value.ownBlock], ?_⟩;rintro x rfl;exact ⟨hB,by simp⟩
theorem BldAt.keep {B b:Nat} {S:Nat→Prop} {l:List UInt8} {w w':World} (h:BldAt B S b l w) (hz:w.heap.size≤w'.heap.size) (hk:∀x,x<w.heap.size→S x→w'.heap[x]? =w.heap[x]?):BldAt B S b l w':=by
 obtain ⟨p,v,h1,h2,h3,h4,h5,h6,h7⟩:=h;refine ⟨p,v,h1,(hk b (h7 b h5).2 h5).trans h2,⟨h3.1, ?_⟩,h4,h5,h6,fun x hx=>⟨(h7 x hx).1,Nat.lt_of_lt_of_le (h7 x hx).2 hz⟩⟩
 rcases h3.2 with h|⟨g,cap,cur,e,hg,hbb,hr⟩
 ·
  exact Or.inl h
 ·
  have hs:=h6 g (by rw [e]; rfl);exact Or.inr ⟨g,cap,cur,e,hg,(hk g (h7 g hs).2 hs).trans hbb,hr⟩
theorem BldAt.below {B b:Nat} {S:Nat→Prop} {l:List UInt8} {w w':World} (h:BldAt B S b l w) (hb:Below w.heap.size w w'):BldAt B S b l w':=h.keep hb.size fun x hx _=>hb.block x hx
theorem BldAt.more {B b:Nat} {S T:Nat→Prop} {l:List UInt8} {w:World} (h:BldAt B S b l w) (hs:∀x,S x→T x) (ht:∀x,T x→B≤x∧x<w.heap.size):BldAt B T b l w:=by
 obtain ⟨p,v,h1,h2,h3,h4,h5,h6,h7⟩:=h;exact ⟨p,v,h1,h2,h3,h4,hs _ h5,fun g hg=>hs _ (h6 g hg),ht⟩
theorem BldAt.is {B b:Nat} {S:Nat→Prop} {l:List UInt8} {w:World} (h:BldAt B S b l w):Lib.IsBuilder 70 5 B b (Lib.byteCells l) w:=by
 obtain ⟨p,v,h1,h2,h3,h4,h5,h6,h7⟩:=h;have hx:(Lib.byteCells l).length=l.length:=byteCells_len l
 rcases h1 with rfl|rfl
 ·
  exact Or.inl ⟨(h7 b h5).1,v,h2,by rw [hx]; exact h3,h4⟩
 ·
  exact Or.inr ⟨(h7 b h5).1,v,h2,by rw [hx]; exact h3,h4⟩
theorem BldAt.set {B b:Nat} {S:Nat→Prop} {l:List UInt8} {w:World} (h:BldAt B S b l w):S b∧(∀x,S x→B≤x∧x<w.heap.size):=by
 obtain ⟨p,v,h1,h2,h3,h4,h5,h6,h7⟩:=h;exact ⟨h5,h7⟩
theorem builder_info:(Tryd.prog.info? 70).map (·.size)=some 2:=by kernel_rfl
theorem builder_lies:liesAt Tryd.prog Tryd.prog.depth 70 (2 / Tryd.prog.cellsOf 70) 0 70 1=true:=by kernel_rfl
theorem byte_info:(Tryd.prog.info? 5).map (fun i=>(i.zero,i.size,i.bytes))=some (some (.int .u8 0),1,1):=by kernel_rfl
set_option maxRecDepth 100000 in
set_option maxHeartbeats 2000000 in
theorem copyCheck_i {b:Nat} {p v:Value} {w:World} (hp:p= .pointer none∨p= .pointer (some ⟨b,0,none⟩)) (h:w.heap[b]? =some (.cells #[p,v] 70 (0,0))):
  Calls Tryd.prog 64 #[.pointer (some ⟨b,0,none⟩)] w fun e w'=>e= .returned (.tuple #[])∧w'.heap[b]? =some (.cells #[.pointer (some ⟨b,0,none⟩),v] 70 (0,0))∧Spares (fun x=>x=b) w w'∧w'.heap.size=w.heap.size:=by
 obtain ⟨j,hj,hjs⟩:=Option.map_eq_some_iff.1 builder_info
 have h0:w.cell? ⟨b,0,none⟩=some p:=by rw [Lib.cell_of_heap h]; rfl
 have hz:w.frozen? ⟨b,0,none⟩=false:=Lib.frozen_of_heap h 0
 have hs:w.shape? b=some (70,2):=by simp [World.shape?, h]
 rcases hp with rfl|rfl
 ·
  have hu:=Lib.run_to_unsafe w ⟨b,0,none⟩ Tryd.underlying67 Tryd.underlying100 hj (by rw [hjs]; decide) hs (Nat.zero_lt_succ 1);have hf:=Lib.run_from_unsafe w ⟨b,0,none⟩ Tryd.underlying100 Tryd.underlying67 hj hs builder_lies
  go_enter Tryd.func64,Tryd.ntmps64
  go_wp2_with fail;rw [run_callFunc_extern Tryd.func71 (by kernel_rfl) (by kernel_rfl) (by kernel_rfl) (e:=Extern.AbiNoEscape.same) (by kernel_rfl),Lib.run_noEscape];simp only [Result.andThen];rw [Oper.upon_value];go_wp2_with fail
  go_end0
  refine ⟨rfl, ?_,Spares.set (Spares.refl _),by simp [World.setCell]⟩;have hB:Blk w b 70 [.pointer none,v]:=h;exact hB.set 0 (.pointer (some ⟨b,0,none⟩))
 ·
  have hn:=Lib.run_neq_ptr_same w ⟨b,0,none⟩ Tryd.underlying67 hj
  go_enter Tryd.func64,Tryd.ntmps64
  go_wp2_with fail
  go_end0
  exact ⟨rfl,h,Spares.refl _,rfl⟩
theorem append_text_at {P:Program} (w:World) (base:Nat) (t u ty e:TypeId) (i:TypeInfo) (ht:P.underlying t=some (.slice e)) (hu:P.underlying u=some .string) (hi:P.info? e=some i) (hz:i.zero=some (.int .u8 0))
  (hsize:i.size=1) (hby:i.bytes=1) (v:Value) (n:Nat) (xs:List Value) (hown:w.ownsRow base e 1 v n xs) (s:ByteArray) (h63:n+s.size≤maxLen) (hbytes:n+s.size≤140737488355328) (hbase:base≤w.heap.size):
  ∃v' w',(Builtin.append_ #[t,u] ty #[v, .string s]).run P w= .ok v' w'∧w'.ownsRow base e 1 v' (n+s.size) (xs++Lib.strCells s)∧w.grownBy w' v.ownBlock∧(v'.ownBlock=v.ownBlock∨v'.ownBlock=some w.heap.size):=by
 obtain ⟨v',w',hr,h2,h3,h4⟩:=Lib.run_append_own_string (P:=P) w base t u ty e i ht hu hi hz hsize hby v n xs hown s h63 hbytes hbase;refine ⟨v',w',hr,h2,h3, ?_⟩
 rcases hown.2 with ⟨rfl,rfl⟩|⟨g,cap,cur,rfl,hbg,hg,hnc,hcm,hcs,htake⟩
 ·
  by_cases hm:s.size=0
  ·
   rw [h4.2 ⟨rfl,hm⟩];exact Or.inl rfl
  ·
   have hr':=run_append_nil_string (P:=P) w t u ty e i (.int .u8 0) ht hu hi hz s (by omega) (by unfold maxLen at h63; omega) (by rw [hby]; omega);rw [hr] at hr'
   cases hr'
   exact Or.inr rfl
 ·
  have hcs':cur.size=cap:=by simpa using hcs
  have hxl:xs.length=n:=by simpa using hown.1
  by_cases hroom:n+s.size≤cap
  ·
   have hr':=Lib.run_append_room_string (P:=P) w t u ty e i ht hu hi hsize g n cap cur hg s hroom (by omega);rw [hr] at hr'
   cases hr'
   exact Or.inl rfl
  ·
   have hr':=Lib.run_append_grow_string (P:=P) w t u ty e i (.int .u8 0) ht hu hi hz ⟨g,0,none⟩ n cap xs (by rw [hsize]; simpa using hxl) (hown.cells (g:=g) rfl) s (by omega) (by unfold maxLen at h63; omega) (by rw [hby]; exact growslice_fits (by omega) (by omega));rw [hr] at hr'
   cases hr'
   exact Or.inr rfl
theorem wpList_append_text {P:Program} (w:World) {ops:Array Oper} {rest:List Oper} {o:Oper} {a:Act} {Q:Exit→Act→World→Prop} (hgd:o.guard=none) (sl x:Operand) (t u:TypeId)
  (ho:o.op= .call { callee:= .builtin .append,args:= #[sl,x],argTypes:= #[t,u] }) (base:Nat) (e:TypeId) (ht:P.underlying t=some (.slice e)) (hu:P.underlying u=some .string)
  (hinfo:(P.info? e).map (fun i=>(i.zero,i.size,i.bytes))=some (some (.int .u8 0),1,1)) (v:Value) (n:Nat) (xs:List Value) (hs:a.eval sl=v) (hown:w.ownsRow base e 1 v n xs) (s:ByteArray) (hx:a.eval x= .string s)
  (h63:n+s.size≤maxLen) (hbytes:n+s.size≤140737488355328) (hbase:base≤w.heap.size)
  (h:∀ao n' cap w',w'.ownsRow base e 1 (.slice ao n' cap) (n+s.size) (xs++Lib.strCells s)→w.grownBy w' v.ownBlock→(Value.ownBlock (.slice ao n' cap)=v.ownBlock∨Value.ownBlock (.slice ao n' cap)=some w.heap.size)→wpList P ops Q rest (a.put o.dst (.slice ao n' cap)) w'):wpList P ops Q (o::rest) a w:=by
 obtain ⟨i,hi,hz,hsize,hby⟩:=info_parts hinfo;refine wpList_plain hgd fun K hK=> ?_;obtain ⟨v',w',hr,h2,h3,h4⟩:=append_text_at (P:=P) w base t u o.type e i ht hu hi hz hsize hby v n xs hown s h63 hbytes hbase
 obtain ⟨ao,n',cap,rfl⟩:∃ao n' cap,v'= .slice ao n' cap:=by rcases h2.2 with ⟨e,_⟩|⟨g,cap,cur,e,_⟩<;>exact ⟨_,_,_,e⟩
 unfold Oper.wp execOp;simp only [ho,resolve,invoke,builtin,Sem.run_bind,Sem.run_pure,Result.andThen_ok,List.map_toArray,List.map_cons,List.map_nil,hs,hx,hr];exact hK _ _ (h ao n' cap w' h2 h3 h4)
set_option maxRecDepth 100000 in
set_option maxHeartbeats 2000000 in
theorem WriteString_i {B b:Nat} {S:Nat→Prop} {l s:List UInt8} {w:World} (h:BldAt B S b l w) (hlen:l.length+s.length≤1000000000) (hB:B≤w.heap.size):
    Calls Tryd.prog 51 #[.pointer (some ⟨b,0,none⟩), .string (bs s)] w fun e w'=>(∃u,e= .returned u)∧BldAt B (fun x=>S x∨(w.heap.size≤x∧x<w'.heap.size)) b (l++s) w'∧Spares S w w':=by
  obtain ⟨p,v,h1,h2,h3,h4,h5,h6,h7⟩:=h;have Hl:=Lib.hid (bs_size s)
  go_enter Tryd.func51,Tryd.ntmps51
  go_wp2_with fail;refine (copyCheck_i h1 h2).mono ?_;rintro e w1 ⟨rfl,hbk,hsp,hz⟩
  have hown:w1.ownsRow B 5 1 v l.length (Lib.byteCells l):=by
    refine ⟨h3.1, ?_⟩
    rcases h3.2 with h|⟨g,cap,cur,e,hg,hbb,hr⟩
    · exact Or.inl h
    · have hgb:g≠b:=fun q=>h4 (by rw [e,q]; rfl)
      exact Or.inr ⟨g,cap,cur,e,hg,(hsp.block g (h7 g (h6 g (by rw [e]; rfl))).2 hgb).trans hbb,hr⟩
  have c0:w1.cell? ⟨b,0,none⟩=some (.pointer (some ⟨b,0,none⟩)):=by rw [Lib.cell_of_heap hbk]; rfl
  have c1:w1.cell? ⟨b,1,none⟩=some v:=by rw [Lib.cell_of_heap hbk]; rfl
  have hlt:b<w1.heap.size:=(Array.getElem?_eq_some_iff.1 hbk).1;have Hz:=Lib.hid hz
  have hBz:B≤w1.heap.size:=by omega
  have HS:=Lib.hid hsp;have H7:=Lib.hid h7;have H2:=Lib.hid h2;clear hz hsp h7 h2
  go_wp2_with (at_builtin; refine wpList_append_text _ rfl _ _ 68 9 rfl B 5 Tryd.underlying68 Tryd.underlying9 byte_info _ _ _ rfl hown (bs s) rfl (by rw [Hl.out]; unfold maxLen; omega) (by rw [Hl.out]; omega) hBz ?_; intro ao n' cap w2 hown' hgrow hat; have hb2:w2.heap[b]? =some (.cells #[.pointer (some ⟨b,0,none⟩),v] 70 (0,0)):=(by rw [hgrow.block b hlt (fun e=>h4 e.symm)]; exact hbk); have d1:w2.cell? ⟨b,1,none⟩=some v:=(by rw [Lib.cell_of_heap hb2]; rfl); have f1:w2.frozen? ⟨b,1,none⟩=false:=Lib.frozen_of_heap hb2 1; clear c0 c1)
  go_ret2;have hgz:=hgrow.size;rw [bytes_cells] at hown';have hne:=Lib.ownBlock_ne hown' hb2 (by decide);have hblk:Blk w2 b 70 [.pointer (some ⟨b,0,none⟩),v]:=hb2
  have hsz2:(w2.setCell ⟨b,1,none⟩ (.slice ao n' cap)).heap.size=w2.heap.size:=by simp [World.setCell]
  have Hz:=Hz.out;have H7:=H7.out;refine ⟨⟨_,rfl⟩,⟨_,_,Or.inr rfl,hblk.set 1 (.slice ao n' cap), ?_,hne,Or.inl h5, ?_, ?_⟩, ?_⟩
  · rw [cells_app,List.length_append,show s.length=(bs s).size from (bs_size s).symm]
    refine ⟨hown'.1, ?_⟩
    rcases hown'.2 with h|⟨g,cap',cur,e,hg,hbb,hr⟩
    · exact Or.inl h
    · exact Or.inr ⟨g,cap',cur,e,hg,(Below.heap_setCell _ _ _ _ (fun q=>hne (by rw [e]; show some g=some b; rw [q]))).trans hbb,hr⟩
  · intro g hg
    rcases hat with h|h
    · exact Or.inl (h6 g (h ▸ hg))
    · rw [h] at hg
      cases hg
      exact Or.inr (by rw [hsz2]; rcases hown'.2 with ⟨e, _⟩ | ⟨g, cap', cur, e, _, hbb, _⟩
                       · rw [e] at h; cases h
                       · rw [e] at h
                         simp only [Value.ownBlock,Option.some.injEq] at h;have:=(Array.getElem?_eq_some_iff.1 hbb).1
                         omega)
  · intro x hx
    rw [hsz2]
    rcases hx with hx|hx
    · have:=H7 x hx; omega
    · rw [hsz2] at hx; omega
  · have HS:=HS.out
    refine ⟨hgrow.os.trans HS.os,hgrow.tape.trans HS.tape,hgrow.output.trans HS.output,by rw [hsz2]; omega,fun x hx hn=> ?_⟩;have hxb:x≠b:=fun q=>hn (q ▸ h5);have hxv:some x≠v.ownBlock:=fun q=>hn (h6 x q.symm);rw [Below.heap_setCell _ _ _ _ hxb,hgrow.block x (by omega) hxv];exact HS.block x hx hxb
theorem String_i {B b:Nat} {S:Nat→Prop} {l:List UInt8} {w:World} (h:BldAt B S b l w) (hB:B≤w.heap.size):
  Calls Tryd.prog 47 #[.pointer (some ⟨b,0,none⟩)] w fun e w'=>e= .returned (.string (bs l))∧Below B w w':=Tryd.Builder_String_any B b l w h.is hB
structure BldS (B b:Nat) (S:Nat→Prop) (w1:World) (l:List UInt8) (w:World):Prop where
 ex:∃T:Nat→Prop,BldAt B T b l w∧∀x,T x→S x∨w1.heap.size≤x
 sp:Spares S w1 w
theorem BldS.start {B b:Nat} {S:Nat→Prop} {l:List UInt8} {w1:World} (h:BldAt B S b l w1):BldS B b S w1 l w1:=⟨⟨S,h,fun _ hx=>Or.inl hx⟩,Spares.refl _⟩
theorem BldS.next {B b:Nat} {S T:Nat→Prop} {l l':List UInt8} {w1 w w':World} (h:BldS B b S w1 l w) (hT:∀x,T x→S x∨w1.heap.size≤x) (hb:BldAt B (fun x=>T x∨(w.heap.size≤x∧x<w'.heap.size)) b l' w') (hs:Spares T w w'):BldS B b S w1 l' w':=by
 have hz:=h.sp.size;refine ⟨⟨_,hb,fun x hx=> ?_⟩,⟨hs.os.trans h.sp.os,hs.tape.trans h.sp.tape,hs.output.trans h.sp.output,Nat.le_trans hz hs.size,fun x hx hn=> ?_⟩⟩
 ·
  rcases hx with hx|hx
  ·
   exact hT x hx
  ·
   exact Or.inr (by omega)
 ·
  rw [hs.block x (by omega) (fun hTx=>by
   rcases hT x hTx with h1|h1
   ·
    exact hn h1
   ·
    omega)]
  exact h.sp.block x hx hn
theorem BldS.done {B b:Nat} {S:Nat→Prop} {l:List UInt8} {w w1 w':World} (h:BldS B b S w1 l w') (hb:Below w.heap.size w w1) (hS:∀x,S x→B≤x∧x<w.heap.size) (hB:B≤w.heap.size):BldAt B (fun x=>S x∨(w.heap.size≤x∧x<w'.heap.size)) b l w'∧Spares S w w':=by
 obtain ⟨⟨T,hT,hTS⟩,hsp⟩:=h;have h1:=hT.set.2;have hz:=hb.size;have hz':=hsp.size;refine ⟨hT.more (fun x hx=> ?_) (fun x hx=> ?_),(Spares.of_below hb).trans hsp⟩
 ·
  have:=h1 x hx
  rcases hTS x hx with h|h
  ·
   exact Or.inl h
  ·
   exact Or.inr (by omega)
 ·
  rcases hx with hx|hx
  ·
   have:=hS x hx; omega
  ·
   omega
theorem own:ownKnob Tryd.prog.godebug=none:=by kernel_rfl
theorem laid:laidOutB Tryd.prog=true:=by kernel_rfl
theorem cells_int64:Tryd.prog.cellsOf 2=1:=by kernel_rfl
theorem cells_Sig:Tryd.prog.cellsOf 23=2:=by kernel_rfl
section
variable {H:Type} {enc:TypeId × Value→H} {W:World} {base:Nat} {sp:Nat→Bool} {hd:Bool} {v:Value} {d:DataW H} {ps:List MemPlace}
set_option maxRecDepth 100000 in
theorem open_lawsSig (h:DataW.Trod enc Tryd.prog W base sp hd 23 v d ps):∃t a,v= .agg #[.int .i64 t, .int .i64 a]:=by
 obtain ⟨fuel,hf⟩:=h;obtain ⟨y0,y1,n,_,hl,g0,g1⟩:=trod_struct2 Tryd.underlying23 hf;rw [cells_Sig] at hl;generalize hcs:v.cells.toList=cs at*
 match cs,hl with
 |[v0,v1],_=>
  simp [cells_int64] at g0 g1
  obtain ⟨a,e0,_⟩:=DataW.trod_int Tryd.underlying2 g0;obtain ⟨b,e1,_⟩:=DataW.trod_int Tryd.underlying2 g1;simp only [List.cons.injEq,and_true] at e0 e1;subst e0 e1;exact ⟨a,b,cells_two hcs⟩
end
def inB (n lo hi:Int):Bool:=decide (lo≤n)&&decide (n≤hi)
def sigB (t a:Int):Bool:=inB t 0 3&&inB a 0 4
theorem within_any (n lo hi:Int) (w:World):Calls Tryd.prog 25 #[.int .i64 n, .int .i64 lo, .int .i64 hi] w fun e w'=>e= .returned (.bool (inB n lo hi))∧w=w':=by
 by_cases h1:lo≤n
 ·
  by_cases h2:n≤hi
  ·
   have e1:inB n lo hi=true:=by simp [inB,h1,h2]
   rw [e1]
   go_enter Tryd.func25,Tryd.ntmps25
   go_wp2
   go_ret;exact ⟨rfl,rfl⟩
  ·
   have e1:inB n lo hi=false:=by simp [inB,h2]
   rw [e1]
   go_enter Tryd.func25,Tryd.ntmps25
   go_wp2
   go_ret;exact ⟨rfl,rfl⟩
 ·
  have e1:inB n lo hi=false:=by simp [inB,h1]
  rw [e1]
  go_enter Tryd.func25,Tryd.ntmps25
  go_wp2
  go_ret;exact ⟨rfl,rfl⟩
theorem in_any (n lo hi:Int) (w:World):Calls Tryd.prog 20 #[.int .i64 n, .int .i64 lo, .int .i64 hi] w fun e w'=>e= .returned (.bool (inB n lo hi))∧w=w':=by
 by_cases h1:lo≤n
 ·
  by_cases h2:n≤hi
  ·
   have e1:inB n lo hi=true:=by simp [inB,h1,h2]
   rw [e1]
   go_enter Tryd.func20,Tryd.ntmps20
   go_wp2
   go_ret;exact ⟨rfl,rfl⟩
  ·
   have e1:inB n lo hi=false:=by simp [inB,h2]
   rw [e1]
   go_enter Tryd.func20,Tryd.ntmps20
   go_wp2
   go_ret;exact ⟨rfl,rfl⟩
 ·
  have e1:inB n lo hi=false:=by simp [inB,h1]
  rw [e1]
  go_enter Tryd.func20,Tryd.ntmps20
  go_wp2
  go_ret;exact ⟨rfl,rfl⟩
theorem toSig_any (t a:Int) (w:World):Calls Tryd.prog 5 #[.agg #[.int .i64 t, .int .i64 a]] w fun e w'=>e= .returned (.agg #[.int .i64 t, .int .i64 a])∧Below w.heap.size w w':=by
 go_enter Tryd.func5,Tryd.ntmps5
 go_wp2
 exact bodyPost_ret (v:= .agg #[.int .i64 t, .int .i64 a]) (by simp [results,Tryd.results5,go_sem]) rfl ⟨rfl,by (repeat' first|exact Below.refl _ _|assumption|apply Below.alloc|apply Below.drew|apply Below.setCell|omega|(simp; done)|(simp; omega))⟩
theorem l01Sig_any (t a:Int) (w:World):Calls Tryd.prog 10 #[.agg #[.int .i64 t, .int .i64 a]] w fun e w'=>e= .returned (.bool (sigB t a))∧Below w.heap.size w w':=by
 go_enter Tryd.func10,Tryd.ntmps10
 go_wp2_with ((go_at_call 20; ((with_reducible refine (in_any _ _ _ _).mono ?_); rintro e w' ⟨rfl,rfl⟩)))
 all_goals go_ret
 all_goals exact ⟨by simp [sigB, *],by (repeat' first|exact Below.refl _ _|assumption|apply Below.alloc|apply Below.drew|apply Below.setCell|omega|(simp; done)|(simp; omega))⟩
theorem implValidSig_any (t a:Int) (w:World):Calls Tryd.prog 14 #[.agg #[.int .i64 t, .int .i64 a]] w fun e w'=>e= .returned (.bool (sigB t a))∧Below w.heap.size w w':=by
 go_enter Tryd.func14,Tryd.ntmps14
 go_wp2_with ((go_at_call 25; ((with_reducible refine (within_any _ _ _ _).mono ?_); rintro e w' ⟨rfl,rfl⟩)))
 all_goals go_ret
 all_goals exact ⟨by simp [sigB, *],by (repeat' first|exact Below.refl _ _|assumption|apply Below.alloc|apply Below.drew|apply Below.setCell|omega|(simp; done)|(simp; omega))⟩
def condKind (k:Int):Bool:=decide (k=1∨k=2∨k=3∨k=5∨k=6∨k=7)
mutual
def Ex.cond:Ex→Bool
 | .mk k _ ks=>condKind k&&Ex.condL ks
def Ex.condL:List Ex→Bool
 |[]=>true
 |e::r=>e.cond&&Ex.condL r
end
theorem Ex.cond_eq (e:Ex):e.cond=(condKind e.kind&&Ex.condL e.kids):=by cases e; simp only [Ex.cond,Ex.kind,Ex.kids]
theorem Ex.condL_append:∀a b:List Ex,Ex.condL (a++b)=(Ex.condL a&&Ex.condL b)
 |[],b=>by simp [Ex.condL]
 |e::r,b=>by simp only [List.cons_append,Ex.condL,Ex.condL_append r b,Bool.and_assoc]
theorem Ex.condL_take_succ {ks:List Ex} {i:Nat} {e:Ex} (h:ks[i]? =some e):Ex.condL (ks.take (i+1))=(Ex.condL (ks.take i)&&e.cond):=by
 obtain ⟨hi,rfl⟩:=List.getElem?_eq_some_iff.1 h;rw [List.take_succ_eq_append_getElem hi,Ex.condL_append]
 simp [Ex.condL]
theorem Ex.condL_false {ks:List Ex} {i:Nat} {e:Ex} (h:ks[i]? =some e) (hc:e.cond=false):Ex.condL ks=false:=by
 have:=Ex.condL_append (ks.take (i+1)) (ks.drop (i+1));rw [List.take_append_drop,Ex.condL_take_succ h,hc] at this
 simpa using this
theorem l01Condition_all (N:Nat):∀(e:Ex) (b o:Nat) (w:World),e.size≤N→ExAt w b o e→
  Calls Tryd.prog 32 #[.pointer (some ⟨b,o,none⟩)] w fun f w'=>f= .returned (.bool e.cond)∧w=w':=by
 induction N using Nat.strongRecOn with
 |_ N ih=>
 intro e b o w hN hr;obtain ⟨g0,g1,s,c,g2,g3⟩:=hr;obtain ⟨-, hlen,hcap, -, -⟩:=kid_at g3;unfold maxLen at hcap;have hse:=Ex.size_eq e
 have hks:Ex.sizeL e.kids<N:=by omega
 clear hse
 by_cases hk:condKind e.kind=true
 ·
  have hc:e.cond=Ex.condL e.kids:=by rw [Ex.cond_eq,hk,Bool.true_and]
  have Hc:=Lib.hid hc
  have b1:inB e.kind 1 7=true:=by simp [condKind] at hk; simp [inB]; omega
  have b2:(e.kind==4)=false:=by simp [condKind] at hk; simp; omega
  clear hc hk
  go_enter Tryd.func32,Tryd.ntmps32
  go_wp2_with ((go_at_call 20; ((with_reducible refine (in_any _ _ _ _).mono ?_); rintro e w' ⟨rfl,rfl⟩)))
  go_loop [3] (fun i=>∃k:Nat,k≤e.kids.length∧i= .int .i64 k∧Ex.condL (e.kids.take k)=true) (fun i=>e.kids.length - (intOf i).toNat)
  case atStart=>exact ⟨0,by omega,rfl,by simp [Ex.condL]⟩
  case round=>
   obtain ⟨k,hk,rfl,hpre⟩:=hrel;have Hpre:=Lib.hid hpre;clear hpre
   by_cases hlt:k<e.kids.length
   ·
    obtain ⟨f,hf⟩:∃f,e.kids[k]? =some f:=⟨_,List.getElem?_eq_getElem hlt⟩;obtain ⟨b',o',rfl⟩:=kid_some g3 (by intro h; simp [h] at hlt);have hat:=kid_exAt g3 hf;have hmem:=Ex.sizeL_mem (List.mem_of_getElem? hf);have Htk:=Lib.hid (Ex.condL_take_succ hf);have Hfl:=Lib.hid (@Ex.condL_false _ _ _ hf);go_wp2_with fail;refine (ih _ (by omega) f _ _ _ (Nat.le_refl _) hat).mono ?_;rintro x w' ⟨rfl,rfl⟩
    cases hfc:f.cond
    ·
     go_wp2_with fail;go_ret;exact ⟨ret_bool (by rw [Hc.out,Hfl.out hfc]),rfl⟩
    ·
     go_wp2_with fail
     go_round
     case rel=>exact ⟨k+1,by omega,by go_num,by rw [Htk.out,Hpre.out,hfc]; rfl⟩
     case measure=>simp [intOf]; omega
   ·
    obtain rfl:k=e.kids.length:=by omega
    go_wp2_with fail;go_ret;exact ⟨ret_bool (by have:=Hpre.out; rw [List.take_length] at this; rw [Hc.out,this]),rfl⟩
 ·
  have hc:e.cond=false:=by rw [Ex.cond_eq]; simp [hk]
  rw [hc]
  by_cases hin:inB e.kind 1 7=true
  ·
   have b2:(e.kind==4)=true:=by simp [condKind] at hk; simp [inB] at hin; simp; omega
   clear hk hc
   go_enter Tryd.func32,Tryd.ntmps32
   go_wp2_with ((go_at_call 20; ((with_reducible refine (in_any _ _ _ _).mono ?_); rintro e w' ⟨rfl,rfl⟩)))
   go_ret;exact ⟨rfl,rfl⟩
  ·
   have hin':inB e.kind 1 7=false:=by simpa using hin
   clear hk hc hin
   go_enter Tryd.func32,Tryd.ntmps32
   go_wp2_with ((go_at_call 20; ((with_reducible refine (in_any _ _ _ _).mono ?_); rintro e w' ⟨rfl,rfl⟩)))
   go_ret;exact ⟨rfl,rfl⟩
def CondS (N:Nat):Prop:=∀(k n:Int) (ks:List Ex) (s:Option Addr) (cap:Nat) (w:World),Ex.sizeL ks≤N→Rd w (kidsD ks) (.slice s ks.length cap)→
  Calls Tryd.prog 44 #[.agg #[.int .i64 k, .int .i64 n, .slice s ks.length cap]] w fun f w'=>f= .returned (.bool (Ex.cond (.mk k n ks)))∧Below w.heap.size w w'
set_option maxHeartbeats 2000000 in
theorem implIsCondition_all (N:Nat):CondS N:=by
 induction N using Nat.strongRecOn with
 |_ N ih=>
 intro k0 n0 ks s cap w hN hr;obtain ⟨-, hlen,hcap, -, -⟩:=kid_at hr;unfold maxLen at hcap
 by_cases hk:condKind k0=true
 ·
  have Hc:Hid (Ex.cond (.mk k0 n0 ks)=Ex.condL ks):=by show _=_; rw [Ex.cond_eq]; simp [Ex.kind,Ex.kids,hk]
  have hk':k0=1∨k0=2∨k0=3∨k0=5∨k0=6∨k0=7:=by simpa [condKind] using hk
  clear hk
  rcases hk' with hk'|hk'|hk'|hk'|hk'|hk'
  all_goals
   subst hk'
   go_enter Tryd.func44,Tryd.ntmps44
   go_wp2_with fail
   go_loopw [17] (fun i wr=>∃k:Nat,k≤ks.length∧i= .int .i64 k∧Ex.condL (ks.take k)=true∧Below w.heap.size w wr) (fun i _=>ks.length - (intOf i).toNat)
   case atStart=>exact ⟨0,by omega,rfl,by simp [Ex.condL],by (repeat' first|exact Below.refl _ _|assumption|apply Below.alloc|apply Below.drew|apply Below.setCell|omega|(simp; done)|(simp; omega))⟩
   case round=>
    obtain ⟨k,hk,rfl,hpre,hB⟩:=hrel;have hzB:=hB.size;have Hpre:=Lib.hid hpre;clear hpre
    by_cases hlt:k<ks.length
    ·
     obtain ⟨f,hf⟩:∃f,ks[k]? =some f:=⟨_,List.getElem?_eq_getElem hlt⟩;obtain ⟨b',o',rfl⟩:=kid_some hr (by intro h; simp [h] at hlt);obtain ⟨-, s',c',g0,g1,g2,gr⟩:=kid_in (hr.below hB) hf
     have hN':Ex.sizeL f.kids<N:=by
      have:=Ex.sizeL_mem (List.mem_of_getElem? hf);have:=Ex.size_eq f;omega
     have Htk:=Lib.hid (Ex.condL_take_succ hf);have Hfl:=Lib.hid (@Ex.condL_false _ _ _ hf);have Het:Hid (Ex.mk f.kind f.num f.kids=f):=(Ex.eta f).symm;go_wp2_with fail;refine (ih _ hN' _ _ _ _ _ _ (Nat.le_refl _) (gr.alloc _)).mono ?_;rintro x w1 ⟨rfl,hb⟩;have hB1:Below w.heap.size w w1:=Below.on (by (repeat' first|exact Below.refl _ _|assumption|apply Below.alloc|apply Below.drew|apply Below.setCell|omega|(simp; done)|(simp; omega))) hb (by simp; omega);clear hb;rw [Het.out]
     cases hfc:f.cond
     ·
      go_wp2_with fail;go_ret;exact ⟨ret_bool (by rw [Hc.out,Hfl.out hfc]),hB1⟩
     ·
      go_wp2_with fail
      go_roundw
      case rel=>exact ⟨k+1,by omega,by go_num,by rw [Htk.out,Hpre.out,hfc]; rfl,hB1⟩
      case measure=>simp [intOf]; omega
    ·
     obtain rfl:k=ks.length:=by omega
     go_wp2_with fail;go_ret;exact ⟨ret_bool (by have:=Hpre.out; rw [List.take_length] at this; rw [Hc.out,this]),hB⟩
 ·
  have hc:Ex.cond (.mk k0 n0 ks)=false:=by rw [Ex.cond_eq]; simp [Ex.kind,hk]
  have hk':¬(k0=1∨k0=2∨k0=3∨k0=5∨k0=6∨k0=7):=by simpa [condKind] using hk
  have t1:(k0==1)=false:=by simp; omega
  have t2:(k0==2)=false:=by simp; omega
  have t3:(k0==3)=false:=by simp; omega
  have t5:(k0==5)=false:=by simp; omega
  have t6:(k0==6)=false:=by simp; omega
  have t7:(k0==7)=false:=by simp; omega
  rw [hc];clear hk hk' hc
  go_enter Tryd.func44,Tryd.ntmps44
  go_wp2_with fail;go_ret;exact ⟨rfl,by (repeat' first|exact Below.refl _ _|assumption|apply Below.alloc|apply Below.drew|apply Below.setCell|omega|(simp; done)|(simp; omega))⟩
theorem implIsCondition_i {k n:Int} {ks:List Ex} {s:Option Addr} {cap:Nat} {w:World} (hr:Rd w (kidsD ks) (.slice s ks.length cap)):
  Calls Tryd.prog 44 #[.agg #[.int .i64 k, .int .i64 n, .slice s ks.length cap]] w fun f w'=>f= .returned (.bool (Ex.cond (.mk k n ks)))∧Below w.heap.size w w':=
 implIsCondition_all _ k n ks s cap w (Nat.le_refl _) hr
end Go.Proofs.YtfopdcdbelaapaaDoor
namespace Go.Proofs.YtfopdcdbelaapaaDoor
set_option linter.unusedVariables false
set_option linter.unusedSimpArgs false
open Go.ChangeShapes Go.WideShapes Go.ChangeAt Go.RowKit Go.Sort
theorem sigB_bd {t a:Int} (h:sigB t a=true):0≤t∧t≤3∧0≤a∧a≤4:=by
 simp [sigB,inB] at h
 omega
mutual
def Ex.depth:Ex→Nat
 | .mk _ _ ks=>1+Ex.depthL ks
def Ex.depthL:List Ex→Nat
 |[]=>0
 |e::r=>max e.depth (Ex.depthL r)
end
def kidsN (k:Int):Int:=if k=1∨k=2∨k=3∨k=4 then 0 else if k=5∨k=8 then 1 else if k=6∨k=7 then 2 else -1
def numB (tm am k n:Int):Bool:=if k=3 then inB n 0 tm else if k=4 then inB n 0 am else n==0
def nodeB (tm am k n:Int) (ks:List Ex):Bool:=(kidsN k==(ks.length:Int))&&numB tm am k n&&(k !=5||Ex.condL ks)
mutual
def Ex.tree (tm am:Int):Ex→Bool
 | .mk k n ks=>nodeB tm am k n ks&&Ex.treeL tm am ks
def Ex.treeL (tm am:Int):List Ex→Bool
 |[]=>true
 |e::r=>Ex.tree tm am e&&Ex.treeL tm am r
end
theorem Ex.treeL_mem {tm am:Int}:∀{ks:List Ex} {x:Ex},Ex.treeL tm am ks=true→x∈ks→x.tree tm am=true
 |[],_,_,h=>by simp at h
 |e::r,x,ht,h=>by
  simp only [Ex.treeL,Bool.and_eq_true] at ht
  rcases List.mem_cons.1 h with rfl|h
  ·
   exact ht.1
  ·
   exact Ex.treeL_mem ht.2 h
theorem tree_parts {tm am k n:Int} {ks:List Ex} (h:Ex.tree tm am (.mk k n ks)=true):kidsN k=(ks.length:Int)∧numB tm am k n=true∧(k=5→Ex.condL ks=true)∧Ex.treeL tm am ks=true:=by
 simp only [Ex.tree,nodeB,Bool.and_eq_true,beq_iff_eq,Bool.or_eq_true,bne_iff_ne] at h;refine ⟨h.1.1.1,h.1.1.2,fun hk=> ?_,h.2⟩
 rcases h.1.2 with h|h
 ·
  exact absurd hk h
 ·
  exact h
theorem two_kids {k:Int} {ks:List Ex} (h:kidsN k=(ks.length:Int)) (hk:k=6∨k=7):∃x y,ks=[x,y]:=by
 have:kidsN k=2:=by unfold kidsN; rw [if_neg (by omega),if_neg (by omega),if_pos (by omega)]
 match ks,h with
 |[x,y],_=>exact ⟨x,y,rfl⟩
 |[],h=>simp at h; omega
 |[x],h=>simp at h; omega
 |x::y::z::r,h=>simp at h; omega
theorem one_kid {k:Int} {ks:List Ex} (h:kidsN k=(ks.length:Int)) (hk:k=5∨k=8):∃x,ks=[x]:=by
 have:kidsN k=1:=by unfold kidsN; rw [if_neg (by omega),if_pos (by omega)]
 match ks,h with
 |[x],_=>exact ⟨x,rfl⟩
 |[],h=>simp at h; omega
 |x::y::r,h=>simp at h; omega
theorem kind_cases {k:Int} {n:Nat} (h:kidsN k=(n:Int)):k=1∨k=2∨k=3∨k=4∨k=5∨k=6∨k=7∨k=8:=by
 by_cases hk:k=1∨k=2∨k=3∨k=4∨k=5∨k=6∨k=7∨k=8
 ·
  exact hk
 ·
  exfalso
  unfold kidsN at h;rw [if_neg (by omega),if_neg (by omega),if_neg (by omega)] at h;omega
end Go.Proofs.YtfopdcdbelaapaaDoor
