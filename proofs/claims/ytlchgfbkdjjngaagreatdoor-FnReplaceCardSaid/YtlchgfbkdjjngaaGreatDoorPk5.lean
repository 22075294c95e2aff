/-
  Parts of a proof, joined: Rdx, Shelf, Text, Bld, Own, Sig, Cond, Ints. No condition.
-/
import Derived.Shelf.Strings.Builder1
import Derived.Shelf.Small.Bits
import Derived.Shelf.Small.Strs
import Derived.Shelf.Strings.BuilderF
import Derived.Shelf.Strings.BuilderK
import Derived.Shelf.Strconv.Itoa0
import Derived.Shelf.Strconv.Itoa1
import Derived.Shelf.LaysM
import Derived.Shelf.Strconv.Itoa2
import Derived.Shelf.Strconv.Itoa3
import Derived.Shelf.Strconv.Itoa4
import Derived.Shelf.Strings.BuilderCap
import Derived.Test.YtlchgfbkdjjngaaGreatDoorProg
import Derived.Lib.AppendStr
import Derived.Test.YtlchgfbkdjjngaaGreatDoorPk4
set_option linter.unusedVariables false
set_option linter.unusedSimpArgs false
namespace Go.Proofs.YtlchgfbkdjjngaaGreatDoor
open Go.ChangeShapes Go.WideShapes Go.ChangeAt Go.RowKit Go.Deep
def Ai (X:Nat→Prop) (w w':World):Prop:=w.heap.size≤w'.heap.size∧∀b,b<w.heap.size→¬X b→w'.heap[b]? =w.heap[b]?
theorem Ai.refl (X:Nat→Prop) (w:World):Ai X w w:=⟨Nat.le_refl _,fun _ _ _=>rfl⟩
theorem Ai.trans {X:Nat→Prop} {a b c:World} (h:Ai X a b) (k:Ai X b c):Ai X a c:=
 ⟨Nat.le_trans h.1 k.1,fun i hi hx=>(k.2 i (Nat.lt_of_lt_of_le hi h.1) hx).trans (h.2 i hi hx)⟩
theorem Ai.of_below {X:Nat→Prop} {w w':World} (h:Below w.heap.size w w'):Ai X w w':=⟨h.size,fun b hb _=>h.block b hb⟩
theorem Ai.of_spares {X Y:Nat→Prop} {w w':World} (h:Aa Y w w') (hY:∀b,b<w.heap.size→Y b→X b):Ai X w w':=⟨h.size,fun b hb hx=>h.block b hb fun hy=>hx (hY b hb hy)⟩
theorem Ai.more {X Y:Nat→Prop} {w w':World} (h:Ai X w w') (hs:∀b,b<w.heap.size→X b→Y b):Ai Y w w':=⟨h.1,fun b hb hy=>h.2 b hb fun hx=>hy (hs b hb hx)⟩
def RdX (X:Nat→Prop) (w:World) (d:D) (v:Value):Prop:=∀w',Ai X w w'→Rd w' d v
theorem RdX.rd {X:Nat→Prop} {w:World} {d:D} {v:Value} (h:RdX X w d v):Rd w d v:=h w (Ai.refl X w)
theorem RdX.keep {X:Nat→Prop} {w w':World} {d:D} {v:Value} (h:RdX X w d v) (hk:Ai X w w'):RdX X w' d v:=fun _ k=>h _ (hk.trans k)
theorem RdX.below {X:Nat→Prop} {w w':World} {d:D} {v:Value} (h:RdX X w d v) (hb:Below w.heap.size w w'):RdX X w' d v:=h.keep (Ai.of_below hb)
theorem RdX.less {X Y:Nat→Prop} {w:World} {d:D} {v:Value} (h:RdX X w d v) (hs:∀b,b<w.heap.size→Y b→X b):RdX Y w d v:=fun w' k=>h w' (k.more hs)
theorem RdX.of_rd {X:Nat→Prop} {w:World} {d:D} {v:Value} (h:Rd w d v) (hX:∀b,X b→w.heap.size≤b):RdX X w d v:=fun _ k=>h.keep fun b hb=>k.2 b hb fun hx=>by have:=hX b hx; omega
theorem RdX.nil {X:Nat→Prop} {w:World} {size:Nat}:RdX X w (.sl size 0 []) (.slice Option.none 0 0):=fun _ _=>by simp only [Rd]; exact ⟨Option.none,0,rfl,Nat.le_refl _,by unfold maxLen; omega,by simp,fun _=>rfl,Or.inl trivial⟩
theorem RdX.fresh {X:Nat→Prop} {w w':World} {d:D} {v:Value} (h:Ag w w' [d] [v]) (hX:∀b,X b→b<w.heap.size):RdX X w' d v:=by
 obtain ⟨F,h1,h2,h3⟩:=h;intro w2 k;exact Rds.one (h1.keep fun b hb=>k.2 b (h1.lt b hb) fun hx=>by have:=h3 b hb; have:=hX b hx; omega).rds
def RdO (W0:World) (X F:Nat→Prop) (w:World) (d:D) (v:Value):Prop:=
 ∀w',w.heap.size≤w'.heap.size→Ai X W0 w'→(∀b,b<w.heap.size→F b→w'.heap[b]? =w.heap[b]?)→Rd w' d v
theorem RdO.keep {W0:World} {X F F':Nat→Prop} {w w':World} {d:D} {v:Value} (h:RdO W0 X F w d v) (hz:w.heap.size≤w'.heap.size) (hk:∀b,b<w.heap.size→F b→w'.heap[b]? =w.heap[b]?) (hF:∀b,F b→F' b):RdO W0 X F' w' d v:=
 fun w2 h1 h2 h3=>h w2 (Nat.le_trans hz h1) h2 fun b hb hf=>(h3 b (Nat.lt_of_lt_of_le hb hz) (hF b hf)).trans (hk b hb hf)
def Bw (W0:World) (X F:Nat→Prop) (w:World) (b:Nat):Prop:=b<w.heap.size∧¬((b<W0.heap.size∧¬X b)∨F b)
theorem Bw.lt {W0:World} {X F:Nat→Prop} {w:World}:∀b,Bw W0 X F w b→b<w.heap.size:=fun _ h=>h.1
theorem Bw.kept {W0:World} {X F:Nat→Prop} {w w2:World} (k:Ai (Bw W0 X F w) w w2) (hW:Ai X W0 w):Ai X W0 w2:=
 ⟨Nat.le_trans hW.1 k.1,fun b hb hx=>(k.2 b (Nat.lt_of_lt_of_le hb hW.1) fun ho=>ho.2 (Or.inl ⟨hb,hx⟩)).trans (hW.2 b hb hx)⟩
theorem Bw.foot {W0:World} {X F:Nat→Prop} {w w2:World} (k:Ai (Bw W0 X F w) w w2) {b:Nat} (hb:b<w.heap.size) (hf:F b):w2.heap[b]? =w.heap[b]? :=k.2 b hb fun ho=>ho.2 (Or.inr hf)
theorem RdO.toX {W0:World} {X F F':Nat→Prop} {w:World} {d:D} {v:Value} (h:RdO W0 X F w d v) (hW:Ai X W0 w) (hF:∀b,F b→F' b):RdX (Bw W0 X F' w) w d v:=
 fun w2 k=>h w2 k.1 (Bw.kept k hW) fun b hb hf=>Bw.foot k hb (hF b hf)
theorem RdX.toOut {W0:World} {X F:Nat→Prop} {w:World} {d:D} {v:Value} (h:RdX X W0 d v) (hW:Ai X W0 w):RdX (Bw W0 X F w) w d v:=
 fun w2 k=>h w2 (Bw.kept k hW)
theorem RdO.ofX {W0:World} {X F F':Nat→Prop} {w w2:World} {d:D} {v:Value} (h:RdX (Bw W0 X F' w) w2 d v) (hb:Below w.heap.size w w2) (hW:Ai X W0 w) (hF:∀b,F' b→F b) (hn:∀b,w.heap.size≤b→b<w2.heap.size→F b):RdO W0 X F w2 d v:=
 fun w3 hz k3 h3=>h w3 ⟨hz,fun b hb2 hno=>by
  by_cases hl:b<w.heap.size
  ·by_cases hf:F' b
   ·exact h3 b hb2 (hF b hf)
   by_cases ho:b<W0.heap.size∧¬X b
   ·exact (k3.2 b ho.1 ho.2).trans (((hW.trans (Ai.of_below hb)).2 b ho.1 ho.2).symm)
   exact absurd ⟨hl,fun q=>q.elim ho hf⟩ hno
  exact h3 b hb2 (hn b (by omega) hb2)⟩
theorem RdO.done {W0:World} {X F:Nat→Prop} {w:World} {d:D} {v:Value} (h:RdO W0 X F w d v) (hW:Ai X W0 w) (hF:∀b,F b→¬X b):RdX X w d v:=
 fun w2 k=>h w2 k.1 (hW.trans k) fun b hb hf=>k.2 b hb (hF b hf)
theorem Gw {C D:List (Nat × Nat)} {G:Nat→Nat→Prop} {n i B z:Nat} {iv:Nat→Nat × Nat} {l:List Nat} (hl:((A9 C n i).all fun j=>l.contains j)=true) (hD:((A9 C n i).all fun j=>D.all fun p=>p.1 !=j)=true)
  (hb:∀j∈l,B≤(iv j).1∧(iv j).1≤(iv j).2∧(iv j).2≤z) {b:Nat} (hf:foot C D G n i iv b):B≤b:=by
 obtain ⟨j,hj,h|⟨m,hm,hg⟩⟩:=hf
 ·have:=List.all_eq_true.1 hl j hj;have:=(hb j (by simpa using this)).1;omega
 have:=List.all_eq_true.1 (List.all_eq_true.1 hD j hj) (j,m) hm;simp at this
theorem Bx {X:Nat→Prop} {w:World}:RdX X w (Ae []) (.slice none 0 0):=RdX.nil
def ExX (X:Nat→Prop) (w:World) (e:Ex) (s:Option Addr) (c:Nat):Prop:=RdX X w (Ae e.kids) (.slice s e.kids.length c)
theorem Iw {X:Nat→Prop} {w:World} {g t:Nat} {x:Ex} {sx:Option Addr} {cx:Nat} (h:Blk w g t [.int .i64 x.kind,.int .i64 x.num,.slice sx x.kids.length cx]) (hg:¬X g) (hx:ExX X w x sx cx):RdX X w (Ae [x]) (.slice (some ⟨g,0,none⟩) 1 1):=by
 intro w' k;have h':=h.keep (k.2 g h.lt hg);have hx':=hx w' k;unfold Ae;simp only [Rd];have hrow:Row w' g 0 [.int .i64 x.kind,.int .i64 x.num,.slice sx x.kids.length cx]:=h'.row rfl;refine ⟨some ⟨g,0,none⟩,1,rfl,Nat.le_refl _,by unfold maxLen; omega,by rw [Ex.cellsL_length],(fun h=>by cases h),Or.inr ⟨g,0,_,rfl,hrow, ?_⟩⟩;simp only [Ex.cellsL,List.append_nil];rw [Ex.cells_eq];simp only [Rds,Rd];exact ⟨_,_,rfl,rfl,_,_,rfl,rfl,_,_,rfl,hx',rfl⟩
theorem Ej {X:Nat→Prop} {w:World} {g t:Nat} {x y:Ex} {sx sy:Option Addr} {cx cy:Nat} (h:Blk w g t [.int .i64 x.kind,.int .i64 x.num,.slice sx x.kids.length cx,.int .i64 y.kind,.int .i64 y.num,.slice sy y.kids.length cy]) (hg:¬X g)
  (hx:ExX X w x sx cx) (hy:ExX X w y sy cy):RdX X w (Ae [x,y]) (.slice (some ⟨g,0,none⟩) 2 2):=by
 intro w' k;have h':=h.keep (k.2 g h.lt hg);have hx':=hx w' k;have hy':=hy w' k;unfold Ae;simp only [Rd];have hrow:Row w' g 0 [.int .i64 x.kind,.int .i64 x.num,.slice sx x.kids.length cx,.int .i64 y.kind,.int .i64 y.num,.slice sy y.kids.length cy]:=h'.row rfl;refine ⟨some ⟨g,0,none⟩,2,rfl,Nat.le_refl _,by unfold maxLen; omega,by rw [Ex.cellsL_length],(fun h=>by cases h),Or.inr ⟨g,0,_,rfl,hrow, ?_⟩⟩;simp only [Ex.cellsL,List.append_nil];rw [Ex.cells_eq,Ex.cells_eq];simp only [List.cons_append,List.nil_append,Rds,Rd];exact ⟨_,_,rfl,rfl,_,_,rfl,rfl,_,_,rfl,hx',_,_,rfl,rfl,_,_,rfl,rfl,_,_,rfl,hy',rfl⟩
theorem RdX.row_out {X:Nat→Prop} {w:World} {ks:List Ex} {b o len cap:Nat} (h:RdX X w (Ae ks) (.slice (some ⟨b,o,none⟩) len cap)) {i:Nat} {x:Ex} (hx:ks[i]? =some x):¬X b:=by
 intro hb;have hlt:=(A3 h.rd hx).1
 have k:Ai X w { w with heap:=w.heap.setIfInBounds b (.cells #[] 0) }:=
  ⟨by simp,fun j hj hn=>by
   have hne:b≠j:=fun e=>hn (e ▸ hb)
   simp [Array.getElem?_setIfInBounds_ne hne]⟩
 obtain ⟨-, s',c',k0, -⟩:=A3 (h _ k) hx
 have hblk:Blk { w with heap:=w.heap.setIfInBounds b (.cells #[] 0) } b 0 []:=by
  unfold Blk
  simp [hlt]
 rw [hblk.cell] at k0;simp at k0
theorem kidX {X:Nat→Prop} {w:World} {ks:List Ex} {b o len cap:Nat} (h:RdX X w (Ae ks) (.slice (some ⟨b,o,none⟩) len cap)) {i:Nat} {x:Ex} (hx:ks[i]? =some x):
  b<w.heap.size∧¬X b∧∃s c,w.cell? ⟨b,o+i*3,none⟩=some (.int .i64 x.kind)∧w.cell? ⟨b,o+i*3+1,none⟩=some (.int .i64 x.num)∧w.cell? ⟨b,o+i*3+2,none⟩=some (.slice s x.kids.length c)∧ExX X w x s c:=by
 obtain ⟨hb,s,c,h0,h1,h2,h3⟩:=A3 h.rd hx;have hn:=h.row_out hx;refine ⟨hb,hn,s,c,h0,h1,h2,fun w' k=> ?_⟩;obtain ⟨-, s',c',k0,k1,k2,k3⟩:=A3 (h w' k) hx;have e:=World.cell?_of_block (w:=w) (w':=w') (a:=⟨b,o+i*3+2,none⟩) (k.2 b hb hn);rw [k2,h2] at e;simp only [Option.some.injEq,Value.slice.injEq,true_and] at e;obtain ⟨rfl,rfl⟩:=e;exact k3
end Go.Proofs.YtlchgfbkdjjngaaGreatDoor
namespace Go.Proofs
open Go.Shelf
def Tryz.lays169_ren:Go.Shelf.Ren:=⟨fun|169=>88|n=>n,fun|70=>131|9=>9|0=>0|72=>133|37=>22|127=>151|3=>3|5=>5|n=>n,fun|n=>n⟩
theorem Tryz.lays169:Go.Proofs.Lays.n169 Tryz.prog Tryz.lays169_ren:={
 mixed:=by kernel_rfl
 f169:=Tryz.func88.trans (congrArg some (by kernel_rfl))
 t0:=Tryz.underlying0
 a0:=Tryz.isAgg0
 z0:=Tryz.sizeOf0
 v0:=Tryz.zeroValue0
 t3:=Tryz.underlying3
 a3:=Tryz.isAgg3
 z3:=Tryz.sizeOf3
 v3:=Tryz.zeroValue3
 t9:=Tryz.underlying9
 a9:=Tryz.isAgg9
 z9:=Tryz.sizeOf9
 v9:=Tryz.zeroValue9
 t37:=Tryz.underlying22
 a37:=Tryz.isAgg22
 z37:=Tryz.sizeOf22
 v37:=Tryz.zeroValue22
 t70:=Tryz.underlying131
 a70:=Tryz.isAgg131
 z70:=Tryz.sizeOf131
 v70:=Tryz.zeroValue131
 t72:=Tryz.underlying133
 a72:=Tryz.isAgg133
 z72:=Tryz.sizeOf133
 v72:=Tryz.zeroValue133
 t127:=Tryz.underlying151
 a127:=Tryz.isAgg151
 z127:=Tryz.sizeOf151
 v127:=Tryz.zeroValue151 }
theorem Tryz.Builder_Extra_169:Builder.Extra Tryz.prog Tryz.lays169_ren:={
 sizeBuilder:=by kernel_rfl
 liesBuilder:=by kernel_rfl
 t5:=Tryz.underlying5
 a5:=Tryz.isAgg5
 z5:=Tryz.sizeOf5
 v5:=Tryz.zeroValue5
 infoByte:=by kernel_rfl
 cellsByte:=by kernel_rfl
 sizeByte:=by kernel_rfl
 neB5:=by decide }
open Go.RowKit in
open Go.RowKit in
open Go.RowKit in
theorem Tryz.Builder_String_any (B b:Nat) (l:List UInt8) (w:World) (h:Lib.IsBuilder 133 5 B b (Lib.byteCells l) w) (hBw:B≤w.heap.size):
  Calls Tryz.prog 88 #[.pointer (some ⟨b,0,none⟩)] w fun e w'=>e= .returned (.string ⟨l.toArray⟩)∧Below B w w':=Any.Builder_String_any Tryz.lays169 Tryz.Builder_Extra_169 B b l w h hBw
open Go.RowKit in
def Tryz.lays106_ren:Go.Shelf.Ren:=⟨fun|106=>95|213=>101|265=>114|n=>n,fun|9=>9|3=>3|n=>n,fun|n=>n⟩
theorem Tryz.lays106:Go.Proofs.Lays.n106 Tryz.prog Tryz.lays106_ren:={
 mixed:=by kernel_rfl
 f106:=Tryz.func95.trans (congrArg some (by kernel_rfl))
 f213:=Tryz.func101.trans (congrArg some (by kernel_rfl))
 f265:=Tryz.func114.trans (congrArg some (by kernel_rfl))
 t3:=Tryz.underlying3
 a3:=Tryz.isAgg3
 z3:=Tryz.sizeOf3
 v3:=Tryz.zeroValue3
 t9:=Tryz.underlying9
 a9:=Tryz.isAgg9
 z9:=Tryz.sizeOf9
 v9:=Tryz.zeroValue9 }
open Go.RowKit in
theorem Tryz.strings_Compare (a b:ByteArray) (w:World):
  Calls Tryz.prog 95 #[.string a,.string b] w fun e w'=>e= .returned (.int .i64 (Lib.compareBytes a.data.toList b.data.toList))∧w'=w:=Any.strings_Compare Tryz.lays106 a b w
open Go.RowKit in
open Go.RowKit in
open Go.RowKit in
open Go.RowKit in
open Go.RowKit in
open Go.RowKit in
open Go.Lib in
open Go.Lib in
open Go.Lib in
open Go.Lib in
open Go.RowKit Go.Sort Go.Lib in
open Go.RowKit Go.Sort Go.Lib in
open Go.RowKit Go.Sort Go.Lib in
open Go.RowKit Go.Sort Go.Lib in
def Tryz.lays173_ren:Go.Shelf.Ren:=⟨fun|173=>103|246=>116|283=>122|284=>123|285=>124|286=>125|129=>113|317=>127|318=>128|319=>129|320=>130|337=>131|338=>132|n=>n,fun|2=>2|3=>3|9=>9|4=>4|171=>176|0=>0|53=>54|37=>22|5=>5|173=>178|212=>185|51=>165|20=>20|213=>186|46=>106|232=>188|233=>189|n=>n,fun|17=>1|18=>2|19=>3|n=>n⟩
theorem Tryz.lays173:Go.Proofs.Lays.n173 Tryz.prog Tryz.lays173_ren:={
 mixed:=by kernel_rfl
 f129:=Tryz.func113.trans (congrArg some (by kernel_rfl))
 f173:=Tryz.func103.trans (congrArg some (by kernel_rfl))
 f246:=Tryz.func116.trans (congrArg some (by kernel_rfl))
 f283:=Tryz.func122.trans (congrArg some (by kernel_rfl))
 f284:=Tryz.func123.trans (congrArg some (by kernel_rfl))
 f285:=Tryz.func124.trans (congrArg some (by kernel_rfl))
 f286:=Tryz.func125.trans (congrArg some (by kernel_rfl))
 f317:=Tryz.func127.trans (congrArg some (by kernel_rfl))
 f318:=Tryz.func128.trans (congrArg some (by kernel_rfl))
 f319:=Tryz.func129.trans (congrArg some (by kernel_rfl))
 f320:=Tryz.func130.trans (congrArg some (by kernel_rfl))
 f337:=Tryz.func131.trans (congrArg some (by kernel_rfl))
 f338:=Tryz.func132.trans (congrArg some (by kernel_rfl))
 t0:=Tryz.underlying0
 a0:=Tryz.isAgg0
 z0:=Tryz.sizeOf0
 v0:=Tryz.zeroValue0
 t2:=Tryz.underlying2
 a2:=Tryz.isAgg2
 z2:=Tryz.sizeOf2
 v2:=Tryz.zeroValue2
 t3:=Tryz.underlying3
 a3:=Tryz.isAgg3
 z3:=Tryz.sizeOf3
 v3:=Tryz.zeroValue3
 t4:=Tryz.underlying4
 a4:=Tryz.isAgg4
 z4:=Tryz.sizeOf4
 v4:=Tryz.zeroValue4
 t5:=Tryz.underlying5
 a5:=Tryz.isAgg5
 z5:=Tryz.sizeOf5
 v5:=Tryz.zeroValue5
 t9:=Tryz.underlying9
 a9:=Tryz.isAgg9
 z9:=Tryz.sizeOf9
 v9:=Tryz.zeroValue9
 t20:=Tryz.underlying20
 a20:=Tryz.isAgg20
 z20:=Tryz.sizeOf20
 v20:=Tryz.zeroValue20
 t37:=Tryz.underlying22
 a37:=Tryz.isAgg22
 z37:=Tryz.sizeOf22
 v37:=Tryz.zeroValue22
 t46:=Tryz.underlying106
 a46:=Tryz.isAgg106
 z46:=Tryz.sizeOf106
 v46:=Tryz.zeroValue106
 t51:=Tryz.underlying165
 a51:=Tryz.isAgg165
 z51:=Tryz.sizeOf165
 v51:=Tryz.zeroValue165
 t53:=Tryz.underlying54
 a53:=Tryz.isAgg54
 z53:=Tryz.sizeOf54
 v53:=Tryz.zeroValue54
 t171:=Tryz.underlying176
 a171:=Tryz.isAgg176
 z171:=Tryz.sizeOf176
 v171:=Tryz.zeroValue176
 t173:=Tryz.underlying178
 a173:=Tryz.isAgg178
 z173:=Tryz.sizeOf178
 v173:=Tryz.zeroValue178
 t212:=Tryz.underlying185
 a212:=Tryz.isAgg185
 z212:=Tryz.sizeOf185
 v212:=Tryz.zeroValue185
 t213:=Tryz.underlying186
 a213:=Tryz.isAgg186
 z213:=Tryz.sizeOf186
 t232:=Tryz.underlying188
 a232:=Tryz.isAgg188
 z232:=Tryz.sizeOf188
 v232:=Tryz.zeroValue188
 t233:=Tryz.underlying189
 a233:=Tryz.isAgg189
 z233:=Tryz.sizeOf189
 v233:=Tryz.zeroValue189
 g17:=by kernel_rfl
 g18:=by kernel_rfl
 g19:=by kernel_rfl }
open Go.RowKit Go.Sort Go.Lib in
theorem Tryz.strconv_FormatInt_10_small (i:Nat) (hi:i<100) (w:World):
  Calls Tryz.prog 103 #[.int .i64 i,.int .i64 10] w fun e w'=>e= .returned (.string ⟨(Lib.decDigits i).toArray⟩)∧w'=w:=Any.strconv_FormatInt_10_small Tryz.lays173 i hi w
end Go.Proofs
namespace Go.Proofs.YtlchgfbkdjjngaaGreatDoor
open Go.ChangeShapes Go.WideShapes Go.ChangeAt Go.RowKit
def bs (l:List UInt8):ByteArray:=⟨l.toArray⟩
def dg8 (n:Nat):UInt8:=UInt8.ofNat (48+n)
theorem U5 (a b:List UInt8):bs a++bs b=bs (a++b):=by
 apply ByteArray.ext
 simp [bs,ByteArray.data_append]
theorem Ji (a:List UInt8):(bs a).size=a.length:=by simp [bs,ByteArray.size]
theorem Zb {a b:List UInt8} (h:bs a=bs b):a=b:=by
 unfold bs at h;have:=congrArg ByteArray.data h
 simpa using this
theorem Jf {P:Program} (a b:List UInt8) (h:a.length+b.length≤1000000000) (w:World):(Op.stringOp .add (bs a) (bs b)).run P w= .ok (.string (bs (a++b))) w:=by
 rw [Go.run_string_add_sum w _ _ (by rw [Ji,Ji]; omega),U5]
theorem Uq {n:Nat} (h:n<10):(((dg8 n).toNat:Nat):Int)=48+(n:Int):=by
 have:(dg8 n).toNat=48+n:=by unfold dg8; simp [UInt8.toNat_ofNat']; omega
 rw [this];omega
theorem Np {n g:Nat} {w:World} (hn:n<10) (h:Blk w g 5 [.int .u8 (48+(n:Int))]):(convert 22 9 (.slice (some ⟨g,0,none⟩) 1 1)).run Tryz.prog w= .ok (.string (bs [dg8 n])) w:=by
 refine run_convert_bytes_back _ 22 9 5 ⟨g,0,none⟩ 1 [dg8 n] Tryz.underlying22 Tryz.underlying5 Tryz.underlying9 ?_;intro j hj
 obtain rfl:j=0:=by simp at hj; omega
 rw [add_plain];simp only [Nat.zero_add,List.getElem_cons_zero,Uq hn];exact h.c0
set_option maxRecDepth 100000 in
set_option maxHeartbeats 1000000 in
theorem Ln {n:Nat} {w:World} (hn:n<10):Calls Tryz.prog 83 #[.int .i64 n] w fun e w'=>e= .returned (.string (bs [dg8 n]))∧Below w.heap.size w w':=by
 have hb:=Np hn (Blk.new1 w 5 (.int .u8 (48+(n:Int))))
 have hn':(n:Int)<10:=by omega
 go_enter Tryz.func83,Tryz.ntmps83
 go_wp2_with fail;go_ret;exact ⟨rfl,bel⟩
set_option maxRecDepth 100000 in
set_option maxHeartbeats 4000000 in
theorem Ov {n:Nat} {w:World} (hn:n<100):Calls Tryz.prog 83 #[.int .i64 n] w fun e w'=>e= .returned (.string (bs (Lib.decDigits n)))∧Below w.heap.size w w':=by
 by_cases h1:n<10
 ·rw [Lib.decDigits_one h1];exact Ln h1
 rw [Lib.decDigits_two h1 hn]
 have h4:(10:Int)≤(n:Int):=by omega
 have h5:(n:Int)<100:=by omega
 obtain ⟨a,ha⟩:∃a,n / 10=a:=⟨_,rfl⟩;obtain ⟨c,hc⟩:∃c,n % 10=c:=⟨_,rfl⟩
 have q1:(n:Int) / 10=(a:Int):=by omega
 have q2:(n:Int) % 10=(c:Int):=by omega
 have h2:a<10:=by omega
 have h3:c<10:=by omega
 have h6:(c:Int)<10:=by omega
 have hcz:=Int.natCast_nonneg c;have Hr:Hid (bs [dg8 a]++bs [dg8 c]=bs [UInt8.ofNat (48+a),UInt8.ofNat (48+c)]):=U5 _ _;rw [ha,hc];clear ha hc
 go_enter Tryz.func83,Tryz.ntmps83
 go_wp2_with fail
 refine Aw [] [] (fun _ _=>False) (w.heap.size) (fun i iv vs wx=>match i with
  |0=>vs 0= .int .i64 n
  |1=>vs 1= .int .i64 a
  |2=>vs 2= .string (bs [dg8 a])
  |3=>vs 3= .int .i64 n
  |4=>vs 4= .int .i64 c
  |5=>vs 5= .int .i64 (48+↑c)
  |6=>vs 6= .int .u8 (48+↑c)
  |7=>vs 7= .slice (some ⟨(iv 7).1,0,none⟩) 1 1∧(iv 7).2=(iv 7).1+1∧Blk wx (iv 7).1 5 [.int .u8 (48+↑c)]
  |8=>vs 8= .string (bs [dg8 c])
  |9=>vs 9= .string (bs [dg8 a]++bs [dg8 c])
  |10=>vs 10= .string (bs [dg8 a]++bs [dg8 c])
  |_=>True) (fun i iv vs=>match i with
  |0=>vs 0= .int .i64 n
  |1=>vs 1= .int .i64 a
  |2=>vs 2= .string (bs [dg8 a])
  |3=>vs 3= .int .i64 n
  |4=>vs 4= .int .i64 c
  |5=>vs 5= .int .i64 (48+↑c)
  |6=>vs 6= .int .u8 (48+↑c)
  |7=>vs 7= .slice (some ⟨(iv 7).1,0,none⟩) 1 1∧(iv 7).2=(iv 7).1+1
  |8=>vs 8= .string (bs [dg8 c])
  |9=>vs 9= .string (bs [dg8 a]++bs [dg8 c])
  |10=>vs 10= .string (bs [dg8 a]++bs [dg8 c])
  |_=>True) (by kernel_rfl) (by kernel_rfl) [0,1,2,3,4,5,6,7,8,9,10] (by kernel_rfl) ?hbase ?hGb ?hG ?hJ ?hE ?hEE ?hstep ?hQ
 case hbase=>first|exact Nat.le_refl _|omega|(simp; omega)
 case hGb=>
  exact fun _ _ h=>h.elim
 case hG=>
  exact fun _ _ _ h=>h.elim
 case hJ=>
  intro i hi iv iv' vs vs' wx wx' ha hv hz hk hj;simp at hi
  rcases hi with rfl|rfl|rfl|rfl|rfl|rfl|rfl|rfl|rfl|rfl|rfl
  all_goals try exact (aG hv _).symm.trans hj
  have e7:=aG hv 7;have g7:=aG ha 7;obtain ⟨q1,q3,q2⟩:=hj
  show vs' 7= .slice (some ⟨(iv' 7).1,0,none⟩) 1 1∧(iv' 7).2=(iv' 7).1+1∧Blk wx' (iv' 7).1 5 [.int .u8 (48+↑c)]
  rw [←e7,←g7];exact ⟨q1,q3,q2.keep (hk.out _ q2.lt (Au (Nat.le_refl _) (by omega)))⟩
 case hE=>
  intro i hi iv vs wx hj;simp at hi
  rcases hi with rfl|rfl|rfl|rfl|rfl|rfl|rfl|rfl|rfl|rfl|rfl
  all_goals try exact hj
  exact ⟨hj.1,hj.2.1⟩
 case hEE=>
  intro i hi iv iv' vs vs' ha hv hj;simp at hi
  rcases hi with rfl|rfl|rfl|rfl|rfl|rfl|rfl|rfl|rfl|rfl|rfl
  all_goals try exact (aG hv _).symm.trans hj
  have e7:=aG hv 7;have g7:=aG ha 7;have hj':vs 7= .slice (some ⟨(iv 7).1,0,none⟩) 1 1∧(iv 7).2=(iv 7).1+1:=hj
  show vs' 7= .slice (some ⟨(iv' 7).1,0,none⟩) 1 1∧(iv' 7).2=(iv' 7).1+1
  rw [←e7,←g7];exact hj'
 case hstep=>
  intro i hi opr ho iv vs w1 hB hS hSo hd he hbd hsep hun K hK;simp at hi;have hzB:=hB.size
  skip
  generalize hA:Af _ 0 vs _=A at hK ⊢;simp only [Af,Ac] at hA
  rcases hi with rfl|rfl|rfl|rfl|rfl|rfl|rfl|rfl|rfl|rfl|rfl
  all_goals
   simp at ho;subst ho;subst hA
  ·go_wp2_with fail;exact Ab.mk (hK _ _ _ nn (by first|rfl|(simp only [Ac])) (Aa.refl _) (fun iv' _ _=>rfl))
  ·have h0:vs 0=_:=dN hd 0;go_wp2_with fail;exact Ab.mk (hK _ _ _ nn (by first|rfl|(simp only [Ac,h0])) (Aa.refl _) (fun iv' _ _=>rfl))
  ·have h1:vs 1=_:=dN hd 1;go_wp2_with fail;refine (Ln h2).mono ?_;rintro e w2 ⟨rfl,hb⟩;go_wp2_with fail;exact Ab.mk (hK (.string (bs [dg8 a])) _ _ nn (by first|rfl|(simp only [Ac,h1])) (Aa.of_below hb) (fun iv' _ _=>rfl))
  ·go_wp2_with fail;exact Ab.mk (hK _ _ _ nn (by first|rfl|(simp only [Ac])) (Aa.refl _) (fun iv' _ _=>rfl))
  ·have h3:vs 3=_:=dN hd 3;go_wp2_with fail;exact Ab.mk (hK _ _ _ nn (by first|rfl|(simp only [Ac,h3])) (Aa.refl _) (fun iv' _ _=>rfl))
  ·have h4:vs 4=_:=dN hd 4;go_wp2_with fail;exact Ab.mk (hK _ _ _ nn (by first|rfl|(simp only [Ac,h4])) (Aa.refl _) (fun iv' _ _=>rfl))
  ·have h5:vs 5=_:=dN hd 5;go_wp2_with fail;exact Ab.mk (hK _ _ _ nn (by first|rfl|(simp only [Ac,h5])) (Aa.refl _) (fun iv' _ _=>rfl))
  ·have h6:vs 6=_:=dN hd 6;go_wp2_with fail
   exact Ab.mk (hK (.slice (some ⟨w1.heap.size,0,none⟩) 1 1) _ _ nn (by first|rfl|(simp only [Ac,h6])) (Aa.of_below (Below.alloc (Below.refl _ _) (Nat.le_refl _) _)) (fun iv' _ hi=>by
    show Value.slice (some ⟨w1.heap.size,0,none⟩) 1 1= .slice (some ⟨(iv' 7).1,0,none⟩) 1 1∧(iv' 7).2=(iv' 7).1+1∧Blk _ (iv' 7).1 5 [.int .u8 (48+↑c)]
    rw [hi]
    exact ⟨rfl,by simp,Blk.new1 _ _ _⟩))
  ·obtain ⟨h7,q7,f7⟩:=dN hd 7;obtain ⟨h7,q7,f7⟩:=dN hd 7;have hrun:=Np h3 f7;go_wp2_with fail;exact Ab.mk (hK (.string (bs [dg8 c])) _ _ nn (by simp only [Act.put,List.setIfInBounds_toArray,List.set_cons_succ,List.set_cons_zero,h7]) (Aa.of_below (Below.refl _ _)) (fun iv' _ _=>rfl))
  ·have h2:vs 2=_:=dN hd 2;have h8:vs 8=_:=dN hd 8;go_wp2_with fail;exact Ab.mk (hK _ _ _ nn (by first|rfl|(simp only [Ac,h2,h8])) (Aa.refl _) (fun iv' _ _=>rfl))
  have h9:vs 9=_:=dN hd 9;go_wp2_with fail;exact Ab.mk (hK _ _ _ nn (by first|rfl|(simp only [Ac,h9])) (Aa.refl _) (fun iv' _ _=>rfl))
 intro iv vs wx hB hSp hd he hbd hsep;have hzB:=hB.size;have h0:vs 0=_:=dE hd 0;have h1:vs 1=_:=dE hd 1;have h2:vs 2=_:=dE hd 2;have h3:vs 3=_:=dE hd 3;have h4:vs 4=_:=dE hd 4;have h5:vs 5=_:=dE hd 5;have h6:vs 6=_:=dE hd 6;obtain ⟨h7,q7,f7⟩:=dE hd 7;have h8:vs 8=_:=dE hd 8;have h9:vs 9=_:=dE hd 9;have h10:vs 10=_:=dE hd 10;simp only [Af,Ac];simp only [h10,Hr.out];clear hd he hbd hsep h0 h1 h2 h3 h4 h5 h6 h7 h8 h9 h10 Hr;go_wp2_with fail;go_ret;exact ⟨rfl,hB⟩
theorem Pb {n:Nat} {w:World} (hn:n<100):Calls Tryz.prog 97 #[.int .i64 n] w fun e w'=>e= .returned (.string (bs (Lib.decDigits n)))∧w=w':=by
 go_enter Tryz.func97,Tryz.ntmps97
 go_wp2_with fail;refine (Tryz.strconv_FormatInt_10_small n hn _).mono ?_;rintro e w1 ⟨rfl,rfl⟩;go_wp2_with fail;go_ret;exact ⟨rfl,rfl⟩
def Cq (B:Nat) (S:Nat→Prop) (b:Nat) (l:List UInt8) (w:World):Prop:=
 ∃p v,(p= .pointer none∨p= .pointer (some ⟨b,0,none⟩))∧w.heap[b]? =some (.cells #[p,v] 133 (0,0))∧w.ownsRow B 5 1 v l.length (Lib.byteCells l)∧v.ownBlock≠some b∧S b∧(∀g,v.ownBlock=some g→S g)∧∀x,S x→B≤x∧x<w.heap.size
theorem Sl (l:List UInt8):Lib.strCells (bs l)=Lib.byteCells l:=by simp [Lib.strCells,Lib.byteCells,bs]
theorem Vq (a b:List UInt8):Lib.byteCells (a++b)=Lib.byteCells a++Lib.byteCells b:=by simp [Lib.byteCells]
theorem P0 (l:List UInt8):(Lib.byteCells l).length=l.length:=by simp [Lib.byteCells]
theorem Cq.made {w:World} {B:Nat} (hB:B≤w.heap.size):Cq B (fun x=>x=w.heap.size) w.heap.size [] (w.alloc (.cells #[.pointer none,.slice none 0 0] 133)):=by
 refine ⟨_,_,Or.inl rfl,(MapKept.heap_alloc w _).1,World.ownsRow_nil _ _ _ _,by simp [Value.ownBlock],rfl,by simp [Value.ownBlock], ?_⟩;rintro x rfl;exact ⟨hB,by simp⟩
theorem Cq.keep {B b:Nat} {S:Nat→Prop} {l:List UInt8} {w w':World} (h:Cq B S b l w) (hz:w.heap.size≤w'.heap.size) (hk:∀x,x<w.heap.size→S x→w'.heap[x]? =w.heap[x]?):Cq B S b l w':=by
 obtain ⟨p,v,h1,h2,h3,h4,h5,h6,h7⟩:=h;refine ⟨p,v,h1,(hk b (h7 b h5).2 h5).trans h2,⟨h3.1, ?_⟩,h4,h5,h6,fun x hx=>⟨(h7 x hx).1,Nat.lt_of_lt_of_le (h7 x hx).2 hz⟩⟩
 rcases h3.2 with h|⟨g,cap,cur,e,hg,hbb,hr⟩
 ·exact Or.inl h
 have hs:=h6 g (by rw [e]; rfl);exact Or.inr ⟨g,cap,cur,e,hg,(hk g (h7 g hs).2 hs).trans hbb,hr⟩
theorem Cq.below {B b:Nat} {S:Nat→Prop} {l:List UInt8} {w w':World} (h:Cq B S b l w) (hb:Below w.heap.size w w'):Cq B S b l w':=h.keep hb.size fun x hx _=>hb.block x hx
theorem Cq.more {B b:Nat} {S T:Nat→Prop} {l:List UInt8} {w:World} (h:Cq B S b l w) (hs:∀x,S x→T x) (ht:∀x,T x→B≤x∧x<w.heap.size):Cq B T b l w:=by
 obtain ⟨p,v,h1,h2,h3,h4,h5,h6,h7⟩:=h;exact ⟨p,v,h1,h2,h3,h4,hs _ h5,fun g hg=>hs _ (h6 g hg),ht⟩
theorem Cq.is {B b:Nat} {S:Nat→Prop} {l:List UInt8} {w:World} (h:Cq B S b l w):Lib.IsBuilder 133 5 B b (Lib.byteCells l) w:=by
 obtain ⟨p,v,h1,h2,h3,h4,h5,h6,h7⟩:=h;have hx:(Lib.byteCells l).length=l.length:=P0 l
 rcases h1 with rfl|rfl
 ·exact Or.inl ⟨(h7 b h5).1,v,h2,by rw [hx]; exact h3,h4⟩
 exact Or.inr ⟨(h7 b h5).1,v,h2,by rw [hx]; exact h3,h4⟩
theorem Cq.set {B b:Nat} {S:Nat→Prop} {l:List UInt8} {w:World} (h:Cq B S b l w):S b∧(∀x,S x→B≤x∧x<w.heap.size):=by
 obtain ⟨p,v,h1,h2,h3,h4,h5,h6,h7⟩:=h;exact ⟨h5,h7⟩
theorem Rx:(Tryz.prog.info? 133).map (·.size)=some 2:=by kernel_rfl
theorem Qp:liesAt Tryz.prog Tryz.prog.depth 133 (2 / Tryz.prog.cellsOf 133) 0 133 1=true:=by kernel_rfl
theorem Vp:(Tryz.prog.info? 5).map (fun i=>(i.zero,i.size,i.bytes))=some (some (.int .u8 0),1,1):=by kernel_rfl
set_option maxRecDepth 100000 in
set_option maxHeartbeats 2000000 in
theorem So {b:Nat} {p v:Value} {w:World} (hp:p= .pointer none∨p= .pointer (some ⟨b,0,none⟩)) (h:w.heap[b]? =some (.cells #[p,v] 133 (0,0))):
  Calls Tryz.prog 102 #[.pointer (some ⟨b,0,none⟩)] w fun e w'=>e= .returned (.tuple #[])∧w'.heap[b]? =some (.cells #[.pointer (some ⟨b,0,none⟩),v] 133 (0,0))∧Aa (fun x=>x=b) w w'∧w'.heap.size=w.heap.size:=by
 obtain ⟨j,hj,hjs⟩:=Option.map_eq_some_iff.1 Rx
 have h0:w.cell? ⟨b,0,none⟩=some p:=by rw [Lib.cell_of_heap h]; rfl
 have hz:w.frozen? ⟨b,0,none⟩=false:=Lib.frozen_of_heap h 0
 have hs:w.shape? b=some (133,2):=by simp [World.shape?, h]
 rcases hp with rfl|rfl
 ·have hu:=Lib.run_to_unsafe w ⟨b,0,none⟩ Tryz.underlying131 Tryz.underlying167 hj (by rw [hjs]; decide) hs (Nat.zero_lt_succ 1);have hf:=Lib.run_from_unsafe w ⟨b,0,none⟩ Tryz.underlying167 Tryz.underlying131 hj hs Qp
  go_enter Tryz.func102,Tryz.ntmps102
  go_wp2_with fail;rw [run_callFunc_extern Tryz.func115 (by kernel_rfl) (by kernel_rfl) (by kernel_rfl) (e:=Extern.AbiNoEscape.same) (by kernel_rfl),Lib.run_noEscape];simp only [Result.andThen];rw [Oper.upon_value];go_wp2_with fail
  go_end0
  refine ⟨rfl, ?_,Aa.set (Aa.refl _),by simp [World.setCell]⟩;have hB:Blk w b 133 [.pointer none,v]:=h;exact hB.set 0 (.pointer (some ⟨b,0,none⟩))
 have hn:=Lib.run_neq_ptr_same w ⟨b,0,none⟩ Tryz.underlying131 hj
 go_enter Tryz.func102,Tryz.ntmps102
 go_wp2_with fail
 go_end0
 exact ⟨rfl,h,Aa.refl _,rfl⟩
theorem N0 {P:Program} (w:World) (base:Nat) (t u ty e:TypeId) (i:TypeInfo) (ht:P.underlying t=some (.slice e)) (hu:P.underlying u=some .string) (hi:P.info? e=some i) (hz:i.zero=some (.int .u8 0))
  (hsize:i.size=1) (hby:i.bytes=1) (v:Value) (n:Nat) (xs:List Value) (hown:w.ownsRow base e 1 v n xs) (s:ByteArray) (h63:n+s.size≤maxLen) (hbytes:n+s.size≤140737488355328) (hbase:base≤w.heap.size):
  ∃v' w',(Builtin.append_ #[t,u] ty #[v,.string s]).run P w= .ok v' w'∧w'.ownsRow base e 1 v' (n+s.size) (xs++Lib.strCells s)∧w.grownBy w' v.ownBlock∧(v'.ownBlock=v.ownBlock∨v'.ownBlock=some w.heap.size):=by
 obtain ⟨v',w',hr,h2,h3,h4⟩:=Lib.run_append_own_string (P:=P) w base t u ty e i ht hu hi hz hsize hby v n xs hown s h63 hbytes hbase;refine ⟨v',w',hr,h2,h3, ?_⟩
 rcases hown.2 with ⟨rfl,rfl⟩|⟨g,cap,cur,rfl,hbg,hg,hnc,hcm,hcs,htake⟩
 ·by_cases hm:s.size=0
  ·rw [h4.2 ⟨rfl,hm⟩];exact Or.inl rfl
  have hr':=run_append_nil_string (P:=P) w t u ty e i (.int .u8 0) ht hu hi hz s (by omega) (by unfold maxLen at h63; omega) (by rw [hby]; omega);rw [hr] at hr'
  cases hr'
  exact Or.inr rfl
 have hcs':cur.size=cap:=by simpa using hcs
 have hxl:xs.length=n:=by simpa using hown.1
 by_cases hroom:n+s.size≤cap
 ·have hr':=Lib.run_append_room_string (P:=P) w t u ty e i ht hu hi hsize g n cap cur hg s hroom (by omega);rw [hr] at hr'
  cases hr'
  exact Or.inl rfl
 have hr':=Lib.run_append_grow_string (P:=P) w t u ty e i (.int .u8 0) ht hu hi hz ⟨g,0,none⟩ n cap xs (by rw [hsize]; simpa using hxl) (hown.cells (g:=g) rfl) s (by omega) (by unfold maxLen at h63; omega) (by rw [hby]; exact growslice_fits (by omega) (by omega));rw [hr] at hr'
 cases hr'
 exact Or.inr rfl
theorem Kq {P:Program} (w:World) {ops:Array Oper} {rest:List Oper} {o:Oper} {a:Act} {Q:Exit→Act→World→Prop} (hgd:o.guard=none) (sl x:Operand) (t u:TypeId)
  (ho:o.op= .call { callee:= .builtin .append,args:= #[sl,x],argTypes:= #[t,u] }) (base:Nat) (e:TypeId) (ht:P.underlying t=some (.slice e)) (hu:P.underlying u=some .string)
  (hinfo:(P.info? e).map (fun i=>(i.zero,i.size,i.bytes))=some (some (.int .u8 0),1,1)) (v:Value) (n:Nat) (xs:List Value) (hs:a.eval sl=v) (hown:w.ownsRow base e 1 v n xs) (s:ByteArray) (hx:a.eval x= .string s)
  (h63:n+s.size≤maxLen) (hbytes:n+s.size≤140737488355328) (hbase:base≤w.heap.size)
  (h:∀ao n' cap w',w'.ownsRow base e 1 (.slice ao n' cap) (n+s.size) (xs++Lib.strCells s)→w.grownBy w' v.ownBlock→(Value.ownBlock (.slice ao n' cap)=v.ownBlock∨Value.ownBlock (.slice ao n' cap)=some w.heap.size)→wpList P ops Q rest (a.put o.dst (.slice ao n' cap)) w'):wpList P ops Q (o::rest) a w:=by
 obtain ⟨i,hi,hz,hsize,hby⟩:=info_parts hinfo;refine wpList_plain hgd fun K hK=> ?_;obtain ⟨v',w',hr,h2,h3,h4⟩:=N0 (P:=P) w base t u o.type e i ht hu hi hz hsize hby v n xs hown s h63 hbytes hbase
 obtain ⟨ao,n',cap,rfl⟩:∃ao n' cap,v'= .slice ao n' cap:=by rcases h2.2 with ⟨e,_⟩|⟨g,cap,cur,e,_⟩<;>exact ⟨_,_,_,e⟩
 unfold Oper.wp execOp;simp only [ho,resolve,invoke,builtin,Sem.run_bind,Sem.run_pure,Result.andThen_ok,List.map_toArray,List.map_cons,List.map_nil,hs,hx,hr];exact hK _ _ (h ao n' cap w' h2 h3 h4)
set_option maxRecDepth 100000 in
set_option maxHeartbeats 2000000 in
theorem B0 {B b:Nat} {S:Nat→Prop} {l s:List UInt8} {w:World} (h:Cq B S b l w) (hlen:l.length+s.length≤1000000000) (hB:B≤w.heap.size):
    Calls Tryz.prog 96 #[.pointer (some ⟨b,0,none⟩),.string (bs s)] w fun e w'=>(∃u,e= .returned u)∧Cq B (fun x=>S x∨(w.heap.size≤x∧x<w'.heap.size)) b (l++s) w'∧Aa S w w':=by
  obtain ⟨p,v,h1,h2,h3,h4,h5,h6,h7⟩:=h;have Hl:=hid (Ji s)
  go_enter Tryz.func96,Tryz.ntmps96
  go_wp2_with fail;refine (So h1 h2).mono ?_;rintro e w1 ⟨rfl,hbk,hsp,hz⟩
  have hown:w1.ownsRow B 5 1 v l.length (Lib.byteCells l):=by
    refine ⟨h3.1, ?_⟩
    rcases h3.2 with h|⟨g,cap,cur,e,hg,hbb,hr⟩
    · exact Or.inl h
    · have hgb:g≠b:=fun q=>h4 (by rw [e,q]; rfl)
      exact Or.inr ⟨g,cap,cur,e,hg,(hsp.block g (h7 g (h6 g (by rw [e]; rfl))).2 hgb).trans hbb,hr⟩
  have c0:w1.cell? ⟨b,0,none⟩=some (.pointer (some ⟨b,0,none⟩)):=by rw [Lib.cell_of_heap hbk]; rfl
  have c1:w1.cell? ⟨b,1,none⟩=some v:=by rw [Lib.cell_of_heap hbk]; rfl
  have hlt:b<w1.heap.size:=(Array.getElem?_eq_some_iff.1 hbk).1;have Hz:=hid hz
  have hBz:B≤w1.heap.size:=by omega
  have HS:=hid hsp;have H7:=hid h7;have H2:=hid h2;clear hz hsp h7 h2
  go_wp2_with (at_builtin; refine Kq _ rfl _ _ 22 9 rfl B 5 Tryz.underlying22 Tryz.underlying9 Vp _ _ _ rfl hown (bs s) rfl (by rw [Hl.out]; unfold maxLen; omega) (by rw [Hl.out]; omega) hBz ?_; intro ao n' cap w2 hown' hgrow hat; have hb2:w2.heap[b]? =some (.cells #[.pointer (some ⟨b,0,none⟩),v] 133 (0,0)):=(by rw [hgrow.block b hlt (fun e=>h4 e.symm)]; exact hbk); have d1:w2.cell? ⟨b,1,none⟩=some v:=(by rw [Lib.cell_of_heap hb2]; rfl); have f1:w2.frozen? ⟨b,1,none⟩=false:=Lib.frozen_of_heap hb2 1; clear c0 c1)
  go_ret2;have hgz:=hgrow.size;rw [Sl] at hown';have hne:=Lib.ownBlock_ne hown' hb2 (by decide);have hblk:Blk w2 b 133 [.pointer (some ⟨b,0,none⟩),v]:=hb2
  have hsz2:(w2.setCell ⟨b,1,none⟩ (.slice ao n' cap)).heap.size=w2.heap.size:=by simp [World.setCell]
  have Hz:=Hz.out;have H7:=H7.out;refine ⟨⟨_,rfl⟩,⟨_,_,Or.inr rfl,hblk.set 1 (.slice ao n' cap), ?_,hne,Or.inl h5, ?_, ?_⟩, ?_⟩
  · rw [Vq,List.length_append,show s.length=(bs s).size from (Ji s).symm]
    refine ⟨hown'.1, ?_⟩
    rcases hown'.2 with h|⟨g,cap',cur,e,hg,hbb,hr⟩
    · exact Or.inl h
    · exact Or.inr ⟨g,cap',cur,e,hg,(Below.heap_setCell _ _ _ _ (fun q=>hne (by rw [e]; show some g=some b; rw [q]))).trans hbb,hr⟩
  · intro g hg
    rcases hat with h|h
    · exact Or.inl (h6 g (h ▸ hg))
    · rw [h] at hg
      cases hg
      exact Or.inr (by rw [hsz2]; rcases hown'.2 with ⟨e, _⟩ | ⟨g, cap', cur, e, _, hbb, _⟩
                       · rw [e] at h; cases h
                       · rw [e] at h
                         simp only [Value.ownBlock,Option.some.injEq] at h;have:=(Array.getElem?_eq_some_iff.1 hbb).1
                         omega)
  · intro x hx
    rw [hsz2]
    rcases hx with hx|hx
    · have:=H7 x hx; omega
    · rw [hsz2] at hx; omega
  · have HS:=HS.out
    refine ⟨hgrow.os.trans HS.os,hgrow.tape.trans HS.tape,hgrow.output.trans HS.output,by rw [hsz2]; omega,fun x hx hn=> ?_⟩;have hxb:x≠b:=fun q=>hn (q ▸ h5);have hxv:some x≠v.ownBlock:=fun q=>hn (h6 x q.symm);rw [Below.heap_setCell _ _ _ _ hxb,hgrow.block x (by omega) hxv];exact HS.block x hx hxb
theorem Xk {B b:Nat} {S:Nat→Prop} {l:List UInt8} {w:World} (h:Cq B S b l w) (hB:B≤w.heap.size):
  Calls Tryz.prog 88 #[.pointer (some ⟨b,0,none⟩)] w fun e w'=>e= .returned (.string (bs l))∧Below B w w':=Tryz.Builder_String_any B b l w h.is hB
structure Fu (B b:Nat) (S:Nat→Prop) (w1:World) (l:List UInt8) (w:World):Prop where
 ex:∃T:Nat→Prop,Cq B T b l w∧∀x,T x→S x∨w1.heap.size≤x
 sp:Aa S w1 w
theorem Fu.start {B b:Nat} {S:Nat→Prop} {l:List UInt8} {w1:World} (h:Cq B S b l w1):Fu B b S w1 l w1:=⟨⟨S,h,fun _ hx=>Or.inl hx⟩,Aa.refl _⟩
theorem Fu.next {B b:Nat} {S T:Nat→Prop} {l l':List UInt8} {w1 w w':World} (h:Fu B b S w1 l w) (hT:∀x,T x→S x∨w1.heap.size≤x) (hb:Cq B (fun x=>T x∨(w.heap.size≤x∧x<w'.heap.size)) b l' w') (hs:Aa T w w'):Fu B b S w1 l' w':=by
 have hz:=h.sp.size;refine ⟨⟨_,hb,fun x hx=> ?_⟩,⟨hs.os.trans h.sp.os,hs.tape.trans h.sp.tape,hs.output.trans h.sp.output,Nat.le_trans hz hs.size,fun x hx hn=> ?_⟩⟩
 ·rcases hx with hx|hx
  ·exact hT x hx
  exact Or.inr (by omega)
 rw [hs.block x (by omega) (fun hTx=>by
  rcases hT x hTx with h1|h1
  ·exact hn h1
  omega)]
 exact h.sp.block x hx hn
theorem Fu.done {B b:Nat} {S:Nat→Prop} {l:List UInt8} {w w1 w':World} (h:Fu B b S w1 l w') (hb:Below w.heap.size w w1) (hS:∀x,S x→B≤x∧x<w.heap.size) (hB:B≤w.heap.size):Cq B (fun x=>S x∨(w.heap.size≤x∧x<w'.heap.size)) b l w'∧Aa S w w':=by
 obtain ⟨⟨T,hT,hTS⟩,hsp⟩:=h;have h1:=hT.set.2;have hz:=hb.size;have hz':=hsp.size;refine ⟨hT.more (fun x hx=> ?_) (fun x hx=> ?_),(Aa.of_below hb).trans hsp⟩
 ·have:=h1 x hx
  rcases hTS x hx with h|h
  ·exact Or.inl h
  exact Or.inr (by omega)
 rcases hx with hx|hx
 ·have:=hS x hx; omega
 omega
theorem own:ownKnob Tryz.prog.godebug=none:=by kernel_rfl
theorem laid:laidOutB Tryz.prog=true:=by kernel_rfl
section
variable {H:Type} {enc:TypeId × Value→H} {W:World} {base:Nat} {sp:Nat→Bool} {hd:Bool} {v:Value} {d:DataW H} {ps:List MemPlace}
end
def inB (n lo hi:Int):Bool:=decide (lo≤n)&&decide (n≤hi)
def Cj (t a:Int):Bool:=inB t 0 3&&inB a 0 4
theorem H6 (n lo hi:Int) (w:World):Calls Tryz.prog 49 #[.int .i64 n,.int .i64 lo,.int .i64 hi] w fun e w'=>e= .returned (.bool (inB n lo hi))∧w=w':=by
 by_cases h1:lo≤n
 ·by_cases h2:n≤hi
  ·have e1:inB n lo hi=true:=by simp [inB,h1,h2]
   rw [e1]
   go_enter Tryz.func49,Tryz.ntmps49
   go_wp2
   go_ret;exact ⟨rfl,rfl⟩
  have e1:inB n lo hi=false:=by simp [inB,h2]
  rw [e1]
  go_enter Tryz.func49,Tryz.ntmps49
  go_wp2
  go_ret;exact ⟨rfl,rfl⟩
 have e1:inB n lo hi=false:=by simp [inB,h1]
 rw [e1]
 go_enter Tryz.func49,Tryz.ntmps49
 go_wp2
 go_ret;exact ⟨rfl,rfl⟩
theorem Ko (n lo hi:Int) (w:World):Calls Tryz.prog 52 #[.int .i64 n,.int .i64 lo,.int .i64 hi] w fun e w'=>e= .returned (.bool (inB n lo hi))∧w=w':=by
 by_cases h1:lo≤n
 ·by_cases h2:n≤hi
  ·have e1:inB n lo hi=true:=by simp [inB,h1,h2]
   rw [e1]
   go_enter Tryz.func52,Tryz.ntmps52
   go_wp2
   go_ret;exact ⟨rfl,rfl⟩
  have e1:inB n lo hi=false:=by simp [inB,h2]
  rw [e1]
  go_enter Tryz.func52,Tryz.ntmps52
  go_wp2
  go_ret;exact ⟨rfl,rfl⟩
 have e1:inB n lo hi=false:=by simp [inB,h1]
 rw [e1]
 go_enter Tryz.func52,Tryz.ntmps52
 go_wp2
 go_ret;exact ⟨rfl,rfl⟩
theorem Uo (t a:Int) (w:World):Calls Tryz.prog 35 #[.agg #[.int .i64 t,.int .i64 a]] w fun e w'=>e= .returned (.bool (Cj t a))∧Below w.heap.size w w':=by
 go_enter Tryz.func35,Tryz.ntmps35
 go_wp2_with ((go_at_call 52; ((with_reducible refine (Ko _ _ _ _).mono ?_); rintro e w' ⟨rfl,rfl⟩)))
 all_goals go_ret
 all_goals exact ⟨by simp [Cj, *],bel⟩
theorem Fz (t a:Int) (w:World):Calls Tryz.prog 32 #[.agg #[.int .i64 t,.int .i64 a]] w fun e w'=>e= .returned (.bool (Cj t a))∧Below w.heap.size w w':=by
 go_enter Tryz.func32,Tryz.ntmps32
 go_wp2_with ((go_at_call 49; ((with_reducible refine (H6 _ _ _ _).mono ?_); rintro e w' ⟨rfl,rfl⟩)))
 all_goals go_ret
 all_goals exact ⟨by simp [Cj, *],bel⟩
def Bl (k:Int):Bool:=decide (k=1∨k=2∨k=3∨k=5∨k=6∨k=7)
mutual
def Ex.cond:Ex→Bool
 | .mk k _ ks=>Bl k&&Ex.condL ks
def Ex.condL:List Ex→Bool
 |[]=>true
 |e::r=>e.cond&&Ex.condL r
end
theorem Ex.cond_eq (e:Ex):e.cond=(Bl e.kind&&Ex.condL e.kids):=by cases e; simp only [Ex.cond,Ex.kind,Ex.kids]
theorem Ex.condL_append:∀a b:List Ex,Ex.condL (a++b)=(Ex.condL a&&Ex.condL b)
 |[],b=>by simp [Ex.condL]
 |e::r,b=>by simp only [List.cons_append,Ex.condL,Ex.condL_append r b,Bool.and_assoc]
theorem Ex.condL_take_succ {ks:List Ex} {i:Nat} {e:Ex} (h:ks[i]? =some e):Ex.condL (ks.take (i+1))=(Ex.condL (ks.take i)&&e.cond):=by
 obtain ⟨hi,rfl⟩:=List.getElem?_eq_some_iff.1 h;rw [List.take_succ_eq_append_getElem hi,Ex.condL_append]
 simp [Ex.condL]
theorem Ex.condL_false {ks:List Ex} {i:Nat} {e:Ex} (h:ks[i]? =some e) (hc:e.cond=false):Ex.condL ks=false:=by
 have:=Ex.condL_append (ks.take (i+1)) (ks.drop (i+1));rw [List.take_append_drop,Ex.condL_take_succ h,hc] at this
 simpa using this
theorem Fx (N:Nat):∀(e:Ex) (b o:Nat) (w:World),e.size≤N→Ap w b o e→
  Calls Tryz.prog 55 #[.pointer (some ⟨b,o,none⟩)] w fun f w'=>f= .returned (.bool e.cond)∧w=w':=by
 induction N using Nat.strongRecOn with
 |_ N ih=>
 intro e b o w hN hr;obtain ⟨g0,g1,s,c,g2,g3⟩:=hr;obtain ⟨-, hlen,hcap, -, -⟩:=A0 g3;unfold maxLen at hcap;have hse:=Ex.size_eq e
 have hks:Ex.sizeL e.kids<N:=by omega
 clear hse
 by_cases hk:Bl e.kind=true
 ·have hc:e.cond=Ex.condL e.kids:=by rw [Ex.cond_eq,hk,Bool.true_and]
  have Hc:=hid hc
  have b1:inB e.kind 1 7=true:=by simp [Bl] at hk; simp [inB]; omega
  have b2:(e.kind==4)=false:=by simp [Bl] at hk; simp; omega
  clear hc hk
  go_enter Tryz.func55,Tryz.ntmps55
  go_wp2_with ((go_at_call 52; ((with_reducible refine (Ko _ _ _ _).mono ?_); rintro e w' ⟨rfl,rfl⟩)))
  go_loop [3] (fun i=>∃k:Nat,k≤e.kids.length∧i= .int .i64 k∧Ex.condL (e.kids.take k)=true) (fun i=>e.kids.length - (intOf i).toNat)
  case atStart=>exact ⟨0,by omega,rfl,by simp [Ex.condL]⟩
  case round=>
   obtain ⟨k,hk,rfl,hpre⟩:=hrel;have Hpre:=hid hpre;clear hpre
   by_cases hlt:k<e.kids.length
   ·obtain ⟨f,hf⟩:∃f,e.kids[k]? =some f:=⟨_,List.getElem?_eq_getElem hlt⟩;obtain ⟨b',o',rfl⟩:=An g3 (by intro h; simp [h] at hlt);have hat:=Ay g3 hf;have hmem:=Ex.sizeL_mem (List.mem_of_getElem? hf);have Htk:=hid (Ex.condL_take_succ hf);have Hfl:=hid (@Ex.condL_false _ _ _ hf);go_wp2_with fail;refine (ih _ (by omega) f _ _ _ (Nat.le_refl _) hat).mono ?_;rintro x w' ⟨rfl,rfl⟩
    cases hfc:f.cond
    ·go_wp2_with fail;go_ret;exact ⟨Av (by rw [Hc.out,Hfl.out hfc]),rfl⟩
    go_wp2_with fail
    go_round
    case rel=>exact ⟨k+1,by omega,by go_num,by rw [Htk.out,Hpre.out,hfc]; rfl⟩
    case measure=>simp [intOf]; omega
   obtain rfl:k=e.kids.length:=by omega
   go_wp2_with fail;go_ret;exact ⟨Av (by have:=Hpre.out; rw [List.take_length] at this; rw [Hc.out,this]),rfl⟩
 have hc:e.cond=false:=by rw [Ex.cond_eq]; simp [hk]
 rw [hc]
 by_cases hin:inB e.kind 1 7=true
 ·have b2:(e.kind==4)=true:=by simp [Bl] at hk; simp [inB] at hin; simp; omega
  clear hk hc
  go_enter Tryz.func55,Tryz.ntmps55
  go_wp2_with ((go_at_call 52; ((with_reducible refine (Ko _ _ _ _).mono ?_); rintro e w' ⟨rfl,rfl⟩)))
  go_ret;exact ⟨rfl,rfl⟩
 have hin':inB e.kind 1 7=false:=by simpa using hin
 clear hk hc hin
 go_enter Tryz.func55,Tryz.ntmps55
 go_wp2_with ((go_at_call 52; ((with_reducible refine (Ko _ _ _ _).mono ?_); rintro e w' ⟨rfl,rfl⟩)))
 go_ret;exact ⟨rfl,rfl⟩
def CondS (N:Nat):Prop:=∀(k n:Int) (ks:List Ex) (s:Option Addr) (cap:Nat) (w:World),Ex.sizeL ks≤N→Rd w (Ae ks) (.slice s ks.length cap)→
  Calls Tryz.prog 51 #[.agg #[.int .i64 k,.int .i64 n,.slice s ks.length cap]] w fun f w'=>f= .returned (.bool (Ex.cond (.mk k n ks)))∧Below w.heap.size w w'
set_option maxHeartbeats 2000000 in
theorem Kc (N:Nat):CondS N:=by
 induction N using Nat.strongRecOn with
 |_ N ih=>
 intro k0 n0 ks s cap w hN hr;obtain ⟨-, hlen,hcap, -, -⟩:=A0 hr;unfold maxLen at hcap
 by_cases hk:Bl k0=true
 ·have Hc:Hid (Ex.cond (.mk k0 n0 ks)=Ex.condL ks):=by show _=_; rw [Ex.cond_eq]; simp [Ex.kind,Ex.kids,hk]
  have hk':k0=1∨k0=2∨k0=3∨k0=5∨k0=6∨k0=7:=by simpa [Bl] using hk
  clear hk
  rcases hk' with hk'|hk'|hk'|hk'|hk'|hk'
  all_goals
   subst hk'
   go_enter Tryz.func51,Tryz.ntmps51
   go_wp2_with fail
   go_loopw [17] (fun i wr=>∃k:Nat,k≤ks.length∧i= .int .i64 k∧Ex.condL (ks.take k)=true∧Below w.heap.size w wr) (fun i _=>ks.length - (intOf i).toNat)
   case atStart=>exact ⟨0,by omega,rfl,by simp [Ex.condL],bel⟩
   case round=>
    obtain ⟨k,hk,rfl,hpre,hB⟩:=hrel;have hzB:=hB.size;have Hpre:=hid hpre;clear hpre
    by_cases hlt:k<ks.length
    ·obtain ⟨f,hf⟩:∃f,ks[k]? =some f:=⟨_,List.getElem?_eq_getElem hlt⟩;obtain ⟨b',o',rfl⟩:=An hr (by intro h; simp [h] at hlt);obtain ⟨-, s',c',g0,g1,g2,gr⟩:=A3 (hr.below hB) hf
     have hN':Ex.sizeL f.kids<N:=by
      have:=Ex.sizeL_mem (List.mem_of_getElem? hf);have:=Ex.size_eq f;omega
     have Htk:=hid (Ex.condL_take_succ hf);have Hfl:=hid (@Ex.condL_false _ _ _ hf);have Het:Hid (Ex.mk f.kind f.num f.kids=f):=(Ex.eta f).symm;go_wp2_with fail;refine (ih _ hN' _ _ _ _ _ _ (Nat.le_refl _) (gr.alloc _)).mono ?_;rintro x w1 ⟨rfl,hb⟩;have hB1:Below w.heap.size w w1:=Below.on (bel) hb (by simp; omega);clear hb;rw [Het.out]
     cases hfc:f.cond
     ·go_wp2_with fail;go_ret;exact ⟨Av (by rw [Hc.out,Hfl.out hfc]),hB1⟩
     go_wp2_with fail
     go_roundw
     case rel=>exact ⟨k+1,by omega,by go_num,by rw [Htk.out,Hpre.out,hfc]; rfl,hB1⟩
     case measure=>simp [intOf]; omega
    obtain rfl:k=ks.length:=by omega
    go_wp2_with fail;go_ret;exact ⟨Av (by have:=Hpre.out; rw [List.take_length] at this; rw [Hc.out,this]),hB⟩
 have hc:Ex.cond (.mk k0 n0 ks)=false:=by rw [Ex.cond_eq]; simp [Ex.kind,hk]
 have hk':¬(k0=1∨k0=2∨k0=3∨k0=5∨k0=6∨k0=7):=by simpa [Bl] using hk
 have t1:(k0==1)=false:=by simp; omega
 have t2:(k0==2)=false:=by simp; omega
 have t3:(k0==3)=false:=by simp; omega
 have t5:(k0==5)=false:=by simp; omega
 have t6:(k0==6)=false:=by simp; omega
 have t7:(k0==7)=false:=by simp; omega
 rw [hc];clear hk hk' hc
 go_enter Tryz.func51,Tryz.ntmps51
 go_wp2_with fail;go_ret;exact ⟨rfl,bel⟩
theorem Hy {k n:Int} {ks:List Ex} {s:Option Addr} {cap:Nat} {w:World} (hr:Rd w (Ae ks) (.slice s ks.length cap)):
  Calls Tryz.prog 51 #[.agg #[.int .i64 k,.int .i64 n,.slice s ks.length cap]] w fun f w'=>f= .returned (.bool (Ex.cond (.mk k n ks)))∧Below w.heap.size w w':=
 Kc _ k n ks s cap w (Nat.le_refl _) hr
theorem Df:(Tryz.prog.info? 2).map (fun i=>(i.zero,i.size,i.bytes))=some (some (.int .i64 0),1,8):=by kernel_rfl
end Go.Proofs.YtlchgfbkdjjngaaGreatDoor
