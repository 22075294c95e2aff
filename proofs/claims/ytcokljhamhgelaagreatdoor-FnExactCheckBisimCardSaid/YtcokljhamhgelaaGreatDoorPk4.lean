/-
  Parts of a proof, joined: Bld, Expr, Own, Sig, Cond, Trace, Shape. No condition.
-/
import Derived.Lib.AppendStr
import Derived.Test.YtcokljhamhgelaaGreatDoorPk3
namespace Go.Proofs.YtcokljhamhgelaaGreatDoor
set_option linter.unusedVariables false
set_option linter.unusedSimpArgs false
open Go.ChangeShapes Go.WideShapes Go.ChangeAt Go.RowKit
def BldAt (B : Nat) (S : Nat → Prop) (b : Nat) (l : List UInt8) (w : World) : Prop :=
 ∃ p v, (p = .pointer none ∨ p = .pointer (some ⟨b, 0, none⟩)) ∧ w.heap[b]? = some (.cells #[p, v] 125 (0, 0)) ∧ w.ownsRow B 5 1 v l.length (Lib.byteCells l) ∧ v.ownBlock ≠ some b ∧ S b ∧ (∀ g, v.ownBlock = some g → S g) ∧ ∀ x, S x → B ≤ x ∧ x < w.heap.size
theorem bytes_cells (l : List UInt8) : Lib.strCells (bs l) = Lib.byteCells l := by simp [Lib.strCells, Lib.byteCells, bs]
theorem cells_app (a b : List UInt8) : Lib.byteCells (a ++ b) = Lib.byteCells a ++ Lib.byteCells b := by simp [Lib.byteCells]
theorem byteCells_len (l : List UInt8) : (Lib.byteCells l).length = l.length := by simp [Lib.byteCells]
theorem BldAt.made {w : World} {B : Nat} (hB : B ≤ w.heap.size) : BldAt B (fun x => x = w.heap.size) w.heap.size [] (w.alloc (.cells #[.pointer none, .slice none 0 0] 125)) := by
 refine ⟨_, _, Or.inl rfl, (MapKept.heap_alloc w _).1, World.ownsRow_nil _ _ _ _, by simp [Value.ownBlock], rfl, by simp [Value.ownBlock], ?_⟩
 rintro x rfl
 exact ⟨hB, by simp⟩
theorem BldAt.keep {B b : Nat} {S : Nat → Prop} {l : List UInt8} {w w' : World} (h : BldAt B S b l w) (hz : w.heap.size ≤ w'.heap.size) (hk : ∀ x, x < w.heap.size → S x → w'.heap[x]? = w.heap[x]?) : BldAt B S b l w' := by
 obtain ⟨p, v, h1, h2, h3, h4, h5, h6, h7⟩ := h
 refine ⟨p, v, h1, (hk b (h7 b h5).2 h5).trans h2, ⟨h3.1, ?_⟩, h4, h5, h6, fun x hx => ⟨(h7 x hx).1, Nat.lt_of_lt_of_le (h7 x hx).2 hz⟩⟩
 rcases h3.2 with h | ⟨g, cap, cur, e, hg, hbb, hr⟩
 ·
  exact Or.inl h
 ·
  have hs := h6 g (by rw [e]; rfl)
  exact Or.inr ⟨g, cap, cur, e, hg, (hk g (h7 g hs).2 hs).trans hbb, hr⟩
theorem BldAt.below {B b : Nat} {S : Nat → Prop} {l : List UInt8} {w w' : World} (h : BldAt B S b l w) (hb : Below w.heap.size w w') : BldAt B S b l w' := h.keep hb.size fun x hx _ => hb.block x hx
theorem BldAt.more {B b : Nat} {S T : Nat → Prop} {l : List UInt8} {w : World} (h : BldAt B S b l w) (hs : ∀ x, S x → T x) (ht : ∀ x, T x → B ≤ x ∧ x < w.heap.size) : BldAt B T b l w := by
 obtain ⟨p, v, h1, h2, h3, h4, h5, h6, h7⟩ := h
 exact ⟨p, v, h1, h2, h3, h4, hs _ h5, fun g hg => hs _ (h6 g hg), ht⟩
theorem BldAt.is {B b : Nat} {S : Nat → Prop} {l : List UInt8} {w : World} (h : BldAt B S b l w) : Lib.IsBuilder 125 5 B b (Lib.byteCells l) w := by
 obtain ⟨p, v, h1, h2, h3, h4, h5, h6, h7⟩ := h
 have hx : (Lib.byteCells l).length = l.length := byteCells_len l
 rcases h1 with rfl | rfl
 ·
  exact Or.inl ⟨(h7 b h5).1, v, h2, by rw [hx]; exact h3, h4⟩
 ·
  exact Or.inr ⟨(h7 b h5).1, v, h2, by rw [hx]; exact h3, h4⟩
theorem BldAt.set {B b : Nat} {S : Nat → Prop} {l : List UInt8} {w : World} (h : BldAt B S b l w) : S b ∧ (∀ x, S x → B ≤ x ∧ x < w.heap.size) := by
 obtain ⟨p, v, h1, h2, h3, h4, h5, h6, h7⟩ := h
 exact ⟨h5, h7⟩
theorem builder_info : (Tryz.prog.info? 125).map (·.size) = some 2 := by kernel_rfl
theorem builder_lies : liesAt Tryz.prog Tryz.prog.depth 125 (2 / Tryz.prog.cellsOf 125) 0 125 1 = true := by kernel_rfl
theorem byte_info : (Tryz.prog.info? 5).map (fun i => (i.zero, i.size, i.bytes)) = some (some (.int .u8 0), 1, 1) := by kernel_rfl
set_option maxRecDepth 100000 in
set_option maxHeartbeats 2000000 in
theorem copyCheck_i {b : Nat} {p v : Value} {w : World} (hp : p = .pointer none ∨ p = .pointer (some ⟨b, 0, none⟩)) (h : w.heap[b]? = some (.cells #[p, v] 125 (0, 0))) :
  Calls Tryz.prog 110 #[.pointer (some ⟨b, 0, none⟩)] w fun e w' => e = .returned (.tuple #[]) ∧ w'.heap[b]? = some (.cells #[.pointer (some ⟨b, 0, none⟩), v] 125 (0, 0)) ∧ Spares (fun x => x = b) w w' ∧ w'.heap.size = w.heap.size := by
 obtain ⟨j, hj, hjs⟩ := Option.map_eq_some_iff.1 builder_info
 have h0 : w.cell? ⟨b, 0, none⟩ = some p := by rw [Lib.cell_of_heap h]; rfl
 have hz : w.frozen? ⟨b, 0, none⟩ = false := Lib.frozen_of_heap h 0
 have hs : w.shape? b = some (125, 2) := by simp [World.shape?, h]
 rcases hp with rfl | rfl
 ·
  have hu := Lib.run_to_unsafe w ⟨b, 0, none⟩ Tryz.underlying122 Tryz.underlying164 hj (by rw [hjs]; decide) hs (Nat.zero_lt_succ 1)
  have hf := Lib.run_from_unsafe w ⟨b, 0, none⟩ Tryz.underlying164 Tryz.underlying122 hj hs builder_lies
  go_enter Tryz.func110, Tryz.ntmps110
  go_wp2_with fail
  rw [run_callFunc_extern Tryz.func123 (by kernel_rfl) (by kernel_rfl) (by kernel_rfl) (e := Extern.AbiNoEscape.same) (by kernel_rfl), Lib.run_noEscape]
  simp only [Result.andThen]
  rw [Oper.upon_value]
  go_wp2_with fail
  go_end0
  refine ⟨rfl, ?_, Spares.set (Spares.refl _), by simp [World.setCell]⟩
  have hB : Blk w b 125 [.pointer none, v] := h
  exact hB.set 0 (.pointer (some ⟨b, 0, none⟩))
 ·
  have hn := Lib.run_neq_ptr_same w ⟨b, 0, none⟩ Tryz.underlying122 hj
  go_enter Tryz.func110, Tryz.ntmps110
  go_wp2_with fail
  go_end0
  exact ⟨rfl, h, Spares.refl _, rfl⟩
theorem append_text_at {P : Program} (w : World) (base : Nat) (t u ty e : TypeId) (i : TypeInfo) (ht : P.underlying t = some (.slice e)) (hu : P.underlying u = some .string) (hi : P.info? e = some i) (hz : i.zero = some (.int .u8 0))
  (hsize : i.size = 1) (hby : i.bytes = 1) (v : Value) (n : Nat) (xs : List Value) (hown : w.ownsRow base e 1 v n xs) (s : ByteArray) (h63 : n + s.size ≤ maxLen) (hbytes : n + s.size ≤ 140737488355328) (hbase : base ≤ w.heap.size) :
  ∃ v' w', (Builtin.append_ #[t, u] ty #[v, .string s]).run P w = .ok v' w' ∧ w'.ownsRow base e 1 v' (n + s.size) (xs ++ Lib.strCells s) ∧ w.grownBy w' v.ownBlock ∧ (v'.ownBlock = v.ownBlock ∨ v'.ownBlock = some w.heap.size) := by
 obtain ⟨v', w', hr, h2, h3, h4⟩ := Lib.run_append_own_string (P := P) w base t u ty e i ht hu hi hz hsize hby v n xs hown s h63 hbytes hbase
 refine ⟨v', w', hr, h2, h3, ?_⟩
 rcases hown.2 with ⟨rfl, rfl⟩ | ⟨g, cap, cur, rfl, hbg, hg, hnc, hcm, hcs, htake⟩
 ·
  by_cases hm : s.size = 0
  ·
   rw [h4.2 ⟨rfl, hm⟩]
   exact Or.inl rfl
  ·
   have hr' := run_append_nil_string (P := P) w t u ty e i (.int .u8 0) ht hu hi hz s (by omega) (by unfold maxLen at h63; omega) (by rw [hby]; omega)
   rw [hr] at hr'
   cases hr'
   exact Or.inr rfl
 ·
  have hcs' : cur.size = cap := by simpa using hcs
  have hxl : xs.length = n := by simpa using hown.1
  by_cases hroom : n + s.size ≤ cap
  ·
   have hr' := Lib.run_append_room_string (P := P) w t u ty e i ht hu hi hsize g n cap cur hg s hroom (by omega)
   rw [hr] at hr'
   cases hr'
   exact Or.inl rfl
  ·
   have hr' := Lib.run_append_grow_string (P := P) w t u ty e i (.int .u8 0) ht hu hi hz ⟨g, 0, none⟩ n cap xs (by rw [hsize]; simpa using hxl) (hown.cells (g := g) rfl) s (by omega) (by unfold maxLen at h63; omega) (by rw [hby]; exact growslice_fits (by omega) (by omega))
   rw [hr] at hr'
   cases hr'
   exact Or.inr rfl
theorem wpList_append_text {P : Program} (w : World) {ops : Array Oper} {rest : List Oper} {o : Oper} {a : Act} {Q : Exit → Act → World → Prop} (hgd : o.guard = none) (sl x : Operand) (t u : TypeId)
  (ho : o.op = .call { callee := .builtin .append, args := #[sl, x], argTypes := #[t, u] }) (base : Nat) (e : TypeId) (ht : P.underlying t = some (.slice e)) (hu : P.underlying u = some .string)
  (hinfo : (P.info? e).map (fun i => (i.zero, i.size, i.bytes)) = some (some (.int .u8 0), 1, 1)) (v : Value) (n : Nat) (xs : List Value) (hs : a.eval sl = v) (hown : w.ownsRow base e 1 v n xs) (s : ByteArray) (hx : a.eval x = .string s)
  (h63 : n + s.size ≤ maxLen) (hbytes : n + s.size ≤ 140737488355328) (hbase : base ≤ w.heap.size)
  (h : ∀ ao n' cap w', w'.ownsRow base e 1 (.slice ao n' cap) (n + s.size) (xs ++ Lib.strCells s) → w.grownBy w' v.ownBlock → (Value.ownBlock (.slice ao n' cap) = v.ownBlock ∨ Value.ownBlock (.slice ao n' cap) = some w.heap.size) → wpList P ops Q rest (a.put o.dst (.slice ao n' cap)) w') : wpList P ops Q (o :: rest) a w := by
 obtain ⟨i, hi, hz, hsize, hby⟩ := info_parts hinfo
 refine wpList_plain hgd fun K hK => ?_
 obtain ⟨v', w', hr, h2, h3, h4⟩ := append_text_at (P := P) w base t u o.type e i ht hu hi hz hsize hby v n xs hown s h63 hbytes hbase
 obtain ⟨ao, n', cap, rfl⟩ : ∃ ao n' cap, v' = .slice ao n' cap := by rcases h2.2 with ⟨e, _⟩ | ⟨g, cap, cur, e, _⟩ <;> exact ⟨_, _, _, e⟩
 unfold Oper.wp execOp
 simp only [ho, resolve, invoke, builtin, Sem.run_bind, Sem.run_pure, Result.andThen_ok, List.map_toArray, List.map_cons, List.map_nil, hs, hx, hr]
 exact hK _ _ (h ao n' cap w' h2 h3 h4)
set_option maxRecDepth 100000 in
set_option maxHeartbeats 2000000 in
theorem WriteString_i {B b : Nat} {S : Nat → Prop} {l s : List UInt8} {w : World} (h : BldAt B S b l w) (hlen : l.length + s.length ≤ 1000000000) (hB : B ≤ w.heap.size) :
    Calls Tryz.prog 103 #[.pointer (some ⟨b, 0, none⟩), .string (bs s)] w fun e w' => (∃ u, e = .returned u) ∧ BldAt B (fun x => S x ∨ (w.heap.size ≤ x ∧ x < w'.heap.size)) b (l ++ s) w' ∧ Spares S w w' := by
  obtain ⟨p, v, h1, h2, h3, h4, h5, h6, h7⟩ := h
  have Hl := Lib.hid (bs_size s)
  go_enter Tryz.func103, Tryz.ntmps103
  go_wp2_with fail
  refine (copyCheck_i h1 h2).mono ?_
  rintro e w1 ⟨rfl, hbk, hsp, hz⟩
  have hown : w1.ownsRow B 5 1 v l.length (Lib.byteCells l) := by
    refine ⟨h3.1, ?_⟩
    rcases h3.2 with h | ⟨g, cap, cur, e, hg, hbb, hr⟩
    · exact Or.inl h
    · have hgb : g ≠ b := fun q => h4 (by rw [e, q]; rfl)
      exact Or.inr ⟨g, cap, cur, e, hg, (hsp.block g (h7 g (h6 g (by rw [e]; rfl))).2 hgb).trans hbb, hr⟩
  have c0 : w1.cell? ⟨b, 0, none⟩ = some (.pointer (some ⟨b, 0, none⟩)) := by rw [Lib.cell_of_heap hbk]; rfl
  have c1 : w1.cell? ⟨b, 1, none⟩ = some v := by rw [Lib.cell_of_heap hbk]; rfl
  have hlt : b < w1.heap.size := (Array.getElem?_eq_some_iff.1 hbk).1
  have Hz := Lib.hid hz
  have hBz : B ≤ w1.heap.size := by omega
  have HS := Lib.hid hsp
  have H7 := Lib.hid h7
  have H2 := Lib.hid h2
  clear hz hsp h7 h2
  go_wp2_with (at_builtin; refine wpList_append_text _ rfl _ _ 123 9 rfl B 5 Tryz.underlying123 Tryz.underlying9 byte_info _ _ _ rfl hown (bs s) rfl (by rw [Hl.out]; unfold maxLen; omega) (by rw [Hl.out]; omega) hBz ?_; intro ao n' cap w2 hown' hgrow hat; have hb2 : w2.heap[b]? = some (.cells #[.pointer (some ⟨b, 0, none⟩), v] 125 (0, 0)) := (by rw [hgrow.block b hlt (fun e => h4 e.symm)]; exact hbk); have d1 : w2.cell? ⟨b, 1, none⟩ = some v := (by rw [Lib.cell_of_heap hb2]; rfl); have f1 : w2.frozen? ⟨b, 1, none⟩ = false := Lib.frozen_of_heap hb2 1; clear c0 c1)
  go_ret2
  have hgz := hgrow.size
  rw [bytes_cells] at hown'
  have hne := Lib.ownBlock_ne hown' hb2 (by decide)
  have hblk : Blk w2 b 125 [.pointer (some ⟨b, 0, none⟩), v] := hb2
  have hsz2 : (w2.setCell ⟨b, 1, none⟩ (.slice ao n' cap)).heap.size = w2.heap.size := by simp [World.setCell]
  have Hz := Hz.out
  have H7 := H7.out
  refine ⟨⟨_, rfl⟩, ⟨_, _, Or.inr rfl, hblk.set 1 (.slice ao n' cap), ?_, hne, Or.inl h5, ?_, ?_⟩, ?_⟩
  · rw [cells_app, List.length_append, show s.length = (bs s).size from (bs_size s).symm]
    refine ⟨hown'.1, ?_⟩
    rcases hown'.2 with h | ⟨g, cap', cur, e, hg, hbb, hr⟩
    · exact Or.inl h
    · exact Or.inr ⟨g, cap', cur, e, hg, (Below.heap_setCell _ _ _ _ (fun q => hne (by rw [e]; show some g = some b; rw [q]))).trans hbb, hr⟩
  · intro g hg
    rcases hat with h | h
    · exact Or.inl (h6 g (h ▸ hg))
    · rw [h] at hg
      cases hg
      exact Or.inr (by rw [hsz2]; rcases hown'.2 with ⟨e, _⟩ | ⟨g, cap', cur, e, _, hbb, _⟩
                       · rw [e] at h; cases h
                       · rw [e] at h
                         simp only [Value.ownBlock, Option.some.injEq] at h
                         have := (Array.getElem?_eq_some_iff.1 hbb).1
                         omega)
  · intro x hx
    rw [hsz2]
    rcases hx with hx | hx
    · have := H7 x hx; omega
    · rw [hsz2] at hx; omega
  · have HS := HS.out
    refine ⟨hgrow.os.trans HS.os, hgrow.tape.trans HS.tape, hgrow.output.trans HS.output, by rw [hsz2]; omega, fun x hx hn => ?_⟩
    have hxb : x ≠ b := fun q => hn (q ▸ h5)
    have hxv : some x ≠ v.ownBlock := fun q => hn (h6 x q.symm)
    rw [Below.heap_setCell _ _ _ _ hxb, hgrow.block x (by omega) hxv]
    exact HS.block x hx hxb
theorem String_i {B b : Nat} {S : Nat → Prop} {l : List UInt8} {w : World} (h : BldAt B S b l w) (hB : B ≤ w.heap.size) :
  Calls Tryz.prog 93 #[.pointer (some ⟨b, 0, none⟩)] w fun e w' => e = .returned (.string (bs l)) ∧ Below B w w' := Tryz.Builder_String_any B b l w h.is hB
structure BldS (B b : Nat) (S : Nat → Prop) (w1 : World) (l : List UInt8) (w : World) : Prop where
 ex : ∃ T : Nat → Prop, BldAt B T b l w ∧ ∀ x, T x → S x ∨ w1.heap.size ≤ x
 sp : Spares S w1 w
theorem BldS.start {B b : Nat} {S : Nat → Prop} {l : List UInt8} {w1 : World} (h : BldAt B S b l w1) : BldS B b S w1 l w1 := ⟨⟨S, h, fun _ hx => Or.inl hx⟩, Spares.refl _⟩
theorem BldS.next {B b : Nat} {S T : Nat → Prop} {l l' : List UInt8} {w1 w w' : World} (h : BldS B b S w1 l w) (hT : ∀ x, T x → S x ∨ w1.heap.size ≤ x) (hb : BldAt B (fun x => T x ∨ (w.heap.size ≤ x ∧ x < w'.heap.size)) b l' w') (hs : Spares T w w') : BldS B b S w1 l' w' := by
 have hz := h.sp.size
 refine ⟨⟨_, hb, fun x hx => ?_⟩, ⟨hs.os.trans h.sp.os, hs.tape.trans h.sp.tape, hs.output.trans h.sp.output, Nat.le_trans hz hs.size, fun x hx hn => ?_⟩⟩
 ·
  rcases hx with hx | hx
  ·
   exact hT x hx
  ·
   exact Or.inr (by omega)
 ·
  rw [hs.block x (by omega) (fun hTx => by
   rcases hT x hTx with h1 | h1
   ·
    exact hn h1
   ·
    omega)]
  exact h.sp.block x hx hn
theorem BldS.done {B b : Nat} {S : Nat → Prop} {l : List UInt8} {w w1 w' : World} (h : BldS B b S w1 l w') (hb : Below w.heap.size w w1) (hS : ∀ x, S x → B ≤ x ∧ x < w.heap.size) (hB : B ≤ w.heap.size) : BldAt B (fun x => S x ∨ (w.heap.size ≤ x ∧ x < w'.heap.size)) b l w' ∧ Spares S w w' := by
 obtain ⟨⟨T, hT, hTS⟩, hsp⟩ := h
 have h1 := hT.set.2
 have hz := hb.size
 have hz' := hsp.size
 refine ⟨hT.more (fun x hx => ?_) (fun x hx => ?_), (Spares.of_below hb).trans hsp⟩
 ·
  have := h1 x hx
  rcases hTS x hx with h | h
  ·
   exact Or.inl h
  ·
   exact Or.inr (by omega)
 ·
  rcases hx with hx | hx
  ·
   have := hS x hx; omega
  ·
   omega
end Go.Proofs.YtcokljhamhgelaaGreatDoor

namespace Go.Proofs.YtcokljhamhgelaaGreatDoor
set_option linter.unusedVariables false
set_option linter.unusedSimpArgs false
open Go.ChangeShapes Go.WideShapes Go.ChangeAt Go.RowKit Go.Deep
inductive Ex where
 | mk (kind num : Int) (kids : List Ex)
def Ex.kind : Ex → Int | .mk k _ _ => k
def Ex.num : Ex → Int | .mk _ n _ => n
def Ex.kids : Ex → List Ex | .mk _ _ ks => ks
theorem Ex.eta : ∀ e : Ex, e = .mk e.kind e.num e.kids | .mk _ _ _ => rfl
mutual
def Ex.cells : Ex → List D
 | .mk k n ks => [.int k, .int n, .sl 3 ks.length (Ex.cellsL ks)]
def Ex.cellsL : List Ex → List D
 | [] => []
 | e :: r => e.cells ++ Ex.cellsL r
end
def kidsD (ks : List Ex) : D := .sl 3 ks.length (Ex.cellsL ks)
mutual
def Ex.size : Ex → Nat
 | .mk _ _ ks => 1 + Ex.sizeL ks
def Ex.sizeL : List Ex → Nat
 | [] => 0
 | e :: r => e.size + Ex.sizeL r
end
theorem Ex.cells_eq (e : Ex) : e.cells = [.int e.kind, .int e.num, kidsD e.kids] := by cases e; simp only [Ex.cells, kidsD, Ex.kind, Ex.num, Ex.kids]
theorem Ex.size_eq (e : Ex) : e.size = 1 + Ex.sizeL e.kids := by cases e; simp only [Ex.size, Ex.kids]
theorem Ex.cells_length (e : Ex) : e.cells.length = 3 := by rw [Ex.cells_eq]; rfl
theorem Ex.cellsL_length : ∀ ks : List Ex, (Ex.cellsL ks).length = ks.length * 3
 | [] => by simp [Ex.cellsL]
 | e :: r => by simp only [Ex.cellsL, List.length_append, Ex.cells_length, Ex.cellsL_length r, List.length_cons]; omega
theorem Ex.cellsL_append : ∀ a b : List Ex, Ex.cellsL (a ++ b) = Ex.cellsL a ++ Ex.cellsL b
 | [], b => by simp [Ex.cellsL]
 | e :: r, b => by simp only [List.cons_append, Ex.cellsL, Ex.cellsL_append r b, List.append_assoc]
theorem Ex.sizeL_append : ∀ a b : List Ex, Ex.sizeL (a ++ b) = Ex.sizeL a + Ex.sizeL b
 | [], b => by simp [Ex.sizeL]
 | e :: r, b => by simp only [List.cons_append, Ex.sizeL, Ex.sizeL_append r b]; omega
theorem Ex.cellsL_at : ∀ (ks : List Ex) (i : Nat) (e : Ex), ks[i]? = some e → ∀ j, j < 3 → (Ex.cellsL ks)[3 * i + j]? = e.cells[j]?
 | [], i, e, h => by simp at h
 | e0 :: r, 0, e, h => by
  simp at h
  subst h
  intro j hj
  simp only [Ex.cellsL]
  rw [Nat.mul_zero, Nat.zero_add, List.getElem?_append_left (by rw [Ex.cells_length]; exact hj)]
 | e0 :: r, i + 1, e, h => by
  intro j hj
  simp only [Ex.cellsL]
  rw [List.getElem?_append_right (by rw [Ex.cells_length]; omega), Ex.cells_length, show 3 * (i + 1) + j - 3 = 3 * i + j by omega]
  exact Ex.cellsL_at r i e (by simpa using h) j hj
theorem Ex.sizeL_mem : ∀ {ks : List Ex} {e : Ex}, e ∈ ks → e.size ≤ Ex.sizeL ks
 | [], _, h => by simp at h
 | e0 :: r, e, h => by
  simp only [Ex.sizeL]
  rcases List.mem_cons.1 h with rfl | h
  ·
   omega
  ·
   have := Ex.sizeL_mem h
   omega
theorem Ex.length_le_sizeL : ∀ ks : List Ex, ks.length ≤ Ex.sizeL ks
 | [] => Nat.le_refl _
 | e :: r => by
  have := Ex.length_le_sizeL r
  have := Ex.size_eq e
  simp only [Ex.sizeL, List.length_cons]
  omega
theorem Ex.sizeL_take_succ {ks : List Ex} {i : Nat} {e : Ex} (h : ks[i]? = some e) : Ex.sizeL (ks.take (i + 1)) = Ex.sizeL (ks.take i) + e.size := by
 obtain ⟨hi, rfl⟩ := List.getElem?_eq_some_iff.1 h
 rw [List.take_succ_eq_append_getElem hi, Ex.sizeL_append]
 simp [Ex.sizeL]
theorem Ex.sizeL_take_le (ks : List Ex) (i : Nat) : Ex.sizeL (ks.take i) ≤ Ex.sizeL ks := by
 have := Ex.sizeL_append (ks.take i) (ks.drop i)
 rw [List.take_append_drop] at this
 omega
theorem Ex.cellsL_take_succ {ks : List Ex} {i : Nat} {e : Ex} (h : ks[i]? = some e) : Ex.cellsL (ks.take (i + 1)) = Ex.cellsL (ks.take i) ++ [.int e.kind, .int e.num, kidsD e.kids] := by
 obtain ⟨hi, rfl⟩ := List.getElem?_eq_some_iff.1 h
 rw [List.take_succ_eq_append_getElem hi, Ex.cellsL_append, ← Ex.cells_eq]
 simp [Ex.cellsL]
theorem kid_at {w : World} {ks : List Ex} {a : Option Addr} {len cap : Nat} (h : Rd w (kidsD ks) (.slice a len cap)) :
  len = ks.length ∧ len ≤ cap ∧ cap ≤ maxLen ∧ (a = none → cap = 0) ∧ (ks = [] ∨ ∃ b o, a = some ⟨b, o, none⟩ ∧ b < w.heap.size ∧ ∀ (i : Nat) (e : Ex), ks[i]? = some e →
   ∃ s c, w.cell? ⟨b, o + i * 3, none⟩ = some (.int .i64 e.kind) ∧ w.cell? ⟨b, o + i * 3 + 1, none⟩ = some (.int .i64 e.num) ∧ w.cell? ⟨b, o + i * 3 + 2, none⟩ = some (.slice s e.kids.length c) ∧
    Rd w (kidsD e.kids) (.slice s e.kids.length c)) := by
 obtain ⟨h1, h2, h3, _, h5, h4⟩ := h.sl_at
 refine ⟨h1, by omega, h3, h5, ?_⟩
 rcases h4 with h4 | ⟨b, o, rfl, h4⟩
 ·
  exact Or.inl (List.eq_nil_of_length_eq_zero h4)
 ·
  by_cases hk : ks = []
  ·
   exact Or.inl hk
  right
  have each : ∀ (i : Nat) (e : Ex), ks[i]? = some e → ∃ s c, w.cell? ⟨b, o + i * 3, none⟩ = some (.int .i64 e.kind) ∧ w.cell? ⟨b, o + i * 3 + 1, none⟩ = some (.int .i64 e.num) ∧ w.cell? ⟨b, o + i * 3 + 2, none⟩ = some (.slice s e.kids.length c) ∧
    Rd w (kidsD e.kids) (.slice s e.kids.length c) := by
   intro i e he
   have c0 := Ex.cellsL_at ks i e he 0 (by omega)
   have c1 := Ex.cellsL_at ks i e he 1 (by omega)
   have c2 := Ex.cellsL_at ks i e he 2 (by omega)
   rw [Ex.cells_eq] at c0 c1 c2
   obtain ⟨x0, g0, r0⟩ := h4 _ _ c0
   obtain ⟨x1, g1, r1⟩ := h4 _ _ c1
   obtain ⟨x2, g2, r2⟩ := h4 _ _ c2
   simp only [Rd] at r0 r1
   subst r0 r1
   obtain ⟨s, c, rfl, _⟩ := Rd.slice r2
   refine ⟨s, c, ?_, ?_, ?_, r2⟩
   ·
    rw [← g0]; congr 2; omega
   ·
    rw [← g1]; congr 2; omega
   ·
    rw [← g2]; congr 2; omega
  refine ⟨b, o, rfl, ?_, each⟩
  cases ks with
  | nil => exact absurd rfl hk
  | cons e r =>
   obtain ⟨_, _, g0, _⟩ := each 0 e rfl
   exact World.block_lt_of_cell? w _ g0
theorem kid_in {w : World} {ks : List Ex} {b o len cap : Nat} (h : Rd w (kidsD ks) (.slice (some ⟨b, o, none⟩) len cap)) {i : Nat} {e : Ex} (he : ks[i]? = some e) :
  b < w.heap.size ∧ ∃ s c, w.cell? ⟨b, o + i * 3, none⟩ = some (.int .i64 e.kind) ∧ w.cell? ⟨b, o + i * 3 + 1, none⟩ = some (.int .i64 e.num) ∧ w.cell? ⟨b, o + i * 3 + 2, none⟩ = some (.slice s e.kids.length c) ∧
    Rd w (kidsD e.kids) (.slice s e.kids.length c) := by
 obtain ⟨_, _, _, _, h4⟩ := kid_at h
 rcases h4 with rfl | ⟨b', o', e1, hb, h4⟩
 ·
  simp at he
 ·
  simp only [Option.some.injEq, Addr.mk.injEq, and_true] at e1
  obtain ⟨rfl, rfl⟩ := e1
  exact ⟨hb, h4 i e he⟩
theorem kid_some {w : World} {ks : List Ex} {a : Option Addr} {len cap : Nat} (h : Rd w (kidsD ks) (.slice a len cap)) (hk : ks ≠ []) : ∃ b o, a = some ⟨b, o, none⟩ := by
 obtain ⟨_, _, _, _, h4⟩ := kid_at h
 rcases h4 with h4 | ⟨b, o, e, _⟩
 ·
  exact absurd h4 hk
 ·
  exact ⟨b, o, e⟩
def ExAt (w : World) (b o : Nat) (e : Ex) : Prop := w.cell? ⟨b, o, none⟩ = some (.int .i64 e.kind) ∧ w.cell? ⟨b, o + 1, none⟩ = some (.int .i64 e.num) ∧
 ∃ s c, w.cell? ⟨b, o + 2, none⟩ = some (.slice s e.kids.length c) ∧ Rd w (kidsD e.kids) (.slice s e.kids.length c)
theorem ExAt.lt {w : World} {b o : Nat} {e : Ex} (h : ExAt w b o e) : b < w.heap.size := World.block_lt_of_cell? w _ h.1
theorem ExAt.below {w w' : World} {b o : Nat} {e : Ex} (h : ExAt w b o e) (hb : Below w.heap.size w w') : ExAt w' b o e := by
 have hl := h.lt
 obtain ⟨h0, h1, s, c, h2, h3⟩ := h
 exact ⟨(hb.cell (p := ⟨b, o, none⟩) hl).trans h0, (hb.cell (p := ⟨b, o + 1, none⟩) hl).trans h1, s, c, (hb.cell (p := ⟨b, o + 2, none⟩) hl).trans h2, h3.below hb⟩
theorem kid_exAt {w : World} {ks : List Ex} {b o len cap : Nat} (h : Rd w (kidsD ks) (.slice (some ⟨b, o, none⟩) len cap)) {i : Nat} {e : Ex} (he : ks[i]? = some e) : ExAt w b (o + i * 3) e := by
 obtain ⟨_, s, c, g0, g1, g2, g3⟩ := kid_in h he
 exact ⟨g0, g1, s, c, g2, g3⟩
theorem Blk.exAt {w : World} {g T : Nat} {k n : Int} {ks : List Ex} {s : Option Addr} {c : Nat} (h : Blk w g T [.int .i64 k, .int .i64 n, .slice s ks.length c]) (hr : Rd w (kidsD ks) (.slice s ks.length c)) : ExAt w g 0 (.mk k n ks) :=
 ⟨h.c0, h.c1, s, c, h.c2, hr⟩
section
variable {H : Type} {enc : TypeId × Value → H} {P : Program} {w : World} {base : Nat} {sp : Nat → Bool} {hd : Bool}
theorem rows_exprs : ∀ rows : List (List D), (∀ r ∈ rows, ∃ e : Ex, r = e.cells) → ∃ ks : List Ex, rows.length = ks.length ∧ rows.flatten = Ex.cellsL ks
 | [], _ => ⟨[], rfl, by simp [Ex.cellsL]⟩
 | r :: rows, h => by
  obtain ⟨e, rfl⟩ := h r (List.mem_cons_self ..)
  obtain ⟨ks, h1, h2⟩ := rows_exprs rows fun r hr => h r (List.mem_cons_of_mem _ hr)
  exact ⟨e :: ks, by simp [h1], by simp only [List.flatten_cons, h2, Ex.cellsL]⟩
theorem open_expr {ti ts te : TypeId} {f0 f1 f2 : Field} (he : P.underlying te = some (.struct #[f0, f1, f2])) (hs : P.underlying ts = some (.slice te)) (hi : P.underlying ti = some (.int .i64))
  (t0 : f0.type = ti) (t1 : f1.type = ti) (t2 : f2.type = ts) (o0 : f0.offset = 0) (o1 : f1.offset = 1) (o2 : f2.offset = 2) (ci : P.cellsOf ti = 1) (cs' : P.cellsOf ts = 1) (ce : P.cellsOf te = 3) :
  ∀ (fuel : Nat) (cs : List Value) (x : DataW H × List MemPlace), DataW.trod enc P w base sp hd fuel te cs = some x → ∃ e : Ex, Rds w e.cells cs := by
 intro fuel
 induction fuel using Nat.strongRecOn with
 | _ fuel ih =>
  intro cs x h
  obtain ⟨xs, m, rfl, rfl, hl, hlen, hf⟩ := DataW.trod_struct he h
  rw [ce] at hl
  match xs, hlen, cs, hl with
  | [y0, y1, y2], _, [v0, v1, v2], _ =>
   have g0 := hf 0 f0 rfl
   have g1 := hf 1 f1 rfl
   have g2 := hf 2 f2 rfl
   simp [o0, o1, o2, t0, t1, t2, ci, cs'] at g0 g1 g2
   obtain ⟨k, e0, _⟩ := DataW.trod_int hi g0
   obtain ⟨n, e1, _⟩ := DataW.trod_int hi g1
   simp only [List.cons.injEq, and_true] at e0 e1
   subst e0 e1
   obtain ⟨v, rows, e2, hrows, hr⟩ := open_sl (size := 3) (Q := fun r => ∃ e : Ex, r = e.cells) hs ce (by omega) (fun m' hm' cs x hx => by
    obtain ⟨e, hr⟩ := ih m' (by omega) cs x hx
    exact ⟨_, ⟨e, rfl⟩, Ex.cells_length e, hr⟩) g2
   simp only [List.cons.injEq, and_true] at e2
   subst e2
   obtain ⟨ks, k1, k2⟩ := rows_exprs rows hrows
   refine ⟨.mk k n ks, ?_⟩
   rw [k1, k2] at hr
   simp only [Ex.cells, Rds]
   exact ⟨_, _, rfl, by simp only [Rd], _, _, rfl, by simp only [Rd], _, _, rfl, hr, rfl⟩
end
end Go.Proofs.YtcokljhamhgelaaGreatDoor

namespace Go.Proofs.YtcokljhamhgelaaGreatDoor
set_option linter.unusedVariables false
set_option linter.unusedSimpArgs false
open Go.ChangeShapes Go.WideShapes Go.ChangeAt Go.RowKit
theorem own : ownKnob Tryz.prog.godebug = none := by kernel_rfl
theorem laid : laidOutB Tryz.prog = true := by kernel_rfl
theorem cells_int64 : Tryz.prog.cellsOf 2 = 1 := by kernel_rfl
theorem cells_Sig : Tryz.prog.cellsOf 23 = 2 := by kernel_rfl
theorem cells_laws_Expr : Tryz.prog.cellsOf 26 = 3 := by kernel_rfl
theorem cells_laws_Exprs : Tryz.prog.cellsOf 24 = 1 := by kernel_rfl
section
variable {H : Type} {enc : TypeId × Value → H} {W : World} {base : Nat} {sp : Nat → Bool} {hd : Bool} {v : Value} {d : DataW H} {ps : List MemPlace}
theorem open_lawsExpr (h : DataW.Trod enc Tryz.prog W base sp hd 26 v d ps) :
  ∃ k n ks s cap, v = .agg #[.int .i64 k, .int .i64 n, .slice s ks.length cap] ∧ Rd W (kidsD ks) (.slice s ks.length cap) := by
 obtain ⟨fuel, hf⟩ := h
 obtain ⟨e, hr⟩ := open_expr Tryz.underlying26 Tryz.underlying24 Tryz.underlying2 rfl rfl rfl rfl rfl rfl cells_int64 cells_laws_Exprs cells_laws_Expr fuel _ _ hf
 rw [Ex.cells_eq] at hr
 simp only [Rds, Rd] at hr
 obtain ⟨x0, r0, e0, rfl, x1, r1, rfl, rfl, x2, r2, rfl, hx2, rfl⟩ := hr
 obtain ⟨s, cap, rfl, _⟩ := Rd.slice hx2
 exact ⟨_, _, e.kids, s, cap, cells_three e0, hx2⟩
set_option maxRecDepth 100000 in
theorem open_lawsSig (h : DataW.Trod enc Tryz.prog W base sp hd 23 v d ps) : ∃ t a, v = .agg #[.int .i64 t, .int .i64 a] := by
 obtain ⟨fuel, hf⟩ := h
 obtain ⟨y0, y1, n, _, hl, g0, g1⟩ := trod_struct2 Tryz.underlying23 hf
 rw [cells_Sig] at hl
 generalize hcs : v.cells.toList = cs at *
 match cs, hl with
 | [v0, v1], _ =>
  simp [cells_int64] at g0 g1
  obtain ⟨a, e0, _⟩ := DataW.trod_int Tryz.underlying2 g0
  obtain ⟨b, e1, _⟩ := DataW.trod_int Tryz.underlying2 g1
  simp only [List.cons.injEq, and_true] at e0 e1
  subst e0 e1
  exact ⟨a, b, cells_two hcs⟩
end
end Go.Proofs.YtcokljhamhgelaaGreatDoor

namespace Go.Proofs.YtcokljhamhgelaaGreatDoor
set_option linter.unusedVariables false
set_option linter.unusedSimpArgs false
open Go.ChangeShapes Go.WideShapes Go.ChangeAt Go.RowKit
def inB (n lo hi : Int) : Bool := decide (lo ≤ n) && decide (n ≤ hi)
def sigB (t a : Int) : Bool := inB t 0 3 && inB a 0 4
theorem within_any (n lo hi : Int) (w : World) : Calls Tryz.prog 89 #[.int .i64 n, .int .i64 lo, .int .i64 hi] w fun e w' => e = .returned (.bool (inB n lo hi)) ∧ w = w' := by
 by_cases h1 : lo ≤ n
 ·
  by_cases h2 : n ≤ hi
  ·
   have e1 : inB n lo hi = true := by simp [inB, h1, h2]
   rw [e1]
   go_enter Tryz.func89, Tryz.ntmps89
   go_wp2
   go_ret
   exact ⟨rfl, rfl⟩
  ·
   have e1 : inB n lo hi = false := by simp [inB, h2]
   rw [e1]
   go_enter Tryz.func89, Tryz.ntmps89
   go_wp2
   go_ret
   exact ⟨rfl, rfl⟩
 ·
  have e1 : inB n lo hi = false := by simp [inB, h1]
  rw [e1]
  go_enter Tryz.func89, Tryz.ntmps89
  go_wp2
  go_ret
  exact ⟨rfl, rfl⟩
theorem in_any (n lo hi : Int) (w : World) : Calls Tryz.prog 78 #[.int .i64 n, .int .i64 lo, .int .i64 hi] w fun e w' => e = .returned (.bool (inB n lo hi)) ∧ w = w' := by
 by_cases h1 : lo ≤ n
 ·
  by_cases h2 : n ≤ hi
  ·
   have e1 : inB n lo hi = true := by simp [inB, h1, h2]
   rw [e1]
   go_enter Tryz.func78, Tryz.ntmps78
   go_wp2
   go_ret
   exact ⟨rfl, rfl⟩
  ·
   have e1 : inB n lo hi = false := by simp [inB, h2]
   rw [e1]
   go_enter Tryz.func78, Tryz.ntmps78
   go_wp2
   go_ret
   exact ⟨rfl, rfl⟩
 ·
  have e1 : inB n lo hi = false := by simp [inB, h1]
  rw [e1]
  go_enter Tryz.func78, Tryz.ntmps78
  go_wp2
  go_ret
  exact ⟨rfl, rfl⟩
theorem toSig_any (t a : Int) (w : World) : Calls Tryz.prog 7 #[.agg #[.int .i64 t, .int .i64 a]] w fun e w' => e = .returned (.agg #[.int .i64 t, .int .i64 a]) ∧ Below w.heap.size w w' := by
 go_enter Tryz.func7, Tryz.ntmps7
 go_wp2
 exact bodyPost_ret (v := .agg #[.int .i64 t, .int .i64 a]) (by simp [results, Tryz.results7, go_sem]) rfl ⟨rfl, by (repeat' first | exact Below.refl _ _ | assumption | apply Below.alloc | apply Below.drew | apply Below.setCell | omega | (simp; done) | (simp; omega))⟩
theorem l01Sig_any (t a : Int) (w : World) : Calls Tryz.prog 46 #[.agg #[.int .i64 t, .int .i64 a]] w fun e w' => e = .returned (.bool (sigB t a)) ∧ Below w.heap.size w w' := by
 go_enter Tryz.func46, Tryz.ntmps46
 go_wp2_with ((go_at_call 78; ((with_reducible refine (in_any _ _ _ _).mono ?_); rintro e w' ⟨rfl, rfl⟩)))
 all_goals go_ret
 all_goals exact ⟨by simp [sigB, *], by (repeat' first | exact Below.refl _ _ | assumption | apply Below.alloc | apply Below.drew | apply Below.setCell | omega | (simp; done) | (simp; omega))⟩
theorem implValidSig_any (t a : Int) (w : World) : Calls Tryz.prog 60 #[.agg #[.int .i64 t, .int .i64 a]] w fun e w' => e = .returned (.bool (sigB t a)) ∧ Below w.heap.size w w' := by
 go_enter Tryz.func60, Tryz.ntmps60
 go_wp2_with ((go_at_call 89; ((with_reducible refine (within_any _ _ _ _).mono ?_); rintro e w' ⟨rfl, rfl⟩)))
 all_goals go_ret
 all_goals exact ⟨by simp [sigB, *], by (repeat' first | exact Below.refl _ _ | assumption | apply Below.alloc | apply Below.drew | apply Below.setCell | omega | (simp; done) | (simp; omega))⟩
end Go.Proofs.YtcokljhamhgelaaGreatDoor

namespace Go.Proofs.YtcokljhamhgelaaGreatDoor
set_option linter.unusedVariables false
set_option linter.unusedSimpArgs false
open Go.ChangeShapes Go.WideShapes Go.ChangeAt Go.RowKit
def condKind (k : Int) : Bool := decide (k = 1 ∨ k = 2 ∨ k = 3 ∨ k = 5 ∨ k = 6 ∨ k = 7)
mutual
def Ex.cond : Ex → Bool
 | .mk k _ ks => condKind k && Ex.condL ks
def Ex.condL : List Ex → Bool
 | [] => true
 | e :: r => e.cond && Ex.condL r
end
theorem Ex.cond_eq (e : Ex) : e.cond = (condKind e.kind && Ex.condL e.kids) := by cases e; simp only [Ex.cond, Ex.kind, Ex.kids]
theorem Ex.condL_append : ∀ a b : List Ex, Ex.condL (a ++ b) = (Ex.condL a && Ex.condL b)
 | [], b => by simp [Ex.condL]
 | e :: r, b => by simp only [List.cons_append, Ex.condL, Ex.condL_append r b, Bool.and_assoc]
theorem Ex.condL_take_succ {ks : List Ex} {i : Nat} {e : Ex} (h : ks[i]? = some e) : Ex.condL (ks.take (i + 1)) = (Ex.condL (ks.take i) && e.cond) := by
 obtain ⟨hi, rfl⟩ := List.getElem?_eq_some_iff.1 h
 rw [List.take_succ_eq_append_getElem hi, Ex.condL_append]
 simp [Ex.condL]
theorem Ex.condL_false {ks : List Ex} {i : Nat} {e : Ex} (h : ks[i]? = some e) (hc : e.cond = false) : Ex.condL ks = false := by
 have := Ex.condL_append (ks.take (i + 1)) (ks.drop (i + 1))
 rw [List.take_append_drop, Ex.condL_take_succ h, hc] at this
 simpa using this
theorem l01Condition_all (N : Nat) : ∀ (e : Ex) (b o : Nat) (w : World), e.size ≤ N → ExAt w b o e →
  Calls Tryz.prog 81 #[.pointer (some ⟨b, o, none⟩)] w fun f w' => f = .returned (.bool e.cond) ∧ w = w' := by
 induction N using Nat.strongRecOn with
 | _ N ih =>
 intro e b o w hN hr
 obtain ⟨g0, g1, s, c, g2, g3⟩ := hr
 obtain ⟨-, hlen, hcap, -, -⟩ := kid_at g3
 unfold maxLen at hcap
 have hse := Ex.size_eq e
 have hks : Ex.sizeL e.kids < N := by omega
 clear hse
 by_cases hk : condKind e.kind = true
 ·
  have hc : e.cond = Ex.condL e.kids := by rw [Ex.cond_eq, hk, Bool.true_and]
  have Hc := Lib.hid hc
  have b1 : inB e.kind 1 7 = true := by simp [condKind] at hk; simp [inB]; omega
  have b2 : (e.kind == 4) = false := by simp [condKind] at hk; simp; omega
  clear hc hk
  go_enter Tryz.func81, Tryz.ntmps81
  go_wp2_with ((go_at_call 78; ((with_reducible refine (in_any _ _ _ _).mono ?_); rintro e w' ⟨rfl, rfl⟩)))
  go_loop [3] (fun i => ∃ k : Nat, k ≤ e.kids.length ∧ i = .int .i64 k ∧ Ex.condL (e.kids.take k) = true) (fun i => e.kids.length - (intOf i).toNat)
  case atStart => exact ⟨0, by omega, rfl, by simp [Ex.condL]⟩
  case round =>
   obtain ⟨k, hk, rfl, hpre⟩ := hrel
   have Hpre := Lib.hid hpre
   clear hpre
   by_cases hlt : k < e.kids.length
   ·
    obtain ⟨f, hf⟩ : ∃ f, e.kids[k]? = some f := ⟨_, List.getElem?_eq_getElem hlt⟩
    obtain ⟨b', o', rfl⟩ := kid_some g3 (by intro h; simp [h] at hlt)
    have hat := kid_exAt g3 hf
    have hmem := Ex.sizeL_mem (List.mem_of_getElem? hf)
    have Htk := Lib.hid (Ex.condL_take_succ hf)
    have Hfl := Lib.hid (@Ex.condL_false _ _ _ hf)
    go_wp2_with fail
    refine (ih _ (by omega) f _ _ _ (Nat.le_refl _) hat).mono ?_
    rintro x w' ⟨rfl, rfl⟩
    cases hfc : f.cond
    ·
     go_wp2_with fail
     go_ret
     exact ⟨ret_bool (by rw [Hc.out, Hfl.out hfc]), rfl⟩
    ·
     go_wp2_with fail
     go_round
     case rel => exact ⟨k + 1, by omega, by go_num, by rw [Htk.out, Hpre.out, hfc]; rfl⟩
     case measure => simp [intOf]; omega
   ·
    obtain rfl : k = e.kids.length := by omega
    go_wp2_with fail
    go_ret
    exact ⟨ret_bool (by have := Hpre.out; rw [List.take_length] at this; rw [Hc.out, this]), rfl⟩
 ·
  have hc : e.cond = false := by rw [Ex.cond_eq]; simp [hk]
  rw [hc]
  by_cases hin : inB e.kind 1 7 = true
  ·
   have b2 : (e.kind == 4) = true := by simp [condKind] at hk; simp [inB] at hin; simp; omega
   clear hk hc
   go_enter Tryz.func81, Tryz.ntmps81
   go_wp2_with ((go_at_call 78; ((with_reducible refine (in_any _ _ _ _).mono ?_); rintro e w' ⟨rfl, rfl⟩)))
   go_ret
   exact ⟨rfl, rfl⟩
  ·
   have hin' : inB e.kind 1 7 = false := by simpa using hin
   clear hk hc hin
   go_enter Tryz.func81, Tryz.ntmps81
   go_wp2_with ((go_at_call 78; ((with_reducible refine (in_any _ _ _ _).mono ?_); rintro e w' ⟨rfl, rfl⟩)))
   go_ret
   exact ⟨rfl, rfl⟩
def CondS (N : Nat) : Prop := ∀ (k n : Int) (ks : List Ex) (s : Option Addr) (cap : Nat) (w : World), Ex.sizeL ks ≤ N → Rd w (kidsD ks) (.slice s ks.length cap) →
  Calls Tryz.prog 91 #[.agg #[.int .i64 k, .int .i64 n, .slice s ks.length cap]] w fun f w' => f = .returned (.bool (Ex.cond (.mk k n ks))) ∧ Below w.heap.size w w'
set_option maxHeartbeats 2000000 in
theorem implIsCondition_all (N : Nat) : CondS N := by
 induction N using Nat.strongRecOn with
 | _ N ih =>
 intro k0 n0 ks s cap w hN hr
 obtain ⟨-, hlen, hcap, -, -⟩ := kid_at hr
 unfold maxLen at hcap
 by_cases hk : condKind k0 = true
 ·
  have Hc : Hid (Ex.cond (.mk k0 n0 ks) = Ex.condL ks) := by show _ = _; rw [Ex.cond_eq]; simp [Ex.kind, Ex.kids, hk]
  have hk' : k0 = 1 ∨ k0 = 2 ∨ k0 = 3 ∨ k0 = 5 ∨ k0 = 6 ∨ k0 = 7 := by simpa [condKind] using hk
  clear hk
  rcases hk' with hk' | hk' | hk' | hk' | hk' | hk'
  all_goals
   subst hk'
   go_enter Tryz.func91, Tryz.ntmps91
   go_wp2_with fail
   go_loopw [17] (fun i wr => ∃ k : Nat, k ≤ ks.length ∧ i = .int .i64 k ∧ Ex.condL (ks.take k) = true ∧ Below w.heap.size w wr) (fun i _ => ks.length - (intOf i).toNat)
   case atStart => exact ⟨0, by omega, rfl, by simp [Ex.condL], by (repeat' first | exact Below.refl _ _ | assumption | apply Below.alloc | apply Below.drew | apply Below.setCell | omega | (simp; done) | (simp; omega))⟩
   case round =>
    obtain ⟨k, hk, rfl, hpre, hB⟩ := hrel
    have hzB := hB.size
    have Hpre := Lib.hid hpre
    clear hpre
    by_cases hlt : k < ks.length
    ·
     obtain ⟨f, hf⟩ : ∃ f, ks[k]? = some f := ⟨_, List.getElem?_eq_getElem hlt⟩
     obtain ⟨b', o', rfl⟩ := kid_some hr (by intro h; simp [h] at hlt)
     obtain ⟨-, s', c', g0, g1, g2, gr⟩ := kid_in (hr.below hB) hf
     have hN' : Ex.sizeL f.kids < N := by
      have := Ex.sizeL_mem (List.mem_of_getElem? hf)
      have := Ex.size_eq f
      omega
     have Htk := Lib.hid (Ex.condL_take_succ hf)
     have Hfl := Lib.hid (@Ex.condL_false _ _ _ hf)
     have Het : Hid (Ex.mk f.kind f.num f.kids = f) := (Ex.eta f).symm
     go_wp2_with fail
     refine (ih _ hN' _ _ _ _ _ _ (Nat.le_refl _) (gr.alloc _)).mono ?_
     rintro x w1 ⟨rfl, hb⟩
     have hB1 : Below w.heap.size w w1 := Below.on (by (repeat' first | exact Below.refl _ _ | assumption | apply Below.alloc | apply Below.drew | apply Below.setCell | omega | (simp; done) | (simp; omega))) hb (by simp; omega)
     clear hb
     rw [Het.out]
     cases hfc : f.cond
     ·
      go_wp2_with fail
      go_ret
      exact ⟨ret_bool (by rw [Hc.out, Hfl.out hfc]), hB1⟩
     ·
      go_wp2_with fail
      go_roundw
      case rel => exact ⟨k + 1, by omega, by go_num, by rw [Htk.out, Hpre.out, hfc]; rfl, hB1⟩
      case measure => simp [intOf]; omega
    ·
     obtain rfl : k = ks.length := by omega
     go_wp2_with fail
     go_ret
     exact ⟨ret_bool (by have := Hpre.out; rw [List.take_length] at this; rw [Hc.out, this]), hB⟩
 ·
  have hc : Ex.cond (.mk k0 n0 ks) = false := by rw [Ex.cond_eq]; simp [Ex.kind, hk]
  have hk' : ¬ (k0 = 1 ∨ k0 = 2 ∨ k0 = 3 ∨ k0 = 5 ∨ k0 = 6 ∨ k0 = 7) := by simpa [condKind] using hk
  have t1 : (k0 == 1) = false := by simp; omega
  have t2 : (k0 == 2) = false := by simp; omega
  have t3 : (k0 == 3) = false := by simp; omega
  have t5 : (k0 == 5) = false := by simp; omega
  have t6 : (k0 == 6) = false := by simp; omega
  have t7 : (k0 == 7) = false := by simp; omega
  rw [hc]
  clear hk hk' hc
  go_enter Tryz.func91, Tryz.ntmps91
  go_wp2_with fail
  go_ret
  exact ⟨rfl, by (repeat' first | exact Below.refl _ _ | assumption | apply Below.alloc | apply Below.drew | apply Below.setCell | omega | (simp; done) | (simp; omega))⟩
theorem implIsCondition_i {k n : Int} {ks : List Ex} {s : Option Addr} {cap : Nat} {w : World} (hr : Rd w (kidsD ks) (.slice s ks.length cap)) :
  Calls Tryz.prog 91 #[.agg #[.int .i64 k, .int .i64 n, .slice s ks.length cap]] w fun f w' => f = .returned (.bool (Ex.cond (.mk k n ks))) ∧ Below w.heap.size w w' :=
 implIsCondition_all _ k n ks s cap w (Nat.le_refl _) hr
end Go.Proofs.YtcokljhamhgelaaGreatDoor

namespace Go.Proofs.YtcokljhamhgelaaGreatDoor
set_option linter.unusedVariables false
set_option linter.unusedSimpArgs false
open Go.ChangeShapes Go.WideShapes Go.ChangeAt Go.RowKit Go.Sort
def atomsN (t : Int) : Int := if t = 0 then 1 else if t = 1 then 2 else if t = 2 then 4 else 8
theorem atomsN_bd (t : Int) : 1 ≤ atomsN t ∧ atomsN t ≤ 8 := by unfold atomsN; split <;> (try split) <;> (try split) <;> omega
theorem sigB_bd {t a : Int} (h : sigB t a = true) : 0 ≤ t ∧ t ≤ 3 ∧ 0 ≤ a ∧ a ≤ 4 := by
 simp [sigB, inB] at h
 omega
theorem within_B (n lo hi : Int) (w : World) : Calls Tryz.prog 89 #[.int .i64 n, .int .i64 lo, .int .i64 hi] w fun e w' => e = .returned (.bool (inB n lo hi)) ∧ Below w.heap.size w w' :=
 (within_any n lo hi w).mono fun _ _ ⟨h1, h2⟩ => ⟨h1, below_self h2⟩
theorem in_B (n lo hi : Int) (w : World) : Calls Tryz.prog 78 #[.int .i64 n, .int .i64 lo, .int .i64 hi] w fun e w' => e = .returned (.bool (inB n lo hi)) ∧ Below w.heap.size w w' :=
 (in_any n lo hi w).mono fun _ _ ⟨h1, h2⟩ => ⟨h1, below_self h2⟩
theorem atomsIn_i {t a : Int} {w : World} (h0 : 0 ≤ t) (h1 : t ≤ 3) : Calls Tryz.prog 34 #[.agg #[.int .i64 t, .int .i64 a]] w fun e w' => e = .returned (.int .i64 (atomsN t)) ∧ Below w.heap.size w w' := by
 have h : t = 0 ∨ t = 1 ∨ t = 2 ∨ t = 3 := by omega
 rcases h with h | h | h | h
 all_goals
  subst h
  go_enter Tryz.func34, Tryz.ntmps34
  go_wp2
  go_ret
  exact ⟨rfl, by (repeat' first | exact Below.refl _ _ | assumption | apply Below.alloc | apply Below.drew | apply Below.setCell | omega | (simp; done) | (simp; omega))⟩
theorem l01Atoms_i {t a : Int} {w : World} (h0 : 0 ≤ t) (h1 : t ≤ 3) : Calls Tryz.prog 56 #[.agg #[.int .i64 t, .int .i64 a]] w fun e w' => e = .returned (.int .i64 (atomsN t)) ∧ Below w.heap.size w w' := by
 have h : t = 0 ∨ t = 1 ∨ t = 2 ∨ t = 3 := by omega
 rcases h with h | h | h | h
 all_goals
  subst h
  go_enter Tryz.func56, Tryz.ntmps56
  go_wp2
  go_ret
  exact ⟨rfl, by (repeat' first | exact Below.refl _ _ | assumption | apply Below.alloc | apply Below.drew | apply Below.setCell | omega | (simp; done) | (simp; omega))⟩
theorem wrap_of {n : Int} (h0 : -1000000 ≤ n) (h1 : n ≤ 1000000000000000000) : IntKind.i64.wrap n = n := IntWalk.i64_in n (by omega)
end Go.Proofs.YtcokljhamhgelaaGreatDoor

namespace Go.Proofs.YtcokljhamhgelaaGreatDoor
set_option linter.unusedVariables false
set_option linter.unusedSimpArgs false
open Go.ChangeShapes Go.WideShapes Go.ChangeAt Go.RowKit Go.Sort
mutual
def Ex.depth : Ex → Nat
 | .mk _ _ ks => 1 + Ex.depthL ks
def Ex.depthL : List Ex → Nat
 | [] => 0
 | e :: r => max e.depth (Ex.depthL r)
end
theorem Ex.depth_eq (e : Ex) : e.depth = 1 + Ex.depthL e.kids := by cases e; simp only [Ex.depth, Ex.kids]
theorem Ex.depthL_append : ∀ a b : List Ex, Ex.depthL (a ++ b) = max (Ex.depthL a) (Ex.depthL b)
 | [], b => by simp [Ex.depthL]
 | e :: r, b => by simp only [List.cons_append, Ex.depthL, Ex.depthL_append r b]; omega
theorem Ex.depthL_take_succ {ks : List Ex} {i : Nat} {e : Ex} (h : ks[i]? = some e) : Ex.depthL (ks.take (i + 1)) = max (Ex.depthL (ks.take i)) e.depth := by
 obtain ⟨hi, rfl⟩ := List.getElem?_eq_some_iff.1 h
 rw [List.take_succ_eq_append_getElem hi, Ex.depthL_append]
 simp [Ex.depthL]
theorem Ex.depthL_mem : ∀ {ks : List Ex} {e : Ex}, e ∈ ks → e.depth ≤ Ex.depthL ks
 | [], _, h => by simp at h
 | e0 :: r, e, h => by
  simp only [Ex.depthL]
  rcases List.mem_cons.1 h with rfl | h
  ·
   omega
  ·
   have := Ex.depthL_mem h
   omega
mutual
theorem Ex.depth_le : ∀ e : Ex, e.depth ≤ e.size
 | .mk _ _ ks => by simp only [Ex.depth, Ex.size]; have := Ex.depthL_le ks; omega
theorem Ex.depthL_le : ∀ ks : List Ex, Ex.depthL ks ≤ Ex.sizeL ks
 | [] => by simp [Ex.depthL, Ex.sizeL]
 | e :: r => by simp only [Ex.depthL, Ex.sizeL]; have := Ex.depth_le e; have := Ex.depthL_le r; omega
end
def kidsN (k : Int) : Int := if k = 1 ∨ k = 2 ∨ k = 3 ∨ k = 4 then 0 else if k = 5 ∨ k = 8 then 1 else if k = 6 ∨ k = 7 then 2 else -1
def numB (tm am k n : Int) : Bool := if k = 3 then inB n 0 tm else if k = 4 then inB n 0 am else n == 0
def nodeB (tm am k n : Int) (ks : List Ex) : Bool := (kidsN k == (ks.length : Int)) && numB tm am k n && (k != 5 || Ex.condL ks)
mutual
def Ex.tree (tm am : Int) : Ex → Bool
 | .mk k n ks => nodeB tm am k n ks && Ex.treeL tm am ks
def Ex.treeL (tm am : Int) : List Ex → Bool
 | [] => true
 | e :: r => Ex.tree tm am e && Ex.treeL tm am r
end
theorem Ex.tree_eq (tm am : Int) (e : Ex) : e.tree tm am = (nodeB tm am e.kind e.num e.kids && Ex.treeL tm am e.kids) := by cases e; simp only [Ex.tree, Ex.kind, Ex.num, Ex.kids]
theorem Ex.treeL_append (tm am : Int) : ∀ a b : List Ex, Ex.treeL tm am (a ++ b) = (Ex.treeL tm am a && Ex.treeL tm am b)
 | [], b => by simp [Ex.treeL]
 | e :: r, b => by simp only [List.cons_append, Ex.treeL, Ex.treeL_append tm am r b, Bool.and_assoc]
theorem Ex.treeL_take_succ {tm am : Int} {ks : List Ex} {i : Nat} {e : Ex} (h : ks[i]? = some e) : Ex.treeL tm am (ks.take (i + 1)) = (Ex.treeL tm am (ks.take i) && e.tree tm am) := by
 obtain ⟨hi, rfl⟩ := List.getElem?_eq_some_iff.1 h
 rw [List.take_succ_eq_append_getElem hi, Ex.treeL_append]
 simp [Ex.treeL]
theorem Ex.treeL_false {tm am : Int} {ks : List Ex} {i : Nat} {e : Ex} (h : ks[i]? = some e) (hc : e.tree tm am = false) : Ex.treeL tm am ks = false := by
 have := Ex.treeL_append tm am (ks.take (i + 1)) (ks.drop (i + 1))
 rw [List.take_append_drop, Ex.treeL_take_succ h, hc] at this
 simpa using this
def leftF (n : Nat) (left : Int) : Int := if (n : Int) ≤ left then left - n else -1
theorem leftF_pos {n : Nat} {left : Int} (h : 0 ≤ leftF n left) : (n : Int) ≤ left ∧ leftF n left = left - n := by
 unfold leftF at h ⊢
 split at h
 ·
  rename_i hh; exact ⟨hh, by rw [if_pos hh]⟩
 ·
  omega
theorem leftF_neg {n : Nat} {left : Int} (h : ¬ 0 ≤ leftF n left) : left < (n : Int) ∧ leftF n left = -1 := by
 unfold leftF at h ⊢
 split at h
 ·
  omega
 ·
  rename_i hh; exact ⟨by omega, by rw [if_neg hh]⟩
theorem l01Left_all (N : Nat) : ∀ (e : Ex) (b o : Nat) (left : Int) (w : World), e.size ≤ N → ExAt w b o e → 0 ≤ left → left ≤ 1000000 →
  Calls Tryz.prog 47 #[.pointer (some ⟨b, o, none⟩), .int .i64 left] w fun f w' => f = .returned (.int .i64 (leftF e.size left)) ∧ w = w' := by
 induction N using Nat.strongRecOn with
 | _ N ih =>
 intro e b o left w hN hr h0 h1
 obtain ⟨_, _, s, c, g2, g3⟩ := hr
 obtain ⟨-, hlen, hcap, -, -⟩ := kid_at g3
 unfold maxLen at hcap
 have hse := Ex.size_eq e
 have hks : Ex.sizeL e.kids < N := by omega
 have Hse := Lib.hid hse
 clear hse
 go_enter Tryz.func47, Tryz.ntmps47
 go_wp2_with fail
 go_loop [1, 5] (fun l i => ∃ k : Nat, k ≤ e.kids.length ∧ i = .int .i64 k ∧ l = .int .i64 (leftF (1 + Ex.sizeL (e.kids.take k)) left)) (fun _ i => e.kids.length - (intOf i).toNat)
 case atStart => exact ⟨0, by omega, rfl, by congr 1; simp [Ex.sizeL, leftF]; omega⟩
 case round =>
  obtain ⟨k, hk, rfl, rfl⟩ := hrel
  by_cases hlt : k < e.kids.length
  ·
   by_cases hpos : 0 ≤ leftF (1 + Ex.sizeL (e.kids.take k)) left
   ·
    obtain ⟨p1, p2⟩ := leftF_pos hpos
    have hd : decide (0 ≤ leftF (1 + Ex.sizeL (e.kids.take k)) left) = true := by simpa using hpos
    obtain ⟨f, hf⟩ : ∃ f, e.kids[k]? = some f := ⟨_, List.getElem?_eq_getElem hlt⟩
    obtain ⟨b', o', rfl⟩ := kid_some g3 (by intro h; simp [h] at hlt)
    have hat := kid_exAt g3 hf
    have hltN : f.size < N := by
     have := Ex.sizeL_mem (List.mem_of_getElem? hf)
     omega
    have Hst : Hid (leftF f.size (leftF (1 + Ex.sizeL (e.kids.take k)) left) = leftF (1 + Ex.sizeL (e.kids.take (k + 1))) left) := by
     show _ = _
     rw [p2, Ex.sizeL_take_succ hf]
     unfold leftF
     by_cases hh : (f.size : Int) ≤ left - ((1 + Ex.sizeL (e.kids.take k) : Nat) : Int)
     ·
      rw [if_pos hh, if_pos (by omega)]; omega
     ·
      rw [if_neg hh, if_neg (by omega)]
    have hle : leftF (1 + Ex.sizeL (e.kids.take k)) left ≤ 1000000 := by omega
    clear p2 p1
    go_wp2_with fail
    refine (ih _ hltN f _ _ _ _ (Nat.le_refl _) hat hpos hle).mono ?_
    rintro x w' ⟨rfl, rfl⟩
    rw [Hst.out]
    go_wp2_with fail
    go_round
    case rel => exact ⟨k + 1, by omega, by go_num, rfl⟩
    case measure => simp [intOf]; omega
   ·
    obtain ⟨p1, p2⟩ := leftF_neg hpos
    have hd : decide (0 ≤ leftF (1 + Ex.sizeL (e.kids.take k)) left) = false := by simpa using hpos
    have Hst : Hid (leftF (1 + Ex.sizeL (e.kids.take k)) left = leftF e.size left) := by
     show _ = _
     rw [p2]
     have := Ex.sizeL_take_le e.kids k
     have := Hse.out
     unfold leftF
     rw [if_neg (by omega)]
    clear p2 hpos
    go_wp2_with fail
    go_ret
    exact ⟨ret_int Hst.out, rfl⟩
  ·
   obtain rfl : k = e.kids.length := by omega
   go_wp2_with fail
   go_ret
   exact ⟨ret_int (by rw [Hse.out]), rfl⟩
theorem l00Max_i {a b : Int} {w : World} : Calls Tryz.prog 79 #[.int .i64 a, .int .i64 b] w fun e w' => e = .returned (.int .i64 (max a b)) ∧ w = w' := by
 by_cases h : b < a
 ·
  go_enter Tryz.func79, Tryz.ntmps79
  go_wp2_with fail
  go_ret
  exact ⟨ret_int (by omega), rfl⟩
 ·
  go_enter Tryz.func79, Tryz.ntmps79
  go_wp2_with fail
  go_ret
  exact ⟨ret_int (by omega), rfl⟩
theorem l01Depth_all (N : Nat) : ∀ (e : Ex) (b o : Nat) (w : World), e.size ≤ N → ExAt w b o e → e.size ≤ 1073741824 →
  Calls Tryz.prog 48 #[.pointer (some ⟨b, o, none⟩)] w fun f w' => f = .returned (.int .i64 e.depth) ∧ w = w' := by
 induction N using Nat.strongRecOn with
 | _ N ih =>
 intro e b o w hN hr h1
 obtain ⟨_, _, s, c, g2, g3⟩ := hr
 obtain ⟨-, hlen, hcap, -, -⟩ := kid_at g3
 unfold maxLen at hcap
 have hse := Ex.size_eq e
 have hks : Ex.sizeL e.kids < N := by omega
 have hks' : Ex.sizeL e.kids ≤ 1073741824 := by omega
 have Hde := Lib.hid (Ex.depth_eq e)
 clear hse
 go_enter Tryz.func48, Tryz.ntmps48
 go_wp2_with fail
 go_loop [3, 4] (fun n i => ∃ k : Nat, k ≤ e.kids.length ∧ i = .int .i64 k ∧ n = .int .i64 (Ex.depthL (e.kids.take k) : Nat)) (fun _ i => e.kids.length - (intOf i).toNat)
 case atStart => exact ⟨0, by omega, rfl, by simp [Ex.depthL]⟩
 case round =>
  obtain ⟨k, hk, rfl, rfl⟩ := hrel
  have hdl := Ex.depthL_le (e.kids.take k)
  have hsl := Ex.sizeL_take_le e.kids k
  by_cases hlt : k < e.kids.length
  ·
   obtain ⟨f, hf⟩ : ∃ f, e.kids[k]? = some f := ⟨_, List.getElem?_eq_getElem hlt⟩
   obtain ⟨b', o', rfl⟩ := kid_some g3 (by intro h; simp [h] at hlt)
   have hat := kid_exAt g3 hf
   have hmem := Ex.sizeL_mem (List.mem_of_getElem? hf)
   have Htk := Lib.hid (Ex.depthL_take_succ hf)
   go_wp2_with fail
   refine (ih _ (by omega) f _ _ _ (Nat.le_refl _) hat (by omega)).mono ?_
   rintro x w' ⟨rfl, rfl⟩
   go_wp2_with fail
   refine (l00Max_i).mono ?_
   rintro x w' ⟨rfl, rfl⟩
   go_wp2_with fail
   go_round
   case rel => exact ⟨k + 1, by omega, by go_num, by rw [Htk.out]; congr 1; omega⟩
   case measure => simp [intOf]; omega
  ·
   obtain rfl : k = e.kids.length := by omega
   rw [List.take_length] at hdl hsl
   go_wp2_with fail
   go_ret
   exact ⟨ret_int (by rw [Hde.out]; simp; omega), rfl⟩
theorem l01Kids_i {k : Int} {w : World} : Calls Tryz.prog 80 #[.int .i64 k] w fun e w' => e = .returned (.int .i64 (kidsN k)) ∧ w = w' := by
 have h : k = 1 ∨ k = 2 ∨ k = 3 ∨ k = 4 ∨ k = 5 ∨ k = 6 ∨ k = 7 ∨ k = 8 ∨ (k < 1 ∨ 8 < k) := by omega
 rcases h with h | h | h | h | h | h | h | h | h
 case inr.inr.inr.inr.inr.inr.inr.inr =>
  have t1 : (k == 1) = false := by simp; omega
  have t2 : (k == 2) = false := by simp; omega
  have t3 : (k == 3) = false := by simp; omega
  have t4 : (k == 4) = false := by simp; omega
  have t5 : (k == 5) = false := by simp; omega
  have t6 : (k == 6) = false := by simp; omega
  have t7 : (k == 7) = false := by simp; omega
  have t8 : (k == 8) = false := by simp; omega
  have e1 : kidsN k = -1 := by unfold kidsN; rw [if_neg (by omega), if_neg (by omega), if_neg (by omega)]
  rw [e1]
  clear h
  go_enter Tryz.func80, Tryz.ntmps80
  go_wp2_with fail
  go_ret
  exact ⟨rfl, rfl⟩
 all_goals
  subst h
  go_enter Tryz.func80, Tryz.ntmps80
  go_wp2_with fail
  go_ret
  exact ⟨rfl, rfl⟩
theorem kidsOf_i {k : Int} {w : World} : Calls Tryz.prog 90 #[.int .i64 k] w fun e w' => e = .returned (.int .i64 (kidsN k)) ∧ w = w' := by
 have h : k = 1 ∨ k = 2 ∨ k = 3 ∨ k = 4 ∨ k = 5 ∨ k = 6 ∨ k = 7 ∨ k = 8 ∨ (k < 1 ∨ 8 < k) := by omega
 rcases h with h | h | h | h | h | h | h | h | h
 case inr.inr.inr.inr.inr.inr.inr.inr =>
  have t1 : (k == 1) = false := by simp; omega
  have t2 : (k == 2) = false := by simp; omega
  have t3 : (k == 3) = false := by simp; omega
  have t4 : (k == 4) = false := by simp; omega
  have t5 : (k == 5) = false := by simp; omega
  have t6 : (k == 6) = false := by simp; omega
  have t7 : (k == 7) = false := by simp; omega
  have t8 : (k == 8) = false := by simp; omega
  have e1 : kidsN k = -1 := by unfold kidsN; rw [if_neg (by omega), if_neg (by omega), if_neg (by omega)]
  rw [e1]
  clear h
  go_enter Tryz.func90, Tryz.ntmps90
  go_wp2_with fail
  go_ret
  exact ⟨rfl, rfl⟩
 all_goals
  subst h
  go_enter Tryz.func90, Tryz.ntmps90
  go_wp2_with fail
  go_ret
  exact ⟨rfl, rfl⟩
end Go.Proofs.YtcokljhamhgelaaGreatDoor
