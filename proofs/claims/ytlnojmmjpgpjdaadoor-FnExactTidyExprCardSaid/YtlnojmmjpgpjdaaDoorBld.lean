/-
  A strings.Builder of the call's own: copyCheck, WriteString, String.
-/
import Derived.Test.YtlnojmmjpgpjdaaDoorText
import Derived.Lib.AppendStr
namespace Go.Proofs.YtlnojmmjpgpjdaaDoor
open Go.ChangeShapes Go.WideShapes Go.ChangeAt Go.RowKit

/-- Block b is a builder that holds the text l, in blocks of S, which lie from B on. -/
def BldAt (B : Nat) (S : Nat → Prop) (b : Nat) (l : List UInt8) (w : World) : Prop :=
  ∃ p v, (p = .pointer none ∨ p = .pointer (some ⟨b, 0, none⟩)) ∧ w.heap[b]? = some (.cells #[p, v] 104 (0, 0)) ∧ w.ownsRow B 5 1 v l.length (Lib.byteCells l) ∧ v.ownBlock ≠ some b ∧ S b ∧ (∀ g, v.ownBlock = some g → S g) ∧ ∀ x, S x → B ≤ x ∧ x < w.heap.size
theorem bytes_cells (l : List UInt8) : Lib.strCells (bs l) = Lib.byteCells l := by simp [Lib.strCells, Lib.byteCells, bs]
theorem cells_app (a b : List UInt8) : Lib.byteCells (a ++ b) = Lib.byteCells a ++ Lib.byteCells b := by simp [Lib.byteCells]
theorem byteCells_len (l : List UInt8) : (Lib.byteCells l).length = l.length := by simp [Lib.byteCells]
theorem BldAt.made {w : World} {B : Nat} (hB : B ≤ w.heap.size) : BldAt B (fun x => x = w.heap.size) w.heap.size [] (w.alloc (.cells #[.pointer none, .slice none 0 0] 104)) := by
  refine ⟨_, _, Or.inl rfl, (MapKept.heap_alloc w _).1, World.ownsRow_nil _ _ _ _, by simp [Value.ownBlock], rfl, by simp [Value.ownBlock], ?_⟩
  rintro x rfl
  exact ⟨hB, by simp⟩
theorem BldAt.keep {B b : Nat} {S : Nat → Prop} {l : List UInt8} {w w' : World} (h : BldAt B S b l w) (hz : w.heap.size ≤ w'.heap.size) (hk : ∀ x, x < w.heap.size → S x → w'.heap[x]? = w.heap[x]?) : BldAt B S b l w' := by
  obtain ⟨p, v, h1, h2, h3, h4, h5, h6, h7⟩ := h
  refine ⟨p, v, h1, (hk b (h7 b h5).2 h5).trans h2, ⟨h3.1, ?_⟩, h4, h5, h6, fun x hx => ⟨(h7 x hx).1, Nat.lt_of_lt_of_le (h7 x hx).2 hz⟩⟩
  rcases h3.2 with h | ⟨g, cap, cur, e, hg, hbb, hr⟩
  · exact Or.inl h
  · have hs := h6 g (by rw [e]; rfl)
    exact Or.inr ⟨g, cap, cur, e, hg, (hk g (h7 g hs).2 hs).trans hbb, hr⟩
theorem BldAt.below {B b : Nat} {S : Nat → Prop} {l : List UInt8} {w w' : World} (h : BldAt B S b l w) (hb : Below w.heap.size w w') : BldAt B S b l w' := h.keep hb.size fun x hx _ => hb.block x hx
theorem BldAt.more {B b : Nat} {S T : Nat → Prop} {l : List UInt8} {w : World} (h : BldAt B S b l w) (hs : ∀ x, S x → T x) (ht : ∀ x, T x → B ≤ x ∧ x < w.heap.size) : BldAt B T b l w := by
  obtain ⟨p, v, h1, h2, h3, h4, h5, h6, h7⟩ := h
  exact ⟨p, v, h1, h2, h3, h4, hs _ h5, fun g hg => hs _ (h6 g hg), ht⟩
theorem BldAt.is {B b : Nat} {S : Nat → Prop} {l : List UInt8} {w : World} (h : BldAt B S b l w) : Lib.IsBuilder 104 5 B b (Lib.byteCells l) w := by
  obtain ⟨p, v, h1, h2, h3, h4, h5, h6, h7⟩ := h
  have hx : (Lib.byteCells l).length = l.length := byteCells_len l
  rcases h1 with rfl | rfl
  · exact Or.inl ⟨(h7 b h5).1, v, h2, by rw [hx]; exact h3, h4⟩
  · exact Or.inr ⟨(h7 b h5).1, v, h2, by rw [hx]; exact h3, h4⟩
theorem BldAt.set {B b : Nat} {S : Nat → Prop} {l : List UInt8} {w : World} (h : BldAt B S b l w) : S b ∧ (∀ x, S x → B ≤ x ∧ x < w.heap.size) := by
  obtain ⟨p, v, h1, h2, h3, h4, h5, h6, h7⟩ := h
  exact ⟨h5, h7⟩
theorem builder_info : (Tryd.prog.info? 104).map (·.size) = some 2 := by kernel_rfl
theorem builder_lies : liesAt Tryd.prog Tryd.prog.depth 104 (2 / Tryd.prog.cellsOf 104) 0 104 1 = true := by kernel_rfl
theorem byte_info : (Tryd.prog.info? 5).map (fun i => (i.zero, i.size, i.bytes)) = some (some (.int .u8 0), 1, 1) := by kernel_rfl

set_option maxRecDepth 100000 in
set_option maxHeartbeats 2000000 in
theorem copyCheck_i {b : Nat} {p v : Value} {w : World} (hp : p = .pointer none ∨ p = .pointer (some ⟨b, 0, none⟩)) (h : w.heap[b]? = some (.cells #[p, v] 104 (0, 0))) :
    Calls Tryd.prog 106 #[.pointer (some ⟨b, 0, none⟩)] w fun e w' => e = .returned (.tuple #[]) ∧ w'.heap[b]? = some (.cells #[.pointer (some ⟨b, 0, none⟩), v] 104 (0, 0)) ∧ Spares (fun x => x = b) w w' ∧ w'.heap.size = w.heap.size := by
  obtain ⟨j, hj, hjs⟩ := Option.map_eq_some_iff.1 builder_info
  have h0 : w.cell? ⟨b, 0, none⟩ = some p := by rw [Lib.cell_of_heap h]; rfl
  have hz : w.frozen? ⟨b, 0, none⟩ = false := Lib.frozen_of_heap h 0
  have hs : w.shape? b = some (104, 2) := by simp [World.shape?, h]
  rcases hp with rfl | rfl
  · have hu := Lib.run_to_unsafe w ⟨b, 0, none⟩ Tryd.underlying101 Tryd.underlying143 hj (by rw [hjs]; decide) hs (Nat.zero_lt_succ 1)
    have hf := Lib.run_from_unsafe w ⟨b, 0, none⟩ Tryd.underlying143 Tryd.underlying101 hj hs builder_lies
    go_enter Tryd.func106, Tryd.ntmps106
    go_wp2_with fail
    rw [run_callFunc_extern Tryd.func116 (by kernel_rfl) (by kernel_rfl) (by kernel_rfl) (e := Extern.AbiNoEscape.same) (by kernel_rfl), Lib.run_noEscape]
    simp only [Result.andThen]
    rw [Oper.upon_value]
    go_wp2_with fail
    go_end0
    refine ⟨rfl, ?_, Spares.set (Spares.refl _), by simp [World.setCell]⟩
    have hB : Blk w b 104 [.pointer none, v] := h
    exact hB.set 0 (.pointer (some ⟨b, 0, none⟩))
  · have hn := Lib.run_neq_ptr_same w ⟨b, 0, none⟩ Tryd.underlying101 hj
    go_enter Tryd.func106, Tryd.ntmps106
    go_wp2_with fail
    go_end0
    exact ⟨rfl, h, Spares.refl _, rfl⟩

/-- Where a text's bytes go to: behind what is there, or into a new block. -/
theorem append_text_at {P : Program} (w : World) (base : Nat) (t u ty e : TypeId) (i : TypeInfo) (ht : P.underlying t = some (.slice e)) (hu : P.underlying u = some .string) (hi : P.info? e = some i) (hz : i.zero = some (.int .u8 0))
    (hsize : i.size = 1) (hby : i.bytes = 1) (v : Value) (n : Nat) (xs : List Value) (hown : w.ownsRow base e 1 v n xs) (s : ByteArray) (h63 : n + s.size ≤ maxLen) (hbytes : n + s.size ≤ 140737488355328) (hbase : base ≤ w.heap.size) :
    ∃ v' w', (Builtin.append_ #[t, u] ty #[v, .string s]).run P w = .ok v' w' ∧ w'.ownsRow base e 1 v' (n + s.size) (xs ++ Lib.strCells s) ∧ w.grownBy w' v.ownBlock ∧ (v'.ownBlock = v.ownBlock ∨ v'.ownBlock = some w.heap.size) := by
  obtain ⟨v', w', hr, h2, h3, h4⟩ := Lib.run_append_own_string (P := P) w base t u ty e i ht hu hi hz hsize hby v n xs hown s h63 hbytes hbase
  refine ⟨v', w', hr, h2, h3, ?_⟩
  rcases hown.2 with ⟨rfl, rfl⟩ | ⟨g, cap, cur, rfl, hbg, hg, hnc, hcm, hcs, htake⟩
  · by_cases hm : s.size = 0
    · rw [h4.2 ⟨rfl, hm⟩]
      exact Or.inl rfl
    · have hr' := run_append_nil_string (P := P) w t u ty e i (.int .u8 0) ht hu hi hz s (by omega) (by unfold maxLen at h63; omega) (by rw [hby]; omega)
      rw [hr] at hr'
      cases hr'
      exact Or.inr rfl
  · have hcs' : cur.size = cap := by simpa using hcs
    have hxl : xs.length = n := by simpa using hown.1
    by_cases hroom : n + s.size ≤ cap
    · have hr' := Lib.run_append_room_string (P := P) w t u ty e i ht hu hi hsize g n cap cur hg s hroom (by omega)
      rw [hr] at hr'
      cases hr'
      exact Or.inl rfl
    · have hr' := Lib.run_append_grow_string (P := P) w t u ty e i (.int .u8 0) ht hu hi hz ⟨g, 0, none⟩ n cap xs (by rw [hsize]; simpa using hxl) (hown.cells (g := g) rfl) s (by omega) (by unfold maxLen at h63; omega) (by rw [hby]; exact growslice_fits (by omega) (by omega))
      rw [hr] at hr'
      cases hr'
      exact Or.inr rfl
theorem wpList_append_text {P : Program} (w : World) {ops : Array Oper} {rest : List Oper} {o : Oper} {a : Act} {Q : Exit → Act → World → Prop} (hgd : o.guard = none) (sl x : Operand) (t u : TypeId)
    (ho : o.op = .call { callee := .builtin .append, args := #[sl, x], argTypes := #[t, u] }) (base : Nat) (e : TypeId) (ht : P.underlying t = some (.slice e)) (hu : P.underlying u = some .string)
    (hinfo : (P.info? e).map (fun i => (i.zero, i.size, i.bytes)) = some (some (.int .u8 0), 1, 1)) (v : Value) (n : Nat) (xs : List Value) (hs : a.eval sl = v) (hown : w.ownsRow base e 1 v n xs) (s : ByteArray) (hx : a.eval x = .string s)
    (h63 : n + s.size ≤ maxLen) (hbytes : n + s.size ≤ 140737488355328) (hbase : base ≤ w.heap.size)
    (h : ∀ ao n' cap w', w'.ownsRow base e 1 (.slice ao n' cap) (n + s.size) (xs ++ Lib.strCells s) → w.grownBy w' v.ownBlock → (Value.ownBlock (.slice ao n' cap) = v.ownBlock ∨ Value.ownBlock (.slice ao n' cap) = some w.heap.size) → wpList P ops Q rest (a.put o.dst (.slice ao n' cap)) w') : wpList P ops Q (o :: rest) a w := by
  obtain ⟨i, hi, hz, hsize, hby⟩ := info_parts hinfo
  refine wpList_plain hgd fun K hK => ?_
  obtain ⟨v', w', hr, h2, h3, h4⟩ := append_text_at (P := P) w base t u o.type e i ht hu hi hz hsize hby v n xs hown s h63 hbytes hbase
  obtain ⟨ao, n', cap, rfl⟩ : ∃ ao n' cap, v' = .slice ao n' cap := by rcases h2.2 with ⟨e, _⟩ | ⟨g, cap, cur, e, _⟩ <;> exact ⟨_, _, _, e⟩
  unfold Oper.wp execOp
  simp only [ho, resolve, invoke, builtin, Sem.run_bind, Sem.run_pure, Result.andThen_ok, List.map_toArray, List.map_cons, List.map_nil, hs, hx, hr]
  exact hK _ _ (h ao n' cap w' h2 h3 h4)

set_option maxRecDepth 100000 in
set_option maxHeartbeats 2000000 in
theorem WriteString_i {B b : Nat} {S : Nat → Prop} {l s : List UInt8} {w : World} (h : BldAt B S b l w) (hlen : l.length + s.length ≤ 1000000000) (hB : B ≤ w.heap.size) :
    Calls Tryd.prog 82 #[.pointer (some ⟨b, 0, none⟩), .string (bs s)] w fun e w' => (∃ u, e = .returned u) ∧ BldAt B (fun x => S x ∨ (w.heap.size ≤ x ∧ x < w'.heap.size)) b (l ++ s) w' ∧ Spares S w w' := by
  obtain ⟨p, v, h1, h2, h3, h4, h5, h6, h7⟩ := h
  have Hl := Lib.hid (bs_size s)
  go_enter Tryd.func82, Tryd.ntmps82
  go_wp2_with fail
  refine (copyCheck_i h1 h2).mono ?_
  rintro e w1 ⟨rfl, hbk, hsp, hz⟩
  have hown : w1.ownsRow B 5 1 v l.length (Lib.byteCells l) := by
    refine ⟨h3.1, ?_⟩
    rcases h3.2 with h | ⟨g, cap, cur, e, hg, hbb, hr⟩
    · exact Or.inl h
    · have hgb : g ≠ b := fun q => h4 (by rw [e, q]; rfl)
      exact Or.inr ⟨g, cap, cur, e, hg, (hsp.block g (h7 g (h6 g (by rw [e]; rfl))).2 hgb).trans hbb, hr⟩
  have c0 : w1.cell? ⟨b, 0, none⟩ = some (.pointer (some ⟨b, 0, none⟩)) := by rw [Lib.cell_of_heap hbk]; rfl
  have c1 : w1.cell? ⟨b, 1, none⟩ = some v := by rw [Lib.cell_of_heap hbk]; rfl
  have hlt : b < w1.heap.size := (Array.getElem?_eq_some_iff.1 hbk).1
  have Hz := Lib.hid hz
  have hBz : B ≤ w1.heap.size := by omega
  have HS := Lib.hid hsp
  have H7 := Lib.hid h7
  have H2 := Lib.hid h2
  clear hz hsp h7 h2
  go_wp2_with (at_builtin; refine wpList_append_text _ rfl _ _ 102 9 rfl B 5 Tryd.underlying102 Tryd.underlying9 byte_info _ _ _ rfl hown (bs s) rfl (by rw [Hl.out]; unfold maxLen; omega) (by rw [Hl.out]; omega) hBz ?_; intro ao n' cap w2 hown' hgrow hat; have hb2 : w2.heap[b]? = some (.cells #[.pointer (some ⟨b, 0, none⟩), v] 104 (0, 0)) := (by rw [hgrow.block b hlt (fun e => h4 e.symm)]; exact hbk); have d1 : w2.cell? ⟨b, 1, none⟩ = some v := (by rw [Lib.cell_of_heap hb2]; rfl); have f1 : w2.frozen? ⟨b, 1, none⟩ = false := Lib.frozen_of_heap hb2 1; clear c0 c1)
  go_ret2
  have hgz := hgrow.size
  rw [bytes_cells] at hown'
  have hne := Lib.ownBlock_ne hown' hb2 (by decide)
  have hblk : Blk w2 b 104 [.pointer (some ⟨b, 0, none⟩), v] := hb2
  have hsz2 : (w2.setCell ⟨b, 1, none⟩ (.slice ao n' cap)).heap.size = w2.heap.size := by simp [World.setCell]
  have Hz := Hz.out
  have H7 := H7.out
  refine ⟨⟨_, rfl⟩, ⟨_, _, Or.inr rfl, hblk.set 1 (.slice ao n' cap), ?_, hne, Or.inl h5, ?_, ?_⟩, ?_⟩
  · rw [cells_app, List.length_append, show s.length = (bs s).size from (bs_size s).symm]
    refine ⟨hown'.1, ?_⟩
    rcases hown'.2 with h | ⟨g, cap', cur, e, hg, hbb, hr⟩
    · exact Or.inl h
    · exact Or.inr ⟨g, cap', cur, e, hg, (Below.heap_setCell _ _ _ _ (fun q => hne (by rw [e]; show some g = some b; rw [q]))).trans hbb, hr⟩
  · intro g hg
    rcases hat with h | h
    · exact Or.inl (h6 g (h ▸ hg))
    · rw [h] at hg
      cases hg
      exact Or.inr (by rw [hsz2]; rcases hown'.2 with ⟨e, _⟩ | ⟨g, cap', cur, e, _, hbb, _⟩
                       · rw [e] at h; cases h
                       · rw [e] at h
                         simp only [Value.ownBlock, Option.some.injEq] at h
                         have := (Array.getElem?_eq_some_iff.1 hbb).1
                         omega)
  · intro x hx
    rw [hsz2]
    rcases hx with hx | hx
    · have := H7 x hx; omega
    · rw [hsz2] at hx; omega
  · have HS := HS.out
    refine ⟨hgrow.os.trans HS.os, hgrow.tape.trans HS.tape, hgrow.output.trans HS.output, by rw [hsz2]; omega, fun x hx hn => ?_⟩
    have hxb : x ≠ b := fun q => hn (q ▸ h5)
    have hxv : some x ≠ v.ownBlock := fun q => hn (h6 x q.symm)
    rw [Below.heap_setCell _ _ _ _ hxb, hgrow.block x (by omega) hxv]
    exact HS.block x hx hxb
theorem String_i {B b : Nat} {S : Nat → Prop} {l : List UInt8} {w : World} (h : BldAt B S b l w) (hB : B ≤ w.heap.size) :
    Calls Tryd.prog 84 #[.pointer (some ⟨b, 0, none⟩)] w fun e w' => e = .returned (.string (bs l)) ∧ Below B w w' := Tryd.Builder_String_any B b l w h.is hB
/-- A builder on its way: since w1 nothing but its own blocks, which lie in S or came later, has turned. -/
structure BldS (B b : Nat) (S : Nat → Prop) (w1 : World) (l : List UInt8) (w : World) : Prop where
  ex : ∃ T : Nat → Prop, BldAt B T b l w ∧ ∀ x, T x → S x ∨ w1.heap.size ≤ x
  sp : Spares S w1 w
theorem BldS.start {B b : Nat} {S : Nat → Prop} {l : List UInt8} {w1 : World} (h : BldAt B S b l w1) : BldS B b S w1 l w1 := ⟨⟨S, h, fun _ hx => Or.inl hx⟩, Spares.refl _⟩
theorem BldS.next {B b : Nat} {S T : Nat → Prop} {l l' : List UInt8} {w1 w w' : World} (h : BldS B b S w1 l w) (hT : ∀ x, T x → S x ∨ w1.heap.size ≤ x) (hb : BldAt B (fun x => T x ∨ (w.heap.size ≤ x ∧ x < w'.heap.size)) b l' w') (hs : Spares T w w') : BldS B b S w1 l' w' := by
  have hz := h.sp.size
  refine ⟨⟨_, hb, fun x hx => ?_⟩, ⟨hs.os.trans h.sp.os, hs.tape.trans h.sp.tape, hs.output.trans h.sp.output, Nat.le_trans hz hs.size, fun x hx hn => ?_⟩⟩
  · rcases hx with hx | hx
    · exact hT x hx
    · exact Or.inr (by omega)
  · rw [hs.block x (by omega) (fun hTx => by
      rcases hT x hTx with h1 | h1
      · exact hn h1
      · omega)]
    exact h.sp.block x hx hn
theorem BldS.other {B b : Nat} {S : Nat → Prop} {l : List UInt8} {w1 w w' : World} (h : BldS B b S w1 l w) (hb : Below w.heap.size w w') : BldS B b S w1 l w' := by
  obtain ⟨⟨T, hT, hTS⟩, hsp⟩ := h
  exact ⟨⟨T, hT.below hb, hTS⟩, hsp.trans (Spares.of_below hb)⟩
theorem BldS.done {B b : Nat} {S : Nat → Prop} {l : List UInt8} {w w1 w' : World} (h : BldS B b S w1 l w') (hb : Below w.heap.size w w1) (hS : ∀ x, S x → B ≤ x ∧ x < w.heap.size) (hB : B ≤ w.heap.size) : BldAt B (fun x => S x ∨ (w.heap.size ≤ x ∧ x < w'.heap.size)) b l w' ∧ Spares S w w' := by
  obtain ⟨⟨T, hT, hTS⟩, hsp⟩ := h
  have h1 := hT.set.2
  have hz := hb.size
  have hz' := hsp.size
  refine ⟨hT.more (fun x hx => ?_) (fun x hx => ?_), (Spares.of_below hb).trans hsp⟩
  · have := h1 x hx
    rcases hTS x hx with h | h
    · exact Or.inl h
    · exact Or.inr (by omega)
  · rcases hx with hx | hx
    · have := hS x hx; omega
    · omega
end Go.Proofs.YtlnojmmjpgpjdaaDoor
