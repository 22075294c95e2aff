/-
  A slice of the call's own that grows by append: what it holds, and append's law on it.
-/
import Derived.Test.YtlnojmmjpgpjdaaDoorMem
import Derived.Deep.AppendLies
namespace Go.Proofs.YtlnojmmjpgpjdaaDoor
open Go.ChangeShapes Go.WideShapes Go.ChangeAt Go.RowKit Go.Deep

/-- A slice in blocks of its own, none of which was in W; its row begins at the head of a block. -/
def App (W w : World) (t : TypeId) (size n : Nat) (ds : List D) (v : Value) : Prop :=
  ∃ xs F, w.ownsRow W.heap.size t size v n xs ∧ Ows w ds xs F ∧ F.Nodup ∧ ∀ b ∈ F, W.heap.size ≤ b ∧ v.ownBlock ≠ some b

theorem App.nil {W w : World} {t size : Nat} : App W w t size 0 [] (.slice none 0 0) := ⟨[], [], World.ownsRow_nil _ _ _ _, Ows.nil, by simp, by simp⟩
theorem App.empty {W w : World} {t size g : Nat} (h : Blk w g t []) (hg : W.heap.size ≤ g) : App W w t size 0 [] (.slice (some ⟨g, 0, none⟩) 0 0) :=
  ⟨[], [], ⟨by simp, Or.inr ⟨g, 0, #[], rfl, hg, by simpa [Blk] using h, by omega, by simp [maxLen], by simp, by simp⟩⟩, Ows.nil, by simp, by simp⟩
theorem App.len {W w : World} {t size n : Nat} {ds : List D} {v : Value} (h : App W w t size n ds v) : ds.length = n * size := by
  obtain ⟨xs, F, h1, h2, _⟩ := h
  rw [← h2.length, h1.1]
theorem App.shape {W w : World} {t size n : Nat} {ds : List D} {v : Value} (h : App W w t size n ds v) : ∃ a cap, v = .slice a n cap ∧ n ≤ cap ∧ cap ≤ maxLen := by
  obtain ⟨xs, F, ⟨_, h1⟩, _⟩ := h
  rcases h1 with ⟨rfl, rfl⟩ | ⟨g, cap, cur, rfl, _, _, h2, h3, _⟩
  · exact ⟨none, 0, rfl, by omega, by simp [maxLen]⟩
  · exact ⟨_, cap, rfl, h2, h3⟩
theorem App.lt {W w : World} {t size n : Nat} {ds : List D} {v : Value} (h : App W w t size n ds v) : ∀ k, v.ownBlock = some k → W.heap.size ≤ k ∧ k < w.heap.size := by
  obtain ⟨xs, F, h1, _⟩ := h
  exact h1.lt
theorem App.keep {W w w' : World} {t size n : Nat} {ds : List D} {v : Value} (h : App W w t size n ds v) (hk : ∀ b, b < w.heap.size → W.heap.size ≤ b → w'.heap[b]? = w.heap[b]?) : App W w' t size n ds v := by
  obtain ⟨xs, F, h1, h2, h3, h4⟩ := h
  refine ⟨xs, F, ⟨h1.1, ?_⟩, h2.keep fun b hb => hk b (h2.lt b hb) (h4 b hb).1, h3, h4⟩
  rcases h1.2 with h | ⟨g, cap, cur, e, hg, hb, hr⟩
  · exact Or.inl h
  · exact Or.inr ⟨g, cap, cur, e, hg, (hk g (Array.getElem?_eq_some_iff.1 hb).1 hg).trans hb, hr⟩
theorem App.below {W w w' : World} {t size n : Nat} {ds : List D} {v : Value} (h : App W w t size n ds v) (hb : Below w.heap.size w w') : App W w' t size n ds v := h.keep fun b hl _ => hb.block b hl
theorem App.alloc {W w : World} {t size n : Nat} {ds : List D} {v : Value} (h : App W w t size n ds v) (o : Obj) : App W (w.alloc o) t size n ds v := h.below (Below.alloc (Below.refl _ _) (Nat.le_refl _) o)
theorem App.fresh {W w : World} {t size n : Nat} {ds : List D} {v : Value} (h : App W w t size n ds v) : Fresh W w (.sl size n ds) v := by
  have hlen := h.len
  obtain ⟨xs, F, h1, h2, h3, h4⟩ := h
  have hxl := h1.1
  rcases h1.2 with ⟨rfl, rfl⟩ | ⟨g, cap, cur, rfl, hg, hb, h5, h6, h7, h8⟩
  · exact ⟨[], by simp only [Ow]; exact ⟨_, 0, rfl, by omega, by simp [maxLen], hlen, by simp, Or.inl (by simp)⟩, by simp, by simp⟩
  · by_cases h0 : n = 0
    · exact ⟨[], by simp only [Ow]; exact ⟨_, cap, rfl, h5, h6, hlen, by simp, Or.inl (by simp [h0])⟩, by simp, by simp⟩
    · have hblk : Blk w g t cur.toList := by simpa [Blk] using hb
      refine ⟨g :: F, by simp only [Ow]; exact ⟨_, cap, rfl, h5, h6, hlen, by simp, Or.inr ⟨g, 0, xs, F, rfl, rfl, hblk.free, hblk.row (by rw [hxl]; exact h8), h2⟩⟩, ?_, ?_⟩
      · rw [List.nodup_cons]
        exact ⟨fun hm => (h4 g hm).2 rfl, h3⟩
      · intro b hm
        rcases List.mem_cons.1 hm with rfl | hm
        · exact hg
        · exact (h4 b hm).1
theorem App.rd {W w : World} {t size n : Nat} {ds : List D} {v : Value} (h : App W w t size n ds v) : Rd w (.sl size n ds) v := h.fresh.rd
/-- What append leaves of old memory. -/
theorem App.grown {W w w' : World} {t size n : Nat} {ds : List D} {v : Value} (h : App W w t size n ds v) (hB : Below W.heap.size W w) (hg : w.grownBy w' v.ownBlock) : Below W.heap.size W w' :=
  hB.trans ⟨hg.os, hg.tape, hg.output, hg.size, fun k hk => hg.block k (Nat.lt_of_lt_of_le hk hB.size) (fun e => by have := (h.lt k e.symm).1; omega)⟩
/-- A block that append does not turn. -/
theorem App.apart {W w w' : World} {t size n : Nat} {ds : List D} {v : Value} (h : App W w t size n ds v) (hg : w.grownBy w' v.ownBlock) {b : Nat} (hb : b < W.heap.size) (hz : W.heap.size ≤ w.heap.size) : w'.heap[b]? = w.heap[b]? :=
  hg.block b (by omega) (fun e => by have := (h.lt b e.symm).1; omega)

/-- APPEND: the slice as it was in w1, the elements in blocks that w1 had not. -/
theorem wpList_append_app {P : Program} (w : World) {ops : Array Oper} {rest : List Oper} {o : Oper} {a : Act} {Q : Exit → Act → World → Prop} (hgd : o.guard = none) (s x : Operand) (t : TypeId)
    (ho : o.op = .call { callee := .builtin .append, args := #[s, x], argTypes := #[t, t] })
    (e : TypeId) (z : Value) (size bytes : Nat) (ht : P.underlying t = some (.slice e)) (hinfo : (P.info? e).map (fun i => (i.zero, i.size, i.bytes)) = some (some z, size, bytes)) (hzs : z.cells.size = size) (hsz : 0 < size)
    {W w1 : World} (v : Value) {n : Nat} {ds : List D} (hs : a.eval s = v) (happ : App W w1 e size n ds v) (hb : Below w1.heap.size w1 w) (hB : W.heap.size ≤ w1.heap.size)
    (ad : Addr) (m c : Nat) {es : List D} (news : List Value) (hx : a.eval x = .slice (some ad) m c) (hnews : ∀ j u, news[j]? = some u → w.cell? (ad.add j) = some u) (hes : Freshs w1 w es news)
    (hl : news.length = m * size) (h1 : ∀ u ∈ news, u.oneCell' = true) (hm : 0 < m) (hbytes : (n + m) * bytes ≤ 140737488355328) (h63 : n + m ≤ maxLen)
    (h : ∀ g cap w', App W w' e size (n + m) (ds ++ es) (.slice (some ⟨g, 0, none⟩) (n + m) cap) → Below W.heap.size w w' → wpList P ops Q rest (a.put o.dst (.slice (some ⟨g, 0, none⟩) (n + m) cap)) w') : wpList P ops Q (o :: rest) a w := by
  obtain ⟨i, hi, hz, hsize, hby⟩ := info_parts hinfo
  have hz1 := hb.size
  obtain ⟨xs, F, a1, a2, a3, a4⟩ := happ.below hb
  have a5 := happ.lt
  obtain ⟨G, g1, g2, g3⟩ := hes
  obtain ⟨xs', F', b1, b2, b3, b4⟩ := happ
  -- the same cells and blocks as in w1
  have a6 : ∀ b ∈ F', b < w1.heap.size := b2.lt
  have b1' : w.ownsRow W.heap.size e size v n xs' := by
    refine ⟨b1.1, ?_⟩
    rcases b1.2 with h | ⟨g, cap, cur, q, hg, hbb, hr⟩
    · exact Or.inl h
    · exact Or.inr ⟨g, cap, cur, q, hg, (hb.block g (Array.getElem?_eq_some_iff.1 hbb).1).trans hbb, hr⟩
  have b2' : Ows w ds xs' F' := b2.keep fun b hb' => hb.block b (a6 b hb')
  refine wpList_append_lies w hgd s x t ho W.heap.size e i z size bytes ht hi hz hsize hby hzs hsz v n xs' hs b1' ad m c news hx hl hnews h1 hm h63 hbytes (by omega) w.heap.size rfl ?_
  intro g cap w' k1 k2 k3 k4
  have hF : ∀ b ∈ F', some b ≠ v.ownBlock := fun b hb' e => (b4 b hb').2 e.symm
  have hG : ∀ b ∈ G, some b ≠ v.ownBlock := fun b hb' e => by have := (a5 b e.symm).2; have := g3 b hb'; omega
  refine h g cap w' ⟨xs' ++ news, F' ++ G, k1, Ows.append (b2'.keep fun b hb' => k2.block b (b2'.lt b hb') (hF b hb')) (g1.keep fun b hb' => k2.block b (g1.lt b hb') (hG b hb')), ?_, ?_⟩ ⟨k2.os, k2.tape, k2.output, k2.size, fun b hb' => k2.block b (by omega) (fun e => by have := (a5 b e.symm).1; omega)⟩
  · rw [List.nodup_append]
    refine ⟨b3, g2, fun p hp q hq hpq => ?_⟩
    subst hpq
    have := a6 p hp
    have := g3 p hq
    omega
  · intro b hm'
    have hgb : ∀ b, some b ≠ v.ownBlock → b < w.heap.size → Value.ownBlock (.slice (some ⟨g, 0, none⟩) (n + m) cap) ≠ some b := by
      intro b hne hlt e
      simp only [Value.ownBlock, Option.some.injEq] at e
      subst e
      rcases k3 with k3 | k3
      · exact hne k3.symm
      · omega
    rcases List.mem_append.1 hm' with hm' | hm'
    · exact ⟨(b4 b hm').1, hgb b (hF b hm') (b2'.lt b hm')⟩
    · exact ⟨by have := g3 b hm'; omega, hgb b (hG b hm') (g1.lt b hm')⟩

/-- One number as elements of their own. -/
theorem Freshs.int {w w' : World} (z : Int) : Freshs w w' [.int z] [.int .i64 z] := ⟨[], Ows.cons (Ow.int z) Ows.nil, by simp, by simp⟩
theorem Freshs.ints {w w' : World} : ∀ zs : List Int, Freshs w w' (zs.map D.int) (zs.map (Value.int .i64)) := by
  intro zs
  refine ⟨[], ?_, by simp, by simp⟩
  induction zs with
  | nil => exact Ows.nil
  | cons z r ih => exact Ows.cons (Ow.int z) ih
theorem one_news {w : World} {g : Nat} {v : Value} (h : w.cell? ⟨g, 0, none⟩ = some v) : ∀ j u, [v][j]? = some u → w.cell? ((⟨g, 0, none⟩ : Addr).add j) = some u := by
  intro j u hj
  match j, hj with
  | 0, hj => simp at hj; subst hj; simpa [Addr.add] using h

theorem Ows.ints_eq {w : World} : ∀ {zs : List Int} {xs : List Value} {F : List Nat}, Ows w (zs.map D.int) xs F → xs = zs.map (Value.int .i64) ∧ F = []
  | [], xs, F, h => by simp only [List.map_nil, Ows] at h; exact h
  | z :: r, xs, F, h => by
    simp only [List.map_cons, Ows, Ow] at h
    obtain ⟨x, q, G, K, rfl, rfl, ⟨rfl, rfl⟩, h⟩ := h
    obtain ⟨rfl, rfl⟩ := Ows.ints_eq h
    simp
theorem Rds.ints_eq {w : World} : ∀ {zs : List Int} {xs : List Value}, Rds w (zs.map D.int) xs → xs = zs.map (Value.int .i64)
  | [], xs, h => by simp only [List.map_nil, Rds] at h; simp [h]
  | z :: r, xs, h => by
    simp only [List.map_cons, Rds, Rd] at h
    obtain ⟨x, q, rfl, rfl, h⟩ := h
    rw [Rds.ints_eq h]
    simp
/-- The cells of a list of numbers, as append takes them. -/
theorem ints_news {w : World} {zs : List Int} {b o len cap : Nat} (h : Rd w (intsD zs) (.slice (some ⟨b, o, none⟩) len cap)) : ∀ j u, (zs.map (Value.int .i64))[j]? = some u → w.cell? ((⟨b, o, none⟩ : Addr).add j) = some u := by
  intro j u hj
  rw [List.getElem?_map] at hj
  cases hz : zs[j]? with
  | none => rw [hz] at hj; cases hj
  | some z =>
    rw [hz] at hj
    simp at hj
    subst hj
    have := (int_in h hz).2
    by_cases hj0 : j = 0
    · subst hj0; simpa [Addr.add] using this
    · simpa [Addr.add, hj0] using this

/-- append WITH NOTHING BEHIND: the slice is as it was, or a new one; numbers. -/
theorem wpList_append_ints {P : Program} (w : World) {ops : Array Oper} {rest : List Oper} {o : Oper} {a : Act} {Q : Exit → Act → World → Prop} (hgd : o.guard = none) (s x : Operand) (t : TypeId)
    (ho : o.op = .call { callee := .builtin .append, args := #[s, x], argTypes := #[t, t] })
    (e : TypeId) (ht : P.underlying t = some (.slice e)) (hinfo : (P.info? e).map (fun i => (i.zero, i.size, i.bytes)) = some (some (.int .i64 0), 1, 8))
    {W : World} (v : Value) {zs ys : List Int} (hs : a.eval s = v) (happ : App W w e 1 zs.length (zs.map D.int) v) (hB : W.heap.size ≤ w.heap.size)
    {sa : Option Addr} {c : Nat} (hx : a.eval x = .slice sa ys.length c) (hr : Rd w (intsD ys) (.slice sa ys.length c)) (hlen : zs.length + ys.length ≤ 1000000000000)
    (h : ∀ a' cap w', App W w' e 1 (zs ++ ys).length ((zs ++ ys).map D.int) (.slice a' (zs ++ ys).length cap) → Below W.heap.size w w' → wpList P ops Q rest (a.put o.dst (.slice a' (zs ++ ys).length cap)) w') : wpList P ops Q (o :: rest) a w := by
  have e1 : (zs ++ ys).length = zs.length + ys.length := by simp
  by_cases h0 : ys = []
  · subst h0
    simp only [List.length_nil, List.append_nil] at *
    obtain ⟨xs, F, a1, a2, a3, a4⟩ := happ
    obtain ⟨rfl, rfl⟩ := a2.ints_eq
    obtain ⟨i, hi, hz, hsize, hby⟩ := info_parts hinfo
    cases sa with
    | some ad =>
      refine wpList_append_own w hgd s x t ho W.heap.size e i (.int .i64 0) 1 8 ht hi hz hsize hby rfl (by decide) v zs.length (zs.map (Value.int .i64)) hs a1 ad 0 c [] hx rfl (by simp) (by simp) (by unfold maxLen; omega) (by omega) hB ?_
      intro v' w' k1 k2 _
      simp only [Nat.add_zero, List.append_nil] at k1
      have happ' : App W w' e 1 zs.length (zs.map D.int) v' := ⟨_, [], k1, by
        obtain ⟨G, hG, _⟩ := Freshs.ints (w := w) (w' := w') zs
        obtain ⟨_, rfl⟩ := hG.ints_eq
        exact hG, by simp, by simp⟩
      obtain ⟨a', cap, rfl, _⟩ := happ'.shape
      refine h a' cap w' happ' ⟨k2.os, k2.tape, k2.output, k2.size, fun b hb => k2.block b (by omega) (fun e => by have := (a1.lt b e.symm).1; omega)⟩
    | none =>
      obtain ⟨_, _, _, _, hc, _⟩ := hr.sl_at
      obtain rfl : c = 0 := hc rfl
      have happ' : App W w e 1 zs.length (zs.map D.int) v := ⟨_, [], a1, a2, by simp, by simp⟩
      obtain ⟨a', cap, rfl, hcap, _⟩ := happ'.shape
      have hrun : (Builtin.append_ #[t, t] o.type #[.slice a' zs.length cap, .slice none 0 0]).run P w = .ok (.slice a' zs.length cap) w := by
        cases a' with
        | none =>
          rcases a1.2 with ⟨e, _⟩ | ⟨g, cap', cur, e, _⟩
          · simp only [Value.slice.injEq] at e
            obtain ⟨_, hz', rfl⟩ := e
            rw [hz']
            simp [Builtin.append_, run_underlying ht, sizeOf, typeInfo, hi, Builtin.lenOf, Builtin.firstCells]
          · simp at e
        | some p =>
          simp [Builtin.append_, run_underlying ht, sizeOf, typeInfo, hi, Builtin.lenOf, Builtin.firstCells, hcap, storeCells]
      refine wpList_plain hgd fun K hK => ?_
      unfold Oper.wp execOp
      simp only [ho, resolve, invoke, builtin, Sem.run_bind, Sem.run_pure, Result.andThen_ok, List.map_toArray, List.map_cons, List.map_nil, hs, hx, hrun]
      exact hK _ _ (h a' cap w happ' ⟨rfl, rfl, rfl, Nat.le_refl _, fun _ _ => rfl⟩)
  · have hpos : 0 < ys.length := List.length_pos_iff.2 h0
    obtain ⟨b, o', rfl⟩ := int_some hr hpos
    refine wpList_append_app w hgd s x t ho e (.int .i64 0) 1 8 ht hinfo rfl (by decide) v hs happ (Below.refl _ _) hB ⟨b, o', none⟩ ys.length c (ys.map (Value.int .i64)) hx (ints_news hr) (Freshs.ints ys) (by simp) (by simp [Value.oneCell']) hpos (by omega) (by unfold maxLen; omega) ?_
    intro g cap w' k1 k2
    have := h (some ⟨g, 0, none⟩) cap w' (by rw [e1, List.map_append]; exact k1) k2
    rwa [e1] at this

/-- A slice against nil. -/
theorem equalIn_nil {P : Program} (w : World) (d : Nat) (t e : TypeId) (a : Option Addr) (l c : Nat) (h : P.underlying t = some (.slice e)) : (Op.equalIn (d + 1) t (.slice a l c) (.slice none 0 0)).run P w = .ok a.isNone w := by
  cases a <;> simp [Op.equalIn, run_underlying h]
theorem equal_nil {P : Program} (w : World) (t e : TypeId) (a : Option Addr) (l c : Nat) (h : P.underlying t = some (.slice e)) : (Op.equal t (.slice a l c) (.slice none 0 0)).run P w = .ok a.isNone w := equalIn_nil w 9999 t e a l c h
theorem eql_nil {P : Program} (t e : TypeId) (a : Option Addr) (l c : Nat) (h : P.underlying t = some (.slice e)) (w : World) : (binOp .eql t (.slice a l c) (.slice none 0 0)).run P w = .ok (.bool a.isNone) w := by
  simp [binOp, equal_nil w t e a l c h]
end Go.Proofs.YtlnojmmjpgpjdaaDoor
