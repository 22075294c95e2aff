/-
  A slice of the call's own that grows by append, with the blocks that it owns as a set: for regions that draw their order.
-/
import Derived.Test.YtlnojmmjpgpjdaaDoorApp
import Derived.Test.YtlnojmmjpgpjdaaDoorRs
namespace Go.Proofs.YtlnojmmjpgpjdaaDoor
open Go.ChangeShapes Go.WideShapes Go.ChangeAt Go.RowKit Go.Deep

/-- A slice whose row begins at the head of a block; all its blocks are of S. -/
def AppS (S : Nat → Prop) (w : World) (t : TypeId) (size n : Nat) (ds : List D) (v : Value) : Prop :=
  ∃ xs F, w.ownsRow 0 t size v n xs ∧ Ows w ds xs F ∧ F.Nodup ∧ (∀ b ∈ F, S b ∧ v.ownBlock ≠ some b) ∧ ∀ b, v.ownBlock = some b → S b
/-- Data in blocks of S. -/
def OwS (S : Nat → Prop) (w : World) (ds : List D) (vs : List Value) : Prop := ∃ F : List Nat, Ows w ds vs F ∧ F.Nodup ∧ ∀ b ∈ F, S b

theorem OwS.keep {S : Nat → Prop} {w w' : World} {ds : List D} {vs : List Value} (h : OwS S w ds vs) (hk : ∀ b, b < w.heap.size → S b → w'.heap[b]? = w.heap[b]?) : OwS S w' ds vs := by
  obtain ⟨F, h1, h2, h3⟩ := h
  exact ⟨F, h1.keep fun b hb => hk b (h1.lt b hb) (h3 b hb), h2, h3⟩
theorem OwS.more {S T : Nat → Prop} {w : World} {ds : List D} {vs : List Value} (h : OwS S w ds vs) (hs : ∀ b, b < w.heap.size → S b → T b) : OwS T w ds vs := by
  obtain ⟨F, h1, h2, h3⟩ := h
  exact ⟨F, h1, h2, fun b hb => hs b (h1.lt b hb) (h3 b hb)⟩
theorem OwS.rds {S : Nat → Prop} {w : World} {ds : List D} {vs : List Value} (h : OwS S w ds vs) : Rds w ds vs := by
  obtain ⟨F, h1, _⟩ := h
  exact h1.rds
theorem OwS.freshs {S : Nat → Prop} {W w : World} {ds : List D} {vs : List Value} (h : OwS S w ds vs) (hS : ∀ b, S b → W.heap.size ≤ b) : Freshs W w ds vs := by
  obtain ⟨F, h1, h2, h3⟩ := h
  exact ⟨F, h1, h2, fun b hb => hS b (h3 b hb)⟩
theorem FreshIn.ows {p : Nat × Nat} {w : World} {ds : List D} {vs : List Value} (h : FreshIn p w ds vs) : OwS (fun b => p.1 ≤ b ∧ b < p.2) w ds vs := h
theorem FreshIn.keep {p : Nat × Nat} {w w' : World} {ds : List D} {vs : List Value} (h : FreshIn p w ds vs) (hk : ∀ b, b < w.heap.size → p.1 ≤ b → b < p.2 → w'.heap[b]? = w.heap[b]?) : FreshIn p w' ds vs :=
  OwS.keep h fun b h1 h2 => hk b h1 h2.1 h2.2

/-- The three cells of an expression whose kids are owned. -/
theorem FreshIn.three {p : Nat × Nat} {w : World} {a b : Int} {d : D} {v : Value} (h : FreshIn p w [d] [v]) : FreshIn p w [.int a, .int b, d] [.int .i64 a, .int .i64 b, v] := by
  obtain ⟨F, h1, h2, h3⟩ := h
  refine ⟨F, ?_, h2, h3⟩
  simp only [Ows] at h1 ⊢
  obtain ⟨x, r, G, K, e1, e2, h4, e3, e4⟩ := h1
  exact ⟨_, _, [], F, rfl, rfl, by simp [Ow], _, _, [], F, rfl, rfl, by simp [Ow], x, r, G, K, e1, e2, h4, e3, e4⟩

theorem AppS.keep {S : Nat → Prop} {w w' : World} {t size n : Nat} {ds : List D} {v : Value} (h : AppS S w t size n ds v) (hk : ∀ b, b < w.heap.size → S b → w'.heap[b]? = w.heap[b]?) : AppS S w' t size n ds v := by
  obtain ⟨xs, F, h1, h2, h3, h4, h5⟩ := h
  refine ⟨xs, F, ⟨h1.1, ?_⟩, h2.keep fun b hb => hk b (h2.lt b hb) (h4 b hb).1, h3, h4, h5⟩
  rcases h1.2 with h | ⟨g, cap, cur, e, hg, hb, hr⟩
  · exact Or.inl h
  · exact Or.inr ⟨g, cap, cur, e, hg, (hk g (Array.getElem?_eq_some_iff.1 hb).1 (h5 g (by rw [e]; rfl))).trans hb, hr⟩
theorem AppS.more {S T : Nat → Prop} {w : World} {t size n : Nat} {ds : List D} {v : Value} (h : AppS S w t size n ds v) (hs : ∀ b, b < w.heap.size → S b → T b) : AppS T w t size n ds v := by
  obtain ⟨xs, F, h1, h2, h3, h4, h5⟩ := h
  exact ⟨xs, F, h1, h2, h3, fun b hb => ⟨hs b (h2.lt b hb) (h4 b hb).1, (h4 b hb).2⟩, fun b hb => hs b (h1.lt b hb).2 (h5 b hb)⟩
theorem AppS.app {S : Nat → Prop} {W w : World} {t size n : Nat} {ds : List D} {v : Value} (h : AppS S w t size n ds v) (hS : ∀ b, S b → W.heap.size ≤ b) : App W w t size n ds v := by
  obtain ⟨xs, F, h1, h2, h3, h4, h5⟩ := h
  refine ⟨xs, F, ⟨h1.1, ?_⟩, h2, h3, fun b hb => ⟨hS b (h4 b hb).1, (h4 b hb).2⟩⟩
  rcases h1.2 with h | ⟨g, cap, cur, e, _, hb, hr⟩
  · exact Or.inl h
  · exact Or.inr ⟨g, cap, cur, e, hS g (h5 g (by rw [e]; rfl)), hb, hr⟩
/-- The blocks of an App. -/
theorem App.foot {W w : World} {t size n : Nat} {ds : List D} {v : Value} (h : App W w t size n ds v) : ∃ Fs : List Nat, AppS (· ∈ Fs) w t size n ds v ∧ ∀ b ∈ Fs, W.heap.size ≤ b ∧ b < w.heap.size := by
  have hlt := h.lt
  obtain ⟨xs, F, h1, h2, h3, h4⟩ := h
  have h1' : w.ownsRow 0 t size v n xs := ⟨h1.1, by
    rcases h1.2 with h | ⟨g, cap, cur, e, _, hb, hr⟩
    · exact Or.inl h
    · exact Or.inr ⟨g, cap, cur, e, Nat.zero_le _, hb, hr⟩⟩
  refine ⟨(match v.ownBlock with | some g => g :: F | none => F), ⟨xs, F, h1', h2, h3, fun b hb => ⟨?_, (h4 b hb).2⟩, fun b hb => ?_⟩, fun b hb => ?_⟩
  · cases v.ownBlock <;> simp [hb]
  · rw [hb]; simp
  · cases hv : v.ownBlock with
    | none => rw [hv] at hb; exact ⟨(h4 b hb).1, h2.lt b hb⟩
    | some g =>
      rw [hv] at hb
      rcases List.mem_cons.1 hb with rfl | hb
      · exact hlt b hv
      · exact ⟨(h4 b hb).1, h2.lt b hb⟩
theorem App.ows {W w : World} {t size n : Nat} {ds : List D} {v : Value} (h : App W w t size n ds v) (p : Nat × Nat) (h1 : p.1 ≤ W.heap.size) (h2 : w.heap.size ≤ p.2) : AppS (fun b => p.1 ≤ b ∧ b < p.2) w t size n ds v := by
  obtain ⟨Fs, h3, h4⟩ := h.foot
  exact h3.more fun b _ hb => by have := h4 b hb; omega
theorem AppS.shape {S : Nat → Prop} {w : World} {t size n : Nat} {ds : List D} {v : Value} (h : AppS S w t size n ds v) : ∃ a cap, v = .slice a n cap ∧ n ≤ cap ∧ cap ≤ maxLen := by
  obtain ⟨xs, F, ⟨_, h1⟩, _⟩ := h
  rcases h1 with ⟨rfl, rfl⟩ | ⟨g, cap, cur, rfl, _, _, h2, h3, _⟩
  · exact ⟨none, 0, rfl, by omega, by simp [maxLen]⟩
  · exact ⟨_, cap, rfl, h2, h3⟩

theorem news_blk {w : World} {g T : Nat} {vs : List Value} (h : Blk w g T vs) : ∀ j u, vs[j]? = some u → w.cell? ((⟨g, 0, none⟩ : Addr).add j) = some u := by
  intro j u hj
  rw [add_plain, Nat.zero_add, h.cell, hj]

/-- APPEND: the slice in blocks of S, the new elements in blocks of T. -/
theorem wpList_append_s {P : Program} (w : World) {ops : Array Oper} {rest : List Oper} {o : Oper} {a : Act} {Q : Exit → Act → World → Prop} (hgd : o.guard = none) (s x : Operand) (t : TypeId)
    (ho : o.op = .call { callee := .builtin .append, args := #[s, x], argTypes := #[t, t] })
    (e : TypeId) (z : Value) (size bytes : Nat) (ht : P.underlying t = some (.slice e)) (hinfo : (P.info? e).map (fun i => (i.zero, i.size, i.bytes)) = some (some z, size, bytes)) (hzs : z.cells.size = size) (hsz : 0 < size)
    {S T : Nat → Prop} (v : Value) {n : Nat} {ds : List D} (hs : a.eval s = v) (happ : AppS S w e size n ds v)
    (ad : Addr) (m c : Nat) {es : List D} (news : List Value) (hx : a.eval x = .slice (some ad) m c) (hnews : ∀ j u, news[j]? = some u → w.cell? (ad.add j) = some u) (hes : OwS T w es news) (hST : ∀ b, b < w.heap.size → S b → T b → False)
    (hl : news.length = m * size) (h1 : ∀ u ∈ news, u.oneCell' = true) (hm : 0 < m) (hbytes : (n + m) * bytes ≤ 140737488355328) (h63 : n + m ≤ maxLen)
    (h : ∀ g cap w', AppS (fun b => S b ∨ T b ∨ (w.heap.size ≤ b ∧ b < w'.heap.size)) w' e size (n + m) (ds ++ es) (.slice (some ⟨g, 0, none⟩) (n + m) cap) → Spares S w w' →
      wpList P ops Q rest (a.put o.dst (.slice (some ⟨g, 0, none⟩) (n + m) cap)) w') : wpList P ops Q (o :: rest) a w := by
  obtain ⟨i, hi, hz, hsize, hby⟩ := info_parts hinfo
  obtain ⟨xs, F, a1, a2, a3, a4, a5⟩ := happ
  obtain ⟨G, g1, g2, g3⟩ := hes
  refine wpList_append_lies w hgd s x t ho 0 e i z size bytes ht hi hz hsize hby hzs hsz v n xs hs a1 ad m c news hx hl hnews h1 hm h63 hbytes (Nat.zero_le _) w.heap.size rfl ?_
  intro g cap w' k1 k2 k3 k4
  have hF : ∀ b ∈ F, some b ≠ v.ownBlock := fun b hb' e => (a4 b hb').2 e.symm
  have hG : ∀ b ∈ G, some b ≠ v.ownBlock := fun b hb' e => hST b (g1.lt b hb') (a5 b e.symm) (g3 b hb')
  have hgb : ∀ b, some b ≠ v.ownBlock → b < w.heap.size → Value.ownBlock (.slice (some ⟨g, 0, none⟩) (n + m) cap) ≠ some b := by
    intro b hne hlt e
    simp only [Value.ownBlock, Option.some.injEq] at e
    subst e
    rcases k3 with k3 | k3
    · exact hne k3.symm
    · omega
  refine h g cap w' ⟨xs ++ news, F ++ G, k1, Ows.append (a2.keep fun b hb' => k2.block b (a2.lt b hb') (hF b hb')) (g1.keep fun b hb' => k2.block b (g1.lt b hb') (hG b hb')), ?_, ?_, ?_⟩
    ⟨k2.os, k2.tape, k2.output, k2.size, fun b hb' hn => k2.block b hb' (fun e => hn (a5 b e.symm))⟩
  · rw [List.nodup_append]
    refine ⟨a3, g2, fun p hp q hq hpq => ?_⟩
    subst hpq
    exact hST p (a2.lt p hp) (a4 p hp).1 (g3 p hq)
  · intro b hm'
    rcases List.mem_append.1 hm' with hm' | hm'
    · exact ⟨Or.inl (a4 b hm').1, hgb b (hF b hm') (a2.lt b hm')⟩
    · exact ⟨Or.inr (Or.inl (g3 b hm')), hgb b (hG b hm') (g1.lt b hm')⟩
  · intro b hb'
    simp only [Value.ownBlock, Option.some.injEq] at hb'
    subst hb'
    rcases k3 with k3 | k3
    · exact Or.inl (a5 _ k3)
    · exact Or.inr (Or.inr ⟨by omega, k4⟩)
end Go.Proofs.YtlnojmmjpgpjdaaDoor
