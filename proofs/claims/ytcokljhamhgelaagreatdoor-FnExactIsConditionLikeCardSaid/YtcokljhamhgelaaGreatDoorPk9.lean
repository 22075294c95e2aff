/-
  Parts of a proof, joined: Aps, Aut3, Valid, Cnt, LiveP, Run, PrP, Rdx. No condition.
-/
import Derived.Test.YtcokljhamhgelaaGreatDoorPk8
namespace Go.Proofs.YtcokljhamhgelaaGreatDoor
set_option linter.unusedVariables false
set_option linter.unusedSimpArgs false
open Go.ChangeShapes Go.WideShapes Go.ChangeAt Go.RowKit Go.Deep
def AppS (S : Nat → Prop) (w : World) (t : TypeId) (size n : Nat) (ds : List D) (v : Value) : Prop :=
 ∃ xs F, w.ownsRow 0 t size v n xs ∧ Ows w ds xs F ∧ F.Nodup ∧ (∀ b ∈ F, S b ∧ v.ownBlock ≠ some b) ∧ ∀ b, v.ownBlock = some b → S b
def OwS (S : Nat → Prop) (w : World) (ds : List D) (vs : List Value) : Prop := ∃ F : List Nat, Ows w ds vs F ∧ F.Nodup ∧ ∀ b ∈ F, S b
theorem OwS.keep {S : Nat → Prop} {w w' : World} {ds : List D} {vs : List Value} (h : OwS S w ds vs) (hk : ∀ b, b < w.heap.size → S b → w'.heap[b]? = w.heap[b]?) : OwS S w' ds vs := by
 obtain ⟨F, h1, h2, h3⟩ := h
 exact ⟨F, h1.keep fun b hb => hk b (h1.lt b hb) (h3 b hb), h2, h3⟩
theorem OwS.more {S T : Nat → Prop} {w : World} {ds : List D} {vs : List Value} (h : OwS S w ds vs) (hs : ∀ b, b < w.heap.size → S b → T b) : OwS T w ds vs := by
 obtain ⟨F, h1, h2, h3⟩ := h
 exact ⟨F, h1, h2, fun b hb => hs b (h1.lt b hb) (h3 b hb)⟩
theorem OwS.rds {S : Nat → Prop} {w : World} {ds : List D} {vs : List Value} (h : OwS S w ds vs) : Rds w ds vs := by
 obtain ⟨F, h1, _⟩ := h
 exact h1.rds
theorem FreshIn.keep {p : Nat × Nat} {w w' : World} {ds : List D} {vs : List Value} (h : FreshIn p w ds vs) (hk : ∀ b, b < w.heap.size → p.1 ≤ b → b < p.2 → w'.heap[b]? = w.heap[b]?) : FreshIn p w' ds vs :=
 OwS.keep h fun b h1 h2 => hk b h1 h2.1 h2.2
theorem FreshIn.three {p : Nat × Nat} {w : World} {a b : Int} {d : D} {v : Value} (h : FreshIn p w [d] [v]) : FreshIn p w [.int a, .int b, d] [.int .i64 a, .int .i64 b, v] := by
 obtain ⟨F, h1, h2, h3⟩ := h
 refine ⟨F, ?_, h2, h3⟩
 simp only [Ows] at h1 ⊢
 obtain ⟨x, r, G, K, e1, e2, h4, e3, e4⟩ := h1
 exact ⟨_, _, [], F, rfl, rfl, by simp [Ow], _, _, [], F, rfl, rfl, by simp [Ow], x, r, G, K, e1, e2, h4, e3, e4⟩
theorem AppS.keep {S : Nat → Prop} {w w' : World} {t size n : Nat} {ds : List D} {v : Value} (h : AppS S w t size n ds v) (hk : ∀ b, b < w.heap.size → S b → w'.heap[b]? = w.heap[b]?) : AppS S w' t size n ds v := by
 obtain ⟨xs, F, h1, h2, h3, h4, h5⟩ := h
 refine ⟨xs, F, ⟨h1.1, ?_⟩, h2.keep fun b hb => hk b (h2.lt b hb) (h4 b hb).1, h3, h4, h5⟩
 rcases h1.2 with h | ⟨g, cap, cur, e, hg, hb, hr⟩
 ·
  exact Or.inl h
 ·
  exact Or.inr ⟨g, cap, cur, e, hg, (hk g (Array.getElem?_eq_some_iff.1 hb).1 (h5 g (by rw [e]; rfl))).trans hb, hr⟩
theorem AppS.more {S T : Nat → Prop} {w : World} {t size n : Nat} {ds : List D} {v : Value} (h : AppS S w t size n ds v) (hs : ∀ b, b < w.heap.size → S b → T b) : AppS T w t size n ds v := by
 obtain ⟨xs, F, h1, h2, h3, h4, h5⟩ := h
 exact ⟨xs, F, h1, h2, h3, fun b hb => ⟨hs b (h2.lt b hb) (h4 b hb).1, (h4 b hb).2⟩, fun b hb => hs b (h1.lt b hb).2 (h5 b hb)⟩
theorem AppS.app {S : Nat → Prop} {W w : World} {t size n : Nat} {ds : List D} {v : Value} (h : AppS S w t size n ds v) (hS : ∀ b, S b → W.heap.size ≤ b) : App W w t size n ds v := by
 obtain ⟨xs, F, h1, h2, h3, h4, h5⟩ := h
 refine ⟨xs, F, ⟨h1.1, ?_⟩, h2, h3, fun b hb => ⟨hS b (h4 b hb).1, (h4 b hb).2⟩⟩
 rcases h1.2 with h | ⟨g, cap, cur, e, _, hb, hr⟩
 ·
  exact Or.inl h
 ·
  exact Or.inr ⟨g, cap, cur, e, hS g (h5 g (by rw [e]; rfl)), hb, hr⟩
theorem App.foot {W w : World} {t size n : Nat} {ds : List D} {v : Value} (h : App W w t size n ds v) : ∃ Fs : List Nat, AppS (· ∈ Fs) w t size n ds v ∧ ∀ b ∈ Fs, W.heap.size ≤ b ∧ b < w.heap.size := by
 have hlt := h.lt
 obtain ⟨xs, F, h1, h2, h3, h4⟩ := h
 have h1' : w.ownsRow 0 t size v n xs := ⟨h1.1, by
  rcases h1.2 with h | ⟨g, cap, cur, e, _, hb, hr⟩
  ·
   exact Or.inl h
  ·
   exact Or.inr ⟨g, cap, cur, e, Nat.zero_le _, hb, hr⟩⟩
 refine ⟨(match v.ownBlock with | some g => g :: F | none => F), ⟨xs, F, h1', h2, h3, fun b hb => ⟨?_, (h4 b hb).2⟩, fun b hb => ?_⟩, fun b hb => ?_⟩
 ·
  cases v.ownBlock <;> simp [hb]
 ·
  rw [hb]; simp
 ·
  cases hv : v.ownBlock with
  | none => rw [hv] at hb; exact ⟨(h4 b hb).1, h2.lt b hb⟩
  | some g =>
   rw [hv] at hb
   rcases List.mem_cons.1 hb with rfl | hb
   ·
    exact hlt b hv
   ·
    exact ⟨(h4 b hb).1, h2.lt b hb⟩
theorem AppS.shape {S : Nat → Prop} {w : World} {t size n : Nat} {ds : List D} {v : Value} (h : AppS S w t size n ds v) : ∃ a cap, v = .slice a n cap ∧ n ≤ cap ∧ cap ≤ maxLen := by
 obtain ⟨xs, F, ⟨_, h1⟩, _⟩ := h
 rcases h1 with ⟨rfl, rfl⟩ | ⟨g, cap, cur, rfl, _, _, h2, h3, _⟩
 ·
  exact ⟨none, 0, rfl, by omega, by simp [maxLen]⟩
 ·
  exact ⟨_, cap, rfl, h2, h3⟩
theorem news_blk {w : World} {g T : Nat} {vs : List Value} (h : Blk w g T vs) : ∀ j u, vs[j]? = some u → w.cell? ((⟨g, 0, none⟩ : Addr).add j) = some u := by
 intro j u hj
 rw [add_plain, Nat.zero_add, h.cell, hj]
theorem wpList_append_s {P : Program} (w : World) {ops : Array Oper} {rest : List Oper} {o : Oper} {a : Act} {Q : Exit → Act → World → Prop} (hgd : o.guard = none) (s x : Operand) (t : TypeId)
  (ho : o.op = .call { callee := .builtin .append, args := #[s, x], argTypes := #[t, t] })
  (e : TypeId) (z : Value) (size bytes : Nat) (ht : P.underlying t = some (.slice e)) (hinfo : (P.info? e).map (fun i => (i.zero, i.size, i.bytes)) = some (some z, size, bytes)) (hzs : z.cells.size = size) (hsz : 0 < size)
  {S T : Nat → Prop} (v : Value) {n : Nat} {ds : List D} (hs : a.eval s = v) (happ : AppS S w e size n ds v)
  (ad : Addr) (m c : Nat) {es : List D} (news : List Value) (hx : a.eval x = .slice (some ad) m c) (hnews : ∀ j u, news[j]? = some u → w.cell? (ad.add j) = some u) (hes : OwS T w es news) (hST : ∀ b, b < w.heap.size → S b → T b → False)
  (hl : news.length = m * size) (h1 : ∀ u ∈ news, u.oneCell' = true) (hm : 0 < m) (hbytes : (n + m) * bytes ≤ 140737488355328) (h63 : n + m ≤ maxLen)
  (h : ∀ g cap w', AppS (fun b => S b ∨ T b ∨ (w.heap.size ≤ b ∧ b < w'.heap.size)) w' e size (n + m) (ds ++ es) (.slice (some ⟨g, 0, none⟩) (n + m) cap) → Spares S w w' →
   wpList P ops Q rest (a.put o.dst (.slice (some ⟨g, 0, none⟩) (n + m) cap)) w') : wpList P ops Q (o :: rest) a w := by
 obtain ⟨i, hi, hz, hsize, hby⟩ := info_parts hinfo
 obtain ⟨xs, F, a1, a2, a3, a4, a5⟩ := happ
 obtain ⟨G, g1, g2, g3⟩ := hes
 refine wpList_append_lies w hgd s x t ho 0 e i z size bytes ht hi hz hsize hby hzs hsz v n xs hs a1 ad m c news hx hl hnews h1 hm h63 hbytes (Nat.zero_le _) w.heap.size rfl ?_
 intro g cap w' k1 k2 k3 k4
 have hF : ∀ b ∈ F, some b ≠ v.ownBlock := fun b hb' e => (a4 b hb').2 e.symm
 have hG : ∀ b ∈ G, some b ≠ v.ownBlock := fun b hb' e => hST b (g1.lt b hb') (a5 b e.symm) (g3 b hb')
 have hgb : ∀ b, some b ≠ v.ownBlock → b < w.heap.size → Value.ownBlock (.slice (some ⟨g, 0, none⟩) (n + m) cap) ≠ some b := by
  intro b hne hlt e
  simp only [Value.ownBlock, Option.some.injEq] at e
  subst e
  rcases k3 with k3 | k3
  ·
   exact hne k3.symm
  ·
   omega
 refine h g cap w' ⟨xs ++ news, F ++ G, k1, Ows.append (a2.keep fun b hb' => k2.block b (a2.lt b hb') (hF b hb')) (g1.keep fun b hb' => k2.block b (g1.lt b hb') (hG b hb')), ?_, ?_, ?_⟩
  ⟨k2.os, k2.tape, k2.output, k2.size, fun b hb' hn => k2.block b hb' (fun e => hn (a5 b e.symm))⟩
 ·
  rw [List.nodup_append]
  refine ⟨a3, g2, fun p hp q hq hpq => ?_⟩
  subst hpq
  exact hST p (a2.lt p hp) (a4 p hp).1 (g3 p hq)
 ·
  intro b hm'
  rcases List.mem_append.1 hm' with hm' | hm'
  ·
   exact ⟨Or.inl (a4 b hm').1, hgb b (hF b hm') (a2.lt b hm')⟩
  ·
   exact ⟨Or.inr (Or.inl (g3 b hm')), hgb b (hG b hm') (g1.lt b hm')⟩
 ·
  intro b hb'
  simp only [Value.ownBlock, Option.some.injEq] at hb'
  subst hb'
  rcases k3 with k3 | k3
  ·
   exact Or.inl (a5 _ k3)
  ·
   exact Or.inr (Or.inr ⟨by omega, k4⟩)
end Go.Proofs.YtcokljhamhgelaaGreatDoor

namespace Go.Proofs.YtcokljhamhgelaaGreatDoor
set_option linter.unusedVariables false
set_option linter.unusedSimpArgs false
open Go.ChangeShapes Go.WideShapes Go.ChangeAt Go.RowKit Go.Sort
def autD (ac : List (List Bool)) (nx : List (List (List Int))) : List D := [bbD ac, iiiD nx]
end Go.Proofs.YtcokljhamhgelaaGreatDoor

namespace Go.Proofs.YtcokljhamhgelaaGreatDoor
set_option linter.unusedVariables false
set_option linter.unusedSimpArgs false
open Go.ChangeShapes Go.WideShapes Go.ChangeAt Go.RowKit Go.Sort
def RowOk (a n : Int) (row : List Int) : Prop := (row.length : Int) = a ∧ ∀ (l : Nat) (z : Int), row[l]? = some z → -1 ≤ z ∧ z ≤ n - 1
def StOk (t a n : Int) (ar : List Bool) (nr : List (List Int)) : Prop := (ar.length : Int) = atomsN t ∧ (nr.length : Int) = atomsN t ∧ ∀ (j : Nat) (row : List Int), nr[j]? = some row → RowOk a n row
structure AutOk (t a : Int) (ac : List (List Bool)) (nx : List (List (List Int))) : Prop where
 sig : sigB t a = true
 lo : 1 ≤ ac.length
 hi : ac.length ≤ 60
 len : nx.length = ac.length
 st : ∀ (i : Nat) (ar : List Bool) (nr : List (List Int)), ac[i]? = some ar → nx[i]? = some nr → StOk t a ac.length ar nr
def AutAt (w : World) (b o : Nat) (t a : Int) (ac : List (List Bool)) (nx : List (List (List Int))) (s u : Option Addr) (c d : Nat) : Prop :=
 w.cell? ⟨b, o, none⟩ = some (.int .i64 t) ∧ w.cell? ⟨b, o + 1, none⟩ = some (.int .i64 a) ∧ w.cell? ⟨b, o + 2, none⟩ = some (.slice s ac.length c) ∧ w.cell? ⟨b, o + 3, none⟩ = some (.slice u nx.length d) ∧
  Rd w (bbD ac) (.slice s ac.length c) ∧ Rd w (iiiD nx) (.slice u nx.length d)
theorem AutAt.lt {w : World} {b o : Nat} {t a : Int} {ac : List (List Bool)} {nx : List (List (List Int))} {s u : Option Addr} {c d : Nat} (h : AutAt w b o t a ac nx s u c d) : b < w.heap.size := World.block_lt_of_cell? w _ h.1
theorem AutAt.below {w w' : World} {b o : Nat} {t a : Int} {ac : List (List Bool)} {nx : List (List (List Int))} {s u : Option Addr} {c d : Nat} (h : AutAt w b o t a ac nx s u c d) (hb : Below w.heap.size w w') : AutAt w' b o t a ac nx s u c d := by
 have hl := h.lt
 obtain ⟨h0, h1, h2, h3, h4, h5⟩ := h
 exact ⟨(hb.cell (p := ⟨b, o, none⟩) hl).trans h0, (hb.cell (p := ⟨b, o + 1, none⟩) hl).trans h1, (hb.cell (p := ⟨b, o + 2, none⟩) hl).trans h2, (hb.cell (p := ⟨b, o + 3, none⟩) hl).trans h3, h4.below hb, h5.below hb⟩
end Go.Proofs.YtcokljhamhgelaaGreatDoor

namespace Go.Proofs.YtcokljhamhgelaaGreatDoor
set_option linter.unusedVariables false
set_option linter.unusedSimpArgs false
open Go.ChangeShapes Go.WideShapes Go.ChangeAt Go.RowKit
section
variable {α : Type} {f : α → Int}
end
theorem AutOk.dims {t a : Int} {ac : List (List Bool)} {nx : List (List (List Int))} (h : AutOk t a ac nx) : 1 ≤ atomsN t ∧ atomsN t ≤ 8 ∧ 0 ≤ a ∧ a ≤ 4 := by
 obtain ⟨h0, h1, h2, h3⟩ := sigB_bd h.sig
 have := atomsN_bd t
 exact ⟨this.1, this.2, h2, h3⟩
theorem AutOk.row {t a : Int} {ac : List (List Bool)} {nx : List (List (List Int))} (h : AutOk t a ac nx) {i : Nat} {nr : List (List Int)} (h1 : nx[i]? = some nr) :
  (nr.length : Int) = atomsN t ∧ ∀ (j : Nat) (row : List Int), nr[j]? = some row → RowOk a ac.length row := by
 obtain ⟨ar, har⟩ : ∃ e, ac[i]? = some e := ⟨_, List.getElem?_eq_getElem (by have := (List.getElem?_eq_some_iff.1 h1).1; rw [h.len] at this; exact this)⟩
 obtain ⟨_, h2, h3⟩ := h.st i ar nr har h1
 exact ⟨h2, h3⟩
theorem AutOk.acc_row {t a : Int} {ac : List (List Bool)} {nx : List (List (List Int))} (h : AutOk t a ac nx) {i : Nat} {ar : List Bool} (h1 : ac[i]? = some ar) : (ar.length : Int) = atomsN t := by
 obtain ⟨nr, hnr⟩ : ∃ e, nx[i]? = some e := ⟨_, List.getElem?_eq_getElem (by have := (List.getElem?_eq_some_iff.1 h1).1; rw [h.len]; exact this)⟩
 exact (h.st i ar nr h1 hnr).1
end Go.Proofs.YtcokljhamhgelaaGreatDoor

namespace Go.Proofs.YtcokljhamhgelaaGreatDoor
set_option linter.unusedVariables false
set_option linter.unusedSimpArgs false
open Go.ChangeShapes Go.WideShapes Go.ChangeAt Go.RowKit Go.Deep
def hitR (P : Nat → Bool) (row : List Int) : Bool := row.any fun z => decide (0 ≤ z) && P z.toNat
def accW (ac : List (List Bool)) (nx : List (List (List Int))) : Nat → Nat → Bool
 | 0 => fun s => (ac.getD s []).any id
 | n + 1 => fun s => (nx.getD s []).any (hitR (accW ac nx n))
def farV (ac : List (List Bool)) (nx : List (List (List Int))) : Nat → Nat → Int
 | 0 => fun s => if accW ac nx 0 s then 0 else -1
 | n + 1 => fun s => if 0 ≤ farV ac nx n s then farV ac nx n s else if accW ac nx (n + 1) s then ((n + 1 : Nat) : Int) else -1
def farL (ac : List (List Bool)) (nx : List (List (List Int))) (n : Nat) : List Int := (List.range ac.length).map (farV ac nx n)
def Live (ac : List (List Bool)) (nx : List (List (List Int))) (s : Nat) : Prop := ∃ n, accW ac nx n s = true
noncomputable def liveB (ac : List (List Bool)) (nx : List (List (List Int))) (s : Nat) : Bool := @decide (Live ac nx s) (Classical.propDecidable _)
noncomputable def liveL (ac : List (List Bool)) (nx : List (List (List Int))) : List Bool := (List.range ac.length).map (liveB ac nx)
section
variable {ac : List (List Bool)} {nx : List (List (List Int))}
theorem liveB_true {s : Nat} : liveB ac nx s = true ↔ Live ac nx s := by unfold liveB; exact @decide_eq_true_iff _ (Classical.propDecidable _)
theorem farL_len (n : Nat) : (farL ac nx n).length = ac.length := by simp [farL]
theorem liveL_len : (liveL ac nx).length = ac.length := by simp [liveL]
theorem farL_at {n s : Nat} (h : s < ac.length) : (farL ac nx n)[s]? = some (farV ac nx n s) := by simp [farL, h]
theorem liveL_at {s : Nat} (h : s < ac.length) : (liveL ac nx)[s]? = some (liveB ac nx s) := by simp [liveL, h]
theorem hitR_true {P : Nat → Bool} {row : List Int} : hitR P row = true ↔ ∃ z ∈ row, 0 ≤ z ∧ P z.toNat = true := by
 simp only [hitR, List.any_eq_true, Bool.and_eq_true, decide_eq_true_eq]
theorem accW_succ {n s : Nat} : accW ac nx (n + 1) s = true ↔ ∃ row ∈ nx.getD s [], ∃ z ∈ row, 0 ≤ z ∧ accW ac nx n z.toNat = true := by
 show (nx.getD s []).any (hitR (accW ac nx n)) = true ↔ _
 simp only [List.any_eq_true, hitR_true]
theorem farV_bd : ∀ n s, -1 ≤ farV ac nx n s ∧ farV ac nx n s ≤ n
 | 0, s => by simp only [farV]; split <;> omega
 | n + 1, s => by
  have := farV_bd n s
  simp only [farV]
  split
  ·
   omega
  ·
   split <;> omega
theorem farV_spec : ∀ n s, (0 ≤ farV ac nx n s → ∃ m : Nat, m ≤ n ∧ farV ac nx n s = (m : Int) ∧ accW ac nx m s = true ∧ ∀ k, k < m → accW ac nx k s = false) ∧ (farV ac nx n s < 0 → ∀ m, m ≤ n → accW ac nx m s = false)
 | 0, s => by
  simp only [farV]
  by_cases h : accW ac nx 0 s = true
  ·
   rw [if_pos h]
   exact ⟨fun _ => ⟨0, Nat.le_refl _, rfl, h, fun k hk => by omega⟩, fun hn => by omega⟩
  ·
   rw [if_neg h]
   refine ⟨fun hn => by omega, fun _ m hm => ?_⟩
   obtain rfl : m = 0 := by omega
   simpa using h
 | n + 1, s => by
  obtain ⟨h1, h2⟩ := farV_spec n s
  simp only [farV]
  by_cases h : 0 ≤ farV ac nx n s
  ·
   rw [if_pos h]
   refine ⟨fun _ => ?_, fun hn => by omega⟩
   obtain ⟨m, hm, e, h3, h4⟩ := h1 h
   exact ⟨m, by omega, e, h3, h4⟩
  ·
   rw [if_neg h]
   have h3 := h2 (by omega)
   by_cases h4 : accW ac nx (n + 1) s = true
   ·
    rw [if_pos h4]
    exact ⟨fun _ => ⟨n + 1, Nat.le_refl _, rfl, h4, fun k hk => h3 k (by omega)⟩, fun hn => by omega⟩
   ·
    rw [if_neg h4]
    refine ⟨fun hn => by omega, fun _ m hm => ?_⟩
    by_cases he : m = n + 1
    ·
     rw [he]; simpa using h4
    ·
     exact h3 m (by omega)
theorem farV_eq {n s m : Nat} (h : farV ac nx n s = (m : Int)) : accW ac nx m s = true ∧ ∀ k, k < m → accW ac nx k s = false := by
 obtain ⟨m', _, e, h3, h4⟩ := (farV_spec (ac := ac) (nx := nx) n s).1 (by omega)
 obtain rfl : m' = m := by omega
 exact ⟨h3, h4⟩
theorem farV_of {n s m : Nat} (hm : m ≤ n) (h : accW ac nx m s = true) (hl : ∀ k, k < m → accW ac nx k s = false) : farV ac nx n s = (m : Int) := by
 rcases Int.lt_or_le (farV ac nx n s) 0 with hn | hn
 ·
  rw [(farV_spec n s).2 hn m hm] at h; cases h
 ·
  obtain ⟨m', _, e, h3, h4⟩ := (farV_spec n s).1 hn
  rcases Nat.lt_trichotomy m m' with hc | hc | hc
  ·
   rw [h4 m hc] at h; cases h
  ·
   rw [e, hc]
  ·
   rw [hl m' hc] at h3; cases h3
theorem Live.least {s : Nat} (h : Live ac nx s) : ∃ m, accW ac nx m s = true ∧ ∀ k, k < m → accW ac nx k s = false := by
 obtain ⟨n, hn⟩ := h
 rcases Int.lt_or_le (farV ac nx n s) 0 with h0 | h0
 ·
  rw [(farV_spec n s).2 h0 n (Nat.le_refl _)] at hn; cases hn
 ·
  obtain ⟨m, _, _, h3, h4⟩ := (farV_spec n s).1 h0
  exact ⟨m, h3, h4⟩
theorem farV_round {n s : Nat} (h : farV ac nx n s < 0) : farV ac nx (n + 1) s = if (nx.getD s []).any (hitR fun z => farV ac nx n z == (n : Int)) then ((n + 1 : Nat) : Int) else -1 := by
 have hlow := (farV_spec n s).2 h
 have he : accW ac nx (n + 1) s = (nx.getD s []).any (hitR fun z => farV ac nx n z == (n : Int)) := by
  rw [Bool.eq_iff_iff, accW_succ]
  simp only [List.any_eq_true, hitR_true, beq_iff_eq]
  constructor
  ·
   rintro ⟨row, hr, z, hz, h0, ha⟩
   refine ⟨row, hr, z, hz, h0, farV_of (Nat.le_refl _) ha fun k hk => ?_⟩
   cases hc : accW ac nx k z.toNat with
   | false => rfl
   | true =>
    have := hlow (k + 1) (by omega)
    rw [accW_succ.2 ⟨row, hr, z, hz, h0, hc⟩] at this
    cases this
  ·
   rintro ⟨row, hr, z, hz, h0, ha⟩
   exact ⟨row, hr, z, hz, h0, (farV_eq ha).1⟩
 simp only [farV]
 rw [if_neg (by omega), he]
theorem farV_stay {n s : Nat} (h : 0 ≤ farV ac nx n s) : farV ac nx (n + 1) s = farV ac nx n s := by simp only [farV]; rw [if_pos h]
theorem farV_mid {n s : Nat} : farV ac nx (n + 1) s = (n : Int) ↔ farV ac nx n s = (n : Int) := by
 by_cases h : 0 ≤ farV ac nx n s
 ·
  rw [farV_stay h]
 ·
  rw [farV_round (by omega)]
  split <;> omega
theorem least_down (h : ∀ s row z, row ∈ nx.getD s [] → z ∈ row → z < ac.length) : ∀ d s, s < ac.length → accW ac nx d s = true → (∀ k, k < d → accW ac nx k s = false) → ∀ k, k ≤ d → ∃ y, y < ac.length ∧ accW ac nx k y = true ∧ ∀ j, j < k → accW ac nx j y = false
 | 0, s, hs, ha, hl, k, hk => by
  obtain rfl : k = 0 := by omega
  exact ⟨s, hs, ha, hl⟩
 | d + 1, s, hs, ha, hl, k, hk => by
  by_cases he : k = d + 1
  ·
   subst he
   exact ⟨s, hs, ha, hl⟩
  ·
   obtain ⟨row, hr, z, hz, h0, hb⟩ := accW_succ.1 ha
   have hlt := h s row z hr hz
   refine least_down h d z.toNat (by omega) hb (fun j hj => ?_) k (by omega)
   cases hc : accW ac nx j z.toNat with
   | false => rfl
   | true =>
    have := hl (j + 1) (by omega)
    rw [accW_succ.2 ⟨row, hr, z, hz, h0, hc⟩] at this
    cases this
theorem pigeon : ∀ (n : Nat) (L : List Nat), L.Nodup → (∀ x ∈ L, x < n) → L.length ≤ n
 | 0, L, _, h => by
  cases L with
  | nil => simp
  | cons x r => have := h x (List.mem_cons_self ..); omega
 | n + 1, L, hd, h => by
  have h1 := pigeon n (L.erase n) (hd.erase n) fun x hx => by
   have h2 := h x (List.mem_of_mem_erase hx)
   have h3 := (List.Nodup.mem_erase_iff hd).1 hx
   omega
  rw [List.length_erase] at h1
  split at h1 <;> omega
theorem least_lt (h : ∀ s row z, row ∈ nx.getD s [] → z ∈ row → z < ac.length) {d s : Nat} (hs : s < ac.length) (ha : accW ac nx d s = true) (hl : ∀ k, k < d → accW ac nx k s = false) : d < ac.length := by
 have hd := least_down h d s hs ha hl
 have hc : ∀ k, ∃ y, k ≤ d → y < ac.length ∧ accW ac nx k y = true ∧ ∀ j, j < k → accW ac nx j y = false := fun k => by
  by_cases hk : k ≤ d
  ·
   obtain ⟨y, hy⟩ := hd k hk
   exact ⟨y, fun _ => hy⟩
  ·
   exact ⟨0, fun h => absurd h hk⟩
 obtain ⟨g, hg⟩ := Classical.axiomOfChoice hc
 have hp := pigeon ac.length ((List.range (d + 1)).map g) ?_ ?_
 ·
  simp at hp; omega
 ·
  rw [List.nodup_iff_pairwise_ne, List.pairwise_map]
  refine List.Pairwise.imp_of_mem ?_ (List.nodup_iff_pairwise_ne.1 List.nodup_range)
  intro i j hi hj hne e
  rw [List.mem_range] at hi hj
  obtain ⟨-, i1, i2⟩ := hg i (by omega)
  obtain ⟨-, j1, j2⟩ := hg j (by omega)
  rw [e] at i1 i2
  rcases Nat.lt_trichotomy i j with hc | hc | hc
  ·
   rw [j2 i hc] at i1; cases i1
  ·
   exact hne hc
  ·
   rw [i2 j hc] at j1; cases j1
 ·
  intro x hx
  obtain ⟨k, hk, rfl⟩ := List.mem_map.1 hx
  rw [List.mem_range] at hk
  exact (hg k (by omega)).1
end
theorem AutOk.targets {t a : Int} {ac : List (List Bool)} {nx : List (List (List Int))} (h : AutOk t a ac nx) : ∀ s row z, row ∈ nx.getD s [] → z ∈ row → z < ac.length := by
 intro s row z hr hz
 rw [List.getD_eq_getElem?_getD] at hr
 cases hs : nx[s]? with
 | none => rw [hs] at hr; simp at hr
 | some nr =>
  rw [hs] at hr
  obtain ⟨j, hj⟩ := List.mem_iff_getElem?.1 (show row ∈ nr from hr)
  obtain ⟨l, hl⟩ := List.mem_iff_getElem?.1 hz
  have := (((h.row hs).2 j row hj).2 l z hl).2
  omega
theorem far_live {t a : Int} {ac : List (List Bool)} {nx : List (List (List Int))} (h : AutOk t a ac nx) {s : Nat} (hs : s < ac.length) : liveB ac nx s = decide (0 ≤ farV ac nx (ac.length - 1) s) := by
 rw [Bool.eq_iff_iff, liveB_true, decide_eq_true_eq]
 constructor
 ·
  intro hl
  obtain ⟨m, h1, h2⟩ := hl.least
  have := least_lt h.targets hs h1 h2
  rw [farV_of (show m ≤ ac.length - 1 by omega) h1 h2]
  omega
 ·
  intro h0
  obtain ⟨m, _, _, h3, _⟩ := (farV_spec (ac.length - 1) s).1 h0
  exact ⟨m, h3⟩
end Go.Proofs.YtcokljhamhgelaaGreatDoor

namespace Go.Proofs.YtcokljhamhgelaaGreatDoor
set_option linter.unusedVariables false
set_option linter.unusedSimpArgs false
open Go.ChangeShapes Go.WideShapes Go.ChangeAt Go.RowKit Go.Sort
def stepN (nx : List (List (List Int))) (s x y : Nat) : Int := ((nx.getD s []).getD x []).getD y (-1)
theorem AutOk.next {t a : Int} {ac : List (List Bool)} {nx : List (List (List Int))} (h : AutOk t a ac nx) {s x y : Nat} (hs : s < ac.length) (hx : (x : Int) < atomsN t) (hy : (y : Int) < a) :
  ∃ nr row z, nx[s]? = some nr ∧ nr[x]? = some row ∧ row[y]? = some z ∧ -1 ≤ z ∧ z ≤ (ac.length : Int) - 1 ∧ stepN nx s x y = z := by
 obtain ⟨ar, har⟩ : ∃ e, ac[s]? = some e := ⟨_, List.getElem?_eq_getElem hs⟩
 obtain ⟨nr, hnr⟩ : ∃ e, nx[s]? = some e := ⟨_, List.getElem?_eq_getElem (by rw [h.len]; exact hs)⟩
 obtain ⟨_, h2, h3⟩ := h.st s ar nr har hnr
 obtain ⟨row, hrow⟩ : ∃ e, nr[x]? = some e := ⟨_, List.getElem?_eq_getElem (by omega)⟩
 obtain ⟨h4, h5⟩ := h3 x row hrow
 obtain ⟨z, hz⟩ : ∃ e, row[y]? = some e := ⟨_, List.getElem?_eq_getElem (by omega)⟩
 obtain ⟨h6, h7⟩ := h5 y z hz
 refine ⟨nr, row, z, hnr, hrow, hz, h6, h7, ?_⟩
 unfold stepN
 rw [List.getD_eq_getElem?_getD, List.getD_eq_getElem?_getD, List.getD_eq_getElem?_getD, hnr]
 simp [hrow, hz]
end Go.Proofs.YtcokljhamhgelaaGreatDoor

namespace Go.Proofs.YtcokljhamhgelaaGreatDoor
set_option linter.unusedVariables false
set_option linter.unusedSimpArgs false
open Go.ChangeShapes Go.WideShapes Go.ChangeAt Go.RowKit Go.Deep
def goN (nx : List (List (List Int))) (s : Int) (m k : Nat) : Int := if s < 0 then -1 else stepN nx s.toNat m k
def hasN (ac : List (List Bool)) (s : Int) (m : Nat) : Bool := decide (0 ≤ s) && (ac.getD s.toNat []).getD m false
section
variable {nx ny : List (List (List Int))} {A a i : Nat} {x : Int × Int} {m k : Nat}
end
theorem goN_bd {t a : Int} {ac : List (List Bool)} {nx : List (List (List Int))} (h : AutOk t a ac nx) {s : Int} {m k : Nat} (h1 : s < ac.length) (hm : (m : Int) < atomsN t) (hk : (k : Int) < a) : -1 ≤ goN nx s m k ∧ goN nx s m k < ac.length := by
 unfold goN
 split
 ·
  exact ⟨by omega, by have := h.lo; omega⟩
 ·
  obtain ⟨nr, row, z, -, -, -, h3, h4, h5⟩ := h.next (s := s.toNat) (x := m) (y := k) (by omega) hm hk
  rw [h5]
  exact ⟨h3, by omega⟩
section
variable {t a : Int} {ac bc : List (List Bool)} {nx ny : List (List (List Int))}
end
end Go.Proofs.YtcokljhamhgelaaGreatDoor

namespace Go.Proofs.YtcokljhamhgelaaGreatDoor
set_option linter.unusedVariables false
set_option linter.unusedSimpArgs false
open Go.ChangeShapes Go.WideShapes Go.ChangeAt Go.RowKit Go.Deep
def KeptX (X : Nat → Prop) (w w' : World) : Prop := w.heap.size ≤ w'.heap.size ∧ ∀ b, b < w.heap.size → ¬ X b → w'.heap[b]? = w.heap[b]?
theorem KeptX.refl (X : Nat → Prop) (w : World) : KeptX X w w := ⟨Nat.le_refl _, fun _ _ _ => rfl⟩
theorem KeptX.trans {X : Nat → Prop} {a b c : World} (h : KeptX X a b) (k : KeptX X b c) : KeptX X a c :=
 ⟨Nat.le_trans h.1 k.1, fun i hi hx => (k.2 i (Nat.lt_of_lt_of_le hi h.1) hx).trans (h.2 i hi hx)⟩
theorem KeptX.of_below {X : Nat → Prop} {w w' : World} (h : Below w.heap.size w w') : KeptX X w w' := ⟨h.size, fun b hb _ => h.block b hb⟩
theorem KeptX.of_spares {X Y : Nat → Prop} {w w' : World} (h : Spares Y w w') (hY : ∀ b, b < w.heap.size → Y b → X b) : KeptX X w w' := ⟨h.size, fun b hb hx => h.block b hb fun hy => hx (hY b hb hy)⟩
theorem KeptX.more {X Y : Nat → Prop} {w w' : World} (h : KeptX X w w') (hs : ∀ b, b < w.heap.size → X b → Y b) : KeptX Y w w' := ⟨h.1, fun b hb hy => h.2 b hb fun hx => hy (hs b hb hx)⟩
def RdX (X : Nat → Prop) (w : World) (d : D) (v : Value) : Prop := ∀ w', KeptX X w w' → Rd w' d v
theorem RdX.rd {X : Nat → Prop} {w : World} {d : D} {v : Value} (h : RdX X w d v) : Rd w d v := h w (KeptX.refl X w)
theorem RdX.keep {X : Nat → Prop} {w w' : World} {d : D} {v : Value} (h : RdX X w d v) (hk : KeptX X w w') : RdX X w' d v := fun _ k => h _ (hk.trans k)
theorem RdX.below {X : Nat → Prop} {w w' : World} {d : D} {v : Value} (h : RdX X w d v) (hb : Below w.heap.size w w') : RdX X w' d v := h.keep (KeptX.of_below hb)
theorem RdX.less {X Y : Nat → Prop} {w : World} {d : D} {v : Value} (h : RdX X w d v) (hs : ∀ b, b < w.heap.size → Y b → X b) : RdX Y w d v := fun w' k => h w' (k.more hs)
theorem RdX.of_rd {X : Nat → Prop} {w : World} {d : D} {v : Value} (h : Rd w d v) (hX : ∀ b, X b → w.heap.size ≤ b) : RdX X w d v := fun _ k => h.keep fun b hb => k.2 b hb fun hx => by have := hX b hx; omega
theorem RdX.nil {X : Nat → Prop} {w : World} {size : Nat} : RdX X w (.sl size 0 []) (.slice Option.none 0 0) := fun _ _ => by simp only [Rd]; exact ⟨Option.none, 0, rfl, Nat.le_refl _, by unfold maxLen; omega, by simp, fun _ => rfl, Or.inl trivial⟩
theorem RdX.fresh {X : Nat → Prop} {w w' : World} {d : D} {v : Value} (h : Freshs w w' [d] [v]) (hX : ∀ b, X b → b < w.heap.size) : RdX X w' d v := by
 obtain ⟨F, h1, h2, h3⟩ := h
 intro w2 k
 exact Rds.one (h1.keep fun b hb => k.2 b (h1.lt b hb) fun hx => by have := h3 b hb; have := hX b hx; omega).rds
def RdO (W0 : World) (X F : Nat → Prop) (w : World) (d : D) (v : Value) : Prop :=
 ∀ w', w.heap.size ≤ w'.heap.size → KeptX X W0 w' → (∀ b, b < w.heap.size → F b → w'.heap[b]? = w.heap[b]?) → Rd w' d v
theorem RdO.keep {W0 : World} {X F F' : Nat → Prop} {w w' : World} {d : D} {v : Value} (h : RdO W0 X F w d v) (hz : w.heap.size ≤ w'.heap.size) (hk : ∀ b, b < w.heap.size → F b → w'.heap[b]? = w.heap[b]?) (hF : ∀ b, F b → F' b) : RdO W0 X F' w' d v :=
 fun w2 h1 h2 h3 => h w2 (Nat.le_trans hz h1) h2 fun b hb hf => (h3 b (Nat.lt_of_lt_of_le hb hz) (hF b hf)).trans (hk b hb hf)
def OutX (W0 : World) (X F : Nat → Prop) (w : World) (b : Nat) : Prop := b < w.heap.size ∧ ¬ ((b < W0.heap.size ∧ ¬ X b) ∨ F b)
theorem OutX.lt {W0 : World} {X F : Nat → Prop} {w : World} : ∀ b, OutX W0 X F w b → b < w.heap.size := fun _ h => h.1
theorem OutX.kept {W0 : World} {X F : Nat → Prop} {w w2 : World} (k : KeptX (OutX W0 X F w) w w2) (hW : KeptX X W0 w) : KeptX X W0 w2 :=
 ⟨Nat.le_trans hW.1 k.1, fun b hb hx => (k.2 b (Nat.lt_of_lt_of_le hb hW.1) fun ho => ho.2 (Or.inl ⟨hb, hx⟩)).trans (hW.2 b hb hx)⟩
theorem OutX.foot {W0 : World} {X F : Nat → Prop} {w w2 : World} (k : KeptX (OutX W0 X F w) w w2) {b : Nat} (hb : b < w.heap.size) (hf : F b) : w2.heap[b]? = w.heap[b]? := k.2 b hb fun ho => ho.2 (Or.inr hf)
theorem RdO.toX {W0 : World} {X F F' : Nat → Prop} {w : World} {d : D} {v : Value} (h : RdO W0 X F w d v) (hW : KeptX X W0 w) (hF : ∀ b, F b → F' b) : RdX (OutX W0 X F' w) w d v :=
 fun w2 k => h w2 k.1 (OutX.kept k hW) fun b hb hf => OutX.foot k hb (hF b hf)
theorem RdX.toOut {W0 : World} {X F : Nat → Prop} {w : World} {d : D} {v : Value} (h : RdX X W0 d v) (hW : KeptX X W0 w) : RdX (OutX W0 X F w) w d v :=
 fun w2 k => h w2 (OutX.kept k hW)
theorem RdO.ofX {W0 : World} {X F F' : Nat → Prop} {w w2 : World} {d : D} {v : Value} (h : RdX (OutX W0 X F' w) w2 d v) (hb : Below w.heap.size w w2) (hW : KeptX X W0 w) (hF : ∀ b, F' b → F b) (hn : ∀ b, w.heap.size ≤ b → b < w2.heap.size → F b) : RdO W0 X F w2 d v :=
 fun w3 hz k3 h3 => h w3 ⟨hz, fun b hb2 hno => by
  by_cases hl : b < w.heap.size
  ·
   by_cases hf : F' b
   ·
    exact h3 b hb2 (hF b hf)
   ·
    by_cases ho : b < W0.heap.size ∧ ¬ X b
    ·
     exact (k3.2 b ho.1 ho.2).trans (((hW.trans (KeptX.of_below hb)).2 b ho.1 ho.2).symm)
    ·
     exact absurd ⟨hl, fun q => q.elim ho hf⟩ hno
  ·
   exact h3 b hb2 (hn b (by omega) hb2)⟩
theorem RdO.done {W0 : World} {X F : Nat → Prop} {w : World} {d : D} {v : Value} (h : RdO W0 X F w d v) (hW : KeptX X W0 w) (hF : ∀ b, F b → ¬ X b) : RdX X w d v :=
 fun w2 k => h w2 k.1 (hW.trans k) fun b hb hf => k.2 b hb (hF b hf)
theorem foot_no {C D : List (Nat × Nat)} {G : Nat → Nat → Prop} {n i B z : Nat} {iv : Nat → Nat × Nat} {l : List Nat} (hl : ((chainOf C n i).all fun j => l.contains j) = true) (hD : ((chainOf C n i).all fun j => D.all fun p => p.1 != j) = true)
  (hb : ∀ j ∈ l, B ≤ (iv j).1 ∧ (iv j).1 ≤ (iv j).2 ∧ (iv j).2 ≤ z) {b : Nat} (hf : foot C D G n i iv b) : B ≤ b := by
 obtain ⟨j, hj, h | ⟨m, hm, hg⟩⟩ := hf
 ·
  have := List.all_eq_true.1 hl j hj
  have := (hb j (by simpa using this)).1
  omega
 ·
  have := List.all_eq_true.1 (List.all_eq_true.1 hD j hj) (j, m) hm
  simp at this
theorem kidsD_nil {X : Nat → Prop} {w : World} : RdX X w (kidsD []) (.slice none 0 0) := RdX.nil
def ExX (X : Nat → Prop) (w : World) (e : Ex) (s : Option Addr) (c : Nat) : Prop := RdX X w (kidsD e.kids) (.slice s e.kids.length c)
theorem kidsD_one {X : Nat → Prop} {w : World} {g t : Nat} {x : Ex} {sx : Option Addr} {cx : Nat} (h : Blk w g t [.int .i64 x.kind, .int .i64 x.num, .slice sx x.kids.length cx]) (hg : ¬ X g) (hx : ExX X w x sx cx) : RdX X w (kidsD [x]) (.slice (some ⟨g, 0, none⟩) 1 1) := by
 intro w' k
 have h' := h.keep (k.2 g h.lt hg)
 have hx' := hx w' k
 unfold kidsD
 simp only [Rd]
 have hrow : Row w' g 0 [.int .i64 x.kind, .int .i64 x.num, .slice sx x.kids.length cx] := h'.row rfl
 refine ⟨some ⟨g, 0, none⟩, 1, rfl, Nat.le_refl _, by unfold maxLen; omega, by rw [Ex.cellsL_length], (fun h => by cases h), Or.inr ⟨g, 0, _, rfl, hrow, ?_⟩⟩
 simp only [Ex.cellsL, List.append_nil]
 rw [Ex.cells_eq]
 simp only [Rds, Rd]
 exact ⟨_, _, rfl, rfl, _, _, rfl, rfl, _, _, rfl, hx', rfl⟩
theorem kidsD_two {X : Nat → Prop} {w : World} {g t : Nat} {x y : Ex} {sx sy : Option Addr} {cx cy : Nat} (h : Blk w g t [.int .i64 x.kind, .int .i64 x.num, .slice sx x.kids.length cx, .int .i64 y.kind, .int .i64 y.num, .slice sy y.kids.length cy]) (hg : ¬ X g)
  (hx : ExX X w x sx cx) (hy : ExX X w y sy cy) : RdX X w (kidsD [x, y]) (.slice (some ⟨g, 0, none⟩) 2 2) := by
 intro w' k
 have h' := h.keep (k.2 g h.lt hg)
 have hx' := hx w' k
 have hy' := hy w' k
 unfold kidsD
 simp only [Rd]
 have hrow : Row w' g 0 [.int .i64 x.kind, .int .i64 x.num, .slice sx x.kids.length cx, .int .i64 y.kind, .int .i64 y.num, .slice sy y.kids.length cy] := h'.row rfl
 refine ⟨some ⟨g, 0, none⟩, 2, rfl, Nat.le_refl _, by unfold maxLen; omega, by rw [Ex.cellsL_length], (fun h => by cases h), Or.inr ⟨g, 0, _, rfl, hrow, ?_⟩⟩
 simp only [Ex.cellsL, List.append_nil]
 rw [Ex.cells_eq, Ex.cells_eq]
 simp only [List.cons_append, List.nil_append, Rds, Rd]
 exact ⟨_, _, rfl, rfl, _, _, rfl, rfl, _, _, rfl, hx', _, _, rfl, rfl, _, _, rfl, rfl, _, _, rfl, hy', rfl⟩
theorem RdX.row_out {X : Nat → Prop} {w : World} {ks : List Ex} {b o len cap : Nat} (h : RdX X w (kidsD ks) (.slice (some ⟨b, o, none⟩) len cap)) {i : Nat} {x : Ex} (hx : ks[i]? = some x) : ¬ X b := by
 intro hb
 have hlt := (kid_in h.rd hx).1
 have k : KeptX X w { w with heap := w.heap.setIfInBounds b (.cells #[] 0) } :=
  ⟨by simp, fun j hj hn => by
   have hne : b ≠ j := fun e => hn (e ▸ hb)
   simp [Array.getElem?_setIfInBounds_ne hne]⟩
 obtain ⟨-, s', c', k0, -⟩ := kid_in (h _ k) hx
 have hblk : Blk { w with heap := w.heap.setIfInBounds b (.cells #[] 0) } b 0 [] := by
  unfold Blk
  simp [hlt]
 rw [hblk.cell] at k0
 simp at k0
theorem kidX {X : Nat → Prop} {w : World} {ks : List Ex} {b o len cap : Nat} (h : RdX X w (kidsD ks) (.slice (some ⟨b, o, none⟩) len cap)) {i : Nat} {x : Ex} (hx : ks[i]? = some x) :
  b < w.heap.size ∧ ¬ X b ∧ ∃ s c, w.cell? ⟨b, o + i * 3, none⟩ = some (.int .i64 x.kind) ∧ w.cell? ⟨b, o + i * 3 + 1, none⟩ = some (.int .i64 x.num) ∧ w.cell? ⟨b, o + i * 3 + 2, none⟩ = some (.slice s x.kids.length c) ∧ ExX X w x s c := by
 obtain ⟨hb, s, c, h0, h1, h2, h3⟩ := kid_in h.rd hx
 have hn := h.row_out hx
 refine ⟨hb, hn, s, c, h0, h1, h2, fun w' k => ?_⟩
 obtain ⟨-, s', c', k0, k1, k2, k3⟩ := kid_in (h w' k) hx
 have e := World.cell?_of_block (w := w) (w' := w') (a := ⟨b, o + i * 3 + 2, none⟩) (k.2 b hb hn)
 rw [k2, h2] at e
 simp only [Option.some.injEq, Value.slice.injEq, true_and] at e
 obtain ⟨rfl, rfl⟩ := e
 exact k3
end Go.Proofs.YtcokljhamhgelaaGreatDoor
