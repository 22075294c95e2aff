/-
  Parts of a proof, joined: App, Aut, Cnt, Counts, Arr, CountF, AccC. No condition.
-/
import Derived.Test.YtjlmdhoajfdkbaaGreatDoorPk23
namespace Go.Proofs.YtjlmdhoajfdkbaaGreatDoor
set_option linter.unusedVariables false
set_option linter.unusedSimpArgs false
open Go.ChangeShapes Go.WideShapes Go.ChangeAt Go.RowKit Go.Deep
theorem App.empty {W w : World} {t size g : Nat} (h : Blk w g t []) (hg : W.heap.size ≤ g) : App W w t size 0 [] (.slice (some ⟨g, 0, none⟩) 0 0) :=
 ⟨[], [], ⟨by simp, Or.inr ⟨g, 0, #[], rfl, hg, by simpa [Blk] using h, by omega, by simp [maxLen], by simp, by simp⟩⟩, Ows.nil, by simp, by simp⟩
theorem App.keep {W w w' : World} {t size n : Nat} {ds : List D} {v : Value} (h : App W w t size n ds v) (hk : ∀ b, b < w.heap.size → W.heap.size ≤ b → w'.heap[b]? = w.heap[b]?) : App W w' t size n ds v := by
 obtain ⟨xs, F, h1, h2, h3, h4⟩ := h
 refine ⟨xs, F, ⟨h1.1, ?_⟩, h2.keep fun b hb => hk b (h2.lt b hb) (h4 b hb).1, h3, h4⟩
 rcases h1.2 with h | ⟨g, cap, cur, e, hg, hb, hr⟩
 ·
  exact Or.inl h
 ·
  exact Or.inr ⟨g, cap, cur, e, hg, (hk g (Array.getElem?_eq_some_iff.1 hb).1 hg).trans hb, hr⟩
theorem App.below {W w w' : World} {t size n : Nat} {ds : List D} {v : Value} (h : App W w t size n ds v) (hb : Below w.heap.size w w') : App W w' t size n ds v := h.keep fun b hl _ => hb.block b hl
theorem wpList_append_app {P : Program} (w : World) {ops : Array Oper} {rest : List Oper} {o : Oper} {a : Act} {Q : Exit → Act → World → Prop} (hgd : o.guard = none) (s x : Operand) (t : TypeId)
  (ho : o.op = .call { callee := .builtin .append, args := #[s, x], argTypes := #[t, t] })
  (e : TypeId) (z : Value) (size bytes : Nat) (ht : P.underlying t = some (.slice e)) (hinfo : (P.info? e).map (fun i => (i.zero, i.size, i.bytes)) = some (some z, size, bytes)) (hzs : z.cells.size = size) (hsz : 0 < size)
  {W w1 : World} (v : Value) {n : Nat} {ds : List D} (hs : a.eval s = v) (happ : App W w1 e size n ds v) (hb : Below w1.heap.size w1 w) (hB : W.heap.size ≤ w1.heap.size)
  (ad : Addr) (m c : Nat) {es : List D} (news : List Value) (hx : a.eval x = .slice (some ad) m c) (hnews : ∀ j u, news[j]? = some u → w.cell? (ad.add j) = some u) (hes : Freshs w1 w es news)
  (hl : news.length = m * size) (h1 : ∀ u ∈ news, u.oneCell' = true) (hm : 0 < m) (hbytes : (n + m) * bytes ≤ 140737488355328) (h63 : n + m ≤ maxLen)
  (h : ∀ g cap w', App W w' e size (n + m) (ds ++ es) (.slice (some ⟨g, 0, none⟩) (n + m) cap) → Below W.heap.size w w' → wpList P ops Q rest (a.put o.dst (.slice (some ⟨g, 0, none⟩) (n + m) cap)) w') : wpList P ops Q (o :: rest) a w := by
 obtain ⟨i, hi, hz, hsize, hby⟩ := info_parts hinfo
 have hz1 := hb.size
 obtain ⟨xs, F, a1, a2, a3, a4⟩ := happ.below hb
 have a5 := happ.lt
 obtain ⟨G, g1, g2, g3⟩ := hes
 obtain ⟨xs', F', b1, b2, b3, b4⟩ := happ
 -- the same cells and blocks as in w1
 have a6 : ∀ b ∈ F', b < w1.heap.size := b2.lt
 have b1' : w.ownsRow W.heap.size e size v n xs' := by
  refine ⟨b1.1, ?_⟩
  rcases b1.2 with h | ⟨g, cap, cur, q, hg, hbb, hr⟩
  ·
   exact Or.inl h
  ·
   exact Or.inr ⟨g, cap, cur, q, hg, (hb.block g (Array.getElem?_eq_some_iff.1 hbb).1).trans hbb, hr⟩
 have b2' : Ows w ds xs' F' := b2.keep fun b hb' => hb.block b (a6 b hb')
 refine wpList_append_lies w hgd s x t ho W.heap.size e i z size bytes ht hi hz hsize hby hzs hsz v n xs' hs b1' ad m c news hx hl hnews h1 hm h63 hbytes (by omega) w.heap.size rfl ?_
 intro g cap w' k1 k2 k3 k4
 have hF : ∀ b ∈ F', some b ≠ v.ownBlock := fun b hb' e => (b4 b hb').2 e.symm
 have hG : ∀ b ∈ G, some b ≠ v.ownBlock := fun b hb' e => by have := (a5 b e.symm).2; have := g3 b hb'; omega
 refine h g cap w' ⟨xs' ++ news, F' ++ G, k1, Ows.append (b2'.keep fun b hb' => k2.block b (b2'.lt b hb') (hF b hb')) (g1.keep fun b hb' => k2.block b (g1.lt b hb') (hG b hb')), ?_, ?_⟩ ⟨k2.os, k2.tape, k2.output, k2.size, fun b hb' => k2.block b (by omega) (fun e => by have := (a5 b e.symm).1; omega)⟩
 ·
  rw [List.nodup_append]
  refine ⟨b3, g2, fun p hp q hq hpq => ?_⟩
  subst hpq
  have := a6 p hp
  have := g3 p hq
  omega
 ·
  intro b hm'
  have hgb : ∀ b, some b ≠ v.ownBlock → b < w.heap.size → Value.ownBlock (.slice (some ⟨g, 0, none⟩) (n + m) cap) ≠ some b := by
   intro b hne hlt e
   simp only [Value.ownBlock, Option.some.injEq] at e
   subst e
   rcases k3 with k3 | k3
   ·
    exact hne k3.symm
   ·
    omega
  rcases List.mem_append.1 hm' with hm' | hm'
  ·
   exact ⟨(b4 b hm').1, hgb b (hF b hm') (b2'.lt b hm')⟩
  ·
   exact ⟨by have := g3 b hm'; omega, hgb b (hG b hm') (g1.lt b hm')⟩
theorem Freshs.int {w w' : World} (z : Int) : Freshs w w' [.int z] [.int .i64 z] := ⟨[], Ows.cons (Ow.int z) Ows.nil, by simp, by simp⟩
end Go.Proofs.YtjlmdhoajfdkbaaGreatDoor

namespace Go.Proofs.YtjlmdhoajfdkbaaGreatDoor
set_option linter.unusedVariables false
set_option linter.unusedSimpArgs false
open Go.ChangeShapes Go.WideShapes Go.ChangeAt Go.RowKit Go.Sort
theorem info_int64s : (Tryz.prog.info? 52).map (fun i => (i.zero, i.size, i.bytes)) = some (some (.slice none 0 0), 1, 24) := by kernel_rfl
end Go.Proofs.YtjlmdhoajfdkbaaGreatDoor

namespace Go.Proofs.YtjlmdhoajfdkbaaGreatDoor
set_option linter.unusedVariables false
set_option linter.unusedSimpArgs false
open Go.ChangeShapes Go.WideShapes Go.ChangeAt Go.RowKit
def sumI {α : Type} (f : α → Int) : List α → Int
 | [] => 0
 | x :: r => f x + sumI f r
section
variable {α : Type} {f : α → Int}
theorem sumI_append : ∀ a b : List α, sumI f (a ++ b) = sumI f a + sumI f b
 | [], b => by simp [sumI]
 | x :: a, b => by simp only [List.cons_append, sumI, sumI_append a b]; omega
theorem sumI_take_succ {xs : List α} {i : Nat} {x : α} (h : xs[i]? = some x) : sumI f (xs.take (i + 1)) = sumI f (xs.take i) + f x := by
 obtain ⟨hi, rfl⟩ := List.getElem?_eq_some_iff.1 h
 rw [List.take_succ_eq_append_getElem hi, sumI_append]
 simp [sumI]
theorem sumI_bd {B : Int} : ∀ {xs : List α}, (∀ x ∈ xs, 0 ≤ f x ∧ f x ≤ B) → 0 ≤ sumI f xs ∧ sumI f xs ≤ xs.length * B
 | [], _ => by simp [sumI]
 | x :: r, h => by
  obtain ⟨h1, h2⟩ := h x (List.mem_cons_self ..)
  obtain ⟨h3, h4⟩ := sumI_bd (xs := r) fun y hy => h y (List.mem_cons_of_mem _ hy)
  simp only [sumI, List.length_cons]
  refine ⟨by omega, ?_⟩
  have : ((r.length + 1 : Nat) : Int) * B = r.length * B + B := by
   rw [Int.natCast_add, Int.add_mul]; simp
  omega
theorem sumI_bd_le {B M : Int} {n : Nat} {xs : List α} (h : ∀ x ∈ xs, 0 ≤ f x ∧ f x ≤ B) (hn : xs.length ≤ n) (hB : 0 ≤ B) (hM : n * B ≤ M) : 0 ≤ sumI f xs ∧ sumI f xs ≤ M := by
 obtain ⟨h1, h2⟩ := sumI_bd h
 have : (xs.length : Int) * B ≤ n * B := Int.mul_le_mul_of_nonneg_right (by omega) hB
 omega
end
def cnt0 (ar : List Bool) : Int := sumI (fun b => if b then 1 else 0) ar
def stepV (c : List Int) (z : Int) : Int := if 0 ≤ z then c.getD z.toNat 0 else 0
def cntRow (c : List Int) (row : List Int) : Int := sumI (stepV c) row
def cntRows (c : List Int) (nr : List (List Int)) : Int := sumI (cntRow c) nr
def cntN (ac : List (List Bool)) (nx : List (List (List Int))) : Nat → List Int
 | 0 => ac.map cnt0
 | n + 1 => nx.map (cntRows (cntN ac nx n))
theorem cntN_length {t a : Int} {ac : List (List Bool)} {nx : List (List (List Int))} (h : AutOk t a ac nx) : ∀ n, (cntN ac nx n).length = ac.length
 | 0 => by simp [cntN]
 | n + 1 => by simp [cntN, h.len]
def cntB (n : Nat) : Int := 8 * 32 ^ n
theorem cntB_succ (n : Nat) : cntB (n + 1) = 32 * cntB n := by unfold cntB; rw [Int.pow_succ]; omega
theorem cntB_nonneg : ∀ n, 0 ≤ cntB n
 | 0 => by decide
 | n + 1 => by rw [cntB_succ]; have := cntB_nonneg n; omega
theorem cntB_mono {n m : Nat} (h : n ≤ m) : cntB n ≤ cntB m := by
 induction h with
 | refl => exact Int.le_refl _
 | step _ ih => rw [cntB_succ]; have := cntB_nonneg n; rename_i m _; have := cntB_nonneg m; omega
theorem cntB_ten {n : Nat} (h : n ≤ 10) : cntB n ≤ 10000000000000000 := Int.le_trans (cntB_mono h) (by decide)
theorem AutOk.dims {t a : Int} {ac : List (List Bool)} {nx : List (List (List Int))} (h : AutOk t a ac nx) : 1 ≤ atomsN t ∧ atomsN t ≤ 8 ∧ 0 ≤ a ∧ a ≤ 4 := by
 obtain ⟨h0, h1, h2, h3⟩ := sigB_bd h.sig
 have := atomsN_bd t
 exact ⟨this.1, this.2, h2, h3⟩
theorem cnt0_bd {t a : Int} {ac : List (List Bool)} {nx : List (List (List Int))} (h : AutOk t a ac nx) {i : Nat} {ar : List Bool} (h1 : ac[i]? = some ar) (k : Nat) : 0 ≤ cnt0 (ar.take k) ∧ cnt0 (ar.take k) ≤ 8 := by
 have h2 := h.acc_row h1
 have h3 := h.dims
 refine sumI_bd_le (B := 1) (n := 8) (fun x _ => ?_) (by simp; omega) (by omega) (by omega)
 cases x <;> simp
theorem stepV_bd {c : List Int} {B : Int} (hB : 0 ≤ B) (hc : ∀ (i : Nat) (z : Int), c[i]? = some z → 0 ≤ z ∧ z ≤ B) (z : Int) : 0 ≤ stepV c z ∧ stepV c z ≤ B := by
 unfold stepV
 split
 ·
  rw [List.getD_eq_getElem?_getD]
  cases h : c[z.toNat]? with
  | none => simp; exact hB
  | some v => simpa using hc _ v h
 ·
  omega
theorem cntRow_bd {t a : Int} {ac : List (List Bool)} {nx : List (List (List Int))} (h : AutOk t a ac nx) {c : List Int} {B : Int} (hB : 0 ≤ B) (hc : ∀ (i : Nat) (z : Int), c[i]? = some z → 0 ≤ z ∧ z ≤ B)
  {row : List Int} (hr : RowOk a ac.length row) (k : Nat) : 0 ≤ cntRow c (row.take k) ∧ cntRow c (row.take k) ≤ 4 * B := by
 have h3 := h.dims
 have h4 := hr.1
 exact sumI_bd_le (n := 4) (fun z _ => stepV_bd hB hc z) (by simp; omega) hB (by omega)
theorem cntRows_bd {t a : Int} {ac : List (List Bool)} {nx : List (List (List Int))} (h : AutOk t a ac nx) {c : List Int} {B : Int} (hB : 0 ≤ B) (hc : ∀ (i : Nat) (z : Int), c[i]? = some z → 0 ≤ z ∧ z ≤ B)
  {i : Nat} {nr : List (List Int)} (hi : nx[i]? = some nr) (k : Nat) : 0 ≤ cntRows c (nr.take k) ∧ cntRows c (nr.take k) ≤ 32 * B := by
 have h3 := h.dims
 obtain ⟨h4, h5⟩ := h.row hi
 refine sumI_bd_le (n := 8) (B := 4 * B) (fun row hrow => ?_) (by simp; omega) (by omega) (by omega)
 obtain ⟨j, hj⟩ := List.mem_iff_getElem?.1 (List.mem_of_mem_take hrow)
 have := cntRow_bd h hB hc (h5 j row hj) row.length
 rwa [List.take_length] at this
theorem cntN_bd {t a : Int} {ac : List (List Bool)} {nx : List (List (List Int))} (h : AutOk t a ac nx) : ∀ (n i : Nat) (z : Int), (cntN ac nx n)[i]? = some z → 0 ≤ z ∧ z ≤ cntB n
 | 0, i, z, hz => by
  simp only [cntN, List.getElem?_map, Option.map_eq_some_iff] at hz
  obtain ⟨ar, h1, rfl⟩ := hz
  have := cnt0_bd h h1 ar.length
  rw [List.take_length] at this
  have e : cntB 0 = 8 := by decide
  omega
 | n + 1, i, z, hz => by
  simp only [cntN, List.getElem?_map, Option.map_eq_some_iff] at hz
  obtain ⟨nr, h1, rfl⟩ := hz
  have := cntRows_bd h (cntB_nonneg n) (cntN_bd h n) h1 nr.length
  rw [List.take_length] at this
  rw [cntB_succ]
  exact this
theorem cnt_round {t a : Int} {ac : List (List Bool)} {nx : List (List (List Int))} (h : AutOk t a ac nx) {n : Nat} (hn : n + 1 ≤ 10) {i j : Nat} {nr : List (List Int)} {row : List Int} (hi : nx[i]? = some nr) (hj : nr[j]? = some row) (k : Nat) :
  0 ≤ cntRows (cntN ac nx n) (nr.take j) + cntRow (cntN ac nx n) (row.take k) ∧ cntRows (cntN ac nx n) (nr.take j) + cntRow (cntN ac nx n) (row.take k) ≤ 100000000000000000 := by
 have h1 := cntRows_bd h (cntB_nonneg n) (cntN_bd h n) hi j
 have h2 := cntRow_bd h (cntB_nonneg n) (cntN_bd h n) ((h.row hi).2 j row hj) k
 have h3 := cntB_succ n
 have h4 := cntB_ten hn
 omega
theorem cnt_cell {t a : Int} {ac : List (List Bool)} {nx : List (List (List Int))} (h : AutOk t a ac nx) {n : Nat} (hn : n + 1 ≤ 10) {i j l : Nat} {nr : List (List Int)} {row : List Int} {z : Int} (hi : nx[i]? = some nr) (hj : nr[j]? = some row)
  (hz : row[l]? = some z) : -1 ≤ z ∧ z < ac.length ∧ (0 ≤ z → ∃ v, (cntN ac nx n)[z.toNat]? = some v ∧ 0 ≤ v ∧ v ≤ 10000000000000000 ∧ cntRow (cntN ac nx n) (row.take (l + 1)) = cntRow (cntN ac nx n) (row.take l) + v) ∧
   (z < 0 → cntRow (cntN ac nx n) (row.take (l + 1)) = cntRow (cntN ac nx n) (row.take l)) := by
 obtain ⟨h1, h2⟩ := ((h.row hi).2 j row hj).2 l z hz
 have hs := sumI_take_succ (f := stepV (cntN ac nx n)) hz
 refine ⟨h1, by omega, fun h0 => ?_, fun h0 => ?_⟩
 ·
  obtain ⟨v, hv⟩ : ∃ v, (cntN ac nx n)[z.toNat]? = some v := ⟨_, List.getElem?_eq_getElem (by rw [cntN_length h]; omega)⟩
  obtain ⟨h3, h4⟩ := cntN_bd h n _ v hv
  have h5 := cntB_ten (show n ≤ 10 by omega)
  refine ⟨v, hv, h3, by omega, ?_⟩
  unfold cntRow
  rw [hs]
  unfold stepV
  rw [if_pos h0, List.getD_eq_getElem?_getD, hv]
  rfl
 ·
  unfold cntRow
  rw [hs]
  unfold stepV
  rw [if_neg (by omega)]
  omega
theorem cntRows_succ {c : List Int} {nr : List (List Int)} {j : Nat} {row : List Int} (h : nr[j]? = some row) : cntRows c (nr.take (j + 1)) = cntRows c (nr.take j) + cntRow c row := sumI_take_succ h
theorem cnt0_succ {ar : List Bool} {j : Nat} {b : Bool} (h : ar[j]? = some b) : cnt0 (ar.take (j + 1)) = cnt0 (ar.take j) + if b then 1 else 0 := sumI_take_succ h
theorem cntN_at {ac : List (List Bool)} {nx : List (List (List Int))} {n i : Nat} {nr : List (List Int)} (hi : nx[i]? = some nr) : (cntN ac nx (n + 1))[i]? = some (cntRows (cntN ac nx n) nr) := by
 simp [cntN, hi]
theorem cntN_zero_at {ac : List (List Bool)} {nx : List (List (List Int))} {i : Nat} {ar : List Bool} (hi : ac[i]? = some ar) : (cntN ac nx 0)[i]? = some (cnt0 ar) := by
 simp [cntN, hi]
end Go.Proofs.YtjlmdhoajfdkbaaGreatDoor

namespace Go.Proofs.YtjlmdhoajfdkbaaGreatDoor
set_option linter.unusedVariables false
set_option linter.unusedSimpArgs false
open Go.ChangeShapes Go.WideShapes Go.ChangeAt Go.RowKit Go.Sort
def cntsL (ac : List (List Bool)) (nx : List (List (List Int))) (k : Nat) : List (List Int) := (List.range k).map (cntN ac nx)
theorem cntsL_length (ac : List (List Bool)) (nx : List (List (List Int))) (k : Nat) : (cntsL ac nx k).length = k := by simp [cntsL]
theorem cntsL_at {ac : List (List Bool)} {nx : List (List (List Int))} {k i : Nat} (h : i < k) : (cntsL ac nx k)[i]? = some (cntN ac nx i) := by simp [cntsL, h]
theorem cntsL_succ (ac : List (List Bool)) (nx : List (List (List Int))) (k : Nat) : cntsL ac nx (k + 1) = cntsL ac nx k ++ [cntN ac nx k] := by simp [cntsL, List.range_succ]
theorem App.iid {W w : World} {t : TypeId} {xss : List (List Int)} {n : Nat} {v : Value} (h : App W w t 1 n (xss.map intsD) v) (hn : xss.length = n) : Rd w (nestD intsD xss) v := by
 subst hn
 exact h.rd
theorem App.freshN {α : Type} {f : α → D} {W w : World} {t : TypeId} {xs : List α} {n : Nat} {v : Value} (h : App W w t 1 n (xs.map f) v) (hn : xs.length = n) : Fresh W w (nestD f xs) v := by
 subst hn
 exact h.fresh
theorem App.sized {W w : World} {t : TypeId} {ds ds' : List D} {n n' : Nat} {v : Value} (h : App W w t 1 n ds v) (hd : ds = ds') (hn : n = n') : App W w t 1 n' ds' v := by
 subst hd hn
 exact h
set_option maxRecDepth 100000 in
set_option maxHeartbeats 16000000 in
theorem l02Counts_i {t a : Int} {ac : List (List Bool)} {nx : List (List (List Int))} {s u : Option Addr} {c d b o n : Nat} {w0 : World} (h : AutAt w0 b o t a ac nx s u c d) (hok : AutOk t a ac nx) (hn : n ≤ 10) :
  Calls Tryz.prog 95 #[.pointer (some ⟨b, o, none⟩), .int .i64 n] w0 fun e w' => ∃ s' c', e = .returned (.slice s' (n + 1) c') ∧ Fresh w0 w' (nestD intsD (cntsL ac nx (n + 1))) (.slice s' (n + 1) c') ∧ Below w0.heap.size w0 w' := by
 have g4 := h.2.2.2.2.1
 have g5 := h.2.2.2.2.2
 obtain ⟨hlen, hcap⟩ := nest_bd g4
 obtain ⟨hlen', hcap'⟩ := nest_bd g5
 unfold maxLen at hcap hcap'
 have hn1 := hok.lo
 have hn2 := hok.hi
 have hnl := Lib.hid hok.len
 have Hok := Lib.hid hok
 have Hh := Lib.hid h
 have h0 := App.empty (W := w0) (size := 1) (Blk.made w0 52 #[]) (Nat.le_refl _)
 clear hok h
 go_enter Tryz.func95, Tryz.ntmps95
 go_wp2_with fail
 go_loopw [5, 6] (fun v i wr => ∃ k : Nat, k ≤ n + 1 ∧ i = .int .i64 k ∧ App w0 wr 52 1 k ((cntsL ac nx k).map intsD) v ∧ Below w0.heap.size w0 wr) (fun _ i _ => n + 1 - (intOf i).toNat)
 case atStart => exact ⟨0, by omega, rfl, by simpa [cntsL] using h0, by (repeat' first | exact Below.refl _ _ | assumption | apply Below.alloc | apply Below.drew | apply Below.setCell | omega | (simp; done) | (simp; omega))⟩
 case round =>
  clear h0
  obtain ⟨k, hk, rfl, happ, hB⟩ := hrel
  have szB := hB.size
  obtain ⟨a', cap', rfl, hcap1, hcap2⟩ := happ.shape
  unfold maxLen at hcap2
  by_cases hkn : k ≤ n
  rotate_left
  ·
   obtain rfl : k = n + 1 := by omega
   have hf := happ.freshN (cntsL_length ac nx (n + 1))
   go_wp2_with fail
   go_ret
   exact ⟨a', cap', rfl, hf, hB⟩
  obtain ⟨wo, rfl⟩ : ∃ v, v = wr := ⟨_, rfl⟩
  have h1 := App.empty (W := wo) (size := 1) (Blk.made wo 2 #[]) (Nat.le_refl _)
  have hrd := happ.iid (cntsL_length ac nx k)
  have HA := Lib.hid happ
  have HB := Lib.hid hB
  have HR := Lib.hid hrd
  clear happ hB hrd
  go_wp2_with fail
  go_loopw [7, 8] (fun v i w2 => ∃ j : Nat, j ≤ ac.length ∧ i = .int .i64 j ∧ App wo w2 2 1 j (((cntN ac nx k).take j).map D.int) v ∧ Below wo.heap.size wo w2) (fun _ i _ => ac.length - (intOf i).toNat)
  case atStart => exact ⟨0, by omega, rfl, by simpa using h1, by (repeat' first | exact Below.refl _ _ | assumption | apply Below.alloc | apply Below.drew | apply Below.setCell | omega | (simp; done) | (simp; omega))⟩
  case round =>
   clear h1
   obtain ⟨j, hj, rfl, happ1, hB2⟩ := hrel
   obtain ⟨w2, rfl⟩ : ∃ v, v = wr := ⟨_, rfl⟩
   have hz2 := hB2.size
   obtain ⟨a1, cap1, rfl, hcap3, hcap4⟩ := happ1.shape
   unfold maxLen at hcap4
   have HA1 := Lib.hid happ1
   have HB2 := Lib.hid hB2
   have HBw := Lib.hid (HB.out.trans (hB2.mono szB))
   clear happ1 hB2
   by_cases hlt : j < ac.length
   rotate_left
   ·
    obtain rfl : j = ac.length := by omega
    have happ1 := HA1.out
    have HC := Lib.hid (cntsL_succ ac nx k)
    have HL := Lib.hid (cntN_length Hok.out k)
    have hf : Freshs wo w2 [intsD (cntN ac nx k)] [.slice a1 ac.length cap1] := Freshs.one (by
     have h1 := happ1
     rw [← HL.out, List.take_length] at h1
     rw [← HL.out]
     exact h1.freshN rfl)
    have hf2 := hf.on (Below.alloc (Below.refl _ _) (Nat.le_refl _) (.cells #[.slice a1 ac.length cap1] 52))
    have happ := HA.out
    obtain ⟨c0, c1', c2', c3', -, -⟩ := Hh.out.below HBw.out
    clear happ1 hf
    go_wp2_with (at_builtin; refine wpList_append_app _ rfl _ _ 123 rfl 52 (.slice none 0 0) 1 24 Tryz.underlying123 info_int64s rfl (by decide) _ rfl happ (HB2.out.alloc hz2 _) szB ⟨w2.heap.size, 0, none⟩ 1 1 [.slice a1 ac.length cap1] rfl (news_blk (Blk.made _ _ _)) hf2 rfl (by simp [Value.oneCell']) (by omega) (by omega) (by unfold maxLen; omega) ?_; intro g cap3 w3 happ3 hb3)
    have hB3 : Below w0.heap.size w0 w3 := (HBw.out.alloc (by omega) _).trans hb3
    have Hfin := Lib.hid (And.intro (happ3.sized (show _ = ((cntsL ac nx (k + 1)).map intsD) by rw [HC.out, List.map_append]; rfl) rfl) hB3)
    clear happ3 hb3 hB3 happ hf2
    go_wp2_with fail
    go_roundw
    case rel => exact ⟨k + 1, by omega, by go_num, Hfin.out.1, Hfin.out.2⟩
    case measure => simp [intOf]; omega
   obtain ⟨ar, har⟩ : ∃ e, ac[j]? = some e := ⟨_, List.getElem?_eq_getElem hlt⟩
   obtain ⟨nr, hnr⟩ : ∃ e, nx[j]? = some e := ⟨_, List.getElem?_eq_getElem (by have := hnl.out; omega)⟩
   obtain ⟨sb, so, rfl⟩ := nest_some (f := boolsD) g4 (by omega)
   obtain ⟨ub, uo, rfl⟩ := nest_some (f := iiD) g5 (by have := hnl.out; omega)
   obtain ⟨hsl, sa, ca, a0, ra⟩ := nest_sl (g := D.bool) (g4.below HBw.out) har
   obtain ⟨hul, sn, cn, b0, rb⟩ := nest_sl (g := intsD) (g5.below HBw.out) hnr
   obtain ⟨ra1, ra2⟩ := nest_bd ra
   obtain ⟨rb1, rb2⟩ := nest_bd rb
   unfold maxLen at ra2 rb2
   have hal : ar.length ≤ nr.length ∧ nr.length ≤ ar.length := by
    have h1 := Hok.out.acc_row har
    have h2 := (Hok.out.row hnr).1
    omega
   have hjz := Int.natCast_nonneg j
   have hjb : (j : Int) < (ac.length : Int) := by omega
   have hjc : (j : Int) < (nx.length : Int) := by have := hnl.out; omega
   obtain ⟨c0, c1', c2', c3', -, -⟩ := Hh.out.below HBw.out
   have hrec := HR.out.below HB2.out
   by_cases hk0 : k = 0
   ·
    have hq : (cntN ac nx k)[j]? = some (cnt0 ar) := by rw [hk0]; exact cntN_zero_at har
    have e0 : ((k : Int) == 0) = true := by simp [hk0]
    have e1 : decide ((0 : Int) < (k : Int)) = false := by simp [hk0]
    have e2 : decide (0 < k) = false := by simp [hk0]
    clear hk0
    have hbd := fun l => cnt0_bd Hok.out har l
    have Hbd := Lib.hid hbd
    have Hq := Lib.hid hq
    have Har := Lib.hid har
    have Hnr := Lib.hid hnr
    clear hbd hq har hnr
    go_wp2_with fail
    go_loop [9, 10] (fun q i => ∃ l : Nat, l ≤ ar.length ∧ i = .int .i64 l ∧ q = .int .i64 (cnt0 (ar.take l))) (fun _ i => ar.length - (intOf i).toNat)
    case atStart => exact ⟨0, by omega, rfl, by simp [cnt0, sumI]⟩
    case round =>
     obtain ⟨l, hl, rfl, rfl⟩ := hrel
     by_cases hll : l < ar.length
     rotate_left
     ·
      obtain rfl : l = ar.length := by omega
      obtain ⟨q, hqe⟩ : ∃ q, q = cnt0 ar := ⟨_, rfl⟩
      rw [List.take_length, ← hqe]
      have hq' := Hq.out
      rw [← hqe] at hq'
      have Hq := Lib.hid hq'
      clear hqe hq'
      have happ1 := HA1.out
      have Hst : Hid ((cntN ac nx k).take (j + 1) = (cntN ac nx k).take j ++ [q]) := by
       show _ = _
       obtain ⟨h1, h2⟩ := List.getElem?_eq_some_iff.1 Hq.out
       rw [List.take_succ_eq_append_getElem h1, h2]
      go_wp2_with (at_builtin; refine wpList_append_app _ rfl _ _ 52 rfl 2 (.int .i64 0) 1 8 Tryz.underlying52 info_int64 rfl (by decide) _ rfl happ1 (Below.alloc (Below.refl _ _) (Nat.le_refl _) _) hz2 ⟨w2.heap.size, 0, none⟩ 1 1 [.int .i64 q] rfl (news_blk (Blk.made _ _ _)) (Freshs.int q) rfl (by simp [Value.oneCell']) (by omega) (by omega) (by unfold maxLen; omega) ?_; intro g cap3 w3 happ3 hb3)
      have hB3 : Below wo.heap.size wo w3 := (HB2.out.alloc hz2 _).trans hb3
      have Hfin := Lib.hid (And.intro (happ3.sized (show _ = (((cntN ac nx k).take (j + 1)).map D.int) by rw [Hst.out, List.map_append]; rfl) rfl) hB3)
      clear happ1 happ3 hb3 hB3
      go_wp2_with fail
      go_roundw
      case rel => exact ⟨j + 1, by omega, by go_num, Hfin.out.1, Hfin.out.2⟩
      case measure => simp [intOf]; omega
     obtain ⟨z, hz⟩ : ∃ e, ar[l]? = some e := ⟨_, List.getElem?_eq_getElem hll⟩
     obtain ⟨rb', ro, rfl⟩ := nest_some (f := D.bool) ra (by omega)
     obtain ⟨-, z0⟩ := bool_in ra hz
     have hlz := Int.natCast_nonneg l
     have hlb : (l : Int) < (ar.length : Int) := by omega
     obtain ⟨k1, k2⟩ := Hbd.out l
     have Hs := Lib.hid (cnt0_succ hz)
     clear hz
     cases z
     all_goals
      go_wp2_with fail
      go_loop [9, 11] (fun q i => i = .int .i64 0 ∧ q = .int .i64 (cnt0 (ar.take (l + 1)))) (fun _ _ => 0)
      case atStart => exact ⟨rfl, by rw [Hs.out]; simp⟩
      case round =>
       obtain ⟨rfl, rfl⟩ := hrel
       go_wp2_with fail
       go_round
       case rel => exact ⟨l + 1, by omega, by go_num, rfl⟩
       case measure => simp [intOf]; omega
   ·
    obtain ⟨m0, hm0⟩ : ∃ m, k = m + 1 := ⟨k - 1, by omega⟩
    have hrow : (cntN ac nx k)[j]? = some (cntRows (cntN ac nx m0) nr) := by rw [hm0]; exact cntN_at hnr
    have e0 : ((k : Int) == 0) = false := by simp [hk0]
    have e1 : decide ((0 : Int) < (k : Int)) = true := by simp; omega
    have e2 : decide (0 < k) = true := by simp; omega
    have hmk : m0 < k := by omega
    have hm10 : m0 + 1 ≤ 10 := by omega
    have hbd := fun (i l : Nat) (row : List Int) (hi : nr[i]? = some row) => cnt_round Hok.out hm10 hnr hi l
    have hce := fun (i l : Nat) (row : List Int) (z : Int) (hi : nr[i]? = some row) (hl : row[l]? = some z) => cnt_cell Hok.out hm10 hnr hi hl
    obtain ⟨pb, po, rfl⟩ := nest_some hrec (by rw [cntsL_length]; omega)
    obtain ⟨hpl, sp, cp, p0, rp⟩ := nest_sl (g := D.int) hrec (cntsL_at (ac := ac) (nx := nx) hmk)
    have hpn := cntN_length Hok.out m0
    obtain ⟨sp', so', rfl⟩ := nest_some (f := D.int) rp (by omega)
    obtain ⟨rp1, rp2⟩ := nest_bd rp
    unfold maxLen at rp2
    have Hbd := Lib.hid hbd
    have Hce := Lib.hid hce
    have Hq := Lib.hid hrow
    have Hpn := Lib.hid hpn
    have hpn1 : (cntN ac nx m0).length ≤ ac.length := by omega
    have hpn2 : ac.length ≤ (cntN ac nx m0).length := by omega
    have q1 : IntKind.i64.wrap ((k : Int) - 1) = (m0 : Int) := by rw [show (k : Int) - 1 = (m0 : Int) by omega]; exact wrap_of (by omega) (by omega)
    have hm0z := Int.natCast_nonneg m0
    have hm0k : (m0 : Int) < (k : Int) := by omega
    clear hbd hce hrow har hnr hpn hm0 hk0
    go_wp2_with fail
    go_loop [9, 10] (fun q i => ∃ (l : Nat) (S : Int), l ≤ ar.length ∧ i = .int .i64 l ∧ q = .int .i64 S ∧ Hid (S = cntRows (cntN ac nx m0) (nr.take l))) (fun _ i => ar.length - (intOf i).toNat)
    case atStart => exact ⟨0, _, by omega, rfl, rfl, by show (0 : Int) = _; simp [cntRows, sumI]⟩
    case round =>
     obtain ⟨l, S, hl, rfl, rfl, HS⟩ := hrel
     by_cases hll : l < ar.length
     rotate_left
     ·
      obtain rfl : l = ar.length := by omega
      have hq : (cntN ac nx k)[j]? = some S := by
       have := HS.out
       rw [show ar.length = nr.length by omega, List.take_length] at this
       rw [this]
       exact Hq.out
      have Hq := Lib.hid hq
      clear hq
      obtain ⟨q, rfl⟩ : ∃ q, q = S := ⟨_, rfl⟩
      have happ1 := HA1.out
      have Hst : Hid ((cntN ac nx k).take (j + 1) = (cntN ac nx k).take j ++ [q]) := by
       show _ = _
       obtain ⟨h1, h2⟩ := List.getElem?_eq_some_iff.1 Hq.out
       rw [List.take_succ_eq_append_getElem h1, h2]
      go_wp2_with (at_builtin; refine wpList_append_app _ rfl _ _ 52 rfl 2 (.int .i64 0) 1 8 Tryz.underlying52 info_int64 rfl (by decide) _ rfl happ1 (Below.alloc (Below.refl _ _) (Nat.le_refl _) _) hz2 ⟨w2.heap.size, 0, none⟩ 1 1 [.int .i64 q] rfl (news_blk (Blk.made _ _ _)) (Freshs.int q) rfl (by simp [Value.oneCell']) (by omega) (by omega) (by unfold maxLen; omega) ?_; intro g cap3 w3 happ3 hb3)
      have hB3 : Below wo.heap.size wo w3 := (HB2.out.alloc hz2 _).trans hb3
      have Hfin := Lib.hid (And.intro (happ3.sized (show _ = (((cntN ac nx k).take (j + 1)).map D.int) by rw [Hst.out, List.map_append]; rfl) rfl) hB3)
      clear happ1 happ3 hb3 hB3
      go_wp2_with fail
      go_roundw
      case rel => exact ⟨j + 1, by omega, by go_num, Hfin.out.1, Hfin.out.2⟩
      case measure => simp [intOf]; omega
     have hln : l < nr.length := by omega
     obtain ⟨row, hrow⟩ : ∃ e, nr[l]? = some e := ⟨_, List.getElem?_eq_getElem hln⟩
     obtain ⟨vb, vo, rfl⟩ := nest_some (f := intsD) rb (by omega)
     obtain ⟨-, sr, cr, r0, rr⟩ := nest_sl (g := D.int) rb hrow
     obtain ⟨rr1, rr2⟩ := nest_bd rr
     unfold maxLen at rr2
     have hlz := Int.natCast_nonneg l
     have hlb : (l : Int) < (ar.length : Int) := by omega
     have hlc : (l : Int) < (nr.length : Int) := by omega
     have Hrow := Lib.hid hrow
     have Hs := Lib.hid (cntRows_succ (c := cntN ac nx m0) hrow)
     clear hrow
     go_wp2_with fail
     go_loop [9, 11] (fun q i => ∃ (m : Nat) (T : Int), m ≤ row.length ∧ i = .int .i64 m ∧ q = .int .i64 T ∧ Hid (T = cntRows (cntN ac nx m0) (nr.take l) + cntRow (cntN ac nx m0) (row.take m))) (fun _ i => row.length - (intOf i).toNat)
     case atStart => exact ⟨0, _, by omega, rfl, rfl, by show _ = _; rw [HS.out]; simp [cntRow, sumI]⟩
     case round =>
      obtain ⟨m, T, hm, rfl, rfl, HT⟩ := hrel
      by_cases hml : m < row.length
      rotate_left
      ·
       obtain rfl : m = row.length := by omega
       have HT2 : Hid (T = cntRows (cntN ac nx m0) (nr.take (l + 1))) := by show _ = _; rw [HT.out, List.take_length, Hs.out]
       go_wp2_with fail
       go_round
       case rel => exact ⟨l + 1, T, by omega, by go_num, rfl, HT2⟩
       case measure => simp [intOf]; omega
      obtain ⟨z, hz⟩ : ∃ e, row[m]? = some e := ⟨_, List.getElem?_eq_getElem hml⟩
      obtain ⟨tb, to', rfl⟩ := nest_some (f := D.int) rr (by omega)
      obtain ⟨-, z0⟩ := int_in rr hz
      have hmz := Int.natCast_nonneg m
      have hmb : (m : Int) < (row.length : Int) := by omega
      obtain ⟨t1, t2⟩ := Hbd.out l m row Hrow.out
      rw [← HT.out] at t1 t2
      obtain ⟨z1, z2, z3, z4⟩ := Hce.out l m row z Hrow.out hz
      clear hz
      by_cases hneg : z < 0
      ·
       have HT2 : Hid (T = cntRows (cntN ac nx m0) (nr.take l) + cntRow (cntN ac nx m0) (row.take (m + 1))) := by show _ = _; rw [HT.out, z4 hneg]
       clear z3 z4
       go_wp2_with fail
       go_round
       case rel => exact ⟨m + 1, T, by omega, by go_num, rfl, HT2⟩
       case measure => simp [intOf]; omega
      ·
       obtain ⟨zn, rfl⟩ : ∃ zn : Nat, z = (zn : Int) := ⟨z.toNat, by omega⟩
       obtain ⟨v, hv, v1, v2, v3⟩ := z3 (by omega)
       rw [Int.toNat_natCast] at hv
       obtain ⟨-, x0⟩ := int_in rp hv
       have HT2 : Hid (T + v = cntRows (cntN ac nx m0) (nr.take l) + cntRow (cntN ac nx m0) (row.take (m + 1))) := by show _ = _; rw [HT.out, v3]; omega
       have hzn := Int.natCast_nonneg zn
       have hznb : (zn : Int) < ((cntN ac nx m0).length : Int) := by omega
       clear z3 z4 hv v3
       go_wp2_with fail
       go_round
       case rel => exact ⟨m + 1, T + v, by omega, by go_num, by go_num, HT2⟩
       case measure => simp [intOf]; omega
end Go.Proofs.YtjlmdhoajfdkbaaGreatDoor

namespace Go.Proofs.YtjlmdhoajfdkbaaGreatDoor
set_option linter.unusedVariables false
set_option linter.unusedSimpArgs false
open Go.ChangeShapes Go.WideShapes Go.ChangeAt Go.RowKit Go.Deep
section
variable {α : Type} {f : α → Value} {w : World} {g t : Nat} {L : List α}
end
section
variable {α : Type} {z : α} {full L : List α} {k : Nat}
theorem FillL.at (h : FillL z full k L) (hk : k < full.length) : L[k]? = some z := h.2.2 k (Nat.le_refl _) hk
end
end Go.Proofs.YtjlmdhoajfdkbaaGreatDoor

namespace Go.Proofs.YtjlmdhoajfdkbaaGreatDoor
set_option linter.unusedVariables false
set_option linter.unusedSimpArgs false
open Go.ChangeShapes Go.WideShapes Go.ChangeAt Go.RowKit Go.Sort
set_option maxRecDepth 100000 in
set_option maxHeartbeats 16000000 in
theorem countFrom_i {t a : Int} {ac : List (List Bool)} {nx : List (List (List Int))} {s u : Option Addr} {c d n : Nat} {w : World} (hr : Rd w (bbD ac) (.slice s ac.length c)) (hq : Rd w (iiiD nx) (.slice u nx.length d)) (hok : AutOk t a ac nx) (hn : n ≤ 10) :
  Calls Tryz.prog 96 #[.agg #[.int .i64 t, .int .i64 a, .slice s ac.length c, .slice u nx.length d], .int .i64 n] w fun e w' => ∃ g, e = .returned (.slice (some ⟨g, 0, none⟩) ac.length ac.length) ∧ Fresh w w' (intsD (cntN ac nx n)) (.slice (some ⟨g, 0, none⟩) ac.length ac.length) ∧ Below w.heap.size w w' := by
 obtain ⟨hlen, hcap⟩ := nest_bd hr
 obtain ⟨hlen', hcap'⟩ := nest_bd hq
 unfold maxLen at hcap hcap'
 have hn1 := hok.lo
 have hn2 := hok.hi
 have hnl := Lib.hid hok.len
 have Hok := Lib.hid hok
 have Hr := Lib.hid hr
 have Hq := Lib.hid hq
 obtain ⟨i0, hi, hz0, hz1, hz2⟩ := info_parts info_int64
 have L := Blk.new4 w 75 (.int .i64 t) (.int .i64 a) (.slice s ac.length c) (.slice u nx.length d)
 have HL := Lib.hid L
 have l2 := L.c2
 clear hok L
 go_enter Tryz.func96, Tryz.ntmps96
 go_wp2_with (at_make; refine wpList_make_full _ rfl _ _ 52 rfl w.heap.size 2 i0 (.int .i64 0) 1 Tryz.underlying52 hi hz0 hz1 .i64 .i64 _ _ ac.length rfl rfl rfl rfl (by rw [hz2]; omega) (by unfold maxLen; omega) (by simp) ?_; intro w1 hown hgrow; have hbx := HL.out.keep (hgrow.block _ HL.out.lt (by simp)); have c2' := hbx.c2)
 have hB0 : Below w.heap.size w w1 := Below.grown (Below.alloc (Below.refl _ _) (Nat.le_refl _) _) hgrow (by simp) (by simp)
 clear c2'
 rw [show (w.alloc (.cells #[.int .i64 t, .int .i64 a, .slice s ac.length c, .slice u nx.length d] 75)).heap.size = w.heap.size + 1 by simp] at hown
 obtain ⟨hb0, -⟩ := made_blk (z := .int .i64 0) rfl hown
 have hfill := FillL.start (z := (0 : Int)) (cntN_length Hok.out 0)
 have hb1 : Blk w1 (w.heap.size + 1) 2 ((List.replicate ac.length (0 : Int)).map (Value.int .i64)) := by simpa using hb0
 have Hst := Lib.hid (And.intro hb1 (And.intro hfill (And.intro hbx hB0)))
 have HBx := Lib.hid hbx
 clear hown hgrow hb0 hb1 hfill hbx hB0 HL l2
 go_loopw [24] (fun i wr => ∃ (k : Nat) (L : List Int), k ≤ ac.length ∧ i = .int .i64 k ∧ Blk wr (w.heap.size + 1) 2 (L.map (Value.int .i64)) ∧ FillL (0 : Int) (cntN ac nx 0) k L ∧ Blk wr w.heap.size 75 [.int .i64 t, .int .i64 a, .slice s ac.length c, .slice u nx.length d] ∧ Below w.heap.size w wr) (fun i _ => ac.length - (intOf i).toNat)
 case atStart => exact ⟨0, _, by omega, rfl, Hst.out⟩
 case round =>
  clear Hst HBx
  obtain ⟨k, L, hk, rfl, hb, hfill, hbx, hB⟩ := hrel
  obtain ⟨wo, rfl⟩ : ∃ v, v = wr := ⟨_, rfl⟩
  have szB := hB.size
  have HBx := Lib.hid hbx
  have HB := Lib.hid hB
  by_cases hlt : k < ac.length
  ·
   obtain ⟨ar, har⟩ : ∃ e, ac[k]? = some e := ⟨_, List.getElem?_eq_getElem hlt⟩
   obtain ⟨sb, so, rfl⟩ := nest_some (f := boolsD) Hr.out (by omega)
   obtain ⟨hsl, sa, ca, a0, ra⟩ := nest_sl (g := D.bool) Hr.out har
   replace a0 := (HB.out.cell (p := ⟨sb, so + k, none⟩) hsl).trans a0
   obtain ⟨ra1, ra2⟩ := nest_bd ra
   unfold maxLen at ra2
   have Hra := Lib.hid ra
   have hkz := Int.natCast_nonneg k
   have hkb : (k : Int) < (ac.length : Int) := by omega
   have hkL : k < L.length := by have := hfill.1; rw [cntN_length Hok.out] at this; omega
   have hb' : Blk wo (w.heap.size + 1) 2 ((L.set k 0).map (Value.int .i64)) := by rw [set_zero_same (hfill.at (by rw [cntN_length Hok.out]; exact hlt))]; exact hb
   have HB' := Lib.hid hb'
   have Hfill := Lib.hid (fun v => hfill.step (v := v))
   have Hat := Lib.hid (cntN_zero_at (nx := nx) har)
   have Hbd := Lib.hid (fun l => cnt0_bd Hok.out har l)
   have Hsu := Lib.hid (fun j b => cnt0_succ (ar := ar) (j := j) (b := b))
   clear hb hfill hbx hB hb' har ra
   have c2' := HBx.out.c2
   have c3' := HBx.out.c3
   have hbl := HBx.out.lt
   go_wp2_with fail
   clear c2' c3' hbl a0
   go_loopw [31] (fun i wr => ∃ (m : Nat) (p : Int), m ≤ ar.length ∧ i = .int .i64 m ∧ Hid (p = cnt0 (ar.take m)) ∧ Blk wr (w.heap.size + 1) 2 ((L.set k p).map (Value.int .i64)) ∧ Blk wr w.heap.size 75 [.int .i64 t, .int .i64 a, .slice (some ⟨sb, so, none⟩) ac.length c, .slice u nx.length d] ∧ Below w.heap.size w wr) (fun i _ => ar.length - (intOf i).toNat)
   case atStart => exact ⟨0, 0, by omega, rfl, by show (0 : Int) = _; simp [cnt0, sumI], HB'.out, HBx.out, HB.out⟩
   case round =>
    clear HB' HBx HB
    obtain ⟨m, p, hm, rfl, Hp, hb, hbx, hB⟩ := hrel
    have HBx := Lib.hid hbx
    have HB := Lib.hid hB
    by_cases hml : m < ar.length
    ·
     obtain ⟨z, hz⟩ : ∃ e, ar[m]? = some e := ⟨_, List.getElem?_eq_getElem hml⟩
     obtain ⟨rb, ro, rfl⟩ := nest_some (f := D.bool) Hra.out (by omega)
     obtain ⟨-, z0⟩ := bool_in (Hra.out.below HB.out) hz
     have hmz := Int.natCast_nonneg m
     have hmb : (m : Int) < (ar.length : Int) := by omega
     have x0 := arr_cell hb (set_at (x := p) hkL)
     have f0 := hb.frozen k
     obtain ⟨p1, p2⟩ := Hbd.out m
     rw [← Hp.out] at p1 p2
     have Hp2 := Lib.hid (Hsu.out m z hz)
     have gl := hb.lt
     have Hset := Lib.hid (arr_set hb k (p + 1))
     clear hbx hB hz
     have c2' := HBx.out.c2
     have c3' := HBx.out.c3
     have hbl := HBx.out.lt
     cases z
     ·
      have Hp3 : Hid (p = cnt0 (ar.take (m + 1))) := by show _ = _; rw [Hp2.out, Hp.out]; simp
      have Hb := Lib.hid hb
      clear Hp2 x0 f0 gl Hset hb
      go_wp2_with fail
      go_roundw
      case rel => exact ⟨m + 1, p, by omega, by go_num, Hp3, Hb.out, HBx.out, HB.out⟩
      case measure => simp [intOf]; omega
     ·
      have Hp3 : Hid (p + 1 = cnt0 (ar.take (m + 1))) := by show _ = _; rw [Hp2.out, ← Hp.out]; simp
      have Hfin := Lib.hid (And.intro Hset.out (And.intro (HBx.out.other (p := ⟨w.heap.size + 1, k, none⟩) (by simp) (.int .i64 (p + 1))) (Below.setCell (p := ⟨w.heap.size + 1, k, none⟩) HB.out (by simp) (.int .i64 (p + 1)))))
      clear Hp2 Hset hb
      go_wp2_with fail
      go_roundw
      case rel => exact ⟨m + 1, p + 1, by omega, by go_num, Hp3, by rw [← set_twice] ; exact Hfin.out.1, Hfin.out.2⟩
      case measure => simp [intOf]; omega
    ·
     obtain rfl : m = ar.length := by omega
     have hst := Hfill.out p (by rw [Hp.out, List.take_length]; exact Hat.out)
     have Hst := Lib.hid hst
     have Hb := Lib.hid hb
     clear hst hb hbx hB
     go_wp2_with fail
     go_roundw
     case rel => exact ⟨k + 1, _, by omega, by go_num, Hb.out, Hst.out, HBx.out, HB.out⟩
     case measure => simp [intOf]; omega
  ·
   obtain rfl : k = ac.length := by omega
   obtain rfl : L = cntN ac nx 0 := FillL.all (by rw [cntN_length Hok.out]; exact hfill)
   have Hst : Hid (Blk wo (w.heap.size + 1) 2 ((cntN ac nx 0).map (Value.int .i64)) ∧ w.heap.size < w.heap.size + 1 ∧ Blk wo w.heap.size 75 [.int .i64 t, .int .i64 a, .slice s ac.length c, .slice u nx.length d] ∧ Below w.heap.size w wo) := ⟨hb, by omega, hbx, hB⟩
   have hW := hB.size
   have HW := Lib.hid hW
   clear hb hfill hbx hB hW
   go_wp2_with fail
   go_loopw [5, 45] (fun v i wr => ∃ (k g : Nat), k ≤ n ∧ i = .int .i64 k ∧ v = .slice (some ⟨g, 0, none⟩) ac.length ac.length ∧ Blk wr g 2 ((cntN ac nx k).map (Value.int .i64)) ∧ w.heap.size < g ∧ Blk wr w.heap.size 75 [.int .i64 t, .int .i64 a, .slice s ac.length c, .slice u nx.length d] ∧ Below w.heap.size w wr) (fun _ i _ => n - (intOf i).toNat)
   case atStart => exact ⟨0, _, by omega, rfl, rfl, Hst.out⟩
   case round =>
    clear Hst
    obtain ⟨k, g, hk, rfl, rfl, hb, hg, hbx, hB⟩ := hrel
    obtain ⟨w2, rfl⟩ : ∃ v, v = wr := ⟨_, rfl⟩
    have HBx := Lib.hid hbx
    have HB := Lib.hid hB
    have Hb := Lib.hid hb
    have sz2 := hB.size
    have gl2 := hb.lt
    clear hb hbx hB
    by_cases hkn : k < n
    rotate_left
    ·
     obtain rfl : k = n := by omega
     have Hfr := Lib.hid (arr_fresh (fd := D.int) (W := w) Hb.out (by omega) (fun x => Ow.int x) (cntN_length Hok.out k) (by unfold maxLen; omega))
     go_wp2_with fail
     go_ret
     exact ⟨g, rfl, Hfr.out, HB.out⟩
    have hm10 : k + 1 ≤ 10 := by omega
    go_wp2_with (at_make; refine wpList_make_full _ rfl _ _ 52 rfl w.heap.size 2 i0 (.int .i64 0) 1 Tryz.underlying52 hi hz0 hz1 .i64 .i64 _ _ ac.length rfl rfl rfl rfl (by rw [hz2]; omega) (by unfold maxLen; omega) (by omega) ?_; intro w3 hown hgrow; have hbx := HBx.out.keep (hgrow.block _ HBx.out.lt (by simp)); have c3' := hbx.c3)
    have hB3 : Below w.heap.size w w3 := Below.grown HB.out hgrow sz2 (by simp)
    have hb3 := Hb.out.keep (hgrow.block _ Hb.out.lt (by simp))
    obtain ⟨hb0, -⟩ := made_blk (z := .int .i64 0) rfl hown
    have hfill := FillL.start (z := (0 : Int)) (cntN_length Hok.out (k + 1))
    have hb1 : Blk w3 w2.heap.size 2 ((List.replicate ac.length (0 : Int)).map (Value.int .i64)) := by simpa using hb0
    obtain ⟨g2, hg2⟩ : ∃ v, v = w2.heap.size := ⟨_, rfl⟩
    rw [← hg2] at hb1 sz2 gl2 ⊢
    have hgg : g ≠ g2 := by omega
    have hg3 : w.heap.size < g2 := by omega
    have Hst : Hid (Blk w3 g2 2 ((List.replicate ac.length (0 : Int)).map (Value.int .i64)) ∧ FillL (0 : Int) (cntN ac nx (k + 1)) 0 (List.replicate ac.length 0) ∧ Blk w3 g 2 ((cntN ac nx k).map (Value.int .i64)) ∧ Blk w3 w.heap.size 75 [.int .i64 t, .int .i64 a, .slice s ac.length c, .slice u nx.length d] ∧ Below w.heap.size w w3) := ⟨hb1, hfill, hb3, hbx, hB3⟩
    have hcl := Lib.hid (cntN_length Hok.out k)
    have hcl2 := Lib.hid (cntN_length Hok.out (k + 1))
    clear hown hgrow hb0 hb1 hfill hbx hB3 hb3 Hb HBx HB c3' hg2 sz2 gl2
    go_loopw [53] (fun i wr => ∃ (j : Nat) (L : List Int), j ≤ nx.length ∧ i = .int .i64 j ∧ Blk wr g2 2 (L.map (Value.int .i64)) ∧ FillL (0 : Int) (cntN ac nx (k + 1)) j L ∧ Blk wr g 2 ((cntN ac nx k).map (Value.int .i64)) ∧ Blk wr w.heap.size 75 [.int .i64 t, .int .i64 a, .slice s ac.length c, .slice u nx.length d] ∧ Below w.heap.size w wr) (fun i _ => nx.length - (intOf i).toNat)
    case atStart => exact ⟨0, _, by omega, rfl, Hst.out⟩
    case round =>
     clear Hst
     obtain ⟨j, L, hj, rfl, hb, hfill, hb3, hbx, hB⟩ := hrel
     obtain ⟨w4, rfl⟩ : ∃ v, v = wr := ⟨_, rfl⟩
     have HBx := Lib.hid hbx
     have HB := Lib.hid hB
     have Hb3 := Lib.hid hb3
     clear hbx hB hb3
     by_cases hjl : j < nx.length
     rotate_left
     ·
      obtain rfl : j = nx.length := by omega
      obtain rfl : L = cntN ac nx (k + 1) := FillL.all (by rw [hcl2.out, ← hnl.out]; exact hfill)
      have Hb := Lib.hid hb
      clear hb hfill
      go_wp2_with fail
      go_roundw
      case rel => exact ⟨k + 1, g2, by omega, by go_num, rfl, Hb.out, hg3, HBx.out, HB.out⟩
      case measure => simp [intOf]; omega
     obtain ⟨nr, hnr⟩ : ∃ e, nx[j]? = some e := ⟨_, List.getElem?_eq_getElem hjl⟩
     obtain ⟨ub, uo, rfl⟩ := nest_some (f := iiD) Hq.out (by omega)
     obtain ⟨hul, sn, cn, b0, rb⟩ := nest_sl (g := intsD) Hq.out hnr
     replace b0 := (HB.out.cell (p := ⟨ub, uo + j, none⟩) hul).trans b0
     obtain ⟨rb1, rb2⟩ := nest_bd rb
     unfold maxLen at rb2
     have Hrb := Lib.hid rb
     have hjz := Int.natCast_nonneg j
     have hjb : (j : Int) < (nx.length : Int) := by omega
     have hjL : j < L.length := by have := hfill.1; rw [hcl2.out] at this; have := hnl.out; omega
     have hjL2 : j < ac.length := by have := hnl.out; omega
     have hb' : Blk w4 g2 2 ((L.set j 0).map (Value.int .i64)) := by rw [set_zero_same (hfill.at (by rw [hcl2.out]; exact hjL2))]; exact hb
     have HB' := Lib.hid hb'
     have Hfill := Lib.hid (fun v => hfill.step (v := v))
     have Hat := Lib.hid (cntN_at (ac := ac) (n := k) hnr)
     have Hbd := Lib.hid (fun (i l : Nat) (row : List Int) (hi : nr[i]? = some row) => cnt_round Hok.out hm10 hnr hi l)
     have Hce := Lib.hid (fun (i l : Nat) (row : List Int) (z : Int) (hi : nr[i]? = some row) (hl : row[l]? = some z) => cnt_cell Hok.out hm10 hnr hi hl)
     clear hb hfill hb' hnr rb
     go_wp2_with fail
     clear b0
     go_loopw [60] (fun i wr => ∃ (l : Nat) (S : Int), l ≤ nr.length ∧ i = .int .i64 l ∧ Hid (S = cntRows (cntN ac nx k) (nr.take l)) ∧ Blk wr g2 2 ((L.set j S).map (Value.int .i64)) ∧ Blk wr g 2 ((cntN ac nx k).map (Value.int .i64)) ∧ Blk wr w.heap.size 75 [.int .i64 t, .int .i64 a, .slice s ac.length c, .slice (some ⟨ub, uo, none⟩) nx.length d] ∧ Below w.heap.size w wr) (fun i _ => nr.length - (intOf i).toNat)
     case atStart => exact ⟨0, 0, by omega, rfl, by show (0 : Int) = _; simp [cntRows, sumI], HB'.out, Hb3.out, HBx.out, HB.out⟩
     case round =>
      clear HB' HBx HB Hb3
      obtain ⟨l, S, hl, rfl, HS, hb, hb3, hbx, hB⟩ := hrel
      obtain ⟨w5, rfl⟩ : ∃ v, v = wr := ⟨_, rfl⟩
      have HBx := Lib.hid hbx
      have HB := Lib.hid hB
      have Hb3 := Lib.hid hb3
      have Hb := Lib.hid hb
      clear hbx hB hb3 hb
      by_cases hll : l < nr.length
      rotate_left
      ·
       obtain rfl : l = nr.length := by omega
       have hst := Hfill.out S (by rw [HS.out, List.take_length]; exact Hat.out)
       have Hst := Lib.hid hst
       clear hst
       go_wp2_with fail
       go_roundw
       case rel => exact ⟨j + 1, _, by omega, by go_num, Hb.out, Hst.out, Hb3.out, HBx.out, HB.out⟩
       case measure => simp [intOf]; omega
      obtain ⟨row, hrow⟩ : ∃ e, nr[l]? = some e := ⟨_, List.getElem?_eq_getElem hll⟩
      obtain ⟨vb, vo, rfl⟩ := nest_some (f := intsD) Hrb.out (by omega)
      obtain ⟨hvl, sr, cr, r0, rr⟩ := nest_sl (g := D.int) Hrb.out hrow
      replace r0 := (HB.out.cell (p := ⟨vb, vo + l, none⟩) hvl).trans r0
      obtain ⟨rr1, rr2⟩ := nest_bd rr
      unfold maxLen at rr2
      have hlz := Int.natCast_nonneg l
      have hlb : (l : Int) < (nr.length : Int) := by omega
      have Hrow := Lib.hid hrow
      have Hrr := Lib.hid rr
      have Hs := Lib.hid (cntRows_succ (c := cntN ac nx k) hrow)
      have HS2 : Hid (S = cntRows (cntN ac nx k) (nr.take l) + cntRow (cntN ac nx k) (row.take 0)) := by show _ = _; rw [HS.out]; simp [cntRow, sumI]
      clear hrow rr
      go_wp2_with fail
      clear r0
      go_loopw [66] (fun i wr => ∃ (m : Nat) (T : Int), m ≤ row.length ∧ i = .int .i64 m ∧ Hid (T = cntRows (cntN ac nx k) (nr.take l) + cntRow (cntN ac nx k) (row.take m)) ∧ Blk wr g2 2 ((L.set j T).map (Value.int .i64)) ∧ Blk wr g 2 ((cntN ac nx k).map (Value.int .i64)) ∧ Blk wr w.heap.size 75 [.int .i64 t, .int .i64 a, .slice s ac.length c, .slice (some ⟨ub, uo, none⟩) nx.length d] ∧ Below w.heap.size w wr) (fun i _ => row.length - (intOf i).toNat)
      case atStart => exact ⟨0, S, by omega, rfl, HS2, Hb.out, Hb3.out, HBx.out, HB.out⟩
      case round =>
       clear Hb HBx HB Hb3 HS2
       obtain ⟨m, T, hm, rfl, HT, hb, hb3, hbx, hB⟩ := hrel
       have HBx := Lib.hid hbx
       have HB := Lib.hid hB
       have Hb3 := Lib.hid hb3
       have Hb := Lib.hid hb
       clear hbx hB hb3 hb
       by_cases hml : m < row.length
       rotate_left
       ·
        obtain rfl : m = row.length := by omega
        have HT2 : Hid (T = cntRows (cntN ac nx k) (nr.take (l + 1))) := by show _ = _; rw [HT.out, List.take_length, Hs.out]
        go_wp2_with fail
        go_roundw
        case rel => exact ⟨l + 1, T, by omega, by go_num, HT2, Hb.out, Hb3.out, HBx.out, HB.out⟩
        case measure => simp [intOf]; omega
       obtain ⟨z, hz⟩ : ∃ e, row[m]? = some e := ⟨_, List.getElem?_eq_getElem hml⟩
       obtain ⟨tb, to', rfl⟩ := nest_some (f := D.int) Hrr.out (by omega)
       obtain ⟨-, z0⟩ := int_in (Hrr.out.below HB.out) hz
       have hmz := Int.natCast_nonneg m
       have hmb : (m : Int) < (row.length : Int) := by omega
       obtain ⟨t1, t2⟩ := Hbd.out l m row Hrow.out
       rw [← HT.out] at t1 t2
       obtain ⟨z1, z2, z3, z4⟩ := Hce.out l m row z Hrow.out hz
       clear hz
       by_cases hneg : z < 0
       ·
        have HT2 : Hid (T = cntRows (cntN ac nx k) (nr.take l) + cntRow (cntN ac nx k) (row.take (m + 1))) := by show _ = _; rw [HT.out, z4 hneg]
        clear z3 z4
        go_wp2_with fail
        go_roundw
        case rel => exact ⟨m + 1, T, by omega, by go_num, HT2, Hb.out, Hb3.out, HBx.out, HB.out⟩
        case measure => simp [intOf]; omega
       ·
        obtain ⟨zn, rfl⟩ : ∃ zn : Nat, z = (zn : Int) := ⟨z.toNat, by omega⟩
        obtain ⟨v, hv, v1, v2, v3⟩ := z3 (by omega)
        rw [Int.toNat_natCast] at hv
        have x0 := arr_cell Hb3.out hv
        have y0 := arr_cell Hb.out (set_at (x := T) hjL)
        have f0 := Hb.out.frozen j
        have gl := Hb.out.lt
        have HT2 : Hid (T + v = cntRows (cntN ac nx k) (nr.take l) + cntRow (cntN ac nx k) (row.take (m + 1))) := by show _ = _; rw [HT.out, v3]; omega
        have Hset := arr_set Hb.out j (T + v)
        rw [set_twice] at Hset
        have Hfin := Lib.hid (And.intro Hset (And.intro (Hb3.out.other (p := ⟨g2, j, none⟩) hgg (.int .i64 (T + v))) (And.intro (HBx.out.other (p := ⟨g2, j, none⟩) (by simp; omega) (.int .i64 (T + v))) (Below.setCell (p := ⟨g2, j, none⟩) HB.out (by simp; omega) (.int .i64 (T + v))))))
        have hzn := Int.natCast_nonneg zn
        have hznb : (zn : Int) < (ac.length : Int) := by omega
        clear z3 z4 hv v3 Hset
        go_wp2_with fail
        go_region
        go_wp2_with fail
        go_roundw
        case rel => exact ⟨m + 1, T + v, by omega, by go_num, HT2, Hfin.out.1, Hfin.out.2.1, Hfin.out.2.2.1, Hfin.out.2.2.2.drew⟩
        case measure => simp [intOf]; omega
end Go.Proofs.YtjlmdhoajfdkbaaGreatDoor

namespace Go.Proofs.YtjlmdhoajfdkbaaGreatDoor
set_option linter.unusedVariables false
set_option linter.unusedSimpArgs false
open Go.ChangeShapes Go.WideShapes Go.ChangeAt Go.RowKit Go.Sort
theorem inB_nat {x : Int} {m : Nat} (h : inB x 0 m = true) : ∃ n : Nat, x = (n : Int) ∧ n ≤ m := by
 simp only [inB, Bool.and_eq_true, decide_eq_true_eq] at h
 exact ⟨x.toNat, by omega, by omega⟩
theorem cntN_first {t a : Int} {ac : List (List Bool)} {nx : List (List (List Int))} (h : AutOk t a ac nx) (n : Nat) : ∃ v, (cntN ac nx n)[0]? = some v ∧ (cntN ac nx n).getD 0 0 = v := by
 obtain ⟨v, hv⟩ : ∃ v, (cntN ac nx n)[0]? = some v := ⟨_, List.getElem?_eq_getElem (by rw [cntN_length h]; exact h.lo)⟩
 exact ⟨v, hv, by rw [List.getD_eq_getElem?_getD, hv]; rfl⟩
end Go.Proofs.YtjlmdhoajfdkbaaGreatDoor
