/-
  Parts of a proof, joined: MixQ, LsP, FstQ, MxlP, MixC, KeyP, MixI0, RegOf. No condition.
-/
import Derived.WideKeyPair
import Derived.Test.YtfhlddbngjlhbaaPk19
namespace Go.Proofs.Ytfhlddbngjlhbaa
set_option linter.unusedVariables false
set_option linter.unusedSimpArgs false
section
variable {t a : Int} {ac bc : List (List Bool)} {nx ny : List (List (List Int))}
theorem prL_in (h : AutOk t a ac nx) (h' : AutOk t a bc ny) (i : Nat) : prL nx ny (atomsN t).toNat a.toNat i <+: prF nx ny (atomsN t).toNat a.toNat := by
 by_cases hi : i ≤ 3721
 ·
  exact expl_prefix _ _ hi
 ·
  have : prL nx ny (atomsN t).toNat a.toNat i = prF nx ny (atomsN t).toNat a.toNat := prL_stop (i := 3721) (prL_many h h' 3721) (by omega)
  rw [this]
  exact List.prefix_refl _
theorem prC_in (h : AutOk t a ac nx) (h' : AutOk t a bc ny) {i m k : Nat} {x : Int × Int} (hx : (prL nx ny (atomsN t).toNat a.toNat i)[i]? = some x) : prC nx ny (atomsN t).toNat a.toNat i x m k <+: prF nx ny (atomsN t).toNat a.toNat :=
 (prC_prefix hx).trans (prL_in h h' (i + 1))
theorem prF_nodup : (prF nx ny (atomsN t).toNat a.toNat).Nodup := expl_nodup _ _ _
theorem mx_at (h : AutOk t a ac nx) (h' : AutOk t a bc ny) {i : Nat} {x : Int × Int} (hx : (prL nx ny (atomsN t).toNat a.toNat i)[i]? = some x) : (prF nx ny (atomsN t).toNat a.toNat)[i]? = some x := prefix_get (prL_in h h' i) hx
theorem mx_num (h : AutOk t a ac nx) (h' : AutOk t a bc ny) {i m k j : Nat} {x z : Int × Int} (hx : (prL nx ny (atomsN t).toNat a.toNat i)[i]? = some x) {o : Option (Int × Int)} (ho : o = some z) (hj : (prC nx ny (atomsN t).toNat a.toNat i x m k)[j]? = some z) : numO (prF nx ny (atomsN t).toNat a.toNat) o = (j : Int) := by
 subst ho
 have q := prefix_get (prC_in h h' hx) hj
 have q2 := prF_nodup (t := t) (a := a) (nx := nx) (ny := ny)
 generalize prF nx ny (atomsN t).toNat a.toNat = L at q q2 ⊢
 simp only [numO]
 rw [idxOf_at q2 q]
theorem mx_ok_le (h : AutOk t a ac nx) (h' : AutOk t a bc ny) (hok : mxOk nx ny (atomsN t).toNat a.toNat) : (∀ i, (prL nx ny (atomsN t).toNat a.toNat i).length ≤ 60) ∧ ∀ i x m k, (prL nx ny (atomsN t).toNat a.toNat i)[i]? = some x → (prC nx ny (atomsN t).toNat a.toNat i x m k).length ≤ 60 :=
 ⟨fun i => by have q := prefix_length (prL_in h h' i); unfold mxOk at hok; omega, fun i x m k hx => by have q := prefix_length (prC_in (m := m) (k := k) h h' hx); unfold mxOk at hok; omega⟩
theorem prL_live {A b : Nat} (i : Nat) : ∀ p ∈ prL nx ny A b i, ¬ (p.1 < 0 ∧ p.2 < 0) := by
 refine expl_all ?_ ?_ i
 ·
  show ¬ ((0 : Int) < 0 ∧ (0 : Int) < 0)
  omega
 ·
  intro y hy m k hm hk z hz
  unfold nxtP at hz
  split at hz
  ·
   cases hz
  ·
   rename_i hn
   obtain rfl := Option.some.inj hz
   exact hn
theorem prC_live {A b i m k : Nat} {x : Int × Int} (hx : (prL nx ny A b i)[i]? = some x) : ∀ p ∈ prC nx ny A b i x m k, ¬ (p.1 < 0 ∧ p.2 < 0) := fun p hp => prL_live (i + 1) p ((prC_prefix hx).subset hp)
noncomputable def mxT (nx ny : List (List (List Int))) (A b : Nat) (v : Int) : Int := if mxC nx ny A b = 0 then v else 0
theorem mx_yes {k : Int} {A b : Nat} (h : mxOk nx ny A b) : (∀ v, mxT nx ny A b v = v) ∧ mxA k ac bc nx ny A b = (prF nx ny A b).map (accM k ac bc A) ∧ mxX nx ny A b = (prF nx ny A b).map (rowsM nx ny (prF nx ny A b) A b) ∧ mxC nx ny A b = 0 := by
 have h0 : mxC nx ny A b = 0 := by unfold mxC; rw [if_pos h]
 refine ⟨fun v => by unfold mxT; rw [if_pos h0], ?_, ?_, h0⟩
 ·
  unfold mxA; rw [if_pos h]
 ·
  unfold mxX; rw [if_pos h]
theorem mx_no {k : Int} {A b : Nat} (h : ¬ mxOk nx ny A b) : (∀ v, mxT nx ny A b v = 0) ∧ mxA k ac bc nx ny A b = [] ∧ mxX nx ny A b = [] ∧ mxC nx ny A b = 3 := by
 have h0 : mxC nx ny A b = 3 := by unfold mxC; rw [if_neg h]
 refine ⟨fun v => by unfold mxT; rw [if_neg (by omega)], ?_, ?_, h0⟩
 ·
  unfold mxA; rw [if_neg h]
 ·
  unfold mxX; rw [if_neg h]
end
end Go.Proofs.Ytfhlddbngjlhbaa

namespace Go.Proofs.Ytfhlddbngjlhbaa
set_option linter.unusedVariables false
set_option linter.unusedSimpArgs false
section
variable {κ : Type} [DecidableEq κ]
end
section
variable {κ χ : Type} [DecidableEq κ] [DecidableEq χ]
end
abbrev WL := List (Nat × Nat) → Nat → Bool
noncomputable instance instDecWL : DecidableEq WL := fun _ _ => Classical.propDecidable _
section
variable {ac : List (List Bool)} {nx : List (List (List Int))} {A a : Nat}
end
section
variable {t a : Int} {ac : List (List Bool)} {nx : List (List (List Int))}
end
section
variable {t a : Int} {ac : List (List Bool)} {nx : List (List (List Int))}
end
end Go.Proofs.Ytfhlddbngjlhbaa

namespace Go.Proofs.Ytfhlddbngjlhbaa
set_option linter.unusedVariables false
set_option linter.unusedSimpArgs false
open Go.ChangeShapes Go.WideShapes Go.ChangeAt Go.RowKit Go.Deep
section
variable {t a : Int} {ac : List (List Bool)} {nx : List (List (List Int))} {N : Nat}
theorem getD_some {l : List Int} {k : Nat} {x : Int} (h : l[k]? = some x) : l.getD k 0 = x := by rw [List.getD_eq_getElem?_getD, h]; rfl
theorem word_at {ps qs : List Int} (hw : wordB t a ps qs = true) {i : Nat} : (i ≤ qs.length → ∃ m : Nat, ps[i]? = some (m : Int) ∧ (m : Int) < atomsN t) ∧ (i < qs.length → ∃ m : Nat, qs[i]? = some (m : Int) ∧ (m : Int) < a) := by
 obtain ⟨h1, h2, h3, h4⟩ := wordB_parts hw
 constructor
 ·
  intro hi
  obtain ⟨z, hz⟩ : ∃ z, ps[i]? = some z := ⟨_, List.getElem?_eq_getElem (by omega)⟩
  obtain ⟨m, rfl, hm⟩ := allIn_at h3 hz
  exact ⟨m, hz, hm⟩
 ·
  intro hi
  obtain ⟨z, hz⟩ : ∃ z, qs[i]? = some z := ⟨_, List.getElem?_eq_getElem hi⟩
  obtain ⟨m, rfl, hm⟩ := allIn_at h4 hz
  exact ⟨m, hz, hm⟩
theorem word_ok {ps qs : List Int} (hw : wordB t a ps qs = true) {k : Nat} : okW (atomsN t).toNat a.toNat (segW ps qs k qs.length) (atW ps qs.length) := by
 constructor
 ·
  intro q hq
  unfold segW at hq
  obtain ⟨j, hj, rfl⟩ := List.mem_map.1 hq
  have hj := List.mem_range.1 hj
  obtain ⟨m, h1, h2⟩ := (word_at hw (i := k + j)).1 (by omega)
  obtain ⟨m', h3, h4⟩ := (word_at hw (i := k + j)).2 (by omega)
  simp only [getD_some h1, getD_some h3]
  omega
 ·
  obtain ⟨m, h1, h2⟩ := (word_at hw (i := qs.length)).1 (Nat.le_refl _)
  unfold atW
  rw [getD_some h1]
  omega
end
end Go.Proofs.Ytfhlddbngjlhbaa

namespace Go.Proofs.Ytfhlddbngjlhbaa
set_option linter.unusedVariables false
set_option linter.unusedSimpArgs false
section
variable {t a : Int} {ac bc : List (List Bool)} {nx ny : List (List (List Int))}
theorem mx_small (h : AutOk t a ac nx) (h' : AutOk t a bc ny) (h1 : ac.length ≤ 5) (h2 : bc.length ≤ 5) : mxOk nx ny (atomsN t).toNat a.toNat := by
 have hp := prL_ok h h' 3721
 have hd : (prL nx ny (atomsN t).toNat a.toNat 3721).Nodup := expl_nodup _ _ _
 show (prF nx ny (atomsN t).toNat a.toNat).length ≤ 60
 unfold prF
 generalize prL nx ny (atomsN t).toNat a.toNat 3721 = L at hp hd ⊢
 have := pigeon 36 (L.map fun p => ((p.1 + 1) * 6 + (p.2 + 1)).toNat) ?_ ?_
 ·
  rw [List.length_map] at this
  omega
 ·
  rw [List.nodup_iff_pairwise_ne, List.pairwise_map]
  refine List.Pairwise.imp_of_mem ?_ (List.nodup_iff_pairwise_ne.1 hd)
  intro p q hp1 hq1 hne e
  obtain ⟨a1, a2, a3, a4⟩ := hp p hp1
  obtain ⟨b1, b2, b3, b4⟩ := hp q hq1
  apply hne
  apply Prod.ext <;> omega
 ·
  intro x hx
  obtain ⟨p, hp1, rfl⟩ := List.mem_map.1 hx
  obtain ⟨a1, a2, a3, a4⟩ := hp p hp1
  omega
theorem mx_runs (h : AutOk t a ac nx) (h' : AutOk t a bc ny) {k : Int} (hok : mxOk nx ny (atomsN t).toNat a.toNat) {ps qs : List Int} (hw : wordB t a ps qs = true) :
  runsB (mxA k ac bc nx ny (atomsN t).toNat a.toNat) (mxX nx ny (atomsN t).toNat a.toNat) ps qs = mixB k (runsB ac nx ps qs) (runsB bc ny ps qs) := by
 rw [runs_acc, runs_acc, runs_acc]
 exact mix_acc h h' hok (word_ok hw)
theorem accR_cntS (h : AutOk t a ac nx) {n : Nat} (hn : n ≤ 10) : accR t a ac nx (n : Int) = cntS ac nx n 0 ∧ accK t a ac nx (n : Int) = 0 := by
 have hin : inB (n : Int) 0 10 = true := by simp only [inB, Bool.and_eq_true, decide_eq_true_eq]; omega
 constructor
 ·
  unfold accR cntS
  rw [autB_yes h, hin, Bool.true_and, if_pos rfl, Int.toNat_natCast, if_neg (by omega)]
  rfl
 ·
  unfold accK
  rw [autB_yes h, hin]
  rfl
theorem accR_bd (h : AutOk t a ac nx) {n : Nat} (hn : n ≤ 10) : 0 ≤ accR t a ac nx (n : Int) ∧ accR t a ac nx (n : Int) ≤ 10000000000000000 := by
 rw [(accR_cntS h hn).1]
 unfold cntS
 rw [if_neg (by omega)]
 obtain ⟨v, v1, v2⟩ := cntN_first h n
 have := cntN_bd h n 0 v v1
 have h10 := cntB_ten hn
 show 0 ≤ (cntN ac nx n).getD 0 0 ∧ (cntN ac nx n).getD 0 0 ≤ _
 rw [v2]
 omega
theorem mx_counts (h : AutOk t a ac nx) (h' : AutOk t a bc ny) (hok : mxOk nx ny (atomsN t).toNat a.toNat) {n : Nat} (hn : n ≤ 10) :
  accR t a ac nx (n : Int) + accR t a bc ny (n : Int) = accR t a (mxA 1 ac bc nx ny (atomsN t).toNat a.toNat) (mxX nx ny (atomsN t).toNat a.toNat) (n : Int) + accR t a (mxA 2 ac bc nx ny (atomsN t).toNat a.toNat) (mxX nx ny (atomsN t).toNat a.toNat) (n : Int) ∧
  accR t a ac nx (n : Int) = accR t a (mxA 2 ac bc nx ny (atomsN t).toNat a.toNat) (mxX nx ny (atomsN t).toNat a.toNat) (n : Int) + accR t a (mxA 3 ac bc nx ny (atomsN t).toNat a.toNat) (mxX nx ny (atomsN t).toNat a.toNat) (n : Int) := by
 rw [(accR_cntS h hn).1, (accR_cntS h' hn).1, (accR_cntS (mix_ok h h' (k := 1) hok) hn).1, (accR_cntS (mix_ok h h' (k := 2) hok) hn).1, (accR_cntS (mix_ok h h' (k := 3) hok) hn).1]
 exact mix_cnt h h' hok n
end
end Go.Proofs.Ytfhlddbngjlhbaa

namespace Go.Proofs.Ytfhlddbngjlhbaa
set_option linter.unusedVariables false
set_option linter.unusedSimpArgs false
open Go.ChangeShapes Go.WideShapes Go.ChangeAt Go.RowKit Go.Deep
theorem Bun.turn_app {B : Nat} {w w' : World} {items : List Item} {own : Nat → Nat} (h : ∀ (i : Nat) (it : Item), items[i]? = some it → it.on (fun b => B ≤ b ∧ b < w.heap.size ∧ own b = i) w) (hz : w.heap.size ≤ w'.heap.size) (hB : B ≤ w.heap.size) (k : Nat)
  {S : Nat → Prop} {t size n : Nat} {ds : List D} {v : Value} (hk : ∀ b, b < w.heap.size → ¬ (B ≤ b ∧ b < w.heap.size ∧ own b = k) → w'.heap[b]? = w.heap[b]?) (f : AppS S w' t size n ds v) (hs : ∀ b, b < w'.heap.size → S b → (B ≤ b ∧ b < w.heap.size ∧ own b = k) ∨ w.heap.size ≤ b) : Bun B w' (items.set k (.app t size n ds v)) := by
 have := bun_turn (w' := w') h hz k items.length (it' := .app t size n ds v) (fun b hb h1 _ => hk b hb (fun q => h1 q.2.2)) (AppS.more f fun b hb hS => by
  rcases hs b hb hS with q | q
  ·
   exact ⟨q.1, hb, Or.inr (Or.inl q.2.2)⟩
  ·
   exact ⟨by omega, hb, Or.inl q⟩)
 rwa [set_none] at this
end Go.Proofs.Ytfhlddbngjlhbaa

namespace Go.Proofs.Ytfhlddbngjlhbaa
set_option linter.unusedVariables false
set_option linter.unusedSimpArgs false
open Go.ChangeShapes Go.WideShapes Go.ChangeAt Go.RowKit Go.Deep Go.ChangeMaps Go.MapKept Go.WideMaps
open Go.Maps (Keyed)
def kfP (p : Int × Int) : Value := .agg #[.int .i64 p.1, .int .i64 p.2]
theorem kfP_inj (x y : Int × Int) (h : kfP x = kfP y) : x = y := by
 simp only [kfP, Value.agg.injEq] at h
 simp at h
 exact Prod.ext h.1 h.2
theorem small_wf {x : Int} (h1 : -1 ≤ x) (h2 : x ≤ 1000) : (Lit.int .i64 x).wf = true := by
 have hm : IntKind.i64.min = -9223372036854775808 := rfl
 simp [Lit.wf, hm]
 omega
theorem prog_types : ∃ m, Try.prog.types.size = m + 1 := ⟨Try.prog.types.size - 1, by have h : 0 < Try.prog.types.size := of_decide_eq_true (by kernel_rfl); omega⟩
end Go.Proofs.Ytfhlddbngjlhbaa

namespace Go.Proofs.Ytfhlddbngjlhbaa
set_option linter.unusedVariables false
set_option linter.unusedSimpArgs false
open Go.ChangeShapes Go.WideShapes Go.ChangeAt Go.RowKit Go.Deep Go.ChangeMaps Go.MapKept Go.WideMaps
open Go.Maps (Keyed)
theorem mixed_b {k : Int} {x y v : Bool} {w : World} (hv : mixB k x y = v) : Calls Try.prog 58 #[.bool x, .bool y, .int .i64 k] w fun f w' => f = .returned (.bool v) ∧ Below w.heap.size w w' := by
 rw [← hv]
 clear hv
 by_cases h1 : k = 1
 ·
  subst h1
  cases x <;> cases y
  all_goals
   go_enter Try.func58, Try.ntmps58
   go_wp2_with fail
   go_ret
   exact ⟨rfl, Below.refl _ _⟩
 by_cases h2 : k = 2
 ·
  subst h2
  cases x <;> cases y
  all_goals
   go_enter Try.func58, Try.ntmps58
   go_wp2_with fail
   go_ret
   exact ⟨rfl, Below.refl _ _⟩
 have e : mixB k x y = (x && !y) := by unfold mixB; rw [if_neg h1, if_neg h2]
 rw [e]
 clear e
 cases x <;> cases y
 all_goals
  go_enter Try.func58, Try.ntmps58
  go_wp2_with fail
  go_ret
  exact ⟨rfl, Below.refl _ _⟩
theorem arrM : ArrKey Try.prog 91 2 2 := ⟨Try.underlying91, by kernel_rfl, by kernel_rfl, by kernel_rfl⟩
theorem keyM {p : Int × Int} (h1 : -1 ≤ p.1 ∧ p.1 ≤ 1000) (h2 : -1 ≤ p.2 ∧ p.2 ≤ 1000) : ∃ l, keyOf Try.prog 91 (kfP p) = some l :=
 ⟨_, keyOf_pair arrM Try.underlying2 prog_types (small_wf h1.1 h1.2) (small_wf h2.1 h2.2)⟩
theorem lawM : Keyed Try.prog 91 := Keyed.of_law arrM.law
theorem zeroNm (w : World) : (zeroValue 2).run Try.prog w = .ok (.int .i64 0) w := by kernel_rfl
theorem info_pq : (Try.prog.info? 91).map (fun i => (i.zero, i.size, i.bytes)) = some (some (.agg #[.int .i64 0, .int .i64 0]), 2, 16) := by kernel_rfl
def pqD (L : List (Int × Int)) : List D := L.flatMap fun p => [.int p.1, .int p.2]
theorem pqD_snoc (L : List (Int × Int)) (p : Int × Int) : pqD (L ++ [p]) = pqD L ++ [.int p.1, .int p.2] := by simp [pqD]
theorem pqD_at : ∀ (L : List (Int × Int)) (i : Nat) (p : Int × Int), L[i]? = some p → (pqD L)[i * 2]? = some (.int p.1) ∧ (pqD L)[i * 2 + 1]? = some (.int p.2)
 | [], i, p, h => by simp at h
 | x :: L, 0, p, h => by
  simp at h
  subst h
  simp [pqD]
 | x :: L, i + 1, p, h => by
  have := pqD_at L i p (by simpa using h)
  rw [show (i + 1) * 2 = i * 2 + 1 + 1 by omega]
  simpa [pqD] using this
theorem pq_in {w : World} {L : List (Int × Int)} {b o n cap : Nat} (h : Rd w (.sl 2 L.length (pqD L)) (.slice (some ⟨b, o, none⟩) n cap)) {i : Nat} {p : Int × Int} (hp : L[i]? = some p) :
  b < w.heap.size ∧ w.cell? ⟨b, o + i * 2, none⟩ = some (.int .i64 p.1) ∧ w.cell? ⟨b, o + i * 2 + 1, none⟩ = some (.int .i64 p.2) := by
 obtain ⟨_, _, _, _, _, h4⟩ := h.sl_at
 have hi := (List.getElem?_eq_some_iff.1 hp).1
 rcases h4 with h4 | ⟨b', o', e1, h4⟩
 ·
  omega
 ·
  simp only [Option.some.injEq, Addr.mk.injEq, and_true] at e1
  obtain ⟨rfl, rfl⟩ := e1
  obtain ⟨q0, q1⟩ := pqD_at L i p hp
  obtain ⟨x, h5, h6⟩ := h4 _ _ q0
  obtain ⟨y, h7, h8⟩ := h4 _ _ q1
  simp only [Rd] at h6 h8
  subst h6 h8
  exact ⟨World.block_lt_of_cell? w _ h5, h5, by rw [← h7]; congr 2⟩
theorem none_own2 {w : World} (p : Int × Int) : OwS (fun _ => False) w [.int p.1, .int p.2] [.int .i64 p.1, .int .i64 p.2] :=
 ⟨[], Ows.cons (F := []) (by simp [Ow]) (Ows.cons (F := []) (by simp [Ow]) Ows.nil), by simp, by simp⟩
theorem bun_pq {B : Nat} {w : World} {items : List Item} (h : Bun B w items) (hB : B ≤ w.heap.size) {t : Nat} (p : Int × Int) : Bun B (w.alloc (.cells #[.int .i64 p.1, .int .i64 p.2] t)) (items ++ [.app t 2 1 (pqD [p]) (.slice (some ⟨w.heap.size, 0, none⟩) 1 1)]) := by
 refine h.push (Below.alloc (Below.refl _ _) (Nat.le_refl _) _) ?_
 refine AppS.more (AppS.made (t := t) (size := 2) (m := 1) (S := fun _ => False) (none_own2 (w := w) p) (fun b h => h.elim) rfl (by unfold maxLen; omega)) fun b _ hc => ?_
 have hz : (w.alloc (.cells #[.int .i64 p.1, .int .i64 p.2] t)).heap.size = w.heap.size + 1 := by simp
 rcases hc with hc | hc
 ·
  exact hc.elim
 ·
  omega
theorem numO_new {α : Type} [DecidableEq α] {L : List α} {z : α} (h : z ∉ L) : numO (L ++ [z]) (some z) = (L.length : Int) := by simp only [numO]; rw [idxOf_new h]
theorem numO_pre {α : Type} [DecidableEq α] {L : List α} {y z : α} (h : y ∈ L) : numO (L ++ [z]) (some y) = numO L (some y) := by simp only [numO]; rw [idxOf_prefix (List.prefix_append L [z]) h]
def numF (L : List (Int × Int)) (q : Int × Int) : Option Int := if q = (-1, -1) then some (-1) else if q ∈ L then some (numO L (some q)) else none
def NumP (g : Nat) (L : List (Int × Int)) (w : World) : Prop := ∃ M, MapAt Try.prog 91 kfP (Value.int .i64) w g M ∧ ∀ q, findM M q = numF L q
theorem NumP.hold {g : Nat} {L : List (Int × Int)} {w : World} (h : NumP g L w) : ∀ w1 : World, w1.heap[g]? = w.heap[g]? → NumP g L w1 := fun w1 h1 => by
 obtain ⟨M, hm, hf⟩ := h
 exact ⟨M, hm.keep h1, hf⟩
theorem num_put {L : List (Int × Int)} {M : List ((Int × Int) × Int)} {z : Int × Int} (hf : ∀ q, findM M q = numF L q) (hz : z ∉ L) (hn : z ≠ (-1, -1)) : ∀ q, findM (putM M z (L.length : Int)) q = numF (L ++ [z]) q := by
 intro q
 rw [findM_putM, hf]
 unfold numF
 by_cases h : z = q
 ·
  subst h
  rw [if_pos rfl, if_neg hn, if_pos (by simp), numO_new hz]
 ·
  rw [if_neg h]
  have h' : ¬ q = z := fun e => h e.symm
  by_cases h1 : q = (-1, -1)
  ·
   rw [if_pos h1, if_pos h1]
  ·
   rw [if_neg h1, if_neg h1]
   by_cases h2 : q ∈ L
   ·
    rw [if_pos h2, if_pos (List.mem_append_left _ h2), numO_pre h2]
   ·
    rw [if_neg h2, if_neg (by simp [h2, h'])]
theorem num_start : ∀ q : Int × Int, findM (putM (putM ([] : List ((Int × Int) × Int)) (0, 0) 0) (-1, -1) (-1)) q = numF [((0 : Int), (0 : Int))] q := by
 intro q
 rw [findM_putM, findM_putM]
 unfold numF
 by_cases h1 : q = (-1, -1)
 ·
  subst h1; simp
 ·
  have h1' : ¬ (-1, -1) = q := fun e => h1 e.symm
  rw [if_neg h1', if_neg h1]
  by_cases h2 : q = (0, 0)
  ·
   subst h2; simp [numO]
  ·
   have h2' : ¬ (0, 0) = q := fun e => h2 e.symm
   rw [if_neg h2', if_neg (by simp [h2])]
   rfl
theorem num_start' : ∀ q : Int × Int, findM (putM (putM ([] : List ((Int × Int) × Int)) (-1, -1) (-1)) (0, 0) 0) q = numF [((0 : Int), (0 : Int))] q := by
 intro q
 rw [findM_putM, findM_putM]
 unfold numF
 by_cases h2 : q = (0, 0)
 ·
  subst h2; simp [numO]
 ·
  have h2' : ¬ (0, 0) = q := fun e => h2 e.symm
  rw [if_neg h2']
  by_cases h1 : q = (-1, -1)
  ·
   subst h1; simp
  ·
   have h1' : ¬ (-1, -1) = q := fun e => h1 e.symm
   rw [if_neg h1', if_neg h1, if_neg (by simp [h2])]
   rfl
theorem Ows.cut {w : World} : ∀ {cs es : List D} {xs : List Value} {F : List Nat}, Ows w (cs ++ es) xs F → ∃ a b G K, xs = a ++ b ∧ F = G ++ K ∧ Ows w cs a G ∧ Ows w es b K
 | [], es, xs, F, h => ⟨[], xs, [], F, rfl, rfl, Ows.nil, h⟩
 | c :: cs, es, xs, F, h => by
  have h' : Ows w (c :: (cs ++ es)) xs F := h
  simp only [Ows] at h'
  obtain ⟨x, r, G, K, rfl, rfl, h1, h2⟩ := h'
  obtain ⟨a, b, G', K', rfl, rfl, h3, h4⟩ := Ows.cut h2
  exact ⟨x :: a, b, G ++ G', K', rfl, by simp, Ows.cons h1 h3, h4⟩
theorem AppS.own_last {S T : Nat → Prop} {w : World} {t n : Nat} {ds : List D} {u v : Value} {t' size' n' : Nat} {ds' : List D} (h : AppS S w t 1 n (ds ++ [.raw u]) v) (h' : AppS T w t' size' n' ds' u) (hST : ∀ b, S b → T b → False) :
  AppS (fun b => S b ∨ T b) w t 1 n (ds ++ [.sl size' n' ds']) v := by
 obtain ⟨xs, F, h1, h2, h3, h4, h5⟩ := h
 obtain ⟨G, g1, g2, g3⟩ := h'.foot
 obtain ⟨a, b, A, K, rfl, rfl, k1, k2⟩ := Ows.cut h2
 simp only [Ows, Ow] at k2
 obtain ⟨x, r, G', K', rfl, rfl, ⟨⟨rfl, -⟩, rfl⟩, rfl, rfl⟩ := k2
 refine ⟨a ++ [x], A ++ (G ++ []), h1, Ows.append k1 (Ows.cons g1 Ows.nil), ?_, ?_, fun b hb => Or.inl (h5 b hb)⟩
 ·
  simp only [List.append_nil] at h3 ⊢
  rw [List.nodup_append]
  refine ⟨h3, g2, fun p hp q hq hpq => ?_⟩
  subst hpq
  exact hST p (h4 p (by simp [hp])).1 (g3 p hq)
 ·
  intro b hb
  rw [List.append_nil] at hb
  rcases List.mem_append.1 hb with hb | hb
  ·
   have := h4 b (by simp [hb])
   exact ⟨Or.inl this.1, this.2⟩
  ·
   exact ⟨Or.inr (g3 b hb), fun e => hST b (h5 b e) (g3 b hb)⟩
theorem bun_make {B : Nat} {w : World} {items : List Item} (S : Nat → Nat → Prop) (h : ∀ (i : Nat) (it : Item), items[i]? = some it → it.on (fun b => B ≤ b ∧ b < w.heap.size ∧ S i b) w) (hd : ∀ i j b, S i b → S j b → i = j) : Bun B w items := by
 classical
 refine ⟨fun b => if q : ∃ i, S i b then Classical.choose q else 0, fun i it hi => Item.more (h i it hi) fun b _ hb => ⟨hb.1, hb.2.1, ?_⟩⟩
 have q : ∃ i, S i b := ⟨i, hb.2.2⟩
 dsimp only
 rw [dif_pos q]
 exact hd _ _ b (Classical.choose_spec q) hb.2.2
theorem raw_own1 (w : World) {u : Value} (h : u.oneCell' = true) : OwS (fun _ => False) w [.raw u] [u] := ⟨[], Ows.cons (Ow.raw h) Ows.nil, by simp, by simp⟩
theorem bun_last {B : Nat} {w w' : World} {own : Nat → Nat} {i0 i1 : Item} {gA T : Nat} {cur cur' : List Value} {t3 n3 k3 t4 n4 k4 : Nat} {d3 d4 e3 e4 : List D} {v3 v4 y3 y4 u5 u6 : Value} {t5 z5 n5 t6 z6 n6 : Nat} {d5 d6 : List D} {F3 F4 : Nat → Prop}
  (h : ∀ (i : Nat) (it : Item), ([i0, i1, .box gA T cur, .app t3 1 k3 e3 y3, .app t4 1 k4 e4 y4, .app t5 z5 n5 d5 u5, .app t6 z6 n6 d6 u6] : List Item)[i]? = some it → it.on (fun b => B ≤ b ∧ b < w.heap.size ∧ own b = i) w) (hB : B ≤ w.heap.size) (hz : w.heap.size ≤ w'.heap.size)
  (hk : ∀ b, b < w.heap.size → own b ≠ 3 → own b ≠ 4 → own b ≠ 2 → w'.heap[b]? = w.heap[b]?)
  (f3 : AppS F3 w' t3 1 n3 (d3 ++ [.raw u5]) v3) (f4 : AppS F4 w' t4 1 n4 (d4 ++ [.raw u6]) v4) (s3 : ∀ b, F3 b → (B ≤ b ∧ b < w.heap.size ∧ own b = 3) ∨ w.heap.size ≤ b) (s4 : ∀ b, F4 b → (B ≤ b ∧ b < w.heap.size ∧ own b = 4) ∨ w.heap.size ≤ b)
  (hd : ∀ b, F3 b → F4 b → False) (hb : Blk w' gA T cur') : Bun B w' [i0, i1, .box gA T cur', .app t3 1 n3 (d3 ++ [.sl z5 n5 d5]) v3, .app t4 1 n4 (d4 ++ [.sl z6 n6 d6]) v4] := by
 have h2 := h 2 _ rfl
 have a5 := AppS.keep (h 5 _ rfl) (w' := w') fun b hb hs => hk b hb (by omega) (by omega) (by omega)
 have a6 := AppS.keep (h 6 _ rfl) (w' := w') fun b hb hs => hk b hb (by omega) (by omega) (by omega)
 have b3 := f3.own_last a5 fun b p q => by have := s3 b p; omega
 have b4 := f4.own_last a6 fun b p q => by have := s4 b p; omega
 refine bun_make (fun k b => (w.heap.size ≤ b ∧ ((k = 3 ∧ F3 b) ∨ (k = 4 ∧ F4 b))) ∨ (b < w.heap.size ∧ ((own b = 5 ∧ k = 3) ∨ (own b = 6 ∧ k = 4) ∨ (own b = k ∧ k ≤ 4)))) (fun k it hi => ?_) (fun i j b p q => ?_)
 ·
  match k, hi with
  | 0, hi =>
   obtain rfl := Option.some.inj hi
   exact Item.more (Item.keep hz (h 0 _ rfl) fun b hb hs => hk b hb (by omega) (by omega) (by omega)) fun b _ hs => ⟨hs.1, by omega, Or.inr ⟨hs.2.1, Or.inr (Or.inr ⟨hs.2.2, by omega⟩)⟩⟩
  | 1, hi =>
   obtain rfl := Option.some.inj hi
   exact Item.more (Item.keep hz (h 1 _ rfl) fun b hb hs => hk b hb (by omega) (by omega) (by omega)) fun b _ hs => ⟨hs.1, by omega, Or.inr ⟨hs.2.1, Or.inr (Or.inr ⟨hs.2.2, by omega⟩)⟩⟩
  | 2, hi =>
   obtain rfl := Option.some.inj hi
   exact ⟨⟨h2.1.1, by have := h2.1.2.1; omega, Or.inr ⟨h2.1.2.1, Or.inr (Or.inr ⟨h2.1.2.2, by omega⟩)⟩⟩, hb⟩
  | 3, hi =>
   obtain rfl := Option.some.inj hi
   refine AppS.more b3 fun b hlt hs => ?_
   rcases hs with hs | hs
   ·
    rcases s3 b hs with q | q
    ·
     exact ⟨q.1, hlt, Or.inr ⟨q.2.1, Or.inr (Or.inr ⟨q.2.2, by omega⟩)⟩⟩
    ·
     exact ⟨by omega, hlt, Or.inl ⟨q, Or.inl ⟨rfl, hs⟩⟩⟩
   ·
    exact ⟨hs.1, hlt, Or.inr ⟨hs.2.1, Or.inl ⟨hs.2.2, rfl⟩⟩⟩
  | 4, hi =>
   obtain rfl := Option.some.inj hi
   refine AppS.more b4 fun b hlt hs => ?_
   rcases hs with hs | hs
   ·
    rcases s4 b hs with q | q
    ·
     exact ⟨q.1, hlt, Or.inr ⟨q.2.1, Or.inr (Or.inr ⟨q.2.2, by omega⟩)⟩⟩
    ·
     exact ⟨by omega, hlt, Or.inl ⟨q, Or.inr ⟨rfl, hs⟩⟩⟩
   ·
    exact ⟨hs.1, hlt, Or.inr ⟨hs.2.1, Or.inr (Or.inl ⟨hs.2.2, rfl⟩)⟩⟩
  | k + 5, hi => simp at hi
 ·
  rcases p with ⟨p1, p⟩ | ⟨p1, p⟩ <;> rcases q with ⟨q1, q⟩ | ⟨q1, q⟩
  ·
   rcases p with ⟨p2, p3⟩ | ⟨p2, p3⟩ <;> rcases q with ⟨q2, q3⟩ | ⟨q2, q3⟩
   ·
    omega
   ·
    exact (hd b p3 q3).elim
   ·
    exact (hd b q3 p3).elim
   ·
    omega
  ·
   omega
  ·
   omega
  ·
   omega
def MiW (B g gA : Nat) (t a : Int) (w0 wr : World) (L : List (Int × Int)) (k : Nat) (MA : List (List Bool)) (MX : List (List (List Int))) (v0 vA vX : Value) (more : List Item) : Prop :=
 Bun B wr ([.app 91 2 L.length (pqD L) v0, .one g (NumP g L), .box gA 31 [.int .i64 t, .int .i64 a, vA, vX], .app 77 1 k (MA.map boolsD) vA, .app 76 1 k (MX.map iiD) vX] ++ more) ∧ Below B w0 wr
theorem MiW.below {B g gA : Nat} {t a : Int} {w0 wr w2 : World} {L : List (Int × Int)} {k : Nat} {MA : List (List Bool)} {MX : List (List (List Int))} {v0 vA vX : Value} {more : List Item} (h : MiW B g gA t a w0 wr L k MA MX v0 vA vX more) (hB : B ≤ wr.heap.size) (hb : Below wr.heap.size wr w2) : MiW B g gA t a w0 w2 L k MA MX v0 vA vX more :=
 ⟨h.1.below hb, h.2.trans (hb.mono hB)⟩
end Go.Proofs.Ytfhlddbngjlhbaa

namespace Go.Proofs.Ytfhlddbngjlhbaa
set_option linter.unusedVariables false
set_option linter.unusedSimpArgs false
def regOf (n : Nat) : Code → Option Code
 | .region k ops d => if k = n then some (.region k ops d) else none
 | .loop c => regOf n c
 | .seq a b => match regOf n a with
  | some c => some c
  | none => regOf n b
 | .block _ c => regOf n c
 | .scope c => regOf n c
 | .cond _ a b => match regOf n a with
  | some c => some c
  | none => regOf n b
 | _ => none
end Go.Proofs.Ytfhlddbngjlhbaa
