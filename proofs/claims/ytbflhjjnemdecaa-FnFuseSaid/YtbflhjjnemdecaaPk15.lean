/-
  Parts of a proof, joined: MarkW, Arr, MadS, Counts, FstS. No condition.
-/
import Derived.Test.YtbflhjjnemdecaaPk13
namespace Go.Proofs.Ytbflhjjnemdecaa
set_option linter.unusedVariables false
set_option linter.unusedSimpArgs false
open Go.ChangeShapes Go.WideShapes Go.ChangeAt Go.RowKit Go.Sort
theorem Ows.mk2 {w : World} {d e : D} {u v : Value} {G K : List Nat} (h : Ow w d u G) (k : Ow w e v K) : Ows w [d, e] [u, v] (G ++ K) := by
 have := Ows.cons h (Ows.cons k Ows.nil)
 simpa using this
def wordD (xs ys : List Int) : List D := [intsD xs, intsD ys]
end Go.Proofs.Ytbflhjjnemdecaa

namespace Go.Proofs.Ytbflhjjnemdecaa
set_option linter.unusedVariables false
set_option linter.unusedSimpArgs false
open Go.ChangeShapes Go.WideShapes Go.ChangeAt Go.RowKit Go.Deep
theorem madeCells_one (z : Value) (n : Nat) : (madeCells #[z] n).toList = List.replicate n z := by
 apply List.ext_getElem
 ·
  simp [madeCells]
 ·
  intro i h1 h2
  simp [madeCells, Nat.mod_one]
theorem made_blk {w : World} {base t n g : Nat} {z : Value} {cs : Array Value} (hz : cs = #[z]) (h : w.ownsRow base t 1 (.slice (some ⟨g, 0, none⟩) n n) n (madeCells cs (n * 1)).toList) : Blk w g t (List.replicate n z) ∧ base ≤ g := by
 subst hz
 obtain ⟨h0, h⟩ := h
 rcases h with ⟨h, _⟩ | ⟨g', cap, cur, hv, hb, hg, _, _, hs, ht⟩
 ·
  cases h
 ·
  simp only [Value.slice.injEq, Option.some.injEq, Addr.mk.injEq, and_true, true_and] at hv
  obtain ⟨rfl, rfl⟩ := hv
  rw [madeCells_one, Nat.mul_one, List.take_of_length_le (by simp; omega)] at ht
  refine ⟨?_, hb⟩
  unfold Blk
  rw [hg, ← ht]
section
variable {α : Type} {f : α → Value} {w : World} {g t : Nat} {L : List α}
theorem arr_set (h : Blk w g t (L.map f)) (i : Nat) (x : α) : Blk (w.setCell ⟨g, i, none⟩ (f x)) g t ((L.set i x).map f) := by
 rw [List.map_set]
 exact h.set i (f x)
end
section
variable {α : Type} {z : α} {full L : List α} {k : Nat}
end
end Go.Proofs.Ytbflhjjnemdecaa

namespace Go.Proofs.Ytbflhjjnemdecaa
set_option linter.unusedVariables false
set_option linter.unusedSimpArgs false
open Go.ChangeShapes Go.WideShapes Go.ChangeAt Go.RowKit Go.Deep
theorem info_bl : (Try.prog.info? 4).map (fun i => (i.zero, i.size, i.bytes)) = some (some (.bool false), 1, 1) := by kernel_rfl
theorem info_bls : (Try.prog.info? 114).map (fun i => (i.zero, i.size, i.bytes)) = some (some (.slice none 0 0), 1, 24) := by kernel_rfl
end Go.Proofs.Ytbflhjjnemdecaa

namespace Go.Proofs.Ytbflhjjnemdecaa
set_option linter.unusedVariables false
set_option linter.unusedSimpArgs false
open Go.ChangeShapes Go.WideShapes Go.ChangeAt Go.RowKit Go.Sort
theorem App.freshN {α : Type} {f : α → D} {W w : World} {t : TypeId} {xs : List α} {n : Nat} {v : Value} (h : App W w t 1 n (xs.map f) v) (hn : xs.length = n) : Fresh W w (nestD f xs) v := by
 subst hn
 exact h.fresh
theorem App.sized {W w : World} {t : TypeId} {ds ds' : List D} {n n' : Nat} {v : Value} (h : App W w t 1 n ds v) (hd : ds = ds') (hn : n = n') : App W w t 1 n' ds' v := by
 subst hd hn
 exact h
end Go.Proofs.Ytbflhjjnemdecaa

namespace Go.Proofs.Ytbflhjjnemdecaa
set_option linter.unusedVariables false
set_option linter.unusedSimpArgs false
open Go.ChangeShapes Go.WideShapes Go.ChangeAt Go.RowKit Go.Deep Go.Sort
theorem WdB.freshs {W w : World} {B wb : Nat} {xs ys : List Int} {va vb : Value} (h : WdB B w wb xs ys va vb) (hB : W.heap.size ≤ B) : Freshs W w (wordD xs ys) [va, vb] := by
 obtain ⟨F, G, h1, h2, h3, h4, h5, h6⟩ := h.owns
 refine ⟨F ++ (G ++ []), Ows.cons h1 (Ows.cons h3 Ows.nil), ?_, ?_⟩
 ·
  rw [List.append_nil, List.nodup_append]
  exact ⟨h2, h4, fun a ha b hb e => (h5 a ha).2.2 (by rw [e]; exact hb)⟩
 ·
  intro b hm
  rw [List.append_nil] at hm
  rcases List.mem_append.1 hm with hm | hm
  ·
   have := (h5 b hm).1; omega
  ·
   have := (h6 b hm).1; omega
end Go.Proofs.Ytbflhjjnemdecaa
