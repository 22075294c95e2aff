/-
  Parts of a proof, joined: MadS, Arr, Counts, CountF, LiveS, PrL, LangA, MixP. No condition.
-/
import Derived.Test.YtfhlddbngjlhbaaDoorPk8
namespace Go.Proofs.YtfhlddbngjlhbaaDoor
set_option linter.unusedVariables false
set_option linter.unusedSimpArgs false
open Go.ChangeShapes Go.WideShapes Go.ChangeAt Go.RowKit Go.Deep
theorem info_bl : (Tryd.prog.info? 4).map (fun i => (i.zero, i.size, i.bytes)) = some (some (.bool false), 1, 1) := by kernel_rfl
theorem nil_au {w w' : World} : Freshs w w' (autD [] []) [.slice none 0 0, .slice none 0 0] := by
 refine ⟨[], Ows.cons (F := []) (G := []) ?_ (Ows.cons (F := []) (G := []) ?_ Ows.nil), by simp, by simp⟩
 ·
  simp only [bbD, nestD, Ow]
  exact ⟨_, 0, rfl, by simp, by simp [maxLen], by simp, by simp, Or.inl (by simp)⟩
 ·
  simp only [iiiD, nestD, Ow]
  exact ⟨_, 0, rfl, by simp, by simp [maxLen], by simp, by simp, Or.inl (by simp)⟩
end Go.Proofs.YtfhlddbngjlhbaaDoor

namespace Go.Proofs.YtfhlddbngjlhbaaDoor
set_option linter.unusedVariables false
set_option linter.unusedSimpArgs false
open Go.ChangeShapes Go.WideShapes Go.ChangeAt Go.RowKit Go.Deep
theorem madeCells_one (z : Value) (n : Nat) : (madeCells #[z] n).toList = List.replicate n z := by
 apply List.ext_getElem
 ·
  simp [madeCells]
 ·
  intro i h1 h2
  simp [madeCells, Nat.mod_one]
theorem made_blk {w : World} {base t n g : Nat} {z : Value} {cs : Array Value} (hz : cs = #[z]) (h : w.ownsRow base t 1 (.slice (some ⟨g, 0, none⟩) n n) n (madeCells cs (n * 1)).toList) : Blk w g t (List.replicate n z) ∧ base ≤ g := by
 subst hz
 obtain ⟨h0, h⟩ := h
 rcases h with ⟨h, _⟩ | ⟨g', cap, cur, hv, hb, hg, _, _, hs, ht⟩
 ·
  cases h
 ·
  simp only [Value.slice.injEq, Option.some.injEq, Addr.mk.injEq, and_true, true_and] at hv
  obtain ⟨rfl, rfl⟩ := hv
  rw [madeCells_one, Nat.mul_one, List.take_of_length_le (by simp; omega)] at ht
  refine ⟨?_, hb⟩
  unfold Blk
  rw [hg, ← ht]
section
variable {α : Type} {f : α → Value} {w : World} {g t : Nat} {L : List α}
theorem arr_cell (h : Blk w g t (L.map f)) {i : Nat} {x : α} (hx : L[i]? = some x) : w.cell? ⟨g, i, none⟩ = some (f x) := by rw [h.cell, List.getElem?_map, hx]; rfl
theorem arr_set (h : Blk w g t (L.map f)) (i : Nat) (x : α) : Blk (w.setCell ⟨g, i, none⟩ (f x)) g t ((L.set i x).map f) := by
 rw [List.map_set]
 exact h.set i (f x)
theorem arr_fresh {W : World} {fd : α → D} (h : Blk w g t (L.map f)) (hW : W.heap.size ≤ g) (hf : ∀ x, Ow w (fd x) (f x) []) {n : Nat} (hn : L.length = n) (hm : n ≤ maxLen) : Fresh W w (nestD fd L) (.slice (some ⟨g, 0, none⟩) n n) := by
 subst hn
 have hows : Ows w (L.map fd) (L.map f) [] := by
  clear h hm
  induction L with
  | nil => exact Ows.nil
  | cons x r ih => exact Ows.cons (hf x) ih
 by_cases h0 : L.length = 0
 ·
  exact ⟨[], by simp only [nestD, Ow]; exact ⟨_, _, rfl, Nat.le_refl _, hm, by simp, by simp, Or.inl ⟨h0, trivial⟩⟩, by simp, by simp⟩
 ·
  refine ⟨[g], by simp only [nestD, Ow]; exact ⟨_, _, rfl, Nat.le_refl _, hm, by simp, by simp, Or.inr ⟨g, 0, L.map f, [], rfl, rfl, h.free, h.row (List.take_length ..), hows⟩⟩, by simp, by simp [hW]⟩
end
section
variable {α : Type} {z : α} {full L : List α} {k : Nat}
end
end Go.Proofs.YtfhlddbngjlhbaaDoor

namespace Go.Proofs.YtfhlddbngjlhbaaDoor
set_option linter.unusedVariables false
set_option linter.unusedSimpArgs false
open Go.ChangeShapes Go.WideShapes Go.ChangeAt Go.RowKit Go.Sort
theorem App.freshN {α : Type} {f : α → D} {W w : World} {t : TypeId} {xs : List α} {n : Nat} {v : Value} (h : App W w t 1 n (xs.map f) v) (hn : xs.length = n) : Fresh W w (nestD f xs) v := by
 subst hn
 exact h.fresh
end Go.Proofs.YtfhlddbngjlhbaaDoor

namespace Go.Proofs.YtfhlddbngjlhbaaDoor
set_option linter.unusedVariables false
set_option linter.unusedSimpArgs false
open Go.ChangeShapes Go.WideShapes Go.ChangeAt Go.RowKit Go.Sort
theorem Blk.autAt' {w : World} {g T : Nat} {t a : Int} {ac : List (List Bool)} {nx : List (List (List Int))} {s u : Option Addr} {c d : Nat} (L : Blk w g T [.int .i64 t, .int .i64 a, .slice s ac.length c, .slice u nx.length d]) (hr : Rd w (bbD ac) (.slice s ac.length c)) (hq : Rd w (iiiD nx) (.slice u nx.length d)) : AutAt w g 0 t a ac nx s u c d :=
 ⟨L.c0, L.c1, L.c2, L.c3, hr, hq⟩
end Go.Proofs.YtfhlddbngjlhbaaDoor

namespace Go.Proofs.YtfhlddbngjlhbaaDoor
set_option linter.unusedVariables false
set_option linter.unusedSimpArgs false
open Go.ChangeShapes Go.WideShapes Go.ChangeAt Go.RowKit Go.Sort
def lookB (ac : List (List Bool)) (nx : List (List (List Int))) (L : List Bool) (s : Nat) : Bool := (ac.getD s []).any id || (nx.getD s []).any (hitR fun z => L.getD z false)
def lookTo (ar : List Bool) (nr : List (List Int)) (L : List Bool) (j : Nat) : Bool := (ar.take j).any id || (nr.take j).any (hitR fun z => L.getD z false)
def SoundL (ac : List (List Bool)) (nx : List (List (List Int))) (L : List Bool) : Prop := ∀ s : Nat, L[s]? = some true → Live ac nx s
def ClosedTo (ac : List (List Bool)) (nx : List (List (List Int))) (L : List Bool) (n : Nat) : Prop := ∀ s : Nat, s < n → lookB ac nx L s = true → L[s]? = some true
section
variable {ac : List (List Bool)} {nx : List (List (List Int))} {L : List Bool}
theorem look_sound (h : SoundL ac nx L) {s : Nat} (hl : lookB ac nx L s = true) : Live ac nx s := by
 unfold lookB at hl
 rw [Bool.or_eq_true] at hl
 rcases hl with hl | hl
 ·
  exact ⟨0, hl⟩
 ·
  rw [List.any_eq_true] at hl
  obtain ⟨row, hr, hh⟩ := hl
  rw [hitR_true] at hh
  obtain ⟨z, hz, h0, h1⟩ := hh
  have h2 : L[z.toNat]? = some true := by
   rw [List.getD_eq_getElem?_getD] at h1
   cases he : L[z.toNat]? with
   | none => rw [he] at h1; simp at h1
   | some x => rw [he] at h1; simp at h1; rw [h1]
  obtain ⟨n, hn⟩ := h z.toNat h2
  exact ⟨n + 1, accW_succ.2 ⟨row, hr, z, hz, h0, hn⟩⟩
theorem closed_live (h : ClosedTo ac nx L ac.length) (ht : ∀ s row z, row ∈ nx.getD s [] → z ∈ row → z < ac.length) : ∀ n s, s < ac.length → accW ac nx n s = true → L[s]? = some true
 | 0, s, hs, ha => h s hs (by unfold lookB; rw [Bool.or_eq_true]; exact Or.inl ha)
 | n + 1, s, hs, ha => by
  refine h s hs ?_
  obtain ⟨row, hr, z, hz, h0, h1⟩ := accW_succ.1 ha
  have hlt := ht s row z hr hz
  have := closed_live h ht n z.toNat (by omega) h1
  unfold lookB
  rw [Bool.or_eq_true]
  right
  rw [List.any_eq_true]
  refine ⟨row, hr, ?_⟩
  rw [hitR_true]
  exact ⟨z, hz, h0, by rw [List.getD_eq_getElem?_getD, this]; rfl⟩
theorem live_eq (hs : SoundL ac nx L) (hc : ClosedTo ac nx L ac.length) (hl : L.length = ac.length) (ht : ∀ s row z, row ∈ nx.getD s [] → z ∈ row → z < ac.length) : L = liveL ac nx := by
 apply List.ext_getElem?
 intro s
 by_cases h : s < ac.length
 ·
  rw [liveL_at h]
  obtain ⟨x, hx⟩ : ∃ x, L[s]? = some x := ⟨_, List.getElem?_eq_getElem (by omega)⟩
  rw [hx]
  congr 1
  rw [Bool.eq_iff_iff, liveB_true]
  constructor
  ·
   rintro rfl
   exact hs s hx
  ·
   rintro ⟨n, hn⟩
   rw [closed_live hc ht n s h hn] at hx
   exact (Option.some.inj hx).symm
 ·
  rw [List.getElem?_eq_none (by omega), List.getElem?_eq_none (by rw [liveL_len]; omega)]
theorem SoundL.set (h : SoundL ac nx L) {s : Nat} (hs : Live ac nx s) : SoundL ac nx (L.set s true) := by
 intro k hk
 by_cases he : s = k
 ·
  rw [← he]; exact hs
 ·
  rw [List.getElem?_set_ne he] at hk
  exact h k hk
theorem SoundL.start {n : Nat} : SoundL ac nx (List.replicate n false) := by
 intro s hs
 have := List.mem_of_getElem? hs
 simp at this
theorem lookTo_zero {ar : List Bool} {nr : List (List Int)} : lookTo ar nr L 0 = false := by simp [lookTo]
theorem lookTo_all {ar : List Bool} {nr : List (List Int)} {s : Nat} (ha : ac[s]? = some ar) (hn : nx[s]? = some nr) (hl : nr.length = ar.length) : lookTo ar nr L ar.length = lookB ac nx L s := by
 unfold lookTo lookB
 rw [List.take_length, ← hl, List.take_length, List.getD_eq_getElem?_getD, List.getD_eq_getElem?_getD, ha, hn]
 rfl
theorem lookTo_succ {ar : List Bool} {nr : List (List Int)} {j : Nat} {b : Bool} {row : List Int} (ha : ar[j]? = some b) (hn : nr[j]? = some row) : lookTo ar nr L (j + 1) = (lookTo ar nr L j || b || hitR (fun z => L.getD z false) row) := by
 obtain ⟨h1, rfl⟩ := List.getElem?_eq_some_iff.1 ha
 obtain ⟨h2, rfl⟩ := List.getElem?_eq_some_iff.1 hn
 unfold lookTo
 rw [List.take_succ_eq_append_getElem h1, List.take_succ_eq_append_getElem h2, List.any_append, List.any_append]
 simp only [List.any_cons, List.any_nil, Bool.or_false, id]
 cases (ar.take j).any id <;> cases (nr.take j).any (hitR fun z => L.getD z false) <;> cases ar[j] <;> simp
theorem or_step {y B h x : Bool} (e : y = (B || h)) : (y || x) = (B || (h || x)) := by rw [e, Bool.or_assoc]
theorem ClosedTo.succ {n : Nat} (h : ClosedTo ac nx L n) (hs : lookB ac nx L n = true → L[n]? = some true) : ClosedTo ac nx L (n + 1) := fun s hsn hl => by
 by_cases he : s = n
 ·
  rw [he] at hl ⊢; exact hs hl
 ·
  exact h s (by omega) hl
theorem hitR_zero {P : Nat → Bool} {row : List Int} : hitR P (row.take 0) = false := by simp [hitR]
theorem hitR_succ {P : Nat → Bool} {row : List Int} {k : Nat} {z : Int} (hz : row[k]? = some z) : hitR P (row.take (k + 1)) = (hitR P (row.take k) || (decide (0 ≤ z) && P z.toNat)) := by
 obtain ⟨hk, rfl⟩ := List.getElem?_eq_some_iff.1 hz
 unfold hitR
 rw [List.take_succ_eq_append_getElem hk, List.any_append]
 simp
end
def falses (L : List Bool) : Nat := L.countP fun b => !b
theorem falses_set {L : List Bool} {s : Nat} (h : L[s]? = some false) : falses (L.set s true) < falses L := by
 unfold falses
 induction L generalizing s with
 | nil => simp at h
 | cons x r ih =>
  cases s with
  | zero =>
   simp at h
   subst h
   simp
  | succ s =>
   have h' : r[s]? = some false := by simpa using h
   have := ih h'
   simp only [List.set_cons_succ, List.countP_cons]
   omega
def falsesW (w : World) (g : Nat) : Nat :=
 match w.heap[g]? with
 | some (.cells cur _ _) => cur.toList.countP fun v => match v with | .bool b => !b | _ => false
 | _ => 0
theorem falsesW_eq {w : World} {g t : Nat} {L : List Bool} (h : Blk w g t (L.map Value.bool)) : falsesW w g = falses L := by
 unfold falsesW falses
 have h' : w.heap[g]? = some (.cells (L.map Value.bool).toArray t (0, 0)) := h
 rw [h']
 simp only
 rw [List.countP_map]
 rfl
def b2n (v : Value) : Nat := match v with | .bool true => 1 | _ => 0
set_option maxRecDepth 100000 in
set_option maxHeartbeats 16000000 in
theorem l02Live_i {t a : Int} {ac : List (List Bool)} {nx : List (List (List Int))} {s u : Option Addr} {c d b o : Nat} {w0 : World} (h : AutAt w0 b o t a ac nx s u c d) (hok : AutOk t a ac nx) :
  Calls Tryd.prog 49 #[.pointer (some ⟨b, o, none⟩)] w0 fun e w' => ∃ g, e = .returned (.slice (some ⟨g, 0, none⟩) ac.length ac.length) ∧ Fresh w0 w' (boolsD (liveL ac nx)) (.slice (some ⟨g, 0, none⟩) ac.length ac.length) ∧ Below w0.heap.size w0 w' := by
 have g4 := h.2.2.2.2.1
 have g5 := h.2.2.2.2.2
 obtain ⟨hlen, hcap⟩ := nest_bd g4
 obtain ⟨hlen', hcap'⟩ := nest_bd g5
 unfold maxLen at hcap hcap'
 have hn1 := hok.lo
 have hn2 := hok.hi
 have hnl := Lib.hid hok.len
 have Hok := Lib.hid hok
 have Hh := Lib.hid h
 have HG4 := Lib.hid g4
 have HG5 := Lib.hid g5
 obtain ⟨i0, hi, hz0, hz1, hz2⟩ := info_parts info_bl
 obtain ⟨c0, c1', c2', c3', -, -⟩ := h
 clear hok g4 g5
 go_enter Tryd.func49, Tryd.ntmps49
 go_wp2_with (at_make; refine wpList_make_full _ rfl _ _ 52 rfl w0.heap.size 4 i0 (.bool false) 1 Tryd.underlying52 hi hz0 hz1 .i64 .i64 _ _ ac.length rfl rfl rfl rfl (by rw [hz2]; omega) (by unfold maxLen; omega) (by simp) ?_; intro w1 hown hgrow)
 have hB0 : Below w0.heap.size w0 w1 := Below.grown (Below.refl _ _) hgrow (by simp) (by simp)
 obtain ⟨hb0, -⟩ := made_blk (z := .bool false) rfl hown
 have hb1 : Blk w1 w0.heap.size 4 ((List.replicate ac.length false).map Value.bool) := by simpa using hb0
 have Hst := Lib.hid (And.intro hb1 hB0)
 clear hown hgrow hb0 hb1 hB0 c0 c1' c2' c3'
 go_loopw [4] (fun v wr => ∃ (gr : Bool) (L : List Bool), v = .bool gr ∧ L.length = ac.length ∧ Blk wr w0.heap.size 4 (L.map Value.bool) ∧ Below w0.heap.size w0 wr ∧ SoundL ac nx L ∧ (gr = false → ClosedTo ac nx L ac.length)) (fun v wr => 2 * falsesW wr w0.heap.size + b2n v)
 case atStart => exact ⟨true, _, rfl, by simp, Hst.out.1, Hst.out.2, SoundL.start, fun h => by cases h⟩
 case round =>
  clear Hst
  obtain ⟨gr, L, rfl, hLl, hb, hB, hsd, hcl⟩ := hrel
  obtain ⟨wo, rfl⟩ : ∃ v, v = wr := ⟨_, rfl⟩
  have Hms := Lib.hid (falsesW_eq hb)
  have Hsd := Lib.hid hsd
  have Hcl := Lib.hid hcl
  have Hb := Lib.hid hb
  have HB := Lib.hid hB
  clear hb hB hsd hcl
  cases gr
  ·
   have HL : Hid (L = liveL ac nx) := live_eq Hsd.out (Hcl.out rfl) hLl Hok.out.targets
   have Hfr := Lib.hid (arr_fresh (fd := D.bool) (W := w0) Hb.out (Nat.le_refl _) (fun x => Ow.bool x) hLl (by unfold maxLen; omega))
   go_wp2_with fail
   go_ret
   exact ⟨_, rfl, by have h := Hfr.out; rw [HL.out] at h; exact h, HB.out⟩
  clear Hcl
  go_wp2_with fail
  go_loopw [4, 5] (fun v i wr => ∃ (gr : Bool) (x : Nat) (M : List Bool), v = .bool gr ∧ i = .int .i64 x ∧ x ≤ ac.length ∧ M.length = ac.length ∧ Blk wr w0.heap.size 4 (M.map Value.bool) ∧ Below w0.heap.size w0 wr ∧ SoundL ac nx M ∧ (gr = false → M = L ∧ ClosedTo ac nx L x) ∧ (gr = true → falses M < falses L)) (fun _ i _ => ac.length - (intOf i).toNat)
  case atStart => exact ⟨false, 0, L, rfl, rfl, by omega, hLl, Hb.out, HB.out, Hsd.out, fun _ => ⟨rfl, fun s hs => by omega⟩, fun h => by cases h⟩
  case round =>
   clear Hb HB Hsd
   obtain ⟨gr, x, M, rfl, rfl, hx, hMl, hb, hB, hsd, hno, hyes⟩ := hrel
   obtain ⟨wx, rfl⟩ : ∃ v, v = wr := ⟨_, rfl⟩
   have hx0 := Int.natCast_nonneg x
   have Hsd := Lib.hid hsd
   have Hno := Lib.hid hno
   have Hyes := Lib.hid hyes
   have Hb := Lib.hid hb
   have HB := Lib.hid hB
   have lg := hb.lt
   clear hb hB hsd hno hyes
   by_cases hlt : x < ac.length
   rotate_left
   ·
    obtain rfl : x = ac.length := by omega
    have Hm2 := Lib.hid (falsesW_eq Hb.out)
    go_wp2_with fail
    go_roundw
    case rel => exact ⟨gr, M, rfl, hMl, Hb.out, HB.out, Hsd.out, fun h => by obtain ⟨e1, e2⟩ := Hno.out h; rw [e1]; exact e2⟩
    case measure =>
     rw [Hms.out, Hm2.out]
     cases gr
     ·
      obtain ⟨e1, -⟩ := Hno.out rfl
      rw [e1]
      simp [b2n]
     ·
      have := Hyes.out rfl
      simp [b2n]
      omega
   obtain ⟨ar, har⟩ : ∃ e, ac[x]? = some e := ⟨_, List.getElem?_eq_getElem hlt⟩
   obtain ⟨nr, hnr⟩ : ∃ e, nx[x]? = some e := ⟨_, List.getElem?_eq_getElem (by have := hnl.out; omega)⟩
   obtain ⟨sb, so, rfl⟩ := nest_some (f := boolsD) HG4.out (by omega)
   obtain ⟨ub, uo, rfl⟩ := nest_some (f := iiD) HG5.out (by have := hnl.out; omega)
   obtain ⟨hsl, sa, ca, a0, ra⟩ := nest_sl (g := D.bool) (HG4.out.below HB.out) har
   obtain ⟨hul, sn, cn, b0, rb⟩ := nest_sl (g := intsD) (HG5.out.below HB.out) hnr
   obtain ⟨ra1, ra2⟩ := nest_bd ra
   obtain ⟨rb1, rb2⟩ := nest_bd rb
   unfold maxLen at ra2 rb2
   have hal : nr.length = ar.length := by
    have h1 := Hok.out.acc_row har
    have h2 := (Hok.out.row hnr).1
    omega
   have Hall := Lib.hid (lookTo_all (L := M) har hnr hal)
   have Htg := Lib.hid (fun (l : Nat) (row : List Int) (h : nr[l]? = some row) (z : Int) (hz : z ∈ row) => Hok.out.targets x row z (by rw [List.getD_eq_getElem?_getD, hnr]; exact List.mem_of_getElem? h) hz)
   have hal1 : ar.length ≤ nr.length := by omega
   have hxb : (x : Int) < (ac.length : Int) := by omega
   have hxc : (x : Int) < (nx.length : Int) := by have := hnl.out; omega
   have HL0 : Hid (false = lookTo ar nr M 0) := lookTo_zero.symm
   obtain ⟨c0, c1', c2', c3', -, -⟩ := Hh.out.below HB.out
   clear har hnr hal
   go_wp2_with fail
   go_loop [6, 7] (fun y i => ∃ (j : Nat) (yb : Bool), j ≤ ar.length ∧ i = .int .i64 j ∧ y = .bool yb ∧ Hid (yb = lookTo ar nr M j)) (fun _ i => ar.length - (intOf i).toNat)
   case atStart => exact ⟨0, false, by omega, rfl, rfl, HL0⟩
   case round =>
    clear HL0
    obtain ⟨j, yb, hj, rfl, rfl, HY⟩ := hrel
    have hj0 := Int.natCast_nonneg j
    by_cases hjl : j < ar.length
    rotate_left
    ·
     obtain rfl : j = ar.length := by omega
     have HY2 : Hid (yb = lookB ac nx M x) := by show _ = _; rw [HY.out, Hall.out]
     obtain ⟨mb, hmb⟩ : ∃ e, M[x]? = some e := ⟨_, List.getElem?_eq_getElem (by omega)⟩
     have x0 := arr_cell Hb.out hmb
     have f0 := Hb.out.frozen x
     have HMb := Lib.hid hmb
     clear hmb HY Hall
     cases yb
     ·
      have Hnx : Hid ((gr = false → M = L ∧ ClosedTo ac nx L (x + 1))) := fun h => by
       obtain ⟨e1, e2⟩ := Hno.out h
       refine ⟨e1, e2.succ fun hl => ?_⟩
       have h2 := HY2.out
       rw [e1, hl] at h2
       cases h2
      clear HY2 Hno
      go_wp2_with fail
      go_roundw
      case rel => exact ⟨gr, x + 1, M, rfl, by go_num, by omega, hMl, Hb.out, HB.out, Hsd.out, Hnx.out, Hyes.out⟩
      case measure => simp [intOf]; omega
     ·
      cases mb
      ·
       have Hnx : Hid (falses (M.set x true) < falses L) := by
        show _ < _
        have h1 := falses_set HMb.out
        cases hg : gr with
        | false => have := (Hno.out hg).1; rw [this] at h1 ⊢; exact h1
        | true => have := Hyes.out hg; omega
       have Hs2 := Lib.hid (Hsd.out.set (look_sound Hsd.out HY2.out.symm))
       have Hb2 : Hid (Blk (wx.setCell ⟨w0.heap.size, x, none⟩ (.bool true)) w0.heap.size 4 ((M.set x true).map Value.bool)) := arr_set Hb.out x true
       have HB2 := Lib.hid (Below.setCell (p := ⟨w0.heap.size, x, none⟩) HB.out (Nat.le_refl _) (.bool true))
       have hl2 : (M.set x true).length = ac.length := by simpa using hMl
       clear HY2 Hno Hyes
       go_wp2_with fail
       go_roundw
       case rel => exact ⟨true, x + 1, _, rfl, by go_num, by omega, hl2, Hb2.out, HB2.out, Hs2.out, fun h => (by cases h), fun _ => Hnx.out⟩
       case measure => simp [intOf]; omega
      ·
       have Hnx : Hid ((gr = false → M = L ∧ ClosedTo ac nx L (x + 1))) := fun h => by
        obtain ⟨e1, e2⟩ := Hno.out h
        refine ⟨e1, e2.succ fun hl => ?_⟩
        rw [← e1]
        exact HMb.out
       clear HY2 Hno
       go_wp2_with fail
       go_roundw
       case rel => exact ⟨gr, x + 1, M, rfl, by go_num, by omega, hMl, Hb.out, HB.out, Hsd.out, Hnx.out, Hyes.out⟩
       case measure => simp [intOf]; omega
    obtain ⟨z, hz⟩ : ∃ e, ar[j]? = some e := ⟨_, List.getElem?_eq_getElem hjl⟩
    obtain ⟨row, hrow⟩ : ∃ e, nr[j]? = some e := ⟨_, List.getElem?_eq_getElem (by omega)⟩
    obtain ⟨rb', ro, rfl⟩ := nest_some (f := D.bool) ra (by omega)
    obtain ⟨vb, vo, rfl⟩ := nest_some (f := intsD) rb (by omega)
    obtain ⟨-, z0⟩ := bool_in ra hz
    obtain ⟨-, sr, cr, r0, rr⟩ := nest_sl (g := D.int) rb hrow
    obtain ⟨rr1, rr2⟩ := nest_bd rr
    unfold maxLen at rr2
    have hjb : (j : Int) < (ar.length : Int) := by omega
    have hjc : (j : Int) < (nr.length : Int) := by omega
    have Hsu := Lib.hid (lookTo_succ (L := M) hz hrow)
    have hzr := Lib.hid (Htg.out j row hrow)
    obtain ⟨y2, hy2⟩ : ∃ y2, y2 = (yb || z) := ⟨_, rfl⟩
    have HE : Hid (y2 = (lookTo ar nr M j || z || hitR (fun z => M.getD z false) (row.take 0))) := by show _ = _; rw [hitR_zero, hy2, HY.out]; simp
    have hsp : (yb = true ∧ y2 = true) ∨ (yb = false ∧ z = y2) := by
     cases yb
     ·
      exact Or.inr ⟨rfl, by rw [hy2]; simp⟩
     ·
      exact Or.inl ⟨rfl, by rw [hy2]; simp⟩
    have Hsp := Lib.hid hsp
    clear hz hrow hy2 HY hsp
    rcases Hsp.out with ⟨rfl, rfl⟩ | ⟨rfl, rfl⟩
    all_goals
     clear Hsp
     go_wp2_with fail
     go_loop [6, 8] (fun y i => ∃ (k : Nat) (y3 : Bool), k ≤ row.length ∧ i = .int .i64 k ∧ y = .bool y3 ∧ Hid (y3 = (lookTo ar nr M j || z || hitR (fun z => M.getD z false) (row.take k)))) (fun _ i => row.length - (intOf i).toNat)
     case atStart => exact ⟨0, _, by omega, rfl, rfl, HE⟩
     case round =>
      clear HE
      obtain ⟨k, y3, hk, rfl, rfl, HE⟩ := hrel
      have hk0 := Int.natCast_nonneg k
      by_cases hkl : k < row.length
      rotate_left
      ·
       obtain rfl : k = row.length := by omega
       have HY3 : Hid (y3 = lookTo ar nr M (j + 1)) := by show _ = _; rw [Hsu.out, HE.out, List.take_length]
       clear HE Hsu
       go_wp2_with fail
       go_round
       case rel => exact ⟨j + 1, y3, by omega, by go_num, rfl, HY3⟩
       case measure => simp [intOf]; omega
      obtain ⟨q, hq⟩ : ∃ e, row[k]? = some e := ⟨_, List.getElem?_eq_getElem hkl⟩
      obtain ⟨tb, to', rfl⟩ := nest_some (f := D.int) rr (by omega)
      obtain ⟨-, q0⟩ := int_in rr hq
      have hkb : (k : Int) < (row.length : Int) := by omega
      have hql := hzr.out q (List.mem_of_getElem? hq)
      have Hs2 := Lib.hid (hitR_succ (P := fun z => M.getD z false) hq)
      have Hor := Lib.hid (fun x => or_step (x := x) HE.out)
      clear hq HE
      cases y3
      ·
       by_cases hneg : q < 0
       ·
        have hge : decide ((0 : Int) ≤ q) = false := by simp; omega
        have HE2 : Hid (false = (lookTo ar nr M j || z || hitR (fun z => M.getD z false) (row.take (k + 1)))) := by
         show _ = _
         have h := Hor.out (decide (0 ≤ q) && M.getD q.toNat false)
         rw [Hs2.out, ← h, hge]
         rfl
        clear Hor Hs2
        go_wp2_with fail
        go_round
        case rel => exact ⟨k + 1, false, by omega, by go_num, rfl, HE2⟩
        case measure => simp [intOf]; omega
       ·
        have hge : decide ((0 : Int) ≤ q) = true := by simp; omega
        obtain ⟨qn, rfl⟩ : ∃ qn : Nat, q = (qn : Int) := ⟨q.toNat, by omega⟩
        obtain ⟨v, hv⟩ : ∃ e, M[qn]? = some e := ⟨_, List.getElem?_eq_getElem (by omega)⟩
        have x0 := arr_cell Hb.out hv
        have HE2 : Hid (v = (lookTo ar nr M j || z || hitR (fun z => M.getD z false) (row.take (k + 1)))) := by
         show _ = _
         have h := Hor.out (decide ((0 : Int) ≤ (qn : Int)) && M.getD (qn : Int).toNat false)
         rw [Hs2.out, ← h, hge, Int.toNat_natCast, List.getD_eq_getElem?_getD, hv]
         simp
        have hqn := Int.natCast_nonneg qn
        clear Hor Hs2 hv
        go_wp2_with fail
        go_round
        case rel => exact ⟨k + 1, v, by omega, by go_num, rfl, HE2⟩
        case measure => simp [intOf]; omega
      ·
       have HE2 : Hid (true = (lookTo ar nr M j || z || hitR (fun z => M.getD z false) (row.take (k + 1)))) := by
        show _ = _
        have h := Hor.out (decide (0 ≤ q) && M.getD q.toNat false)
        rw [Hs2.out, ← h]
        simp
       clear Hor Hs2
       go_wp2_with fail
       go_round
       case rel => exact ⟨k + 1, true, by omega, by go_num, rfl, HE2⟩
       case measure => simp [intOf]; omega
end Go.Proofs.YtfhlddbngjlhbaaDoor

namespace Go.Proofs.YtfhlddbngjlhbaaDoor
set_option linter.unusedVariables false
set_option linter.unusedSimpArgs false
open Go.ChangeShapes Go.WideShapes Go.ChangeAt Go.RowKit Go.Deep
theorem bun_zero {B : Nat} {w : World} {items : List Item} (h : Bun B w items) (hB : B ≤ w.heap.size) {t : Nat} {v : Int} : Bun B (w.alloc (.cells #[.int .i64 v] t)) (items ++ [.app t 1 1 [D.int v] (.slice (some ⟨w.heap.size, 0, none⟩) 1 1)]) := by
 refine h.push (Below.alloc (Below.refl _ _) (Nat.le_refl _) _) ?_
 refine AppS.more (AppS.made (t := t) (size := 1) (m := 1) (S := fun _ => False) (none_own (w := w) (v := v)) (fun b h => h.elim) rfl (by unfold maxLen; omega)) fun b _ hc => ?_
 have hz : (w.alloc (.cells #[.int .i64 v] t)).heap.size = w.heap.size + 1 := by simp
 rcases hc with hc | hc
 ·
  exact hc.elim
 ·
  omega
end Go.Proofs.YtfhlddbngjlhbaaDoor

namespace Go.Proofs.YtfhlddbngjlhbaaDoor
set_option linter.unusedVariables false
set_option linter.unusedSimpArgs false
def okW (A a : Nat) (ws : List (Nat × Nat)) (m : Nat) : Prop := (∀ q ∈ ws, q.1 < A ∧ q.2 < a) ∧ m < A
theorem okW.tail {A a : Nat} {q : Nat × Nat} {ws : List (Nat × Nat)} {m : Nat} (h : okW A a (q :: ws) m) : q.1 < A ∧ q.2 < a ∧ okW A a ws m :=
 ⟨(h.1 q (by simp)).1, (h.1 q (by simp)).2, fun p hp => h.1 p (by simp [hp]), h.2⟩
def accN (ac : List (List Bool)) (nx : List (List (List Int))) : Int → List (Nat × Nat) → Nat → Bool
 | s, [], m => hasN ac s m
 | s, q :: ws, m => accN ac nx (goN nx s q.1 q.2) ws m
theorem accN_neg (ac : List (List Bool)) (nx : List (List (List Int))) : ∀ (ws : List (Nat × Nat)) (s : Int) (m : Nat), s < 0 → accN ac nx s ws m = false
 | [], s, m, h => by
  show hasN ac s m = false
  unfold hasN
  rw [decide_eq_false (by omega), Bool.false_and]
 | q :: ws, s, m, h => by
  show accN ac nx (goN nx s q.1 q.2) ws m = false
  refine accN_neg ac nx ws _ m ?_
  unfold goN
  rw [if_pos h]
  omega
section
variable {α : Type} [DecidableEq α]
end
section
variable {t a : Int} {ac bc : List (List Bool)} {nx ny : List (List (List Int))}
end
end Go.Proofs.YtfhlddbngjlhbaaDoor

namespace Go.Proofs.YtfhlddbngjlhbaaDoor
set_option linter.unusedVariables false
set_option linter.unusedSimpArgs false
open Classical in
open Classical in
open Classical in
theorem map_take_succ {α β : Type} {f : α → β} {L : List α} {i : Nat} {x : α} (h : L[i]? = some x) : (L.map f).take (i + 1) = (L.map f).take i ++ [f x] := by
 obtain ⟨hi, rfl⟩ := List.getElem?_eq_some_iff.1 h
 have hl : i < (L.map f).length := by simpa using hi
 rw [List.take_succ_eq_append_getElem hl]
 simp
section
variable {t a : Int} {ac bc : List (List Bool)} {nx ny : List (List (List Int))}
end
end Go.Proofs.YtfhlddbngjlhbaaDoor
