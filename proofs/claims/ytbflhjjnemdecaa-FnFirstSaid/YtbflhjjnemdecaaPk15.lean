/-
  Parts of a proof, joined: FstP, FstS. No condition.
-/
import Derived.Test.YtbflhjjnemdecaaPk14
namespace Go.Proofs.Ytbflhjjnemdecaa
set_option linter.unusedVariables false
set_option linter.unusedSimpArgs false
open Go.ChangeShapes Go.WideShapes Go.ChangeAt Go.RowKit Go.Deep
def hitZ (P : Nat → Bool) (z : Int) : Bool := decide (0 ≤ z) && P z.toNat
theorem hitR_eq (P : Nat → Bool) (row : List Int) : hitR P row = row.any (hitZ P) := rfl
def chJ (P : Nat → Bool) (nr : List (List Int)) : Nat := nr.findIdx (hitR P)
def chL (P : Nat → Bool) (nr : List (List Int)) : Nat := (nr.getD (chJ P nr) []).findIdx (hitZ P)
def chZ (P : Nat → Bool) (nr : List (List Int)) : Int := (nr.getD (chJ P nr) []).getD (chL P nr) 0
structure ChO (P : Nat → Bool) (nr : List (List Int)) (j l : Nat) (z : Int) : Prop where
 cell : ∃ row, nr[j]? = some row ∧ row[l]? = some z ∧ hitR P (row.take l) = false
 pos : 0 ≤ z
 hit : P z.toNat = true
 first : ∀ (i : Nat) (r : List Int), i < j → nr[i]? = some r → hitR P r = false
theorem findIdx_is {α : Type} {p : α → Bool} {L : List α} {i : Nat} {x : α} (h : L[i]? = some x) (hp : p x = true) (hn : ∀ (j : Nat) (y : α), j < i → L[j]? = some y → p y = false) : L.findIdx p = i := by
 obtain ⟨hi, rfl⟩ := List.getElem?_eq_some_iff.1 h
 exact (List.findIdx_eq hi).2 ⟨hp, fun j hj => hn j _ hj (List.getElem?_eq_getElem (by omega))⟩
theorem any_take_none {α : Type} {p : α → Bool} {L : List α} {i : Nat} (h : (L.take i).any p = false) : ∀ (j : Nat) (y : α), j < i → L[j]? = some y → p y = false := by
 intro j y hj hy
 rw [List.any_eq_false] at h
 have hm : y ∈ L.take i := List.mem_iff_getElem?.2 ⟨j, by rw [List.getElem?_take, if_pos hj]; exact hy⟩
 simpa using h y hm
theorem ChO.is {P : Nat → Bool} {nr : List (List Int)} {j l : Nat} {z : Int} (h : ChO P nr j l z) : j = chJ P nr ∧ l = chL P nr ∧ z = chZ P nr := by
 obtain ⟨⟨row, h1, h2, h3⟩, h4, h5, h6⟩ := h
 have hz : hitZ P z = true := by unfold hitZ; rw [h5]; simpa using h4
 have hr : hitR P row = true := by rw [hitR_eq, List.any_eq_true]; exact ⟨z, List.mem_iff_getElem?.2 ⟨l, h2⟩, hz⟩
 have ej : chJ P nr = j := findIdx_is h1 hr fun i y hi hy => h6 i y hi hy
 have el : chL P nr = l := by
  unfold chL
  rw [ej, List.getD_eq_getElem?_getD, h1]
  exact findIdx_is (L := row) h2 hz (any_take_none h3)
 refine ⟨ej.symm, el.symm, ?_⟩
 unfold chZ
 rw [ej, el, List.getD_eq_getElem?_getD, List.getD_eq_getElem?_getD, h1]
 show z = (row[l]?).getD 0
 rw [h2]; rfl
theorem findIdx_at {α : Type} {p : α → Bool} {L : List α} (h : L.any p = true) : ∃ x, L[L.findIdx p]? = some x ∧ p x = true ∧ (L.take (L.findIdx p)).any p = false := by
 rw [List.any_eq_true] at h
 have hl : L.findIdx p < L.length := List.findIdx_lt_length.2 h
 refine ⟨_, List.getElem?_eq_getElem hl, List.findIdx_getElem, ?_⟩
 rw [List.any_eq_false]
 intro x hx
 obtain ⟨i, hi⟩ := List.mem_iff_getElem?.1 hx
 rw [List.getElem?_take] at hi
 split at hi
 ·
  rename_i hlt
  obtain ⟨h1, rfl⟩ := List.getElem?_eq_some_iff.1 hi
  have := List.not_of_lt_findIdx hlt
  simpa using this
 ·
  cases hi
theorem ChO.of {P : Nat → Bool} {nr : List (List Int)} (h : nr.any (hitR P) = true) : ChO P nr (chJ P nr) (chL P nr) (chZ P nr) := by
 obtain ⟨row, h1, h2, h3⟩ := findIdx_at h
 obtain ⟨z, h4, h5, h6⟩ := findIdx_at (p := hitZ P) (L := row) h2
 have ej : nr.getD (chJ P nr) [] = row := by unfold chJ; rw [List.getD_eq_getElem?_getD, h1]; rfl
 have el : chL P nr = row.findIdx (hitZ P) := by unfold chL; rw [ej]
 have ez : chZ P nr = z := by unfold chZ; rw [ej, el, List.getD_eq_getElem?_getD, h4]; rfl
 unfold hitZ at h5
 simp only [Bool.and_eq_true, decide_eq_true_eq] at h5
 rw [ez, el]
 exact ⟨⟨row, h1, h4, h6⟩, h5.1, h5.2, any_take_none h3⟩
theorem hitR_congr {P Q : Nat → Bool} {row : List Int} (h : ∀ z ∈ row, hitZ P z = hitZ Q z) : hitR P row = hitR Q row := by
 rw [hitR_eq, hitR_eq, Bool.eq_iff_iff, List.any_eq_true, List.any_eq_true]
 constructor
 ·
  rintro ⟨z, hz, h1⟩; exact ⟨z, hz, by rw [← h z hz]; exact h1⟩
 ·
  rintro ⟨z, hz, h1⟩; exact ⟨z, hz, by rw [h z hz]; exact h1⟩
theorem ChO.congr {P Q : Nat → Bool} {nr : List (List Int)} {j l : Nat} {z : Int} (h : ChO P nr j l z) (e : ∀ row ∈ nr, ∀ z ∈ row, hitZ P z = hitZ Q z) : ChO Q nr j l z := by
 obtain ⟨⟨row, h1, h2, h3⟩, h4, h5, h6⟩ := h
 have er := e row (List.mem_iff_getElem?.2 ⟨j, h1⟩)
 refine ⟨⟨row, h1, h2, ?_⟩, h4, ?_, fun i r hi hr => ?_⟩
 ·
  rw [← hitR_congr (P := P) fun z hz => er z (List.mem_of_mem_take hz)]; exact h3
 ·
  have := er z (List.mem_iff_getElem?.2 ⟨l, h2⟩)
  unfold hitZ at this
  rw [h5] at this
  have h7 : decide (0 ≤ z) = true := by simpa using h4
  rw [h7] at this
  simpa using this.symm
 ·
  rw [← hitR_congr (P := P) (e r (List.mem_iff_getElem?.2 ⟨i, hr⟩))]; exact h6 i r hi hr
section
variable (ac : List (List Bool)) (nx : List (List (List Int)))
def stW (N : Nat) : Nat → Nat
 | 0 => 0
 | k + 1 => (chZ (accW ac nx (N - k - 1)) (nx.getD (stW N k) [])).toNat
def fxW (N k : Nat) : List Int := (List.range k).map fun i => ((chJ (accW ac nx (N - i - 1)) (nx.getD (stW ac nx N i) []) : Nat) : Int)
def fyW (N k : Nat) : List Int := (List.range k).map fun i => ((chL (accW ac nx (N - i - 1)) (nx.getD (stW ac nx N i) []) : Nat) : Int)
def laW (s : Nat) : Nat := (ac.getD s []).findIdx id
def fxA (N : Nat) : List Int := fxW ac nx N N ++ [((laW ac (stW ac nx N N) : Nat) : Int)]
def fiN : Int := farV ac nx (ac.length - 1) 0
end
section
variable {ac : List (List Bool)} {nx : List (List (List Int))}
theorem fxW_len (N k : Nat) : (fxW ac nx N k).length = k := by simp [fxW]
theorem fxA_len (N : Nat) : (fxA ac nx N).length = N + 1 := by simp [fxA, fxW_len]
theorem fyW_len (N k : Nat) : (fyW ac nx N k).length = k := by simp [fyW]
theorem fxW_succ (N k : Nat) : fxW ac nx N (k + 1) = fxW ac nx N k ++ [((chJ (accW ac nx (N - k - 1)) (nx.getD (stW ac nx N k) []) : Nat) : Int)] := by simp [fxW, List.range_succ]
theorem fyW_succ (N k : Nat) : fyW ac nx N (k + 1) = fyW ac nx N k ++ [((chL (accW ac nx (N - k - 1)) (nx.getD (stW ac nx N k) []) : Nat) : Int)] := by simp [fyW, List.range_succ]
structure OnW (ac : List (List Bool)) (nx : List (List (List Int))) (N k : Nat) : Prop where
 le : k ≤ N
 lt : stW ac nx N k < ac.length
 acc : accW ac nx (N - k) (stW ac nx N k) = true
 least : ∀ m, m < N - k → accW ac nx m (stW ac nx N k) = false
variable {t a : Int}
theorem OnW.start (h : AutOk t a ac nx) {N : Nat} (hN : accW ac nx N 0 = true) (hl : ∀ m, m < N → accW ac nx m 0 = false) : OnW ac nx N 0 := ⟨Nat.zero_le _, h.lo, hN, hl⟩
theorem OnW.step (h : AutOk t a ac nx) {N k : Nat} (hk : k < N) (o : OnW ac nx N k) : ∃ nr z, nx[stW ac nx N k]? = some nr ∧ ChO (accW ac nx (N - k - 1)) nr (chJ (accW ac nx (N - k - 1)) (nx.getD (stW ac nx N k) [])) (chL (accW ac nx (N - k - 1)) (nx.getD (stW ac nx N k) [])) z ∧
  z = (stW ac nx N (k + 1) : Int) ∧ (nr.any (hitR (accW ac nx (N - k - 1)))) = true ∧ OnW ac nx N (k + 1) ∧ ∀ row ∈ nr, ∀ z ∈ row, hitZ (accW ac nx (N - k - 1)) z = hitZ (fun s => farV ac nx (ac.length - 1) s == ((N - k - 1 : Nat) : Int)) z := by
 obtain ⟨nr, hnr⟩ : ∃ e, nx[stW ac nx N k]? = some e := ⟨_, List.getElem?_eq_getElem (by rw [h.len]; exact o.lt)⟩
 have eg : nx.getD (stW ac nx N k) [] = nr := by rw [List.getD_eq_getElem?_getD, hnr]; rfl
 have ha : nr.any (hitR (accW ac nx (N - k - 1))) = true := by
  have := o.acc
  rw [show N - k = (N - k - 1) + 1 by omega] at this
  rw [← eg]
  exact this
 have hc := ChO.of ha
 have ht : ∀ row ∈ nr, ∀ z ∈ row, z < ac.length := fun row hr z hz => h.targets (stW ac nx N k) row z (by rw [eg]; exact hr) hz
 have hin : ∀ row ∈ nr, ∀ z ∈ row, ∀ m, 0 ≤ z → accW ac nx m z.toNat = true → accW ac nx (m + 1) (stW ac nx N k) = true := by
  intro row hr z hz m h0 h1
  exact accW_succ.2 ⟨row, by rw [eg]; exact hr, z, hz, h0, h1⟩
 have hst : chZ (accW ac nx (N - k - 1)) nr = (stW ac nx N (k + 1) : Int) := by
  show _ = (((chZ (accW ac nx (N - k - 1)) (nx.getD (stW ac nx N k) [])).toNat : Nat) : Int)
  rw [eg, Int.toNat_of_nonneg hc.pos]
 obtain ⟨row, r1, r2, r3⟩ := hc.cell
 have hrm : row ∈ nr := List.mem_iff_getElem?.2 ⟨_, r1⟩
 have hzm := List.mem_iff_getElem?.2 ⟨_, r2⟩
 have hzl := ht row hrm _ hzm
 refine ⟨nr, _, hnr, by rw [eg]; exact hc, hst, ha, ⟨by omega, ?_, ?_, ?_⟩, ?_⟩
 ·
  rw [hst] at hzl; omega
 ·
  have := hc.hit
  rw [hst, Int.toNat_natCast] at this
  rw [show N - (k + 1) = N - k - 1 by omega]
  exact this
 ·
  intro m hm
  cases hb : accW ac nx m (stW ac nx N (k + 1))
  ·
   rfl
  ·
   have h1 := hin row hrm _ hzm m hc.pos (by rw [hst, Int.toNat_natCast]; exact hb)
   rw [o.least (m + 1) (by omega)] at h1
   cases h1
 ·
  intro row hr z hz
  have hlt := least_lt h.targets o.lt o.acc o.least
  unfold hitZ
  by_cases h0 : 0 ≤ z
  ·
   have e0 : decide (0 ≤ z) = true := by simpa using h0
   rw [e0, Bool.true_and, Bool.true_and, Bool.eq_iff_iff, beq_iff_eq]
   constructor
   ·
    intro h1
    refine farV_of (by omega) h1 fun j hj => ?_
    cases hb : accW ac nx j z.toNat
    ·
     rfl
    ·
     have h2 := hin row hr z hz j h0 hb
     rw [o.least (j + 1) (by omega)] at h2
     cases h2
   ·
    intro h1
    exact (farV_eq h1).1
  ·
   have e0 : decide (0 ≤ z) = false := by simpa using h0
   rw [e0]; rfl
theorem OnW.all (h : AutOk t a ac nx) {N : Nat} (o : OnW ac nx N 0) : ∀ k, k ≤ N → OnW ac nx N k
 | 0, _ => o
 | k + 1, hk => (OnW.step h (show k < N by omega) (OnW.all h o k (by omega))).choose_spec.choose_spec.2.2.2.2.1
theorem last_atom {s : Nat} {ar : List Bool} (h : ac[s]? = some ar) (ha : accW ac nx 0 s = true) : laW ac s < ar.length ∧ ar[laW ac s]? = some true ∧ ∀ j : Nat, j < laW ac s → ar[j]? = some false := by
 have e : laW ac s = ar.findIdx id := by unfold laW; rw [List.getD_eq_getElem?_getD, h]; rfl
 have ha' : ar.any id = true := by
  have : (ac.getD s []).any id = true := ha
  rw [List.getD_eq_getElem?_getD, h] at this
  exact this
 obtain ⟨x, h1, h2, h3⟩ := findIdx_at ha'
 have hl := (List.getElem?_eq_some_iff.1 h1).1
 rw [e]
 refine ⟨hl, by rw [h1]; exact congrArg some h2, fun j hj => ?_⟩
 have hj' : j < ar.length := by omega
 rw [List.getElem?_eq_getElem hj']
 have := any_take_none h3 j _ hj (List.getElem?_eq_getElem hj')
 exact congrArg some this
end
noncomputable def fiG (t a : Int) (ac : List (List Bool)) (nx : List (List (List Int))) : Prop := autB t a ac nx = true ∧ 0 ≤ fiN ac nx ∧ fiN ac nx ≤ 10
open Classical in
noncomputable def fiX (t a : Int) (ac : List (List Bool)) (nx : List (List (List Int))) : List Int := if fiG t a ac nx then fxA ac nx (fiN ac nx).toNat else []
open Classical in
noncomputable def fiY (t a : Int) (ac : List (List Bool)) (nx : List (List (List Int))) : List Int := if fiG t a ac nx then fyW ac nx (fiN ac nx).toNat (fiN ac nx).toNat else []
noncomputable def fiC (t a : Int) (ac : List (List Bool)) (nx : List (List (List Int))) : Int := if autB t a ac nx then (if 0 ≤ fiN ac nx then (if fiN ac nx ≤ 10 then 0 else 3) else 6) else 1
section
variable {t a : Int} {ac : List (List Bool)} {nx : List (List (List Int))}
theorem fi_good {N : Nat} (h : autB t a ac nx = true) (hN : fiN ac nx = (N : Int)) (h10 : N ≤ 10) : fiX t a ac nx = fxA ac nx N ∧ fiY t a ac nx = fyW ac nx N N ∧ fiC t a ac nx = 0 := by
 have hg : fiG t a ac nx := ⟨h, by omega, by omega⟩
 unfold fiX fiY fiC
 rw [if_pos hg, if_pos hg, if_pos h, if_pos (by omega), if_pos (by omega), hN, Int.toNat_natCast]
 exact ⟨rfl, rfl, rfl⟩
theorem fi_bad (h : ¬ fiG t a ac nx) : fiX t a ac nx = [] ∧ fiY t a ac nx = [] := by
 unfold fiX fiY
 rw [if_neg h, if_neg h]
 exact ⟨rfl, rfl⟩
theorem fi_inv (h : autB t a ac nx = false) : fiX t a ac nx = [] ∧ fiY t a ac nx = [] ∧ fiC t a ac nx = 1 := by
 obtain ⟨h1, h2⟩ := fi_bad (t := t) (a := a) (ac := ac) (nx := nx) (fun g => by rw [g.1] at h; cases h)
 exact ⟨h1, h2, by unfold fiC; rw [h]; rfl⟩
theorem fi_none (h : autB t a ac nx = true) (hN : fiN ac nx < 0) : fiX t a ac nx = [] ∧ fiY t a ac nx = [] ∧ fiC t a ac nx = 6 := by
 obtain ⟨h1, h2⟩ := fi_bad (t := t) (a := a) (ac := ac) (nx := nx) (fun g => by have := g.2.1; omega)
 exact ⟨h1, h2, by unfold fiC; rw [if_pos h, if_neg (by omega)]⟩
theorem fi_long {N : Nat} (h : autB t a ac nx = true) (hN : fiN ac nx = (N : Int)) (h10 : 10 < N) : fiX t a ac nx = [] ∧ fiY t a ac nx = [] ∧ fiC t a ac nx = 3 := by
 obtain ⟨h1, h2⟩ := fi_bad (t := t) (a := a) (ac := ac) (nx := nx) (fun g => by have := g.2.2; omega)
 exact ⟨h1, h2, by unfold fiC; rw [if_pos h, if_pos (by omega), if_neg (by omega)]⟩
end
end Go.Proofs.Ytbflhjjnemdecaa

namespace Go.Proofs.Ytbflhjjnemdecaa
set_option linter.unusedVariables false
set_option linter.unusedSimpArgs false
open Go.ChangeShapes Go.WideShapes Go.ChangeAt Go.RowKit Go.Deep Go.Sort
theorem any_take_all {α : Type} {p : α → Bool} {L : List α} {n : Nat} (h : (L.take n).any p = false) (hn : n = L.length) : L.any p = false := by rw [hn, List.take_length] at h; exact h
set_option maxHeartbeats 8000000 in
theorem l02Choice_i {t a : Int} {ac : List (List Bool)} {nx : List (List (List Int))} {s u q : Option Addr} {c d b o e x : Nat} {L : List Bool} {nr : List (List Int)} {w0 : World} (h : AutAt w0 b o t a ac nx s u c d) (hok : AutOk t a ac nx) (hL : Rd w0 (boolsD L) (.slice q L.length e)) (hLl : L.length = ac.length)
  (hx : x < ac.length) (hnr : nx[x]? = some nr) (hh : nr.any (hitR fun z => L.getD z false) = true) :
  Calls Try.prog 129 #[.pointer (some ⟨b, o, none⟩), .slice q L.length e, .int .i64 x] w0 fun f w' => ∃ j l : Nat, f = .returned (.tuple #[.int .i64 j, .int .i64 l]) ∧ (∃ z, ChO (fun z => L.getD z false) nr j l z) ∧ Below w0.heap.size w0 w' := by
 have g5 := h.2.2.2.2.2
 obtain ⟨hlen', hcap'⟩ := nest_bd g5
 obtain ⟨hL1, hL2⟩ := nest_bd hL
 unfold maxLen at hcap' hL2
 have hnl := hok.len
 have hhi := hok.hi
 have Htg := Lib.hid (fun (l : Nat) (row : List Int) (h : nr[l]? = some row) (z : Int) (hz : z ∈ row) => hok.targets x row z (by rw [List.getD_eq_getElem?_getD, hnr]; exact List.mem_of_getElem? h) hz)
 obtain ⟨ub, uo, rfl⟩ := nest_some (f := iiD) g5 (by omega)
 obtain ⟨hul, sn, cn, b0, rb⟩ := nest_sl (g := intsD) g5 hnr
 obtain ⟨lb, lo, rfl⟩ := nest_some (f := D.bool) hL (by omega)
 obtain ⟨rb1, rb2⟩ := nest_bd rb
 unfold maxLen at rb2
 have hx0 := Int.natCast_nonneg x
 have hxc : (x : Int) < (nx.length : Int) := by omega
 have Hh := Lib.hid h
 have Hb0 := Lib.hid b0
 have Hrb := Lib.hid rb
 have HL := Lib.hid hL
 have Hhh := Lib.hid hh
 clear h b0 rb hL hh hnr hok g5
 go_enter Try.func129, Try.ntmps129
 go_wp2_with fail
 go_loopw [8] (fun i wr => ∃ j : Nat, j ≤ nr.length ∧ i = .int .i64 j ∧ Hid ((nr.take j).any (hitR fun z => L.getD z false) = false) ∧ Below w0.heap.size w0 wr) (fun i _ => nr.length - (intOf i).toNat)
 case atStart => exact ⟨0, by omega, rfl, by show _ = _; rfl, Below.refl _ _⟩
 case round =>
  obtain ⟨j, hj, rfl, HJ, hB⟩ := hrel
  obtain ⟨wo, rfl⟩ : ∃ v, v = wr := ⟨_, rfl⟩
  have hj0 := Int.natCast_nonneg j
  have HB := Lib.hid hB
  by_cases hjl : j < nr.length
  rotate_left
  ·
   have := any_take_all HJ.out (by omega)
   rw [Hhh.out] at this
   cases this
  obtain ⟨row, hrow⟩ : ∃ e, nr[j]? = some e := ⟨_, List.getElem?_eq_getElem hjl⟩
  obtain ⟨vb, vo, rfl⟩ := nest_some (f := intsD) Hrb.out (by omega)
  obtain ⟨hvl, sr, cr, r0, rr⟩ := nest_sl (g := D.int) Hrb.out hrow
  obtain ⟨rr1, rr2⟩ := nest_bd rr
  unfold maxLen at rr2
  have Hr0 := Lib.hid r0
  have Hrr := Lib.hid rr
  have hjb : (j : Int) < (nr.length : Int) := by omega
  have Hrow := Lib.hid hrow
  have hzr := Lib.hid (Htg.out j row hrow)
  have Hsu := Lib.hid (any_succ (p := hitR fun z => L.getD z false) hrow)
  obtain ⟨c0, c1', c2', c3', -, -⟩ := Hh.out.below HB.out
  have b0 := ((HB.out).cell (p := ⟨ub, uo + x, none⟩) hul).trans Hb0.out
  clear hB hrow r0 rr
  go_wp2_with fail
  clear c0 c1' c2' c3' b0
  go_loopw [9] (fun i wr => ∃ l : Nat, l ≤ row.length ∧ i = .int .i64 l ∧ Hid (hitR (fun z => L.getD z false) (row.take l) = false) ∧ Below w0.heap.size w0 wr) (fun i _ => row.length - (intOf i).toNat)
  case atStart => exact ⟨0, by omega, rfl, by show _ = _; rfl, HB.out⟩
  case round =>
   obtain ⟨l, hl, rfl, HE, hBl⟩ := hrel
   obtain ⟨wl, rfl⟩ : ∃ v, v = wr := ⟨_, rfl⟩
   have hl0 := Int.natCast_nonneg l
   have HBl := Lib.hid hBl
   have r0 := (hBl.cell (p := ⟨vb, vo + j, none⟩) hvl).trans Hr0.out
   obtain ⟨c0, c1', c2', c3', -, -⟩ := Hh.out.below HBl.out
   have b0 := ((HBl.out).cell (p := ⟨ub, uo + x, none⟩) hul).trans Hb0.out
   by_cases hll : l < row.length
   rotate_left
   ·
    have HJ2 : Hid ((nr.take (j + 1)).any (hitR fun z => L.getD z false) = false) := by
     show _ = _
     have := HE.out
     rw [show l = row.length by omega, List.take_length] at this
     rw [Hsu.out, HJ.out, this]
     rfl
    clear hBl
    go_wp2_with fail
    go_roundw
    case rel => exact ⟨j + 1, by omega, by go_num, HJ2, HBl.out⟩
    case measure => simp [intOf]; omega
   obtain ⟨z, hz⟩ : ∃ e, row[l]? = some e := ⟨_, List.getElem?_eq_getElem hll⟩
   obtain ⟨tb, to', rfl⟩ := nest_some (f := D.int) Hrr.out (by omega)
   obtain ⟨-, q0⟩ := int_in (Hrr.out.below HBl.out) hz
   have hlb : (l : Int) < (row.length : Int) := by omega
   have hzl := hzr.out z (List.mem_of_getElem? hz)
   have Hz := Lib.hid hz
   clear hBl hz
   by_cases hneg : z < 0
   ·
    have HE2 : Hid (hitR (fun z => L.getD z false) (row.take (l + 1)) = false) := hitR_none HE.out Hz.out (by rw [decide_eq_false (by omega)]; rfl)
    go_wp2_with fail
    go_roundw
    case rel => exact ⟨_, _, _, ⟨l + 1, by omega, by go_num, HE2, HBl.out⟩, rfl, rfl, rfl⟩
    case measure => simp [intOf]; omega
   obtain ⟨zn, rfl⟩ : ∃ zn : Nat, z = (zn : Int) := ⟨z.toNat, by omega⟩
   obtain ⟨v, hv⟩ : ∃ v, L[zn]? = some v := ⟨_, List.getElem?_eq_getElem (by omega)⟩
   obtain ⟨-, y0⟩ := bool_in (HL.out.below HBl.out) hv
   have hzn := Int.natCast_nonneg zn
   have hznb : (zn : Int) < (L.length : Int) := by omega
   have Hv : Hid (L.getD zn false = v) := by show _ = _; rw [List.getD_eq_getElem?_getD, hv]; rfl
   clear hv
   cases v
   ·
    have HE2 : Hid (hitR (fun z => L.getD z false) (row.take (l + 1)) = false) := hitR_none HE.out Hz.out (by rw [Int.toNat_natCast, Hv.out]; simp)
    go_wp2_with fail
    go_roundw
    case rel => exact ⟨l + 1, by omega, by go_num, HE2, HBl.out⟩
    case measure => simp [intOf]; omega
   ·
    go_wp2_with fail
    refine bodyPost_ret (v := .tuple #[.int .i64 j, .int .i64 l]) (by simp [results, Try.results129, go_sem]) rfl ?_
    exact ⟨j, l, rfl, ⟨zn, ⟨row, Hrow.out, Hz.out, HE.out⟩, by omega, by rw [Int.toNat_natCast]; exact Hv.out, any_take_none HJ.out⟩, HBl.out⟩
theorem WdB.freshs {W w : World} {B wb : Nat} {xs ys : List Int} {va vb : Value} (h : WdB B w wb xs ys va vb) (hB : W.heap.size ≤ B) : Freshs W w (wordD xs ys) [va, vb] := by
 obtain ⟨F, G, h1, h2, h3, h4, h5, h6⟩ := h.owns
 refine ⟨F ++ (G ++ []), Ows.cons h1 (Ows.cons h3 Ows.nil), ?_, ?_⟩
 ·
  rw [List.append_nil, List.nodup_append]
  exact ⟨h2, h4, fun a ha b hb e => (h5 a ha).2.2 (by rw [e]; exact hb)⟩
 ·
  intro b hm
  rw [List.append_nil] at hm
  rcases List.mem_append.1 hm with hm | hm
  ·
   have := (h5 b hm).1; omega
  ·
   have := (h6 b hm).1; omega
set_option maxRecDepth 100000 in
set_option maxHeartbeats 16000000 in
theorem l02First_no {t a : Int} {ac : List (List Bool)} {nx : List (List (List Int))} {s u : Option Addr} {c d b o : Nat} {w0 : World} (h : AutAt w0 b o t a ac nx s u c d) (hok : AutOk t a ac nx) (hN : fiN ac nx < 0) :
  Calls Try.prog 77 #[.pointer (some ⟨b, o, none⟩)] w0 fun f w' => f = .returned (.tuple #[.agg #[.slice none 0 0, .slice none 0 0], .bool false]) ∧ Below w0.heap.size w0 w' := by
 have hlv := far_live hok hok.lo
 have hN' : farV ac nx (ac.length - 1) 0 < 0 := hN
 rw [decide_eq_false (by omega)] at hlv
 have hl0 := liveL_at (ac := ac) (nx := nx) (s := 0) hok.lo
 rw [hlv] at hl0
 have hll := liveL_len (ac := ac) (nx := nx)
 have hlo := hok.lo
 have hhi := hok.hi
 go_enter Try.func77, Try.ntmps77
 go_wp2_with fail
 obtain ⟨w1, e1, R, hb1, hz1⟩ := box2 w0 40 (.slice none 0 0) (.slice none 0 0)
 rw [e1]
 refine (l02Live_i (h.below hb1) hok).mono ?_
 rintro f w2 ⟨g, rfl, hf, hb2⟩
 have hB := hb1.trans (hb2.mono (by omega))
 replace R := R.below hb2
 obtain ⟨-, q0⟩ := bool_in hf.rd hl0
 obtain ⟨r0, r1, rl⟩ := R.all2
 have z0 := R.frozen 0
 have z1 := R.frozen 1
 clear hf hb2 hb1 hl0 e1
 go_wp2_with fail
 have K1 := (R.set 0 (.slice none 0 0)).set 1 (.slice none 0 0)
 have k0 := K1.c0
 have k1 := K1.c1
 refine bodyPost_ret (v := .tuple #[.agg #[.slice none 0 0, .slice none 0 0], .bool false]) (by simp [results, Try.results77, go_sem, k0, k1]) rfl ?_
 exact ⟨rfl, by (repeat' first | exact Below.refl _ _ | assumption | apply Below.alloc | apply Below.drew | apply Below.setCell | omega | (simp; done) | (simp; omega))⟩
theorem fst_step {t a : Int} {ac : List (List Bool)} {nx : List (List (List Int))} {N k : Nat} (h : AutOk t a ac nx) (hk : k < N) (o : OnW ac nx N k) : ∃ nr, nx[stW ac nx N k]? = some nr ∧ stW ac nx N k < ac.length ∧ (nr.any (hitR fun z => (reachL ac nx (N - k - 1)).getD z false)) = true ∧
  (∀ j l : Nat, (∃ z, ChO (fun z => (reachL ac nx (N - k - 1)).getD z false) nr j l z) → (∃ row, nr[j]? = some row ∧ row[l]? = some (stW ac nx N (k + 1) : Int)) ∧ fxW ac nx N (k + 1) = fxW ac nx N k ++ [(j : Int)] ∧ fyW ac nx N (k + 1) = fyW ac nx N k ++ [(l : Int)]) ∧
  (nr.any (hitR fun s => farV ac nx (ac.length - 1) s == ((N - k - 1 : Nat) : Int))) = true ∧
  (∀ j l : Nat, (∃ z, ChO (fun s => farV ac nx (ac.length - 1) s == ((N - k - 1 : Nat) : Int)) nr j l z) → (∃ row, nr[j]? = some row ∧ row[l]? = some (stW ac nx N (k + 1) : Int)) ∧ fxW ac nx N (k + 1) = fxW ac nx N k ++ [(j : Int)] ∧ fyW ac nx N (k + 1) = fyW ac nx N k ++ [(l : Int)]) := by
 obtain ⟨nr, z, h1, hc, h3, h4, -, h6⟩ := OnW.step h hk o
 have eg : nx.getD (stW ac nx N k) [] = nr := by rw [List.getD_eq_getElem?_getD, h1]; rfl
 have hgo : ∀ j l : Nat, (∃ z, ChO (accW ac nx (N - k - 1)) nr j l z) → (∃ row, nr[j]? = some row ∧ row[l]? = some (stW ac nx N (k + 1) : Int)) ∧ fxW ac nx N (k + 1) = fxW ac nx N k ++ [(j : Int)] ∧ fyW ac nx N (k + 1) = fyW ac nx N k ++ [(l : Int)] := by
  rintro j l ⟨z', hz'⟩
  obtain ⟨e1, e2, e3⟩ := hz'.is
  obtain ⟨_, _, e4⟩ := hc.is
  obtain ⟨row, r1, r2, -⟩ := hz'.cell
  rw [fxW_succ, fyW_succ, eg, ← e1, ← e2]
  exact ⟨⟨row, r1, by rw [r2, e3, ← e4, h3]⟩, rfl, rfl⟩
 have hcr : ∀ row ∈ nr, ∀ z ∈ row, hitZ (accW ac nx (N - k - 1)) z = hitZ (fun z => (reachL ac nx (N - k - 1)).getD z false) z := by
  intro row hr z hz
  have hlt := h.targets (stW ac nx N k) row z (by rw [eg]; exact hr) hz
  unfold hitZ
  by_cases h0 : 0 ≤ z
  ·
   show _ = (decide (0 ≤ z) && (reachL ac nx (N - k - 1)).getD z.toNat false)
   rw [List.getD_eq_getElem?_getD, reachL_at (by omega)]; rfl
  ·
   rw [decide_eq_false h0]; rfl
 have hany : ∀ Q : Nat → Bool, (∀ row ∈ nr, ∀ z ∈ row, hitZ (accW ac nx (N - k - 1)) z = hitZ Q z) → nr.any (hitR Q) = true := by
  intro Q hQ
  rw [List.any_eq_true] at h4 ⊢
  obtain ⟨row, r1, r2⟩ := h4
  exact ⟨row, r1, by rw [← hitR_congr (hQ row r1)]; exact r2⟩
 exact ⟨nr, h1, o.lt, hany _ hcr, fun j l ⟨z, hz⟩ => hgo j l ⟨z, hz.congr fun row hr z hz => (hcr row hr z hz).symm⟩, hany _ h6, fun j l ⟨z, hz⟩ => hgo j l ⟨z, hz.congr fun row hr z hz => (h6 row hr z hz).symm⟩⟩
set_option maxRecDepth 100000 in
set_option maxHeartbeats 16000000 in
theorem l02First_yes {t a : Int} {ac : List (List Bool)} {nx : List (List (List Int))} {s u : Option Addr} {c d b o N : Nat} {w0 : World} (h : AutAt w0 b o t a ac nx s u c d) (hok : AutOk t a ac nx) (hN : fiN ac nx = (N : Int)) :
    Calls Try.prog 77 #[.pointer (some ⟨b, o, none⟩)] w0 fun f w' => ∃ s c s' c', f = .returned (.tuple #[.agg #[.slice s (N + 1) c, .slice s' N c'], .bool true]) ∧ Freshs w0 w' (wordD (fxA ac nx N) (fyW ac nx N N)) [.slice s (N + 1) c, .slice s' N c'] ∧ Below w0.heap.size w0 w' := by
  have hlv := far_live hok hok.lo
  have hN' : farV ac nx (ac.length - 1) 0 = (N : Int) := hN
  rw [decide_eq_true (by omega)] at hlv
  obtain ⟨ha1, ha2⟩ := farV_eq hN'
  have hNl := least_lt hok.targets hok.lo ha1 ha2
  have Hon := Lib.hid (fun k hk => OnW.all hok (OnW.start hok ha1 ha2) k hk)
  have hl0 := liveL_at (ac := ac) (nx := nx) (s := 0) hok.lo
  rw [hlv] at hl0
  have hll := liveL_len (ac := ac) (nx := nx)
  have hlo := hok.lo
  have hhi := hok.hi
  have Hok := Lib.hid hok
  have Ha1 := Lib.hid ha1
  have Ha2 := Lib.hid ha2
  clear hN hN' hlv hok ha1 ha2
  go_enter Try.func77, Try.ntmps77
  go_wp2_with fail
  obtain ⟨w1, e1, R, hb1, hz1⟩ := box2 w0 40 (.slice none 0 0) (.slice none 0 0)
  rw [e1]
  refine (l02Live_i (h.below hb1) Hok.out).mono ?_
  rintro f w2 ⟨g, rfl, hf, hb2⟩
  have hB := hb1.trans (hb2.mono (by omega))
  replace R := R.below hb2
  obtain ⟨-, q0⟩ := bool_in hf.rd hl0
  have Hh := Lib.hid h
  have HR := Lib.hid R
  have hzB := hB.size
  clear hf hb2 hb1 hl0 e1 R h
  go_wp2_with fail
  clear q0
  refine (l02Reach_i (n := 0) (Hh.out.below hB) Hok.out (by omega)).mono ?_
  rintro f w3 ⟨s3, c3, rfl, hf3, hb3⟩
  have HB3 := Lib.hid (hB.trans (hb3.mono hzB))
  have HR3 := Lib.hid (HR.out.below hb3)
  have Hrd3 := Lib.hid hf3.rd
  clear hf3 hb3 hB HR
  go_wp2_with fail
  go_loopw [5, 6] (fun i v wr => ∃ (k : Nat) (s3 : Option Addr) (c3 : Nat), k ≤ N ∧ i = .int .i64 k ∧ v = .slice s3 (k + 1) c3 ∧ Rd wr (nestD boolsD (rchL ac nx (k + 1))) (.slice s3 (k + 1) c3) ∧ Below w3.heap.size w3 wr) (fun i _ _ => N - (intOf i).toNat)
  case atStart => exact ⟨0, s3, c3, by omega, rfl, rfl, Hrd3.out, Below.refl _ _⟩
  case round =>
    clear Hrd3
    obtain ⟨k, s4, c4, hk, rfl, rfl, hrd, hbe⟩ := hrel
    obtain ⟨wo, rfl⟩ : ∃ v, v = wr := ⟨_, rfl⟩
    have hk0 := Int.natCast_nonneg k
    obtain ⟨pb, po, rfl⟩ := nest_some hrd (by rw [rchL_length]; omega)
    obtain ⟨hn1, hn2⟩ := nest_bd hrd
    rw [rchL_length] at hn1
    unfold maxLen at hn2
    obtain ⟨hpl, sp, cp, p0, rp⟩ := nest_sl (g := D.bool) hrd (rchL_at (ac := ac) (nx := nx) (show k < k + 1 by omega))
    obtain ⟨sp', so', rfl⟩ := nest_some (f := D.bool) rp (by rw [reachL_len]; omega)
    obtain ⟨hr1, hr2⟩ := nest_bd rp
    rw [reachL_len] at hr1
    unfold maxLen at hr2
    obtain ⟨-, y0⟩ := bool_in rp (reachL_at (ac := ac) (nx := nx) (n := k) hlo)
    have hlc := reachL_len (ac := ac) (nx := nx) k
    have Hrd := Lib.hid hrd
    have HBe := Lib.hid hbe
    have hze := hbe.size
    have hkb : (k : Int) < ((k + 1 : Nat) : Int) := by omega
    clear hrd rp hbe
    simp only [Nat.add_zero] at y0
    by_cases hkN : k < N
    · rw [Ha2.out k hkN] at y0
      have e1 : IntKind.i64.wrap ((k : Int) + 1) = ((k + 1 : Nat) : Int) := by rw [show (k : Int) + 1 = ((k + 1 : Nat) : Int) by omega]; exact wrap_of (by omega) (by omega)
      go_wp2_with fail
      refine (l02Reach_i (n := k + 1) ((Hh.out.below HB3.out).below HBe.out) Hok.out (by omega)).mono ?_
      rintro f w4 ⟨s5, c5, rfl, hf5, hb5⟩
      have Hfin := Lib.hid (And.intro hf5.rd (HBe.out.trans (hb5.mono hze)))
      clear hf5 hb5 y0 p0
      go_wp2_with fail
      go_roundw
      case rel => exact ⟨k + 1, s5, c5, by omega, by go_num, rfl, Hfin.out⟩
      case measure => simp [intOf]; omega
    · obtain rfl : k = N := by omega
      rw [Ha1.out] at y0
      have HB4 := Lib.hid (HB3.out.trans (HBe.out.mono (by have := HB3.out.size; omega)))
      have HR4 := Lib.hid (HR3.out.below HBe.out)
      have HA4 := Lib.hid (Hh.out.below HB4.out)
      go_wp2_with fail
      clear y0 p0
      have hWD := WdB.zero (B := wo.heap.size) (w := wo) (Nat.le_refl _)
      obtain ⟨w5, e5, -, hb5, hz5⟩ := box2 wo 40 (.slice none 0 0) (.slice none 0 0)
      rw [e5] at hWD ⊢
      have HAo := Lib.hid (Hh.out.below HB4.out)
      have Hfac := Lib.hid (fun m (hm : m < k) => fst_step Hok.out hm (Hon.out m (by omega)))
      have Hlast := Lib.hid (Hon.out k (Nat.le_refl _))
      have Hwb := Lib.hid hWD.box
      obtain ⟨wb, hwb⟩ : ∃ wb, wo.heap.size = wb := ⟨_, rfl⟩
      have hwb' := Lib.hid hwb
      rw [hwb] at hWD Hwb ⊢
      clear e5 Hon Ha1 Ha2 HB3 HR3 Hh hwb hze
      go_loopw [8, 9] (fun v i wr => ∃ (m : Nat) (va vb : Value), m ≤ k ∧ v = .int .i64 (stW ac nx k m) ∧ i = .int .i64 ((k - m : Nat) : Int) ∧ WdB wb wr wb (fxW ac nx k m) (fyW ac nx k m) va vb ∧ Below wo.heap.size wo wr) (fun _ i _ => (intOf i).toNat)
      case atStart => exact ⟨0, _, _, by omega, rfl, rfl, hWD, hb5⟩
      case round =>
        clear hWD hb5
        obtain ⟨m, va, vb, hm, rfl, rfl, hwd, hbe⟩ := hrel
        obtain ⟨wp, rfl⟩ : ∃ v, v = wr := ⟨_, rfl⟩
        have hm0 := Int.natCast_nonneg m
        have hzp := hbe.size
        have HWD := Lib.hid hwd
        have HBp := Lib.hid hbe
        obtain ⟨a1, ca1, rfl, hca1, hca2⟩ := hwd.shapeA
        obtain ⟨a2, ca2, rfl, hcb1, hcb2⟩ := hwd.shapeB
        rw [fxW_len] at hca1
        rw [fyW_len] at hcb1
        unfold maxLen at hca2 hcb2
        simp only [fxW_len, fyW_len] at *
        by_cases hmk : m < k
        rotate_left
        · obtain rfl : m = k := by omega
          have e0 : ((m - m : Nat) : Int) = 0 := by omega
          rw [e0]
          have hacc := Hlast.out.acc
          rw [Nat.sub_self] at hacc
          obtain ⟨ar, har⟩ : ∃ e, ac[stW ac nx m m]? = some e := ⟨_, List.getElem?_eq_getElem Hlast.out.lt⟩
          obtain ⟨l1, l2, l3⟩ := last_atom har hacc
          obtain ⟨L, hL⟩ : ∃ L, laW ac (stW ac nx m m) = L := ⟨_, rfl⟩
          have HL : Hid (fxA ac nx m = fxW ac nx m m ++ [(L : Int)]) := by show _ = _; unfold fxA; rw [hL]
          rw [hL] at l1 l2 l3
          have hAA := HAo.out
          obtain ⟨hlen', hcap'⟩ := nest_bd hAA.2.2.2.2.1
          unfold maxLen at hcap'
          obtain ⟨ub, uo, rfl⟩ := nest_some (f := boolsD) hAA.2.2.2.2.1 (by omega)
          obtain ⟨hul, sn, cn, b0, rb⟩ := nest_sl (g := D.bool) hAA.2.2.2.2.1 har
          obtain ⟨rb1, rb2⟩ := nest_bd rb
          unfold maxLen at rb2
          have hs0 := Int.natCast_nonneg (stW ac nx m m)
          have hsb : (stW ac nx m m : Int) < (ac.length : Int) := by have := Hlast.out.lt; omega
          have har8 := Hok.out.acc_row har
          obtain ⟨ht1, ht8⟩ := atomsN_bd t
          have HL2 := Lib.hid l2
          have HL3 := Lib.hid l3
          have Hb0 := Lib.hid b0
          have Hrb := Lib.hid rb
          clear hwd hbe b0 rb hacc hAA l2 l3 hL har
          go_wp2_with fail
          go_loopw [12] (fun i wr => ∃ j : Nat, i = .int .i64 j ∧ j ≤ L ∧ wr = wp) (fun i _ => L - (intOf i).toNat)
          case atStart => exact ⟨0, rfl, by omega, rfl⟩
          case round =>
            obtain ⟨j, rfl, hj, rfl⟩ := hrel
            have hj0 := Int.natCast_nonneg j
            have hjb : (j : Int) < (ar.length : Int) := by omega
            obtain ⟨rb', ro, rfl⟩ := nest_some (f := D.bool) Hrb.out (by omega)
            have b0 := (HBp.out.cell (p := ⟨ub, uo + stW ac nx m m, none⟩) hul).trans Hb0.out
            obtain ⟨c0, c1', c2', c3', -, -⟩ := HAo.out.below HBp.out
            by_cases hjL : j < L
            · obtain ⟨-, y0⟩ := bool_in (Hrb.out.below HBp.out) (HL3.out j hjL)
              go_wp2_with fail
              go_roundw
              case rel => exact ⟨j + 1, by go_num, by omega, trivial⟩
              case measure => simp [intOf]; omega
            obtain rfl : j = L := by omega
            obtain ⟨-, y0⟩ := bool_in (Hrb.out.below HBp.out) HL2.out
            have hBn : Bun wb wr [.app 2 1 m ((fxW ac nx m m).map D.int) (.slice a1 m ca1), .box wb 40 [.slice a1 m ca1, .slice a2 m ca2], .app 2 1 m ((fyW ac nx m m).map D.int) (.slice a2 m ca2)] := by
              have := HWD.out
              unfold WdB at this
              rw [fxW_len, fyW_len] at this
              exact this
            have hBu := hBn.alloc (.cells #[.int .i64 j] 2)
            have hNb := Blk.new1 wr 2 (.int .i64 j)
            obtain ⟨x0, x1, ltx⟩ := (hBn.box 1 rfl).1.all2
            have hm50 : m ≤ 60 := by omega
            have hwb6 : wb ≤ wr.heap.size := by have := hwb'.out; omega
            have hR := HR4.out.below HBp.out
            have hRl := HR4.out.lt
            have hRw : w0.heap.size < wb := by have := hwb'.out; omega
            clear hBn
            go_wp2_with (first
              | (at_builtin; go_must (refine wpList_append_bun _ rfl _ _ 27 rfl 2 (.int .i64 0) 1 8 Try.underlying27 info_int64 rfl (by decide) hBu (by simp <;> omega) 0 _ rfl rfl ⟨wr.heap.size, 0, none⟩ 1 1 [.int .i64 j] rfl (news_blk hNb) (int_own _ _) rfl (by simp [Value.oneCell']) (by omega) (by omega) (by unfold maxLen; omega) ?_); intro g7 cap7 w7 hbun7 hb7
                 have hs7 := hbun7.store 1 rfl 0 (.slice (some ⟨g7, 0, none⟩) (m + 1) cap7)
                 obtain ⟨y0, y1, lty⟩ := (hbun7.box 1 rfl).1.all2
                 have yf := (hbun7.box 1 rfl).1.frozen 0
                 obtain ⟨s0, s1, lts⟩ := (hs7.box 1 rfl).1.all2
                 have hb7s : Below wb wr (w7.setCell ⟨wb, 0, none⟩ (.slice (some ⟨g7, 0, none⟩) (m + 1) cap7)) := Below.setCell (p := ⟨wb, 0, none⟩) ((Below.alloc (Below.refl wb wr) hwb6 (.cells #[.int .i64 j] 2)).trans hb7) (Nat.le_refl _) _
                 have hz7 := hb7s.size
                 have hR7 := hR.keep (hb7s.block _ hRw)
                 obtain ⟨r0, r1, rl⟩ := hR7.all2
                 have rf0 := hR7.frozen 0
                 have rf1 := hR7.frozen 1))
            have K1 := (hR7.set 0 (.slice (some ⟨g7, 0, none⟩) (m + 1) cap7)).set 1 (.slice a2 m ca2)
            have k0 := K1.c0
            have k1 := K1.c1
            have HW7 : WdB wb (w7.setCell ⟨wb, 0, none⟩ (.slice (some ⟨g7, 0, none⟩) (m + 1) cap7)) wb (fxA ac nx m) (fyW ac nx m m) (.slice (some ⟨g7, 0, none⟩) (m + 1) cap7) (.slice a2 m ca2) := by
              unfold WdB
              rw [HL.out, List.length_append, fxW_len, fyW_len, List.map_append]
              exact hs7
            refine bodyPost_ret (v := .tuple #[.agg #[.slice (some ⟨g7, 0, none⟩) (m + 1) cap7, .slice a2 m ca2], .bool true]) (by simp [results, Try.results77, go_sem, k0, k1]) rfl ?_
            have hB7 := ((HB4.out.trans (HBp.out.mono (by have := HB4.out.size; omega))).trans (hb7s.mono (by omega)))
            have hwo := hwb'.out
            have hwo2 := HB4.out.size
            refine ⟨_, _, _, _, rfl, ((HW7.freshs (W := wo) (by omega)).keep fun b h1 h2 => ?_).from hwo2, Below.setCell (Below.setCell hB7 (by simp) _) (by simp) _⟩
            rw [Below.heap_setCell _ _ _ _ (by show b ≠ w0.heap.size; omega), Below.heap_setCell _ _ _ _ (by show b ≠ w0.heap.size; omega)]
        obtain ⟨nr, hnr, hsl, hany, hch, -, -⟩ := Hfac.out m hmk
        obtain ⟨q, hq⟩ : ∃ q, k - m - 1 = q := ⟨_, rfl⟩
        rw [hq] at hany hch
        have e1 : IntKind.i64.wrap (((k - m : Nat) : Int) - 1) = (q : Int) := by rw [show ((k - m : Nat) : Int) - 1 = (q : Int) by omega]; exact wrap_of (by omega) (by omega)
        have hpos : (0 : Int) < ((k - m : Nat) : Int) := by omega
        have hq0 := Int.natCast_nonneg q
        have hqk : (q : Int) < ((k + 1 : Nat) : Int) := by omega
        obtain ⟨hpl2, sq, cq, p0, rq⟩ := nest_sl (g := D.bool) Hrd.out (rchL_at (ac := ac) (nx := nx) (show q < k + 1 by omega))
        replace p0 := (hbe.cell (p := ⟨pb, po + q, none⟩) hpl2).trans p0
        have hs0 := Int.natCast_nonneg (stW ac nx k m)
        have Hch := Lib.hid hch
        have Hany := Lib.hid hany
        have Hnr := Lib.hid hnr
        have Hrq := Lib.hid (rq.below hbe)
        clear hwd hbe hany hch hnr rq
        go_wp2_with fail
        refine (l02Choice_i (HAo.out.below HBp.out) Hok.out Hrq.out (reachL_len q) hsl Hnr.out Hany.out).mono ?_
        rintro f w6 ⟨j, l, rfl, hz, hb6⟩
        obtain ⟨⟨row, hrow, hcell⟩, hfx, hfy⟩ := Hch.out j l hz
        have HW6 := Lib.hid (HWD.out.below hb6)
        have HB6 := Lib.hid (HBp.out.trans (hb6.mono hzp))
        have hz6 := HB6.out.size
        have hnl := Hok.out.len
        have hAA := HAo.out
        obtain ⟨hlen', hcap'⟩ := nest_bd hAA.2.2.2.2.2
        unfold maxLen at hcap'
        obtain ⟨ub, uo, rfl⟩ := nest_some (f := iiD) hAA.2.2.2.2.2 (by omega)
        obtain ⟨hul, sn, cn, b0, rb⟩ := nest_sl (g := intsD) hAA.2.2.2.2.2 Hnr.out
        obtain ⟨rb1, rb2⟩ := nest_bd rb
        unfold maxLen at rb2
        have hjl := (List.getElem?_eq_some_iff.1 hrow).1
        obtain ⟨vb', vo, rfl⟩ := nest_some (f := intsD) rb (by omega)
        obtain ⟨hvl, sr, cr, r0, rr⟩ := nest_sl (g := D.int) rb hrow
        obtain ⟨rr1, rr2⟩ := nest_bd rr
        unfold maxLen at rr2
        have hll2 := (List.getElem?_eq_some_iff.1 hcell).1
        obtain ⟨tb, to', rfl⟩ := nest_some (f := D.int) rr (by omega)
        obtain ⟨htl, q0⟩ := int_in rr hcell
        have hj0 := Int.natCast_nonneg j
        have hl0' := Int.natCast_nonneg l
        have hjb : (j : Int) < (nr.length : Int) := by omega
        have hlb : (l : Int) < (row.length : Int) := by omega
        have hsb : (stW ac nx k m : Int) < (nx.length : Int) := by omega
        have HU : Hid (∀ W, Below wo.heap.size wo W → W.cell? ⟨ub, uo + stW ac nx k m, none⟩ = some (.slice (some ⟨vb', vo, none⟩) nr.length cn) ∧ W.cell? ⟨vb', vo + j, none⟩ = some (.slice (some ⟨tb, to', none⟩) row.length cr) ∧ W.cell? ⟨tb, to' + l, none⟩ = some (.int .i64 (stW ac nx k (m + 1))) ∧ AutAt W b o t a ac nx s (some ⟨ub, uo, none⟩) c d) :=
          fun W hW => ⟨(hW.cell (p := ⟨ub, uo + stW ac nx k m, none⟩) hul).trans b0, (hW.cell (p := ⟨vb', vo + j, none⟩) hvl).trans r0, (hW.cell (p := ⟨tb, to' + l, none⟩) htl).trans q0, HAo.out.below hW⟩
        have hBn : Bun wb w6 [.app 2 1 m ((fxW ac nx k m).map D.int) (.slice a1 m ca1), .box wb 40 [.slice a1 m ca1, .slice a2 m ca2], .app 2 1 m ((fyW ac nx k m).map D.int) (.slice a2 m ca2)] := by
          have := HW6.out
          unfold WdB at this
          rw [fxW_len, fyW_len] at this
          exact this
        have hBu := hBn.alloc (.cells #[.int .i64 j] 2)
        have hNb := Blk.new1 w6 2 (.int .i64 j)
        obtain ⟨x0, x1, ltx⟩ := (hBn.box 1 rfl).1.all2
        have hm50 : m ≤ 60 := by omega
        have hwb6 : wb ≤ w6.heap.size := by have := hwb'.out; omega
        clear b0 r0 q0 rb rr hrow hcell p0 hAA hBn hb6 hz
        go_wp2_with (first
          | (at_builtin; (refine wpList_append_bun _ rfl _ _ 27 rfl 2 (.int .i64 0) 1 8 Try.underlying27 info_int64 rfl (by decide) hBu (by simp <;> omega) 0 _ rfl rfl ⟨w6.heap.size, 0, none⟩ 1 1 [.int .i64 j] rfl (news_blk hNb) (int_own _ _) rfl (by simp [Value.oneCell']) (by omega) (by omega) (by unfold maxLen; omega) ?_); intro g7 cap7 w7 hbun7 hb7
             have hs7 := hbun7.store 1 rfl 0 (.slice (some ⟨g7, 0, none⟩) (m + 1) cap7)
             obtain ⟨y0, y1, lty⟩ := (hbun7.box 1 rfl).1.all2
             have yf := (hbun7.box 1 rfl).1.frozen 0
             obtain ⟨s0, s1, lts⟩ := (hs7.box 1 rfl).1.all2
             have hBu8 := hs7.alloc (.cells #[.int .i64 l] 2)
             have hNb8 := Blk.new1 (w7.setCell ⟨wb, 0, none⟩ (.slice (some ⟨g7, 0, none⟩) (m + 1) cap7)) 2 (.int .i64 l)
             rw [World.size_setCell] at hNb8
             have hb7s : Below wb w6 (w7.setCell ⟨wb, 0, none⟩ (.slice (some ⟨g7, 0, none⟩) (m + 1) cap7)) := Below.setCell (p := ⟨wb, 0, none⟩) ((Below.alloc (Below.refl wb w6) hwb6 (.cells #[.int .i64 j] 2)).trans hb7) (Nat.le_refl _) _
             have hz7 := hb7s.size)
          | (at_builtin; go_must (refine wpList_append_bun _ rfl _ _ 27 rfl 2 (.int .i64 0) 1 8 Try.underlying27 info_int64 rfl (by decide) hBu8 (by simp <;> omega) 2 _ rfl rfl ⟨w7.heap.size, 0, none⟩ 1 1 [.int .i64 l] rfl (news_blk hNb8) (int_own _ _) rfl (by simp [Value.oneCell']) (by omega) (by omega) (by unfold maxLen; omega) ?_); intro g9 cap9 w9 hbun9 hb9
             have hs9 := hbun9.store 1 rfl 1 (.slice (some ⟨g9, 0, none⟩) (m + 1) cap9)
             obtain ⟨t0, t1, ltt⟩ := (hbun9.box 1 rfl).1.all2
             have tf := (hbun9.box 1 rfl).1.frozen 1
             have hbe9 : Below wb wo (w9.setCell ⟨wb, 1, none⟩ (.slice (some ⟨g9, 0, none⟩) (m + 1) cap9)) := Below.setCell (p := ⟨wb, 1, none⟩) ((((HB6.out.mono (by have := hwb'.out; omega)).trans hb7s).alloc (by omega) (.cells #[.int .i64 l] 2)).trans hb9) (Nat.le_refl _) _
             obtain ⟨u0, u1, u2, hAW⟩ := HU.out _ (hbe9.mono (by have := hwb'.out; omega))
             obtain ⟨c0, c1', c2', c3', -, -⟩ := hAW))
        have eq1 : q = k - (m + 1) := by omega
        have HFin : Hid (WdB wb (w9.setCell ⟨wb, 1, none⟩ (.slice (some ⟨g9, 0, none⟩) (m + 1) cap9)) wb (fxW ac nx k (m + 1)) (fyW ac nx k (m + 1)) (.slice (some ⟨g7, 0, none⟩) (m + 1) cap7) (.slice (some ⟨g9, 0, none⟩) (m + 1) cap9)) := by
          show WdB _ _ _ _ _ _ _
          unfold WdB
          rw [hfx, hfy, List.length_append, List.length_append, fxW_len, fyW_len, List.map_append, List.map_append]
          exact hs9
        have HBe9 := Lib.hid (hbe9.mono (show wo.heap.size ≤ wb by have := hwb'.out; omega))
        clear hs9 hbe9 hb7s hBu8 hNb8 hbun9 hb9 hs7 hbun7 hb7 hBu hNb
        go_roundw
        case rel => exact ⟨m + 1, _, _, by omega, rfl, by rw [eq1], HFin.out, HBe9.out⟩
        case measure => simp [intOf]; omega
end Go.Proofs.Ytbflhjjnemdecaa
