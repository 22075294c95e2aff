/-
  Parts of a proof, joined: Mem, Valid, LiveP, AutU, Arr, FarP, CountF, Far. No condition.
-/
import Derived.Test.YtjlmdhoajfdkbaaGreatDoorPk28
namespace Go.Proofs.YtjlmdhoajfdkbaaGreatDoor
set_option linter.unusedVariables false
set_option linter.unusedSimpArgs false
open Go.ChangeShapes Go.WideShapes Go.ChangeAt Go.RowKit Go.Deep
theorem Blk.other {w : World} {g t : Nat} {cur : List Value} (h : Blk w g t cur) {p : Addr} (hp : g ≠ p.block) (u : Value) : Blk (w.setCell p u) g t cur := h.keep (Below.heap_setCell _ _ _ _ hp)
theorem box1 (w : World) (t : TypeId) (a : Value) : ∃ w', w.alloc (.cells #[a] t) = w' ∧ Blk w' w.heap.size t [a] ∧ Below w.heap.size w w' ∧ w'.heap.size = w.heap.size + 1 :=
 ⟨_, rfl, Blk.new1 w t a, Below.alloc (Below.refl _ _) (Nat.le_refl _) _, by simp⟩
theorem Freshs.on {w w' w'' : World} {ds : List D} {vs : List Value} (h : Freshs w w' ds vs) (hb : Below w'.heap.size w' w'') : Freshs w w'' ds vs :=
 h.keep fun b _ hm => hb.block b hm
section
variable {H : Type} {enc : TypeId × Value → H} {P : Program} {w : World} {base : Nat} {sp : Nat → Bool} {hd : Bool}
end
end Go.Proofs.YtjlmdhoajfdkbaaGreatDoor

namespace Go.Proofs.YtjlmdhoajfdkbaaGreatDoor
set_option linter.unusedVariables false
set_option linter.unusedSimpArgs false
open Go.ChangeShapes Go.WideShapes Go.ChangeAt Go.RowKit Go.Sort
def AutAt (w : World) (b o : Nat) (t a : Int) (ac : List (List Bool)) (nx : List (List (List Int))) (s u : Option Addr) (c d : Nat) : Prop :=
 w.cell? ⟨b, o, none⟩ = some (.int .i64 t) ∧ w.cell? ⟨b, o + 1, none⟩ = some (.int .i64 a) ∧ w.cell? ⟨b, o + 2, none⟩ = some (.slice s ac.length c) ∧ w.cell? ⟨b, o + 3, none⟩ = some (.slice u nx.length d) ∧
  Rd w (bbD ac) (.slice s ac.length c) ∧ Rd w (iiiD nx) (.slice u nx.length d)
theorem AutAt.lt {w : World} {b o : Nat} {t a : Int} {ac : List (List Bool)} {nx : List (List (List Int))} {s u : Option Addr} {c d : Nat} (h : AutAt w b o t a ac nx s u c d) : b < w.heap.size := World.block_lt_of_cell? w _ h.1
theorem AutAt.below {w w' : World} {b o : Nat} {t a : Int} {ac : List (List Bool)} {nx : List (List (List Int))} {s u : Option Addr} {c d : Nat} (h : AutAt w b o t a ac nx s u c d) (hb : Below w.heap.size w w') : AutAt w' b o t a ac nx s u c d := by
 have hl := h.lt
 obtain ⟨h0, h1, h2, h3, h4, h5⟩ := h
 exact ⟨(hb.cell (p := ⟨b, o, none⟩) hl).trans h0, (hb.cell (p := ⟨b, o + 1, none⟩) hl).trans h1, (hb.cell (p := ⟨b, o + 2, none⟩) hl).trans h2, (hb.cell (p := ⟨b, o + 3, none⟩) hl).trans h3, h4.below hb, h5.below hb⟩
end Go.Proofs.YtjlmdhoajfdkbaaGreatDoor

namespace Go.Proofs.YtjlmdhoajfdkbaaGreatDoor
set_option linter.unusedVariables false
set_option linter.unusedSimpArgs false
open Go.ChangeShapes Go.WideShapes Go.ChangeAt Go.RowKit Go.Deep
def hitR (P : Nat → Bool) (row : List Int) : Bool := row.any fun z => decide (0 ≤ z) && P z.toNat
def accW (ac : List (List Bool)) (nx : List (List (List Int))) : Nat → Nat → Bool
 | 0 => fun s => (ac.getD s []).any id
 | n + 1 => fun s => (nx.getD s []).any (hitR (accW ac nx n))
def farV (ac : List (List Bool)) (nx : List (List (List Int))) : Nat → Nat → Int
 | 0 => fun s => if accW ac nx 0 s then 0 else -1
 | n + 1 => fun s => if 0 ≤ farV ac nx n s then farV ac nx n s else if accW ac nx (n + 1) s then ((n + 1 : Nat) : Int) else -1
def farL (ac : List (List Bool)) (nx : List (List (List Int))) (n : Nat) : List Int := (List.range ac.length).map (farV ac nx n)
def Live (ac : List (List Bool)) (nx : List (List (List Int))) (s : Nat) : Prop := ∃ n, accW ac nx n s = true
noncomputable def liveB (ac : List (List Bool)) (nx : List (List (List Int))) (s : Nat) : Bool := @decide (Live ac nx s) (Classical.propDecidable _)
noncomputable def liveL (ac : List (List Bool)) (nx : List (List (List Int))) : List Bool := (List.range ac.length).map (liveB ac nx)
section
variable {ac : List (List Bool)} {nx : List (List (List Int))}
theorem liveB_true {s : Nat} : liveB ac nx s = true ↔ Live ac nx s := by unfold liveB; exact @decide_eq_true_iff _ (Classical.propDecidable _)
theorem farL_len (n : Nat) : (farL ac nx n).length = ac.length := by simp [farL]
theorem liveL_len : (liveL ac nx).length = ac.length := by simp [liveL]
theorem farL_at {n s : Nat} (h : s < ac.length) : (farL ac nx n)[s]? = some (farV ac nx n s) := by simp [farL, h]
theorem liveL_at {s : Nat} (h : s < ac.length) : (liveL ac nx)[s]? = some (liveB ac nx s) := by simp [liveL, h]
theorem hitR_true {P : Nat → Bool} {row : List Int} : hitR P row = true ↔ ∃ z ∈ row, 0 ≤ z ∧ P z.toNat = true := by
 simp only [hitR, List.any_eq_true, Bool.and_eq_true, decide_eq_true_eq]
theorem accW_succ {n s : Nat} : accW ac nx (n + 1) s = true ↔ ∃ row ∈ nx.getD s [], ∃ z ∈ row, 0 ≤ z ∧ accW ac nx n z.toNat = true := by
 show (nx.getD s []).any (hitR (accW ac nx n)) = true ↔ _
 simp only [List.any_eq_true, hitR_true]
theorem farV_bd : ∀ n s, -1 ≤ farV ac nx n s ∧ farV ac nx n s ≤ n
 | 0, s => by simp only [farV]; split <;> omega
 | n + 1, s => by
  have := farV_bd n s
  simp only [farV]
  split
  ·
   omega
  ·
   split <;> omega
theorem farV_spec : ∀ n s, (0 ≤ farV ac nx n s → ∃ m : Nat, m ≤ n ∧ farV ac nx n s = (m : Int) ∧ accW ac nx m s = true ∧ ∀ k, k < m → accW ac nx k s = false) ∧ (farV ac nx n s < 0 → ∀ m, m ≤ n → accW ac nx m s = false)
 | 0, s => by
  simp only [farV]
  by_cases h : accW ac nx 0 s = true
  ·
   rw [if_pos h]
   exact ⟨fun _ => ⟨0, Nat.le_refl _, rfl, h, fun k hk => by omega⟩, fun hn => by omega⟩
  ·
   rw [if_neg h]
   refine ⟨fun hn => by omega, fun _ m hm => ?_⟩
   obtain rfl : m = 0 := by omega
   simpa using h
 | n + 1, s => by
  obtain ⟨h1, h2⟩ := farV_spec n s
  simp only [farV]
  by_cases h : 0 ≤ farV ac nx n s
  ·
   rw [if_pos h]
   refine ⟨fun _ => ?_, fun hn => by omega⟩
   obtain ⟨m, hm, e, h3, h4⟩ := h1 h
   exact ⟨m, by omega, e, h3, h4⟩
  ·
   rw [if_neg h]
   have h3 := h2 (by omega)
   by_cases h4 : accW ac nx (n + 1) s = true
   ·
    rw [if_pos h4]
    exact ⟨fun _ => ⟨n + 1, Nat.le_refl _, rfl, h4, fun k hk => h3 k (by omega)⟩, fun hn => by omega⟩
   ·
    rw [if_neg h4]
    refine ⟨fun hn => by omega, fun _ m hm => ?_⟩
    by_cases he : m = n + 1
    ·
     rw [he]; simpa using h4
    ·
     exact h3 m (by omega)
theorem farV_eq {n s m : Nat} (h : farV ac nx n s = (m : Int)) : accW ac nx m s = true ∧ ∀ k, k < m → accW ac nx k s = false := by
 obtain ⟨m', _, e, h3, h4⟩ := (farV_spec (ac := ac) (nx := nx) n s).1 (by omega)
 obtain rfl : m' = m := by omega
 exact ⟨h3, h4⟩
theorem farV_of {n s m : Nat} (hm : m ≤ n) (h : accW ac nx m s = true) (hl : ∀ k, k < m → accW ac nx k s = false) : farV ac nx n s = (m : Int) := by
 rcases Int.lt_or_le (farV ac nx n s) 0 with hn | hn
 ·
  rw [(farV_spec n s).2 hn m hm] at h; cases h
 ·
  obtain ⟨m', _, e, h3, h4⟩ := (farV_spec n s).1 hn
  rcases Nat.lt_trichotomy m m' with hc | hc | hc
  ·
   rw [h4 m hc] at h; cases h
  ·
   rw [e, hc]
  ·
   rw [hl m' hc] at h3; cases h3
theorem Live.least {s : Nat} (h : Live ac nx s) : ∃ m, accW ac nx m s = true ∧ ∀ k, k < m → accW ac nx k s = false := by
 obtain ⟨n, hn⟩ := h
 rcases Int.lt_or_le (farV ac nx n s) 0 with h0 | h0
 ·
  rw [(farV_spec n s).2 h0 n (Nat.le_refl _)] at hn; cases hn
 ·
  obtain ⟨m, _, _, h3, h4⟩ := (farV_spec n s).1 h0
  exact ⟨m, h3, h4⟩
theorem farV_round {n s : Nat} (h : farV ac nx n s < 0) : farV ac nx (n + 1) s = if (nx.getD s []).any (hitR fun z => farV ac nx n z == (n : Int)) then ((n + 1 : Nat) : Int) else -1 := by
 have hlow := (farV_spec n s).2 h
 have he : accW ac nx (n + 1) s = (nx.getD s []).any (hitR fun z => farV ac nx n z == (n : Int)) := by
  rw [Bool.eq_iff_iff, accW_succ]
  simp only [List.any_eq_true, hitR_true, beq_iff_eq]
  constructor
  ·
   rintro ⟨row, hr, z, hz, h0, ha⟩
   refine ⟨row, hr, z, hz, h0, farV_of (Nat.le_refl _) ha fun k hk => ?_⟩
   cases hc : accW ac nx k z.toNat with
   | false => rfl
   | true =>
    have := hlow (k + 1) (by omega)
    rw [accW_succ.2 ⟨row, hr, z, hz, h0, hc⟩] at this
    cases this
  ·
   rintro ⟨row, hr, z, hz, h0, ha⟩
   exact ⟨row, hr, z, hz, h0, (farV_eq ha).1⟩
 simp only [farV]
 rw [if_neg (by omega), he]
theorem farV_stay {n s : Nat} (h : 0 ≤ farV ac nx n s) : farV ac nx (n + 1) s = farV ac nx n s := by simp only [farV]; rw [if_pos h]
theorem farV_mid {n s : Nat} : farV ac nx (n + 1) s = (n : Int) ↔ farV ac nx n s = (n : Int) := by
 by_cases h : 0 ≤ farV ac nx n s
 ·
  rw [farV_stay h]
 ·
  rw [farV_round (by omega)]
  split <;> omega
theorem least_down (h : ∀ s row z, row ∈ nx.getD s [] → z ∈ row → z < ac.length) : ∀ d s, s < ac.length → accW ac nx d s = true → (∀ k, k < d → accW ac nx k s = false) → ∀ k, k ≤ d → ∃ y, y < ac.length ∧ accW ac nx k y = true ∧ ∀ j, j < k → accW ac nx j y = false
 | 0, s, hs, ha, hl, k, hk => by
  obtain rfl : k = 0 := by omega
  exact ⟨s, hs, ha, hl⟩
 | d + 1, s, hs, ha, hl, k, hk => by
  by_cases he : k = d + 1
  ·
   subst he
   exact ⟨s, hs, ha, hl⟩
  ·
   obtain ⟨row, hr, z, hz, h0, hb⟩ := accW_succ.1 ha
   have hlt := h s row z hr hz
   refine least_down h d z.toNat (by omega) hb (fun j hj => ?_) k (by omega)
   cases hc : accW ac nx j z.toNat with
   | false => rfl
   | true =>
    have := hl (j + 1) (by omega)
    rw [accW_succ.2 ⟨row, hr, z, hz, h0, hc⟩] at this
    cases this
theorem pigeon : ∀ (n : Nat) (L : List Nat), L.Nodup → (∀ x ∈ L, x < n) → L.length ≤ n
 | 0, L, _, h => by
  cases L with
  | nil => simp
  | cons x r => have := h x (List.mem_cons_self ..); omega
 | n + 1, L, hd, h => by
  have h1 := pigeon n (L.erase n) (hd.erase n) fun x hx => by
   have h2 := h x (List.mem_of_mem_erase hx)
   have h3 := (List.Nodup.mem_erase_iff hd).1 hx
   omega
  rw [List.length_erase] at h1
  split at h1 <;> omega
theorem least_lt (h : ∀ s row z, row ∈ nx.getD s [] → z ∈ row → z < ac.length) {d s : Nat} (hs : s < ac.length) (ha : accW ac nx d s = true) (hl : ∀ k, k < d → accW ac nx k s = false) : d < ac.length := by
 have hd := least_down h d s hs ha hl
 have hc : ∀ k, ∃ y, k ≤ d → y < ac.length ∧ accW ac nx k y = true ∧ ∀ j, j < k → accW ac nx j y = false := fun k => by
  by_cases hk : k ≤ d
  ·
   obtain ⟨y, hy⟩ := hd k hk
   exact ⟨y, fun _ => hy⟩
  ·
   exact ⟨0, fun h => absurd h hk⟩
 obtain ⟨g, hg⟩ := Classical.axiomOfChoice hc
 have hp := pigeon ac.length ((List.range (d + 1)).map g) ?_ ?_
 ·
  simp at hp; omega
 ·
  rw [List.nodup_iff_pairwise_ne, List.pairwise_map]
  refine List.Pairwise.imp_of_mem ?_ (List.nodup_iff_pairwise_ne.1 List.nodup_range)
  intro i j hi hj hne e
  rw [List.mem_range] at hi hj
  obtain ⟨-, i1, i2⟩ := hg i (by omega)
  obtain ⟨-, j1, j2⟩ := hg j (by omega)
  rw [e] at i1 i2
  rcases Nat.lt_trichotomy i j with hc | hc | hc
  ·
   rw [j2 i hc] at i1; cases i1
  ·
   exact hne hc
  ·
   rw [i2 j hc] at j1; cases j1
 ·
  intro x hx
  obtain ⟨k, hk, rfl⟩ := List.mem_map.1 hx
  rw [List.mem_range] at hk
  exact (hg k (by omega)).1
end
theorem AutOk.targets {t a : Int} {ac : List (List Bool)} {nx : List (List (List Int))} (h : AutOk t a ac nx) : ∀ s row z, row ∈ nx.getD s [] → z ∈ row → z < ac.length := by
 intro s row z hr hz
 rw [List.getD_eq_getElem?_getD] at hr
 cases hs : nx[s]? with
 | none => rw [hs] at hr; simp at hr
 | some nr =>
  rw [hs] at hr
  obtain ⟨j, hj⟩ := List.mem_iff_getElem?.1 (show row ∈ nr from hr)
  obtain ⟨l, hl⟩ := List.mem_iff_getElem?.1 hz
  have := (((h.row hs).2 j row hj).2 l z hl).2
  omega
theorem far_live {t a : Int} {ac : List (List Bool)} {nx : List (List (List Int))} (h : AutOk t a ac nx) {s : Nat} (hs : s < ac.length) : liveB ac nx s = decide (0 ≤ farV ac nx (ac.length - 1) s) := by
 rw [Bool.eq_iff_iff, liveB_true, decide_eq_true_eq]
 constructor
 ·
  intro hl
  obtain ⟨m, h1, h2⟩ := hl.least
  have := least_lt h.targets hs h1 h2
  rw [farV_of (show m ≤ ac.length - 1 by omega) h1 h2]
  omega
 ·
  intro h0
  obtain ⟨m, _, _, h3, _⟩ := (farV_spec (ac.length - 1) s).1 h0
  exact ⟨m, h3⟩
end Go.Proofs.YtjlmdhoajfdkbaaGreatDoor

namespace Go.Proofs.YtjlmdhoajfdkbaaGreatDoor
set_option linter.unusedVariables false
set_option linter.unusedSimpArgs false
open Go.ChangeShapes Go.WideShapes Go.ChangeAt Go.RowKit Go.Deep
def AuPost (t a : Int) (e : Ex) (w : World) (f : Ending) (w' : World) : Prop := ∃ s c u d, f = .returned (.tuple #[.agg #[.int .i64 (auT t a e), .int .i64 (auN t a e), .slice s (auA t a e).length c, .slice u (auX t a e).length d], .int .i64 (auC t a e)]) ∧
 Freshs w w' (autD (auA t a e) (auX t a e)) [.slice s (auA t a e).length c, .slice u (auX t a e).length d] ∧ Below w.heap.size w w'
theorem AuPost.yes {t a : Int} {e : Ex} {w w' : World} {f : Ending} (h : AuPost t a e w f w') (hc : auC t a e = 0) : ∃ s c u d, f = .returned (.tuple #[.agg #[.int .i64 t, .int .i64 a, .slice s (auA t a e).length c, .slice u (auX t a e).length d], .int .i64 0]) ∧
  Freshs w w' (autD (auA t a e) (auX t a e)) [.slice s (auA t a e).length c, .slice u (auX t a e).length d] ∧ Below w.heap.size w w' := by
 obtain ⟨s, c, u, d, rfl, h1, h2⟩ := h
 obtain ⟨-, e1, e2, -⟩ := au_ok hc
 exact ⟨s, c, u, d, by rw [e1, e2, hc], h1, h2⟩
theorem AuPost.no {t a : Int} {e : Ex} {w w' : World} {f : Ending} (h : AuPost t a e w f w') : ∃ (t' a' : Int) (s u : Option Addr) (l c m d : Nat), f = .returned (.tuple #[.agg #[.int .i64 t', .int .i64 a', .slice s l c, .slice u m d], .int .i64 (auC t a e)]) ∧ Below w.heap.size w w' := by
 obtain ⟨s, c, u, d, rfl, h1, h2⟩ := h
 exact ⟨_, _, _, _, _, _, _, _, rfl, h2⟩
theorem l02Made_au {t a : Int} {e : Ex} {b o : Nat} {w : World} (hok : okB t a e = true) (hx : ExAt w b o e) :
  Calls Tryz.prog 94 #[.agg #[.int .i64 t, .int .i64 a], .pointer (some ⟨b, o, none⟩)] w (AuPost t a e w) := by
 refine (l02Made_i hok hx).mono ?_
 rintro f w' ⟨s, c, u, d, rfl, h1, h2⟩
 obtain ⟨e1, e2, e3, e4, e5⟩ := au_yes hok
 unfold AuPost
 rw [e1, e2, e3, e4, e5]
 exact ⟨s, c, u, d, rfl, h1, h2⟩
theorem implAutomatonOf_au {t a k n : Int} {ks : List Ex} {s : Option Addr} {c : Nat} {w : World} (hr : Rd w (kidsD ks) (.slice s ks.length c)) (h1 : Ex.sizeL ks ≤ 1048576) :
  Calls Tryz.prog 52 #[.agg #[.int .i64 t, .int .i64 a], .agg #[.int .i64 k, .int .i64 n, .slice s ks.length c]] w (AuPost t a (.mk k n ks) w) := implAutomatonOf_i hr h1
set_option maxHeartbeats 4000000 in
theorem l03One_au {t a : Int} {e : Ex} {b o : Nat} {w : World} (hx : ExAt w b o e) (hsz : e.size ≤ 1073741824) :
  Calls Tryz.prog 97 #[.agg #[.int .i64 t, .int .i64 a], .pointer (some ⟨b, o, none⟩)] w (AuPost t a e w) := by
 have Hsz := Lib.hid hsz
 clear hsz
 go_enter Tryz.func97, Tryz.ntmps97
 go_wp2_with fail
 have L := (Blk.new2 w 33 (.int .i64 t) (.int .i64 a)).alloc (.cells #[.int .i64 0, .int .i64 0, .slice none 0 0, .slice none 0 0] 75)
 have R := Blk.new4 (w.alloc (.cells #[.int .i64 t, .int .i64 a] 33)) 75 (.int .i64 0) (.int .i64 0) (.slice none 0 0) (.slice none 0 0)
 simp at R
 have hB : Below w.heap.size w ((w.alloc (.cells #[.int .i64 t, .int .i64 a] 33)).alloc (.cells #[.int .i64 0, .int .i64 0, .slice none 0 0, .slice none 0 0] 75)) := by (repeat' first | exact Below.refl _ _ | assumption | apply Below.alloc | apply Below.drew | apply Below.setCell | omega | (simp; done) | (simp; omega))
 have hB0 := hB
 generalize ((w.alloc (.cells #[.int .i64 t, .int .i64 a] 33)).alloc (.cells #[.int .i64 0, .int .i64 0, .slice none 0 0, .slice none 0 0] 75)) = v0 at L R hB hB0 ⊢
 have l0 := L.c0
 have l1 := L.c1
 have r0 := R.c0
 have r1 := R.c1
 have r2 := R.c2
 have r3 := R.c3
 have ltL := L.lt
 have ltR := R.lt
 have zz0 := R.frozen 0
 have zz1 := R.frozen 1
 have zz2 := R.frozen 2
 have zz3 := R.frozen 3
 go_wp2_with fail
 refine (l01Ok_i (hx.below hB) Hsz.out).mono ?_
 rintro x w1 ⟨rfl, hb⟩
 clear l0 l1 r0 r1 r2 r3 ltL ltR zz0 zz1 zz2 zz3
 replace hB := Below.on hB hb hB.size
 replace L := L.below hb
 replace R := R.below hb
 clear hb
 have szW1 := hB.size
 have rlt1 := R.lt
 cases hs1 : okB t a e
 ·
  have l0 := L.c0
  have l1 := L.c1
  have ltL := L.lt
  have r0 := R.c0
  have zz0 := R.frozen 0
  have r1 := R.c1
  have zz1 := R.frozen 1
  have r2 := R.c2
  have zz2 := R.frozen 2
  have r3 := R.c3
  have zz3 := R.frozen 3
  have ltR := R.lt
  go_wp2_with fail
  have R' := ((((R.set 0 (.int .i64 0)).set 1 (.int .i64 0)).set 2 (.slice none 0 0)).set 3 (.slice none 0 0))
  have c0 := R'.c0
  have c1 := R'.c1
  have c2 := R'.c2
  have c3 := R'.c3
  refine bodyPost_ret (v := .tuple #[.agg #[.int .i64 0, .int .i64 0, .slice none 0 0, .slice none 0 0], .int .i64 1]) (by simp [results, Tryz.results97, go_sem, c0, c1, c2, c3]) rfl ?_
  obtain ⟨e1, e2, e3, e4, e5⟩ := au_no (t := t) (a := a) (e := e) (by simp [hs1])
  unfold AuPost
  rw [e1, e2, e3, e4, e5]
  exact ⟨none, 0, none, 0, rfl, nil_au, by (repeat' first | exact Below.refl _ _ | assumption | apply Below.alloc | apply Below.drew | apply Below.setCell | omega | (simp; done) | (simp; omega))⟩
 have Hs1 := Lib.hid hs1
 clear hs1
 have l0 := L.c0
 have l1 := L.c1
 have r0 := R.c0
 have r1 := R.c1
 have r2 := R.c2
 have r3 := R.c3
 have ltL := L.lt
 have ltR := R.lt
 have zz0 := R.frozen 0
 have zz1 := R.frozen 1
 have zz2 := R.frozen 2
 have zz3 := R.frozen 3
 go_wp2_with fail
 refine (l02Made_au Hs1.out (hx.below hB)).mono ?_
 rintro x w2 ⟨sb, cb, sd, cd, rfl, hf, hb⟩
 clear l0 l1 r0 r1 r2 r3 ltL ltR zz0 zz1 zz2 zz3
 replace hB := Below.on hB hb hB.size
 replace L := L.below hb
 replace R := R.below hb
 clear hb
 have szW2 := hB.size
 have rlt2 := R.lt
 have l0 := L.c0
 have l1 := L.c1
 have r0 := R.c0
 have r1 := R.c1
 have r2 := R.c2
 have r3 := R.c3
 have ltL := L.lt
 have ltR := R.lt
 have zz0 := R.frozen 0
 have zz1 := R.frozen 1
 have zz2 := R.frozen 2
 have zz3 := R.frozen 3
 go_wp2_with fail
 have R' := ((((R.set 0 (.int .i64 (auT t a e))).set 1 (.int .i64 (auN t a e))).set 2 (.slice sb (auA t a e).length cb)).set 3 (.slice sd (auX t a e).length cd))
 have c0 := R'.c0
 have c1 := R'.c1
 have c2 := R'.c2
 have c3 := R'.c3
 refine bodyPost_ret (v := .tuple #[.agg #[.int .i64 (auT t a e), .int .i64 (auN t a e), .slice sb (auA t a e).length cb, .slice sd (auX t a e).length cd], .int .i64 (auC t a e)]) (by simp [results, Tryz.results97, go_sem, c0, c1, c2, c3]) rfl ?_
 refine ⟨sb, cb, sd, cd, rfl, (hf.keep fun b hb1 hb2 => ?_).from szW1, by (repeat' first | exact Below.refl _ _ | assumption | apply Below.alloc | apply Below.drew | apply Below.setCell | omega | (simp; done) | (simp; omega))⟩
 repeat rw [Below.heap_setCell _ _ _ _ (by simp; omega)]
set_option maxHeartbeats 4000000 in
theorem oneAutomaton_au {t a k n : Int} {ks : List Ex} {s : Option Addr} {c : Nat} {w : World} (hr : Rd w (kidsD ks) (.slice s ks.length c)) (h1 : Ex.sizeL ks ≤ 1048576) :
  Calls Tryz.prog 99 #[.agg #[.int .i64 t, .int .i64 a], .agg #[.int .i64 k, .int .i64 n, .slice s ks.length c]] w (AuPost t a (.mk k n ks) w) := by
 have H1 := Lib.hid h1
 go_enter Tryz.func99, Tryz.ntmps99
 go_wp2_with fail
 have L := ((Blk.new2 w 33 (.int .i64 t) (.int .i64 a)).alloc (.cells #[.int .i64 k, .int .i64 n, .slice s ks.length c] 30)).alloc (.cells #[.int .i64 0, .int .i64 0, .slice none 0 0, .slice none 0 0] 75)
 have M := (Blk.new3 (w.alloc (.cells #[.int .i64 t, .int .i64 a] 33)) 30 (.int .i64 k) (.int .i64 n) (.slice s ks.length c)).alloc (.cells #[.int .i64 0, .int .i64 0, .slice none 0 0, .slice none 0 0] 75)
 simp at M
 have R := Blk.new4 ((w.alloc (.cells #[.int .i64 t, .int .i64 a] 33)).alloc (.cells #[.int .i64 k, .int .i64 n, .slice s ks.length c] 30)) 75 (.int .i64 0) (.int .i64 0) (.slice none 0 0) (.slice none 0 0)
 simp at R
 have hB : Below w.heap.size w (((w.alloc (.cells #[.int .i64 t, .int .i64 a] 33)).alloc (.cells #[.int .i64 k, .int .i64 n, .slice s ks.length c] 30)).alloc (.cells #[.int .i64 0, .int .i64 0, .slice none 0 0, .slice none 0 0] 75)) := by (repeat' first | exact Below.refl _ _ | assumption | apply Below.alloc | apply Below.drew | apply Below.setCell | omega | (simp; done) | (simp; omega))
 have hB0 := hB
 generalize (((w.alloc (.cells #[.int .i64 t, .int .i64 a] 33)).alloc (.cells #[.int .i64 k, .int .i64 n, .slice s ks.length c] 30)).alloc (.cells #[.int .i64 0, .int .i64 0, .slice none 0 0, .slice none 0 0] 75)) = v0 at L M R hB hB0 ⊢
 have l0 := L.c0
 have l1 := L.c1
 have m0 := M.c0
 have m1 := M.c1
 have m2 := M.c2
 have r0 := R.c0
 have r1 := R.c1
 have r2 := R.c2
 have r3 := R.c3
 have ltL := L.lt
 have ltM := M.lt
 have ltR := R.lt
 have zz0 := R.frozen 0
 have zz1 := R.frozen 1
 have zz2 := R.frozen 2
 have zz3 := R.frozen 3
 go_wp2_with fail
 have rlt0 := R.lt
 refine (implAutomatonOf_au (t := t) (a := a) (k := k) (n := n) (hr.below hB) H1.out).mono ?_
 rintro x w1 ⟨sb, cb, sd, cd, rfl, hf, hb⟩
 clear l0 l1 m0 m1 m2 r0 r1 r2 r3 ltL ltM ltR zz0 zz1 zz2 zz3
 replace hB := Below.on hB hb hB.size
 replace L := L.below hb
 replace M := M.below hb
 replace R := R.below hb
 clear hb
 have szW1 := hB.size
 have rlt1 := R.lt
 have l0 := L.c0
 have l1 := L.c1
 have m0 := M.c0
 have m1 := M.c1
 have m2 := M.c2
 have r0 := R.c0
 have r1 := R.c1
 have r2 := R.c2
 have r3 := R.c3
 have ltL := L.lt
 have ltM := M.lt
 have ltR := R.lt
 have zz0 := R.frozen 0
 have zz1 := R.frozen 1
 have zz2 := R.frozen 2
 have zz3 := R.frozen 3
 go_wp2_with fail
 have R' := ((((R.set 0 (.int .i64 (auT t a (.mk k n ks)))).set 1 (.int .i64 (auN t a (.mk k n ks)))).set 2 (.slice sb (auA t a (.mk k n ks)).length cb)).set 3 (.slice sd (auX t a (.mk k n ks)).length cd))
 have c0 := R'.c0
 have c1 := R'.c1
 have c2 := R'.c2
 have c3 := R'.c3
 refine bodyPost_ret (v := .tuple #[.agg #[.int .i64 (auT t a (.mk k n ks)), .int .i64 (auN t a (.mk k n ks)), .slice sb (auA t a (.mk k n ks)).length cb, .slice sd (auX t a (.mk k n ks)).length cd], .int .i64 (auC t a (.mk k n ks))]) (by simp [results, Tryz.results99, go_sem, c0, c1, c2, c3]) rfl ?_
 refine ⟨sb, cb, sd, cd, rfl, (hf.keep fun b hb1 hb2 => ?_).from hB0.size, by (repeat' first | exact Below.refl _ _ | assumption | apply Below.alloc | apply Below.drew | apply Below.setCell | omega | (simp; done) | (simp; omega))⟩
 repeat rw [Below.heap_setCell _ _ _ _ (by simp; omega)]
end Go.Proofs.YtjlmdhoajfdkbaaGreatDoor

namespace Go.Proofs.YtjlmdhoajfdkbaaGreatDoor
set_option linter.unusedVariables false
set_option linter.unusedSimpArgs false
open Go.ChangeShapes Go.WideShapes Go.ChangeAt Go.RowKit Go.Deep
theorem madeCells_one (z : Value) (n : Nat) : (madeCells #[z] n).toList = List.replicate n z := by
 apply List.ext_getElem
 ·
  simp [madeCells]
 ·
  intro i h1 h2
  simp [madeCells, Nat.mod_one]
theorem made_blk {w : World} {base t n g : Nat} {z : Value} {cs : Array Value} (hz : cs = #[z]) (h : w.ownsRow base t 1 (.slice (some ⟨g, 0, none⟩) n n) n (madeCells cs (n * 1)).toList) : Blk w g t (List.replicate n z) ∧ base ≤ g := by
 subst hz
 obtain ⟨h0, h⟩ := h
 rcases h with ⟨h, _⟩ | ⟨g', cap, cur, hv, hb, hg, _, _, hs, ht⟩
 ·
  cases h
 ·
  simp only [Value.slice.injEq, Option.some.injEq, Addr.mk.injEq, and_true, true_and] at hv
  obtain ⟨rfl, rfl⟩ := hv
  rw [madeCells_one, Nat.mul_one, List.take_of_length_le (by simp; omega)] at ht
  refine ⟨?_, hb⟩
  unfold Blk
  rw [hg, ← ht]
section
variable {α : Type} {f : α → Value} {w : World} {g t : Nat} {L : List α}
theorem arr_cell (h : Blk w g t (L.map f)) {i : Nat} {x : α} (hx : L[i]? = some x) : w.cell? ⟨g, i, none⟩ = some (f x) := by rw [h.cell, List.getElem?_map, hx]; rfl
theorem arr_set (h : Blk w g t (L.map f)) (i : Nat) (x : α) : Blk (w.setCell ⟨g, i, none⟩ (f x)) g t ((L.set i x).map f) := by
 rw [List.map_set]
 exact h.set i (f x)
theorem arr_fresh {W : World} {fd : α → D} (h : Blk w g t (L.map f)) (hW : W.heap.size ≤ g) (hf : ∀ x, Ow w (fd x) (f x) []) {n : Nat} (hn : L.length = n) (hm : n ≤ maxLen) : Fresh W w (nestD fd L) (.slice (some ⟨g, 0, none⟩) n n) := by
 subst hn
 have hows : Ows w (L.map fd) (L.map f) [] := by
  clear h hm
  induction L with
  | nil => exact Ows.nil
  | cons x r ih => exact Ows.cons (hf x) ih
 by_cases h0 : L.length = 0
 ·
  exact ⟨[], by simp only [nestD, Ow]; exact ⟨_, _, rfl, Nat.le_refl _, hm, by simp, by simp, Or.inl ⟨h0, trivial⟩⟩, by simp, by simp⟩
 ·
  refine ⟨[g], by simp only [nestD, Ow]; exact ⟨_, _, rfl, Nat.le_refl _, hm, by simp, by simp, Or.inr ⟨g, 0, L.map f, [], rfl, rfl, h.free, h.row (List.take_length ..), hows⟩⟩, by simp, by simp [hW]⟩
end
def FillL {α : Type} (z : α) (full : List α) (k : Nat) (L : List α) : Prop := L.length = full.length ∧ (∀ j, j < k → L[j]? = full[j]?) ∧ ∀ j, k ≤ j → j < full.length → L[j]? = some z
section
variable {α : Type} {z : α} {full L : List α} {k : Nat}
theorem FillL.start {n : Nat} (hn : full.length = n) : FillL z full 0 (List.replicate n z) := by
 subst hn
 exact ⟨by simp, fun j hj => by omega, fun j _ hj => by simp [hj]⟩
theorem FillL.step (h : FillL z full k L) {v : α} (hv : full[k]? = some v) : FillL z full (k + 1) (L.set k v) := by
 obtain ⟨h1, h2, h3⟩ := h
 have hk := (List.getElem?_eq_some_iff.1 hv).1
 refine ⟨by simpa using h1, fun j hj => ?_, fun j hj hl => ?_⟩
 ·
  by_cases hjk : k = j
  ·
   subst hjk
   rw [List.getElem?_set_self (by omega), hv]
  ·
   rw [List.getElem?_set_ne hjk]
   exact h2 j (by omega)
 ·
  rw [List.getElem?_set_ne (by omega)]
  exact h3 j (by omega) hl
theorem FillL.all (h : FillL z full full.length L) : L = full := by
 obtain ⟨h1, h2, h3⟩ := h
 apply List.ext_getElem?
 intro j
 by_cases hj : j < full.length
 ·
  exact h2 j hj
 ·
  rw [List.getElem?_eq_none (by omega), List.getElem?_eq_none (by omega)]
theorem set_zero_same {i : Nat} {x : α} (h : L[i]? = some x) : L.set i x = L := by
 obtain ⟨h1, h2⟩ := List.getElem?_eq_some_iff.1 h
 rw [← h2]
 exact List.set_getElem_self h1
theorem set_twice {i : Nat} {x y : α} : (L.set i x).set i y = L.set i y := List.set_set ..
theorem set_at {i : Nat} {x : α} (h : i < L.length) : (L.set i x)[i]? = some x := by rw [List.getElem?_set_self h]
end
end Go.Proofs.YtjlmdhoajfdkbaaGreatDoor

namespace Go.Proofs.YtjlmdhoajfdkbaaGreatDoor
set_option linter.unusedVariables false
set_option linter.unusedSimpArgs false
open Go.ChangeShapes Go.WideShapes Go.ChangeAt Go.RowKit Go.Deep
def IdxT (bs : List Bool) (r : Int) : Prop := (r = -1 ∧ ∀ j : Nat, j < bs.length → bs[j]? = some false) ∨ ∃ k : Nat, r = (k : Int) ∧ bs[k]? = some true ∧ ∀ j : Nat, j < k → bs[j]? = some false
theorem IdxT.any {bs : List Bool} {r : Int} (h : IdxT bs r) : decide (0 ≤ r) = bs.any id := by
 rcases h with ⟨rfl, h⟩ | ⟨k, rfl, h1, _⟩
 ·
  have : bs.any id = false := by
   cases hb : bs.any id with
   | false => rfl
   | true =>
    simp only [List.any_eq_true, id] at hb
    obtain ⟨x, hx, rfl⟩ := hb
    obtain ⟨j, hj⟩ := List.mem_iff_getElem?.1 hx
    rw [h j (List.getElem?_eq_some_iff.1 hj).1] at hj
    cases hj
  rw [this]
  decide
 ·
  have : bs.any id = true := by
   simp only [List.any_eq_true, id]
   exact ⟨true, List.mem_of_getElem? h1, rfl⟩
  rw [this]
  simp
def MidL (ac : List (List Bool)) (nx : List (List (List Int))) (m j : Nat) (L : List Int) : Prop := L.length = ac.length ∧ ∀ s, s < ac.length → L[s]? = some (if s < j then farV ac nx (m + 1) s else farV ac nx m s)
def midV (ac : List (List Bool)) (nx : List (List (List Int))) (m j : Nat) (nr : List (List Int)) (l : Nat) : Int :=
 if 0 ≤ farV ac nx m j then farV ac nx m j else if (nr.take l).any (hitR fun z => farV ac nx m z == (m : Int)) then ((m + 1 : Nat) : Int) else -1
section
variable {ac : List (List Bool)} {nx : List (List (List Int))} {m j : Nat} {L : List Int} {nr : List (List Int)}
theorem MidL.zero : MidL ac nx m 0 (farL ac nx m) := ⟨farL_len m, fun s hs => by rw [farL_at hs, if_neg (Nat.not_lt_zero _)]⟩
theorem MidL.all (h : MidL ac nx m ac.length L) : L = farL ac nx (m + 1) := by
 apply List.ext_getElem?
 intro s
 by_cases hs : s < ac.length
 ·
  rw [h.2 s hs, if_pos hs, farL_at hs]
 ·
  rw [List.getElem?_eq_none (by rw [h.1]; omega), List.getElem?_eq_none (by rw [farL_len]; omega)]
theorem MidL.step (h : MidL ac nx m j L) (hj : j < ac.length) : MidL ac nx m (j + 1) (L.set j (farV ac nx (m + 1) j)) := by
 refine ⟨by simpa using h.1, fun s hs => ?_⟩
 by_cases he : j = s
 ·
  subst he
  rw [List.getElem?_set_self (by rw [h.1]; exact hj), if_pos (Nat.lt_succ_self _)]
 ·
  rw [List.getElem?_set_ne he, h.2 s hs]
  by_cases h1 : s < j
  ·
   rw [if_pos h1, if_pos (by omega)]
  ·
   rw [if_neg h1, if_neg (by omega)]
theorem MidL.at (h : MidL ac nx m j L) (hj : j < ac.length) : L[j]? = some (farV ac nx m j) := by
 rw [h.2 j hj, if_neg (Nat.lt_irrefl _)]
theorem midV_zero : midV ac nx m j nr 0 = farV ac nx m j := by
 unfold midV
 by_cases h : 0 ≤ farV ac nx m j
 ·
  rw [if_pos h]
 ·
  rw [if_neg h]
  have := farV_bd (ac := ac) (nx := nx) m j
  simp
  omega
theorem midV_bd (hm : m ≤ 100) (l : Nat) : -1 ≤ midV ac nx m j nr l ∧ midV ac nx m j nr l ≤ 101 := by
 have := farV_bd (ac := ac) (nx := nx) m j
 unfold midV
 split
 ·
  omega
 ·
  split <;> omega
theorem midV_all (hn : nx[j]? = some nr) : midV ac nx m j nr nr.length = farV ac nx (m + 1) j := by
 unfold midV
 by_cases h : 0 ≤ farV ac nx m j
 ·
  rw [if_pos h, farV_stay h]
 ·
  rw [if_neg h, farV_round (by omega), List.take_length, List.getD_eq_getElem?_getD, hn]
  rfl
theorem midV_skip {l : Nat} (h : ¬ midV ac nx m j nr l < 0) : midV ac nx m j nr (l + 1) = midV ac nx m j nr l := by
 unfold midV at h ⊢
 by_cases h0 : 0 ≤ farV ac nx m j
 ·
  rw [if_pos h0, if_pos h0]
 ·
  rw [if_neg h0] at h ⊢
  rw [if_neg h0]
  by_cases hh : (nr.take l).any (hitR fun z => farV ac nx m z == (m : Int)) = true
  ·
   have : (nr.take (l + 1)).any (hitR fun z => farV ac nx m z == (m : Int)) = true := by
    rw [List.any_eq_true] at hh ⊢
    obtain ⟨x, hx, h1⟩ := hh
    exact ⟨x, (List.take_subset_take_left nr (Nat.le_succ l)) hx, h1⟩
   rw [if_pos hh, if_pos this]
  ·
   rw [if_neg hh] at h
   omega
theorem midV_step {l : Nat} {row : List Int} (h : midV ac nx m j nr l < 0) (hr : nr[l]? = some row) : midV ac nx m j nr (l + 1) = if hitR (fun z => farV ac nx m z == (m : Int)) row then ((m + 1 : Nat) : Int) else midV ac nx m j nr l := by
 obtain ⟨hl, rfl⟩ := List.getElem?_eq_some_iff.1 hr
 unfold midV at h ⊢
 by_cases h0 : 0 ≤ farV ac nx m j
 ·
  rw [if_pos h0] at h; omega
 ·
  rw [if_neg h0] at h ⊢
  rw [if_neg h0]
  by_cases hh : (nr.take l).any (hitR fun z => farV ac nx m z == (m : Int)) = true
  ·
   rw [if_pos hh] at h; omega
  ·
   rw [if_neg hh, List.take_succ_eq_append_getElem hl, List.any_append]
   simp only [Bool.not_eq_true] at hh
   rw [hh]
   simp
theorem MidL.hit (h : MidL ac nx m j L) (hj : j < ac.length) {l : Nat} (hv : midV ac nx m j nr l < 0) {row : List Int} (hz : ∀ z ∈ row, z < ac.length) :
  hitR (fun z => (L.set j (midV ac nx m j nr l)).getD z 0 == (m : Int)) row = hitR (fun z => farV ac nx m z == (m : Int)) row := by
 have hfar : farV ac nx m j < 0 := by
  unfold midV at hv
  by_cases h0 : 0 ≤ farV ac nx m j
  ·
   rw [if_pos h0] at hv; omega
  ·
   omega
 rw [Bool.eq_iff_iff, hitR_true, hitR_true]
 have key : ∀ z : Nat, z < ac.length → ((L.set j (midV ac nx m j nr l)).getD z 0 = (m : Int) ↔ farV ac nx m z = (m : Int)) := by
  intro z hzl
  rw [List.getD_eq_getElem?_getD]
  by_cases he : j = z
  ·
   subst he
   rw [List.getElem?_set_self (by rw [h.1]; exact hj)]
   simp only [Option.getD_some]
   omega
  ·
   rw [List.getElem?_set_ne he, h.2 z hzl]
   simp only [Option.getD_some]
   by_cases h1 : z < j
   ·
    rw [if_pos h1]; exact farV_mid
   ·
    rw [if_neg h1]
 constructor
 ·
  rintro ⟨z, hm, h0, h1⟩
  refine ⟨z, hm, h0, ?_⟩
  rw [beq_iff_eq] at h1 ⊢
  exact (key z.toNat (by have := hz z hm; omega)).1 h1
 ·
  rintro ⟨z, hm, h0, h1⟩
  refine ⟨z, hm, h0, ?_⟩
  rw [beq_iff_eq] at h1 ⊢
  exact (key z.toNat (by have := hz z hm; omega)).2 h1
end
theorem farV_zero {ac : List (List Bool)} {nx : List (List (List Int))} {s : Nat} {ar : List Bool} (h : ac[s]? = some ar) : farV ac nx 0 s = if ar.any id then 0 else -1 := by
 have e : accW ac nx 0 s = ar.any id := by
  show (ac.getD s []).any id = _
  rw [List.getD_eq_getElem?_getD, h]
  rfl
 simp only [farV]
 rw [e]
theorem hitR_none {P : Nat → Bool} {row : List Int} {k : Nat} {z : Int} (h : hitR P (row.take k) = false) (hz : row[k]? = some z) (hp : (decide (0 ≤ z) && P z.toNat) = false) : hitR P (row.take (k + 1)) = false := by
 obtain ⟨hk, rfl⟩ := List.getElem?_eq_some_iff.1 hz
 unfold hitR at h ⊢
 rw [List.take_succ_eq_append_getElem hk, List.any_append, h]
 simpa using hp
theorem hitR_found {P : Nat → Bool} {row : List Int} {k : Nat} {z : Int} (hz : row[k]? = some z) (hp : (decide (0 ≤ z) && P z.toNat) = true) : hitR P row = true := by
 rw [hitR_true]
 rw [Bool.and_eq_true, decide_eq_true_eq] at hp
 exact ⟨z, List.mem_of_getElem? hz, hp.1, hp.2⟩
end Go.Proofs.YtjlmdhoajfdkbaaGreatDoor

namespace Go.Proofs.YtjlmdhoajfdkbaaGreatDoor
set_option linter.unusedVariables false
set_option linter.unusedSimpArgs false
open Go.ChangeShapes Go.WideShapes Go.ChangeAt Go.RowKit Go.Sort
theorem Blk.autAt' {w : World} {g T : Nat} {t a : Int} {ac : List (List Bool)} {nx : List (List (List Int))} {s u : Option Addr} {c d : Nat} (L : Blk w g T [.int .i64 t, .int .i64 a, .slice s ac.length c, .slice u nx.length d]) (hr : Rd w (bbD ac) (.slice s ac.length c)) (hq : Rd w (iiiD nx) (.slice u nx.length d)) : AutAt w g 0 t a ac nx s u c d :=
 ⟨L.c0, L.c1, L.c2, L.c3, hr, hq⟩
end Go.Proofs.YtjlmdhoajfdkbaaGreatDoor

namespace Go.Proofs.YtjlmdhoajfdkbaaGreatDoor
set_option linter.unusedVariables false
set_option linter.unusedSimpArgs false
open Go.ChangeShapes Go.WideShapes Go.ChangeAt Go.RowKit Go.Sort
set_option maxHeartbeats 4000000 in
theorem indexTrue_i {bs : List Bool} {s : Option Addr} {c : Nat} {w : World} (hr : Rd w (boolsD bs) (.slice s bs.length c)) :
  Calls Tryz.prog 177 #[.slice s bs.length c, .bool true] w fun e w' => ∃ r, e = .returned (.int .i64 r) ∧ IdxT bs r ∧ w' = w := by
 obtain ⟨hlen, hcap⟩ := nest_bd hr
 unfold maxLen at hcap
 go_enter Tryz.func177, Tryz.ntmps177
 go_wp2_with fail
 go_loop [8] (fun i => ∃ k : Nat, k ≤ bs.length ∧ i = .int .i64 k ∧ Hid (∀ j : Nat, j < k → bs[j]? = some false)) (fun i => bs.length - (intOf i).toNat)
 case atStart => exact ⟨0, by omega, rfl, fun j hj => by omega⟩
 case round =>
  obtain ⟨k, hk, rfl, HA⟩ := hrel
  have hk0 := Int.natCast_nonneg k
  by_cases hlt : k < bs.length
  ·
   obtain ⟨z, hz⟩ : ∃ z, bs[k]? = some z := ⟨_, List.getElem?_eq_getElem hlt⟩
   obtain ⟨sb, so, rfl⟩ := nest_some (f := D.bool) hr (by omega)
   obtain ⟨hbl, z0⟩ := bool_in hr hz
   have hkb : (k : Int) < (bs.length : Int) := by omega
   have Hz := Lib.hid hz
   clear hz
   cases z
   ·
    have HA2 : Hid (∀ j : Nat, j < k + 1 → bs[j]? = some false) := fun j hj => by
     by_cases he : j = k
     ·
      rw [he]; exact Hz.out
     ·
      exact HA.out j (by omega)
    go_wp2_with fail
    go_round
    case rel => exact ⟨k + 1, by omega, by go_num, HA2⟩
    case measure => simp [intOf]; omega
   ·
    go_wp2_with fail
    go_ret
    exact ⟨_, rfl, Or.inr ⟨k, rfl, Hz.out, HA.out⟩, rfl⟩
  ·
   obtain rfl : k = bs.length := by omega
   go_wp2_with fail
   go_ret
   exact ⟨_, rfl, Or.inl ⟨rfl, HA.out⟩, rfl⟩
theorem containsTrue_i {bs : List Bool} {s : Option Addr} {c : Nat} {w : World} (hr : Rd w (boolsD bs) (.slice s bs.length c)) :
  Calls Tryz.prog 146 #[.slice s bs.length c, .bool true] w fun e w' => e = .returned (.bool (bs.any id)) ∧ w' = w := by
 go_enter Tryz.func146, Tryz.ntmps146
 go_wp2_with fail
 refine (indexTrue_i hr).mono ?_
 rintro e w1 ⟨r, rfl, hidx, rfl⟩
 have Hr := Lib.hid hidx.any
 clear hidx
 go_wp2_with fail
 go_ret
 exact ⟨ret_bool Hr.out, rfl⟩
set_option maxHeartbeats 4000000 in
theorem aliveC_i {z n : Int} {bo bn g T1 T2 T3 : Nat} {L : List Int} {w : World} (ho : Blk w bo T1 [.slice (some ⟨g, 0, none⟩) L.length L.length]) (hn : Blk w bn T2 [.int .i64 n]) (hg : Blk w g T3 (L.map (Value.int .i64))) (hz : z < L.length) (hn1 : 1 ≤ n) (hn2 : n ≤ 1000) (hL : L.length ≤ 1000) :
  Calls Tryz.prog 148 #[.int .i64 z, .pointer (some ⟨bo, 0, none⟩), .pointer (some ⟨bn, 0, none⟩)] w fun e w' => e = .returned (.bool (decide (0 ≤ z) && (L.getD z.toNat 0 == n - 1))) ∧ Below w.heap.size w w' := by
 have o0 := ho.c0
 have n0 := hn.c0
 have lo := ho.lt
 have ln := hn.lt
 have lg := hg.lt
 by_cases h0 : 0 ≤ z
 ·
  obtain ⟨k, rfl⟩ : ∃ k : Nat, z = (k : Int) := ⟨z.toNat, by omega⟩
  obtain ⟨v, hv⟩ : ∃ v, L[k]? = some v := ⟨_, List.getElem?_eq_getElem (by omega)⟩
  have x0 := arr_cell hg hv
  have HV : Hid (L.getD ((k : Int)).toNat 0 = v) := by show _ = _; rw [Int.toNat_natCast, List.getD_eq_getElem?_getD, hv]; rfl
  rw [HV.out]
  have ge : decide ((0 : Int) ≤ (k : Int)) = true := by simp
  rw [ge]
  have go0 := fun d os => cell_regrown o0 d os
  have gn0 := fun d os => cell_regrown n0 d os
  have gx0 := fun d os => cell_regrown x0 d os
  clear hv HV ho hn hg
  go_enter Tryz.func148, Tryz.ntmps148
  go_wp2_with fail
  refine Go.wp_region_quiet_below (by kernel_rfl) (by kernel_rfl) ?_
  repeat (first | go_big_quiet_step ((fail)) | quiet_step ((fail)))
  refine wpQuiet_nil ?_; intro _ hw'; obtain ⟨⟨dq, osq⟩, hw''⟩ := hw'; subst hw''; have hq := below_regrown w dq osq; revert hq; generalize grow (redrawn w dq) osq = w2; intro hq
  go_wp2_with fail
  go_ret
  exact ⟨ret_bool (by simp), hq⟩
 ·
  have ge : decide ((0 : Int) ≤ z) = false := by simp; omega
  rw [ge]
  clear ho hn hg
  go_enter Tryz.func148, Tryz.ntmps148
  go_wp2_with fail
  refine Go.wp_region_quiet_below (by kernel_rfl) (by kernel_rfl) ?_
  repeat (first | go_big_quiet_step ((fail)) | quiet_step ((fail)))
  refine wpQuiet_nil ?_; intro _ hw'; obtain ⟨⟨dq, osq⟩, hw''⟩ := hw'; subst hw''; have hq := below_regrown w dq osq; revert hq; generalize grow (redrawn w dq) osq = w2; intro hq
  go_wp2_with fail
  go_ret
  exact ⟨ret_bool (by simp), hq⟩
set_option maxHeartbeats 4000000 in
theorem indexAlive_i {n : Int} {bo bn g T1 T2 T3 : Nat} {L row : List Int} {s : Option Addr} {c : Nat} {w : World} (ho : Blk w bo T1 [.slice (some ⟨g, 0, none⟩) L.length L.length]) (hn : Blk w bn T2 [.int .i64 n]) (hg : Blk w g T3 (L.map (Value.int .i64))) (hz : ∀ z ∈ row, z < L.length) (hn1 : 1 ≤ n) (hn2 : n ≤ 1000) (hL : L.length ≤ 1000)
  (hr : Rd w (intsD row) (.slice s row.length c)) :
  Calls Tryz.prog 178 #[.slice s row.length c, .func (.func 148) #[] #[.pointer (some ⟨bo, 0, none⟩), .pointer (some ⟨bn, 0, none⟩)]] w fun e w' => ∃ r : Int, e = .returned (.int .i64 r) ∧ decide (0 ≤ r) = hitR (fun z => L.getD z 0 == n - 1) row ∧ Below w.heap.size w w' := by
 obtain ⟨hlen, hcap⟩ := nest_bd hr
 unfold maxLen at hcap
 have Ho := Lib.hid ho
 have Hn := Lib.hid hn
 have Hg := Lib.hid hg
 have Hz := Lib.hid hz
 clear ho hn hg hz
 go_enter Tryz.func178, Tryz.ntmps178
 go_wp2_with fail
 go_loopw [8] (fun i wr => ∃ k : Nat, k ≤ row.length ∧ i = .int .i64 k ∧ Hid (hitR (fun z => L.getD z 0 == n - 1) (row.take k) = false) ∧ Below w.heap.size w wr) (fun i _ => row.length - (intOf i).toNat)
 case atStart => exact ⟨0, by omega, rfl, by show _ = _; simp [hitR], Below.refl _ _⟩
 case round =>
  obtain ⟨k, hk, rfl, HA, hB⟩ := hrel
  have hk0 := Int.natCast_nonneg k
  by_cases hlt : k < row.length
  ·
   obtain ⟨z, hz⟩ : ∃ z, row[k]? = some z := ⟨_, List.getElem?_eq_getElem hlt⟩
   obtain ⟨sb, so, rfl⟩ := nest_some (f := D.int) hr (by omega)
   obtain ⟨hbl, z0⟩ := int_in (hr.below hB) hz
   have hkb : (k : Int) < (row.length : Int) := by omega
   have hzl := Hz.out z (List.mem_of_getElem? hz)
   have HRz := Lib.hid hz
   have HB := Lib.hid hB
   clear hz hB
   go_wp2_with fail
   refine (aliveC_i (Ho.out.below HB.out) (Hn.out.below HB.out) (Hg.out.below HB.out) hzl hn1 hn2 hL).mono ?_
   rintro e w2 ⟨rfl, hb2⟩
   have hBx : Below w.heap.size w w2 := Below.on HB.out hb2 HB.out.size
   have HBx := Lib.hid hBx
   clear hb2 hBx z0
   cases hp : (decide (0 ≤ z) && (L.getD z.toNat 0 == n - 1))
   ·
    have HA2 : Hid (hitR (fun z => L.getD z 0 == n - 1) (row.take (k + 1)) = false) := hitR_none HA.out HRz.out hp
    clear hp
    go_wp2_with fail
    go_roundw
    case rel => exact ⟨k + 1, by omega, by go_num, HA2, HBx.out⟩
    case measure => simp [intOf]; omega
   ·
    have HA2 : Hid (hitR (fun z => L.getD z 0 == n - 1) row = true) := hitR_found HRz.out hp
    clear hp
    go_wp2_with fail
    go_ret
    exact ⟨_, rfl, by rw [HA2.out]; simp, HBx.out⟩
  ·
   obtain rfl : k = row.length := by omega
   have HA2 : Hid (hitR (fun z => L.getD z 0 == n - 1) row = false) := by show _ = _; have := HA.out; rwa [List.take_length] at this
   go_wp2_with fail
   go_ret
   exact ⟨_, rfl, by rw [HA2.out]; decide, hB⟩
theorem containsAlive_i {n : Int} {bo bn g T1 T2 T3 : Nat} {L row : List Int} {s : Option Addr} {c : Nat} {w : World} (ho : Blk w bo T1 [.slice (some ⟨g, 0, none⟩) L.length L.length]) (hn : Blk w bn T2 [.int .i64 n]) (hg : Blk w g T3 (L.map (Value.int .i64))) (hz : ∀ z ∈ row, z < L.length) (hn1 : 1 ≤ n) (hn2 : n ≤ 1000) (hL : L.length ≤ 1000)
  (hr : Rd w (intsD row) (.slice s row.length c)) :
  Calls Tryz.prog 147 #[.slice s row.length c, .func (.func 148) #[] #[.pointer (some ⟨bo, 0, none⟩), .pointer (some ⟨bn, 0, none⟩)]] w fun e w' => e = .returned (.bool (hitR (fun z => L.getD z 0 == n - 1) row)) ∧ Below w.heap.size w w' := by
 go_enter Tryz.func147, Tryz.ntmps147
 go_wp2_with fail
 refine (indexAlive_i ho hn hg hz hn1 hn2 hL hr).mono ?_
 rintro e w1 ⟨r, rfl, hh, hb⟩
 have Hr := Lib.hid hh
 clear hh
 go_wp2_with fail
 go_ret
 exact ⟨ret_bool Hr.out, hb⟩
end Go.Proofs.YtjlmdhoajfdkbaaGreatDoor
