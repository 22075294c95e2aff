/-
  Parts of a proof, joined: SumI. No condition.
-/
import Derived.Test.YtcokljhamhgelaaGreatDoorPk11
import Derived.Test.YtcokljhamhgelaaGreatDoorPk12
namespace Go.Proofs.YtcokljhamhgelaaGreatDoor
set_option linter.unusedVariables false
set_option linter.unusedSimpArgs false
open Go.ChangeShapes Go.WideShapes Go.ChangeAt Go.RowKit Go.Deep Go.Sort Go.ChangeMaps Go.MapKept
open Go.Maps (Keyed string_keyed)
theorem AppS.nil {S : Nat → Prop} {w : World} {t size : Nat} : AppS S w t size 0 [] (.slice none 0 0) := ⟨[], [], World.ownsRow_nil _ _ _ _, Ows.nil, by simp, by simp, by simp [Value.ownBlock]⟩
theorem AppS.at {S : Nat → Prop} {w : World} {t size n : Nat} {us : List Value} {v : Value} (h : AppS S w t size n (us.map D.raw) v) : ∃ a cap, v = .slice a n cap ∧ n ≤ cap ∧ cap ≤ maxLen ∧ us.length = n * size ∧
  (us = [] ∨ ∃ g, a = some ⟨g, 0, none⟩ ∧ S g ∧ g < w.heap.size ∧ ∃ rest, Blk w g t (us ++ rest)) := by
 obtain ⟨xs, F, h1, h2, h3, h4, h5⟩ := h
 have hx := Rds.raws h2.rds
 subst hx
 have hl : xs.length = n * size := h1.1
 rcases h1.2 with ⟨rfl, h⟩ | ⟨g, cap, cur, rfl, -, hb, k1, k2, k3, k4⟩
 ·
  have h0 : n = 0 := by simpa using h
  subst h0
  exact ⟨none, 0, rfl, Nat.le_refl _, Nat.zero_le _, hl, Or.inl (List.eq_nil_of_length_eq_zero (by omega))⟩
 ·
  refine ⟨_, _, rfl, k1, k2, hl, Or.inr ⟨g, rfl, h5 g rfl, (Array.getElem?_eq_some_iff.1 hb).1, cur.toList.drop xs.length, ?_⟩⟩
  have : cur.toList = xs ++ cur.toList.drop xs.length := by
   conv => lhs; rw [← List.take_append_drop xs.length cur.toList]
   congr 1
   rw [hl]
   exact k4
  rw [← this]
  simpa [Blk] using hb
theorem summands_i {tm am : Int} {e : Ex} {X S : Nat → Prop} {v : Value} {L : List Sh} {s : Option Addr} {c : Nat} {w0 w : World} (h0 : KeptX X w0 w) (hX : ∀ b, X b → b < w.heap.size) (hS : ∀ b, S b → X b) (hx : ExX X w0 e s c) (ht : e.tree tm am = true) (hl : L.length + e.size ≤ 1000000)
  (hv : AppS S w 34 3 L.length (shD L) v) :
  Calls Tryz.prog 94 #[v, .agg #[.int .i64 e.kind, .int .i64 e.num, .slice s e.kids.length c]] w fun f w' => ∃ a' c' L', f = .returned (.slice a' (L.length + L'.length) c') ∧ (L'.map Sh.e = e.summ ∧ ShX X w0 L') ∧
   AppS (fun b => S b ∨ (w.heap.size ≤ b ∧ b < w'.heap.size)) w' 34 3 (L.length + L'.length) (shD (L ++ L')) (.slice a' (L.length + L'.length) c') ∧ Spares S w w' := by
 refine (summands_all tm am _ e X S v L s c w0 w (Nat.le_refl _) h0 hX hS hx ht hl hv).mono ?_
 rintro f w' ⟨v', L', rfl, h1, h2, h3⟩
 obtain ⟨a', c', rfl, -, -⟩ := h2.shape
 exact ⟨a', c', L', rfl, h1, h2, h3⟩
theorem summands_nil {tm am : Int} {e : Ex} {X : Nat → Prop} {s : Option Addr} {c : Nat} {w0 w : World} (h0 : KeptX X w0 w) (hX : ∀ b, X b → b < w.heap.size) (hx : ExX X w0 e s c) (ht : e.tree tm am = true) (hl : e.size ≤ 1000000) :
  Calls Tryz.prog 94 #[.slice none 0 0, .agg #[.int .i64 e.kind, .int .i64 e.num, .slice s e.kids.length c]] w fun f w' => ∃ a' c' L', f = .returned (.slice a' L'.length c') ∧ (L'.map Sh.e = e.summ ∧ ShX X w0 L') ∧
   AppS (fun b => False ∨ (w.heap.size ≤ b ∧ b < w'.heap.size)) w' 34 3 L'.length (shD L') (.slice a' L'.length c') ∧ Spares (fun _ => False) w w' := by
 refine (summands_i (L := []) (S := fun _ => False) h0 hX (fun _ h => h.elim) hx ht (by simpa using hl) AppS.nil).mono ?_
 rintro f w' ⟨a', c', L', rfl, h1, h2, h3⟩
 simp only [List.length_nil, Nat.zero_add, List.nil_append] at h2
 exact ⟨a', c', L', by simp, h1, h2, h3⟩
def lenV : Value → Int
 | .slice _ n _ => n
 | _ => 0
def kfS (t : List UInt8) : Value := .string (bs t)
theorem kfS_inj (x y : List UInt8) (h : kfS x = kfS y) : x = y := bs_inj (by simpa [kfS] using h)
theorem lawS : Keyed Tryz.prog 9 := string_keyed Tryz.underlying9
theorem keyS {t : List UInt8} (h : t.length ≤ 1000000000) : ∃ l, keyOf Tryz.prog 9 (kfS t) = some l := ⟨_, WideMaps.keyOf_string_mk (P := Tryz.prog) Tryz.underlying9 (by rw [bs_size]; unfold maxLen; omega)⟩
theorem zeroB (w : World) : (zeroValue 4).run Tryz.prog w = .ok (.bool false) w := by kernel_rfl
theorem AppS.empty {S : Nat → Prop} {w : World} {t size g : Nat} (h : Blk w g t []) (hS : S g) : AppS S w t size 0 [] (.slice (some ⟨g, 0, none⟩) 0 0) :=
 ⟨[], [], ⟨by simp, Or.inr ⟨g, 0, #[], rfl, Nat.zero_le _, h, Nat.le_refl _, Nat.zero_le _, by simp, by simp⟩⟩, Ows.nil, by simp, by simp, fun b hb => by simp [Value.ownBlock] at hb; subst hb; exact hS⟩
theorem info_named : (Tryz.prog.info? 131).map (fun i => (i.zero, i.size, i.bytes)) = some (some (.agg #[.string ⟨#[]⟩, .int .i64 0, .int .i64 0, .slice none 0 0]), 4, 56) := by kernel_rfl
theorem nub_snoc (L : List Ex) (a : Ex) : nub (L ++ [a]) = grow1 (nub L) (some a) := by
 unfold nub
 rw [List.map_append, growL_append]
 rfl
theorem namedsV_snoc (N : List Sh) (z : Sh) : (namedsV (N ++ [z])).map D.raw = (namedsV N).map D.raw ++ z.named.map D.raw := by simp [namedsV]
theorem growL_len {α : Type} [DecidableEq α] : ∀ (ss L : List α), (growL L (ss.map some)).length ≤ L.length + ss.length
 | [], L => by simp [growL]
 | s :: r, L => by
  show (growL (grow1 L (some s)) (r.map some)).length ≤ _
  have h1 := growL_len r (grow1 L (some s))
  have h2 : (grow1 L (some s)).length ≤ L.length + 1 := by
   by_cases h : s ∈ L
   ·
    rw [grow1_old h]; omega
   ·
    rw [grow1_new h]; simp
  rw [List.length_cons]
  omega
theorem nub_len (L : List Ex) : (nub L).length ≤ L.length := by have := growL_len L []; simpa [nub] using this
theorem AppS.blk {S : Nat → Prop} {w : World} {t size n g c : Nat} {us : List Value} (h : AppS S w t size n (us.map D.raw) (.slice (some ⟨g, 0, none⟩) n c)) : S g ∧ n ≤ c ∧ c ≤ maxLen ∧ ∃ rest, Blk w g t (us ++ rest) := by
 obtain ⟨xs, F, h1, h2, h3, h4, h5⟩ := h
 have hx := Rds.raws h2.rds
 subst hx
 have hl : xs.length = n * size := h1.1
 rcases h1.2 with ⟨h, -⟩ | ⟨g', cap, cur, e, -, hb, k1, k2, k3, k4⟩
 ·
  simp at h
 ·
  simp only [Value.slice.injEq, Option.some.injEq, Addr.mk.injEq, and_true, true_and] at e
  obtain ⟨rfl, rfl⟩ := e
  refine ⟨h5 g rfl, k1, k2, cur.toList.drop xs.length, ?_⟩
  have : cur.toList = xs ++ cur.toList.drop xs.length := by
   conv => lhs; rw [← List.take_append_drop xs.length cur.toList]
   congr 1
   rw [hl]
   exact k4
  rw [← this]
  simpa [Blk] using hb
theorem named_one (x : Sh) : ∀ u ∈ x.named, u.oneCell' = true := by
 intro u hu
 simp [Sh.named] at hu
 rcases hu with rfl | rfl | rfl | rfl <;> rfl
set_option maxRecDepth 100000 in
set_option maxHeartbeats 8000000 in
theorem tidySum_i {tm am : Int} (ht : tm ≤ 8) (ha : am ≤ 8) {x y : Ex} {X : Nat → Prop} {sx sy : Option Addr} {cx cy : Nat} {w : World} (hX : ∀ b, X b → b < w.heap.size) (hx : ExX X w x sx cx) (hy : ExX X w y sy cy) (tx : x.tree tm am = true) (ty : y.tree tm am = true) (hsz : x.size + y.size ≤ 100000) :
  Calls Tryz.prog 63 #[.agg #[.int .i64 x.kind, .int .i64 x.num, .slice sx x.kids.length cx], .agg #[.int .i64 y.kind, .int .i64 y.num, .slice sy y.kids.length cy]] w fun f w' => ∃ s' c', f = .returned (.agg #[.int .i64 (sumT x y).kind, .int .i64 (sumT x y).num, .slice s' (sumT x y).kids.length c']) ∧ ExX X w' (sumT x y) s' c' ∧ Below w.heap.size w w' := by
 obtain ⟨-, hlen, hcap, -, -⟩ := kid_at hx.rd
 obtain ⟨-, hlen', hcap', -, -⟩ := kid_at hy.rd
 unfold maxLen at hcap hcap'
 obtain ⟨Z, hZ⟩ : ∃ Z, Z = sumT x y := ⟨_, rfl⟩
 rw [← hZ]
 have HZ := Lib.hid hZ
 clear hZ
 have hmm := @run_makeMap Tryz.prog
 go_enter Tryz.func63, Tryz.ntmps63
 go_wp2_with fail
 clear hmm
 have L := ((((Blk.new3 w 34 (.int .i64 x.kind) (.int .i64 x.num) (.slice sx x.kids.length cx)).alloc (.cells #[.int .i64 y.kind, .int .i64 y.num, .slice sy y.kids.length cy] 34)).alloc (.cells #[.int .i64 0, .int .i64 0, .slice none 0 0] 34)).alloc (.cells #[] 131)).alloc (.map #[] 0)
 have M := (((Blk.new3 (w.alloc (.cells #[.int .i64 x.kind, .int .i64 x.num, .slice sx x.kids.length cx] 34)) 34 (.int .i64 y.kind) (.int .i64 y.num) (.slice sy y.kids.length cy)).alloc (.cells #[.int .i64 0, .int .i64 0, .slice none 0 0] 34)).alloc (.cells #[] 131)).alloc (.map #[] 0)
 have R := ((Blk.new3 ((w.alloc (.cells #[.int .i64 x.kind, .int .i64 x.num, .slice sx x.kids.length cx] 34)).alloc (.cells #[.int .i64 y.kind, .int .i64 y.num, .slice sy y.kids.length cy] 34)) 34 (.int .i64 0) (.int .i64 0) (.slice none 0 0)).alloc (.cells #[] 131)).alloc (.map #[] 0)
 have E0 := (Blk.new0 (((w.alloc (.cells #[.int .i64 x.kind, .int .i64 x.num, .slice sx x.kids.length cx] 34)).alloc (.cells #[.int .i64 y.kind, .int .i64 y.num, .slice sy y.kids.length cy] 34)).alloc (.cells #[.int .i64 0, .int .i64 0, .slice none 0 0] 34)) 131).alloc (.map #[] 0)
 have hM : MapAt Tryz.prog 9 kfS Value.bool _ _ ([] : List (List UInt8 × Bool)) := MapAt.made ((((w.alloc (.cells #[.int .i64 x.kind, .int .i64 x.num, .slice sx x.kids.length cx] 34)).alloc (.cells #[.int .i64 y.kind, .int .i64 y.num, .slice sy y.kids.length cy] 34)).alloc (.cells #[.int .i64 0, .int .i64 0, .slice none 0 0] 34)).alloc (.cells #[] 131))
 have hB : Below w.heap.size w (((((w.alloc (.cells #[.int .i64 x.kind, .int .i64 x.num, .slice sx x.kids.length cx] 34)).alloc (.cells #[.int .i64 y.kind, .int .i64 y.num, .slice sy y.kids.length cy] 34)).alloc (.cells #[.int .i64 0, .int .i64 0, .slice none 0 0] 34)).alloc (.cells #[] 131)).alloc (.map #[] 0)) := by (repeat' first | exact Below.refl _ _ | assumption | apply Below.alloc | apply Below.drew | apply Below.setCell | omega | (simp; done) | (simp; omega))
 have hz0 : (((((w.alloc (.cells #[.int .i64 x.kind, .int .i64 x.num, .slice sx x.kids.length cx] 34)).alloc (.cells #[.int .i64 y.kind, .int .i64 y.num, .slice sy y.kids.length cy] 34)).alloc (.cells #[.int .i64 0, .int .i64 0, .slice none 0 0] 34)).alloc (.cells #[] 131)).alloc (.map #[] 0)).heap.size = w.heap.size + 5 := by simp
 simp at M R E0 hM
 generalize ((((w.alloc (.cells #[.int .i64 x.kind, .int .i64 x.num, .slice sx x.kids.length cx] 34)).alloc (.cells #[.int .i64 y.kind, .int .i64 y.num, .slice sy y.kids.length cy] 34)).alloc (.cells #[.int .i64 0, .int .i64 0, .slice none 0 0] 34)).alloc (.cells #[] 131)).alloc (.map #[] 0) = wb at L M R E0 hM hB hz0 ⊢
 have hx1 : ExX (XB X w.heap.size 5) wb x sx cx := hx.boxes hB
 have hy1 : ExX (XB X w.heap.size 5) wb y sy cy := hy.boxes hB
 have hB' := hB
 have hXW : ∀ b, XB X w.heap.size 5 b → b < wb.heap.size := fun b q => q.elim (fun q => by have := hX _ q; omega) (fun q => by omega)
 clear hx hy
 obtain ⟨x0, hx0⟩ := mkval ?a1_0
 obtain ⟨x2, hx2⟩ := mkval ?a1_2
 obtain ⟨x5, hx5⟩ := mkval ?a1_5
 refine region_rs [(3, 1)] [] (fun (_ _ : Nat) => False) (wb.heap.size) (fun i iv vs wx => match i with
  | 0 => vs 0 = x0
  | 1 => ∃ a1 c1 M1, vs 1 = .slice a1 M1.length c1 ∧ (M1.map Sh.e = x.summ ∧ ShX (XB X w.heap.size 5) wb M1) ∧ AppS (foot [(3, 1)] [] (fun (_ _ : Nat) => False) 6 1 iv) wx 34 3 M1.length (shD M1) (.slice a1 M1.length c1)
  | 2 => vs 2 = x2
  | 3 => ∃ a2 c2 M1 M2, vs 3 = .slice a2 (M1.length + M2.length) c2 ∧ ((M1.map Sh.e = x.summ ∧ ShX (XB X w.heap.size 5) wb M1) ∧ (M2.map Sh.e = y.summ ∧ ShX (XB X w.heap.size 5) wb M2)) ∧ AppS (foot [(3, 1)] [] (fun (_ _ : Nat) => False) 6 3 iv) wx 34 3 (M1.length + M2.length) (shD (M1 ++ M2)) (.slice a2 (M1.length + M2.length) c2)
  | 4 => vs 4 = .int .i64 (lenV (vs 3))
  | 5 => vs 5 = x5
  | _ => True) (fun i iv vs => match i with
  | 0 => vs 0 = x0
  | 1 => ∃ a1 c1 M1, vs 1 = .slice a1 M1.length c1 ∧ (M1.map Sh.e = x.summ ∧ ShX (XB X w.heap.size 5) wb M1)
  | 2 => vs 2 = x2
  | 3 => ∃ a2 c2 M1 M2, vs 3 = .slice a2 (M1.length + M2.length) c2 ∧ ((M1.map Sh.e = x.summ ∧ ShX (XB X w.heap.size 5) wb M1) ∧ (M2.map Sh.e = y.summ ∧ ShX (XB X w.heap.size 5) wb M2))
  | 4 => vs 4 = .int .i64 (lenV (vs 3))
  | 5 => vs 5 = x5
  | _ => True) (by kernel_rfl) (by kernel_rfl) [0, 1, 2, 3, 4, 5] (by kernel_rfl) ?hbase ?hGb ?hG ?hJ ?hE ?hEE ?hstep ?hQ
 case hbase => first | exact Nat.le_refl _ | omega | (simp; omega)
 case hGb =>
  exact fun _ _ h => h.elim
 case hG =>
  exact fun _ _ _ h => h.elim
 case hJ =>
  intro i hi iv iv' vs vs' wx wx' ha hv hz hk hj
  simp only [List.mem_cons, List.not_mem_nil, or_false] at hi
  rcases hi with rfl | rfl | rfl | rfl | rfl | rfl
  ·
   exact (hv.out 0 (mem_of (by kernel_rfl))).symm.trans hj
  ·
   have e1 := hv.out 1 (mem_of (by kernel_rfl))
   obtain ⟨a1, c1, M1, q1, q3, q2⟩ := hj
   exact ⟨a1, c1, M1, e1 ▸ q1, q3, (q2.keep (fun b hb h1 => hk.out b hb h1)).more (fun b hb h1 => foot_agree (l := ancs _ 6 1) (by exact of_decide_eq_true (by kernel_rfl)) ha.out h1)⟩
  ·
   exact (hv.out 2 (mem_of (by kernel_rfl))).symm.trans hj
  ·
   have e3 := hv.out 3 (mem_of (by kernel_rfl))
   obtain ⟨a2, c2, M1, M2, q1, q3, q2⟩ := hj
   exact ⟨a2, c2, M1, M2, e3 ▸ q1, q3, (q2.keep (fun b hb h1 => hk.out b hb h1)).more (fun b hb h1 => foot_agree (l := ancs _ 6 3) (by exact of_decide_eq_true (by kernel_rfl)) ha.out h1)⟩
  ·
   have e3 := hv.out 3 (mem_of (by kernel_rfl))
   have e4 := hv.out 4 (mem_of (by kernel_rfl))
   have hj' : vs 4 = .int .i64 (lenV (vs 3)) := hj
   show vs' 4 = .int .i64 (lenV (vs' 3))
   rw [← e3, ← e4]
   exact hj'
  ·
   exact (hv.out 5 (mem_of (by kernel_rfl))).symm.trans hj
 case hE =>
  intro i hi iv vs wx hj
  simp only [List.mem_cons, List.not_mem_nil, or_false] at hi
  rcases hi with rfl | rfl | rfl | rfl | rfl | rfl
  ·
   exact hj
  ·
   obtain ⟨a1, c1, M1, q1, q3, -⟩ := hj
   exact ⟨a1, c1, M1, q1, q3⟩
  ·
   exact hj
  ·
   obtain ⟨a2, c2, M1, M2, q1, q3, -⟩ := hj
   exact ⟨a2, c2, M1, M2, q1, q3⟩
  ·
   exact hj
  ·
   exact hj
 case hEE =>
  intro i hi iv iv' vs vs' ha hv hj
  simp only [List.mem_cons, List.not_mem_nil, or_false] at hi
  rcases hi with rfl | rfl | rfl | rfl | rfl | rfl
  ·
   exact (hv.out 0 (mem_of (by kernel_rfl))).symm.trans hj
  ·
   have e1 := hv.out 1 (mem_of (by kernel_rfl))
   have hj' : ∃ a1 c1 M1, vs 1 = .slice a1 M1.length c1 ∧ (M1.map Sh.e = x.summ ∧ ShX (XB X w.heap.size 5) wb M1) := hj
   show ∃ a1 c1 M1, vs' 1 = .slice a1 M1.length c1 ∧ (M1.map Sh.e = x.summ ∧ ShX (XB X w.heap.size 5) wb M1)
   rw [← e1]
   exact hj'
  ·
   exact (hv.out 2 (mem_of (by kernel_rfl))).symm.trans hj
  ·
   have e3 := hv.out 3 (mem_of (by kernel_rfl))
   have hj' : ∃ a2 c2 M1 M2, vs 3 = .slice a2 (M1.length + M2.length) c2 ∧ ((M1.map Sh.e = x.summ ∧ ShX (XB X w.heap.size 5) wb M1) ∧ (M2.map Sh.e = y.summ ∧ ShX (XB X w.heap.size 5) wb M2)) := hj
   show ∃ a2 c2 M1 M2, vs' 3 = .slice a2 (M1.length + M2.length) c2 ∧ ((M1.map Sh.e = x.summ ∧ ShX (XB X w.heap.size 5) wb M1) ∧ (M2.map Sh.e = y.summ ∧ ShX (XB X w.heap.size 5) wb M2))
   rw [← e3]
   exact hj'
  ·
   have e3 := hv.out 3 (mem_of (by kernel_rfl))
   have e4 := hv.out 4 (mem_of (by kernel_rfl))
   have hj' : vs 4 = .int .i64 (lenV (vs 3)) := hj
   show vs' 4 = .int .i64 (lenV (vs' 3))
   rw [← e3, ← e4]
   exact hj'
  ·
   exact (hv.out 5 (mem_of (by kernel_rfl))).symm.trans hj
 case hstep =>
  intro i hi opr ho iv vs w1 hB hS hSo hd he hbd hsep hun K hK
  simp only [List.mem_cons, List.not_mem_nil, or_false] at hi
  have hzB := hB.size
  have L1 := L.keep (hSo.out.block _ L.lt (fun ⟨_, h⟩ => h.elim))
  have l0 := L1.c0
  have l1 := L1.c1
  have l2 := L1.c2
  have M1' := M.keep (hSo.out.block _ M.lt (fun ⟨_, h⟩ => h.elim))
  have m0 := M1'.c0
  have m1 := M1'.c1
  have m2 := M1'.c2
  generalize hA : putFrom _ 0 vs _ = A at hK ⊢
  simp only [putFrom, puts] at hA
  rcases hi with rfl | rfl | rfl | rfl | rfl | rfl
  all_goals
   simp at ho
   subst ho
   subst hA
  ·
   go_wp2_with fail
   refine Onward.mk (hK ?val1_0 _ _ (fun h => by cases h) ?eqA (Spares.refl _) (fun iv' _ _ => ?ja))
   case eqA => first | rfl | (simp only [puts]; rfl)
   case ja => exact hx0.out.symm
  ·
   have h0 := (hd.out 0 (mem_of (by kernel_rfl)) (by decide) (by kernel_rfl)).trans hx0.out
   go_wp2_with fail
   refine (summands_nil (KeptX.of_spares hSo.out (fun b _ ⟨_, h⟩ => h.elim)) (fun b h => Nat.lt_of_lt_of_le (hXW b h) hSo.out.size) hx1 tx (by omega)).mono ?_
   rintro e w2 ⟨a1, c1, M1, rfl, hp, hap, ht⟩
   go_wp2_with fail
   exact Onward.mk (hK (.slice a1 M1.length c1) _ _ (fun h => by cases h) (by first | rfl | (simp only [puts, h0])) (ht.more (fun b h => h.elim)) (fun iv' ag hi => ⟨a1, c1, M1, rfl, hp, hap.more (fun b _ h => by rcases h with h | h; exact h.elim; exact foot_new hi h.1 h.2)⟩))
  ·
   go_wp2_with fail
   refine Onward.mk (hK ?val1_2 _ _ (fun h => by cases h) ?eqA (Spares.refl _) (fun iv' _ _ => ?ja))
   case eqA => first | rfl | (simp only [puts]; rfl)
   case ja => exact hx2.out.symm
  ·
   obtain ⟨a1, c1, M1, h1, p1, f1⟩ := hd.out 1 (mem_of (by kernel_rfl)) (by decide) (by kernel_rfl)
   have h2 := (hd.out 2 (mem_of (by kernel_rfl)) (by decide) (by kernel_rfl)).trans hx2.out
   have hF1 : ∀ b, (foot [(3, 1)] [] (fun (_ _ : Nat) => False) 6 1 iv) b → ((wb).heap.size ≤ b ∧ b < w1.heap.size) := by
    rintro b ⟨j, hj, hh⟩
    have hj' := of_decide_eq_true (List.all_eq_true.1 (show ((chainOf [(3, 1)] 6 1).all fun j => decide (j ∈ [1])) = true from by kernel_rfl) j hj)
    simp only [List.mem_cons, List.not_mem_nil, or_false] at hj'
    rcases hj' with rfl
    ·
     have q := (hbd.out 1 (mem_of (by kernel_rfl)) (by decide))
     rcases hh with hh | ⟨m, hm, hg⟩
     ·
      exact (by omega)
     ·
      simp at hm
   have h01 : KeptX (XB X w.heap.size 5) wb w1 := KeptX.of_spares hSo.out (fun b _ ⟨_, h⟩ => h.elim)
   have hQ1 : KeptX (fun b => (XB X w.heap.size 5 b ∨ wb.heap.size ≤ b) ∧ b < w1.heap.size) wb w1 := h01.more (fun b hb h => ⟨Or.inl h, Nat.lt_of_lt_of_le hb h01.1⟩)
   have hQ3 : ∀ b, foot [(3, 1)] [] (fun _ _ => False) 6 1 iv b → (XB X w.heap.size 5 b ∨ wb.heap.size ≤ b) ∧ b < w1.heap.size := fun b h => by
    have h := hF1 b h
    exact ⟨Or.inr h.1, h.2⟩
   have hQ4 : ExX (fun b => (XB X w.heap.size 5 b ∨ wb.heap.size ≤ b) ∧ b < w1.heap.size) wb y sy cy := hy1.less (fun b hb h => h.1.elim id (fun q => by omega))
   have hQ5 : M1.length + y.size ≤ 1000000 := by
    have q1 := congrArg List.length p1.1
    rw [List.length_map] at q1
    have q2 := summ_len tx
    omega
   go_wp2_with fail
   refine (summands_i (L := M1) hQ1 (fun b h => h.2) hQ3 hQ4 ty hQ5 f1).mono ?_
   rintro e w2 ⟨a2, c2, M2, rfl, hp, hap, ht⟩
   go_wp2_with fail
   exact Onward.mk (hK (.slice a2 (M1.length + M2.length) c2) _ _ (fun h => by cases h) (by first | rfl | (simp only [puts, h1, h2])) (ht.more (fun b h => Or.inr ⟨1, by decide, h⟩)) (fun iv' ag hi => ⟨a2, c2, M1, M2, rfl, ⟨p1, hp.1, fun x hx => (hp.2 x hx).less (fun b hb h => ⟨Or.inl h, Nat.lt_of_lt_of_le hb hQ1.1⟩)⟩, hap.more (fun b _ h => by rcases h with h | h; exact foot_step (by kernel_rfl) ag h; exact foot_new hi h.1 h.2)⟩))
  ·
   obtain ⟨a2, c2, M1, M2, h3, p3, f3⟩ := hd.out 3 (mem_of (by kernel_rfl)) (by decide) (by kernel_rfl)
   go_wp2_with fail
   exact Onward.mk (hK (.int .i64 (↑M1.length + ↑M2.length)) _ _ (fun h => by cases h) (by first | rfl | (simp only [puts, h3])) (Spares.refl _) (fun iv' _ _ => by
    show (.int .i64 (↑M1.length + ↑M2.length) : Value) = .int .i64 (lenV (vs 3))
    simp only [h3]; simp [lenV]))
  ·
   go_wp2_with fail
   refine Onward.mk (hK ?val1_5 _ _ (fun h => by cases h) ?eqA (Spares.refl _) (fun iv' _ _ => ?ja))
   case eqA => first | rfl | (simp only [puts]; rfl)
   case ja => exact hx5.out.symm
 case hQ =>
  intro iv vs wx hB hSp hd he hbd hsep
  have hzB := hB.size
  have h0 := (hd.out 0 (mem_of (by kernel_rfl)) (not_eaten (by kernel_rfl))).trans hx0.out
  obtain ⟨a1, c1, M1, h1, p1⟩ := he.out 1 (mem_of (by kernel_rfl))
  have h2 := (hd.out 2 (mem_of (by kernel_rfl)) (not_eaten (by kernel_rfl))).trans hx2.out
  obtain ⟨a2, c2, M1, M2, h3, p3, f3⟩ := hd.out 3 (mem_of (by kernel_rfl)) (not_eaten (by kernel_rfl))
  have h4 : vs 4 = .int .i64 (lenV (vs 3)) := hd.out 4 (mem_of (by kernel_rfl)) (not_eaten (by kernel_rfl))
  have h5 := (hd.out 5 (mem_of (by kernel_rfl)) (not_eaten (by kernel_rfl))).trans hx5.out
  simp only [putFrom, puts]
  have so3 : ∀ b, (foot [(3, 1)] [] (fun (_ _ : Nat) => False) 6 3 iv) b → (wb).heap.size ≤ b := by
   rintro b ⟨j, hj, hh⟩
   have hj' := of_decide_eq_true (List.all_eq_true.1 (show ((chainOf [(3, 1)] 6 3).all fun j => decide (j ∈ [3, 1])) = true from by kernel_rfl) j hj)
   simp only [List.mem_cons, List.not_mem_nil, or_false] at hj'
   rcases hj' with rfl | rfl
   ·
    have q := (hbd.out 3 (mem_of (by kernel_rfl))).1
    rcases hh with hh | ⟨m, hm, hg⟩
    ·
     omega
    ·
     simp at hm
   ·
    have q := (hbd.out 1 (mem_of (by kernel_rfl))).1
    rcases hh with hh | ⟨m, hm, hg⟩
    ·
     omega
    ·
     simp at hm
  have f3' := f3
  have so := Lib.hid so3
  have p3' := p3
  clear p3 f3 so3
  obtain ⟨⟨pa, pb⟩, pc, pd⟩ := p3'
  obtain ⟨Ls, hLs⟩ : ∃ Ls, Ls = M1 ++ M2 := ⟨_, rfl⟩
  have hn : M1.length + M2.length = Ls.length := by rw [hLs, List.length_append]
  have hLe : Ls.map Sh.e = x.summ ++ y.summ := by rw [hLs, List.map_append, pa, pc]
  have hLX : ShX (XB X w.heap.size 5) wb Ls := by rw [hLs]; exact pb.append pd
  rw [hn] at h3
  rw [hn, ← hLs] at f3'
  replace h4 : vs 4 = .int .i64 (Ls.length : Int) := by rw [h4, h3]; rfl
  have hLn : Ls.length ≤ 100000 := by
   have q := congrArg List.length hLe
   rw [List.length_map, List.length_append] at q
   have := summ_len tx
   have := summ_len ty
   omega
  have hLt : ∀ z ∈ Ls, z.e.tree tm am = true ∧ z.e.size ≤ 100000 := by
   intro z hz
   have hm : z.e ∈ x.summ ++ y.summ := by rw [← hLe]; exact List.mem_map.2 ⟨z, hz, rfl⟩
   rcases List.mem_append.1 hm with h | h
   ·
    have := (summ_spec tm am _ x (Nat.le_refl _) tx).1 _ h
    exact ⟨this.1, by omega⟩
   ·
    have := (summ_spec tm am _ y (Nat.le_refl _) ty).1 _ h
    exact ⟨this.1, by omega⟩
  simp only [h3, h4, h5, Nat.zero_add, Nat.reduceAdd]
  have hSx := hSp.out
  have E1 := E0.keep (hSx.block _ E0.lt (fun ⟨_, h⟩ => h.elim))
  have hM1 := hM.keep (hSx.block _ hM.lt (fun ⟨_, h⟩ => h.elim))
  have R1 := R.keep (hSx.block _ R.lt (fun ⟨_, h⟩ => h.elim))
  have hLX1 : ShX (XB X w.heap.size 5) wx Ls := hLX.keep (KeptX.of_spares hSx (fun b _ ⟨_, h⟩ => h.elim))
  have hBx := hB'.trans (hB.mono (by omega))
  have hszx := hSx.size
  obtain ⟨at0, cap0, e0, hc1, hc2, -, hrow⟩ := AppS.at f3'
  simp only [Value.slice.injEq, true_and] at e0
  obtain ⟨rfl, rfl⟩ := e0
  have Hrow : Hid (Ls = [] ∨ ∃ g, a2 = some ⟨g, 0, none⟩ ∧ wb.heap.size ≤ g ∧ g < wx.heap.size ∧ ∃ rest, Blk wx g 34 (shs Ls ++ rest)) := by
   rcases hrow with h | ⟨g, h1, h2, h3, h4⟩
   ·
    refine Or.inl ?_
    have := shs_length Ls
    rw [h] at this
    exact List.eq_nil_of_length_eq_zero (by simp at this; omega)
   ·
    exact Or.inr ⟨g, h1, so.out g h2, h3, h4⟩
  have HLX := Lib.hid hLX
  have hKb0 : KeptX (XB X w.heap.size 5) wb wx := KeptX.of_spares hSx (fun b _ ⟨_, h⟩ => h.elim)
  have HLt := Lib.hid hLt
  have HLe := Lib.hid hLe
  clear hd he hbd hsep h0 h2 h1 h3 h4 h5 hrow f3' so pa pb pc pd hLs hn L M hx1 hy1 hSp hM E0 R hLX hLt hLe hXW
  obtain ⟨wz, rfl⟩ : ∃ wz, wz = wx := ⟨_, rfl⟩
  unfold maxLen at hc2
  go_wp2_with fail
  go_loopw [5, 20] (fun l5 i20 wr => ∃ (k : Nat) (N : List Sh), k ≤ Ls.length ∧ i20 = .int .i64 k ∧ Hid (N.map Sh.e = nub ((Ls.take k).map Sh.e)) ∧ (∀ z ∈ N, z ∈ Ls) ∧ AppS (fun b => b = w.heap.size + 1 + 1 + 1 ∨ wz.heap.size ≤ b) wr 131 4 N.length ((namedsV N).map D.raw) l5 ∧ (∃ g c, l5 = .slice (some ⟨g, 0, none⟩) N.length c) ∧
   MapAt Tryz.prog 9 kfS Value.bool wr (w.heap.size + 1 + 1 + 1 + 1) (N.map fun z => (z.e.text, true)) ∧ Spares (fun b => b = w.heap.size + 1 + 1 + 1 ∨ b = w.heap.size + 1 + 1 + 1 + 1) wz wr) (fun _ i _ => Ls.length - (intOf i).toNat)
  case atStart => exact ⟨0, [], by omega, rfl, by show _ = _; simp [nub, growL], by simp, AppS.empty E1 (Or.inl rfl), ⟨_, _, rfl⟩, hM1, Spares.refl _⟩
  case round =>
   obtain ⟨k, N, hk, rfl, HN, hsub, happ, ⟨lg, lc, rfl⟩, hMp, hSpr⟩ := hrel
   have hszr := hSpr.size
   by_cases hlt : k < Ls.length
   ·
    obtain ⟨z, hz⟩ : ∃ z, Ls[k]? = some z := ⟨_, List.getElem?_eq_getElem hlt⟩
    have hzm := List.mem_of_getElem? hz
    rcases Hrow.out with h | ⟨g, e9, hg1, hg2, rest, hblk⟩
    ·
     exfalso; rw [h] at hlt; simp at hlt
    subst e9
    have hbr := hblk.keep (hSpr.block g hg2 (by omega))
    have q : ∀ j v, z.cells[j]? = some v → wr.cell? ⟨g, k * 3 + j, none⟩ = some v := by
     intro j v hv
     have hj : j < 3 := by have := (List.getElem?_eq_some_iff.1 hv).1; simpa [Sh.cells] using this
     rw [hbr.cell, List.getElem?_append_left (by rw [shs_length]; omega), shs_at Ls k z hz j hj, hv]
    have q0 := q 0 _ rfl
    have q1 := q 1 _ rfl
    have q2 := q 2 _ rfl
    rw [Nat.add_zero] at q0
    obtain ⟨htz, hzs⟩ := HLt.out z hzm
    have hzX := hLX1.keep (KeptX.of_spares hSpr (fun b _ h => Or.inr (by omega))) z hzm
    have ha1 := Int.natCast_nonneg k
    have hb1 : (k : Int) < (Ls.length : Int) := by omega
    have hzk := Ex.size_eq z.e
    have hT := textOf_i (w := wr.alloc (.cells #[.int .i64 z.e.kind, .int .i64 z.e.num, .slice z.s z.e.kids.length z.c] 34)) (k := z.e.kind) (n := z.e.num) (hzX.rd.alloc _) ht ha (by rw [← Ex.eta]; exact htz) (by omega)
    rw [← Ex.eta z.e] at hT
    have HT := Lib.hid hT
    have hlb := text_bound tm am ht ha _ z.e (Nat.le_refl _) htz
    clear q hT
    go_wp2_with fail
    refine HT.out.mono ?_
    rintro e w2 ⟨rfl, hb⟩
    have hbw : Below wr.heap.size wr w2 := Below.on (by (repeat' first | exact Below.refl _ _ | assumption | apply Below.alloc | apply Below.drew | apply Below.setCell | omega | (simp; done) | (simp; omega))) hb (by simp)
    have hsz2 := hbw.size
    have hM2 := hMp.below hbw
    have happ2 := happ.keep (fun b hb _ => hbw.block b hb)
    have hSp2 := hSpr.trans (Spares.of_below hbw)
    have hL8 := (Blk.new3 wr 34 (.int .i64 z.e.kind) (.int .i64 z.e.num) (.slice z.s z.e.kids.length z.c)).below hb
    have hkey := keyS (t := z.e.text) (by omega)
    have hnod := hM2.nodup
    have hts : (Ls.take (k + 1)).map Sh.e = (Ls.take k).map Sh.e ++ [z.e] := by
     rw [List.take_succ_eq_append_getElem hlt, List.map_append, (List.getElem?_eq_some_iff.1 hz).2]
     rfl
    have Hts := Lib.hid hts
    have Hkey := Lib.hid hkey
    clear hb hMp happ hSpr q0 q1 q2 hblk hbr hts hkey
    by_cases hin : z.e ∈ N.map Sh.e
    ·
     have hfind : Hid (findM (N.map fun z => (z.e.text, true)) z.e.text = some true) := by
      obtain ⟨z', hz', hze⟩ := List.mem_map.1 hin
      obtain ⟨j, hj⟩ := List.mem_iff_getElem?.1 hz'
      exact findM_at hnod (j := j) (by rw [List.getElem?_map, hj]; simp [hze])
     have HN2 : Hid (N.map Sh.e = nub ((Ls.take (k + 1)).map Sh.e)) := by
      show _ = _
      rw [Hts.out, nub_snoc, grow1_old (by rw [← HN.out]; exact hin), HN.out]
     clear hin
     go_wp2_with (at_lookup; refine wpList_lookup_at _ rfl _ _ 74 false rfl 9 4 lawS Tryz.underlying74 (.bool false) (zeroB _) kfS_inj (w.heap.size + 1 + 1 + 1 + 1) hM2 z.e.text Hkey.out rfl rfl (some true) hfind.out ?_; simp only [lookV])
     go_roundw
     case rel => exact ⟨k + 1, N, by omega, by go_num, HN2, hsub, happ2, ⟨_, _, rfl⟩, hM2, hSp2⟩
     case measure => simp [intOf]; omega
    ·
     have hfind : Hid (findM (N.map fun z => (z.e.text, true)) z.e.text = none) := findM_none.2 (by
      intro p hp hpe
      obtain ⟨z', hz', rfl⟩ := List.mem_map.1 hp
      refine hin (List.mem_map.2 ⟨z', hz', ?_⟩)
      exact text_inj ht ha (HLt.out z' (hsub z' hz')).1 htz hpe)
     have HN2 : Hid ((N ++ [z]).map Sh.e = nub ((Ls.take (k + 1)).map Sh.e)) := by
      show _ = _
      rw [Hts.out, nub_snoc, grow1_new (by rw [← HN.out]; exact hin), List.map_append, HN.out]
      rfl
     clear hin
     have hNl : N.length ≤ 100000 := by
      have q := congrArg List.length HN.out
      rw [List.length_map] at q
      have q2 := nub_len ((Ls.take k).map Sh.e)
      rw [List.length_map, List.length_take] at q2
      omega
     have hS4 : ∀ b, (b = w.heap.size + 1 + 1 + 1 ∨ wz.heap.size ≤ b) → b ∉ [w.heap.size + 1 + 1 + 1 + 1] := by intro b h; simp; omega
     have HS4 := Lib.hid hS4
     have Hnod := Lib.hid hnod
     have HSp2 := Lib.hid hSp2
     have HL8 := Lib.hid hL8
     clear hS4 hnod hSp2 hL8
     go_wp2_with (first
      | (at_lookup; refine wpList_lookup_at _ rfl _ _ 74 false rfl 9 4 lawS Tryz.underlying74 (.bool false) (zeroB _) kfS_inj (w.heap.size + 1 + 1 + 1 + 1) hM2 z.e.text Hkey.out rfl rfl none hfind.out ?_; simp only [lookV])
      | (at_mapUpdate; go_must (refine (wpList_mapUpdate_at _ rfl _ _ _ 74 rfl 9 4 lawS Tryz.underlying74 kfS_inj (w.heap.size + 1 + 1 + 1 + 1) hM2 z.e.text Hkey.out true rfl rfl rfl ?_); intro w3 hM3 ho3; have hsz3 := ho3.size; have L83 := HL8.out.keep (ho3.block _ HL8.out.lt (by simp; omega)); have b0 := L83.c0; have b1 := L83.c1; have b2 := L83.c2; have happ3 := (happ2.keep (fun b hb h => ho3.block b hb (HS4.out b h))).keep (w' := w3.alloc (.cells #[.string (bs z.e.text), .int .i64 z.e.kind, .int .i64 z.e.num, .slice z.s z.e.kids.length z.c] 131)) (fun b hb _ => Below.heap_alloc w3 _ b hb); have Hnew := Lib.hid (news_blk (Blk.made w3 131 #[.string (bs z.e.text), .int .i64 z.e.kind, .int .i64 z.e.num, .slice z.s z.e.kids.length z.c])); have Ho3 := Lib.hid ho3; have HM3 := Lib.hid hM3; clear ho3 hM3 L83))
      | (at_builtin; go_must (refine wpList_append_s _ rfl _ _ 128 rfl 131 (.agg #[.string ⟨#[]⟩, .int .i64 0, .int .i64 0, .slice none 0 0]) 4 56 Tryz.underlying128 info_named rfl (by decide) (S := fun b => b = w.heap.size + 1 + 1 + 1 ∨ wz.heap.size ≤ b) (T := fun _ => False) _ rfl happ3 ⟨w3.heap.size, 0, none⟩ 1 1 z.named rfl Hnew.out ⟨[], Ows.raws (named_one z), by simp, by simp⟩ (fun _ _ _ h => h) rfl (named_one z) (by omega) (by omega) (by unfold maxLen; omega) ?_; intro g5 c5 w5 hap5 ht5)))
     go_roundw
     case rel =>
      have ho3 := Ho3.out
      have hM3 := HM3.out
      have hsp3 : Spares (fun b => b = w.heap.size + 1 + 1 + 1 ∨ b = w.heap.size + 1 + 1 + 1 + 1) w2 (w3.alloc (.cells #[.string (bs z.e.text), .int .i64 z.e.kind, .int .i64 z.e.num, .slice z.s z.e.kids.length z.c] 131)) :=
       Spares.trans ⟨ho3.os, ho3.tape, ho3.output, ho3.size, fun b hb h => ho3.block b hb (by simp; omega)⟩ (Spares.of_below (Below.alloc (Below.refl _ _) (Nat.le_refl _) _))
      rw [putM_new hfind.out] at hM3
      have hM4 := hM3.keep (w' := w3.alloc (.cells #[.string (bs z.e.text), .int .i64 z.e.kind, .int .i64 z.e.num, .slice z.s z.e.kids.length z.c] 131)) (Below.heap_alloc w3 _ _ hM3.lt)
      have hlt4 := hM3.lt
      have hs3 : (w3.alloc (.cells #[.string (bs z.e.text), .int .i64 z.e.kind, .int .i64 z.e.num, .slice z.s z.e.kids.length z.c] 131)).heap.size = w3.heap.size + 1 := by simp
      refine ⟨k + 1, N ++ [z], by omega, by go_num, HN2, fun q hq => ?_, ?_, ⟨g5, c5, by simp⟩, ?_, ?_⟩
      ·
       rcases List.mem_append.1 hq with h | h
       ·
        exact hsub q h
       ·
        rw [List.mem_singleton] at h; rw [h]; exact hzm
      ·
       rw [List.length_append, namedsV_snoc]
       exact hap5.more (fun b _ h => h.elim id (fun h => h.elim (fun h => h.elim) (fun h => Or.inr (by omega))))
      ·
       rw [List.map_append]
       exact hM4.keep (ht5.block _ (by omega) (by omega))
      ·
       have q := (HSp2.out.trans hsp3).size
       refine ⟨ht5.os.trans (HSp2.out.trans hsp3).os, ht5.tape.trans (HSp2.out.trans hsp3).tape, ht5.output.trans (HSp2.out.trans hsp3).output, Nat.le_trans q ht5.size, fun b hb h => ?_⟩
       exact (ht5.block b (by omega) (by omega)).trans ((HSp2.out.trans hsp3).block b hb h)
     case measure => simp [intOf]; omega
   ·
    obtain rfl : k = Ls.length := by omega
    have hNe := HN.out
    rw [List.take_length, HLe.out] at hNe
    obtain ⟨hlg, hcc1, hcc2, rest, hblk⟩ := happ.blk
    have hNl : N.length ≤ 100000 := by
     have q := congrArg List.length HN.out
     rw [List.length_map] at q
     have q2 := nub_len ((Ls.take Ls.length).map Sh.e)
     rw [List.length_map, List.length_take] at q2
     omega
    unfold maxLen at hcc2
    have R2 := R1.keep (hSpr.block _ R1.lt (by omega))
    have hBr : Below w.heap.size w wr := hBx.trans ((hSpr.below (B := w.heap.size) (by omega) (fun b h => by omega)))
    have hKbr : KeptX (XB X w.heap.size 5) wb wr := hKb0.trans (KeptX.of_spares hSpr (fun b _ h => Or.inr (by omega)))
    have hlgl := hblk.lt
    clear hMp happ HN hSpr R1 hLX1 Hrow
    obtain ⟨wo, rfl⟩ : ∃ v, v = wr := ⟨_, rfl⟩
    go_wp2_with fail
    refine (sort_named hblk (by omega)).mono ?_
    rintro f w5 ⟨rfl, N', hp, hso, hcell, hsp⟩
    have hNe' : N'.map Sh.e = sortI (nub (x.summ ++ y.summ)) := by
     refine sortI_unique ht ha (fun q hq => ?_) (by rw [← hNe]; exact hp.map Sh.e) (List.pairwise_map.2 hso)
     have := nub_mem.1 hq
     rw [← HLe.out] at this
     obtain ⟨z, hz, rfl⟩ := List.mem_map.1 this
     exact (HLt.out z hz).1
    have hZ : Z = foldS (N'.map Sh.e) := by rw [HZ.out, sumT, hNe']
    have hlN := hp.length_eq
    have hKb5 : KeptX (XB X w.heap.size 5) wb w5 := ⟨Nat.le_trans hKbr.1 hsp.size, fun b hb hx => (hsp.block b (Nat.lt_of_lt_of_le hb hKbr.1) (fun e => by
     rcases hlg with h | h
     ·
      exact hx (Or.inr (by omega))
     ·
      omega)).trans (hKbr.2 b hb hx)⟩
    have hNX5 : ShX (XB X w.heap.size 5) w5 N' := fun q hq => (HLX.out q (hsub q (hp.mem_iff.1 hq))).keep hKb5
    have R5 := R2.keep (hsp.block _ R2.lt (by omega))
    have hB5' : Below w.heap.size w w5 := hBr.trans (hsp.below (B := w.heap.size) (by omega) (fun b h => by omega))
    have hsz5 := hsp.size
    have HZ2 := Lib.hid hZ
    clear hblk hp hso hNe hNe' R2 hBr HZ hZ hKbr hKb5 hKb0
    cases N' with
    | nil =>
     have h0 : N.length = 0 := by simpa using hlN.symm
     have c0 : ((N.length : Int) == 0) = true := by simp [h0]
     have E1 : Hid (Z = .leaf 1) := by show _ = _; rw [HZ2.out]; rfl
     go_wp2_with fail
     refine (leaf_i).mono ?_
     rintro f w6 ⟨rfl, hb⟩
     have hB := Below.on hB5' hb hB5'.size
     have R := R5.below hb
     -- the result box w.heap.size + 1 + 1 of world w6 is set to an expression; goal: bodyPost. R : the box; Rests: hs5 : Spares, T2
     have r0 := R.c0
     have r1 := R.c1
     have r2 := R.c2
     have z0 := R.frozen 0
     have z1 := R.frozen 1
     have z2 := R.frozen 2
     have ltR := R.lt
     go_wp2_with fail
     have T2 := ((R.set 0 (.int .i64 1)).set 1 (.int .i64 0)).set 2 (.slice none 0 0)
     have hs5 : Spares (fun y => y = w.heap.size + 1 + 1) w6 (((w6.setCell ⟨w.heap.size + 1 + 1, 0, none⟩ (.int .i64 1)).setCell ⟨w.heap.size + 1 + 1, 1, none⟩ (.int .i64 0)).setCell ⟨w.heap.size + 1 + 1, 2, none⟩ (.slice none 0 0)) := Spares.set (Spares.set (Spares.set (Spares.refl w6)))
     generalize (((w6.setCell ⟨w.heap.size + 1 + 1, 0, none⟩ (.int .i64 1)).setCell ⟨w.heap.size + 1 + 1, 1, none⟩ (.int .i64 0)).setCell ⟨w.heap.size + 1 + 1, 2, none⟩ (.slice none 0 0)) = w5 at T2 hs5 ⊢
     have t0 := T2.c0
     have t1 := T2.c1
     have t2 := T2.c2
     have hzB5 := hB.size
     have hB5 := hB.trans (hs5.below (B := w.heap.size) (by omega) (fun y hy => by omega))
     refine bodyPost_ret (v := .agg #[.int .i64 1, .int .i64 0, .slice none 0 0]) (by simp [results, Tryz.results63, go_sem, t0, t1, t2]) rfl ?_
     rw [E1.out]
     exact ⟨_, _, rfl, kidsD_nil, hB5⟩
    | cons y0 rs =>
     have hn1 : N.length = rs.length + 1 := by simpa using hlN.symm
     have c0 : ((N.length : Int) == 0) = false := beq_eq_false_iff_ne.2 (by omega)
     have q : ∀ j v, y0.named[j]? = some v → w5.cell? ⟨lg, j, none⟩ = some v := fun j v hv => by have := hcell 0 y0 rfl j v hv; rwa [Nat.zero_mul, Nat.zero_add] at this
     have q1 := q 1 _ rfl
     have q2 := q 2 _ rfl
     have q3 := q 3 _ rfl
     have hbd1 : (0 : Int) < (N.length : Int) := by omega
     have hbd2 : (1 : Int) ≤ (N.length : Int) := by omega
     clear q
     have O := Blk.new3 w5 34 (.int .i64 y0.e.kind) (.int .i64 y0.e.num) (.slice y0.s y0.e.kids.length y0.c)
     have hb1 : Below w5.heap.size w5 (w5.alloc (.cells #[.int .i64 y0.e.kind, .int .i64 y0.e.num, .slice y0.s y0.e.kids.length y0.c] 34)) := by (repeat' first | exact Below.refl _ _ | assumption | apply Below.alloc | apply Below.drew | apply Below.setCell | omega | (simp; done) | (simp; omega))
     go_wp2_with fail
     ·
      skip
      generalize hwy : w5.alloc (.cells #[.int .i64 y0.e.kind, .int .i64 y0.e.num, .slice y0.s y0.e.kids.length y0.c] 34) = wy at O hb1 ⊢
      have hzy : w5.heap.size < wy.heap.size := O.lt
      obtain ⟨ob, hob⟩ : ∃ ob, ob = w5.heap.size := ⟨_, rfl⟩
      rw [← hob] at O hzy ⊢
      have hlgo : lg < ob := by omega
      have hNQ : ∀ z ∈ y0 :: rs, ExX (fun b => XB X w.heap.size 5 b ∨ b = ob) wy z.e z.s z.c := fun z hz => ((hNX5 z hz).less (fun b hb h => h.elim id (fun e => by omega))).below hb1
      have hcy : ∀ i z, (y0 :: rs)[i]? = some z → ∀ j v, z.named[j]? = some v → wy.cell? ⟨lg, i * 4 + j, none⟩ = some v := fun i z hz j v hv => (hb1.cell (p := ⟨lg, i * 4 + j, none⟩) (by show lg < _; omega)).trans (hcell i z hz j v hv)
      have Hcy := Lib.hid hcy
      have Hob := Lib.hid hob
      have R6 := R5.below hb1
      have hBy := Below.on hB5' hb1 hB5'.size
      have hoby : w.heap.size + 5 ≤ ob := by have := hsz5; omega
      clear hcy hob q1 q2 q3 hcell hsp hNX5 hb1 hwy R5 hB5' c0
      go_loopw [52] (fun i wq => ∃ (k : Nat) (s : Option Addr) (c : Nat) (A : Ex), k ≤ rs.length ∧ i = .int .i64 k ∧ Hid (A = ((rs.take k).map Sh.e).foldl (fun a b => Ex.two 6 a b) y0.e) ∧ Blk wq ob 34 [.int .i64 A.kind, .int .i64 A.num, .slice s A.kids.length c] ∧
       ExX (fun b => XB X w.heap.size 5 b ∨ b = ob) wq A s c ∧ Spares (fun b => b = ob) wy wq) (fun i _ => rs.length - (intOf i).toNat)
      case atStart => exact ⟨0, y0.s, y0.c, y0.e, by omega, rfl, by show _ = _; simp, O, hNQ y0 (by simp), Spares.refl _⟩
      case round =>
       obtain ⟨k, s, c, A, hk, rfl, HA, OA, hAX, hSq⟩ := hrel
       have hszq := hSq.size
       by_cases hlt : k < rs.length
       ·
        skip
        (exfalso; omega)
       ·
        obtain rfl : k = rs.length := by omega
        have o0 := OA.c0
        have o1 := OA.c1
        have o2 := OA.c2
        have R := R6.keep (hSq.block _ R6.lt (by omega))
        have hB := hBy.trans (hSq.below (B := w.heap.size) hBy.size (fun b h => by omega))
        have E1 : Hid (Z = A) := by
         show _ = _
         rw [HZ2.out, HA.out, List.take_length]
         rfl
        clear HA
        -- the result box w.heap.size + 1 + 1 of world wr is set to an expression; goal: bodyPost. R : the box; Rests: hs5 : Spares, T2
        have r0 := R.c0
        have r1 := R.c1
        have r2 := R.c2
        have z0 := R.frozen 0
        have z1 := R.frozen 1
        have z2 := R.frozen 2
        have ltR := R.lt
        go_wp2_with fail
        have T2 := ((R.set 0 (.int .i64 A.kind)).set 1 (.int .i64 A.num)).set 2 (.slice s A.kids.length c)
        have hs5 : Spares (fun y => y = w.heap.size + 1 + 1) wr (((wr.setCell ⟨w.heap.size + 1 + 1, 0, none⟩ (.int .i64 A.kind)).setCell ⟨w.heap.size + 1 + 1, 1, none⟩ (.int .i64 A.num)).setCell ⟨w.heap.size + 1 + 1, 2, none⟩ (.slice s A.kids.length c)) := Spares.set (Spares.set (Spares.set (Spares.refl wr)))
        generalize (((wr.setCell ⟨w.heap.size + 1 + 1, 0, none⟩ (.int .i64 A.kind)).setCell ⟨w.heap.size + 1 + 1, 1, none⟩ (.int .i64 A.num)).setCell ⟨w.heap.size + 1 + 1, 2, none⟩ (.slice s A.kids.length c)) = w5 at T2 hs5 ⊢
        have t0 := T2.c0
        have t1 := T2.c1
        have t2 := T2.c2
        have hzB5 := hB.size
        have hB5 := hB.trans (hs5.below (B := w.heap.size) (by omega) (fun y hy => by omega))
        refine bodyPost_ret (v := .agg #[.int .i64 A.kind, .int .i64 A.num, .slice s A.kids.length c]) (by simp [results, Tryz.results63, go_sem, t0, t1, t2]) rfl ?_
        rw [E1.out]
        exact ⟨_, _, rfl, (hAX.keep (KeptX.of_spares hs5 (fun b _ h => Or.inl (Or.inr (by omega))))).less (fun b hb h => Or.inl (Or.inl h)), hB5⟩
     ·
      skip
      generalize hwy : w5.alloc (.cells #[.int .i64 y0.e.kind, .int .i64 y0.e.num, .slice y0.s y0.e.kids.length y0.c] 34) = wy at O hb1 ⊢
      have hzy : w5.heap.size < wy.heap.size := O.lt
      obtain ⟨ob, hob⟩ : ∃ ob, ob = w5.heap.size := ⟨_, rfl⟩
      rw [← hob] at O hzy ⊢
      have hlgo : lg < ob := by omega
      have hNQ : ∀ z ∈ y0 :: rs, ExX (fun b => XB X w.heap.size 5 b ∨ b = ob) wy z.e z.s z.c := fun z hz => ((hNX5 z hz).less (fun b hb h => h.elim id (fun e => by omega))).below hb1
      have hcy : ∀ i z, (y0 :: rs)[i]? = some z → ∀ j v, z.named[j]? = some v → wy.cell? ⟨lg, i * 4 + j, none⟩ = some v := fun i z hz j v hv => (hb1.cell (p := ⟨lg, i * 4 + j, none⟩) (by show lg < _; omega)).trans (hcell i z hz j v hv)
      have Hcy := Lib.hid hcy
      have Hob := Lib.hid hob
      have R6 := R5.below hb1
      have hBy := Below.on hB5' hb1 hB5'.size
      have hoby : w.heap.size + 5 ≤ ob := by have := hsz5; omega
      clear hcy hob q1 q2 q3 hcell hsp hNX5 hb1 hwy R5 hB5' c0
      go_loopw [52] (fun i wq => ∃ (k : Nat) (s : Option Addr) (c : Nat) (A : Ex), k ≤ rs.length ∧ i = .int .i64 k ∧ Hid (A = ((rs.take k).map Sh.e).foldl (fun a b => Ex.two 6 a b) y0.e) ∧ Blk wq ob 34 [.int .i64 A.kind, .int .i64 A.num, .slice s A.kids.length c] ∧
       ExX (fun b => XB X w.heap.size 5 b ∨ b = ob) wq A s c ∧ Spares (fun b => b = ob) wy wq) (fun i _ => rs.length - (intOf i).toNat)
      case atStart => exact ⟨0, y0.s, y0.c, y0.e, by omega, rfl, by show _ = _; simp, O, hNQ y0 (by simp), Spares.refl _⟩
      case round =>
       obtain ⟨k, s, c, A, hk, rfl, HA, OA, hAX, hSq⟩ := hrel
       have hszq := hSq.size
       by_cases hlt : k < rs.length
       ·
        skip
        obtain ⟨z, hz⟩ : ∃ z, (y0 :: rs)[k + 1]? = some z := ⟨_, List.getElem?_eq_getElem (by simp; omega)⟩
        have hzr : rs[k]? = some z := by simpa using hz
        have hlg2 : wr.heap[lg]? = wy.heap[lg]? := hSq.block lg (by omega) (by omega)
        have q : ∀ j v, z.named[j]? = some v → wr.cell? ⟨lg, (k + 1) * 4 + j, none⟩ = some v := fun j v hv => (World.cell?_of_block (w := wy) (w' := wr) (a := ⟨lg, (k + 1) * 4 + j, none⟩) hlg2).trans (Hcy.out (k + 1) z hz j v hv)
        have q0 := q 0 _ rfl
        have q1 := q 1 _ rfl
        have q2 := q 2 _ rfl
        have q3 := q 3 _ rfl
        rw [show (k + 1) * 4 + 0 = 4 + k * 4 by omega] at q0
        rw [show (k + 1) * 4 + 1 = 4 + k * 4 + 1 by omega] at q1
        rw [show (k + 1) * 4 + 2 = 4 + k * 4 + 2 by omega] at q2
        rw [show (k + 1) * 4 + 3 = 4 + k * 4 + 3 by omega] at q3
        have hza := (hNQ z (List.mem_of_getElem? hz)).keep (KeptX.of_spares hSq (fun b _ h => Or.inr h))
        have ha1 := Int.natCast_nonneg k
        have hb1 : (k : Int) < (rs.length : Int) := by omega
        have o0 := OA.c0
        have o1 := OA.c1
        have o2 := OA.c2
        have hA2 : Hid (Ex.two 6 A z.e = ((rs.take (k + 1)).map Sh.e).foldl (fun a b => Ex.two 6 a b) y0.e) := by
         show _ = _
         rw [List.take_succ_eq_append_getElem hlt, List.map_append, List.foldl_append, ← HA.out, (List.getElem?_eq_some_iff.1 hzr).2]
         rfl
        have ltO := OA.lt
        have HzX := Lib.hid hza
        clear q HA hz hzr hza
        go_wp2_with fail
        have NB : Blk ((wr.alloc (.cells #[.string (bs z.e.text), .int .i64 z.e.kind, .int .i64 z.e.num, .slice z.s z.e.kids.length z.c] 131)).alloc (.cells #[.int .i64 A.kind, .int .i64 A.num, .slice s A.kids.length c, .int .i64 z.e.kind, .int .i64 z.e.num, .slice z.s z.e.kids.length z.c] 34)) (wr.heap.size + 1) 34 [.int .i64 A.kind, .int .i64 A.num, .slice s A.kids.length c, .int .i64 z.e.kind, .int .i64 z.e.num, .slice z.s z.e.kids.length z.c] := by
         have q := Blk.made (wr.alloc (.cells #[.string (bs z.e.text), .int .i64 z.e.kind, .int .i64 z.e.num, .slice z.s z.e.kids.length z.c] 131)) 34 #[.int .i64 A.kind, .int .i64 A.num, .slice s A.kids.length c, .int .i64 z.e.kind, .int .i64 z.e.num, .slice z.s z.e.kids.length z.c]
         simpa using q
        have hbw : Below wr.heap.size wr ((wr.alloc (.cells #[.string (bs z.e.text), .int .i64 z.e.kind, .int .i64 z.e.num, .slice z.s z.e.kids.length z.c] 131)).alloc (.cells #[.int .i64 A.kind, .int .i64 A.num, .slice s A.kids.length c, .int .i64 z.e.kind, .int .i64 z.e.num, .slice z.s z.e.kids.length z.c] 34)) := by (repeat' first | exact Below.refl _ _ | assumption | apply Below.alloc | apply Below.drew | apply Below.setCell | omega | (simp; done) | (simp; omega))
        generalize (wr.alloc (.cells #[.string (bs z.e.text), .int .i64 z.e.kind, .int .i64 z.e.num, .slice z.s z.e.kids.length z.c] 131)).alloc (.cells #[.int .i64 A.kind, .int .i64 A.num, .slice s A.kids.length c, .int .i64 z.e.kind, .int .i64 z.e.num, .slice z.s z.e.kids.length z.c] 34) = w6 at NB hbw ⊢
        refine (tree_i).mono ?_
        rintro f w7 ⟨rfl, hb⟩
        have hb7 : Below wr.heap.size wr w7 := hbw.trans (hb.mono hbw.size)
        replace NB := NB.below hb
        have O7 := OA.below hb7
        have hA7 := hAX.below hb7
        have hz7 := HzX.out.below hb7
        have hk7 := kidsD_two NB (X := fun b => XB X w.heap.size 5 b ∨ b = ob) (fun q => by
         rcases q with (q | q) | q
         ·
          have := hX _ q; omega
         ·
          omega
         ·
          omega) hA7 hz7
        have y0' := O7.c0
        have y1' := O7.c1
        have y2' := O7.c2
        have x0 := O7.frozen 0
        have x1 := O7.frozen 1
        have x2 := O7.frozen 2
        have ltO7 := O7.lt
        clear hb hbw NB q0 q1 q2 q3 o0 o1 o2
        go_wp2_with fail
        have T2 := ((O7.set 0 (.int .i64 6)).set 1 (.int .i64 0)).set 2 (.slice (some ⟨wr.heap.size + 1, 0, none⟩) 2 2)
        have hs5 : Spares (fun y => y = ob) w7 (((w7.setCell ⟨ob, 0, none⟩ (.int .i64 6)).setCell ⟨ob, 1, none⟩ (.int .i64 0)).setCell ⟨ob, 2, none⟩ (.slice (some ⟨wr.heap.size + 1, 0, none⟩) 2 2)) := Spares.set (Spares.set (Spares.set (Spares.refl w7)))
        go_roundw
        case rel => exact ⟨k + 1, some ⟨wr.heap.size + 1, 0, none⟩, 2, .two 6 A z.e, by omega, by go_num, hA2, T2, hk7.keep (KeptX.of_spares hs5 (fun b _ h => Or.inr h)), (hSq.trans (Spares.of_below hb7)).trans hs5⟩
        case measure => simp [intOf]; omega
       ·
        obtain rfl : k = rs.length := by omega
        have o0 := OA.c0
        have o1 := OA.c1
        have o2 := OA.c2
        have R := R6.keep (hSq.block _ R6.lt (by omega))
        have hB := hBy.trans (hSq.below (B := w.heap.size) hBy.size (fun b h => by omega))
        have E1 : Hid (Z = A) := by
         show _ = _
         rw [HZ2.out, HA.out, List.take_length]
         rfl
        clear HA
        -- the result box w.heap.size + 1 + 1 of world wr is set to an expression; goal: bodyPost. R : the box; Rests: hs5 : Spares, T2
        have r0 := R.c0
        have r1 := R.c1
        have r2 := R.c2
        have z0 := R.frozen 0
        have z1 := R.frozen 1
        have z2 := R.frozen 2
        have ltR := R.lt
        go_wp2_with fail
        have T2 := ((R.set 0 (.int .i64 A.kind)).set 1 (.int .i64 A.num)).set 2 (.slice s A.kids.length c)
        have hs5 : Spares (fun y => y = w.heap.size + 1 + 1) wr (((wr.setCell ⟨w.heap.size + 1 + 1, 0, none⟩ (.int .i64 A.kind)).setCell ⟨w.heap.size + 1 + 1, 1, none⟩ (.int .i64 A.num)).setCell ⟨w.heap.size + 1 + 1, 2, none⟩ (.slice s A.kids.length c)) := Spares.set (Spares.set (Spares.set (Spares.refl wr)))
        generalize (((wr.setCell ⟨w.heap.size + 1 + 1, 0, none⟩ (.int .i64 A.kind)).setCell ⟨w.heap.size + 1 + 1, 1, none⟩ (.int .i64 A.num)).setCell ⟨w.heap.size + 1 + 1, 2, none⟩ (.slice s A.kids.length c)) = w5 at T2 hs5 ⊢
        have t0 := T2.c0
        have t1 := T2.c1
        have t2 := T2.c2
        have hzB5 := hB.size
        have hB5 := hB.trans (hs5.below (B := w.heap.size) (by omega) (fun y hy => by omega))
        refine bodyPost_ret (v := .agg #[.int .i64 A.kind, .int .i64 A.num, .slice s A.kids.length c]) (by simp [results, Tryz.results63, go_sem, t0, t1, t2]) rfl ?_
        rw [E1.out]
        exact ⟨_, _, rfl, (hAX.keep (KeptX.of_spares hs5 (fun b _ h => Or.inl (Or.inr (by omega))))).less (fun b hb h => Or.inl (Or.inl h)), hB5⟩
end Go.Proofs.YtcokljhamhgelaaGreatDoor
