/-
  Parts of a proof, joined: Sorted. No condition.
-/
import Derived.Test.YtcokljhamhgelaaGreatDoorPk13
namespace Go.Proofs.YtcokljhamhgelaaGreatDoor
set_option linter.unusedVariables false
set_option linter.unusedSimpArgs false
open Go.ChangeShapes Go.WideShapes Go.ChangeAt Go.RowKit Go.Deep Go.Sort
theorem bytesLess_lt : ∀ a b : List UInt8, Op.bytesLess a b = decide (a < b)
 | [], [] => by simp [Op.bytesLess]
 | [], y :: b => by simp [Op.bytesLess]
 | x :: a, [] => by simp [Op.bytesLess]
 | x :: a, y :: b => by
  rw [Op.bytesLess, bytesLess_lt a b]
  by_cases h1 : x < y
  ·
   simp [h1, List.cons_lt_cons_iff]
  ·
   by_cases h2 : x = y
   ·
    subst h2; simp [h1, List.cons_lt_cons_iff]
   ·
    simp [h1, h2, List.cons_lt_cons_iff]
theorem Ows.raws_one {w : World} : ∀ {us : List Value} {F : List Nat}, Ows w (us.map D.raw) us F → ∀ u ∈ us, u.oneCell' = true
 | [], _, _, u, hu => by simp at hu
 | a :: r, F, h, u, hu => by
  simp only [List.map_cons, Ows, Ow] at h
  obtain ⟨x, r', G, K, e1, e2, ⟨⟨rfl, ha⟩, rfl⟩, h⟩ := h
  simp only [List.cons.injEq] at e1
  obtain ⟨-, rfl⟩ := e1
  rcases List.mem_cons.1 hu with rfl | hu
  ·
   exact ha
  ·
   exact Ows.raws_one h u hu
theorem AppS.cut {S : Nat → Prop} {w : World} {t size n g c : Nat} {us : List Value} (h : AppS S w t size n (us.map D.raw) (.slice (some ⟨g, 0, none⟩) n c)) {m : Nat} (hm : m ≤ n) :
  AppS S w t size m ((us.take (m * size)).map D.raw) (.slice (some ⟨g, 0, none⟩) m c) := by
 obtain ⟨xs, F, h1, h2, h3, h4, h5⟩ := h
 have hx := Rds.raws h2.rds
 subst hx
 have ho := h2.raws_one
 have hl : xs.length = n * size := h1.1
 have hms : m * size ≤ n * size := Nat.mul_le_mul_right _ hm
 rcases h1.2 with ⟨h, -⟩ | ⟨g', cap, cur, e, -, hb, k1, k2, k3, k4⟩
 ·
  simp at h
 ·
  simp only [Value.slice.injEq, Option.some.injEq, Addr.mk.injEq, and_true, true_and] at e
  obtain ⟨rfl, rfl⟩ := e
  refine ⟨xs.take (m * size), [], ⟨by rw [List.length_take]; omega, Or.inr ⟨g, c, cur, rfl, Nat.zero_le _, hb, by omega, k2, k3, ?_⟩⟩, Ows.raws fun u hu => ho u (List.mem_of_mem_take hu), by simp, by simp, h5⟩
  rw [← k4, List.take_take, Nat.min_eq_left hms]
theorem AppS.only {S : Nat → Prop} {w : World} {t size n g c : Nat} {us : List Value} (h : AppS S w t size n (us.map D.raw) (.slice (some ⟨g, 0, none⟩) n c)) : AppS (fun b => b = g) w t size n (us.map D.raw) (.slice (some ⟨g, 0, none⟩) n c) := by
 obtain ⟨xs, F, h1, h2, h3, h4, h5⟩ := h
 have hx := Rds.raws h2.rds
 subst hx
 refine ⟨xs, [], h1, ?_, by simp, by simp, fun b hb => by simp [Value.ownBlock] at hb; exact hb.symm⟩
 exact Ows.raws h2.raws_one
theorem wpList_append_raw {P : Program} (w : World) {ops : Array Oper} {rest : List Oper} {o : Oper} {a : Act} {Q : Exit → Act → World → Prop} (hgd : o.guard = none) (s x : Operand) (t : TypeId)
  (ho : o.op = .call { callee := .builtin .append, args := #[s, x], argTypes := #[t, t] })
  (e : TypeId) (z : Value) (size bytes : Nat) (ht : P.underlying t = some (.slice e)) (hinfo : (P.info? e).map (fun i => (i.zero, i.size, i.bytes)) = some (some z, size, bytes)) (hzs : z.cells.size = size) (hsz : 0 < size)
  {S : Nat → Prop} {g n c : Nat} {us : List Value} (hs : a.eval s = .slice (some ⟨g, 0, none⟩) n c) (happ : AppS S w e size n (us.map D.raw) (.slice (some ⟨g, 0, none⟩) n c))
  (ad : Addr) (sa : Option Addr) (m c' : Nat) (news : List Value) (hx : a.eval x = .slice sa m c') (hsa : sa = some ad) (hnews : ∀ j u, news[j]? = some u → w.cell? (ad.add j) = some u)
  (hl : news.length = m * size) (h1 : ∀ u ∈ news, u.oneCell' = true) (hbytes : (n + m) * bytes ≤ 140737488355328) (h63 : n + m ≤ maxLen)
  (h : ∀ g' cap w', (g' = g ∨ w.heap.size ≤ g') → AppS (fun b => b = g') w' e size (n + m) ((us ++ news).map D.raw) (.slice (some ⟨g', 0, none⟩) (n + m) cap) → Spares (fun b => b = g) w w' →
   wpList P ops Q rest (a.put o.dst (.slice (some ⟨g', 0, none⟩) (n + m) cap)) w') : wpList P ops Q (o :: rest) a w := by
 subst hsa
 obtain ⟨i, hi, hz, hsize, hby⟩ := info_parts hinfo
 obtain ⟨xs, F, h1', h2, h3, h4, h5⟩ := happ
 have hxs := Rds.raws h2.rds
 subst hxs
 refine wpList_append_own_at w hgd s x t ho 0 e i z size bytes ht hi hz hsize hby hzs hsz _ n xs hs h1' ad m c' news hx hl hnews h1 h63 hbytes (Nat.zero_le _) ?_
 intro v' w' k1 k2 k3 k4
 have hne : v' ≠ .slice none 0 0 := fun e => by have := (k3.1 e).1; simp at this
 rcases k1.2 with ⟨e, -⟩ | ⟨g', cap, cur, rfl, -, hb, q1, q2, q3, q4⟩
 ·
  exact absurd e hne
 have hw : ∀ u ∈ xs ++ news, u.oneCell' = true := by
  intro u hu
  rcases List.mem_append.1 hu with hu | hu
  ·
   exact h2.raws_one u hu
  ·
   exact h1 u hu
 refine h g' cap w' ?_ ⟨_, [], k1, Ows.raws hw, by simp, by simp, fun b hb => by simp [Value.ownBlock] at hb; exact hb.symm⟩ ⟨k2.os, k2.tape, k2.output, k2.size, fun b hb hn => k2.block b hb (fun e => hn (by simpa [Value.ownBlock] using e))⟩
 rcases k4 with k4 | k4
 ·
  left; simpa [Value.ownBlock] using k4
 ·
  right; have : g' = w.heap.size := by simpa [Value.ownBlock] using k4
  omega
def placeS (z : Sh) (A : List Sh) : Nat := (A.takeWhile (fun y : Sh => y.e.lt z.e)).length
def insS (z : Sh) (A : List Sh) : List Sh := A.take (placeS z A) ++ z :: A.drop (placeS z A)
theorem takeWhile_map_len (p : Ex → Bool) : ∀ A : List Sh, (A.takeWhile (fun y : Sh => p y.e)).length = ((A.map Sh.e).takeWhile p).length
 | [] => rfl
 | x :: r => by
  by_cases h : p x.e = true
  ·
   rw [List.takeWhile_cons_of_pos (p := fun y : Sh => p y.e) h, List.map_cons, List.takeWhile_cons_of_pos h, List.length_cons, List.length_cons, takeWhile_map_len p r]
  ·
   rw [List.takeWhile_cons_of_neg (p := fun y : Sh => p y.e) h, List.map_cons, List.takeWhile_cons_of_neg h]; rfl
theorem takeWhile_take (p : Ex → Bool) : ∀ A : List Ex, A.take (A.takeWhile p).length = A.takeWhile p ∧ A.drop (A.takeWhile p).length = A.dropWhile p
 | [] => ⟨rfl, rfl⟩
 | x :: r => by
  by_cases h : p x = true
  ·
   rw [List.takeWhile_cons_of_pos h, List.dropWhile_cons_of_pos h]
   simp [takeWhile_take p r]
  ·
   rw [List.takeWhile_cons_of_neg h, List.dropWhile_cons_of_neg h]
   simp
theorem insS_e (z : Sh) (A : List Sh) : (insS z A).map Sh.e = insT z.e (A.map Sh.e) := by
 unfold insS insT placeS
 rw [List.map_append, List.map_cons, List.map_take, List.map_drop, takeWhile_map_len (fun x : Ex => x.lt z.e) A]
 obtain ⟨h1, h2⟩ := takeWhile_take (fun x : Ex => x.lt z.e) (A.map Sh.e)
 rw [h1, h2]
theorem placeS_eq (z : Sh) : ∀ (A : List Sh) (j : Nat), j ≤ A.length → (∀ m, m < j → ∀ y, A[m]? = some y → y.e.lt z.e = true) → (∀ y, A[j]? = some y → y.e.lt z.e = false) → placeS z A = j
 | [], j, hj, _, _ => by simp at hj; subst hj; rfl
 | x :: r, 0, _, _, h => by
  have := h x rfl
  unfold placeS
  rw [List.takeWhile_cons_of_neg (p := fun y : Sh => y.e.lt z.e) (by simp [this])]
  rfl
 | x :: r, j + 1, hj, h1, h2 => by
  have := h1 0 (by omega) x rfl
  have ih := placeS_eq z r j (by simpa using hj) (fun m hm y hy => h1 (m + 1) (by omega) y (by simpa using hy)) (fun y hy => h2 y (by simpa using hy))
  unfold placeS at ih ⊢
  rw [List.takeWhile_cons_of_pos (p := fun y : Sh => y.e.lt z.e) this, List.length_cons, ih]
theorem insS_mem {z q : Sh} {A : List Sh} (h : q ∈ insS z A) : q = z ∨ q ∈ A := by
 unfold insS at h
 rcases List.mem_append.1 h with h | h
 ·
  exact Or.inr (List.mem_of_mem_take h)
 ·
  rcases List.mem_cons.1 h with h | h
  ·
   exact Or.inl h
  ·
   exact Or.inr (List.mem_of_mem_drop h)
theorem from_at {g c n j o : Nat} (hj : j ≤ n) (hn : n ≤ c) : ∃ ad, (if c = j then some (⟨g, 0, none⟩ : Addr) else some ⟨g, o, none⟩) = some ad ∧ (n - j = 0 ∨ ad = ⟨g, o, none⟩) := by
 by_cases h : c = j
 ·
  exact ⟨⟨g, 0, none⟩, if_pos h, Or.inl (by omega)⟩
 ·
  exact ⟨⟨g, o, none⟩, if_neg h, Or.inr rfl⟩
theorem bs_list (l : List UInt8) : (bs l).toList = l := by
 rw [ByteArray.toList_eq]
 rfl
theorem row_news {w : World} {g t n j size : Nat} {us rest : List Value} {ad : Addr} (hb : Blk w g t (us ++ rest)) (hl : us.length = n * size) (hj : j ≤ n) (h : n - j = 0 ∨ ad = ⟨g, j * size, none⟩) : ∀ i u, (us.drop (j * size))[i]? = some u → w.cell? (ad.add i) = some u := by
 intro i u hu
 rcases h with h | rfl
 ·
  exfalso
  have : j = n := by omega
  subst this
  rw [← hl, List.drop_length] at hu
  simp at hu
 ·
  rw [List.getElem?_drop] at hu
  rw [add_plain, hb.cell, List.getElem?_append_left (List.getElem?_eq_some_iff.1 hu).1]
  exact hu
theorem head_news {w : World} {g t : Nat} {us rest : List Value} (hb : Blk w g t (us ++ rest)) : ∀ i u, us[i]? = some u → w.cell? ((⟨g, 0, none⟩ : Addr).add i) = some u := by
 intro i u hu
 rw [add_plain, Nat.zero_add, hb.cell, List.getElem?_append_left (List.getElem?_eq_some_iff.1 hu).1]
 exact hu
theorem strs_one (A : List Sh) : ∀ u ∈ A.map (fun z => kfS z.e.text), u.oneCell' = true := by
 intro u hu
 obtain ⟨z, -, rfl⟩ := List.mem_map.1 hu
 rfl
theorem shs_ones (A : List Sh) : ∀ u ∈ shs A, u.oneCell' = true := by
 intro u hu
 simp only [shs, List.mem_flatMap, Sh.cells] at hu
 obtain ⟨y, -, h⟩ := hu
 simp at h
 rcases h with rfl | rfl | rfl <;> rfl
theorem info_string : (Tryz.prog.info? 9).map (fun i => (i.zero, i.size, i.bytes)) = some (some (.string ⟨#[]⟩), 1, 16) := by kernel_rfl
theorem shs_append (A B : List Sh) : shs (A ++ B) = shs A ++ shs B := by simp [shs]
theorem shs_take : ∀ (A : List Sh) (j : Nat), shs (A.take j) = (shs A).take (j * 3)
 | [], j => by simp [shs]
 | x :: r, 0 => by simp [shs]
 | x :: r, j + 1 => by
  have := shs_take r j
  rw [List.take_succ_cons]
  simp only [shs, List.flatMap_cons] at this ⊢
  rw [this, show (j + 1) * 3 = x.cells.length + j * 3 by simp [Sh.cells]; omega, List.take_length_add_append]
theorem shs_drop : ∀ (A : List Sh) (j : Nat), shs (A.drop j) = (shs A).drop (j * 3)
 | [], j => by simp [shs]
 | x :: r, 0 => by simp [shs]
 | x :: r, j + 1 => by
  have := shs_drop r j
  rw [List.drop_succ_cons]
  simp only [shs, List.flatMap_cons] at this ⊢
  rw [this, show (j + 1) * 3 = x.cells.length + j * 3 by simp [Sh.cells]; omega, List.drop_length_add_append]
set_option maxRecDepth 100000 in
set_option maxHeartbeats 8000000 in
theorem l02Sorted_i {tm am : Int} (ht : tm ≤ 8) (ha : am ≤ 8) {X SL : Nat → Prop} {L : List Sh} {la : Option Addr} {lc : Nat} {w : World} (hX : ∀ b, X b → b < w.heap.size) (hLX : ShX X w L) (hLt : ∀ z ∈ L, z.e.tree tm am = true ∧ z.e.size ≤ 100000) (hLn : L.length ≤ 100000)
  (hv : AppS SL w 34 3 L.length (shD L) (.slice la L.length lc)) :
  Calls Tryz.prog 83 #[.slice la L.length lc] w fun f w' => ∃ g' c' L', f = .returned (.slice (some ⟨g', 0, none⟩) L'.length c') ∧ (L'.map Sh.e = sortI (L.map Sh.e) ∧ ∀ z ∈ L', z ∈ L) ∧ w.heap.size ≤ g' ∧
   AppS (fun b => b = g') w' 34 3 L'.length (shD L') (.slice (some ⟨g', 0, none⟩) L'.length c') ∧ Below w.heap.size w w' := by
 have hrow : Hid (L = [] ∨ ∃ g, la = some ⟨g, 0, none⟩ ∧ g < w.heap.size ∧ ∃ rest, Blk w g 34 (shs L ++ rest)) := by
  obtain ⟨a', c', e', -, -, -, hh⟩ := AppS.at hv
  simp only [Value.slice.injEq, true_and] at e'
  obtain ⟨rfl, rfl⟩ := e'
  rcases hh with h | ⟨g, h1, h2, h3, h4⟩
  ·
   refine Or.inl ?_
   have := shs_length L
   rw [h] at this
   exact List.eq_nil_of_length_eq_zero (by simp at this; omega)
  ·
   exact Or.inr ⟨g, h1, h3, h4⟩
 obtain ⟨a0, c0, e0, hlc1, hlc2⟩ := hv.shape
 simp only [Value.slice.injEq, true_and] at e0
 obtain ⟨rfl, rfl⟩ := e0
 unfold maxLen at hlc2
 have HLt := Lib.hid hLt
 clear hv hLt
 go_enter Tryz.func83, Tryz.ntmps83
 go_wp2_with fail
 have T0 := (Blk.new0 w 9).alloc (.cells #[] 34)
 have O0 := Blk.new0 (w.alloc (.cells #[] 9)) 34
 have hB0 : Below w.heap.size w ((w.alloc (.cells #[] 9)).alloc (.cells #[] 34)) := by (repeat' first | exact Below.refl _ _ | assumption | apply Below.alloc | apply Below.drew | apply Below.setCell | omega | (simp; done) | (simp; omega))
 simp at O0
 go_loopw [3, 4, 5] (fun l3 l4 i wr => ∃ (k g3 c3 g4 c4 : Nat) (A : List Sh), k ≤ L.length ∧ i = .int .i64 k ∧ Hid (A.map Sh.e = sortI ((L.take k).map Sh.e)) ∧ (∀ z ∈ A, z ∈ L) ∧ A.length = k ∧ l3 = .slice (some ⟨g3, 0, none⟩) k c3 ∧ l4 = .slice (some ⟨g4, 0, none⟩) k c4 ∧ g3 ≠ g4 ∧ w.heap.size ≤ g3 ∧ w.heap.size ≤ g4 ∧
  AppS (fun b => b = g3) wr 9 1 k ((A.map fun z => kfS z.e.text).map D.raw) (.slice (some ⟨g3, 0, none⟩) k c3) ∧ AppS (fun b => b = g4) wr 34 3 k (shD A) (.slice (some ⟨g4, 0, none⟩) k c4) ∧ Below w.heap.size w wr) (fun _ _ i _ => L.length - (intOf i).toNat)
 case atStart => exact ⟨0, _, 0, _, 0, [], by omega, rfl, by show _ = _; rfl, by simp, rfl, rfl, rfl, by simp, by omega, by omega, AppS.empty T0 rfl, AppS.empty O0 rfl, hB0⟩
 case round =>
  obtain ⟨k, g3, c3, g4, c4, A, hk, rfl, HA, hAm, hAk, rfl, rfl, hg34, hg3, hg4, hT, hO, hBr⟩ := hrel
  have hszr := hBr.size
  by_cases hlt : k < L.length
  rotate_left
  ·
   obtain rfl : k = L.length := by omega
   go_wp2_with fail
   go_ret
   exact ⟨g4, c4, A, by rw [hAk]; rfl, ⟨by have := HA.out; rwa [List.take_length] at this, hAm⟩, hg4, by rw [hAk]; exact hO, hBr⟩
  obtain ⟨z, hz⟩ : ∃ z, L[k]? = some z := ⟨_, List.getElem?_eq_getElem hlt⟩
  have hzm := List.mem_of_getElem? hz
  rcases hrow.out with h | ⟨lg, rfl, hlg, rest, hblk⟩
  ·
   exfalso; rw [h] at hlt; simp at hlt
  have hbr := hblk.below hBr
  have q : ∀ m v, z.cells[m]? = some v → wr.cell? ⟨lg, k * 3 + m, none⟩ = some v := by
   intro m v hv
   have hm : m < 3 := by have := (List.getElem?_eq_some_iff.1 hv).1; simpa [Sh.cells] using this
   rw [hbr.cell, List.getElem?_append_left (by rw [shs_length]; omega), shs_at L k z hz m hm, hv]
  have hzX := (hLX z hzm).below hBr
  have hza : ExAt wr lg (k * 3) z.e := ⟨q 0 _ rfl, q 1 _ rfl, z.s, z.c, q 2 _ rfl, hzX.rd⟩
  obtain ⟨htz, hzs⟩ := HLt.out z hzm
  have ha1 := Int.natCast_nonneg k
  have hb1 : (k : Int) < (L.length : Int) := by omega
  clear q hbr
  go_wp2_with fail
  refine (l01Text_all tm am ht ha _ z.e lg (k * 3) wr (Nat.le_refl _) hza htz (by omega)).mono ?_
  rintro f w2 ⟨rfl, hb⟩
  have hB2 := hBr.trans (hb.mono hszr)
  have hT2 := hT.keep (fun b h _ => hb.block b h)
  have hO2 := hO.keep (fun b h _ => hb.block b h)
  clear hT hO hb hza hzX
  obtain ⟨wo, rfl⟩ : ∃ v, v = wr := ⟨_, rfl⟩
  go_wp2_with fail
  go_loopw [7] (fun i7 wr => ∃ j : Nat, j ≤ k ∧ i7 = .int .i64 j ∧ (∀ m, m < j → ∀ y, A[m]? = some y → y.e.lt z.e = true) ∧ wr = w2) (fun i _ => k - (intOf i).toNat)
  case atStart => exact ⟨0, by omega, rfl, fun m hm => by omega, rfl⟩
  case round =>
   obtain ⟨j, hj, rfl, hless, rfl⟩ := hrel
   obtain ⟨-, hc31, hc32, rest3, hbk3⟩ := hT2.blk
   obtain ⟨-, hc41, hc42, rest4, hbk4⟩ := AppS.blk (us := shs A) hO2
   unfold maxLen at hc32 hc42
   have hj0 := Int.natCast_nonneg j
   by_cases hjk : j < k
   ·
    obtain ⟨y, hy⟩ : ∃ y, A[j]? = some y := ⟨_, List.getElem?_eq_getElem (by omega)⟩
    have tcell : wr.cell? ⟨g3, j, none⟩ = some (.string (bs y.e.text)) := by
     rw [hbk3.cell, List.getElem?_append_left (by rw [List.length_map]; omega), List.getElem?_map, hy]
     rfl
    have hjb : (j : Int) < (k : Int) := by omega
    have hcmp : Op.bytesLess (bs y.e.text).toList (bs z.e.text).toList = y.e.lt z.e := by rw [bytesLess_lt, bs_list, bs_list]; rfl
    cases hlt2 : y.e.lt z.e
    ·
     rw [hlt2] at hcmp
     have hpl : placeS z A = j := placeS_eq z A _ (by omega) hless (fun y' hy' => by rw [hy] at hy'; obtain rfl := Option.some.inj hy'; exact hlt2)
     obtain ⟨ad3, if3, s3c⟩ := from_at (g := g3) (o := j) hj hc31
     obtain ⟨ad4, if4, s4c⟩ := from_at (g := g4) (o := j * 3) hj hc41
     have hg3l := hbk3.lt
     have hg4l := hbk4.lt
     have hTl : (A.map fun z => kfS z.e.text).length = k * 1 := by rw [List.length_map]; omega
     have hOl : (shs A).length = k * 3 := by rw [shs_length, hAk]
     have HT2 := Lib.hid hT2
     have HO2 := Lib.hid hO2
     have Hk3 := Lib.hid hbk3
     have Hk4 := Lib.hid hbk4
     have Hless := Lib.hid hless
     have hjc3 : (j : Int) ≤ (c3 : Int) := by omega
     have hjc4 : (j : Int) ≤ (c4 : Int) := by omega
     have hjk2 : (j : Int) ≤ (k : Int) := by omega
     clear hT2 hO2 hbk3 hbk4 hless
     obtain ⟨w2, rfl⟩ : ∃ v, v = wr := ⟨_, rfl⟩
     go_wp2_with (first
      | (at_builtin; refine (wpList_append_raw (w2.alloc (.cells #[] 9)) rfl _ _ 139 rfl 9 (.string ⟨#[]⟩) 1 16 Tryz.underlying139 info_string rfl (by decide) (g := w2.heap.size) (n := 0) (c := 0) (us := []) rfl (AppS.empty (S := fun b => b = w2.heap.size) (Blk.new0 w2 9) rfl) ad3 _ (k - j) _ ((A.map fun z => kfS z.e.text).drop (j * 1)) rfl (by first | rfl | (rcases s3c with h | h; exact absurd h (by omega); rw [h])) (row_news (Hk3.out.alloc _) hTl hj (by rwa [Nat.mul_one])) (by rw [List.length_drop, hTl]; omega) (fun u hu => strs_one A u (List.mem_of_mem_drop hu)) (by omega) (by unfold maxLen; omega) ?_); intro gA cA w8 hg8 hap8 hsp8; have hz8 := hsp8.size; simp at hz8; have hq8 : w2.heap.size ≤ gA := (by rcases hg8 with h | h; omega; simp at h; omega); have hl8 : gA < w8.heap.size := (hap8.blk.2.2.2.elim fun _ h => h.lt); have K8 : Below w2.heap.size w2 w8 := (Below.alloc (Below.refl _ _) (Nat.le_refl _) _).trans (hsp8.below (by simp) (fun b h => by omega)))
      | (at_builtin; refine (wpList_append_raw (w8.alloc (.cells #[] 34)) rfl _ _ 32 rfl 34 (.agg #[.int .i64 0, .int .i64 0, .slice none 0 0]) 3 40 Tryz.underlying32 zero_implExpr rfl (by decide) (g := w8.heap.size) (n := 0) (c := 0) (us := []) rfl (AppS.empty (S := fun b => b = w8.heap.size) (Blk.new0 w8 34) rfl) ad4 _ (k - j) _ ((shs A).drop (j * 3)) rfl (by first | rfl | (rcases s4c with h | h; exact absurd h (by omega); rw [h])) (row_news ((Hk4.out.below K8).alloc _) hOl hj s4c) (by rw [List.length_drop, hOl]; omega) (fun u hu => shs_ones A u (List.mem_of_mem_drop hu)) (by omega) (by unfold maxLen; omega) ?_); intro gB cB w9 hg9 hap9 hsp9; have hz9 := hsp9.size; simp at hz9; have hq9 : w8.heap.size ≤ gB := (by rcases hg9 with h | h; omega; simp at h; omega); have hl9 : gB < w9.heap.size := (hap9.blk.2.2.2.elim fun _ h => h.lt); have K9 : Below w8.heap.size w8 w9 := (Below.alloc (Below.refl _ _) (Nat.le_refl _) _).trans (hsp9.below (by simp) (fun b h => by omega)))
      | (at_builtin; refine (wpList_append_raw (w9.alloc (.cells #[.string (bs z.e.text)] 9)) rfl _ _ 139 rfl 9 (.string ⟨#[]⟩) 1 16 Tryz.underlying139 info_string rfl (by decide) (S := fun b => b = g3) (g := g3) (n := j) (c := c3) (us := (A.map fun z => kfS z.e.text).take (j * 1)) rfl ((HT2.out.cut hj).keep (fun b hb h => by rw [Below.heap_alloc w9 _ b (by omega), K9.block b (by omega), K8.block b (by omega)])) ⟨w9.heap.size, 0, none⟩ _ 1 1 [kfS z.e.text] rfl rfl (news_blk (Blk.made w9 9 #[kfS z.e.text])) rfl (by intro u hu; simp at hu; subst hu; rfl) (by omega) (by unfold maxLen; omega) ?_); intro g10 c10 w10 hg10 hap10 hsp10; have hz10 := hsp10.size; simp at hz10; have hq10 : g10 = g3 ∨ w9.heap.size < g10 := (by rcases hg10 with h | h; exact Or.inl h; simp at h; exact Or.inr (by omega)); have hl10 : g10 < w10.heap.size := (hap10.blk.2.2.2.elim fun _ h => h.lt))
      | (at_builtin; (refine wpList_append_raw w10 rfl _ _ 139 rfl 9 (.string ⟨#[]⟩) 1 16 Tryz.underlying139 info_string rfl (by decide) (S := fun b => b = g10) (g := g10) (n := j + 1) (c := c10) (us := (A.map fun z => kfS z.e.text).take (j * 1) ++ [kfS z.e.text]) rfl hap10 ⟨gA, 0, none⟩ _ (k - j) _ ((A.map fun z => kfS z.e.text).drop (j * 1)) rfl rfl (fun i u hu => ((hap8.keep (fun b hb h => K9.block b hb)).keep (w' := w10) (fun b hb h => by rw [hsp10.block b (by simp; omega) (by omega), Below.heap_alloc w9 _ b hb])).blk.2.2.2.elim fun r8 hr8 => head_news hr8 i u (by simpa using hu)) (by rw [List.length_drop, hTl]; omega) (fun u hu => strs_one A u (List.mem_of_mem_drop hu)) (by omega) (by unfold maxLen; omega) ?_; intro g11 c11 w11 hg11 hap11 hsp11; have hz11 := hsp11.size; have hl11 : g11 < w11.heap.size := (hap11.blk.2.2.2.elim fun _ h => h.lt)))
      | (at_builtin; go_must (fail)))
     obtain ⟨wb, rfl⟩ : ∃ v, v = w11 := ⟨_, rfl⟩
     have KA : ∀ b, b < w2.heap.size → b ≠ g3 → wb.heap[b]? = w2.heap[b]? := fun b hb h3 => by
      rw [hsp11.block b (by omega) (by omega), hsp10.block b (by simp; omega) h3, Below.heap_alloc w9 _ b (by omega), K9.block b (by omega), K8.block b (by omega)]
     have hszb : w2.heap.size < wb.heap.size := by omega
     have OC : AppS (fun b => b = g4) wb 34 3 j (shD (A.take j)) (.slice (some ⟨g4, 0, none⟩) j c4) := by
      have q := (AppS.cut (us := shs A) HO2.out hj).keep (w' := wb) (fun b hb h => KA b (by omega) (by omega))
      rw [← shs_take] at q
      exact q
     have RC : AppS (fun b => b = gB) wb 34 3 (k - j) (shD (A.drop j)) (.slice (some ⟨gB, 0, none⟩) (k - j) cB) := by
      have q := hap9.keep (w' := wb) (fun b hb h => by rw [hsp11.block b (by omega) (by omega), hsp10.block b (by simp; omega) (by omega), Below.heap_alloc w9 _ b hb])
      rw [List.nil_append, ← shs_drop, Nat.zero_add] at q
      exact q
     have OCf : ∀ b, b = g4 → 0 ≤ b ∧ b < wb.heap.size := fun b h => by omega
     have RCf : ∀ b, b = gB → 0 ≤ b ∧ b < wb.heap.size := fun b h => by omega
     have hT11 : AppS (fun b => b = g11) wb 9 1 (k + 1) (((insS z A).map fun z => kfS z.e.text).map D.raw) (.slice (some ⟨g11, 0, none⟩) (k + 1) c11) := by
      have e1 : (insS z A).map (fun z => kfS z.e.text) = (A.map fun z => kfS z.e.text).take (j * 1) ++ [kfS z.e.text] ++ (A.map fun z => kfS z.e.text).drop (j * 1) := by
       unfold insS
       rw [hpl, Nat.mul_one, List.map_append, List.map_cons, List.map_take, List.map_drop, List.append_assoc]
       rfl
      rw [e1]
      have q := hap11
      rw [show j + 1 + (k - j) = k + 1 by omega] at q
      exact q
     have hlgk : wb.heap[lg]? = w2.heap[lg]? := KA lg (by omega) (by omega)
     have hblk2 := (hblk.below hB2).keep hlgk
     have qz : ∀ m v, z.cells[m]? = some v → wb.cell? ⟨lg, k * 3 + m, none⟩ = some v := by
      intro m v hv
      have hm : m < 3 := by have := (List.getElem?_eq_some_iff.1 hv).1; simpa [Sh.cells] using this
      rw [hblk2.cell, List.getElem?_append_left (by rw [shs_length]; omega), shs_at L k z hz m hm, hv]
     have Q0 := Lib.hid (qz 0 _ rfl)
     have Q1 := Lib.hid (qz 1 _ rfl)
     have Q2 := Lib.hid (qz 2 _ rfl)
     have hB11 : Below w.heap.size w wb := hB2.trans ⟨hsp11.os.trans (hsp10.os.trans (K9.os.trans K8.os)), hsp11.tape.trans (hsp10.tape.trans (K9.tape.trans K8.tape)), hsp11.output.trans (hsp10.output.trans (K9.output.trans K8.output)), by have := hB2.size; omega, fun b hb => KA b (by have := hB2.size; omega) (by omega)⟩
     have hA2 : Hid ((insS z A).map Sh.e = sortI ((L.take (k + 1)).map Sh.e)) := by
      show _ = _
      rw [insS_e, HA.out, List.take_succ_eq_append_getElem hlt, List.map_append, (List.getElem?_eq_some_iff.1 hz).2]
      unfold sortI
      rw [List.foldl_append]
      rfl
     have hAl : (insS z A).length = k + 1 := by
      unfold insS
      rw [hpl, List.length_append, List.length_take, List.length_cons, List.length_drop]
      omega
     have hq11 : g11 = g10 ∨ w10.heap.size ≤ g11 := hg11
     clear hap8 hap9 hap10 hap11 qz hblk2 hlgk HT2 HO2 Hk3 Hk4
     obtain ⟨x1, hx1⟩ := mkval ?a1_1
     obtain ⟨x3, hx3⟩ := mkval ?a1_3
     obtain ⟨x4, hx4⟩ := mkval ?a1_4
     obtain ⟨x5, hx5⟩ := mkval ?a1_5
     obtain ⟨x6, hx6⟩ := mkval ?a1_6
     obtain ⟨x9, hx9⟩ := mkval ?a1_9
     have hGb : ∀ m b, (fun m b => (m = 0 ∧ b = g4) ∨ (m = 1 ∧ b = gB)) m b → (0) ≤ b ∧ b < (wb).heap.size := by
      intro m b hg
      rcases hg with ⟨rfl, hg⟩ | ⟨rfl, hg⟩
      ·
       have q := OCf b hg
       omega
      ·
       have q := RCf b hg
       omega
     have hGd : ∀ m m' b, (fun m b => (m = 0 ∧ b = g4) ∨ (m = 1 ∧ b = gB)) m b → (fun m b => (m = 0 ∧ b = g4) ∨ (m = 1 ∧ b = gB)) m' b → m = m' := by
      intro m m' b h h'
      rcases h with ⟨rfl, h⟩ | ⟨rfl, h⟩ <;> rcases h' with ⟨rfl, h'⟩ | ⟨rfl, h'⟩ <;> first
       | rfl
       | (exfalso; omega)
     refine region_rs [(10, 8)] [(8, 0)] (fun m b => (m = 0 ∧ b = g4) ∨ (m = 1 ∧ b = gB)) (0) (fun i iv vs wx => match i with
      | 0 => vs 0 = .slice (some ⟨g4, 0, none⟩) k c4
      | 1 => vs 1 = x1
      | 2 => vs 2 = .slice (some ⟨g4, 0, none⟩) j c4
      | 3 => vs 3 = x3
      | 4 => vs 4 = x4
      | 5 => vs 5 = x5
      | 6 => vs 6 = x6
      | 7 => vs 7 = .slice (some ⟨(iv 7).1, 0, none⟩) 1 1 ∧ (iv 7).2 = (iv 7).1 + 1 ∧ Blk wx (iv 7).1 34 [.int .i64 z.e.kind, .int .i64 z.e.num, .slice z.s z.e.kids.length z.c]
      | 8 => ∃ g cap, vs 8 = .slice (some ⟨g, 0, none⟩) (j + 1) cap ∧ AppS (foot [(10, 8)] [(8, 0)] (fun m b => (m = 0 ∧ b = g4) ∨ (m = 1 ∧ b = gB)) 12 8 iv) wx 34 3 (j + 1) (shD (A.take j) ++ z.cells.map D.raw) (.slice (some ⟨g, 0, none⟩) (j + 1) cap)
      | 9 => vs 9 = x9
      | 10 => ∃ gf cf, vs 10 = .slice (some ⟨gf, 0, none⟩) (j + 1 + (k - j)) cf ∧ (True) ∧ AppS (foot [(10, 8)] [(8, 0)] (fun m b => (m = 0 ∧ b = g4) ∨ (m = 1 ∧ b = gB)) 12 10 iv) wx 34 3 (j + 1 + (k - j)) (shD (insS z A)) (.slice (some ⟨gf, 0, none⟩) (j + 1 + (k - j)) cf)
      | 11 => vs 11 = vs 10
      | _ => True) (fun i iv vs => match i with
      | 0 => vs 0 = .slice (some ⟨g4, 0, none⟩) k c4
      | 1 => vs 1 = x1
      | 2 => vs 2 = .slice (some ⟨g4, 0, none⟩) j c4
      | 3 => vs 3 = x3
      | 4 => vs 4 = x4
      | 5 => vs 5 = x5
      | 6 => vs 6 = x6
      | 7 => vs 7 = .slice (some ⟨(iv 7).1, 0, none⟩) 1 1 ∧ (iv 7).2 = (iv 7).1 + 1
      | 8 => ∃ g cap, vs 8 = .slice (some ⟨g, 0, none⟩) (j + 1) cap
      | 9 => vs 9 = x9
      | 10 => ∃ gf cf, vs 10 = .slice (some ⟨gf, 0, none⟩) (j + 1 + (k - j)) cf ∧ (True)
      | 11 => vs 11 = vs 10
      | _ => True) (by kernel_rfl) (by kernel_rfl) [0, 1, 2, 3, 4, 5, 6, 7, 8, 9, 10, 11] (by kernel_rfl) ?hbase ?hGb ?hG ?hJ ?hE ?hEE ?hstep ?hQ
     case hbase => first | exact Nat.le_refl _ | omega | (simp; omega)
     case hGb =>
      exact hGb
     case hG =>
      exact hGd
     case hJ =>
      intro i hi iv iv' vs vs' wx wx' ha hv hz hk hj
      simp only [List.mem_cons, List.not_mem_nil, or_false] at hi
      rcases hi with rfl | rfl | rfl | rfl | rfl | rfl | rfl | rfl | rfl | rfl | rfl | rfl
      ·
       exact (hv.out 0 (mem_of (by kernel_rfl))).symm.trans hj
      ·
       exact (hv.out 1 (mem_of (by kernel_rfl))).symm.trans hj
      ·
       exact (hv.out 2 (mem_of (by kernel_rfl))).symm.trans hj
      ·
       exact (hv.out 3 (mem_of (by kernel_rfl))).symm.trans hj
      ·
       exact (hv.out 4 (mem_of (by kernel_rfl))).symm.trans hj
      ·
       exact (hv.out 5 (mem_of (by kernel_rfl))).symm.trans hj
      ·
       exact (hv.out 6 (mem_of (by kernel_rfl))).symm.trans hj
      ·
       have e7 := hv.out 7 (mem_of (by kernel_rfl))
       have g7 := ha.out 7 (mem_of (by kernel_rfl))
       obtain ⟨q1, q3, q2⟩ := hj
       show vs' 7 = .slice (some ⟨(iv' 7).1, 0, none⟩) 1 1 ∧ (iv' 7).2 = (iv' 7).1 + 1 ∧ Blk wx' (iv' 7).1 34 [.int .i64 z.e.kind, .int .i64 z.e.num, .slice z.s z.e.kids.length z.c]
       rw [← e7, ← g7]
       exact ⟨q1, q3, q2.keep (hk.out _ q2.lt (foot_own (Nat.le_refl _) (by omega)))⟩
      ·
       have e8 := hv.out 8 (mem_of (by kernel_rfl))
       obtain ⟨g, cap, q1, q2⟩ := hj
       exact ⟨g, cap, e8 ▸ q1, (q2.keep (fun b hb h1 => hk.out b hb h1)).more (fun b hb h1 => foot_agree (l := ancs _ 12 8) (by exact of_decide_eq_true (by kernel_rfl)) ha.out h1)⟩
      ·
       exact (hv.out 9 (mem_of (by kernel_rfl))).symm.trans hj
      ·
       have e10 := hv.out 10 (mem_of (by kernel_rfl))
       obtain ⟨gf, cf, q1, q3, q2⟩ := hj
       exact ⟨gf, cf, e10 ▸ q1, q3, (q2.keep (fun b hb h1 => hk.out b hb h1)).more (fun b hb h1 => foot_agree (l := ancs _ 12 10) (by exact of_decide_eq_true (by kernel_rfl)) ha.out h1)⟩
      ·
       have e10 := hv.out 10 (mem_of (by kernel_rfl))
       have e11 := hv.out 11 (mem_of (by kernel_rfl))
       have hj' : vs 11 = vs 10 := hj
       show vs' 11 = vs' 10
       rw [← e10, ← e11]
       exact hj'
     case hE =>
      intro i hi iv vs wx hj
      simp only [List.mem_cons, List.not_mem_nil, or_false] at hi
      rcases hi with rfl | rfl | rfl | rfl | rfl | rfl | rfl | rfl | rfl | rfl | rfl | rfl
      ·
       exact hj
      ·
       exact hj
      ·
       exact hj
      ·
       exact hj
      ·
       exact hj
      ·
       exact hj
      ·
       exact hj
      ·
       exact ⟨hj.1, hj.2.1⟩
      ·
       obtain ⟨g, cap, q1, -⟩ := hj
       exact ⟨g, cap, q1⟩
      ·
       exact hj
      ·
       obtain ⟨gf, cf, q1, q3, -⟩ := hj
       exact ⟨gf, cf, q1, q3⟩
      ·
       exact hj
     case hEE =>
      intro i hi iv iv' vs vs' ha hv hj
      simp only [List.mem_cons, List.not_mem_nil, or_false] at hi
      rcases hi with rfl | rfl | rfl | rfl | rfl | rfl | rfl | rfl | rfl | rfl | rfl | rfl
      ·
       exact (hv.out 0 (mem_of (by kernel_rfl))).symm.trans hj
      ·
       exact (hv.out 1 (mem_of (by kernel_rfl))).symm.trans hj
      ·
       exact (hv.out 2 (mem_of (by kernel_rfl))).symm.trans hj
      ·
       exact (hv.out 3 (mem_of (by kernel_rfl))).symm.trans hj
      ·
       exact (hv.out 4 (mem_of (by kernel_rfl))).symm.trans hj
      ·
       exact (hv.out 5 (mem_of (by kernel_rfl))).symm.trans hj
      ·
       exact (hv.out 6 (mem_of (by kernel_rfl))).symm.trans hj
      ·
       have e7 := hv.out 7 (mem_of (by kernel_rfl))
       have g7 := ha.out 7 (mem_of (by kernel_rfl))
       have hj' : vs 7 = .slice (some ⟨(iv 7).1, 0, none⟩) 1 1 ∧ (iv 7).2 = (iv 7).1 + 1 := hj
       show vs' 7 = .slice (some ⟨(iv' 7).1, 0, none⟩) 1 1 ∧ (iv' 7).2 = (iv' 7).1 + 1
       rw [← e7, ← g7]
       exact hj'
      ·
       have e8 := hv.out 8 (mem_of (by kernel_rfl))
       have hj' : ∃ g cap, vs 8 = .slice (some ⟨g, 0, none⟩) (j + 1) cap := hj
       show ∃ g cap, vs' 8 = .slice (some ⟨g, 0, none⟩) (j + 1) cap
       rw [← e8]
       exact hj'
      ·
       exact (hv.out 9 (mem_of (by kernel_rfl))).symm.trans hj
      ·
       have e10 := hv.out 10 (mem_of (by kernel_rfl))
       have hj' : ∃ gf cf, vs 10 = .slice (some ⟨gf, 0, none⟩) (j + 1 + (k - j)) cf ∧ (True) := hj
       show ∃ gf cf, vs' 10 = .slice (some ⟨gf, 0, none⟩) (j + 1 + (k - j)) cf ∧ (True)
       rw [← e10]
       exact hj'
      ·
       have e10 := hv.out 10 (mem_of (by kernel_rfl))
       have e11 := hv.out 11 (mem_of (by kernel_rfl))
       have hj' : vs 11 = vs 10 := hj
       show vs' 11 = vs' 10
       rw [← e10, ← e11]
       exact hj'
     case hstep =>
      intro i hi opr ho iv vs w1 hB hS hSo hd he hbd hsep hun K hK
      simp only [List.mem_cons, List.not_mem_nil, or_false] at hi
      have hzB := hB.size
      have HGb := Lib.hid hGb
      clear hGb hGd
      have kl := hSo.out.block lg (by omega) (fun ⟨m, h⟩ => by rcases h with ⟨_, h⟩ | ⟨_, h⟩ <;> omega)
      have q0 := (World.cell?_of_block (w := wb) (w' := w1) (a := ⟨lg, k * 3 + 0, none⟩) kl).trans Q0.out
      have q1 := (World.cell?_of_block (w := wb) (w' := w1) (a := ⟨lg, k * 3 + 1, none⟩) kl).trans Q1.out
      have q2 := (World.cell?_of_block (w := wb) (w' := w1) (a := ⟨lg, k * 3 + 2, none⟩) kl).trans Q2.out
      rw [Nat.add_zero] at q0
      have hjc4' : (j : Int) ≤ (c4 : Int) := by omega
      generalize hA : putFrom _ 0 vs _ = A at hK ⊢
      simp only [putFrom, puts] at hA
      rcases hi with rfl | rfl | rfl | rfl | rfl | rfl | rfl | rfl | rfl | rfl | rfl | rfl
      all_goals
       simp at ho
       subst ho
       subst hA
      ·
       have un11 : vs 11 = .slice (some ⟨g4, 0, none⟩) k c4 := hun.out 11 (mem_of (by kernel_rfl))
       go_wp2_with fail
       exact Onward.mk (hK (.slice (some ⟨g4, 0, none⟩) k c4) _ _ (fun h => by cases h) (by first | rfl | (simp only [puts, un11])) (Spares.refl _) (fun iv' _ _ => rfl))
      ·
       go_wp2_with fail
       refine Onward.mk (hK ?val1_1 _ _ (fun h => by cases h) ?eqA (Spares.refl _) (fun iv' _ _ => ?ja))
       case eqA => first | rfl | (simp only [puts]; rfl)
       case ja => exact hx1.out.symm
      ·
       have h0 : vs 0 = .slice (some ⟨g4, 0, none⟩) k c4 := hd.out 0 (mem_of (by kernel_rfl)) (by decide) (by kernel_rfl)
       have h1 := (hd.out 1 (mem_of (by kernel_rfl)) (by decide) (by kernel_rfl)).trans hx1.out
       go_wp2_with fail
       exact Onward.mk (hK (.slice (some ⟨g4, 0, none⟩) j c4) _ _ (fun h => by cases h) (by first | rfl | (simp only [puts, h0, h1])) (Spares.refl _) (fun iv' _ _ => rfl))
      ·
       go_wp2_with fail
       refine Onward.mk (hK ?val1_3 _ _ (fun h => by cases h) ?eqA (Spares.refl _) (fun iv' _ _ => ?ja))
       case eqA => first | rfl | (simp only [puts]; rfl)
       case ja => exact hx3.out.symm
      ·
       go_wp2_with fail
       refine Onward.mk (hK ?val1_4 _ _ (fun h => by cases h) ?eqA (Spares.refl _) (fun iv' _ _ => ?ja))
       case eqA => first | rfl | (simp only [puts]; rfl)
       case ja => exact hx4.out.symm
      ·
       have h3 := (hd.out 3 (mem_of (by kernel_rfl)) (by decide) (by kernel_rfl)).trans hx3.out
       have h4 := (hd.out 4 (mem_of (by kernel_rfl)) (by decide) (by kernel_rfl)).trans hx4.out
       go_wp2_with fail
       refine Onward.mk (hK ?val1_5 _ _ (fun h => by cases h) ?eqA (Spares.refl _) (fun iv' _ _ => ?ja))
       case eqA => first | rfl | (simp only [puts, h3, h4]; rfl)
       case ja => exact hx5.out.symm
      ·
       have h5 := (hd.out 5 (mem_of (by kernel_rfl)) (by decide) (by kernel_rfl)).trans hx5.out
       go_wp2_with fail
       refine Onward.mk (hK ?val1_6 _ _ (fun h => by cases h) ?eqA (Spares.refl _) (fun iv' _ _ => ?ja))
       case eqA => first | rfl | (simp only [puts, h5]; rfl)
       case ja => exact hx6.out.symm
      ·
       have h6 := (hd.out 6 (mem_of (by kernel_rfl)) (by decide) (by kernel_rfl)).trans hx6.out
       go_wp2_with fail
       exact Onward.mk (hK (.slice (some ⟨w1.heap.size, 0, none⟩) 1 1) _ _ (fun h => by cases h) (by first | rfl | (simp only [puts, h6])) (Spares.of_below (Below.alloc (Below.refl _ _) (Nat.le_refl _) _)) (fun iv' _ hi => by
        show Value.slice (some ⟨w1.heap.size, 0, none⟩) 1 1 = .slice (some ⟨(iv' 7).1, 0, none⟩) 1 1 ∧ (iv' 7).2 = (iv' 7).1 + 1 ∧ Blk _ (iv' 7).1 34 [.int .i64 z.e.kind, .int .i64 z.e.num, .slice z.s z.e.kids.length z.c]
        rw [hi]
        exact ⟨rfl, by simp, Blk.new3 _ _ _ _ _⟩))
      ·
       have h2 : vs 2 = .slice (some ⟨g4, 0, none⟩) j c4 := hd.out 2 (mem_of (by kernel_rfl)) (by decide) (by kernel_rfl)
       obtain ⟨h7, q7, f7⟩ := hd.out 7 (mem_of (by kernel_rfl)) (by decide) (by kernel_rfl)
       have OC1 := OC.keep (fun b _ hb => hS.out 0 b (by kernel_rfl) (Or.inl ⟨rfl, hb⟩))
       simp only [h2, h7]
       have f7' : Blk w1 (iv 7).1 34 [.int .i64 z.e.kind, .int .i64 z.e.num, .slice z.s z.e.kids.length z.c] := by first | exact f7 | (rw [h7] at f7; exact f7)
       refine wpList_append_s w1 (by rfl) _ _ 32 (by rfl) 34 (.agg #[.int .i64 0, .int .i64 0, .slice none 0 0]) 3 40 Tryz.underlying32 zero_implExpr rfl (by decide) (S := (fun b => b = g4)) (T := (fun _ => False)) _ (by rfl) OC1 ⟨(iv 7).1, 0, none⟩ 1 1 [.int .i64 z.e.kind, .int .i64 z.e.num, .slice z.s z.e.kids.length z.c] (by rfl) (news_blk f7') ⟨[], Ows.raws (us := z.cells) (fun u hu => shs_one z u (by simpa [shs] using hu)), by simp, by simp⟩ (fun _ _ _ h => h) (by simp) (by simp [Value.oneCell']) (by omega) (by omega) (by unfold maxLen; omega) ?_
       intro g cap w2 hap ht
       go_wp2_with fail
       exact Onward.mk (hK (.slice (some ⟨g, 0, none⟩) (j + 1) cap) _ _ (fun h => by cases h) (by first | rfl | (simp only [puts, h2, h7])) (ht.more (fun b h => Or.inl ⟨0, by decide, (Or.inl ⟨rfl, h⟩)⟩)) (fun iv' ag hi => ⟨g, cap, rfl, hap.more (fun b _ h => by rcases h with h | h | h; exact foot_given 0 (by decide) (Or.inl ⟨rfl, h⟩); exact h.elim; exact foot_new hi h.1 h.2)⟩))
      ·
       go_wp2_with fail
       refine Onward.mk (hK ?val1_9 _ _ (fun h => by cases h) ?eqA (Spares.refl _) (fun iv' _ _ => ?ja))
       case eqA => first | rfl | (simp only [puts]; rfl)
       case ja => exact hx9.out.symm
      ·
       obtain ⟨g8, cap8, h8, f8⟩ := hd.out 8 (mem_of (by kernel_rfl)) (by decide) (by kernel_rfl)
       have h9 := (hd.out 9 (mem_of (by kernel_rfl)) (by decide) (by kernel_rfl)).trans hx9.out
       have RC1 := RC.keep (fun b _ hb => hS.out 1 b (by kernel_rfl) (Or.inr ⟨rfl, hb⟩))
       have hF8 : ∀ b, (foot [(10, 8)] [(8, 0)] (fun m b => (m = 0 ∧ b = g4) ∨ (m = 1 ∧ b = gB)) 12 8 iv) b → (b = g4) ∨ ((wb).heap.size ≤ b ∧ b < w1.heap.size) := by
        rintro b ⟨j, hj, hh⟩
        have hj' := of_decide_eq_true (List.all_eq_true.1 (show ((chainOf [(10, 8)] 12 8).all fun j => decide (j ∈ [8])) = true from by kernel_rfl) j hj)
        simp only [List.mem_cons, List.not_mem_nil, or_false] at hj'
        rcases hj' with rfl
        ·
         have q := (hbd.out 8 (mem_of (by kernel_rfl)) (by decide))
         rcases hh with hh | ⟨m, hm, hg⟩
         ·
          exact Or.inr (by omega)
         ·
          simp at hm; subst hm; simp at hg; exact Or.inl hg
       have f8' := f8
       rw [show shD (A.take j) ++ z.cells.map D.raw = (shs (A.take j) ++ z.cells).map D.raw by rw [List.map_append]; rfl] at f8'
       have hfg := f8'.blk.1
       obtain ⟨-, -, -, r9, hr9⟩ := RC1.blk (us := shs (A.drop j))
       have hld : (shs (A.drop j)).length = (k - j) * 3 := by rw [shs_length, List.length_drop, hAk]
       simp only [h8, h9]
       refine wpList_append_raw w1 (by rfl) _ _ 32 (by rfl) 34 (.agg #[.int .i64 0, .int .i64 0, .slice none 0 0]) 3 40 Tryz.underlying32 zero_implExpr rfl (by decide) (g := g8) (n := j + 1) (c := cap8) (us := shs (A.take j) ++ z.cells) (by rfl) f8' ⟨gB, 0, none⟩ (some ⟨gB, 0, none⟩) (k - j) cB (shs (A.drop j)) (by rfl) rfl (head_news hr9) hld (shs_ones _) (by omega) (by unfold maxLen; omega) ?_
       intro gf cf wf hgf hapf hspf
       go_wp2_with fail
       have hins : (shs (A.take j) ++ z.cells ++ shs (A.drop j)).map D.raw = shD (insS z A) := by
        unfold insS shD
        rw [hpl, shs_append, show shs (z :: A.drop j) = z.cells ++ shs (A.drop j) by simp [shs], List.append_assoc]
       rw [hins] at hapf
       exact Onward.mk (hK (.slice (some ⟨gf, 0, none⟩) (j + 1 + (k - j)) cf) _ _ (fun h => by cases h) (by simp only [Act.put, List.setIfInBounds_toArray, List.set_cons_succ, List.set_cons_zero, h8, h9]) (hspf.more (fun q h => Or.inr ⟨8, by decide, by rw [h]; exact hfg⟩)) (fun iv' ag hi => ⟨gf, cf, rfl, trivial, hapf.more (fun q hq h => by
        subst h
        rcases hgf with h | h
        ·
         subst h
         exact foot_step (by kernel_rfl) ag hfg
        ·
         exact foot_new hi h hq)⟩))
      ·
       obtain ⟨gf, cf, h10, p10, f10⟩ := hd.out 10 (mem_of (by kernel_rfl)) (by decide) (by kernel_rfl)
       go_wp2_with fail
       refine Onward.mk (hK ?val1_11 _ _ (fun h => by cases h) ?eqA (Spares.refl _) (fun iv' _ _ => ?ja))
       case eqA => first | rfl | (simp only [puts, h10]; rfl)
       case ja => show _ = vs 10; simp only [h10]; rfl
     case hQ =>
      intro iv vs wx hB hSp hd he hbd hsep
      have hzB := hB.size
      have h0 : vs 0 = .slice (some ⟨g4, 0, none⟩) k c4 := hd.out 0 (mem_of (by kernel_rfl)) (not_eaten (by kernel_rfl))
      have h1 := (hd.out 1 (mem_of (by kernel_rfl)) (not_eaten (by kernel_rfl))).trans hx1.out
      have h2 : vs 2 = .slice (some ⟨g4, 0, none⟩) j c4 := hd.out 2 (mem_of (by kernel_rfl)) (not_eaten (by kernel_rfl))
      have h3 := (hd.out 3 (mem_of (by kernel_rfl)) (not_eaten (by kernel_rfl))).trans hx3.out
      have h4 := (hd.out 4 (mem_of (by kernel_rfl)) (not_eaten (by kernel_rfl))).trans hx4.out
      have h5 := (hd.out 5 (mem_of (by kernel_rfl)) (not_eaten (by kernel_rfl))).trans hx5.out
      have h6 := (hd.out 6 (mem_of (by kernel_rfl)) (not_eaten (by kernel_rfl))).trans hx6.out
      obtain ⟨h7, q7, f7⟩ := hd.out 7 (mem_of (by kernel_rfl)) (not_eaten (by kernel_rfl))
      obtain ⟨g8, cap8, h8⟩ := he.out 8 (mem_of (by kernel_rfl))
      have h9 := (hd.out 9 (mem_of (by kernel_rfl)) (not_eaten (by kernel_rfl))).trans hx9.out
      obtain ⟨gf, cf, h10, p10, f10⟩ := hd.out 10 (mem_of (by kernel_rfl)) (not_eaten (by kernel_rfl))
      have h11 : vs 11 = vs 10 := hd.out 11 (mem_of (by kernel_rfl)) (not_eaten (by kernel_rfl))
      simp only [putFrom, puts]
      have so10 : ∀ b, (foot [(10, 8)] [(8, 0)] (fun m b => (m = 0 ∧ b = g4) ∨ (m = 1 ∧ b = gB)) 12 10 iv) b → b = g4 ∨ (wb).heap.size ≤ b := by
       rintro b ⟨j, hj, hh⟩
       have hj' := of_decide_eq_true (List.all_eq_true.1 (show ((chainOf [(10, 8)] 12 10).all fun j => decide (j ∈ [10, 8])) = true from by kernel_rfl) j hj)
       simp only [List.mem_cons, List.not_mem_nil, or_false] at hj'
       rcases hj' with rfl | rfl
       ·
        have q := (hbd.out 10 (mem_of (by kernel_rfl))).1
        rcases hh with hh | ⟨m, hm, hg⟩
        ·
         exact Or.inr (by omega)
        ·
         simp at hm
       ·
        have q := (hbd.out 8 (mem_of (by kernel_rfl))).1
        rcases hh with hh | ⟨m, hm, hg⟩
        ·
         exact Or.inr (by omega)
        ·
         simp at hm; subst hm; simp at hg; exact Or.inl hg
      have hon := (AppS.only (us := shs (insS z A)) f10)
      have hgfs := so10 _ ((AppS.blk (us := shs (insS z A)) f10).1)
      have hgfl : gf < wx.heap.size := (AppS.blk (us := shs (insS z A)) f10).2.2.2.elim fun _ h => h.lt
      have hS2 := hSp.out
      have hT12 := hT11.keep (w' := wx) (fun b hb h => hS2.block b hb (fun ⟨m, h'⟩ => by rcases h' with ⟨_, h'⟩ | ⟨_, h'⟩ <;> omega))
      have hBx := hB11.trans (hS2.below (B := w.heap.size) (by have := hB11.size; omega) (fun b ⟨m, h'⟩ => by rcases h' with ⟨_, h'⟩ | ⟨_, h'⟩ <;> omega))
      rw [show j + 1 + (k - j) = k + 1 by omega] at hon
      have hA2' := hA2
      have e1 : (j + 1 + (k - j) : Nat) = k + 1 := by omega
      have E1 := Lib.hid e1
      rw [h10] at h11
      simp only [Nat.zero_add, Nat.reduceAdd, h11]
      clear hd he hbd hsep OC RC hT11 f10 e1
      go_wp2_with fail
      go_roundw
      case rel => exact ⟨k + 1, g11, c11, gf, cf, insS z A, by omega, by go_num, hA2', fun q hq => (insS_mem hq).elim (fun h => h ▸ hzm) (hAm q), hAl, by rw [E1.out], by rw [E1.out], by rcases hgfs with h | h <;> omega, by omega, by rcases hgfs with h | h <;> omega, hT12, hon, hBx⟩
      case measure => simp [intOf]; omega
    ·
     rw [hlt2] at hcmp
     go_wp2_with fail
     go_roundw
     case rel => exact ⟨j + 1, by omega, by go_num, fun m hm y' hy' => by
      by_cases hmj : m = j
      ·
       subst hmj
       rw [hy] at hy'
       obtain rfl := Option.some.inj hy'
       exact hlt2
      ·
       exact hless m (by omega) y' hy', by first | rfl | trivial⟩
     case measure => simp [intOf]; omega
   ·
    have hjk3 : j = k := by omega
    have hjkc : ¬ (j : Int) < (k : Int) := by omega
    have Hjk := Lib.hid hjk3
    clear hjk3
    have hpl : placeS z A = j := placeS_eq z A _ (by omega) hless (fun y hy => by have := (List.getElem?_eq_some_iff.1 hy).1; omega)
    obtain ⟨ad3, if3, s3c⟩ := from_at (g := g3) (o := j) hj hc31
    obtain ⟨ad4, if4, s4c⟩ := from_at (g := g4) (o := j * 3) hj hc41
    have hg3l := hbk3.lt
    have hg4l := hbk4.lt
    have hTl : (A.map fun z => kfS z.e.text).length = k * 1 := by rw [List.length_map]; omega
    have hOl : (shs A).length = k * 3 := by rw [shs_length, hAk]
    have HT2 := Lib.hid hT2
    have HO2 := Lib.hid hO2
    have Hk3 := Lib.hid hbk3
    have Hk4 := Lib.hid hbk4
    have Hless := Lib.hid hless
    have hjc3 : (j : Int) ≤ (c3 : Int) := by omega
    have hjc4 : (j : Int) ≤ (c4 : Int) := by omega
    have hjk2 : (j : Int) ≤ (k : Int) := by omega
    clear hT2 hO2 hbk3 hbk4 hless
    obtain ⟨w2, rfl⟩ : ∃ v, v = wr := ⟨_, rfl⟩
    go_wp2_with (first
     | (at_builtin; refine (wpList_append_raw (w2.alloc (.cells #[] 9)) rfl _ _ 139 rfl 9 (.string ⟨#[]⟩) 1 16 Tryz.underlying139 info_string rfl (by decide) (g := w2.heap.size) (n := 0) (c := 0) (us := []) rfl (AppS.empty (S := fun b => b = w2.heap.size) (Blk.new0 w2 9) rfl) ad3 _ (k - j) _ ((A.map fun z => kfS z.e.text).drop (j * 1)) rfl (by first | rfl | (rcases s3c with h | h; exact absurd h (by omega); rw [h])) (row_news (Hk3.out.alloc _) hTl hj (by rwa [Nat.mul_one])) (by rw [List.length_drop, hTl]; omega) (fun u hu => strs_one A u (List.mem_of_mem_drop hu)) (by omega) (by unfold maxLen; omega) ?_); intro gA cA w8 hg8 hap8 hsp8; have hz8 := hsp8.size; simp at hz8; have hq8 : w2.heap.size ≤ gA := (by rcases hg8 with h | h; omega; simp at h; omega); have hl8 : gA < w8.heap.size := (hap8.blk.2.2.2.elim fun _ h => h.lt); have K8 : Below w2.heap.size w2 w8 := (Below.alloc (Below.refl _ _) (Nat.le_refl _) _).trans (hsp8.below (by simp) (fun b h => by omega)))
     | (at_builtin; refine (wpList_append_raw (w8.alloc (.cells #[] 34)) rfl _ _ 32 rfl 34 (.agg #[.int .i64 0, .int .i64 0, .slice none 0 0]) 3 40 Tryz.underlying32 zero_implExpr rfl (by decide) (g := w8.heap.size) (n := 0) (c := 0) (us := []) rfl (AppS.empty (S := fun b => b = w8.heap.size) (Blk.new0 w8 34) rfl) ad4 _ (k - j) _ ((shs A).drop (j * 3)) rfl (by first | rfl | (rcases s4c with h | h; exact absurd h (by omega); rw [h])) (row_news ((Hk4.out.below K8).alloc _) hOl hj s4c) (by rw [List.length_drop, hOl]; omega) (fun u hu => shs_ones A u (List.mem_of_mem_drop hu)) (by omega) (by unfold maxLen; omega) ?_); intro gB cB w9 hg9 hap9 hsp9; have hz9 := hsp9.size; simp at hz9; have hq9 : w8.heap.size ≤ gB := (by rcases hg9 with h | h; omega; simp at h; omega); have hl9 : gB < w9.heap.size := (hap9.blk.2.2.2.elim fun _ h => h.lt); have K9 : Below w8.heap.size w8 w9 := (Below.alloc (Below.refl _ _) (Nat.le_refl _) _).trans (hsp9.below (by simp) (fun b h => by omega)))
     | (at_builtin; refine (wpList_append_raw (w9.alloc (.cells #[.string (bs z.e.text)] 9)) rfl _ _ 139 rfl 9 (.string ⟨#[]⟩) 1 16 Tryz.underlying139 info_string rfl (by decide) (S := fun b => b = g3) (g := g3) (n := j) (c := c3) (us := (A.map fun z => kfS z.e.text).take (j * 1)) rfl ((HT2.out.cut hj).keep (fun b hb h => by rw [Below.heap_alloc w9 _ b (by omega), K9.block b (by omega), K8.block b (by omega)])) ⟨w9.heap.size, 0, none⟩ _ 1 1 [kfS z.e.text] rfl rfl (news_blk (Blk.made w9 9 #[kfS z.e.text])) rfl (by intro u hu; simp at hu; subst hu; rfl) (by omega) (by unfold maxLen; omega) ?_); intro g10 c10 w10 hg10 hap10 hsp10; have hz10 := hsp10.size; simp at hz10; have hq10 : g10 = g3 ∨ w9.heap.size < g10 := (by rcases hg10 with h | h; exact Or.inl h; simp at h; exact Or.inr (by omega)); have hl10 : g10 < w10.heap.size := (hap10.blk.2.2.2.elim fun _ h => h.lt))
     | (at_builtin; (refine wpList_append_raw w10 rfl _ _ 139 rfl 9 (.string ⟨#[]⟩) 1 16 Tryz.underlying139 info_string rfl (by decide) (S := fun b => b = g10) (g := g10) (n := j + 1) (c := c10) (us := (A.map fun z => kfS z.e.text).take (j * 1) ++ [kfS z.e.text]) rfl hap10 ⟨gA, 0, none⟩ _ (k - j) _ ((A.map fun z => kfS z.e.text).drop (j * 1)) rfl rfl (fun i u hu => ((hap8.keep (fun b hb h => K9.block b hb)).keep (w' := w10) (fun b hb h => by rw [hsp10.block b (by simp; omega) (by omega), Below.heap_alloc w9 _ b hb])).blk.2.2.2.elim fun r8 hr8 => head_news hr8 i u (by simpa using hu)) (by rw [List.length_drop, hTl]; omega) (fun u hu => strs_one A u (List.mem_of_mem_drop hu)) (by omega) (by unfold maxLen; omega) ?_; intro g11 c11 w11 hg11 hap11 hsp11; have hz11 := hsp11.size; have hl11 : g11 < w11.heap.size := (hap11.blk.2.2.2.elim fun _ h => h.lt)))
     | (at_builtin; go_must (fail)))
    obtain ⟨wb, rfl⟩ : ∃ v, v = w11 := ⟨_, rfl⟩
    have KA : ∀ b, b < w2.heap.size → b ≠ g3 → wb.heap[b]? = w2.heap[b]? := fun b hb h3 => by
     rw [hsp11.block b (by omega) (by omega), hsp10.block b (by simp; omega) h3, Below.heap_alloc w9 _ b (by omega), K9.block b (by omega), K8.block b (by omega)]
    have hszb : w2.heap.size < wb.heap.size := by omega
    have OC : AppS (fun b => b = g4) wb 34 3 j (shD (A.take j)) (.slice (some ⟨g4, 0, none⟩) j c4) := by
     have q := (AppS.cut (us := shs A) HO2.out hj).keep (w' := wb) (fun b hb h => KA b (by omega) (by omega))
     rw [← shs_take] at q
     exact q
    have RC : AppS (fun b => b = gB) wb 34 3 (k - j) (shD (A.drop j)) (.slice (some ⟨gB, 0, none⟩) (k - j) cB) := by
     have q := hap9.keep (w' := wb) (fun b hb h => by rw [hsp11.block b (by omega) (by omega), hsp10.block b (by simp; omega) (by omega), Below.heap_alloc w9 _ b hb])
     rw [List.nil_append, ← shs_drop, Nat.zero_add] at q
     exact q
    have OCf : ∀ b, b = g4 → 0 ≤ b ∧ b < wb.heap.size := fun b h => by omega
    have RCf : ∀ b, b = gB → 0 ≤ b ∧ b < wb.heap.size := fun b h => by omega
    have hT11 : AppS (fun b => b = g11) wb 9 1 (k + 1) (((insS z A).map fun z => kfS z.e.text).map D.raw) (.slice (some ⟨g11, 0, none⟩) (k + 1) c11) := by
     have e1 : (insS z A).map (fun z => kfS z.e.text) = (A.map fun z => kfS z.e.text).take (j * 1) ++ [kfS z.e.text] ++ (A.map fun z => kfS z.e.text).drop (j * 1) := by
      unfold insS
      rw [hpl, Nat.mul_one, List.map_append, List.map_cons, List.map_take, List.map_drop, List.append_assoc]
      rfl
     rw [e1]
     have q := hap11
     rw [show j + 1 + (k - j) = k + 1 by omega] at q
     exact q
    have hlgk : wb.heap[lg]? = w2.heap[lg]? := KA lg (by omega) (by omega)
    have hblk2 := (hblk.below hB2).keep hlgk
    have qz : ∀ m v, z.cells[m]? = some v → wb.cell? ⟨lg, k * 3 + m, none⟩ = some v := by
     intro m v hv
     have hm : m < 3 := by have := (List.getElem?_eq_some_iff.1 hv).1; simpa [Sh.cells] using this
     rw [hblk2.cell, List.getElem?_append_left (by rw [shs_length]; omega), shs_at L k z hz m hm, hv]
    have Q0 := Lib.hid (qz 0 _ rfl)
    have Q1 := Lib.hid (qz 1 _ rfl)
    have Q2 := Lib.hid (qz 2 _ rfl)
    have hB11 : Below w.heap.size w wb := hB2.trans ⟨hsp11.os.trans (hsp10.os.trans (K9.os.trans K8.os)), hsp11.tape.trans (hsp10.tape.trans (K9.tape.trans K8.tape)), hsp11.output.trans (hsp10.output.trans (K9.output.trans K8.output)), by have := hB2.size; omega, fun b hb => KA b (by have := hB2.size; omega) (by omega)⟩
    have hA2 : Hid ((insS z A).map Sh.e = sortI ((L.take (k + 1)).map Sh.e)) := by
     show _ = _
     rw [insS_e, HA.out, List.take_succ_eq_append_getElem hlt, List.map_append, (List.getElem?_eq_some_iff.1 hz).2]
     unfold sortI
     rw [List.foldl_append]
     rfl
    have hAl : (insS z A).length = k + 1 := by
     unfold insS
     rw [hpl, List.length_append, List.length_take, List.length_cons, List.length_drop]
     omega
    have hq11 : g11 = g10 ∨ w10.heap.size ≤ g11 := hg11
    clear hap8 hap9 hap10 hap11 qz hblk2 hlgk HT2 HO2 Hk3 Hk4
    obtain ⟨x1, hx1⟩ := mkval ?a2_1
    obtain ⟨x3, hx3⟩ := mkval ?a2_3
    obtain ⟨x4, hx4⟩ := mkval ?a2_4
    obtain ⟨x5, hx5⟩ := mkval ?a2_5
    obtain ⟨x6, hx6⟩ := mkval ?a2_6
    obtain ⟨x9, hx9⟩ := mkval ?a2_9
    have hGb : ∀ m b, (fun m b => (m = 0 ∧ b = g4) ∨ (m = 1 ∧ b = gB)) m b → (0) ≤ b ∧ b < (wb).heap.size := by
     intro m b hg
     rcases hg with ⟨rfl, hg⟩ | ⟨rfl, hg⟩
     ·
      have q := OCf b hg
      omega
     ·
      have q := RCf b hg
      omega
    have hGd : ∀ m m' b, (fun m b => (m = 0 ∧ b = g4) ∨ (m = 1 ∧ b = gB)) m b → (fun m b => (m = 0 ∧ b = g4) ∨ (m = 1 ∧ b = gB)) m' b → m = m' := by
     intro m m' b h h'
     rcases h with ⟨rfl, h⟩ | ⟨rfl, h⟩ <;> rcases h' with ⟨rfl, h'⟩ | ⟨rfl, h'⟩ <;> first
      | rfl
      | (exfalso; omega)
    refine region_rs [(10, 8)] [(8, 0)] (fun m b => (m = 0 ∧ b = g4) ∨ (m = 1 ∧ b = gB)) (0) (fun i iv vs wx => match i with
     | 0 => vs 0 = .slice (some ⟨g4, 0, none⟩) k c4
     | 1 => vs 1 = x1
     | 2 => vs 2 = .slice (some ⟨g4, 0, none⟩) j c4
     | 3 => vs 3 = x3
     | 4 => vs 4 = x4
     | 5 => vs 5 = x5
     | 6 => vs 6 = x6
     | 7 => vs 7 = .slice (some ⟨(iv 7).1, 0, none⟩) 1 1 ∧ (iv 7).2 = (iv 7).1 + 1 ∧ Blk wx (iv 7).1 34 [.int .i64 z.e.kind, .int .i64 z.e.num, .slice z.s z.e.kids.length z.c]
     | 8 => ∃ g cap, vs 8 = .slice (some ⟨g, 0, none⟩) (j + 1) cap ∧ AppS (foot [(10, 8)] [(8, 0)] (fun m b => (m = 0 ∧ b = g4) ∨ (m = 1 ∧ b = gB)) 12 8 iv) wx 34 3 (j + 1) (shD (A.take j) ++ z.cells.map D.raw) (.slice (some ⟨g, 0, none⟩) (j + 1) cap)
     | 9 => vs 9 = x9
     | 10 => ∃ gf cf, vs 10 = .slice (some ⟨gf, 0, none⟩) (j + 1 + (k - j)) cf ∧ (True) ∧ AppS (foot [(10, 8)] [(8, 0)] (fun m b => (m = 0 ∧ b = g4) ∨ (m = 1 ∧ b = gB)) 12 10 iv) wx 34 3 (j + 1 + (k - j)) (shD (insS z A)) (.slice (some ⟨gf, 0, none⟩) (j + 1 + (k - j)) cf)
     | 11 => vs 11 = vs 10
     | _ => True) (fun i iv vs => match i with
     | 0 => vs 0 = .slice (some ⟨g4, 0, none⟩) k c4
     | 1 => vs 1 = x1
     | 2 => vs 2 = .slice (some ⟨g4, 0, none⟩) j c4
     | 3 => vs 3 = x3
     | 4 => vs 4 = x4
     | 5 => vs 5 = x5
     | 6 => vs 6 = x6
     | 7 => vs 7 = .slice (some ⟨(iv 7).1, 0, none⟩) 1 1 ∧ (iv 7).2 = (iv 7).1 + 1
     | 8 => ∃ g cap, vs 8 = .slice (some ⟨g, 0, none⟩) (j + 1) cap
     | 9 => vs 9 = x9
     | 10 => ∃ gf cf, vs 10 = .slice (some ⟨gf, 0, none⟩) (j + 1 + (k - j)) cf ∧ (True)
     | 11 => vs 11 = vs 10
     | _ => True) (by kernel_rfl) (by kernel_rfl) [0, 1, 2, 3, 4, 5, 6, 7, 8, 9, 10, 11] (by kernel_rfl) ?hbase ?hGb ?hG ?hJ ?hE ?hEE ?hstep ?hQ
    case hbase => first | exact Nat.le_refl _ | omega | (simp; omega)
    case hGb =>
     exact hGb
    case hG =>
     exact hGd
    case hJ =>
     intro i hi iv iv' vs vs' wx wx' ha hv hz hk hj
     simp only [List.mem_cons, List.not_mem_nil, or_false] at hi
     rcases hi with rfl | rfl | rfl | rfl | rfl | rfl | rfl | rfl | rfl | rfl | rfl | rfl
     ·
      exact (hv.out 0 (mem_of (by kernel_rfl))).symm.trans hj
     ·
      exact (hv.out 1 (mem_of (by kernel_rfl))).symm.trans hj
     ·
      exact (hv.out 2 (mem_of (by kernel_rfl))).symm.trans hj
     ·
      exact (hv.out 3 (mem_of (by kernel_rfl))).symm.trans hj
     ·
      exact (hv.out 4 (mem_of (by kernel_rfl))).symm.trans hj
     ·
      exact (hv.out 5 (mem_of (by kernel_rfl))).symm.trans hj
     ·
      exact (hv.out 6 (mem_of (by kernel_rfl))).symm.trans hj
     ·
      have e7 := hv.out 7 (mem_of (by kernel_rfl))
      have g7 := ha.out 7 (mem_of (by kernel_rfl))
      obtain ⟨q1, q3, q2⟩ := hj
      show vs' 7 = .slice (some ⟨(iv' 7).1, 0, none⟩) 1 1 ∧ (iv' 7).2 = (iv' 7).1 + 1 ∧ Blk wx' (iv' 7).1 34 [.int .i64 z.e.kind, .int .i64 z.e.num, .slice z.s z.e.kids.length z.c]
      rw [← e7, ← g7]
      exact ⟨q1, q3, q2.keep (hk.out _ q2.lt (foot_own (Nat.le_refl _) (by omega)))⟩
     ·
      have e8 := hv.out 8 (mem_of (by kernel_rfl))
      obtain ⟨g, cap, q1, q2⟩ := hj
      exact ⟨g, cap, e8 ▸ q1, (q2.keep (fun b hb h1 => hk.out b hb h1)).more (fun b hb h1 => foot_agree (l := ancs _ 12 8) (by exact of_decide_eq_true (by kernel_rfl)) ha.out h1)⟩
     ·
      exact (hv.out 9 (mem_of (by kernel_rfl))).symm.trans hj
     ·
      have e10 := hv.out 10 (mem_of (by kernel_rfl))
      obtain ⟨gf, cf, q1, q3, q2⟩ := hj
      exact ⟨gf, cf, e10 ▸ q1, q3, (q2.keep (fun b hb h1 => hk.out b hb h1)).more (fun b hb h1 => foot_agree (l := ancs _ 12 10) (by exact of_decide_eq_true (by kernel_rfl)) ha.out h1)⟩
     ·
      have e10 := hv.out 10 (mem_of (by kernel_rfl))
      have e11 := hv.out 11 (mem_of (by kernel_rfl))
      have hj' : vs 11 = vs 10 := hj
      show vs' 11 = vs' 10
      rw [← e10, ← e11]
      exact hj'
    case hE =>
     intro i hi iv vs wx hj
     simp only [List.mem_cons, List.not_mem_nil, or_false] at hi
     rcases hi with rfl | rfl | rfl | rfl | rfl | rfl | rfl | rfl | rfl | rfl | rfl | rfl
     ·
      exact hj
     ·
      exact hj
     ·
      exact hj
     ·
      exact hj
     ·
      exact hj
     ·
      exact hj
     ·
      exact hj
     ·
      exact ⟨hj.1, hj.2.1⟩
     ·
      obtain ⟨g, cap, q1, -⟩ := hj
      exact ⟨g, cap, q1⟩
     ·
      exact hj
     ·
      obtain ⟨gf, cf, q1, q3, -⟩ := hj
      exact ⟨gf, cf, q1, q3⟩
     ·
      exact hj
    case hEE =>
     intro i hi iv iv' vs vs' ha hv hj
     simp only [List.mem_cons, List.not_mem_nil, or_false] at hi
     rcases hi with rfl | rfl | rfl | rfl | rfl | rfl | rfl | rfl | rfl | rfl | rfl | rfl
     ·
      exact (hv.out 0 (mem_of (by kernel_rfl))).symm.trans hj
     ·
      exact (hv.out 1 (mem_of (by kernel_rfl))).symm.trans hj
     ·
      exact (hv.out 2 (mem_of (by kernel_rfl))).symm.trans hj
     ·
      exact (hv.out 3 (mem_of (by kernel_rfl))).symm.trans hj
     ·
      exact (hv.out 4 (mem_of (by kernel_rfl))).symm.trans hj
     ·
      exact (hv.out 5 (mem_of (by kernel_rfl))).symm.trans hj
     ·
      exact (hv.out 6 (mem_of (by kernel_rfl))).symm.trans hj
     ·
      have e7 := hv.out 7 (mem_of (by kernel_rfl))
      have g7 := ha.out 7 (mem_of (by kernel_rfl))
      have hj' : vs 7 = .slice (some ⟨(iv 7).1, 0, none⟩) 1 1 ∧ (iv 7).2 = (iv 7).1 + 1 := hj
      show vs' 7 = .slice (some ⟨(iv' 7).1, 0, none⟩) 1 1 ∧ (iv' 7).2 = (iv' 7).1 + 1
      rw [← e7, ← g7]
      exact hj'
     ·
      have e8 := hv.out 8 (mem_of (by kernel_rfl))
      have hj' : ∃ g cap, vs 8 = .slice (some ⟨g, 0, none⟩) (j + 1) cap := hj
      show ∃ g cap, vs' 8 = .slice (some ⟨g, 0, none⟩) (j + 1) cap
      rw [← e8]
      exact hj'
     ·
      exact (hv.out 9 (mem_of (by kernel_rfl))).symm.trans hj
     ·
      have e10 := hv.out 10 (mem_of (by kernel_rfl))
      have hj' : ∃ gf cf, vs 10 = .slice (some ⟨gf, 0, none⟩) (j + 1 + (k - j)) cf ∧ (True) := hj
      show ∃ gf cf, vs' 10 = .slice (some ⟨gf, 0, none⟩) (j + 1 + (k - j)) cf ∧ (True)
      rw [← e10]
      exact hj'
     ·
      have e10 := hv.out 10 (mem_of (by kernel_rfl))
      have e11 := hv.out 11 (mem_of (by kernel_rfl))
      have hj' : vs 11 = vs 10 := hj
      show vs' 11 = vs' 10
      rw [← e10, ← e11]
      exact hj'
    case hstep =>
     intro i hi opr ho iv vs w1 hB hS hSo hd he hbd hsep hun K hK
     simp only [List.mem_cons, List.not_mem_nil, or_false] at hi
     have hzB := hB.size
     have HGb := Lib.hid hGb
     clear hGb hGd
     have kl := hSo.out.block lg (by omega) (fun ⟨m, h⟩ => by rcases h with ⟨_, h⟩ | ⟨_, h⟩ <;> omega)
     have q0 := (World.cell?_of_block (w := wb) (w' := w1) (a := ⟨lg, k * 3 + 0, none⟩) kl).trans Q0.out
     have q1 := (World.cell?_of_block (w := wb) (w' := w1) (a := ⟨lg, k * 3 + 1, none⟩) kl).trans Q1.out
     have q2 := (World.cell?_of_block (w := wb) (w' := w1) (a := ⟨lg, k * 3 + 2, none⟩) kl).trans Q2.out
     rw [Nat.add_zero] at q0
     have hjc4' : (j : Int) ≤ (c4 : Int) := by omega
     generalize hA : putFrom _ 0 vs _ = A at hK ⊢
     simp only [putFrom, puts] at hA
     rcases hi with rfl | rfl | rfl | rfl | rfl | rfl | rfl | rfl | rfl | rfl | rfl | rfl
     all_goals
      simp at ho
      subst ho
      subst hA
     ·
      have un11 : vs 11 = .slice (some ⟨g4, 0, none⟩) k c4 := hun.out 11 (mem_of (by kernel_rfl))
      go_wp2_with fail
      exact Onward.mk (hK (.slice (some ⟨g4, 0, none⟩) k c4) _ _ (fun h => by cases h) (by first | rfl | (simp only [puts, un11])) (Spares.refl _) (fun iv' _ _ => rfl))
     ·
      go_wp2_with fail
      refine Onward.mk (hK ?val2_1 _ _ (fun h => by cases h) ?eqA (Spares.refl _) (fun iv' _ _ => ?ja))
      case eqA => first | rfl | (simp only [puts]; rfl)
      case ja => exact hx1.out.symm
     ·
      have h0 : vs 0 = .slice (some ⟨g4, 0, none⟩) k c4 := hd.out 0 (mem_of (by kernel_rfl)) (by decide) (by kernel_rfl)
      have h1 := (hd.out 1 (mem_of (by kernel_rfl)) (by decide) (by kernel_rfl)).trans hx1.out
      go_wp2_with fail
      exact Onward.mk (hK (.slice (some ⟨g4, 0, none⟩) j c4) _ _ (fun h => by cases h) (by first | rfl | (simp only [puts, h0, h1])) (Spares.refl _) (fun iv' _ _ => rfl))
     ·
      go_wp2_with fail
      refine Onward.mk (hK ?val2_3 _ _ (fun h => by cases h) ?eqA (Spares.refl _) (fun iv' _ _ => ?ja))
      case eqA => first | rfl | (simp only [puts]; rfl)
      case ja => exact hx3.out.symm
     ·
      go_wp2_with fail
      refine Onward.mk (hK ?val2_4 _ _ (fun h => by cases h) ?eqA (Spares.refl _) (fun iv' _ _ => ?ja))
      case eqA => first | rfl | (simp only [puts]; rfl)
      case ja => exact hx4.out.symm
     ·
      have h3 := (hd.out 3 (mem_of (by kernel_rfl)) (by decide) (by kernel_rfl)).trans hx3.out
      have h4 := (hd.out 4 (mem_of (by kernel_rfl)) (by decide) (by kernel_rfl)).trans hx4.out
      go_wp2_with fail
      refine Onward.mk (hK ?val2_5 _ _ (fun h => by cases h) ?eqA (Spares.refl _) (fun iv' _ _ => ?ja))
      case eqA => first | rfl | (simp only [puts, h3, h4]; rfl)
      case ja => exact hx5.out.symm
     ·
      have h5 := (hd.out 5 (mem_of (by kernel_rfl)) (by decide) (by kernel_rfl)).trans hx5.out
      go_wp2_with fail
      refine Onward.mk (hK ?val2_6 _ _ (fun h => by cases h) ?eqA (Spares.refl _) (fun iv' _ _ => ?ja))
      case eqA => first | rfl | (simp only [puts, h5]; rfl)
      case ja => exact hx6.out.symm
     ·
      have h6 := (hd.out 6 (mem_of (by kernel_rfl)) (by decide) (by kernel_rfl)).trans hx6.out
      go_wp2_with fail
      exact Onward.mk (hK (.slice (some ⟨w1.heap.size, 0, none⟩) 1 1) _ _ (fun h => by cases h) (by first | rfl | (simp only [puts, h6])) (Spares.of_below (Below.alloc (Below.refl _ _) (Nat.le_refl _) _)) (fun iv' _ hi => by
       show Value.slice (some ⟨w1.heap.size, 0, none⟩) 1 1 = .slice (some ⟨(iv' 7).1, 0, none⟩) 1 1 ∧ (iv' 7).2 = (iv' 7).1 + 1 ∧ Blk _ (iv' 7).1 34 [.int .i64 z.e.kind, .int .i64 z.e.num, .slice z.s z.e.kids.length z.c]
       rw [hi]
       exact ⟨rfl, by simp, Blk.new3 _ _ _ _ _⟩))
     ·
      have h2 : vs 2 = .slice (some ⟨g4, 0, none⟩) j c4 := hd.out 2 (mem_of (by kernel_rfl)) (by decide) (by kernel_rfl)
      obtain ⟨h7, q7, f7⟩ := hd.out 7 (mem_of (by kernel_rfl)) (by decide) (by kernel_rfl)
      have OC1 := OC.keep (fun b _ hb => hS.out 0 b (by kernel_rfl) (Or.inl ⟨rfl, hb⟩))
      simp only [h2, h7]
      have f7' : Blk w1 (iv 7).1 34 [.int .i64 z.e.kind, .int .i64 z.e.num, .slice z.s z.e.kids.length z.c] := by first | exact f7 | (rw [h7] at f7; exact f7)
      refine wpList_append_s w1 (by rfl) _ _ 32 (by rfl) 34 (.agg #[.int .i64 0, .int .i64 0, .slice none 0 0]) 3 40 Tryz.underlying32 zero_implExpr rfl (by decide) (S := (fun b => b = g4)) (T := (fun _ => False)) _ (by rfl) OC1 ⟨(iv 7).1, 0, none⟩ 1 1 [.int .i64 z.e.kind, .int .i64 z.e.num, .slice z.s z.e.kids.length z.c] (by rfl) (news_blk f7') ⟨[], Ows.raws (us := z.cells) (fun u hu => shs_one z u (by simpa [shs] using hu)), by simp, by simp⟩ (fun _ _ _ h => h) (by simp) (by simp [Value.oneCell']) (by omega) (by omega) (by unfold maxLen; omega) ?_
      intro g cap w2 hap ht
      go_wp2_with fail
      exact Onward.mk (hK (.slice (some ⟨g, 0, none⟩) (j + 1) cap) _ _ (fun h => by cases h) (by first | rfl | (simp only [puts, h2, h7])) (ht.more (fun b h => Or.inl ⟨0, by decide, (Or.inl ⟨rfl, h⟩)⟩)) (fun iv' ag hi => ⟨g, cap, rfl, hap.more (fun b _ h => by rcases h with h | h | h; exact foot_given 0 (by decide) (Or.inl ⟨rfl, h⟩); exact h.elim; exact foot_new hi h.1 h.2)⟩))
     ·
      go_wp2_with fail
      refine Onward.mk (hK ?val2_9 _ _ (fun h => by cases h) ?eqA (Spares.refl _) (fun iv' _ _ => ?ja))
      case eqA => first | rfl | (simp only [puts]; rfl)
      case ja => exact hx9.out.symm
     ·
      obtain ⟨g8, cap8, h8, f8⟩ := hd.out 8 (mem_of (by kernel_rfl)) (by decide) (by kernel_rfl)
      have h9 := (hd.out 9 (mem_of (by kernel_rfl)) (by decide) (by kernel_rfl)).trans hx9.out
      have RC1 := RC.keep (fun b _ hb => hS.out 1 b (by kernel_rfl) (Or.inr ⟨rfl, hb⟩))
      have hF8 : ∀ b, (foot [(10, 8)] [(8, 0)] (fun m b => (m = 0 ∧ b = g4) ∨ (m = 1 ∧ b = gB)) 12 8 iv) b → (b = g4) ∨ ((wb).heap.size ≤ b ∧ b < w1.heap.size) := by
       rintro b ⟨j, hj, hh⟩
       have hj' := of_decide_eq_true (List.all_eq_true.1 (show ((chainOf [(10, 8)] 12 8).all fun j => decide (j ∈ [8])) = true from by kernel_rfl) j hj)
       simp only [List.mem_cons, List.not_mem_nil, or_false] at hj'
       rcases hj' with rfl
       ·
        have q := (hbd.out 8 (mem_of (by kernel_rfl)) (by decide))
        rcases hh with hh | ⟨m, hm, hg⟩
        ·
         exact Or.inr (by omega)
        ·
         simp at hm; subst hm; simp at hg; exact Or.inl hg
      have f8' := f8
      rw [show shD (A.take j) ++ z.cells.map D.raw = (shs (A.take j) ++ z.cells).map D.raw by rw [List.map_append]; rfl] at f8'
      have hfg := f8'.blk.1
      obtain ⟨-, -, -, r9, hr9⟩ := RC1.blk (us := shs (A.drop j))
      have hld : (shs (A.drop j)).length = (k - j) * 3 := by rw [shs_length, List.length_drop, hAk]
      simp only [h8, h9]
      refine wpList_append_raw w1 (by rfl) _ _ 32 (by rfl) 34 (.agg #[.int .i64 0, .int .i64 0, .slice none 0 0]) 3 40 Tryz.underlying32 zero_implExpr rfl (by decide) (g := g8) (n := j + 1) (c := cap8) (us := shs (A.take j) ++ z.cells) (by rfl) f8' ⟨gB, 0, none⟩ (some ⟨gB, 0, none⟩) (k - j) cB (shs (A.drop j)) (by rfl) rfl (head_news hr9) hld (shs_ones _) (by omega) (by unfold maxLen; omega) ?_
      intro gf cf wf hgf hapf hspf
      go_wp2_with fail
      have hins : (shs (A.take j) ++ z.cells ++ shs (A.drop j)).map D.raw = shD (insS z A) := by
       unfold insS shD
       rw [hpl, shs_append, show shs (z :: A.drop j) = z.cells ++ shs (A.drop j) by simp [shs], List.append_assoc]
      rw [hins] at hapf
      exact Onward.mk (hK (.slice (some ⟨gf, 0, none⟩) (j + 1 + (k - j)) cf) _ _ (fun h => by cases h) (by simp only [Act.put, List.setIfInBounds_toArray, List.set_cons_succ, List.set_cons_zero, h8, h9]) (hspf.more (fun q h => Or.inr ⟨8, by decide, by rw [h]; exact hfg⟩)) (fun iv' ag hi => ⟨gf, cf, rfl, trivial, hapf.more (fun q hq h => by
       subst h
       rcases hgf with h | h
       ·
        subst h
        exact foot_step (by kernel_rfl) ag hfg
       ·
        exact foot_new hi h hq)⟩))
     ·
      obtain ⟨gf, cf, h10, p10, f10⟩ := hd.out 10 (mem_of (by kernel_rfl)) (by decide) (by kernel_rfl)
      go_wp2_with fail
      refine Onward.mk (hK ?val2_11 _ _ (fun h => by cases h) ?eqA (Spares.refl _) (fun iv' _ _ => ?ja))
      case eqA => first | rfl | (simp only [puts, h10]; rfl)
      case ja => show _ = vs 10; simp only [h10]; rfl
    case hQ =>
     intro iv vs wx hB hSp hd he hbd hsep
     have hzB := hB.size
     have h0 : vs 0 = .slice (some ⟨g4, 0, none⟩) k c4 := hd.out 0 (mem_of (by kernel_rfl)) (not_eaten (by kernel_rfl))
     have h1 := (hd.out 1 (mem_of (by kernel_rfl)) (not_eaten (by kernel_rfl))).trans hx1.out
     have h2 : vs 2 = .slice (some ⟨g4, 0, none⟩) j c4 := hd.out 2 (mem_of (by kernel_rfl)) (not_eaten (by kernel_rfl))
     have h3 := (hd.out 3 (mem_of (by kernel_rfl)) (not_eaten (by kernel_rfl))).trans hx3.out
     have h4 := (hd.out 4 (mem_of (by kernel_rfl)) (not_eaten (by kernel_rfl))).trans hx4.out
     have h5 := (hd.out 5 (mem_of (by kernel_rfl)) (not_eaten (by kernel_rfl))).trans hx5.out
     have h6 := (hd.out 6 (mem_of (by kernel_rfl)) (not_eaten (by kernel_rfl))).trans hx6.out
     obtain ⟨h7, q7, f7⟩ := hd.out 7 (mem_of (by kernel_rfl)) (not_eaten (by kernel_rfl))
     obtain ⟨g8, cap8, h8⟩ := he.out 8 (mem_of (by kernel_rfl))
     have h9 := (hd.out 9 (mem_of (by kernel_rfl)) (not_eaten (by kernel_rfl))).trans hx9.out
     obtain ⟨gf, cf, h10, p10, f10⟩ := hd.out 10 (mem_of (by kernel_rfl)) (not_eaten (by kernel_rfl))
     have h11 : vs 11 = vs 10 := hd.out 11 (mem_of (by kernel_rfl)) (not_eaten (by kernel_rfl))
     simp only [putFrom, puts]
     have so10 : ∀ b, (foot [(10, 8)] [(8, 0)] (fun m b => (m = 0 ∧ b = g4) ∨ (m = 1 ∧ b = gB)) 12 10 iv) b → b = g4 ∨ (wb).heap.size ≤ b := by
      rintro b ⟨j, hj, hh⟩
      have hj' := of_decide_eq_true (List.all_eq_true.1 (show ((chainOf [(10, 8)] 12 10).all fun j => decide (j ∈ [10, 8])) = true from by kernel_rfl) j hj)
      simp only [List.mem_cons, List.not_mem_nil, or_false] at hj'
      rcases hj' with rfl | rfl
      ·
       have q := (hbd.out 10 (mem_of (by kernel_rfl))).1
       rcases hh with hh | ⟨m, hm, hg⟩
       ·
        exact Or.inr (by omega)
       ·
        simp at hm
      ·
       have q := (hbd.out 8 (mem_of (by kernel_rfl))).1
       rcases hh with hh | ⟨m, hm, hg⟩
       ·
        exact Or.inr (by omega)
       ·
        simp at hm; subst hm; simp at hg; exact Or.inl hg
     have hon := (AppS.only (us := shs (insS z A)) f10)
     have hgfs := so10 _ ((AppS.blk (us := shs (insS z A)) f10).1)
     have hgfl : gf < wx.heap.size := (AppS.blk (us := shs (insS z A)) f10).2.2.2.elim fun _ h => h.lt
     have hS2 := hSp.out
     have hT12 := hT11.keep (w' := wx) (fun b hb h => hS2.block b hb (fun ⟨m, h'⟩ => by rcases h' with ⟨_, h'⟩ | ⟨_, h'⟩ <;> omega))
     have hBx := hB11.trans (hS2.below (B := w.heap.size) (by have := hB11.size; omega) (fun b ⟨m, h'⟩ => by rcases h' with ⟨_, h'⟩ | ⟨_, h'⟩ <;> omega))
     rw [show j + 1 + (k - j) = k + 1 by omega] at hon
     have hA2' := hA2
     have e1 : (j + 1 + (k - j) : Nat) = k + 1 := by omega
     have E1 := Lib.hid e1
     rw [h10] at h11
     simp only [Nat.zero_add, Nat.reduceAdd, h11]
     clear hd he hbd hsep OC RC hT11 f10 e1
     go_wp2_with fail
     go_roundw
     case rel => exact ⟨k + 1, g11, c11, gf, cf, insS z A, by omega, by go_num, hA2', fun q hq => (insS_mem hq).elim (fun h => h ▸ hzm) (hAm q), hAl, by rw [E1.out], by rw [E1.out], by rcases hgfs with h | h <;> omega, by omega, by rcases hgfs with h | h <;> omega, hT12, hon, hBx⟩
     case measure => simp [intOf]; omega
end Go.Proofs.YtcokljhamhgelaaGreatDoor
