/-
  Parts of a proof, joined: DerU, BunP, MapL, StI, StT, MadO. No condition.
-/
import Derived.Test.YtcokljhamhgelaaGreatDoorPk23
import Derived.Test.YtcokljhamhgelaaGreatDoorPk24
namespace Go.Proofs.YtcokljhamhgelaaGreatDoor
set_option linter.unusedVariables false
set_option linter.unusedSimpArgs false
open Go.ChangeShapes Go.WideShapes Go.ChangeAt Go.RowKit Go.Deep Go.Sort
theorem derived_some {tm am m x : Int} (ht2 : tm ≤ 2) (ha : am ≤ 8) (h0 : 0 ≤ m) (h7 : m ≤ 7) {X : Nat → Prop} {e d : Ex} {s : Option Addr} {c : Nat} {w : World} (hX : ∀ b, X b → b < w.heap.size) (hx : ExX X w e s c) (htr : e.tree tm am = true) (hs : e.size ≤ 10000) (ho : Hid (e.step m x = some d)) :
  Calls Tryz.prog 36 #[.agg #[.int .i64 e.kind, .int .i64 e.num, .slice s e.kids.length c], .int .i64 m, .int .i64 x] w fun f w' => ∃ s' c', f = .returned (.tuple #[.agg #[.int .i64 d.kind, .int .i64 d.num, .slice s' d.kids.length c'], .bool true]) ∧ ExX X w' d s' c' ∧ Below w.heap.size w w' := by
 have := derived_all tm am m x ht2 ha h0 h7 _ e X s c w (Nat.le_refl _) hX hx htr hs
 rw [ho.out] at this
 exact this
theorem derived_none {tm am m x : Int} (ht2 : tm ≤ 2) (ha : am ≤ 8) (h0 : 0 ≤ m) (h7 : m ≤ 7) {X : Nat → Prop} {e : Ex} {s : Option Addr} {c : Nat} {w : World} (hX : ∀ b, X b → b < w.heap.size) (hx : ExX X w e s c) (htr : e.tree tm am = true) (hs : e.size ≤ 10000) (ho : Hid (e.step m x = none)) :
  Calls Tryz.prog 36 #[.agg #[.int .i64 e.kind, .int .i64 e.num, .slice s e.kids.length c], .int .i64 m, .int .i64 x] w fun f w' => ∃ s' c', f = .returned (.tuple #[.agg #[.int .i64 0, .int .i64 0, .slice s' 0 c'], .bool false]) ∧ Below w.heap.size w w' := by
 have := derived_all tm am m x ht2 ha h0 h7 _ e X s c w (Nat.le_refl _) hX hx htr hs
 rw [ho.out] at this
 exact this.mono fun _ _ ⟨s', c', h1, _, h3⟩ => ⟨s', c', h1, h3⟩
end Go.Proofs.YtcokljhamhgelaaGreatDoor

namespace Go.Proofs.YtcokljhamhgelaaGreatDoor
set_option linter.unusedVariables false
set_option linter.unusedSimpArgs false
open Go.ChangeShapes Go.WideShapes Go.ChangeAt Go.RowKit Go.Deep Go.ChangeMaps Go.MapKept
open Go.Maps (Keyed)
theorem Bun.push_pool {w0 w : World} {items : List Item} (h : Bun w0.heap.size w items) : Bun w0.heap.size w (items ++ [.pool w0 []]) :=
 h.push (Below.refl _ _) (fun _ _ _ _ x hx => by simp at hx)
theorem Bun.pool {w0 w : World} {items : List Item} (h : Bun w0.heap.size w items) (h0 : Below w0.heap.size w0 w) (p : Nat) {E : List (D × Value)} (hp : items[p]? = some (.pool w0 E)) :
  ∃ X : Nat → Prop, (∀ b, X b → b < w.heap.size ∧ w0.heap.size ≤ b) ∧ (∀ x ∈ E, RdX X w x.1 x.2) ∧
   ∀ w' d v, Below w.heap.size w w' → RdX X w' d v → Bun w0.heap.size w' (items.set p (.pool w0 (E ++ [(d, v)]))) := by
 obtain ⟨own, h⟩ := h
 have hz0 := h0.size
 refine ⟨fun b => w0.heap.size ≤ b ∧ b < w.heap.size ∧ own b ≠ p, fun b hb => ⟨hb.2.1, hb.1⟩, fun x hx w2 k => ?_, fun w' d v hb hd => ?_⟩
 ·
  refine h p _ hp w2 k.1 (fun b hb => ?_) (fun b hb hs => k.2 b hb (fun hX => hX.2.2 hs.2.2)) x hx
  exact (k.2 b (by omega) (fun hX => by omega)).trans (h0.block b hb)
 ·
  have hz := hb.size
  have := bun_turn (w' := w') h hz p items.length (it' := .pool w0 (E ++ [(d, v)])) (fun b hlt _ _ => hb.block b hlt) (fun w2 k1 k2 k3 x hx => by
   rcases List.mem_append.1 hx with hx | hx
   ·
    refine h p _ hp w2 (Nat.le_trans hz k1) k2 (fun b hlt hs => ?_) x hx
    exact (k3 b (by omega) ⟨hs.1, by omega, Or.inr (Or.inl hs.2.2)⟩).trans (hb.block b hlt)
   ·
    simp only [List.mem_singleton] at hx
    subst hx
    refine hd w2 ⟨k1, fun b hlt hX => ?_⟩
    by_cases hold : b < w0.heap.size
    ·
     exact (k2 b hold).trans ((hb.block b (by omega)).trans (h0.block b hold)).symm
    ·
     by_cases hnew : w.heap.size ≤ b
     ·
      exact k3 b hlt ⟨by omega, hlt, Or.inl hnew⟩
     ·
      by_cases ho : own b = p
      ·
       exact k3 b hlt ⟨by omega, hlt, Or.inr (Or.inl ho)⟩
      ·
       exact absurd ⟨by omega, by omega, ho⟩ hX)
  rwa [set_none] at this
theorem Bun.pool_rd {w0 w : World} {items : List Item} (h : Bun w0.heap.size w items) (h0 : Below w0.heap.size w0 w) (p : Nat) {E : List (D × Value)} (hp : items[p]? = some (.pool w0 E)) {x : D × Value} (hx : x ∈ E) : Rd w x.1 x.2 := by
 obtain ⟨X, -, h1, -⟩ := h.pool h0 p hp
 exact (h1 x hx).rd
section
variable {κ ν : Type} [DecidableEq κ] {P : Program} {kt : TypeId} {kf : κ → Value} {vf : ν → Value}
theorem wpList_insert_at (w : World) {ops : Array Oper} {rest : List Oper} {o : Oper} {a : Act} {Q : Exit → Act → World → Prop} (hg : o.guard = none) (m x y : Operand) (t : TypeId) (hop : o.op = Op.insert t m x y)
  (kt e : TypeId) (K : Keyed P kt) (ht : P.underlying t = some (.map kt e)) {kf : κ → Value} (hinj : ∀ x y, kf x = kf y → x = y) {vf : ν → Value} {L : List (κ × ν)} (b : Nat)
  (hM : MapAt P kt kf vf w b L) (k : κ) (hk : ∃ l, keyOf P kt (kf k) = some l) (v : ν) (hm : a.eval m = .map (some b)) (hx : a.eval x = kf k) (hy : a.eval y = vf v)
  (hK : ∀ w', MapAt P kt kf vf w' b (putM L k v) → Only [b] w w' → wpList P ops Q rest (a.put o.dst undef) w') : wpList P ops Q (o :: rest) a w := by
 refine wpList_plain hg fun K' hK' => ?_
 obtain ⟨w', hrun, r1, r2⟩ := hM.update K hinj ht hk v
 unfold Oper.wp
 simp [execOp, hop, hm, hx, hy, hrun, Result.andThen]
 exact hK' _ _ (hK w' r1 r2)
end
end Go.Proofs.YtcokljhamhgelaaGreatDoor

namespace Go.Proofs.YtcokljhamhgelaaGreatDoor
set_option linter.unusedVariables false
set_option linter.unusedSimpArgs false
open Go.ChangeShapes Go.WideShapes Go.ChangeAt Go.RowKit Go.Deep Go.ChangeMaps Go.MapKept
def mapL (L : List Ex) : List (List UInt8 × Int) := L.zipIdx.map fun p => (p.1.text, (p.2 : Int))
theorem mapL_snoc (L : List Ex) (d : Ex) : mapL (L ++ [d]) = mapL L ++ [(d.text, (L.length : Int))] := by simp [mapL, List.zipIdx_append]
theorem mapL_at {L : List Ex} {j : Nat} {d : Ex} (h : L[j]? = some d) : (mapL L)[j]? = some (d.text, (j : Int)) := by
 unfold mapL
 rw [List.getElem?_map, List.getElem?_zipIdx, h]
 simp
theorem mapL_in {L : List Ex} {d : Ex} (hk : ((mapL L).map (·.1)).Nodup) (hn : L.Nodup) (h : d ∈ L) : findM (mapL L) d.text = some (findI L d) := by
 obtain ⟨j, hj⟩ := List.mem_iff_getElem?.1 h
 rw [findM_at hk (mapL_at hj)]
 unfold findI
 rw [if_pos h, idxOf_at hn hj]
theorem mapL_out {tm am : Int} (ht : tm ≤ 8) (ha : am ≤ 8) {L : List Ex} {d : Ex} (hL : ∀ x ∈ L, x.tree tm am = true) (hd : d.tree tm am = true) (h : d ∉ L) : findM (mapL L) d.text = none :=
 findM_none.2 fun p hp hpe => by
  unfold mapL at hp
  obtain ⟨q, hq, rfl⟩ := List.mem_map.1 hp
  have hm : q.1 ∈ L := by
   obtain ⟨i, hi⟩ := List.mem_iff_getElem?.1 hq
   rw [List.getElem?_zipIdx, Option.map_eq_some_iff] at hi
   obtain ⟨y, hy, rfl⟩ := hi
   exact List.mem_of_getElem? hy
  have := text_inj ht ha (hL _ hm) hd hpe
  exact h (this ▸ hm)
def Sh.pr (z : Sh) : D × Value := (kidsD z.e.kids, .slice z.s z.e.kids.length z.c)
theorem shs_snoc (R : List Sh) (z : Sh) : shD (R ++ [z]) = shD R ++ z.cells.map D.raw := by rw [shD_append]; simp [shD, shs]
theorem Sh.cells_one (z : Sh) : ∀ u ∈ z.cells, u.oneCell' = true := by
 intro u hu
 simp [Sh.cells] at hu
 rcases hu with rfl | rfl | rfl <;> rfl
theorem raw_own {w : World} {us : List Value} (h : ∀ u ∈ us, u.oneCell' = true) : OwS (fun _ => False) w (us.map D.raw) us := ⟨[], Ows.raws h, by simp, by simp⟩
theorem Bun.push_raws {B : Nat} {w : World} {items : List Item} (h : Bun B w items) (hB : B ≤ w.heap.size) (t size m : Nat) (us : List Value) (hu : ∀ u ∈ us, u.oneCell' = true) (hl : us.length = m * size) (hm : m ≤ maxLen) :
  Bun B (w.alloc (.cells us.toArray t)) (items ++ [.app t size m (us.map D.raw) (.slice (some ⟨w.heap.size, 0, none⟩) m m)]) := by
 refine h.push (Below.alloc (Below.refl _ _) (Nat.le_refl _) _) ?_
 have hb := Blk.made w t us.toArray
 refine ⟨us, [], ⟨hl, Or.inr ⟨w.heap.size, m, us.toArray, rfl, Nat.zero_le _, by simpa [Blk] using hb, Nat.le_refl _, hm, by simp [hl], ?_⟩⟩, Ows.raws hu, by simp, by simp, fun b hb' => ?_⟩
 ·
  rw [← hl]; simp
 ·
  simp only [Value.ownBlock, Option.some.injEq] at hb'
  exact ⟨by omega, by simp; omega, by omega⟩
theorem Bun.push_one {B : Nat} {w w' : World} {items : List Item} (h : Bun B w items) (hB : B ≤ w.heap.size) (hb : Below w.heap.size w w') {P : World → Prop} (hg : w.heap.size < w'.heap.size) (hP : ∀ w1, w1.heap[w.heap.size]? = w'.heap[w.heap.size]? → P w1) : Bun B w' (items ++ [.one w.heap.size P]) :=
 h.push hb ⟨⟨hB, hg, Nat.le_refl _⟩, hg, hP⟩
theorem Bun.sh_at {B : Nat} {w : World} {items : List Item} (h : Bun B w items) (i : Nat) {t : Nat} {R : List Sh} {v : Value} (hi : items[i]? = some (.app t 3 R.length (shD R) v)) {k : Nat} {z : Sh} (hz : R[k]? = some z) :
  ∃ g cap, v = .slice (some ⟨g, 0, none⟩) R.length cap ∧ g < w.heap.size ∧ w.cell? ⟨g, k * 3, none⟩ = some (.int .i64 z.e.kind) ∧ w.cell? ⟨g, k * 3 + 1, none⟩ = some (.int .i64 z.e.num) ∧ w.cell? ⟨g, k * 3 + 2, none⟩ = some (.slice z.s z.e.kids.length z.c) := by
 obtain ⟨own, ha⟩ := h.app i hi
 obtain ⟨xs, F, h1, h2, h3, h4, h5⟩ := ha
 have hx := Rds.raws h2.rds
 subst hx
 have hl := h1.1
 have hlt := (List.getElem?_eq_some_iff.1 hz).1
 rcases h1.2 with ⟨-, h⟩ | ⟨g, cap, cur, rfl, -, hb, k1, k2, k3, k4⟩
 ·
  omega
 ·
  refine ⟨g, cap, rfl, (Array.getElem?_eq_some_iff.1 hb).1, ?_⟩
  have hblk : Blk w g t cur.toList := by simpa [Blk] using hb
  have hc : ∀ j, j < 3 → w.cell? ⟨g, k * 3 + j, none⟩ = z.cells[j]? := fun j hj => by
   rw [hblk.cell, ← shs_at R k z hz j hj, ← k4, List.getElem?_take, if_pos (by omega)]
  exact ⟨hc 0 (by omega), hc 1 (by omega), hc 2 (by omega)⟩
theorem shs_rds {w : World} : ∀ R : List Sh, (∀ z ∈ R, Rd w (kidsD z.e.kids) (.slice z.s z.e.kids.length z.c)) → Rds w (Ex.cellsL (R.map Sh.e)) (shs R)
 | [], _ => by simp [Ex.cellsL, shs, Rds]
 | z :: R, h => by
  have ih := shs_rds R fun y hy => h y (List.mem_cons_of_mem _ hy)
  have hz := h z (List.mem_cons_self ..)
  simp only [List.map_cons, Ex.cellsL, shs, List.flatMap_cons]
  refine Rds.append ?_ ih
  rw [Ex.cells_eq]
  simp only [Sh.cells, Rds, Rd]
  exact ⟨_, _, rfl, rfl, _, _, rfl, rfl, _, _, rfl, hz, rfl⟩
theorem Bun.sh_rd {w0 w : World} {items : List Item} (h : Bun w0.heap.size w items) (h0 : Below w0.heap.size w0 w) (p i : Nat) {E : List (D × Value)} (hp : items[p]? = some (.pool w0 E)) {t : Nat} {R : List Sh} {v : Value} (hi : items[i]? = some (.app t 3 R.length (shD R) v))
  (hE : ∀ z ∈ R, z.pr ∈ E) : Rd w (kidsD (R.map Sh.e)) v := by
 obtain ⟨own, ha⟩ := h.app i hi
 obtain ⟨xs, F, h1, h2, h3, h4, h5⟩ := ha
 have hx := Rds.raws h2.rds
 subst hx
 have hr := shs_rds R fun z hz => h.pool_rd h0 p hp (hE z hz)
 unfold kidsD
 simp only [Rd, List.length_map]
 rcases h1.2 with ⟨rfl, h0⟩ | ⟨g, cap, cur, rfl, -, hb, k1, k2, k3, k4⟩
 ·
  have hR : R = [] := List.eq_nil_of_length_eq_zero h0
  subst hR
  exact ⟨none, 0, rfl, Nat.le_refl _, by unfold maxLen; omega, by simp [Ex.cellsL], fun _ => rfl, Or.inl rfl⟩
 ·
  have hblk : Blk w g t cur.toList := by simpa [Blk] using hb
  refine ⟨_, cap, rfl, k1, k2, by rw [Ex.cellsL_length, List.length_map], by simp, Or.inr ⟨g, 0, shs R, rfl, hblk.row (by rw [shs_length]; exact k4), hr⟩⟩
end Go.Proofs.YtcokljhamhgelaaGreatDoor

namespace Go.Proofs.YtcokljhamhgelaaGreatDoor
set_option linter.unusedVariables false
set_option linter.unusedSimpArgs false
open Go.ChangeShapes Go.WideShapes Go.ChangeAt Go.RowKit Go.Deep Go.Sort Go.ChangeMaps Go.MapKept
open Go.Maps (Keyed string_keyed)
theorem zeroI64 (w : World) : (zeroValue 2).run Tryz.prog w = .ok (.int .i64 0) w := by kernel_rfl
def NumAt (g : Nat) (L : List Ex) (w : World) : Prop := MapAt Tryz.prog 9 kfS (Value.int .i64) w g (mapL L)
def StAt (w0 : World) (g : Nat) (L : List Ex) (R : List Sh) (E : List (D × Value)) (v : Value) (its : List Item) (w : World) : Prop :=
 R.map Sh.e = L ∧ (∀ z ∈ R, z.pr ∈ E) ∧ Bun w0.heap.size w ([.pool w0 E, .app 34 3 R.length (shD R) v, .one g (NumAt g L)] ++ its) ∧ Below w0.heap.size w0 w
def StO (w0 : World) (g A n : Nat) (e : Ex) (v0 v1 i : Value) (wr : World) : Prop := ∃ (k : Nat) (R : List Sh) (E : List (D × Value)), i = .int .i64 k ∧ k ≤ 60 ∧ Hid (GoodL A n e k) ∧ (stL A n e k).length ≤ 60 ∧ k ≤ (stL A n e k).length ∧
 StAt w0 g (stL A n e k) R E v0 [.app 55 1 k ((stR A n e k).map iiD) v1] wr
def StM (w0 : World) (g A n : Nat) (e : Ex) (F : List Ex) (k : Nat) (x : Ex) (v1 v0 v2 i : Value) (wr : World) : Prop := ∃ (m : Nat) (R : List Sh) (E : List (D × Value)), i = .int .i64 m ∧ m ≤ A ∧ Hid (GoodTo n x m 0) ∧ (stC A n e k x m 0).length ≤ 60 ∧
 StAt w0 g (stC A n e k x m 0) R E v0 [.app 55 1 k ((stR A n e k).map iiD) v1, .app 56 1 m (((rowsE F A n x).take m).map intsD) v2] wr
def StN (w0 : World) (g A n : Nat) (e : Ex) (F : List Ex) (k : Nat) (x : Ex) (m : Nat) (v1 v2 v0 v3 i : Value) (wr : World) : Prop := ∃ (q : Nat) (R : List Sh) (E : List (D × Value)), i = .int .i64 q ∧ q ≤ n ∧ Hid (GoodTo n x m q) ∧ (stC A n e k x m q).length ≤ 60 ∧
 StAt w0 g (stC A n e k x m q) R E v0 [.app 55 1 k ((stR A n e k).map iiD) v1, .app 56 1 m (((rowsE F A n x).take m).map intsD) v2, .app 2 1 q (((rowE F n m x).take q).map D.int) v3] wr
theorem textOf_e {tm am : Int} {e : Ex} {s : Option Addr} {c : Nat} {w : World} (hr : Rd w (kidsD e.kids) (.slice s e.kids.length c)) (ht : tm ≤ 8) (ha : am ≤ 8) (htr : e.tree tm am = true) (hs : e.size ≤ 1000000) :
  Calls Tryz.prog 62 #[.agg #[.int .i64 e.kind, .int .i64 e.num, .slice s e.kids.length c]] w fun f w' => f = .returned (.string (bs e.text)) ∧ Below w.heap.size w w' := by
 have := textOf_i (w := w) (k := e.kind) (n := e.num) hr ht ha (by rw [← Ex.eta]; exact htr) (by have := Ex.size_eq e; omega)
 rwa [← Ex.eta e] at this
theorem map_of {κ ν : Type} {L M : List (κ × ν)} {kf : κ → Value} {vf : ν → Value} {w : World} {g : Nat} {kt : TypeId} (h : MapAt Tryz.prog kt kf vf w g L) (e : L = M) : ∀ w1 : World, w1.heap[g]? = w.heap[g]? → MapAt Tryz.prog kt kf vf w1 g M := fun w1 h1 => e ▸ h.keep h1
theorem nil_iii {w w' : World} : Freshs w w' [iiiD []] [.slice none 0 0] :=
 Freshs.one ⟨[], by simp only [iiiD, nestD, Ow]; exact ⟨none, 0, rfl, by simp, by simp [maxLen], by simp, by simp, Or.inl (by simp)⟩, by simp, by simp⟩
theorem step_live {m k : Nat} {x d : Ex} (h : x.step m k = some d) : x.step m k ≠ none := by rw [h]; simp
theorem sh_len (R : List Sh) (z : Sh) : (R ++ [z]).length = R.length + 1 := by simp
theorem sh_map_at {R : List Sh} {L : List Ex} (h : R.map Sh.e = L) {k : Nat} {z : Sh} (hz : R[k]? = some z) : L[k]? = some z.e := by rw [← h, List.getElem?_map, hz]; rfl
set_option maxRecDepth 100000 in
set_option maxHeartbeats 16000000 in
theorem statesOf_i {t : Int} {n : Nat} {e : Ex} {s : Option Addr} {c : Nat} {w : World} (ht0 : 0 ≤ t) (ht3 : t ≤ 3) (hn : n ≤ 4) (hr : Rd w (kidsD e.kids) (.slice s e.kids.length c)) (htr : e.tree (t - 1) ((n : Int) - 1) = true) (hs : e.size ≤ 200) :
  Calls Tryz.prog 101 #[.agg #[.int .i64 t, .int .i64 n], .agg #[.int .i64 e.kind, .int .i64 e.num, .slice s e.kids.length c]] w fun f w' => ∃ s1 c1 s2 c2, f = .returned (.tuple #[.slice s1 (stLL (atomsN t).toNat n e).length c1, .slice s2 (stNN (atomsN t).toNat n e).length c2, .int .i64 (stCC (atomsN t).toNat n e)]) ∧
   Rd w' (kidsD (stLL (atomsN t).toNat n e)) (.slice s1 (stLL (atomsN t).toNat n e).length c1) ∧ Freshs w w' [iiiD (stNN (atomsN t).toNat n e)] [.slice s2 (stNN (atomsN t).toNat n e).length c2] ∧ Below w.heap.size w w' := by
 obtain ⟨hat1, hat8⟩ := atomsN_bd t
 obtain ⟨A, hA⟩ : ∃ A : Nat, atomsN t = (A : Int) := ⟨(atomsN t).toNat, by omega⟩
 have hA8 : A ≤ 8 := by omega
 rw [show (atomsN t).toNat = A by omega]
 have HA := Lib.hid hA
 clear hA hat1 hat8
 obtain ⟨F, hF⟩ : ∃ F, F = stL A n e 60 := ⟨_, rfl⟩
 have HF := Lib.hid hF
 have Htr := Lib.hid htr
 clear hF htr
 obtain ⟨-, hl, hcap, -, -⟩ := kid_at hr
 unfold maxLen at hcap
 have hmm := @run_makeMap Tryz.prog
 go_enter Tryz.func101, Tryz.ntmps101
 go_wp2_with fail
 obtain ⟨w1, e1, G, hb1, hz1⟩ := box2 w 30 (.int .i64 t) (.int .i64 (n : Int))
 rw [e1]
 obtain ⟨w0, e0, -, hb0, hz0⟩ := box3 w1 34 (.int .i64 e.kind) (.int .i64 e.num) (.slice s e.kids.length c)
 rw [e0]
 have hBw : Below w.heap.size w w0 := hb1.trans (hb0.mono hb1.size)
 replace G := G.below hb0
 have hr0 := hr.below hBw
 clear e1 e0 hb1 hb0 hr
 have hBun0 := (Bun.nil (B := w0.heap.size) (w := w0)).push_pool
 obtain ⟨X, hX1, -, hX3⟩ := hBun0.pool (Below.refl _ _) 0 rfl
 refine (tidy_all (t - 1) ((n : Int) - 1) (by omega) (by omega) _ e X s c w0 (Nat.le_refl _) (fun b h => (hX1 b h).1) (RdX.of_rd hr0 (fun b h => (hX1 b h).2)) Htr.out (by omega)).mono ?_
 rintro f w2 ⟨s2, c2, rfl, hx2, hb2⟩
 have hBun2 := hX3 w2 _ _ hb2 hx2
 have hz2 := hb2.size
 obtain ⟨ht1, ht2⟩ := tidy_spec (t - 1) ((n : Int) - 1) _ e (Nat.le_refl _) Htr.out
 have hBun3 := hBun2.push_raws hz2 34 3 1 (Sh.cells ⟨e.tidy, s2, c2⟩) (Sh.cells_one _) rfl (by unfold maxLen; omega)
 go_wp2_with fail
 clear hmm
 obtain ⟨w3, e3, N3, hb3, hz3⟩ := box3 w2 34 (.int .i64 e.tidy.kind) (.int .i64 e.tidy.num) (.slice s2 e.tidy.kids.length c2)
 rw [e3]
 replace hBun3 : Bun w0.heap.size w3 [.pool w0 [(kidsD e.tidy.kids, .slice s2 e.tidy.kids.length c2)], .app 34 3 1 ((Sh.cells ⟨e.tidy, s2, c2⟩).map D.raw) (.slice (some ⟨w2.heap.size, 0, none⟩) 1 1)] := by rw [← e3]; exact hBun3
 have hM4 : MapAt Tryz.prog 9 kfS (Value.int .i64) (w3.alloc (.map #[] 0)) w3.heap.size ([] : List (List UInt8 × Int)) := MapAt.made w3
 have hb4 : Below w3.heap.size w3 (w3.alloc (.map #[] 0)) := Below.alloc (Below.refl _ _) (Nat.le_refl _) _
 have hz4 : (w3.alloc (.map #[] 0)).heap.size = w3.heap.size + 1 := by simp
 have hBun4 := hBun3.push_one (by omega) hb4 (by omega) (map_of hM4 rfl)
 have hr4 := ((hx2.below hb3).below hb4).rd
 have hbe4 : Below w0.heap.size w0 (w3.alloc (.map #[] 0)) := (hb2.trans (hb3.mono hz2)).trans (hb4.mono (by omega))
 generalize w3.alloc (.map #[] 0) = w4 at hM4 hb4 hz4 hBun4 hr4 hbe4 ⊢
 refine (textOf_e hr4 (by omega) (by omega) ht1 (by omega)).mono ?_
 rintro f w5 ⟨rfl, hb5⟩
 have hM5 := hM4.below hb5
 have hBun5 := hBun4.below hb5
 have hbe5 := hbe4.trans (hb5.mono (by omega))
 have hz5 := hb5.size
 have hlb := text_bound (t - 1) ((n : Int) - 1) (by omega) (by omega) _ e.tidy (Nat.le_refl _) ht1
 have hkey := keyS (t := e.tidy.text) (by omega)
 have HBun5 := Lib.hid hBun5
 have Hbe5 := Lib.hid hbe5
 obtain ⟨g, hg⟩ : ∃ g, w2.heap.size + 1 = g := ⟨_, rfl⟩
 rw [hz3, hg] at hM5 HBun5
 simp only [hg]
 have hgl : w0.heap.size ≤ g := by omega
 clear hg
 clear hBun2 hBun3 hBun4 hBun5 hbe4 hbe5 hM4 hb2 hb3 hb4 hb5 hr4 hX3 hX1 hBun0 hx2 N3 e3
 go_wp2_with (refine wpList_insert_at _ rfl _ _ _ 150 rfl 9 2 lawS Tryz.underlying150 kfS_inj g hM5 e.tidy.text hkey 0 rfl rfl rfl ?_; intro w6 hM6 ho6; have hz6 := ho6.size; have HM6 := Lib.hid hM6; have Ho6 := Lib.hid ho6; clear hM6 ho6)
 have hBun6 := HBun5.out.turn_one (Q := NumAt g [e.tidy]) 2 rfl Ho6.out (map_of (M := mapL [e.tidy]) HM6.out rfl)
 have hbe6 : Below w0.heap.size w0 w6 := Hbe5.out.trans ⟨Ho6.out.os, Ho6.out.tape, Ho6.out.output, Ho6.out.size, fun b hb => Ho6.out.block b (by omega) (by simp; omega)⟩
 have hBun7 := hBun6.push_empty (by omega) 55 1
 have hbe7 := hbe6.alloc hbe6.size (.cells #[] 55)
 clear HBun5 Hbe5 HM6 Ho6 hBun6 hbe6 hM5 hkey hlb
 go_loopw [7, 9, 10] (fun v0 v1 i wr => StO w0 g A n e v0 v1 i wr) (fun _ _ i _ => 61 - (intOf i).toNat)
 case atStart =>
  refine ⟨0, [⟨e.tidy, s2, c2⟩], [(kidsD e.tidy.kids, .slice s2 e.tidy.kids.length c2)], rfl, by omega, GoodL.zero, by simp [stL, expl], by simp, rfl, ?_, ?_, hbe7⟩
  ·
   intro z hz
   simp only [List.mem_singleton] at hz
   subst hz
   simp [Sh.pr]
  ·
   simpa [stL, expl, stR, shD, shs, NumAt] using hBun7
 case round =>
  clear hBun7 hbe7
  obtain ⟨k, R, E, rfl, hk60, HG, hlen, hkl, hRe, hRE, hbun, hbe⟩ := hrel
  obtain ⟨wo, rfl⟩ : ∃ v, v = wr := ⟨_, rfl⟩
  obtain ⟨L, hL⟩ : ∃ L, stL A n e k = L := ⟨_, rfl⟩
  rw [hL] at hbun hlen hkl hRe
  have hRl : R.length = L.length := by rw [← hRe, List.length_map]
  obtain ⟨a0, c0, rfl, hc1, hc2⟩ := hbun.shape 1 rfl
  obtain ⟨a1, c1, rfl, hd1, hd2⟩ := hbun.shape 3 rfl
  unfold maxLen at hc2 hd2
  have HL := Lib.hid hL
  have HB := Lib.hid hbun
  have HBe := Lib.hid hbe
  have HRe := Lib.hid hRe
  have HRE := Lib.hid hRE
  have hk0 := Int.natCast_nonneg k
  have hzo := hbe.size
  have hlen' : R.length ≤ 60 := by omega
  have hkl' : k ≤ R.length := by omega
  have HRl := Lib.hid hRl
  clear hL hbun hbe hRe hRE hRl
  by_cases hlt : k < R.length
  rotate_left
  ·
   have hdone : (stL A n e k).length ≤ k := by rw [HL.out, ← HRl.out]; omega
   obtain ⟨q1, q2, q3⟩ := stLL_yes (stOk_done hdone hk60 HG.out)
   have q4 : Hid (stLL A n e = L) := by show _ = _; rw [q1, stL_done hdone hk60, HL.out]
   have q5 : Hid (stNN A n e = stR A n e k) := by show _ = _; rw [q2, stR_done hdone hk60]
   have hRl : Hid ((stR A n e k).length = k) := by
    show _ = _
    unfold stR
    rw [List.length_map, List.length_take, stL_done hdone hk60, HL.out, ← HRl.out]
    omega
   have Hf := Lib.hid (Freshs.one (HB.out.fresh (W := w) (by have := hBw.size; omega) 3 rfl))
   have Hrd := Lib.hid (HB.out.sh_rd HBe.out 0 1 rfl rfl HRE.out)
   have Q3 := Lib.hid q3
   clear hdone q1 q2 q3
   go_wp2_with fail
   go_ret3
   refine ⟨a0, c0, a1, c1, by rw [q4.out, q5.out, hRl.out, Q3.out, ← HRl.out]; rfl, ?_, ?_, hBw.trans (HBe.out.mono hBw.size)⟩
   ·
    have h := Hrd.out
    rw [HRe.out] at h
    rw [q4.out, ← HRl.out]
    exact h
   ·
    rw [q5.out]
    show Freshs w _ [.sl 1 (stR A n e k).length ((stR A n e k).map iiD)] _
    rw [hRl.out]
    exact Hf.out
  ·
   obtain ⟨z, hz⟩ : ∃ z, R[k]? = some z := ⟨_, List.getElem?_eq_getElem hlt⟩
   have HX0 : Hid ((stL A n e k)[k]? = some z.e) := by show _ = _; rw [HL.out]; exact sh_map_at HRe.out hz
   obtain ⟨x, hx⟩ : ∃ x, z.e = x := ⟨_, rfl⟩
   have HX : Hid ((stL A n e k)[k]? = some x) := by rw [← hx]; exact HX0
   have hk6 : k < 60 := by omega
   have hkL : k < L.length := by have := HRl.out; omega
   clear HX0 hx hz
   obtain ⟨g0, g1, ltG⟩ := (G.below HBe.out).all2
   have hBun5 := HB.out.push_empty hzo 56 1
   have hbe5 := HBe.out.alloc hzo (.cells #[] 56)
   have hz5 : (wo.alloc (.cells #[] 56)).heap.size = wo.heap.size + 1 := by simp
   go_wp2_with fail
   clear g0 g1 ltG
   generalize wo.alloc (.cells #[] 56) = w5 at hBun5 hbe5 hz5 ⊢
   refine (atomsIn_i ht0 ht3).mono ?_
   rintro f w6 ⟨rfl, hb6⟩
   rw [HA.out]
   have hBun6 := hBun5.below hb6
   have hbe6 := hbe5.trans (hb6.mono (by omega))
   have HB6 := Lib.hid hBun6
   have HBe6 := Lib.hid hbe6
   have hz6 := hb6.size
   clear hBun5 hbe5 hb6 hBun6 hbe6
   go_wp2_with fail
   go_loopw [7, 11, 39] (fun v0 v2 i wr => StM w0 g A n e F k x (.slice a1 k c1) v0 v2 i wr) (fun _ _ i _ => A - (intOf i).toNat)
   case atStart => exact ⟨0, R, E, rfl, by omega, GoodTo.zero, by rw [stC_zero, HL.out]; exact hlen, by rw [stC_zero, HL.out]; exact ⟨HRe.out, HRE.out, by simpa using HB6.out, HBe6.out⟩⟩
   case round =>
    clear HB HBe HB6 HBe6 HRe HRE HRl
    obtain ⟨m, R, E, rfl, hmA, HG0, hlenm, hRe, hRE, hbun, hbe⟩ := hrel
    obtain ⟨wm, rfl⟩ : ∃ v, v = wr := ⟨_, rfl⟩
    have hRl : R.length = (stC A n e k x m 0).length := by rw [← hRe, List.length_map]
    rw [← hRl] at hlenm
    have hlen2 := prefix_length (stC_old (A := A) (a := n) (e := e) (i := k) (x := x) (m := m) (k := 0))
    rw [← hRl, HL.out] at hlen2
    obtain ⟨a3, c3, rfl, hc3, hc4⟩ := hbun.shape 1 rfl
    obtain ⟨a4, c4, rfl, hd3, hd4⟩ := hbun.shape 4 rfl
    unfold maxLen at hc4 hd4
    have HB4 := Lib.hid hbun
    have HBe4 := Lib.hid hbe
    have HRe := Lib.hid hRe
    have HRE := Lib.hid hRE
    have HRl := Lib.hid hRl
    have hm0 := Int.natCast_nonneg m
    have hzm := hbe.size
    clear hbun hbe hRe hRE hRl
    by_cases hmlt : m < A
    rotate_left
    ·
     obtain rfl : A = m := by omega
     have Heq : Hid ((stR A n e (k + 1)).map iiD = (stR A n e k).map iiD ++ [D.sl 1 A (((rowsE F A n x).take A).map intsD)]) := by
      show _ = _
      rw [stR_succ HX.out hk6, List.map_append, HF.out, List.take_of_length_le (by rw [rowsE_len]; omega)]
      show _ ++ [nestD intsD _] = _
      unfold nestD
      rw [rowsE_len]
     have HEL : Hid (stL A n e (k + 1) = stC A n e k x A 0) := by show _ = _; rw [stC_all HX.out]
     have HG2 : Hid (GoodL A n e (k + 1)) := HG.out.succ HX.out HG0.out
     have hBu := HB4.out.alloc (.cells #[.slice a4 A c4] 55)
     have hNb := Blk.new1 wm 55 (.slice a4 A c4)
     go_wp2_with (at_builtin; go_must (refine wpList_append_bun_own _ rfl _ _ 47 rfl 55 24 Tryz.underlying47 info_i64ss hBu (by simp; omega) 3 _ rfl rfl 4 (by decide) _ rfl ⟨wm.heap.size, 0, none⟩ rfl (news_blk hNb) (by omega) (by unfold maxLen; omega) ?_); intro g6 cap6 w6 hbun6 hb6)
     have Hfin := Lib.hid (And.intro (hbun6.take 4) ((HBe4.out.alloc hzm (.cells #[.slice a4 A c4] 55)).trans hb6))
     clear hbun6 hb6 hBu hNb
     go_wp2_with fail
     go_roundw
     case rel =>
      refine ⟨k + 1, R, E, by go_num, by omega, HG2, by rw [HEL.out, ← HRl.out]; omega, by rw [HEL.out, ← HRl.out]; omega, by rw [HEL.out]; exact HRe.out, HRE.out, ?_, Hfin.out.2⟩
      have h := Hfin.out.1
      rw [Heq.out, HEL.out]
      exact h
     case measure => simp [intOf]; omega
    ·
     have hm1 : (m : Int) < (A : Int) := by omega
     obtain ⟨g0, g1, ltG⟩ := (G.below HBe4.out).all2
     go_wp2_with fail
     clear g0 g1 ltG
     have hB6 := HB4.out.push_empty hzm 2 1
     have hbe6 := HBe4.out.alloc hzm (.cells #[] 2)
     go_loopw [7, 13, 45] (fun v0 v3 i wr => StN w0 g A n e F k x m (.slice a1 k c1) (.slice a4 m c4) v0 v3 i wr) (fun _ _ i _ => n - (intOf i).toNat)
     case atStart => exact ⟨0, R, E, rfl, by omega, HG0, by rw [← HRl.out]; exact hlenm, HRe.out, HRE.out, by simpa using hB6, hbe6⟩
     case round =>
      clear hB6 hbe6 HB4 HBe4 HRe HRE HRl
      obtain ⟨q, R, E, rfl, hqn, HG1, hlenq, hRe, hRE, hbun, hbe⟩ := hrel
      obtain ⟨wq, rfl⟩ : ∃ v, v = wr := ⟨_, rfl⟩
      obtain ⟨Lc, hLc⟩ : ∃ Lc, stC A n e k x m q = Lc := ⟨_, rfl⟩
      have hat := stL_at (m := m) (k := q) HX.out
      have hlen3 := prefix_length (stC_old (A := A) (a := n) (e := e) (i := k) (x := x) (m := m) (k := q))
      have hnd := stC_nodup (A := A) (a := n) (e := e) (i := k) (x := x) (m := m) (k := q)
      have hspec := stC_spec (A := A) (a := n) (m := m) (k := q) Htr.out hs HX.out hk6
      rw [hLc] at hbun hat hlen3 hnd hRe hlenq hspec
      have hRl : R.length = Lc.length := by rw [← hRe, List.length_map]
      rw [HL.out, ← hRl] at hlen3
      rw [← hRl] at hlenq
      obtain ⟨zk, hzk⟩ : ∃ zk, R[k]? = some zk := ⟨_, List.getElem?_eq_getElem (by omega)⟩
      have hzx : zk.e = x := by have h := sh_map_at hRe hzk; rw [hat] at h; exact (Option.some.inj h).symm
      obtain ⟨lg, c5, e5, hlg, i0, i1, i2⟩ := hbun.sh_at 1 rfl hzk
      obtain ⟨a6, c6, rfl, hd5, hd6⟩ := hbun.shape 5 rfl
      obtain ⟨a5, c5', e5', hc5, hc6⟩ := hbun.shape 1 rfl
      have hgm := hbun.one 2 rfl
      subst e5
      simp only [Value.slice.injEq, true_and] at e5'
      obtain ⟨rfl, rfl⟩ := e5'
      unfold maxLen at hc6 hd6
      rw [hzx] at i0 i1 i2
      have HLc := Lib.hid hLc
      have HB6 := Lib.hid hbun
      have HBe6 := Lib.hid hbe
      have HRe := Lib.hid hRe
      have HRE := Lib.hid hRE
      have HRl := Lib.hid hRl
      have Hnd := Lib.hid hnd
      have Hsp := Lib.hid hspec
      have Hzk := Lib.hid hzk
      have Hzx := Lib.hid hzx
      have hq0 := Int.natCast_nonneg q
      have hzq := hbe.size
      obtain ⟨g0, g1, ltG⟩ := (G.below hbe).all2
      obtain ⟨hgB, hgl2⟩ := hgm.2
      clear hbun hbe hLc hat hnd hRe hRE hRl hspec hzk hzx hgm
      by_cases hqlt : q < n
      rotate_left
      ·
       obtain rfl : n = q := by omega
       have Heq : Hid (((rowsE F A n x).take (m + 1)).map intsD = ((rowsE F A n x).take m).map intsD ++ [D.sl 1 n (((rowE F n m x).take n).map D.int)]) := by
        show _ = _
        rw [rowsE_take hmlt, List.map_append, List.take_of_length_le (l := rowE F n m x) (by rw [rowE_len]; omega)]
        show _ ++ [D.sl 1 (rowE F n m x).length _] = _
        rw [rowE_len]
       have HEL : Hid (stC A n e k x (m + 1) 0 = Lc) := by show _ = _; rw [← stC_line, HLc.out]
       have HG2 : Hid (GoodTo n x (m + 1) 0) := HG1.out.line
       have hBu := HB6.out.alloc (.cells #[.slice a6 n c6] 56)
       have hNb := Blk.new1 wq 56 (.slice a6 n c6)
       clear i0 i1 i2 g0 g1 ltG
       go_wp2_with (at_builtin; go_must (refine wpList_append_bun_own _ rfl _ _ 55 rfl 56 24 Tryz.underlying55 info_i64s hBu (by simp; omega) 4 _ rfl rfl 5 (by decide) _ rfl ⟨wq.heap.size, 0, none⟩ rfl (news_blk hNb) (by omega) (by unfold maxLen; omega) ?_); intro g6 cap6 w6 hbun6 hb6)
       have Hfin := Lib.hid (And.intro (hbun6.take 5) ((HBe6.out.alloc hzq (.cells #[.slice a6 n c6] 56)).trans hb6))
       clear hbun6 hb6 hBu hNb
       go_wp2_with fail
       go_roundw
       case rel =>
        refine ⟨m + 1, R, E, by go_num, by omega, HG2, by rw [HEL.out, ← HRl.out]; exact hlenq, by rw [HEL.out]; exact HRe.out, HRE.out, ?_, Hfin.out.2⟩
        have h := Hfin.out.1
        rw [Heq.out, HEL.out]
        exact h
       case measure => simp [intOf]; omega
      ·
       have hk1 : (k : Int) < (R.length : Int) := by omega
       have hq1 : (q : Int) < (n : Int) := by omega
       obtain ⟨X, hX1, hX2, hX3⟩ := HB6.out.pool HBe6.out 0 rfl
       have hzX : ExX X wq x zk.s zk.c := by
        have h := hX2 zk.pr (HRE.out zk (List.mem_of_getElem? Hzk.out))
        simp only [Sh.pr, Hzx.out] at h
        exact h
       have HX1 := Lib.hid hX1
       have HX3 := Lib.hid hX3
       obtain ⟨hxt, hxs⟩ := stL_spec Htr.out hs k x (List.mem_of_getElem? HX.out)
       clear hX1 hX2 hX3
       go_wp2_with fail
       clear g0 g1 ltG i0 i1 i2
       cases ho : x.step m q with
       | none =>
        have HNO := Lib.hid (stOk_bad HX.out hk6 hmlt hqlt ho)
        have Ho := Lib.hid ho
        clear ho
        refine (derived_none (by omega) (by omega) (by omega) (by omega) (fun b h => (HX1.out b h).1) hzX hxt (by omega) Ho).mono ?_
        rintro f w7 ⟨s7, c7, rfl, hb7⟩
        have hz7 := hb7.size
        obtain ⟨q1, q2, q3⟩ := stLL_no HNO.out
        have HBQ := Lib.hid (hBw.trans ((HBe6.out.trans (hb7.mono (by omega))).mono (by have := hBw.size; omega)))
        go_wp2_with fail
        go_ret3
        refine ⟨none, 0, none, 0, by rw [q1, q2, q3]; rfl, ?_, ?_, ?_⟩
        ·
         rw [q1]; exact kidsD_nil.rd (X := fun _ => False)
        ·
         rw [q2]; exact nil_iii
        ·
         have hBQ := HBQ.out
         have hzQ := hBQ.size
         (repeat' first | exact Below.refl _ _ | assumption | apply Below.alloc | apply Below.drew | apply Below.setCell | omega | (simp; done) | (simp; omega))
       | some d =>
        have HG2 := Lib.hid (HG1.out.cell (step_live ho))
        obtain ⟨hdt, hds⟩ := step_spec _ _ m q _ x d (Nat.le_refl _) hxt ho
        have Ho := Lib.hid ho
        clear ho
        refine (derived_some (by omega) (by omega) (by omega) (by omega) (fun b h => (HX1.out b h).1) hzX hxt (by omega) Ho).mono ?_
        rintro f w7 ⟨s7, c7, rfl, hd7, hb7⟩
        have hz7 := hb7.size
        have hBun7 := HX3.out w7 _ _ hb7 hd7
        have HB7 := Lib.hid hBun7
        have HBe7 := Lib.hid (HBe6.out.trans (hb7.mono (by omega)))
        have HRE7 : Hid (∀ z ∈ R, z.pr ∈ E ++ [(kidsD d.kids, .slice s7 d.kids.length c7)]) := fun z hz => List.mem_append_left _ (HRE.out z hz)
        have hd7r := hd7.rd
        clear HX1 HX3 hzX hBun7 hb7 hd7
        by_cases hd1 : d.kind = 1
        ·
         have c1 : (d.kind == 1) = true := by simp [hd1]
         have hde := nxtE_dead Ho.out hd1
         have HEV : Hid (numO F (nxtE m q x) = -1) := by show _ = _; exact st_dead hde
         have HEL : Hid (stC A n e k x m (q + 1) = Lc) := by show _ = _; rw [stC_dead hmlt hqlt hde, HLc.out]
         have hBu := (HB7.out.alloc (.cells #[.int .i64 d.kind, .int .i64 d.num, .slice s7 d.kids.length c7] 34)).alloc (.cells #[.int .i64 (-1)] 2)
         have hNb := Blk.new1 (w7.alloc (.cells #[.int .i64 d.kind, .int .i64 d.num, .slice s7 d.kids.length c7] 34)) 2 (.int .i64 (-1))
         simp at hNb
         clear hde hd1 hd7r
         go_wp2_with
          (at_builtin; go_must (refine wpList_append_bun _ rfl _ _ 56 rfl 2 (.int .i64 0) 1 8 Tryz.underlying56 info_int64 rfl (by decide) (hBu) (by simp <;> omega) 5 _ rfl rfl ⟨w7.heap.size + 1, 0, none⟩ 1 1 [.int .i64 (-1)] rfl (news_blk hNb) none_own rfl (by simp [Value.oneCell']) (by omega) (by omega) (by unfold maxLen; omega) ?_); intro g6 cap6 w6 hbun6 hb6)
         have Hds : Hid (((rowE F n m x).take (q + 1)).map D.int = ((rowE F n m x).take q).map D.int ++ [D.int (-1)]) := by show _ = _; rw [rowE_take hqlt, List.map_append, HEV.out]; rfl
         have Hfin := Lib.hid (And.intro hbun6 ((((HBe7.out.alloc (by omega) (.cells #[.int .i64 d.kind, .int .i64 d.num, .slice s7 d.kids.length c7] 34)).alloc (by simp; omega) (.cells #[.int .i64 (-1)] 2))).trans hb6))
         clear hbun6 hb6
         go_wp2_with fail
         go_roundw
         case rel =>
          refine ⟨q + 1, R, _, by go_num, by omega, HG2, (by rw [HEL.out, ← HRl.out]; exact hlenq), (by rw [HEL.out]; exact HRe.out), HRE7.out, ?_, Hfin.out.2⟩
          have h := Hfin.out.1
          rw [Hds.out, HEL.out]
          exact h
         case measure => simp [intOf]; omega
        ·
         have c1 : (d.kind == 1) = false := by simp [hd1]
         have hdl := nxtE_live Ho.out hd1
         have hwas := @st_was A n e k x m q HX.out hk6 hmlt hqlt d hdl
         have hnew := @st_new A n e k x m q HX.out hk6 hmlt hqlt d hdl
         have hLw := @stC_was A n e k x m q hmlt hqlt d hdl
         have hLn := @stC_new A n e k x m q hmlt hqlt d hdl
         rw [HLc.out, ← HF.out] at hwas hnew
         rw [HLc.out] at hLw hLn
         have Hwas := Lib.hid hwas
         have Hnew := Lib.hid hnew
         have HLw := Lib.hid hLw
         have HLn := Lib.hid hLn
         clear hdl hwas hnew hLw hLn hd1
         go_wp2_with fail
         obtain ⟨w8, e8, N2, hb8, hz8⟩ := box3 w7 34 (.int .i64 d.kind) (.int .i64 d.num) (.slice s7 d.kids.length c7)
         rw [e8]
         have HB8 := Lib.hid (HB7.out.below hb8)
         have HBe8 := Lib.hid (HBe7.out.trans (hb8.mono (by omega)))
         have hd8 := hd7r.below hb8
         clear e8 hb8 hd7r
         refine (textOf_e hd8 (by omega) (by omega) hdt (by omega)).mono ?_
         rintro f w9 ⟨rfl, hb9⟩
         have HB9 := Lib.hid (HB8.out.below hb9)
         have HBe9 := Lib.hid (HBe8.out.trans (hb9.mono (by omega)))
         replace N2 := N2.below hb9
         have hz9 := hb9.size
         have hM9 : MapAt Tryz.prog 9 kfS (Value.int .i64) w9 g (mapL Lc) := (HB9.out.one 2 rfl).1
         have hlb := text_bound (t - 1) ((n : Int) - 1) (by omega) (by omega) _ d (Nat.le_refl _) hdt
         have hkey := keyS (t := d.text) (by omega)
         have hnod := hM9.nodup
         clear hb9 hd8
         by_cases hin : d ∈ Lc
         ·
          have hfind : Hid (findM (mapL Lc) d.text = some (findI Lc d)) := mapL_in hnod Hnd.out hin
          have HEV : Hid (numO F (nxtE m q x) = findI Lc d) := by show _ = _; exact Hwas.out hin
          have HEL : Hid (stC A n e k x m (q + 1) = Lc) := by show _ = _; exact HLw.out hin
          obtain ⟨Z, hZ⟩ : ∃ Z, findI Lc d = Z := ⟨_, rfl⟩
          rw [hZ] at HEV hfind
          have hBu := HB9.out.alloc (.cells #[.int .i64 Z] 2)
          have hNb := Blk.new1 w9 2 (.int .i64 Z)
          have Hkey := Lib.hid hkey
          clear hZ hin hnod hlb hkey
          go_wp2_with (first
           | (at_lookup; refine wpList_lookup_at _ rfl _ _ 150 true rfl 9 2 lawS Tryz.underlying150 (.int .i64 0) (zeroI64 _) kfS_inj g hM9 d.text Hkey.out rfl rfl (some Z) hfind.out ?_; simp only [lookV])
           |
            (at_builtin; go_must (refine wpList_append_bun _ rfl _ _ 56 rfl 2 (.int .i64 0) 1 8 Tryz.underlying56 info_int64 rfl (by decide) (hBu) (by simp <;> omega) 5 _ rfl rfl ⟨w9.heap.size, 0, none⟩ 1 1 [.int .i64 Z] rfl (news_blk hNb) none_own rfl (by simp [Value.oneCell']) (by omega) (by omega) (by unfold maxLen; omega) ?_); intro g6 cap6 w6 hbun6 hb6)
            )
          have Hds : Hid (((rowE F n m x).take (q + 1)).map D.int = ((rowE F n m x).take q).map D.int ++ [D.int Z]) := by show _ = _; rw [rowE_take hqlt, List.map_append, HEV.out]; rfl
          have Hfin := Lib.hid (And.intro hbun6 (((HBe9.out.alloc (by omega) (.cells #[.int .i64 Z] 2))).trans hb6))
          clear hbun6 hb6
          go_wp2_with fail
          go_roundw
          case rel =>
           refine ⟨q + 1, R, _, by go_num, by omega, HG2, (by rw [HEL.out, ← HRl.out]; exact hlenq), (by rw [HEL.out]; exact HRe.out), HRE7.out, ?_, Hfin.out.2⟩
           have h := Hfin.out.1
           rw [Hds.out, HEL.out]
           exact h
          case measure => simp [intOf]; omega
         ·
          have hfind : Hid (findM (mapL Lc) d.text = none) := mapL_out (tm := t - 1) (am := (n : Int) - 1) (by omega) (by omega) (fun y hy => (Hsp.out y hy).1) hdt hin
          have HEV : Hid (numO F (nxtE m q x) = (R.length : Int)) := by show _ = _; rw [HRl.out]; exact Hnew.out hin
          have HEL : Hid (stC A n e k x m (q + 1) = Lc ++ [d]) := by show _ = _; exact HLn.out hin
          have Heqm : Hid (putM (mapL Lc) d.text (R.length : Int) = mapL (Lc ++ [d])) := by show _ = _; rw [putM_new hfind.out, mapL_snoc, HRl.out]
          have Hkey := Lib.hid hkey
          clear hin hnod hlb hkey
          by_cases h60 : R.length = 60
          ·
           have c60 : ((R.length : Int) == 60) = true := by simp [h60]
           have HNO := Lib.hid (stOk_many (A := A) (a := n) (e := e) (m := m) (k := q + 1) HX.out hk6 (by rw [HEL.out, List.length_append, ← HRl.out, h60]; simp))
           have H60 := Lib.hid h60
           clear h60
           go_wp2_with (at_lookup; refine wpList_lookup_at _ rfl _ _ 150 true rfl 9 2 lawS Tryz.underlying150 (.int .i64 0) (zeroI64 _) kfS_inj g hM9 d.text Hkey.out rfl rfl none hfind.out ?_; simp only [lookV])
           obtain ⟨q1, q2, q3⟩ := stLL_no HNO.out
           have HBQ := Lib.hid (hBw.trans ((HBe9.out).mono (by have := hBw.size; omega)))
           go_wp2_with fail
           go_ret3
           refine ⟨none, 0, none, 0, by rw [q1, q2, q3]; rfl, ?_, ?_, ?_⟩
           ·
            rw [q1]; exact kidsD_nil.rd (X := fun _ => False)
           ·
            rw [q2]; exact nil_iii
           ·
            have hBQ := HBQ.out
            have hzQ := hBQ.size
            (repeat' first | exact Below.refl _ _ | assumption | apply Below.alloc | apply Below.drew | apply Below.setCell | omega | (simp; done) | (simp; omega))
          ·
           have c60 : ((R.length : Int) == 60) = false := beq_eq_false_iff_ne.2 (by omega)
           have hl59 : R.length ≤ 59 := by omega
           clear h60
           go_wp2_with (first
            | (at_lookup; refine wpList_lookup_at _ rfl _ _ 150 true rfl 9 2 lawS Tryz.underlying150 (.int .i64 0) (zeroI64 _) kfS_inj g hM9 d.text Hkey.out rfl rfl none hfind.out ?_; simp only [lookV])
            | (at_mapUpdate; go_must (refine (wpList_mapUpdate_at _ rfl _ _ _ 150 rfl 9 2 lawS Tryz.underlying150 kfS_inj g hM9 d.text Hkey.out (R.length : Int) rfl rfl rfl ?_); intro w10 hM10 ho10; have hz10 := ho10.size; have N3 := N2.keep (ho10.block _ N2.lt (by simp; omega)); have n0 := N3.c0; have n1 := N3.c1; have n2 := N3.c2; have ltN := N3.lt; have hBl := (HB9.out.turn_one (Q := NumAt g (Lc ++ [d])) 2 rfl ho10 (map_of hM10 Heqm.out)).alloc (.cells #[.int .i64 d.kind, .int .i64 d.num, .slice s7 d.kids.length c7] 34); have hNl : Blk _ w10.heap.size 34 (Sh.cells ⟨d, s7, c7⟩) := Blk.new3 w10 34 (.int .i64 d.kind) (.int .i64 d.num) (.slice s7 d.kids.length c7); have Hbe10 : Hid (Below w0.heap.size w0 w10) := HBe9.out.trans ⟨ho10.os, ho10.tape, ho10.output, ho10.size, fun b hb => ho10.block b (by omega) (by simp; omega)⟩; clear hM10 ho10 N3))
            | (at_builtin; (refine wpList_append_bun _ rfl _ _ 32 rfl 34 (.agg #[.int .i64 0, .int .i64 0, .slice none 0 0]) 3 40 Tryz.underlying32 info_iExpr rfl (by decide) hBl (by simp; omega) 1 _ rfl rfl ⟨w10.heap.size, 0, none⟩ 1 1 (Sh.cells ⟨d, s7, c7⟩) rfl (news_blk hNl) (raw_own (Sh.cells_one _)) rfl (Sh.cells_one _) (by omega) (by omega) (by unfold maxLen; omega) ?_); intro g5 cap5 w11 hbun5 hb11; have hz11 : w10.heap.size + 1 ≤ w11.heap.size := (by have q := hb11.size; simpa using q); have hBu := hbun5.alloc (.cells #[.int .i64 (R.length : Int)] 2); have hNb := Blk.new1 w11 2 (.int .i64 (R.length : Int)); have Hb11 := Lib.hid hb11; clear hbun5 hb11)
            |
             (at_builtin; go_must (refine wpList_append_bun _ rfl _ _ 56 rfl 2 (.int .i64 0) 1 8 Tryz.underlying56 info_int64 rfl (by decide) (hBu) (by simp <;> omega) 5 _ rfl rfl ⟨w11.heap.size, 0, none⟩ 1 1 [.int .i64 (R.length : Int)] rfl (news_blk hNb) none_own rfl (by simp [Value.oneCell']) (by omega) (by omega) (by unfold maxLen; omega) ?_); intro g6 cap6 w6 hbun6 hb6)
             )
           have Hds : Hid (((rowE F n m x).take (q + 1)).map D.int = ((rowE F n m x).take q).map D.int ++ [D.int (R.length : Int)]) := by show _ = _; rw [rowE_take hqlt, List.map_append, HEV.out]; rfl
           have Hfin := Lib.hid (And.intro hbun6 (((((Hbe10.out.alloc (by omega) (.cells #[.int .i64 d.kind, .int .i64 d.num, .slice s7 d.kids.length c7] 34)).trans Hb11.out).alloc (by omega) (.cells #[.int .i64 (R.length : Int)] 2))).trans hb6))
           clear hbun6 hb6
           go_wp2_with fail
           go_roundw
           case rel =>
            refine ⟨q + 1, (R ++ [⟨d, s7, c7⟩]), _, by go_num, by omega, HG2, (by rw [HEL.out, List.length_append, ← HRl.out]; simp; omega), (by rw [HEL.out, List.map_append, HRe.out]; rfl), (fun y hy => (List.mem_append.1 hy).elim (fun h => HRE7.out y h) (fun h => by rw [List.mem_singleton] at h; subst h; simp [Sh.pr])), ?_, Hfin.out.2⟩
            have h := Hfin.out.1
            rw [Hds.out, HEL.out, shs_snoc, sh_len]
            exact h
           case measure => simp [intOf]; omega
end Go.Proofs.YtcokljhamhgelaaGreatDoor

namespace Go.Proofs.YtcokljhamhgelaaGreatDoor
set_option linter.unusedVariables false
set_option linter.unusedSimpArgs false
open Go.ChangeShapes Go.WideShapes Go.ChangeAt Go.RowKit Go.Deep
theorem okB_bd4 {t a : Int} {e : Ex} (h : okB t a e = true) : 0 ≤ t ∧ t ≤ 3 ∧ 0 ≤ a ∧ a ≤ 4 ∧ e.size ≤ 200 ∧ e.tree (t - 1) (a - 1) = true := by
 have h1 := sigB_bd (okB_sig h)
 obtain ⟨-, -, h3⟩ := okB_bd h
 exact ⟨h1.1, h1.2.1, h1.2.2.1, h1.2.2.2, h3, okB_tree h⟩
theorem statesOf_a {t a : Int} {e : Ex} {s : Option Addr} {c : Nat} {w : World} (hok : okB t a e = true) (hr : Rd w (kidsD e.kids) (.slice s e.kids.length c)) :
  Calls Tryz.prog 101 #[.agg #[.int .i64 t, .int .i64 a], .agg #[.int .i64 e.kind, .int .i64 e.num, .slice s e.kids.length c]] w fun f w' => ∃ s1 c1 s2 c2, f = .returned (.tuple #[.slice s1 (stLL (atomsN t).toNat a.toNat e).length c1, .slice s2 (stNN (atomsN t).toNat a.toNat e).length c2, .int .i64 (stCC (atomsN t).toNat a.toNat e)]) ∧
   Rd w' (kidsD (stLL (atomsN t).toNat a.toNat e)) (.slice s1 (stLL (atomsN t).toNat a.toNat e).length c1) ∧ Freshs w w' [iiiD (stNN (atomsN t).toNat a.toNat e)] [.slice s2 (stNN (atomsN t).toNat a.toNat e).length c2] ∧ Below w.heap.size w w' := by
 obtain ⟨h0, h1, h2, h3, h4, h5⟩ := okB_bd4 hok
 obtain ⟨n, rfl⟩ : ∃ n : Nat, a = (n : Int) := ⟨a.toNat, by omega⟩
 rw [Int.toNat_natCast]
 exact statesOf_i h0 h1 (by omega) hr h5 h4
theorem l02States_a {t a : Int} {e : Ex} {b o : Nat} {w : World} (hok : okB t a e = true) (hx : ExAt w b o e) :
  Calls Tryz.prog 71 #[.agg #[.int .i64 t, .int .i64 a], .pointer (some ⟨b, o, none⟩)] w fun f w' => ∃ s c s' c', f = .returned (.tuple #[.slice s (stLL (atomsN t).toNat a.toNat e).length c, .slice s' (stNN (atomsN t).toNat a.toNat e).length c', .int .i64 (stCC (atomsN t).toNat a.toNat e)]) ∧
   Freshs w w' [kidsD (stLL (atomsN t).toNat a.toNat e), iiiD (stNN (atomsN t).toNat a.toNat e)] [.slice s (stLL (atomsN t).toNat a.toNat e).length c, .slice s' (stNN (atomsN t).toNat a.toNat e).length c'] ∧ Below w.heap.size w w' := by
 obtain ⟨h0, h1, h2, h3, h4, h5⟩ := okB_bd4 hok
 obtain ⟨n, rfl⟩ : ∃ n : Nat, a = (n : Int) := ⟨a.toNat, by omega⟩
 rw [Int.toNat_natCast]
 exact l02States_i h0 h1 (by omega) hx h5 h4
theorem stLL_spec {t a : Int} {e : Ex} (hok : okB t a e = true) : (stLL (atomsN t).toNat a.toNat e).length ≤ 60 ∧ ∀ x ∈ stLL (atomsN t).toNat a.toNat e, x.size ≤ 800 := by
 obtain ⟨-, -, -, -, h4, h5⟩ := okB_bd4 hok
 by_cases h : stOk (atomsN t).toNat a.toNat e
 ·
  rw [(stLL_yes h).1]
  exact ⟨h.1, fun x hx => (stL_spec h5 h4 60 x hx).2⟩
 ·
  rw [(stLL_no h).1]
  simp
end Go.Proofs.YtcokljhamhgelaaGreatDoor

namespace Go.Proofs.YtcokljhamhgelaaGreatDoor
set_option linter.unusedVariables false
set_option linter.unusedSimpArgs false
open Go.ChangeShapes Go.WideShapes Go.ChangeAt Go.RowKit Go.Deep
theorem stL_there {A a : Nat} {e : Ex} {i : Nat} {x : Ex} (hi : i ≤ 60) (h : (stL A a e 60)[i]? = some x) : (stL A a e i)[i]? = some x := by
 have hl := (List.getElem?_eq_some_iff.1 h).1
 rcases Nat.lt_or_ge i (stL A a e i).length with h1 | h1
 ·
  have h2 : (stL A a e i)[i]? = some (stL A a e i)[i] := List.getElem?_eq_getElem h1
  have h3 := prefix_get (stL_prefix (A := A) (a := a) (e := e) hi) h2
  rw [h] at h3
  rw [h2, h3]
 ·
  rw [stL_done h1 hi] at hl
  omega
theorem stL_closed {A a : Nat} {e : Ex} (h : stOk A a e) {x d : Ex} (hx : x ∈ stL A a e 60) {m k : Nat} (hm : m < A) (hk : k < a) (hd : nxtE m k x = some d) : d ∈ stL A a e 60 := by
 obtain ⟨i, hi⟩ := List.mem_iff_getElem?.1 hx
 have hil := (List.getElem?_eq_some_iff.1 hi).1
 have h60 := h.1
 have hi' : i < 60 := by omega
 have hc := stL_there (by omega) hi
 exact (stC_prefix (m := m) (k := k + 1) hc hi').subset (stC_mem hm hk hd)
theorem mad_ok {t a : Int} {e : Ex} (hok : okB t a e = true) (h : stOk (atomsN t).toNat a.toNat e) : AutOk t a (madA (atomsN t).toNat a.toNat e) (stNN (atomsN t).toNat a.toNat e) := by
 obtain ⟨ht0, ht3, ha0, ha4, -, -⟩ := okB_bd4 hok
 obtain ⟨hat1, hat8⟩ := atomsN_bd t
 obtain ⟨e1, e2, -⟩ := stLL_yes h
 have hp := stL_pos (atomsN t).toNat a.toNat e 60
 have h60 := h.1
 refine ⟨okB_sig hok, ?_, ?_, ?_, ?_⟩
 ·
  rw [madA_len, e1]; exact hp
 ·
  rw [madA_len, e1]; exact h60
 ·
  rw [madA_len, stNN_len]
 ·
  intro i ar nr har hnr
  rw [madA_len, e1]
  unfold madA at har
  rw [e1, List.getElem?_map] at har
  rw [e2] at hnr
  unfold stN at hnr
  rw [List.getElem?_map] at hnr
  obtain ⟨x, hx, rfl⟩ := Option.map_eq_some_iff.1 har
  rw [hx] at hnr
  obtain rfl := Option.some.inj hnr
  refine ⟨by rw [accE_len]; omega, by rw [rowsE_len]; omega, fun j row hj => ?_⟩
  have hjl := (List.getElem?_eq_some_iff.1 hj).1
  rw [rowsE_len] at hjl
  unfold rowsE at hj
  rw [List.getElem?_map, List.getElem?_range hjl] at hj
  obtain rfl := Option.some.inj hj
  refine ⟨by rw [rowE_len]; omega, fun l z hz => ?_⟩
  have hll := (List.getElem?_eq_some_iff.1 hz).1
  rw [rowE_len] at hll
  unfold rowE at hz
  rw [List.getElem?_map, List.getElem?_range hll] at hz
  obtain rfl := Option.some.inj hz
  have := numO_bd (L := stL (atomsN t).toNat a.toNat e 60) (o := nxtE j l x) fun d hd => stL_closed h (List.mem_of_getElem? hx) hjl hll hd
  exact ⟨this.1, Int.le_sub_one_of_lt this.2⟩
theorem stLL_tree {t a : Int} {e : Ex} (hok : okB t a e = true) : ∀ x ∈ stLL (atomsN t).toNat a.toNat e, x.tree (t - 1) (a - 1) = true ∧ x.size ≤ 800 := by
 obtain ⟨-, -, -, -, h4, h5⟩ := okB_bd4 hok
 by_cases h : stOk (atomsN t).toNat a.toNat e
 ·
  rw [(stLL_yes h).1]
  exact stL_spec h5 h4 60
 ·
  rw [(stLL_no h).1]
  simp
theorem stCC_ok {A a : Nat} {e : Ex} (h : stCC A a e = 0) : stOk A a e := by
 by_cases hs : stOk A a e
 ·
  exact hs
 ·
  rw [(stLL_no hs).2.2] at h; omega
theorem stCC_no {A a : Nat} {e : Ex} (h : ¬ stCC A a e = 0) : stCC A a e = 3 ∧ stLL A a e = [] ∧ stNN A a e = [] := by
 by_cases hs : stOk A a e
 ·
  exact absurd (stLL_yes hs).2.2 h
 ·
  exact ⟨(stLL_no hs).2.2, (stLL_no hs).1, (stLL_no hs).2.1⟩
noncomputable def madT (A n : Nat) (e : Ex) (t : Int) : Int := if stCC A n e = 0 then t else 0
noncomputable def auT (t a : Int) (e : Ex) : Int := if okB t a e = true then madT (atomsN t).toNat a.toNat e t else 0
noncomputable def auN (t a : Int) (e : Ex) : Int := if okB t a e = true then madT (atomsN t).toNat a.toNat e a else 0
noncomputable def auA (t a : Int) (e : Ex) : List (List Bool) := if okB t a e = true then madA (atomsN t).toNat a.toNat e else []
noncomputable def auX (t a : Int) (e : Ex) : List (List (List Int)) := if okB t a e = true then stNN (atomsN t).toNat a.toNat e else []
noncomputable def auC (t a : Int) (e : Ex) : Int := if okB t a e = true then stCC (atomsN t).toNat a.toNat e else 1
theorem au_yes {t a : Int} {e : Ex} (h : okB t a e = true) : auT t a e = madT (atomsN t).toNat a.toNat e t ∧ auN t a e = madT (atomsN t).toNat a.toNat e a ∧ auA t a e = madA (atomsN t).toNat a.toNat e ∧ auX t a e = stNN (atomsN t).toNat a.toNat e ∧ auC t a e = stCC (atomsN t).toNat a.toNat e :=
 ⟨if_pos h, if_pos h, if_pos h, if_pos h, if_pos h⟩
theorem au_no {t a : Int} {e : Ex} (h : ¬ okB t a e = true) : auT t a e = 0 ∧ auN t a e = 0 ∧ auA t a e = [] ∧ auX t a e = [] ∧ auC t a e = 1 :=
 ⟨if_neg h, if_neg h, if_neg h, if_neg h, if_neg h⟩
theorem au_ok {t a : Int} {e : Ex} (h : auC t a e = 0) : okB t a e = true ∧ auT t a e = t ∧ auN t a e = a ∧ AutOk t a (auA t a e) (auX t a e) := by
 by_cases hok : okB t a e = true
 ·
  obtain ⟨h1, h2, h3, h4, h5⟩ := au_yes hok
  rw [h5] at h
  refine ⟨hok, by rw [h1]; exact if_pos h, by rw [h2]; exact if_pos h, ?_⟩
  rw [h3, h4]
  exact mad_ok hok (stCC_ok h)
 ·
  have := (au_no hok).2.2.2.2
  omega
end Go.Proofs.YtcokljhamhgelaaGreatDoor
