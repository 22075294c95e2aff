/-
  Parts of a proof, joined: MixV. No condition.
-/
import Derived.Test.YtfhlddbngjlhbaaPk8
namespace Go.Proofs.Ytfhlddbngjlhbaa
set_option linter.unusedVariables false
set_option linter.unusedSimpArgs false
open Go.ChangeShapes Go.WideShapes Go.ChangeAt Go.RowKit Go.Deep
noncomputable def mixS12 : Code := (Try.f24.body.bind (regOf 12)).getD .skip
set_option maxRecDepth 1000000 in
set_option maxHeartbeats 16000000 in
theorem mixS12_i {t a mix : Int} {ac bc : List (List Bool)} {nx ny : List (List (List Int))} {s u s' u' : Option Addr} {c d c' d' b o b' o' b2 o2 b3 o3 : Nat} {B g : Nat} {w w0 wm : World} {vA vX : Value} {a5 : Option Addr} {ri cm cn c5 m : Nat} {Lm : List (Int × Int)} {MA : List (List Bool)} {MX : List (List (List Int))} {ds : List D} {it : Item} {x : Int × Int}
  (h : AutAt w b o t a ac nx s u c d) (h' : AutAt w b' o' t a bc ny s' u' c' d') (hok : AutOk t a ac nx) (hok' : AutOk t a bc ny) (hB0 : Below w.heap.size w w0) (hB1 : w.heap.size ≤ B) (hB2 : B ≤ w0.heap.size) (hmat : (m : Int) < atomsN t) (hm8 : m < 8) (hs2 : x.1 < ac.length) (hs4 : x.2 < bc.length) (hat : Lm[ri]? = some x)
  (hW : MxW B g t a w0 wm Lm ri MA MX (.slice (some ⟨b2, o2, none⟩) Lm.length cm) (.slice (some ⟨b3, o3, none⟩) Lm.length cn) vA vX [.app 4 1 m ds (.slice a5 m c5), it])
  {K : Act → World → Prop} {Q' : Exit → Act → World → Prop} {y3 y4 y5 y6 y7 y10 y13 y15 y16 y17 y18 y19 y20 y21 y22 y23 y24 y25 y26 y27 y28 y29 y30 y31 y32 y33 y34 y35 y36 y37 y38 y39 y40 y41 y42 y43 y44 y45 y46 y47 y48 y49 y50 y51 y52 y53 y54 y55 y56 y57 y58 y59 y60 y61 y62 y63 y64 y65 y66 y67 y68 y69 y70 y71 y72 y73 y74 y75 y76 y77 y78 y79 y80 y81 y82 y83 y84 y85 y86 y87 y88 y89 y90 y91 y92 y93 y94 y95 y96 y97 y98 y99 y100 y101 y102 y103 y104 y105 y106 y107 y108 y109 y110 y111 y112 y113 y114 y115 y116 y117 y118 y119 y120 y121 y122 y123 y124 y125 y126 y127 y128 y129 y130 y131 y132 y133 y134 y135 y136 y137 y138 y139 y140 y141 y142 y143 y144 y145 y146 y147 y148 y149 y150 y151 y152 y153 y154 y155 y156 y157 y158 y159 : Value}
  (hK : ∀ (g8 cap8 : Nat) (wx : World) (u45 u46 u47 u48 u49 u50 u51 u52 u53 u54 u55 u56 u57 u58 u59 u60 u61 u62 u63 : Value), MxW B g t a w0 wx Lm ri MA MX (.slice (some ⟨b2, o2, none⟩) Lm.length cm) (.slice (some ⟨b3, o3, none⟩) Lm.length cn) vA vX [.app 4 1 (m + 1) (ds ++ [.bool (mixB mix (hasN ac x.1 m) (hasN bc x.2 m))]) (.slice (some ⟨g8, 0, none⟩) (m + 1) cap8), it] → K ⟨#[.pointer (some ⟨b, o, none⟩), .pointer (some ⟨b', o', none⟩), .int .i64 mix, y3, y4, y5, y6, y7, .slice (some ⟨b2, o2, none⟩) Lm.length cm, .slice (some ⟨b3, o3, none⟩) Lm.length cn, y10, .int .i64 ri, .slice (some ⟨g8, 0, none⟩) (m + 1) cap8, y13, .int .i64 m, y15, y16, y17, y18, y19, y20, y21, y22, y23, y24, y25, y26, y27, y28, y29, y30, y31, y32, y33, y34, y35, y36, y37, y38, y39, y40, y41, y42, y43, y44, u45, u46, u47, u48, u49, u50, u51, u52, u53, u54, u55, u56, u57, u58, u59, u60, u61, u62, u63, y64, y65, y66, y67, y68, y69, y70, y71, y72, y73, y74, y75, y76, y77, y78, y79, y80, y81, y82, y83, y84, y85, y86, y87, y88, y89, y90, y91, y92, y93, y94, y95, y96, y97, y98, y99, y100, y101, y102, y103, y104, y105, y106, y107, y108, y109, y110, y111, y112, y113, y114, y115, y116, y117, y118, y119, y120, y121, y122, y123, y124, y125, y126, y127, y128, y129, y130, y131, y132, y133, y134, y135, y136, y137, y138, y139, y140, y141, y142, y143, y144, y145, y146, y147, y148, y149, y150, y151, y152, y153, y154, y155, y156, y157, y158, y159], []⟩ wx) :
  Code.wp Try.prog mixS12 (Exit.then K Q') ⟨#[.pointer (some ⟨b, o, none⟩), .pointer (some ⟨b', o', none⟩), .int .i64 mix, y3, y4, y5, y6, y7, .slice (some ⟨b2, o2, none⟩) Lm.length cm, .slice (some ⟨b3, o3, none⟩) Lm.length cn, y10, .int .i64 ri, .slice a5 m c5, y13, .int .i64 m, y15, y16, y17, y18, y19, y20, y21, y22, y23, y24, y25, y26, y27, y28, y29, y30, y31, y32, y33, y34, y35, y36, y37, y38, y39, y40, y41, y42, y43, y44, y45, y46, y47, y48, y49, y50, y51, y52, y53, y54, y55, y56, y57, y58, y59, y60, y61, y62, y63, y64, y65, y66, y67, y68, y69, y70, y71, y72, y73, y74, y75, y76, y77, y78, y79, y80, y81, y82, y83, y84, y85, y86, y87, y88, y89, y90, y91, y92, y93, y94, y95, y96, y97, y98, y99, y100, y101, y102, y103, y104, y105, y106, y107, y108, y109, y110, y111, y112, y113, y114, y115, y116, y117, y118, y119, y120, y121, y122, y123, y124, y125, y126, y127, y128, y129, y130, y131, y132, y133, y134, y135, y136, y137, y138, y139, y140, y141, y142, y143, y144, y145, y146, y147, y148, y149, y150, y151, y152, y153, y154, y155, y156, y157, y158, y159], []⟩ wm := by
 obtain ⟨X1, hX1⟩ : ∃ v, hasN ac x.1 m = v := ⟨_, rfl⟩
 obtain ⟨X2, hX2⟩ : ∃ v, hasN bc x.2 m = v := ⟨_, rfl⟩
 obtain ⟨Z, hZ⟩ : ∃ v, mixB mix X1 X2 = v := ⟨_, rfl⟩
 rw [hX1, hX2, hZ] at hK
 have HK := Lib.hid hK
 have HX1 := Lib.hid hX1
 have HX2 := Lib.hid hX2
 have HZ := Lib.hid hZ
 have HW := Lib.hid hW
 have Hh := Lib.hid h
 have Hh' := Lib.hid h'
 have Hok := Lib.hid hok
 have Hok' := Lib.hid hok'
 have Hat := Lib.hid hat
 have hzm := hW.2.size
 have hzb := hW.2.size
 obtain ⟨own, hown⟩ := hW.1
 have V0 := hown 5 _ rfl
 have V0f := fun (bb : Nat) (h : B ≤ bb ∧ bb < wm.heap.size ∧ own bb = 5) => And.intro h.1 h.2.1
 have HS0 := Lib.hid (hown 0 _ rfl)
 have HS1 := Lib.hid (hown 1 _ rfl)
 have Hown := Lib.hid hown
 have hm0 := Int.natCast_nonneg m
 have hri0 := Int.natCast_nonneg ri
 have hril := (List.getElem?_eq_some_iff.1 hat).1
 have hril3 : (ri : Int) < (Lm.length : Int) := by omega
 obtain ⟨_, _, e5, q1, q2⟩ := hW.1.shape 5 rfl
 simp only [Value.slice.injEq, true_and] at e5
 obtain ⟨rfl, rfl⟩ := e5
 obtain ⟨_, _, e5, q3, q4⟩ := hW.1.shape 0 rfl
 simp only [Value.slice.injEq, true_and] at e5
 obtain ⟨rfl, rfl⟩ := e5
 obtain ⟨_, _, e5, q5, q6⟩ := hW.1.shape 1 rfl
 simp only [Value.slice.injEq, true_and] at e5
 obtain ⟨rfl, rfl⟩ := e5
 unfold maxLen at q2 q4 q6
 have hBm : B ≤ wm.heap.size := by omega
 clear hown hK hZ hX1 hX2 hW h h' hok hok' hat hril
 conv => arg 2; whnf
 go_wp2_with fail
 obtain ⟨x1, hx1⟩ := mkval ?a1_1
 obtain ⟨x2, hx2⟩ := mkval ?a1_2
 obtain ⟨x3, hx3⟩ := mkval ?a1_3
 obtain ⟨x4, hx4⟩ := mkval ?a1_4
 obtain ⟨x5, hx5⟩ := mkval ?a1_5
 obtain ⟨x7, hx7⟩ := mkval ?a1_7
 obtain ⟨x9, hx9⟩ := mkval ?a1_9
 obtain ⟨x10, hx10⟩ := mkval ?a1_10
 obtain ⟨x11, hx11⟩ := mkval ?a1_11
 obtain ⟨x12, hx12⟩ := mkval ?a1_12
 obtain ⟨x14, hx14⟩ := mkval ?a1_14
 have hGb : ∀ m b, (fun m b => (m = 0 ∧ (B ≤ b ∧ b < wm.heap.size ∧ own b = 5))) m b → (B) ≤ b ∧ b < (wm).heap.size := by
  intro m b hg
  rcases hg with ⟨rfl, hg⟩
  ·
   have q := V0f b hg
   omega
 have hGd : ∀ m m' b, (fun m b => (m = 0 ∧ (B ≤ b ∧ b < wm.heap.size ∧ own b = 5))) m b → (fun m b => (m = 0 ∧ (B ≤ b ∧ b < wm.heap.size ∧ own b = 5))) m' b → m = m' := by
  intro m m' b h h'
  rcases h with ⟨rfl, h⟩ <;> rcases h' with ⟨rfl, h'⟩ <;> first
   | rfl
 refine region_rs [] [(18, 0)] (fun m b => (m = 0 ∧ (B ≤ b ∧ b < wm.heap.size ∧ own b = 5))) (B) (fun i iv vs wx => match i with
  | 0 => vs 0 = .slice a5 m c5
  | 1 => vs 1 = x1
  | 2 => vs 2 = x2
  | 3 => vs 3 = x3
  | 4 => vs 4 = x4
  | 5 => vs 5 = x5
  | 6 => vs 6 = .int .i64 x.1
  | 7 => vs 7 = x7
  | 8 => vs 8 = .bool X1
  | 9 => vs 9 = x9
  | 10 => vs 10 = x10
  | 11 => vs 11 = x11
  | 12 => vs 12 = x12
  | 13 => vs 13 = .int .i64 x.2
  | 14 => vs 14 = x14
  | 15 => vs 15 = .bool X2
  | 16 => vs 16 = .bool Z
  | 17 => vs 17 = .slice (some ⟨(iv 17).1, 0, none⟩) 1 1 ∧ (iv 17).2 = (iv 17).1 + 1 ∧ Blk wx (iv 17).1 4 [.bool Z]
  | 18 => ∃ g cap, vs 18 = .slice (some ⟨g, 0, none⟩) (m + 1) cap ∧ AppS (foot [] [(18, 0)] (fun m b => (m = 0 ∧ (B ≤ b ∧ b < wm.heap.size ∧ own b = 5))) 20 18 iv) wx 4 1 (m + 1) (ds ++ [.bool Z]) (.slice (some ⟨g, 0, none⟩) (m + 1) cap)
  | 19 => vs 19 = vs 18
  | _ => True) (fun i iv vs => match i with
  | 0 => vs 0 = .slice a5 m c5
  | 1 => vs 1 = x1
  | 2 => vs 2 = x2
  | 3 => vs 3 = x3
  | 4 => vs 4 = x4
  | 5 => vs 5 = x5
  | 6 => vs 6 = .int .i64 x.1
  | 7 => vs 7 = x7
  | 8 => vs 8 = .bool X1
  | 9 => vs 9 = x9
  | 10 => vs 10 = x10
  | 11 => vs 11 = x11
  | 12 => vs 12 = x12
  | 13 => vs 13 = .int .i64 x.2
  | 14 => vs 14 = x14
  | 15 => vs 15 = .bool X2
  | 16 => vs 16 = .bool Z
  | 17 => vs 17 = .slice (some ⟨(iv 17).1, 0, none⟩) 1 1 ∧ (iv 17).2 = (iv 17).1 + 1
  | 18 => ∃ g cap, vs 18 = .slice (some ⟨g, 0, none⟩) (m + 1) cap
  | 19 => vs 19 = vs 18
  | _ => True) (by kernel_rfl) (by kernel_rfl) [0, 1, 2, 3, 4, 5, 6, 7, 8, 9, 10, 11, 12, 13, 14, 15, 16, 17, 18, 19] (by kernel_rfl) ?hbase ?hGb ?hG ?hJ ?hE ?hEE ?hstep ?hQ
 case hbase => first | exact Nat.le_refl _ | omega | (simp; omega)
 case hGb =>
  exact hGb
 case hG =>
  exact hGd
 case hJ =>
  intro i hi iv iv' vs vs' wx wx' ha hv hz hk hj
  simp only [List.mem_cons, List.not_mem_nil, or_false] at hi
  rcases hi with rfl | rfl | rfl | rfl | rfl | rfl | rfl | rfl | rfl | rfl | rfl | rfl | rfl | rfl | rfl | rfl | rfl | rfl | rfl | rfl
  ·
   exact (hv.out 0 (mem_of (by kernel_rfl))).symm.trans hj
  ·
   exact (hv.out 1 (mem_of (by kernel_rfl))).symm.trans hj
  ·
   exact (hv.out 2 (mem_of (by kernel_rfl))).symm.trans hj
  ·
   exact (hv.out 3 (mem_of (by kernel_rfl))).symm.trans hj
  ·
   exact (hv.out 4 (mem_of (by kernel_rfl))).symm.trans hj
  ·
   exact (hv.out 5 (mem_of (by kernel_rfl))).symm.trans hj
  ·
   exact (hv.out 6 (mem_of (by kernel_rfl))).symm.trans hj
  ·
   exact (hv.out 7 (mem_of (by kernel_rfl))).symm.trans hj
  ·
   exact (hv.out 8 (mem_of (by kernel_rfl))).symm.trans hj
  ·
   exact (hv.out 9 (mem_of (by kernel_rfl))).symm.trans hj
  ·
   exact (hv.out 10 (mem_of (by kernel_rfl))).symm.trans hj
  ·
   exact (hv.out 11 (mem_of (by kernel_rfl))).symm.trans hj
  ·
   exact (hv.out 12 (mem_of (by kernel_rfl))).symm.trans hj
  ·
   exact (hv.out 13 (mem_of (by kernel_rfl))).symm.trans hj
  ·
   exact (hv.out 14 (mem_of (by kernel_rfl))).symm.trans hj
  ·
   exact (hv.out 15 (mem_of (by kernel_rfl))).symm.trans hj
  ·
   exact (hv.out 16 (mem_of (by kernel_rfl))).symm.trans hj
  ·
   have e17 := hv.out 17 (mem_of (by kernel_rfl))
   have g17 := ha.out 17 (mem_of (by kernel_rfl))
   obtain ⟨q1, q3, q2⟩ := hj
   show vs' 17 = .slice (some ⟨(iv' 17).1, 0, none⟩) 1 1 ∧ (iv' 17).2 = (iv' 17).1 + 1 ∧ Blk wx' (iv' 17).1 4 [.bool Z]
   rw [← e17, ← g17]
   exact ⟨q1, q3, q2.keep (hk.out _ q2.lt (foot_own (Nat.le_refl _) (by omega)))⟩
  ·
   have e18 := hv.out 18 (mem_of (by kernel_rfl))
   obtain ⟨g, cap, q1, q2⟩ := hj
   exact ⟨g, cap, e18 ▸ q1, (q2.keep (fun b hb h1 => hk.out b hb h1)).more (fun b hb h1 => foot_agree (l := ancs _ 20 18) (by exact of_decide_eq_true (by kernel_rfl)) ha.out h1)⟩
  ·
   have e18 := hv.out 18 (mem_of (by kernel_rfl))
   have e19 := hv.out 19 (mem_of (by kernel_rfl))
   have hj' : vs 19 = vs 18 := hj
   show vs' 19 = vs' 18
   rw [← e18, ← e19]
   exact hj'
 case hE =>
  intro i hi iv vs wx hj
  simp only [List.mem_cons, List.not_mem_nil, or_false] at hi
  rcases hi with rfl | rfl | rfl | rfl | rfl | rfl | rfl | rfl | rfl | rfl | rfl | rfl | rfl | rfl | rfl | rfl | rfl | rfl | rfl | rfl
  ·
   exact hj
  ·
   exact hj
  ·
   exact hj
  ·
   exact hj
  ·
   exact hj
  ·
   exact hj
  ·
   exact hj
  ·
   exact hj
  ·
   exact hj
  ·
   exact hj
  ·
   exact hj
  ·
   exact hj
  ·
   exact hj
  ·
   exact hj
  ·
   exact hj
  ·
   exact hj
  ·
   exact hj
  ·
   exact ⟨hj.1, hj.2.1⟩
  ·
   obtain ⟨g, cap, q1, -⟩ := hj
   exact ⟨g, cap, q1⟩
  ·
   exact hj
 case hEE =>
  intro i hi iv iv' vs vs' ha hv hj
  simp only [List.mem_cons, List.not_mem_nil, or_false] at hi
  rcases hi with rfl | rfl | rfl | rfl | rfl | rfl | rfl | rfl | rfl | rfl | rfl | rfl | rfl | rfl | rfl | rfl | rfl | rfl | rfl | rfl
  ·
   exact (hv.out 0 (mem_of (by kernel_rfl))).symm.trans hj
  ·
   exact (hv.out 1 (mem_of (by kernel_rfl))).symm.trans hj
  ·
   exact (hv.out 2 (mem_of (by kernel_rfl))).symm.trans hj
  ·
   exact (hv.out 3 (mem_of (by kernel_rfl))).symm.trans hj
  ·
   exact (hv.out 4 (mem_of (by kernel_rfl))).symm.trans hj
  ·
   exact (hv.out 5 (mem_of (by kernel_rfl))).symm.trans hj
  ·
   exact (hv.out 6 (mem_of (by kernel_rfl))).symm.trans hj
  ·
   exact (hv.out 7 (mem_of (by kernel_rfl))).symm.trans hj
  ·
   exact (hv.out 8 (mem_of (by kernel_rfl))).symm.trans hj
  ·
   exact (hv.out 9 (mem_of (by kernel_rfl))).symm.trans hj
  ·
   exact (hv.out 10 (mem_of (by kernel_rfl))).symm.trans hj
  ·
   exact (hv.out 11 (mem_of (by kernel_rfl))).symm.trans hj
  ·
   exact (hv.out 12 (mem_of (by kernel_rfl))).symm.trans hj
  ·
   exact (hv.out 13 (mem_of (by kernel_rfl))).symm.trans hj
  ·
   exact (hv.out 14 (mem_of (by kernel_rfl))).symm.trans hj
  ·
   exact (hv.out 15 (mem_of (by kernel_rfl))).symm.trans hj
  ·
   exact (hv.out 16 (mem_of (by kernel_rfl))).symm.trans hj
  ·
   have e17 := hv.out 17 (mem_of (by kernel_rfl))
   have g17 := ha.out 17 (mem_of (by kernel_rfl))
   have hj' : vs 17 = .slice (some ⟨(iv 17).1, 0, none⟩) 1 1 ∧ (iv 17).2 = (iv 17).1 + 1 := hj
   show vs' 17 = .slice (some ⟨(iv' 17).1, 0, none⟩) 1 1 ∧ (iv' 17).2 = (iv' 17).1 + 1
   rw [← e17, ← g17]
   exact hj'
  ·
   have e18 := hv.out 18 (mem_of (by kernel_rfl))
   have hj' : ∃ g cap, vs 18 = .slice (some ⟨g, 0, none⟩) (m + 1) cap := hj
   show ∃ g cap, vs' 18 = .slice (some ⟨g, 0, none⟩) (m + 1) cap
   rw [← e18]
   exact hj'
  ·
   have e18 := hv.out 18 (mem_of (by kernel_rfl))
   have e19 := hv.out 19 (mem_of (by kernel_rfl))
   have hj' : vs 19 = vs 18 := hj
   show vs' 19 = vs' 18
   rw [← e18, ← e19]
   exact hj'
 case hstep =>
  intro i hi opr ho iv vs w1 hB hS hSo hd he hbd hsep hun K hK
  simp only [List.mem_cons, List.not_mem_nil, or_false] at hi
  have hzB := hB.size
  have HGb := Lib.hid hGb
  clear hGb hGd
  have hwb : Below w.heap.size w w1 := hB0.trans ((HW.out.2.trans hB).mono (by omega))
  have P0 := AppS.keep HS0.out (fun bb hb hs => hSo.out.block bb hb (fun ⟨mm, hmm⟩ => by have q1 := hs.2.2; have q2 := hmm.2.2.2; omega))
  have P1 := AppS.keep HS1.out (fun bb hb hs => hSo.out.block bb hb (fun ⟨mm, hmm⟩ => by have q1 := hs.2.2; have q2 := hmm.2.2.2; omega))
  obtain ⟨-, x0⟩ := int_in (rd_part P0.rd) (part_at (f := Prod.fst) Hat.out)
  obtain ⟨-, x1⟩ := int_in (rd_part P1.rd) (part_at (f := Prod.snd) Hat.out)
  clear P0 P1
  generalize hA : putFrom _ 0 vs _ = A at hK ⊢
  simp only [putFrom, puts] at hA
  rcases hi with rfl | rfl | rfl | rfl | rfl | rfl | rfl | rfl | rfl | rfl | rfl | rfl | rfl | rfl | rfl | rfl | rfl | rfl | rfl | rfl
  all_goals
   simp at ho
   subst ho
   subst hA
  ·
   have un19 : vs 19 = .slice a5 m c5 := hun.out 19 (mem_of (by kernel_rfl))
   go_wp2_with fail
   exact Onward.mk (hK (.slice a5 m c5) _ _ (fun h => by cases h) (by first | rfl | (simp only [puts, un19])) (Spares.refl _) (fun iv' _ _ => rfl))
  ·
   go_wp2_with fail
   refine Onward.mk (hK ?val1_1 _ _ (fun h => by cases h) ?eqA (Spares.refl _) (fun iv' _ _ => ?ja))
   case eqA => first | rfl | (simp only [puts]; rfl)
   case ja => exact hx1.out.symm
  ·
   go_wp2_with fail
   refine Onward.mk (hK ?val1_2 _ _ (fun h => by cases h) ?eqA (Spares.refl _) (fun iv' _ _ => ?ja))
   case eqA => first | rfl | (simp only [puts]; rfl)
   case ja => exact hx2.out.symm
  ·
   go_wp2_with fail
   refine Onward.mk (hK ?val1_3 _ _ (fun h => by cases h) ?eqA (Spares.refl _) (fun iv' _ _ => ?ja))
   case eqA => first | rfl | (simp only [puts]; rfl)
   case ja => exact hx3.out.symm
  ·
   go_wp2_with fail
   refine Onward.mk (hK ?val1_4 _ _ (fun h => by cases h) ?eqA (Spares.refl _) (fun iv' _ _ => ?ja))
   case eqA => first | rfl | (simp only [puts]; rfl)
   case ja => exact hx4.out.symm
  ·
   have h3 := (hd.out 3 (mem_of (by kernel_rfl)) (by decide) (by kernel_rfl)).trans hx3.out
   have h4 := (hd.out 4 (mem_of (by kernel_rfl)) (by decide) (by kernel_rfl)).trans hx4.out
   go_wp2_with fail
   refine Onward.mk (hK ?val1_5 _ _ (fun h => by cases h) ?eqA (Spares.refl _) (fun iv' _ _ => ?ja))
   case eqA => first | rfl | (simp only [puts, h3, h4]; rfl)
   case ja => exact hx5.out.symm
  ·
   have h5 := (hd.out 5 (mem_of (by kernel_rfl)) (by decide) (by kernel_rfl)).trans hx5.out
   go_wp2_with fail
   exact Onward.mk (hK (.int .i64 x.1) _ _ (fun h => by cases h) (by first | rfl | (simp only [puts, h5])) (Spares.refl _) (fun iv' _ _ => rfl))
  ·
   go_wp2_with fail
   refine Onward.mk (hK ?val1_7 _ _ (fun h => by cases h) ?eqA (Spares.refl _) (fun iv' _ _ => ?ja))
   case eqA => first | rfl | (simp only [puts]; rfl)
   case ja => exact hx7.out.symm
  ·
   have h2 := (hd.out 2 (mem_of (by kernel_rfl)) (by decide) (by kernel_rfl)).trans hx2.out
   have h6 : vs 6 = .int .i64 x.1 := hd.out 6 (mem_of (by kernel_rfl)) (by decide) (by kernel_rfl)
   have h7 := (hd.out 7 (mem_of (by kernel_rfl)) (by decide) (by kernel_rfl)).trans hx7.out
   go_wp2_with fail
   refine (l02Has_b HX1.out (Hh.out.below hwb) Hok.out hs2 hmat).mono ?_
   rintro e w2 ⟨rfl, hb⟩
   go_wp2_with fail
   exact Onward.mk (hK (.bool X1) _ _ (fun h => by cases h) (by first | rfl | (simp only [puts, h2, h6, h7])) (Spares.of_below hb) (fun iv' _ _ => rfl))
  ·
   go_wp2_with fail
   refine Onward.mk (hK ?val1_9 _ _ (fun h => by cases h) ?eqA (Spares.refl _) (fun iv' _ _ => ?ja))
   case eqA => first | rfl | (simp only [puts]; rfl)
   case ja => exact hx9.out.symm
  ·
   go_wp2_with fail
   refine Onward.mk (hK ?val1_10 _ _ (fun h => by cases h) ?eqA (Spares.refl _) (fun iv' _ _ => ?ja))
   case eqA => first | rfl | (simp only [puts]; rfl)
   case ja => exact hx10.out.symm
  ·
   go_wp2_with fail
   refine Onward.mk (hK ?val1_11 _ _ (fun h => by cases h) ?eqA (Spares.refl _) (fun iv' _ _ => ?ja))
   case eqA => first | rfl | (simp only [puts]; rfl)
   case ja => exact hx11.out.symm
  ·
   have h10 := (hd.out 10 (mem_of (by kernel_rfl)) (by decide) (by kernel_rfl)).trans hx10.out
   have h11 := (hd.out 11 (mem_of (by kernel_rfl)) (by decide) (by kernel_rfl)).trans hx11.out
   go_wp2_with fail
   refine Onward.mk (hK ?val1_12 _ _ (fun h => by cases h) ?eqA (Spares.refl _) (fun iv' _ _ => ?ja))
   case eqA => first | rfl | (simp only [puts, h10, h11]; rfl)
   case ja => exact hx12.out.symm
  ·
   have h12 := (hd.out 12 (mem_of (by kernel_rfl)) (by decide) (by kernel_rfl)).trans hx12.out
   go_wp2_with fail
   exact Onward.mk (hK (.int .i64 x.2) _ _ (fun h => by cases h) (by first | rfl | (simp only [puts, h12])) (Spares.refl _) (fun iv' _ _ => rfl))
  ·
   go_wp2_with fail
   refine Onward.mk (hK ?val1_14 _ _ (fun h => by cases h) ?eqA (Spares.refl _) (fun iv' _ _ => ?ja))
   case eqA => first | rfl | (simp only [puts]; rfl)
   case ja => exact hx14.out.symm
  ·
   have h9 := (hd.out 9 (mem_of (by kernel_rfl)) (by decide) (by kernel_rfl)).trans hx9.out
   have h13 : vs 13 = .int .i64 x.2 := hd.out 13 (mem_of (by kernel_rfl)) (by decide) (by kernel_rfl)
   have h14 := (hd.out 14 (mem_of (by kernel_rfl)) (by decide) (by kernel_rfl)).trans hx14.out
   go_wp2_with fail
   refine (l02Has_b HX2.out (Hh'.out.below hwb) Hok'.out hs4 hmat).mono ?_
   rintro e w2 ⟨rfl, hb⟩
   go_wp2_with fail
   exact Onward.mk (hK (.bool X2) _ _ (fun h => by cases h) (by first | rfl | (simp only [puts, h9, h13, h14])) (Spares.of_below hb) (fun iv' _ _ => rfl))
  ·
   have h1 := (hd.out 1 (mem_of (by kernel_rfl)) (by decide) (by kernel_rfl)).trans hx1.out
   have h8 : vs 8 = .bool X1 := hd.out 8 (mem_of (by kernel_rfl)) (by decide) (by kernel_rfl)
   have h15 : vs 15 = .bool X2 := hd.out 15 (mem_of (by kernel_rfl)) (by decide) (by kernel_rfl)
   go_wp2_with fail
   refine (l02Mixed_b HZ.out).mono ?_
   rintro e w2 ⟨rfl, hb⟩
   go_wp2_with fail
   exact Onward.mk (hK (.bool Z) _ _ (fun h => by cases h) (by first | rfl | (simp only [puts, h1, h8, h15])) (Spares.of_below hb) (fun iv' _ _ => rfl))
  ·
   have h16 : vs 16 = .bool Z := hd.out 16 (mem_of (by kernel_rfl)) (by decide) (by kernel_rfl)
   go_wp2_with fail
   exact Onward.mk (hK (.slice (some ⟨w1.heap.size, 0, none⟩) 1 1) _ _ (fun h => by cases h) (by first | rfl | (simp only [puts, h16])) (Spares.of_below (Below.alloc (Below.refl _ _) (Nat.le_refl _) _)) (fun iv' _ hi => by
    show Value.slice (some ⟨w1.heap.size, 0, none⟩) 1 1 = .slice (some ⟨(iv' 17).1, 0, none⟩) 1 1 ∧ (iv' 17).2 = (iv' 17).1 + 1 ∧ Blk _ (iv' 17).1 4 [.bool Z]
    rw [hi]
    exact ⟨rfl, by simp, Blk.new1 _ _ _⟩))
  ·
   have h0 : vs 0 = .slice a5 m c5 := hd.out 0 (mem_of (by kernel_rfl)) (by decide) (by kernel_rfl)
   obtain ⟨h17, q17, f17⟩ := hd.out 17 (mem_of (by kernel_rfl)) (by decide) (by kernel_rfl)
   have V01 := V0.keep (fun b _ hb => hS.out 0 b (by kernel_rfl) ⟨rfl, hb⟩)
   simp only [h0, h17]
   have f17' : Blk w1 (iv 17).1 4 [.bool Z] := by first | exact f17 | (rw [h17] at f17; exact f17)
   refine wpList_append_s w1 (by rfl) _ _ 77 (by rfl) 4 ((.bool false)) 1 1 Try.underlying77 rn_bl rfl (by decide) (S := (fun b => (B ≤ b ∧ b < wm.heap.size ∧ own b = 5))) (T := (fun _ => False)) _ (by rfl) V01 ⟨(iv 17).1, 0, none⟩ 1 1 [.bool Z] (by rfl) (news_blk f17') (rn_noneb) (fun _ _ _ h => h) (by simp) (by simp [Value.oneCell']) (by omega) (by omega) (by unfold maxLen; omega) ?_
   intro g cap w2 hap ht
   go_wp2_with fail
   exact Onward.mk (hK (.slice (some ⟨g, 0, none⟩) (m + 1) cap) _ _ (fun h => by cases h) (by first | rfl | (simp only [puts, h0, h17])) (ht.more (fun b h => Or.inl ⟨0, by decide, ⟨rfl, h⟩⟩)) (fun iv' ag hi => ⟨g, cap, rfl, hap.more (fun b _ h => by rcases h with h | h | h; exact foot_given 0 (by decide) ⟨rfl, h⟩; exact h.elim; exact foot_new hi h.1 h.2)⟩))
  ·
   obtain ⟨g18, cap18, h18, f18⟩ := hd.out 18 (mem_of (by kernel_rfl)) (by decide) (by kernel_rfl)
   go_wp2_with fail
   refine Onward.mk (hK ?val1_19 _ _ (fun h => by cases h) ?eqA (Spares.refl _) (fun iv' _ _ => ?ja))
   case eqA => first | rfl | (simp only [puts, h18]; rfl)
   case ja => show _ = vs 18; simp only [h18]; rfl
 case hQ =>
  intro iv vs wx hB hSp hd he hbd hsep
  have hzB := hB.size
  have h0 : vs 0 = .slice a5 m c5 := hd.out 0 (mem_of (by kernel_rfl)) (not_eaten (by kernel_rfl))
  have h1 := (hd.out 1 (mem_of (by kernel_rfl)) (not_eaten (by kernel_rfl))).trans hx1.out
  have h2 := (hd.out 2 (mem_of (by kernel_rfl)) (not_eaten (by kernel_rfl))).trans hx2.out
  have h3 := (hd.out 3 (mem_of (by kernel_rfl)) (not_eaten (by kernel_rfl))).trans hx3.out
  have h4 := (hd.out 4 (mem_of (by kernel_rfl)) (not_eaten (by kernel_rfl))).trans hx4.out
  have h5 := (hd.out 5 (mem_of (by kernel_rfl)) (not_eaten (by kernel_rfl))).trans hx5.out
  have h6 : vs 6 = .int .i64 x.1 := hd.out 6 (mem_of (by kernel_rfl)) (not_eaten (by kernel_rfl))
  have h7 := (hd.out 7 (mem_of (by kernel_rfl)) (not_eaten (by kernel_rfl))).trans hx7.out
  have h8 : vs 8 = .bool X1 := hd.out 8 (mem_of (by kernel_rfl)) (not_eaten (by kernel_rfl))
  have h9 := (hd.out 9 (mem_of (by kernel_rfl)) (not_eaten (by kernel_rfl))).trans hx9.out
  have h10 := (hd.out 10 (mem_of (by kernel_rfl)) (not_eaten (by kernel_rfl))).trans hx10.out
  have h11 := (hd.out 11 (mem_of (by kernel_rfl)) (not_eaten (by kernel_rfl))).trans hx11.out
  have h12 := (hd.out 12 (mem_of (by kernel_rfl)) (not_eaten (by kernel_rfl))).trans hx12.out
  have h13 : vs 13 = .int .i64 x.2 := hd.out 13 (mem_of (by kernel_rfl)) (not_eaten (by kernel_rfl))
  have h14 := (hd.out 14 (mem_of (by kernel_rfl)) (not_eaten (by kernel_rfl))).trans hx14.out
  have h15 : vs 15 = .bool X2 := hd.out 15 (mem_of (by kernel_rfl)) (not_eaten (by kernel_rfl))
  have h16 : vs 16 = .bool Z := hd.out 16 (mem_of (by kernel_rfl)) (not_eaten (by kernel_rfl))
  obtain ⟨h17, q17, f17⟩ := hd.out 17 (mem_of (by kernel_rfl)) (not_eaten (by kernel_rfl))
  obtain ⟨g18, cap18, h18, f18⟩ := hd.out 18 (mem_of (by kernel_rfl)) (not_eaten (by kernel_rfl))
  have h19 : vs 19 = vs 18 := hd.out 19 (mem_of (by kernel_rfl)) (not_eaten (by kernel_rfl))
  have lo18 : ∀ b, foot [] [(18, 0)] (fun m b => (m = 0 ∧ (B ≤ b ∧ b < wm.heap.size ∧ own b = 5))) 20 18 iv b → (B) ≤ b := by
   rintro b ⟨j, hj, hh⟩
   have hj' := of_decide_eq_true (List.all_eq_true.1 (show ((chainOf [] 20 18).all fun j => decide (j ∈ [18])) = true from by kernel_rfl) j hj)
   simp only [List.mem_cons, List.not_mem_nil, or_false] at hj'
   rcases hj' with rfl
   ·
    have q := (hbd.out 18 (mem_of (by kernel_rfl))).1
    rcases hh with hh | ⟨m, hm, hg⟩
    ·
     omega
    ·
     simp at hm
     subst hm
     simp at hg
     have q' := V0f b hg
     omega
  simp only [putFrom, puts]
  have so18 : ∀ b, (foot [] [(18, 0)] (fun m b => (m = 0 ∧ (B ≤ b ∧ b < wm.heap.size ∧ own b = 5))) 20 18 iv) b → (B ≤ b ∧ b < wm.heap.size ∧ own b = 5) ∨ (wm).heap.size ≤ b := by
   rintro b ⟨j, hj, hh⟩
   have hj' := of_decide_eq_true (List.all_eq_true.1 (show ((chainOf [] 20 18).all fun j => decide (j ∈ [18])) = true from by kernel_rfl) j hj)
   simp only [List.mem_cons, List.not_mem_nil, or_false] at hj'
   rcases hj' with rfl
   ·
    have q := (hbd.out 18 (mem_of (by kernel_rfl))).1
    rcases hh with hh | ⟨m, hm, hg⟩
    ·
     exact Or.inr (by omega)
    ·
     simp at hm; subst hm; simp at hg; exact Or.inl hg
  simp only [h19, h18]
  clear hd he hbd hsep h0 h1 h2 h3 h4 h5 h6 h7 h8 h9 h10 h11 h12 h13 h14 h15 h16 h17 h18 h19 q17 f17
  refine HK.out g18 cap18 wx _ _ _ _ _ _ _ _ _ _ _ _ _ _ _ _ _ _ _ ⟨?_, HW.out.2.trans hB⟩
  exact Bun.turn_app Hown.out hSp.out.size (by omega) 5 (fun bb hb hn => hSp.out.block bb hb (fun ⟨mm, hmm⟩ => hn hmm.2)) f18 (fun bb _ hS => so18 bb hS)
end Go.Proofs.Ytfhlddbngjlhbaa
