/-
  Parts of a proof, joined: MixR. No condition.
-/
import Derived.Test.YtfhlddbngjlhbaaPk20
namespace Go.Proofs.Ytfhlddbngjlhbaa
set_option linter.unusedVariables false
set_option linter.unusedSimpArgs false
open Go.ChangeShapes Go.WideShapes Go.ChangeAt Go.RowKit Go.Deep Go.ChangeMaps Go.MapKept Go.WideMaps
noncomputable def mixR12 : Code := (Try.f30.body.bind (regOf 12)).getD .skip
set_option maxRecDepth 1000000 in
set_option maxHeartbeats 16000000 in
theorem mix12_tt {t a mix : Int} {ac bc : List (List Bool)} {nx ny : List (List (List Int))} {u u' : Option Addr} {ub1 uo1 ub2 uo2 c c' d d' : Nat} {w w3 wm : World} {am aA aX a5 : Option Addr} {ri cm cA cX c5 m g gA : Nat} {Lm : List (Int × Int)} {MA : List (List Bool)} {MX : List (List (List Int))} {ds : List D} {it : Item} {s1 s2 : Nat}
  (hB3 : Below w.heap.size w w3) (X : Blk w3 w.heap.size 31 [.int .i64 t, .int .i64 a, .slice (some ⟨ub1, uo1, none⟩) ac.length c, .slice u nx.length d]) (Y : Blk w3 (w.heap.size + 1) 31 [.int .i64 t, .int .i64 a, .slice (some ⟨ub2, uo2, none⟩) bc.length c', .slice u' ny.length d'])
  (hr : Rd w (bbD ac) (.slice (some ⟨ub1, uo1, none⟩) ac.length c)) (hr' : Rd w (bbD bc) (.slice (some ⟨ub2, uo2, none⟩) bc.length c')) (hok : AutOk t a ac nx) (hok' : AutOk t a bc ny) (hmat : (m : Int) < atomsN t) (hm8 : m < 8) (hx2 : (s1 : Int) < ac.length) (hx4 : (s2 : Int) < bc.length)
  (hW : MiW w3.heap.size g gA t a w3 wm Lm ri MA MX (.slice am Lm.length cm) (.slice aA ri cA) (.slice aX ri cX) [.app 4 1 m ds (.slice a5 m c5), it])
  {K : Act → World → Prop} {Q' : Exit → Act → World → Prop} {y0 y1 y5 y6 y7 y8 y9 y10 y11 y15 y17 y18 y19 y20 y21 y22 y23 y24 y25 y26 y27 y28 y29 y30 y31 y32 y33 y34 y35 y36 y37 y38 y39 y40 y41 y42 y43 y44 y45 y46 y47 y48 y49 y50 y51 y52 y53 y54 y55 y56 y57 y58 y59 y60 y61 y62 y63 y64 y65 y66 y67 y68 y69 y70 y71 y72 y73 y74 y75 y76 y77 y78 y79 y80 y81 y82 y83 y84 y85 y86 y87 y88 y89 y90 y91 y92 y93 y94 y95 y96 y97 y98 y99 y100 y101 y102 y103 y104 y105 y106 y107 y108 y109 y110 y111 y112 y113 y114 y115 y116 y117 y118 y119 y120 y121 y122 y123 y124 y125 y126 y127 y128 y129 y130 y131 y132 y133 y134 y135 y136 y137 y138 y139 y140 y141 y142 y143 y144 y145 y146 : Value}
  (hK : ∀ (g8 cap8 : Nat) (wx : World) (u55 u56 u57 u58 u59 u60 u61 u62 u63 u64 u65 u66 u67 u68 u69 u70 u71 u72 u73 u74 u75 u76 u77 u78 u79 u80 u81 u82 u83 : Value), MiW w3.heap.size g gA t a w3 wx Lm ri MA MX (.slice am Lm.length cm) (.slice aA ri cA) (.slice aX ri cX) [.app 4 1 (m + 1) (ds ++ [.bool (mixB mix (hasN ac (s1 : Int) m) (hasN bc (s2 : Int) m))]) (.slice (some ⟨g8, 0, none⟩) (m + 1) cap8), it] → K ⟨#[y0, y1, .int .i64 mix, .pointer (some ⟨w.heap.size, 0, none⟩), .pointer (some ⟨w.heap.size + 1, 0, none⟩), y5, y6, y7, y8, y9, y10, y11, .int .i64 (s1 : Int), .int .i64 (s2 : Int), .slice (some ⟨g8, 0, none⟩) (m + 1) cap8, y15, .int .i64 m, y17, y18, y19, y20, y21, y22, y23, y24, y25, y26, y27, y28, y29, y30, y31, y32, y33, y34, y35, y36, y37, y38, y39, y40, y41, y42, y43, y44, y45, y46, y47, y48, y49, y50, y51, y52, y53, y54, u55, u56, u57, u58, u59, u60, u61, u62, u63, u64, u65, u66, u67, u68, u69, u70, u71, u72, u73, u74, u75, u76, u77, u78, u79, u80, u81, u82, u83, y84, y85, y86, y87, y88, y89, y90, y91, y92, y93, y94, y95, y96, y97, y98, y99, y100, y101, y102, y103, y104, y105, y106, y107, y108, y109, y110, y111, y112, y113, y114, y115, y116, y117, y118, y119, y120, y121, y122, y123, y124, y125, y126, y127, y128, y129, y130, y131, y132, y133, y134, y135, y136, y137, y138, y139, y140, y141, y142, y143, y144, y145, y146], []⟩ wx) :
  Code.wp Try.prog mixR12 (Exit.then K Q') ⟨#[y0, y1, .int .i64 mix, .pointer (some ⟨w.heap.size, 0, none⟩), .pointer (some ⟨w.heap.size + 1, 0, none⟩), y5, y6, y7, y8, y9, y10, y11, .int .i64 (s1 : Int), .int .i64 (s2 : Int), .slice a5 m c5, y15, .int .i64 m, y17, y18, y19, y20, y21, y22, y23, y24, y25, y26, y27, y28, y29, y30, y31, y32, y33, y34, y35, y36, y37, y38, y39, y40, y41, y42, y43, y44, y45, y46, y47, y48, y49, y50, y51, y52, y53, y54, y55, y56, y57, y58, y59, y60, y61, y62, y63, y64, y65, y66, y67, y68, y69, y70, y71, y72, y73, y74, y75, y76, y77, y78, y79, y80, y81, y82, y83, y84, y85, y86, y87, y88, y89, y90, y91, y92, y93, y94, y95, y96, y97, y98, y99, y100, y101, y102, y103, y104, y105, y106, y107, y108, y109, y110, y111, y112, y113, y114, y115, y116, y117, y118, y119, y120, y121, y122, y123, y124, y125, y126, y127, y128, y129, y130, y131, y132, y133, y134, y135, y136, y137, y138, y139, y140, y141, y142, y143, y144, y145, y146], []⟩ wm := by
 obtain ⟨ar1, z1, har1, hz1, e1⟩ := hok.acc (s := s1) (x := m) (by omega) hmat
 obtain ⟨hcx1, hcy1⟩ := nest_bd hr
 unfold maxLen at hcy1
 obtain ⟨hul1, sn1, cn1, b01, rb1⟩ := nest_sl (g := D.bool) hr har1
 have hml1 := (List.getElem?_eq_some_iff.1 hz1).1
 obtain ⟨vb1, vo1, rfl⟩ := nest_some (f := D.bool) rb1 (by omega)
 obtain ⟨hcp1, hcq1⟩ := nest_bd rb1
 unfold maxLen at hcq1
 obtain ⟨hvl1, q01⟩ := bool_in rb1 hz1
 have hsp1 := Int.natCast_nonneg s1
 have i11 : (s1 : Int) < ((ac).length : Int) := by omega
 have i21 : (m : Int) < (ar1.length : Int) := by omega
 have e01 : hasN ac (s1 : Int) m = z1 := by rw [hasN_pos, e1]
 rw [e01] at hK
 clear har1 hz1 rb1 e1 e01 hr
 obtain ⟨ar2, z2, har2, hz2, e2⟩ := hok'.acc (s := s2) (x := m) (by omega) hmat
 obtain ⟨hcx2, hcy2⟩ := nest_bd hr'
 unfold maxLen at hcy2
 obtain ⟨hul2, sn2, cn2, b02, rb2⟩ := nest_sl (g := D.bool) hr' har2
 have hml2 := (List.getElem?_eq_some_iff.1 hz2).1
 obtain ⟨vb2, vo2, rfl⟩ := nest_some (f := D.bool) rb2 (by omega)
 obtain ⟨hcp2, hcq2⟩ := nest_bd rb2
 unfold maxLen at hcq2
 obtain ⟨hvl2, q02⟩ := bool_in rb2 hz2
 have hsp2 := Int.natCast_nonneg s2
 have i12 : (s2 : Int) < ((bc).length : Int) := by omega
 have i22 : (m : Int) < (ar2.length : Int) := by omega
 have e02 : hasN bc (s2 : Int) m = z2 := by rw [hasN_pos, e2]
 rw [e02] at hK
 clear har2 hz2 rb2 e2 e02 hr'
 obtain ⟨Z, hZ⟩ : ∃ v, mixB mix z1 z2 = v := ⟨_, rfl⟩
 rw [hZ] at hK
 have HK := Lib.hid hK
 have HZ := Lib.hid hZ
 have HW := Lib.hid hW
 have HXb := Lib.hid X
 have HYb := Lib.hid Y
 have hzm := hW.2.size
 obtain ⟨own, hown⟩ := hW.1
 have V0 := hown 5 _ rfl
 have V0f := fun (b : Nat) (h : w3.heap.size ≤ b ∧ b < wm.heap.size ∧ own b = 5) => And.intro h.1 h.2.1
 have Hown := Lib.hid hown
 have hm0 := Int.natCast_nonneg m
 obtain ⟨_, _, e5, q1, q2⟩ := hW.1.shape 5 rfl
 simp only [Value.slice.injEq, true_and] at e5
 obtain ⟨rfl, rfl⟩ := e5
 unfold maxLen at q2
 clear hown hK hZ hW X Y hok hok' hmat
 conv => arg 2; whnf
 go_wp2_with fail
 obtain ⟨x1, hx1⟩ := mkval ?a1_1
 obtain ⟨x2, hx2⟩ := mkval ?a1_2
 obtain ⟨x4, hx4⟩ := mkval ?a1_4
 obtain ⟨x5, hx5⟩ := mkval ?a1_5
 obtain ⟨x6, hx6⟩ := mkval ?a1_6
 obtain ⟨x7, hx7⟩ := mkval ?a1_7
 obtain ⟨x8, hx8⟩ := mkval ?a1_8
 obtain ⟨x9, hx9⟩ := mkval ?a1_9
 obtain ⟨x10, hx10⟩ := mkval ?a1_10
 obtain ⟨x11, hx11⟩ := mkval ?a1_11
 obtain ⟨x12, hx12⟩ := mkval ?a1_12
 obtain ⟨x13, hx13⟩ := mkval ?a1_13
 obtain ⟨x14, hx14⟩ := mkval ?a1_14
 obtain ⟨x16, hx16⟩ := mkval ?a1_16
 obtain ⟨x17, hx17⟩ := mkval ?a1_17
 obtain ⟨x18, hx18⟩ := mkval ?a1_18
 obtain ⟨x19, hx19⟩ := mkval ?a1_19
 obtain ⟨x20, hx20⟩ := mkval ?a1_20
 obtain ⟨x21, hx21⟩ := mkval ?a1_21
 obtain ⟨x22, hx22⟩ := mkval ?a1_22
 obtain ⟨x23, hx23⟩ := mkval ?a1_23
 obtain ⟨x24, hx24⟩ := mkval ?a1_24
 obtain ⟨x25, hx25⟩ := mkval ?a1_25
 have hGb : ∀ m b, (fun m b => (m = 0 ∧ (w3.heap.size ≤ b ∧ b < wm.heap.size ∧ own b = 5))) m b → (w3.heap.size) ≤ b ∧ b < (wm).heap.size := by
  intro m b hg
  rcases hg with ⟨rfl, hg⟩
  ·
   have q := V0f b hg
   omega
 have hGd : ∀ m m' b, (fun m b => (m = 0 ∧ (w3.heap.size ≤ b ∧ b < wm.heap.size ∧ own b = 5))) m b → (fun m b => (m = 0 ∧ (w3.heap.size ≤ b ∧ b < wm.heap.size ∧ own b = 5))) m' b → m = m' := by
  intro m m' b h h'
  rcases h with ⟨rfl, h⟩ <;> rcases h' with ⟨rfl, h'⟩ <;> first
   | rfl
 refine region_rs [] [(28, 0)] (fun m b => (m = 0 ∧ (w3.heap.size ≤ b ∧ b < wm.heap.size ∧ own b = 5))) (w3.heap.size) (fun i iv vs wx => match i with
  | 0 => vs 0 = .slice a5 m c5
  | 1 => vs 1 = x1
  | 2 => vs 2 = x2
  | 3 => vs 3 = vs 2
  | 4 => vs 4 = x4
  | 5 => vs 5 = x5
  | 6 => vs 6 = x6
  | 7 => vs 7 = x7
  | 8 => vs 8 = x8
  | 9 => vs 9 = x9
  | 10 => vs 10 = x10
  | 11 => vs 11 = x11
  | 12 => vs 12 = x12
  | 13 => vs 13 = x13
  | 14 => vs 14 = x14
  | 15 => vs 15 = vs 14
  | 16 => vs 16 = x16
  | 17 => vs 17 = x17
  | 18 => vs 18 = x18
  | 19 => vs 19 = x19
  | 20 => vs 20 = x20
  | 21 => vs 21 = x21
  | 22 => vs 22 = x22
  | 23 => vs 23 = x23
  | 24 => vs 24 = x24
  | 25 => vs 25 = x25
  | 26 => vs 26 = .bool Z
  | 27 => vs 27 = .slice (some ⟨(iv 27).1, 0, none⟩) 1 1 ∧ (iv 27).2 = (iv 27).1 + 1 ∧ Blk wx (iv 27).1 4 [.bool Z]
  | 28 => ∃ g cap, vs 28 = .slice (some ⟨g, 0, none⟩) (m + 1) cap ∧ AppS (foot [] [(28, 0)] (fun m b => (m = 0 ∧ (w3.heap.size ≤ b ∧ b < wm.heap.size ∧ own b = 5))) 30 28 iv) wx 4 1 (m + 1) (ds ++ [.bool Z]) (.slice (some ⟨g, 0, none⟩) (m + 1) cap)
  | 29 => vs 29 = vs 28
  | _ => True) (fun i iv vs => match i with
  | 0 => vs 0 = .slice a5 m c5
  | 1 => vs 1 = x1
  | 2 => vs 2 = x2
  | 3 => vs 3 = vs 2
  | 4 => vs 4 = x4
  | 5 => vs 5 = x5
  | 6 => vs 6 = x6
  | 7 => vs 7 = x7
  | 8 => vs 8 = x8
  | 9 => vs 9 = x9
  | 10 => vs 10 = x10
  | 11 => vs 11 = x11
  | 12 => vs 12 = x12
  | 13 => vs 13 = x13
  | 14 => vs 14 = x14
  | 15 => vs 15 = vs 14
  | 16 => vs 16 = x16
  | 17 => vs 17 = x17
  | 18 => vs 18 = x18
  | 19 => vs 19 = x19
  | 20 => vs 20 = x20
  | 21 => vs 21 = x21
  | 22 => vs 22 = x22
  | 23 => vs 23 = x23
  | 24 => vs 24 = x24
  | 25 => vs 25 = x25
  | 26 => vs 26 = .bool Z
  | 27 => vs 27 = .slice (some ⟨(iv 27).1, 0, none⟩) 1 1 ∧ (iv 27).2 = (iv 27).1 + 1
  | 28 => ∃ g cap, vs 28 = .slice (some ⟨g, 0, none⟩) (m + 1) cap
  | 29 => vs 29 = vs 28
  | _ => True) (by kernel_rfl) (by kernel_rfl) [0, 1, 2, 3, 4, 5, 6, 7, 8, 9, 10, 11, 12, 13, 14, 15, 16, 17, 18, 19, 20, 21, 22, 23, 24, 25, 26, 27, 28, 29] (by kernel_rfl) ?hbase ?hGb ?hG ?hJ ?hE ?hEE ?hstep ?hQ
 case hbase => first | exact Nat.le_refl _ | omega | (simp; omega)
 case hGb =>
  exact hGb
 case hG =>
  exact hGd
 case hJ =>
  intro i hi iv iv' vs vs' wx wx' ha hv hz hk hj
  simp only [List.mem_cons, List.not_mem_nil, or_false] at hi
  rcases hi with rfl | rfl | rfl | rfl | rfl | rfl | rfl | rfl | rfl | rfl | rfl | rfl | rfl | rfl | rfl | rfl | rfl | rfl | rfl | rfl | rfl | rfl | rfl | rfl | rfl | rfl | rfl | rfl | rfl | rfl
  ·
   exact (hv.out 0 (mem_of (by kernel_rfl))).symm.trans hj
  ·
   exact (hv.out 1 (mem_of (by kernel_rfl))).symm.trans hj
  ·
   exact (hv.out 2 (mem_of (by kernel_rfl))).symm.trans hj
  ·
   have e2 := hv.out 2 (mem_of (by kernel_rfl))
   have e3 := hv.out 3 (mem_of (by kernel_rfl))
   have hj' : vs 3 = vs 2 := hj
   show vs' 3 = vs' 2
   rw [← e2, ← e3]
   exact hj'
  ·
   exact (hv.out 4 (mem_of (by kernel_rfl))).symm.trans hj
  ·
   exact (hv.out 5 (mem_of (by kernel_rfl))).symm.trans hj
  ·
   exact (hv.out 6 (mem_of (by kernel_rfl))).symm.trans hj
  ·
   exact (hv.out 7 (mem_of (by kernel_rfl))).symm.trans hj
  ·
   exact (hv.out 8 (mem_of (by kernel_rfl))).symm.trans hj
  ·
   exact (hv.out 9 (mem_of (by kernel_rfl))).symm.trans hj
  ·
   exact (hv.out 10 (mem_of (by kernel_rfl))).symm.trans hj
  ·
   exact (hv.out 11 (mem_of (by kernel_rfl))).symm.trans hj
  ·
   exact (hv.out 12 (mem_of (by kernel_rfl))).symm.trans hj
  ·
   exact (hv.out 13 (mem_of (by kernel_rfl))).symm.trans hj
  ·
   exact (hv.out 14 (mem_of (by kernel_rfl))).symm.trans hj
  ·
   have e14 := hv.out 14 (mem_of (by kernel_rfl))
   have e15 := hv.out 15 (mem_of (by kernel_rfl))
   have hj' : vs 15 = vs 14 := hj
   show vs' 15 = vs' 14
   rw [← e14, ← e15]
   exact hj'
  ·
   exact (hv.out 16 (mem_of (by kernel_rfl))).symm.trans hj
  ·
   exact (hv.out 17 (mem_of (by kernel_rfl))).symm.trans hj
  ·
   exact (hv.out 18 (mem_of (by kernel_rfl))).symm.trans hj
  ·
   exact (hv.out 19 (mem_of (by kernel_rfl))).symm.trans hj
  ·
   exact (hv.out 20 (mem_of (by kernel_rfl))).symm.trans hj
  ·
   exact (hv.out 21 (mem_of (by kernel_rfl))).symm.trans hj
  ·
   exact (hv.out 22 (mem_of (by kernel_rfl))).symm.trans hj
  ·
   exact (hv.out 23 (mem_of (by kernel_rfl))).symm.trans hj
  ·
   exact (hv.out 24 (mem_of (by kernel_rfl))).symm.trans hj
  ·
   exact (hv.out 25 (mem_of (by kernel_rfl))).symm.trans hj
  ·
   exact (hv.out 26 (mem_of (by kernel_rfl))).symm.trans hj
  ·
   have e27 := hv.out 27 (mem_of (by kernel_rfl))
   have g27 := ha.out 27 (mem_of (by kernel_rfl))
   obtain ⟨q1, q3, q2⟩ := hj
   show vs' 27 = .slice (some ⟨(iv' 27).1, 0, none⟩) 1 1 ∧ (iv' 27).2 = (iv' 27).1 + 1 ∧ Blk wx' (iv' 27).1 4 [.bool Z]
   rw [← e27, ← g27]
   exact ⟨q1, q3, q2.keep (hk.out _ q2.lt (foot_own (Nat.le_refl _) (by omega)))⟩
  ·
   have e28 := hv.out 28 (mem_of (by kernel_rfl))
   obtain ⟨g, cap, q1, q2⟩ := hj
   exact ⟨g, cap, e28 ▸ q1, (q2.keep (fun b hb h1 => hk.out b hb h1)).more (fun b hb h1 => foot_agree (l := ancs _ 30 28) (by exact of_decide_eq_true (by kernel_rfl)) ha.out h1)⟩
  ·
   have e28 := hv.out 28 (mem_of (by kernel_rfl))
   have e29 := hv.out 29 (mem_of (by kernel_rfl))
   have hj' : vs 29 = vs 28 := hj
   show vs' 29 = vs' 28
   rw [← e28, ← e29]
   exact hj'
 case hE =>
  intro i hi iv vs wx hj
  simp only [List.mem_cons, List.not_mem_nil, or_false] at hi
  rcases hi with rfl | rfl | rfl | rfl | rfl | rfl | rfl | rfl | rfl | rfl | rfl | rfl | rfl | rfl | rfl | rfl | rfl | rfl | rfl | rfl | rfl | rfl | rfl | rfl | rfl | rfl | rfl | rfl | rfl | rfl
  ·
   exact hj
  ·
   exact hj
  ·
   exact hj
  ·
   exact hj
  ·
   exact hj
  ·
   exact hj
  ·
   exact hj
  ·
   exact hj
  ·
   exact hj
  ·
   exact hj
  ·
   exact hj
  ·
   exact hj
  ·
   exact hj
  ·
   exact hj
  ·
   exact hj
  ·
   exact hj
  ·
   exact hj
  ·
   exact hj
  ·
   exact hj
  ·
   exact hj
  ·
   exact hj
  ·
   exact hj
  ·
   exact hj
  ·
   exact hj
  ·
   exact hj
  ·
   exact hj
  ·
   exact hj
  ·
   exact ⟨hj.1, hj.2.1⟩
  ·
   obtain ⟨g, cap, q1, -⟩ := hj
   exact ⟨g, cap, q1⟩
  ·
   exact hj
 case hEE =>
  intro i hi iv iv' vs vs' ha hv hj
  simp only [List.mem_cons, List.not_mem_nil, or_false] at hi
  rcases hi with rfl | rfl | rfl | rfl | rfl | rfl | rfl | rfl | rfl | rfl | rfl | rfl | rfl | rfl | rfl | rfl | rfl | rfl | rfl | rfl | rfl | rfl | rfl | rfl | rfl | rfl | rfl | rfl | rfl | rfl
  ·
   exact (hv.out 0 (mem_of (by kernel_rfl))).symm.trans hj
  ·
   exact (hv.out 1 (mem_of (by kernel_rfl))).symm.trans hj
  ·
   exact (hv.out 2 (mem_of (by kernel_rfl))).symm.trans hj
  ·
   have e2 := hv.out 2 (mem_of (by kernel_rfl))
   have e3 := hv.out 3 (mem_of (by kernel_rfl))
   have hj' : vs 3 = vs 2 := hj
   show vs' 3 = vs' 2
   rw [← e2, ← e3]
   exact hj'
  ·
   exact (hv.out 4 (mem_of (by kernel_rfl))).symm.trans hj
  ·
   exact (hv.out 5 (mem_of (by kernel_rfl))).symm.trans hj
  ·
   exact (hv.out 6 (mem_of (by kernel_rfl))).symm.trans hj
  ·
   exact (hv.out 7 (mem_of (by kernel_rfl))).symm.trans hj
  ·
   exact (hv.out 8 (mem_of (by kernel_rfl))).symm.trans hj
  ·
   exact (hv.out 9 (mem_of (by kernel_rfl))).symm.trans hj
  ·
   exact (hv.out 10 (mem_of (by kernel_rfl))).symm.trans hj
  ·
   exact (hv.out 11 (mem_of (by kernel_rfl))).symm.trans hj
  ·
   exact (hv.out 12 (mem_of (by kernel_rfl))).symm.trans hj
  ·
   exact (hv.out 13 (mem_of (by kernel_rfl))).symm.trans hj
  ·
   exact (hv.out 14 (mem_of (by kernel_rfl))).symm.trans hj
  ·
   have e14 := hv.out 14 (mem_of (by kernel_rfl))
   have e15 := hv.out 15 (mem_of (by kernel_rfl))
   have hj' : vs 15 = vs 14 := hj
   show vs' 15 = vs' 14
   rw [← e14, ← e15]
   exact hj'
  ·
   exact (hv.out 16 (mem_of (by kernel_rfl))).symm.trans hj
  ·
   exact (hv.out 17 (mem_of (by kernel_rfl))).symm.trans hj
  ·
   exact (hv.out 18 (mem_of (by kernel_rfl))).symm.trans hj
  ·
   exact (hv.out 19 (mem_of (by kernel_rfl))).symm.trans hj
  ·
   exact (hv.out 20 (mem_of (by kernel_rfl))).symm.trans hj
  ·
   exact (hv.out 21 (mem_of (by kernel_rfl))).symm.trans hj
  ·
   exact (hv.out 22 (mem_of (by kernel_rfl))).symm.trans hj
  ·
   exact (hv.out 23 (mem_of (by kernel_rfl))).symm.trans hj
  ·
   exact (hv.out 24 (mem_of (by kernel_rfl))).symm.trans hj
  ·
   exact (hv.out 25 (mem_of (by kernel_rfl))).symm.trans hj
  ·
   exact (hv.out 26 (mem_of (by kernel_rfl))).symm.trans hj
  ·
   have e27 := hv.out 27 (mem_of (by kernel_rfl))
   have g27 := ha.out 27 (mem_of (by kernel_rfl))
   have hj' : vs 27 = .slice (some ⟨(iv 27).1, 0, none⟩) 1 1 ∧ (iv 27).2 = (iv 27).1 + 1 := hj
   show vs' 27 = .slice (some ⟨(iv' 27).1, 0, none⟩) 1 1 ∧ (iv' 27).2 = (iv' 27).1 + 1
   rw [← e27, ← g27]
   exact hj'
  ·
   have e28 := hv.out 28 (mem_of (by kernel_rfl))
   have hj' : ∃ g cap, vs 28 = .slice (some ⟨g, 0, none⟩) (m + 1) cap := hj
   show ∃ g cap, vs' 28 = .slice (some ⟨g, 0, none⟩) (m + 1) cap
   rw [← e28]
   exact hj'
  ·
   have e28 := hv.out 28 (mem_of (by kernel_rfl))
   have e29 := hv.out 29 (mem_of (by kernel_rfl))
   have hj' : vs 29 = vs 28 := hj
   show vs' 29 = vs' 28
   rw [← e28, ← e29]
   exact hj'
 case hstep =>
  intro i hi opr ho iv vs w1 hB hS hSo hd he hbd hsep hun K hK
  simp only [List.mem_cons, List.not_mem_nil, or_false] at hi
  have hzB := hB.size
  have HGb := Lib.hid hGb
  clear hGb hGd
  have hbw := HW.out.2.trans hB
  have hwb : Below w.heap.size w w1 := hB3.trans (hbw.mono hB3.size)
  obtain ⟨xa0, xa1, xa2, xa3, -, -, -, -, ltA⟩ := (HXb.out.below hbw).all4
  obtain ⟨ya0, ya1, ya2, ya3, -, -, -, -, ltB⟩ := (HYb.out.below hbw).all4
  have k11 := (hwb.cell (p := ⟨ub1, uo1 + s1, none⟩) hul1).trans b01
  have k12 := (hwb.cell (p := ⟨vb1, vo1 + m, none⟩) hvl1).trans q01
  have k21 := (hwb.cell (p := ⟨ub2, uo2 + s2, none⟩) hul2).trans b02
  have k22 := (hwb.cell (p := ⟨vb2, vo2 + m, none⟩) hvl2).trans q02
  generalize hA : putFrom _ 0 vs _ = A at hK ⊢
  simp only [putFrom, puts] at hA
  rcases hi with rfl | rfl | rfl | rfl | rfl | rfl | rfl | rfl | rfl | rfl | rfl | rfl | rfl | rfl | rfl | rfl | rfl | rfl | rfl | rfl | rfl | rfl | rfl | rfl | rfl | rfl | rfl | rfl | rfl | rfl
  all_goals
   simp at ho
   subst ho
   subst hA
  ·
   have un29 : vs 29 = .slice a5 m c5 := hun.out 29 (mem_of (by kernel_rfl))
   go_wp2_with fail
   exact Onward.mk (hK (.slice a5 m c5) _ _ (fun h => by cases h) (by first | rfl | (simp only [puts, un29])) (Spares.refl _) (fun iv' _ _ => rfl))
  ·
   go_wp2_with fail
   refine Onward.mk (hK ?val1_1 _ _ (fun h => by cases h) ?eqA (Spares.refl _) (fun iv' _ _ => ?ja))
   case eqA => first | rfl | (simp only [puts]; rfl)
   case ja => exact hx1.out.symm
  ·
   have h1 := (hd.out 1 (mem_of (by kernel_rfl)) (by decide) (by kernel_rfl)).trans hx1.out
   go_wp2_with fail
   refine Onward.mk (hK ?val1_2 _ _ (fun h => by cases h) ?eqA (Spares.refl _) (fun iv' _ _ => ?ja))
   case eqA => first | rfl | (simp only [puts, h1]; rfl)
   case ja => exact hx2.out.symm
  ·
   have h2 := (hd.out 2 (mem_of (by kernel_rfl)) (by decide) (by kernel_rfl)).trans hx2.out
   go_wp2_with fail
   refine Onward.mk (hK ?val1_3 _ _ (fun h => by cases h) ?eqA (Spares.refl _) (fun iv' _ _ => ?ja))
   case eqA => first | rfl | (simp only [puts, h2]; rfl)
   case ja => show _ = vs 2; simp only [h2]; rfl
  ·
   have h3 : vs 3 = vs 2 := hd.out 3 (mem_of (by kernel_rfl)) (by decide) (by kernel_rfl)
   have h2 := (hd.out 2 (mem_of (by kernel_rfl)) (by decide) (by kernel_rfl)).trans hx2.out
   go_wp2_with fail
   refine Onward.mk (hK ?val1_4 _ _ (fun h => by cases h) ?eqA (Spares.refl _) (fun iv' _ _ => ?ja))
   case eqA => first | rfl | (simp only [puts, h3, h2]; rfl)
   case ja => exact hx4.out.symm
  ·
   have h4 := (hd.out 4 (mem_of (by kernel_rfl)) (by decide) (by kernel_rfl)).trans hx4.out
   have h3 : vs 3 = vs 2 := hd.out 3 (mem_of (by kernel_rfl)) (by decide) (by kernel_rfl)
   have h2 := (hd.out 2 (mem_of (by kernel_rfl)) (by decide) (by kernel_rfl)).trans hx2.out
   go_wp2_with fail
   refine Onward.mk (hK ?val1_5 _ _ (fun h => by cases h) ?eqA (Spares.refl _) (fun iv' _ _ => ?ja))
   case eqA => first | rfl | (simp only [puts, h4, h3, h2]; rfl)
   case ja => exact hx5.out.symm
  ·
   have h3 : vs 3 = vs 2 := hd.out 3 (mem_of (by kernel_rfl)) (by decide) (by kernel_rfl)
   have h2 := (hd.out 2 (mem_of (by kernel_rfl)) (by decide) (by kernel_rfl)).trans hx2.out
   go_wp2_with fail
   refine Onward.mk (hK ?val1_6 _ _ (fun h => by cases h) ?eqA (Spares.refl _) (fun iv' _ _ => ?ja))
   case eqA => first | rfl | (simp only [puts, h3, h2]; rfl)
   case ja => exact hx6.out.symm
  ·
   have h5 := (hd.out 5 (mem_of (by kernel_rfl)) (by decide) (by kernel_rfl)).trans hx5.out
   have h6 := (hd.out 6 (mem_of (by kernel_rfl)) (by decide) (by kernel_rfl)).trans hx6.out
   have h3 : vs 3 = vs 2 := hd.out 3 (mem_of (by kernel_rfl)) (by decide) (by kernel_rfl)
   have h2 := (hd.out 2 (mem_of (by kernel_rfl)) (by decide) (by kernel_rfl)).trans hx2.out
   go_wp2_with fail
   refine Onward.mk (hK ?val1_7 _ _ (fun h => by cases h) ?eqA (Spares.refl _) (fun iv' _ _ => ?ja))
   case eqA => first | rfl | (simp only [puts, h5, h6, h3, h2]; rfl)
   case ja => exact hx7.out.symm
  ·
   have h7 := (hd.out 7 (mem_of (by kernel_rfl)) (by decide) (by kernel_rfl)).trans hx7.out
   have h3 : vs 3 = vs 2 := hd.out 3 (mem_of (by kernel_rfl)) (by decide) (by kernel_rfl)
   have h2 := (hd.out 2 (mem_of (by kernel_rfl)) (by decide) (by kernel_rfl)).trans hx2.out
   go_wp2_with fail
   refine Onward.mk (hK ?val1_8 _ _ (fun h => by cases h) ?eqA (Spares.refl _) (fun iv' _ _ => ?ja))
   case eqA => first | rfl | (simp only [puts, h7, h3, h2]; rfl)
   case ja => exact hx8.out.symm
  ·
   have h3 : vs 3 = vs 2 := hd.out 3 (mem_of (by kernel_rfl)) (by decide) (by kernel_rfl)
   have h2 := (hd.out 2 (mem_of (by kernel_rfl)) (by decide) (by kernel_rfl)).trans hx2.out
   go_wp2_with fail
   refine Onward.mk (hK ?val1_9 _ _ (fun h => by cases h) ?eqA (Spares.refl _) (fun iv' _ _ => ?ja))
   case eqA => first | rfl | (simp only [puts, h3, h2]; rfl)
   case ja => exact hx9.out.symm
  ·
   have h8 := (hd.out 8 (mem_of (by kernel_rfl)) (by decide) (by kernel_rfl)).trans hx8.out
   have h9 := (hd.out 9 (mem_of (by kernel_rfl)) (by decide) (by kernel_rfl)).trans hx9.out
   have h3 : vs 3 = vs 2 := hd.out 3 (mem_of (by kernel_rfl)) (by decide) (by kernel_rfl)
   have h2 := (hd.out 2 (mem_of (by kernel_rfl)) (by decide) (by kernel_rfl)).trans hx2.out
   go_wp2_with fail
   refine Onward.mk (hK ?val1_10 _ _ (fun h => by cases h) ?eqA (Spares.refl _) (fun iv' _ _ => ?ja))
   case eqA => first | rfl | (simp only [puts, h8, h9, h3, h2]; rfl)
   case ja => exact hx10.out.symm
  ·
   have h10 := (hd.out 10 (mem_of (by kernel_rfl)) (by decide) (by kernel_rfl)).trans hx10.out
   have h3 : vs 3 = vs 2 := hd.out 3 (mem_of (by kernel_rfl)) (by decide) (by kernel_rfl)
   have h2 := (hd.out 2 (mem_of (by kernel_rfl)) (by decide) (by kernel_rfl)).trans hx2.out
   go_wp2_with fail
   refine Onward.mk (hK ?val1_11 _ _ (fun h => by cases h) ?eqA (Spares.refl _) (fun iv' _ _ => ?ja))
   case eqA => first | rfl | (simp only [puts, h10, h3, h2]; rfl)
   case ja => exact hx11.out.symm
  ·
   have h3 : vs 3 = vs 2 := hd.out 3 (mem_of (by kernel_rfl)) (by decide) (by kernel_rfl)
   have h11 := (hd.out 11 (mem_of (by kernel_rfl)) (by decide) (by kernel_rfl)).trans hx11.out
   have h2 := (hd.out 2 (mem_of (by kernel_rfl)) (by decide) (by kernel_rfl)).trans hx2.out
   go_wp2_with fail
   refine Onward.mk (hK ?val1_12 _ _ (fun h => by cases h) ?eqA (Spares.refl _) (fun iv' _ _ => ?ja))
   case eqA => first | rfl | (simp only [puts, h3, h11, h2]; rfl)
   case ja => exact hx12.out.symm
  ·
   go_wp2_with fail
   refine Onward.mk (hK ?val1_13 _ _ (fun h => by cases h) ?eqA (Spares.refl _) (fun iv' _ _ => ?ja))
   case eqA => first | rfl | (simp only [puts]; rfl)
   case ja => exact hx13.out.symm
  ·
   have h13 := (hd.out 13 (mem_of (by kernel_rfl)) (by decide) (by kernel_rfl)).trans hx13.out
   go_wp2_with fail
   refine Onward.mk (hK ?val1_14 _ _ (fun h => by cases h) ?eqA (Spares.refl _) (fun iv' _ _ => ?ja))
   case eqA => first | rfl | (simp only [puts, h13]; rfl)
   case ja => exact hx14.out.symm
  ·
   have h14 := (hd.out 14 (mem_of (by kernel_rfl)) (by decide) (by kernel_rfl)).trans hx14.out
   go_wp2_with fail
   refine Onward.mk (hK ?val1_15 _ _ (fun h => by cases h) ?eqA (Spares.refl _) (fun iv' _ _ => ?ja))
   case eqA => first | rfl | (simp only [puts, h14]; rfl)
   case ja => show _ = vs 14; simp only [h14]; rfl
  ·
   have h15 : vs 15 = vs 14 := hd.out 15 (mem_of (by kernel_rfl)) (by decide) (by kernel_rfl)
   have h14 := (hd.out 14 (mem_of (by kernel_rfl)) (by decide) (by kernel_rfl)).trans hx14.out
   go_wp2_with fail
   refine Onward.mk (hK ?val1_16 _ _ (fun h => by cases h) ?eqA (Spares.refl _) (fun iv' _ _ => ?ja))
   case eqA => first | rfl | (simp only [puts, h15, h14]; rfl)
   case ja => exact hx16.out.symm
  ·
   have h16 := (hd.out 16 (mem_of (by kernel_rfl)) (by decide) (by kernel_rfl)).trans hx16.out
   have h15 : vs 15 = vs 14 := hd.out 15 (mem_of (by kernel_rfl)) (by decide) (by kernel_rfl)
   have h14 := (hd.out 14 (mem_of (by kernel_rfl)) (by decide) (by kernel_rfl)).trans hx14.out
   go_wp2_with fail
   refine Onward.mk (hK ?val1_17 _ _ (fun h => by cases h) ?eqA (Spares.refl _) (fun iv' _ _ => ?ja))
   case eqA => first | rfl | (simp only [puts, h16, h15, h14]; rfl)
   case ja => exact hx17.out.symm
  ·
   have h15 : vs 15 = vs 14 := hd.out 15 (mem_of (by kernel_rfl)) (by decide) (by kernel_rfl)
   have h14 := (hd.out 14 (mem_of (by kernel_rfl)) (by decide) (by kernel_rfl)).trans hx14.out
   go_wp2_with fail
   refine Onward.mk (hK ?val1_18 _ _ (fun h => by cases h) ?eqA (Spares.refl _) (fun iv' _ _ => ?ja))
   case eqA => first | rfl | (simp only [puts, h15, h14]; rfl)
   case ja => exact hx18.out.symm
  ·
   have h17 := (hd.out 17 (mem_of (by kernel_rfl)) (by decide) (by kernel_rfl)).trans hx17.out
   have h18 := (hd.out 18 (mem_of (by kernel_rfl)) (by decide) (by kernel_rfl)).trans hx18.out
   have h15 : vs 15 = vs 14 := hd.out 15 (mem_of (by kernel_rfl)) (by decide) (by kernel_rfl)
   have h14 := (hd.out 14 (mem_of (by kernel_rfl)) (by decide) (by kernel_rfl)).trans hx14.out
   go_wp2_with fail
   refine Onward.mk (hK ?val1_19 _ _ (fun h => by cases h) ?eqA (Spares.refl _) (fun iv' _ _ => ?ja))
   case eqA => first | rfl | (simp only [puts, h17, h18, h15, h14]; rfl)
   case ja => exact hx19.out.symm
  ·
   have h19 := (hd.out 19 (mem_of (by kernel_rfl)) (by decide) (by kernel_rfl)).trans hx19.out
   have h15 : vs 15 = vs 14 := hd.out 15 (mem_of (by kernel_rfl)) (by decide) (by kernel_rfl)
   have h14 := (hd.out 14 (mem_of (by kernel_rfl)) (by decide) (by kernel_rfl)).trans hx14.out
   go_wp2_with fail
   refine Onward.mk (hK ?val1_20 _ _ (fun h => by cases h) ?eqA (Spares.refl _) (fun iv' _ _ => ?ja))
   case eqA => first | rfl | (simp only [puts, h19, h15, h14]; rfl)
   case ja => exact hx20.out.symm
  ·
   have h15 : vs 15 = vs 14 := hd.out 15 (mem_of (by kernel_rfl)) (by decide) (by kernel_rfl)
   have h14 := (hd.out 14 (mem_of (by kernel_rfl)) (by decide) (by kernel_rfl)).trans hx14.out
   go_wp2_with fail
   refine Onward.mk (hK ?val1_21 _ _ (fun h => by cases h) ?eqA (Spares.refl _) (fun iv' _ _ => ?ja))
   case eqA => first | rfl | (simp only [puts, h15, h14]; rfl)
   case ja => exact hx21.out.symm
  ·
   have h20 := (hd.out 20 (mem_of (by kernel_rfl)) (by decide) (by kernel_rfl)).trans hx20.out
   have h21 := (hd.out 21 (mem_of (by kernel_rfl)) (by decide) (by kernel_rfl)).trans hx21.out
   have h15 : vs 15 = vs 14 := hd.out 15 (mem_of (by kernel_rfl)) (by decide) (by kernel_rfl)
   have h14 := (hd.out 14 (mem_of (by kernel_rfl)) (by decide) (by kernel_rfl)).trans hx14.out
   go_wp2_with fail
   refine Onward.mk (hK ?val1_22 _ _ (fun h => by cases h) ?eqA (Spares.refl _) (fun iv' _ _ => ?ja))
   case eqA => first | rfl | (simp only [puts, h20, h21, h15, h14]; rfl)
   case ja => exact hx22.out.symm
  ·
   have h22 := (hd.out 22 (mem_of (by kernel_rfl)) (by decide) (by kernel_rfl)).trans hx22.out
   have h15 : vs 15 = vs 14 := hd.out 15 (mem_of (by kernel_rfl)) (by decide) (by kernel_rfl)
   have h14 := (hd.out 14 (mem_of (by kernel_rfl)) (by decide) (by kernel_rfl)).trans hx14.out
   go_wp2_with fail
   refine Onward.mk (hK ?val1_23 _ _ (fun h => by cases h) ?eqA (Spares.refl _) (fun iv' _ _ => ?ja))
   case eqA => first | rfl | (simp only [puts, h22, h15, h14]; rfl)
   case ja => exact hx23.out.symm
  ·
   have h15 : vs 15 = vs 14 := hd.out 15 (mem_of (by kernel_rfl)) (by decide) (by kernel_rfl)
   have h23 := (hd.out 23 (mem_of (by kernel_rfl)) (by decide) (by kernel_rfl)).trans hx23.out
   have h14 := (hd.out 14 (mem_of (by kernel_rfl)) (by decide) (by kernel_rfl)).trans hx14.out
   go_wp2_with fail
   refine Onward.mk (hK ?val1_24 _ _ (fun h => by cases h) ?eqA (Spares.refl _) (fun iv' _ _ => ?ja))
   case eqA => first | rfl | (simp only [puts, h15, h23, h14]; rfl)
   case ja => exact hx24.out.symm
  ·
   go_wp2_with fail
   refine Onward.mk (hK ?val1_25 _ _ (fun h => by cases h) ?eqA (Spares.refl _) (fun iv' _ _ => ?ja))
   case eqA => first | rfl | (simp only [puts]; rfl)
   case ja => exact hx25.out.symm
  ·
   have h12 := (hd.out 12 (mem_of (by kernel_rfl)) (by decide) (by kernel_rfl)).trans hx12.out
   have h24 := (hd.out 24 (mem_of (by kernel_rfl)) (by decide) (by kernel_rfl)).trans hx24.out
   have h25 := (hd.out 25 (mem_of (by kernel_rfl)) (by decide) (by kernel_rfl)).trans hx25.out
   go_wp2_with fail
   refine (mixed_b HZ.out).mono ?_
   rintro e w2 ⟨rfl, hb⟩
   go_wp2_with fail
   exact Onward.mk (hK (.bool Z) _ _ (fun h => by cases h) (by first | rfl | (simp only [puts, h12, h24, h25])) (Spares.of_below hb) (fun iv' _ _ => rfl))
  ·
   have h26 : vs 26 = .bool Z := hd.out 26 (mem_of (by kernel_rfl)) (by decide) (by kernel_rfl)
   go_wp2_with fail
   exact Onward.mk (hK (.slice (some ⟨w1.heap.size, 0, none⟩) 1 1) _ _ (fun h => by cases h) (by first | rfl | (simp only [puts, h26])) (Spares.of_below (Below.alloc (Below.refl _ _) (Nat.le_refl _) _)) (fun iv' _ hi => by
    show Value.slice (some ⟨w1.heap.size, 0, none⟩) 1 1 = .slice (some ⟨(iv' 27).1, 0, none⟩) 1 1 ∧ (iv' 27).2 = (iv' 27).1 + 1 ∧ Blk _ (iv' 27).1 4 [.bool Z]
    rw [hi]
    exact ⟨rfl, by simp, Blk.new1 _ _ _⟩))
  ·
   have h0 : vs 0 = .slice a5 m c5 := hd.out 0 (mem_of (by kernel_rfl)) (by decide) (by kernel_rfl)
   obtain ⟨h27, q27, f27⟩ := hd.out 27 (mem_of (by kernel_rfl)) (by decide) (by kernel_rfl)
   have V01 := V0.keep (fun b _ hb => hS.out 0 b (by kernel_rfl) ⟨rfl, hb⟩)
   simp only [h0, h27]
   have f27' : Blk w1 (iv 27).1 4 [.bool Z] := by first | exact f27 | (rw [h27] at f27; exact f27)
   refine wpList_append_s w1 (by rfl) _ _ 77 (by rfl) 4 ((.bool false)) 1 1 Try.underlying77 rn_bl rfl (by decide) (S := (fun b => (w3.heap.size ≤ b ∧ b < wm.heap.size ∧ own b = 5))) (T := (fun _ => False)) _ (by rfl) V01 ⟨(iv 27).1, 0, none⟩ 1 1 [.bool Z] (by rfl) (news_blk f27') (rn_noneb) (fun _ _ _ h => h) (by simp) (by simp [Value.oneCell']) (by omega) (by omega) (by unfold maxLen; omega) ?_
   intro g cap w2 hap ht
   go_wp2_with fail
   exact Onward.mk (hK (.slice (some ⟨g, 0, none⟩) (m + 1) cap) _ _ (fun h => by cases h) (by first | rfl | (simp only [puts, h0, h27])) (ht.more (fun b h => Or.inl ⟨0, by decide, ⟨rfl, h⟩⟩)) (fun iv' ag hi => ⟨g, cap, rfl, hap.more (fun b _ h => by rcases h with h | h | h; exact foot_given 0 (by decide) ⟨rfl, h⟩; exact h.elim; exact foot_new hi h.1 h.2)⟩))
  ·
   obtain ⟨g28, cap28, h28, f28⟩ := hd.out 28 (mem_of (by kernel_rfl)) (by decide) (by kernel_rfl)
   go_wp2_with fail
   refine Onward.mk (hK ?val1_29 _ _ (fun h => by cases h) ?eqA (Spares.refl _) (fun iv' _ _ => ?ja))
   case eqA => first | rfl | (simp only [puts, h28]; rfl)
   case ja => show _ = vs 28; simp only [h28]; rfl
 case hQ =>
  intro iv vs wx hB hSp hd he hbd hsep
  have hzB := hB.size
  have h0 : vs 0 = .slice a5 m c5 := hd.out 0 (mem_of (by kernel_rfl)) (not_eaten (by kernel_rfl))
  have h1 := (hd.out 1 (mem_of (by kernel_rfl)) (not_eaten (by kernel_rfl))).trans hx1.out
  have h2 := (hd.out 2 (mem_of (by kernel_rfl)) (not_eaten (by kernel_rfl))).trans hx2.out
  have h3 : vs 3 = vs 2 := hd.out 3 (mem_of (by kernel_rfl)) (not_eaten (by kernel_rfl))
  have h4 := (hd.out 4 (mem_of (by kernel_rfl)) (not_eaten (by kernel_rfl))).trans hx4.out
  have h5 := (hd.out 5 (mem_of (by kernel_rfl)) (not_eaten (by kernel_rfl))).trans hx5.out
  have h6 := (hd.out 6 (mem_of (by kernel_rfl)) (not_eaten (by kernel_rfl))).trans hx6.out
  have h7 := (hd.out 7 (mem_of (by kernel_rfl)) (not_eaten (by kernel_rfl))).trans hx7.out
  have h8 := (hd.out 8 (mem_of (by kernel_rfl)) (not_eaten (by kernel_rfl))).trans hx8.out
  have h9 := (hd.out 9 (mem_of (by kernel_rfl)) (not_eaten (by kernel_rfl))).trans hx9.out
  have h10 := (hd.out 10 (mem_of (by kernel_rfl)) (not_eaten (by kernel_rfl))).trans hx10.out
  have h11 := (hd.out 11 (mem_of (by kernel_rfl)) (not_eaten (by kernel_rfl))).trans hx11.out
  have h12 := (hd.out 12 (mem_of (by kernel_rfl)) (not_eaten (by kernel_rfl))).trans hx12.out
  have h13 := (hd.out 13 (mem_of (by kernel_rfl)) (not_eaten (by kernel_rfl))).trans hx13.out
  have h14 := (hd.out 14 (mem_of (by kernel_rfl)) (not_eaten (by kernel_rfl))).trans hx14.out
  have h15 : vs 15 = vs 14 := hd.out 15 (mem_of (by kernel_rfl)) (not_eaten (by kernel_rfl))
  have h16 := (hd.out 16 (mem_of (by kernel_rfl)) (not_eaten (by kernel_rfl))).trans hx16.out
  have h17 := (hd.out 17 (mem_of (by kernel_rfl)) (not_eaten (by kernel_rfl))).trans hx17.out
  have h18 := (hd.out 18 (mem_of (by kernel_rfl)) (not_eaten (by kernel_rfl))).trans hx18.out
  have h19 := (hd.out 19 (mem_of (by kernel_rfl)) (not_eaten (by kernel_rfl))).trans hx19.out
  have h20 := (hd.out 20 (mem_of (by kernel_rfl)) (not_eaten (by kernel_rfl))).trans hx20.out
  have h21 := (hd.out 21 (mem_of (by kernel_rfl)) (not_eaten (by kernel_rfl))).trans hx21.out
  have h22 := (hd.out 22 (mem_of (by kernel_rfl)) (not_eaten (by kernel_rfl))).trans hx22.out
  have h23 := (hd.out 23 (mem_of (by kernel_rfl)) (not_eaten (by kernel_rfl))).trans hx23.out
  have h24 := (hd.out 24 (mem_of (by kernel_rfl)) (not_eaten (by kernel_rfl))).trans hx24.out
  have h25 := (hd.out 25 (mem_of (by kernel_rfl)) (not_eaten (by kernel_rfl))).trans hx25.out
  have h26 : vs 26 = .bool Z := hd.out 26 (mem_of (by kernel_rfl)) (not_eaten (by kernel_rfl))
  obtain ⟨h27, q27, f27⟩ := hd.out 27 (mem_of (by kernel_rfl)) (not_eaten (by kernel_rfl))
  obtain ⟨g28, cap28, h28, f28⟩ := hd.out 28 (mem_of (by kernel_rfl)) (not_eaten (by kernel_rfl))
  have h29 : vs 29 = vs 28 := hd.out 29 (mem_of (by kernel_rfl)) (not_eaten (by kernel_rfl))
  have lo28 : ∀ b, foot [] [(28, 0)] (fun m b => (m = 0 ∧ (w3.heap.size ≤ b ∧ b < wm.heap.size ∧ own b = 5))) 30 28 iv b → (w3.heap.size) ≤ b := by
   rintro b ⟨j, hj, hh⟩
   have hj' := of_decide_eq_true (List.all_eq_true.1 (show ((chainOf [] 30 28).all fun j => decide (j ∈ [28])) = true from by kernel_rfl) j hj)
   simp only [List.mem_cons, List.not_mem_nil, or_false] at hj'
   rcases hj' with rfl
   ·
    have q := (hbd.out 28 (mem_of (by kernel_rfl))).1
    rcases hh with hh | ⟨m, hm, hg⟩
    ·
     omega
    ·
     simp at hm
     subst hm
     simp at hg
     have q' := V0f b hg
     omega
  simp only [putFrom, puts]
  have so28 : ∀ b, (foot [] [(28, 0)] (fun m b => (m = 0 ∧ (w3.heap.size ≤ b ∧ b < wm.heap.size ∧ own b = 5))) 30 28 iv) b → (w3.heap.size ≤ b ∧ b < wm.heap.size ∧ own b = 5) ∨ (wm).heap.size ≤ b := by
   rintro b ⟨j, hj, hh⟩
   have hj' := of_decide_eq_true (List.all_eq_true.1 (show ((chainOf [] 30 28).all fun j => decide (j ∈ [28])) = true from by kernel_rfl) j hj)
   simp only [List.mem_cons, List.not_mem_nil, or_false] at hj'
   rcases hj' with rfl
   ·
    have q := (hbd.out 28 (mem_of (by kernel_rfl))).1
    rcases hh with hh | ⟨m, hm, hg⟩
    ·
     exact Or.inr (by omega)
    ·
     simp at hm; subst hm; simp at hg; exact Or.inl hg
  simp only [h29, h28]
  clear hd he hbd hsep h0 h1 h2 h3 h4 h5 h6 h7 h8 h9 h10 h11 h12 h13 h14 h15 h16 h17 h18 h19 h20 h21 h22 h23 h24 h25 h26 h27 h28 h29 q27 f27
  refine HK.out g28 cap28 wx _ _ _ _ _ _ _ _ _ _ _ _ _ _ _ _ _ _ _ _ _ _ _ _ _ _ _ _ _ ⟨?_, HW.out.2.trans hB⟩
  exact Bun.turn_app Hown.out hSp.out.size (by omega) 5 (fun bb hb hn => hSp.out.block bb hb (fun ⟨mm, hmm⟩ => hn hmm.2)) f28 (fun bb _ hS => so28 bb hS)
set_option maxRecDepth 1000000 in
set_option maxHeartbeats 16000000 in
theorem mix12_tf {t a mix : Int} {ac bc : List (List Bool)} {nx ny : List (List (List Int))} {u u' : Option Addr} {ub1 uo1 ub2 uo2 c c' d d' : Nat} {w w3 wm : World} {am aA aX a5 : Option Addr} {ri cm cA cX c5 m g gA : Nat} {Lm : List (Int × Int)} {MA : List (List Bool)} {MX : List (List (List Int))} {ds : List D} {it : Item} {s1 : Nat} {x2 : Int}
  (hB3 : Below w.heap.size w w3) (X : Blk w3 w.heap.size 31 [.int .i64 t, .int .i64 a, .slice (some ⟨ub1, uo1, none⟩) ac.length c, .slice u nx.length d]) (Y : Blk w3 (w.heap.size + 1) 31 [.int .i64 t, .int .i64 a, .slice (some ⟨ub2, uo2, none⟩) bc.length c', .slice u' ny.length d'])
  (hr : Rd w (bbD ac) (.slice (some ⟨ub1, uo1, none⟩) ac.length c)) (hr' : Rd w (bbD bc) (.slice (some ⟨ub2, uo2, none⟩) bc.length c')) (hok : AutOk t a ac nx) (hok' : AutOk t a bc ny) (hmat : (m : Int) < atomsN t) (hm8 : m < 8) (hx2 : (s1 : Int) < ac.length) (hx4 : x2 < 0)
  (hW : MiW w3.heap.size g gA t a w3 wm Lm ri MA MX (.slice am Lm.length cm) (.slice aA ri cA) (.slice aX ri cX) [.app 4 1 m ds (.slice a5 m c5), it])
  {K : Act → World → Prop} {Q' : Exit → Act → World → Prop} {y0 y1 y5 y6 y7 y8 y9 y10 y11 y15 y17 y18 y19 y20 y21 y22 y23 y24 y25 y26 y27 y28 y29 y30 y31 y32 y33 y34 y35 y36 y37 y38 y39 y40 y41 y42 y43 y44 y45 y46 y47 y48 y49 y50 y51 y52 y53 y54 y55 y56 y57 y58 y59 y60 y61 y62 y63 y64 y65 y66 y67 y68 y69 y70 y71 y72 y73 y74 y75 y76 y77 y78 y79 y80 y81 y82 y83 y84 y85 y86 y87 y88 y89 y90 y91 y92 y93 y94 y95 y96 y97 y98 y99 y100 y101 y102 y103 y104 y105 y106 y107 y108 y109 y110 y111 y112 y113 y114 y115 y116 y117 y118 y119 y120 y121 y122 y123 y124 y125 y126 y127 y128 y129 y130 y131 y132 y133 y134 y135 y136 y137 y138 y139 y140 y141 y142 y143 y144 y145 y146 : Value}
  (hK : ∀ (g8 cap8 : Nat) (wx : World) (u55 u56 u57 u58 u59 u60 u61 u62 u63 u64 u65 u66 u67 u68 u69 u70 u71 u72 u73 u74 u75 u76 u77 u78 u79 u80 u81 u82 u83 : Value), MiW w3.heap.size g gA t a w3 wx Lm ri MA MX (.slice am Lm.length cm) (.slice aA ri cA) (.slice aX ri cX) [.app 4 1 (m + 1) (ds ++ [.bool (mixB mix (hasN ac (s1 : Int) m) (hasN bc x2 m))]) (.slice (some ⟨g8, 0, none⟩) (m + 1) cap8), it] → K ⟨#[y0, y1, .int .i64 mix, .pointer (some ⟨w.heap.size, 0, none⟩), .pointer (some ⟨w.heap.size + 1, 0, none⟩), y5, y6, y7, y8, y9, y10, y11, .int .i64 (s1 : Int), .int .i64 x2, .slice (some ⟨g8, 0, none⟩) (m + 1) cap8, y15, .int .i64 m, y17, y18, y19, y20, y21, y22, y23, y24, y25, y26, y27, y28, y29, y30, y31, y32, y33, y34, y35, y36, y37, y38, y39, y40, y41, y42, y43, y44, y45, y46, y47, y48, y49, y50, y51, y52, y53, y54, u55, u56, u57, u58, u59, u60, u61, u62, u63, u64, u65, u66, u67, u68, u69, u70, u71, u72, u73, u74, u75, u76, u77, u78, u79, u80, u81, u82, u83, y84, y85, y86, y87, y88, y89, y90, y91, y92, y93, y94, y95, y96, y97, y98, y99, y100, y101, y102, y103, y104, y105, y106, y107, y108, y109, y110, y111, y112, y113, y114, y115, y116, y117, y118, y119, y120, y121, y122, y123, y124, y125, y126, y127, y128, y129, y130, y131, y132, y133, y134, y135, y136, y137, y138, y139, y140, y141, y142, y143, y144, y145, y146], []⟩ wx) :
  Code.wp Try.prog mixR12 (Exit.then K Q') ⟨#[y0, y1, .int .i64 mix, .pointer (some ⟨w.heap.size, 0, none⟩), .pointer (some ⟨w.heap.size + 1, 0, none⟩), y5, y6, y7, y8, y9, y10, y11, .int .i64 (s1 : Int), .int .i64 x2, .slice a5 m c5, y15, .int .i64 m, y17, y18, y19, y20, y21, y22, y23, y24, y25, y26, y27, y28, y29, y30, y31, y32, y33, y34, y35, y36, y37, y38, y39, y40, y41, y42, y43, y44, y45, y46, y47, y48, y49, y50, y51, y52, y53, y54, y55, y56, y57, y58, y59, y60, y61, y62, y63, y64, y65, y66, y67, y68, y69, y70, y71, y72, y73, y74, y75, y76, y77, y78, y79, y80, y81, y82, y83, y84, y85, y86, y87, y88, y89, y90, y91, y92, y93, y94, y95, y96, y97, y98, y99, y100, y101, y102, y103, y104, y105, y106, y107, y108, y109, y110, y111, y112, y113, y114, y115, y116, y117, y118, y119, y120, y121, y122, y123, y124, y125, y126, y127, y128, y129, y130, y131, y132, y133, y134, y135, y136, y137, y138, y139, y140, y141, y142, y143, y144, y145, y146], []⟩ wm := by
 obtain ⟨ar1, z1, har1, hz1, e1⟩ := hok.acc (s := s1) (x := m) (by omega) hmat
 obtain ⟨hcx1, hcy1⟩ := nest_bd hr
 unfold maxLen at hcy1
 obtain ⟨hul1, sn1, cn1, b01, rb1⟩ := nest_sl (g := D.bool) hr har1
 have hml1 := (List.getElem?_eq_some_iff.1 hz1).1
 obtain ⟨vb1, vo1, rfl⟩ := nest_some (f := D.bool) rb1 (by omega)
 obtain ⟨hcp1, hcq1⟩ := nest_bd rb1
 unfold maxLen at hcq1
 obtain ⟨hvl1, q01⟩ := bool_in rb1 hz1
 have hsp1 := Int.natCast_nonneg s1
 have i11 : (s1 : Int) < ((ac).length : Int) := by omega
 have i21 : (m : Int) < (ar1.length : Int) := by omega
 have e01 : hasN ac (s1 : Int) m = z1 := by rw [hasN_pos, e1]
 rw [e01] at hK
 clear har1 hz1 rb1 e1 e01 hr
 have hd2 : decide (0 ≤ x2) = false := by apply decide_eq_false; omega
 have e02 : hasN bc x2 m = false := hasN_neg (by omega)
 rw [e02] at hK
 clear e02
 obtain ⟨Z, hZ⟩ : ∃ v, mixB mix z1 false = v := ⟨_, rfl⟩
 rw [hZ] at hK
 have HK := Lib.hid hK
 have HZ := Lib.hid hZ
 have HW := Lib.hid hW
 have HXb := Lib.hid X
 have HYb := Lib.hid Y
 have hzm := hW.2.size
 obtain ⟨own, hown⟩ := hW.1
 have V0 := hown 5 _ rfl
 have V0f := fun (b : Nat) (h : w3.heap.size ≤ b ∧ b < wm.heap.size ∧ own b = 5) => And.intro h.1 h.2.1
 have Hown := Lib.hid hown
 have hm0 := Int.natCast_nonneg m
 obtain ⟨_, _, e5, q1, q2⟩ := hW.1.shape 5 rfl
 simp only [Value.slice.injEq, true_and] at e5
 obtain ⟨rfl, rfl⟩ := e5
 unfold maxLen at q2
 clear hown hK hZ hW X Y hok hok' hmat
 conv => arg 2; whnf
 go_wp2_with fail
 obtain ⟨x1, hx1⟩ := mkval ?a2_1
 obtain ⟨x2, hx2⟩ := mkval ?a2_2
 obtain ⟨x4, hx4⟩ := mkval ?a2_4
 obtain ⟨x5, hx5⟩ := mkval ?a2_5
 obtain ⟨x6, hx6⟩ := mkval ?a2_6
 obtain ⟨x7, hx7⟩ := mkval ?a2_7
 obtain ⟨x8, hx8⟩ := mkval ?a2_8
 obtain ⟨x9, hx9⟩ := mkval ?a2_9
 obtain ⟨x10, hx10⟩ := mkval ?a2_10
 obtain ⟨x11, hx11⟩ := mkval ?a2_11
 obtain ⟨x12, hx12⟩ := mkval ?a2_12
 obtain ⟨x13, hx13⟩ := mkval ?a2_13
 obtain ⟨x14, hx14⟩ := mkval ?a2_14
 obtain ⟨x24, hx24⟩ := mkval ?a2_24
 obtain ⟨x25, hx25⟩ := mkval ?a2_25
 have hGb : ∀ m b, (fun m b => (m = 0 ∧ (w3.heap.size ≤ b ∧ b < wm.heap.size ∧ own b = 5))) m b → (w3.heap.size) ≤ b ∧ b < (wm).heap.size := by
  intro m b hg
  rcases hg with ⟨rfl, hg⟩
  ·
   have q := V0f b hg
   omega
 have hGd : ∀ m m' b, (fun m b => (m = 0 ∧ (w3.heap.size ≤ b ∧ b < wm.heap.size ∧ own b = 5))) m b → (fun m b => (m = 0 ∧ (w3.heap.size ≤ b ∧ b < wm.heap.size ∧ own b = 5))) m' b → m = m' := by
  intro m m' b h h'
  rcases h with ⟨rfl, h⟩ <;> rcases h' with ⟨rfl, h'⟩ <;> first
   | rfl
 refine region_rs [] [(28, 0)] (fun m b => (m = 0 ∧ (w3.heap.size ≤ b ∧ b < wm.heap.size ∧ own b = 5))) (w3.heap.size) (fun i iv vs wx => match i with
  | 0 => vs 0 = .slice a5 m c5
  | 1 => vs 1 = x1
  | 2 => vs 2 = x2
  | 3 => vs 3 = vs 2
  | 4 => vs 4 = x4
  | 5 => vs 5 = x5
  | 6 => vs 6 = x6
  | 7 => vs 7 = x7
  | 8 => vs 8 = x8
  | 9 => vs 9 = x9
  | 10 => vs 10 = x10
  | 11 => vs 11 = x11
  | 12 => vs 12 = x12
  | 13 => vs 13 = x13
  | 14 => vs 14 = x14
  | 15 => vs 15 = vs 14
  | 16 => True
  | 17 => True
  | 18 => True
  | 19 => True
  | 20 => True
  | 21 => True
  | 22 => True
  | 23 => True
  | 24 => vs 24 = x24
  | 25 => vs 25 = x25
  | 26 => vs 26 = .bool Z
  | 27 => vs 27 = .slice (some ⟨(iv 27).1, 0, none⟩) 1 1 ∧ (iv 27).2 = (iv 27).1 + 1 ∧ Blk wx (iv 27).1 4 [.bool Z]
  | 28 => ∃ g cap, vs 28 = .slice (some ⟨g, 0, none⟩) (m + 1) cap ∧ AppS (foot [] [(28, 0)] (fun m b => (m = 0 ∧ (w3.heap.size ≤ b ∧ b < wm.heap.size ∧ own b = 5))) 30 28 iv) wx 4 1 (m + 1) (ds ++ [.bool Z]) (.slice (some ⟨g, 0, none⟩) (m + 1) cap)
  | 29 => vs 29 = vs 28
  | _ => True) (fun i iv vs => match i with
  | 0 => vs 0 = .slice a5 m c5
  | 1 => vs 1 = x1
  | 2 => vs 2 = x2
  | 3 => vs 3 = vs 2
  | 4 => vs 4 = x4
  | 5 => vs 5 = x5
  | 6 => vs 6 = x6
  | 7 => vs 7 = x7
  | 8 => vs 8 = x8
  | 9 => vs 9 = x9
  | 10 => vs 10 = x10
  | 11 => vs 11 = x11
  | 12 => vs 12 = x12
  | 13 => vs 13 = x13
  | 14 => vs 14 = x14
  | 15 => vs 15 = vs 14
  | 16 => True
  | 17 => True
  | 18 => True
  | 19 => True
  | 20 => True
  | 21 => True
  | 22 => True
  | 23 => True
  | 24 => vs 24 = x24
  | 25 => vs 25 = x25
  | 26 => vs 26 = .bool Z
  | 27 => vs 27 = .slice (some ⟨(iv 27).1, 0, none⟩) 1 1 ∧ (iv 27).2 = (iv 27).1 + 1
  | 28 => ∃ g cap, vs 28 = .slice (some ⟨g, 0, none⟩) (m + 1) cap
  | 29 => vs 29 = vs 28
  | _ => True) (by kernel_rfl) (by kernel_rfl) [0, 1, 2, 3, 4, 5, 6, 7, 8, 9, 10, 11, 12, 13, 14, 15, 16, 17, 18, 19, 20, 21, 22, 23, 24, 25, 26, 27, 28, 29] (by kernel_rfl) ?hbase ?hGb ?hG ?hJ ?hE ?hEE ?hstep ?hQ
 case hbase => first | exact Nat.le_refl _ | omega | (simp; omega)
 case hGb =>
  exact hGb
 case hG =>
  exact hGd
 case hJ =>
  intro i hi iv iv' vs vs' wx wx' ha hv hz hk hj
  simp only [List.mem_cons, List.not_mem_nil, or_false] at hi
  rcases hi with rfl | rfl | rfl | rfl | rfl | rfl | rfl | rfl | rfl | rfl | rfl | rfl | rfl | rfl | rfl | rfl | rfl | rfl | rfl | rfl | rfl | rfl | rfl | rfl | rfl | rfl | rfl | rfl | rfl | rfl
  ·
   exact (hv.out 0 (mem_of (by kernel_rfl))).symm.trans hj
  ·
   exact (hv.out 1 (mem_of (by kernel_rfl))).symm.trans hj
  ·
   exact (hv.out 2 (mem_of (by kernel_rfl))).symm.trans hj
  ·
   have e2 := hv.out 2 (mem_of (by kernel_rfl))
   have e3 := hv.out 3 (mem_of (by kernel_rfl))
   have hj' : vs 3 = vs 2 := hj
   show vs' 3 = vs' 2
   rw [← e2, ← e3]
   exact hj'
  ·
   exact (hv.out 4 (mem_of (by kernel_rfl))).symm.trans hj
  ·
   exact (hv.out 5 (mem_of (by kernel_rfl))).symm.trans hj
  ·
   exact (hv.out 6 (mem_of (by kernel_rfl))).symm.trans hj
  ·
   exact (hv.out 7 (mem_of (by kernel_rfl))).symm.trans hj
  ·
   exact (hv.out 8 (mem_of (by kernel_rfl))).symm.trans hj
  ·
   exact (hv.out 9 (mem_of (by kernel_rfl))).symm.trans hj
  ·
   exact (hv.out 10 (mem_of (by kernel_rfl))).symm.trans hj
  ·
   exact (hv.out 11 (mem_of (by kernel_rfl))).symm.trans hj
  ·
   exact (hv.out 12 (mem_of (by kernel_rfl))).symm.trans hj
  ·
   exact (hv.out 13 (mem_of (by kernel_rfl))).symm.trans hj
  ·
   exact (hv.out 14 (mem_of (by kernel_rfl))).symm.trans hj
  ·
   have e14 := hv.out 14 (mem_of (by kernel_rfl))
   have e15 := hv.out 15 (mem_of (by kernel_rfl))
   have hj' : vs 15 = vs 14 := hj
   show vs' 15 = vs' 14
   rw [← e14, ← e15]
   exact hj'
  ·
   trivial
  ·
   trivial
  ·
   trivial
  ·
   trivial
  ·
   trivial
  ·
   trivial
  ·
   trivial
  ·
   trivial
  ·
   exact (hv.out 24 (mem_of (by kernel_rfl))).symm.trans hj
  ·
   exact (hv.out 25 (mem_of (by kernel_rfl))).symm.trans hj
  ·
   exact (hv.out 26 (mem_of (by kernel_rfl))).symm.trans hj
  ·
   have e27 := hv.out 27 (mem_of (by kernel_rfl))
   have g27 := ha.out 27 (mem_of (by kernel_rfl))
   obtain ⟨q1, q3, q2⟩ := hj
   show vs' 27 = .slice (some ⟨(iv' 27).1, 0, none⟩) 1 1 ∧ (iv' 27).2 = (iv' 27).1 + 1 ∧ Blk wx' (iv' 27).1 4 [.bool Z]
   rw [← e27, ← g27]
   exact ⟨q1, q3, q2.keep (hk.out _ q2.lt (foot_own (Nat.le_refl _) (by omega)))⟩
  ·
   have e28 := hv.out 28 (mem_of (by kernel_rfl))
   obtain ⟨g, cap, q1, q2⟩ := hj
   exact ⟨g, cap, e28 ▸ q1, (q2.keep (fun b hb h1 => hk.out b hb h1)).more (fun b hb h1 => foot_agree (l := ancs _ 30 28) (by exact of_decide_eq_true (by kernel_rfl)) ha.out h1)⟩
  ·
   have e28 := hv.out 28 (mem_of (by kernel_rfl))
   have e29 := hv.out 29 (mem_of (by kernel_rfl))
   have hj' : vs 29 = vs 28 := hj
   show vs' 29 = vs' 28
   rw [← e28, ← e29]
   exact hj'
 case hE =>
  intro i hi iv vs wx hj
  simp only [List.mem_cons, List.not_mem_nil, or_false] at hi
  rcases hi with rfl | rfl | rfl | rfl | rfl | rfl | rfl | rfl | rfl | rfl | rfl | rfl | rfl | rfl | rfl | rfl | rfl | rfl | rfl | rfl | rfl | rfl | rfl | rfl | rfl | rfl | rfl | rfl | rfl | rfl
  ·
   exact hj
  ·
   exact hj
  ·
   exact hj
  ·
   exact hj
  ·
   exact hj
  ·
   exact hj
  ·
   exact hj
  ·
   exact hj
  ·
   exact hj
  ·
   exact hj
  ·
   exact hj
  ·
   exact hj
  ·
   exact hj
  ·
   exact hj
  ·
   exact hj
  ·
   exact hj
  ·
   exact hj
  ·
   exact hj
  ·
   exact hj
  ·
   exact hj
  ·
   exact hj
  ·
   exact hj
  ·
   exact hj
  ·
   exact hj
  ·
   exact hj
  ·
   exact hj
  ·
   exact hj
  ·
   exact ⟨hj.1, hj.2.1⟩
  ·
   obtain ⟨g, cap, q1, -⟩ := hj
   exact ⟨g, cap, q1⟩
  ·
   exact hj
 case hEE =>
  intro i hi iv iv' vs vs' ha hv hj
  simp only [List.mem_cons, List.not_mem_nil, or_false] at hi
  rcases hi with rfl | rfl | rfl | rfl | rfl | rfl | rfl | rfl | rfl | rfl | rfl | rfl | rfl | rfl | rfl | rfl | rfl | rfl | rfl | rfl | rfl | rfl | rfl | rfl | rfl | rfl | rfl | rfl | rfl | rfl
  ·
   exact (hv.out 0 (mem_of (by kernel_rfl))).symm.trans hj
  ·
   exact (hv.out 1 (mem_of (by kernel_rfl))).symm.trans hj
  ·
   exact (hv.out 2 (mem_of (by kernel_rfl))).symm.trans hj
  ·
   have e2 := hv.out 2 (mem_of (by kernel_rfl))
   have e3 := hv.out 3 (mem_of (by kernel_rfl))
   have hj' : vs 3 = vs 2 := hj
   show vs' 3 = vs' 2
   rw [← e2, ← e3]
   exact hj'
  ·
   exact (hv.out 4 (mem_of (by kernel_rfl))).symm.trans hj
  ·
   exact (hv.out 5 (mem_of (by kernel_rfl))).symm.trans hj
  ·
   exact (hv.out 6 (mem_of (by kernel_rfl))).symm.trans hj
  ·
   exact (hv.out 7 (mem_of (by kernel_rfl))).symm.trans hj
  ·
   exact (hv.out 8 (mem_of (by kernel_rfl))).symm.trans hj
  ·
   exact (hv.out 9 (mem_of (by kernel_rfl))).symm.trans hj
  ·
   exact (hv.out 10 (mem_of (by kernel_rfl))).symm.trans hj
  ·
   exact (hv.out 11 (mem_of (by kernel_rfl))).symm.trans hj
  ·
   exact (hv.out 12 (mem_of (by kernel_rfl))).symm.trans hj
  ·
   exact (hv.out 13 (mem_of (by kernel_rfl))).symm.trans hj
  ·
   exact (hv.out 14 (mem_of (by kernel_rfl))).symm.trans hj
  ·
   have e14 := hv.out 14 (mem_of (by kernel_rfl))
   have e15 := hv.out 15 (mem_of (by kernel_rfl))
   have hj' : vs 15 = vs 14 := hj
   show vs' 15 = vs' 14
   rw [← e14, ← e15]
   exact hj'
  ·
   trivial
  ·
   trivial
  ·
   trivial
  ·
   trivial
  ·
   trivial
  ·
   trivial
  ·
   trivial
  ·
   trivial
  ·
   exact (hv.out 24 (mem_of (by kernel_rfl))).symm.trans hj
  ·
   exact (hv.out 25 (mem_of (by kernel_rfl))).symm.trans hj
  ·
   exact (hv.out 26 (mem_of (by kernel_rfl))).symm.trans hj
  ·
   have e27 := hv.out 27 (mem_of (by kernel_rfl))
   have g27 := ha.out 27 (mem_of (by kernel_rfl))
   have hj' : vs 27 = .slice (some ⟨(iv 27).1, 0, none⟩) 1 1 ∧ (iv 27).2 = (iv 27).1 + 1 := hj
   show vs' 27 = .slice (some ⟨(iv' 27).1, 0, none⟩) 1 1 ∧ (iv' 27).2 = (iv' 27).1 + 1
   rw [← e27, ← g27]
   exact hj'
  ·
   have e28 := hv.out 28 (mem_of (by kernel_rfl))
   have hj' : ∃ g cap, vs 28 = .slice (some ⟨g, 0, none⟩) (m + 1) cap := hj
   show ∃ g cap, vs' 28 = .slice (some ⟨g, 0, none⟩) (m + 1) cap
   rw [← e28]
   exact hj'
  ·
   have e28 := hv.out 28 (mem_of (by kernel_rfl))
   have e29 := hv.out 29 (mem_of (by kernel_rfl))
   have hj' : vs 29 = vs 28 := hj
   show vs' 29 = vs' 28
   rw [← e28, ← e29]
   exact hj'
 case hstep =>
  intro i hi opr ho iv vs w1 hB hS hSo hd he hbd hsep hun K hK
  simp only [List.mem_cons, List.not_mem_nil, or_false] at hi
  have hzB := hB.size
  have HGb := Lib.hid hGb
  clear hGb hGd
  have hbw := HW.out.2.trans hB
  have hwb : Below w.heap.size w w1 := hB3.trans (hbw.mono hB3.size)
  obtain ⟨xa0, xa1, xa2, xa3, -, -, -, -, ltA⟩ := (HXb.out.below hbw).all4
  obtain ⟨ya0, ya1, ya2, ya3, -, -, -, -, ltB⟩ := (HYb.out.below hbw).all4
  have k11 := (hwb.cell (p := ⟨ub1, uo1 + s1, none⟩) hul1).trans b01
  have k12 := (hwb.cell (p := ⟨vb1, vo1 + m, none⟩) hvl1).trans q01
  generalize hA : putFrom _ 0 vs _ = A at hK ⊢
  simp only [putFrom, puts] at hA
  rcases hi with rfl | rfl | rfl | rfl | rfl | rfl | rfl | rfl | rfl | rfl | rfl | rfl | rfl | rfl | rfl | rfl | rfl | rfl | rfl | rfl | rfl | rfl | rfl | rfl | rfl | rfl | rfl | rfl | rfl | rfl
  all_goals
   simp at ho
   subst ho
   subst hA
  ·
   have un29 : vs 29 = .slice a5 m c5 := hun.out 29 (mem_of (by kernel_rfl))
   go_wp2_with fail
   exact Onward.mk (hK (.slice a5 m c5) _ _ (fun h => by cases h) (by first | rfl | (simp only [puts, un29])) (Spares.refl _) (fun iv' _ _ => rfl))
  ·
   go_wp2_with fail
   refine Onward.mk (hK ?val2_1 _ _ (fun h => by cases h) ?eqA (Spares.refl _) (fun iv' _ _ => ?ja))
   case eqA => first | rfl | (simp only [puts]; rfl)
   case ja => exact hx1.out.symm
  ·
   have h1 := (hd.out 1 (mem_of (by kernel_rfl)) (by decide) (by kernel_rfl)).trans hx1.out
   go_wp2_with fail
   refine Onward.mk (hK ?val2_2 _ _ (fun h => by cases h) ?eqA (Spares.refl _) (fun iv' _ _ => ?ja))
   case eqA => first | rfl | (simp only [puts, h1]; rfl)
   case ja => exact hx2.out.symm
  ·
   have h2 := (hd.out 2 (mem_of (by kernel_rfl)) (by decide) (by kernel_rfl)).trans hx2.out
   go_wp2_with fail
   refine Onward.mk (hK ?val2_3 _ _ (fun h => by cases h) ?eqA (Spares.refl _) (fun iv' _ _ => ?ja))
   case eqA => first | rfl | (simp only [puts, h2]; rfl)
   case ja => show _ = vs 2; simp only [h2]; rfl
  ·
   have h3 : vs 3 = vs 2 := hd.out 3 (mem_of (by kernel_rfl)) (by decide) (by kernel_rfl)
   have h2 := (hd.out 2 (mem_of (by kernel_rfl)) (by decide) (by kernel_rfl)).trans hx2.out
   go_wp2_with fail
   refine Onward.mk (hK ?val2_4 _ _ (fun h => by cases h) ?eqA (Spares.refl _) (fun iv' _ _ => ?ja))
   case eqA => first | rfl | (simp only [puts, h3, h2]; rfl)
   case ja => exact hx4.out.symm
  ·
   have h4 := (hd.out 4 (mem_of (by kernel_rfl)) (by decide) (by kernel_rfl)).trans hx4.out
   have h3 : vs 3 = vs 2 := hd.out 3 (mem_of (by kernel_rfl)) (by decide) (by kernel_rfl)
   have h2 := (hd.out 2 (mem_of (by kernel_rfl)) (by decide) (by kernel_rfl)).trans hx2.out
   go_wp2_with fail
   refine Onward.mk (hK ?val2_5 _ _ (fun h => by cases h) ?eqA (Spares.refl _) (fun iv' _ _ => ?ja))
   case eqA => first | rfl | (simp only [puts, h4, h3, h2]; rfl)
   case ja => exact hx5.out.symm
  ·
   have h3 : vs 3 = vs 2 := hd.out 3 (mem_of (by kernel_rfl)) (by decide) (by kernel_rfl)
   have h2 := (hd.out 2 (mem_of (by kernel_rfl)) (by decide) (by kernel_rfl)).trans hx2.out
   go_wp2_with fail
   refine Onward.mk (hK ?val2_6 _ _ (fun h => by cases h) ?eqA (Spares.refl _) (fun iv' _ _ => ?ja))
   case eqA => first | rfl | (simp only [puts, h3, h2]; rfl)
   case ja => exact hx6.out.symm
  ·
   have h5 := (hd.out 5 (mem_of (by kernel_rfl)) (by decide) (by kernel_rfl)).trans hx5.out
   have h6 := (hd.out 6 (mem_of (by kernel_rfl)) (by decide) (by kernel_rfl)).trans hx6.out
   have h3 : vs 3 = vs 2 := hd.out 3 (mem_of (by kernel_rfl)) (by decide) (by kernel_rfl)
   have h2 := (hd.out 2 (mem_of (by kernel_rfl)) (by decide) (by kernel_rfl)).trans hx2.out
   go_wp2_with fail
   refine Onward.mk (hK ?val2_7 _ _ (fun h => by cases h) ?eqA (Spares.refl _) (fun iv' _ _ => ?ja))
   case eqA => first | rfl | (simp only [puts, h5, h6, h3, h2]; rfl)
   case ja => exact hx7.out.symm
  ·
   have h7 := (hd.out 7 (mem_of (by kernel_rfl)) (by decide) (by kernel_rfl)).trans hx7.out
   have h3 : vs 3 = vs 2 := hd.out 3 (mem_of (by kernel_rfl)) (by decide) (by kernel_rfl)
   have h2 := (hd.out 2 (mem_of (by kernel_rfl)) (by decide) (by kernel_rfl)).trans hx2.out
   go_wp2_with fail
   refine Onward.mk (hK ?val2_8 _ _ (fun h => by cases h) ?eqA (Spares.refl _) (fun iv' _ _ => ?ja))
   case eqA => first | rfl | (simp only [puts, h7, h3, h2]; rfl)
   case ja => exact hx8.out.symm
  ·
   have h3 : vs 3 = vs 2 := hd.out 3 (mem_of (by kernel_rfl)) (by decide) (by kernel_rfl)
   have h2 := (hd.out 2 (mem_of (by kernel_rfl)) (by decide) (by kernel_rfl)).trans hx2.out
   go_wp2_with fail
   refine Onward.mk (hK ?val2_9 _ _ (fun h => by cases h) ?eqA (Spares.refl _) (fun iv' _ _ => ?ja))
   case eqA => first | rfl | (simp only [puts, h3, h2]; rfl)
   case ja => exact hx9.out.symm
  ·
   have h8 := (hd.out 8 (mem_of (by kernel_rfl)) (by decide) (by kernel_rfl)).trans hx8.out
   have h9 := (hd.out 9 (mem_of (by kernel_rfl)) (by decide) (by kernel_rfl)).trans hx9.out
   have h3 : vs 3 = vs 2 := hd.out 3 (mem_of (by kernel_rfl)) (by decide) (by kernel_rfl)
   have h2 := (hd.out 2 (mem_of (by kernel_rfl)) (by decide) (by kernel_rfl)).trans hx2.out
   go_wp2_with fail
   refine Onward.mk (hK ?val2_10 _ _ (fun h => by cases h) ?eqA (Spares.refl _) (fun iv' _ _ => ?ja))
   case eqA => first | rfl | (simp only [puts, h8, h9, h3, h2]; rfl)
   case ja => exact hx10.out.symm
  ·
   have h10 := (hd.out 10 (mem_of (by kernel_rfl)) (by decide) (by kernel_rfl)).trans hx10.out
   have h3 : vs 3 = vs 2 := hd.out 3 (mem_of (by kernel_rfl)) (by decide) (by kernel_rfl)
   have h2 := (hd.out 2 (mem_of (by kernel_rfl)) (by decide) (by kernel_rfl)).trans hx2.out
   go_wp2_with fail
   refine Onward.mk (hK ?val2_11 _ _ (fun h => by cases h) ?eqA (Spares.refl _) (fun iv' _ _ => ?ja))
   case eqA => first | rfl | (simp only [puts, h10, h3, h2]; rfl)
   case ja => exact hx11.out.symm
  ·
   have h3 : vs 3 = vs 2 := hd.out 3 (mem_of (by kernel_rfl)) (by decide) (by kernel_rfl)
   have h11 := (hd.out 11 (mem_of (by kernel_rfl)) (by decide) (by kernel_rfl)).trans hx11.out
   have h2 := (hd.out 2 (mem_of (by kernel_rfl)) (by decide) (by kernel_rfl)).trans hx2.out
   go_wp2_with fail
   refine Onward.mk (hK ?val2_12 _ _ (fun h => by cases h) ?eqA (Spares.refl _) (fun iv' _ _ => ?ja))
   case eqA => first | rfl | (simp only [puts, h3, h11, h2]; rfl)
   case ja => exact hx12.out.symm
  ·
   go_wp2_with fail
   refine Onward.mk (hK ?val2_13 _ _ (fun h => by cases h) ?eqA (Spares.refl _) (fun iv' _ _ => ?ja))
   case eqA => first | rfl | (simp only [puts]; rfl)
   case ja => exact hx13.out.symm
  ·
   have h13 := (hd.out 13 (mem_of (by kernel_rfl)) (by decide) (by kernel_rfl)).trans hx13.out
   go_wp2_with fail
   refine Onward.mk (hK ?val2_14 _ _ (fun h => by cases h) ?eqA (Spares.refl _) (fun iv' _ _ => ?ja))
   case eqA => first | rfl | (simp only [puts, h13]; rfl)
   case ja => exact hx14.out.symm
  ·
   have h14 := (hd.out 14 (mem_of (by kernel_rfl)) (by decide) (by kernel_rfl)).trans hx14.out
   go_wp2_with fail
   refine Onward.mk (hK ?val2_15 _ _ (fun h => by cases h) ?eqA (Spares.refl _) (fun iv' _ _ => ?ja))
   case eqA => first | rfl | (simp only [puts, h14]; rfl)
   case ja => show _ = vs 14; simp only [h14]; rfl
  ·
   have h15 : vs 15 = vs 14 := hd.out 15 (mem_of (by kernel_rfl)) (by decide) (by kernel_rfl)
   have h14 := (hd.out 14 (mem_of (by kernel_rfl)) (by decide) (by kernel_rfl)).trans hx14.out
   go_wp2_with fail
   exact Onward.mk (hK undef _ _ (fun h => by cases h) (by first | rfl | simp only [puts, h15, h14]) (Spares.refl _) (fun iv' _ _ => trivial))
  ·
   have h15 : vs 15 = vs 14 := hd.out 15 (mem_of (by kernel_rfl)) (by decide) (by kernel_rfl)
   have h14 := (hd.out 14 (mem_of (by kernel_rfl)) (by decide) (by kernel_rfl)).trans hx14.out
   go_wp2_with fail
   exact Onward.mk (hK undef _ _ (fun h => by cases h) (by first | rfl | simp only [puts, h15, h14]) (Spares.refl _) (fun iv' _ _ => trivial))
  ·
   have h15 : vs 15 = vs 14 := hd.out 15 (mem_of (by kernel_rfl)) (by decide) (by kernel_rfl)
   have h14 := (hd.out 14 (mem_of (by kernel_rfl)) (by decide) (by kernel_rfl)).trans hx14.out
   go_wp2_with fail
   exact Onward.mk (hK undef _ _ (fun h => by cases h) (by first | rfl | simp only [puts, h15, h14]) (Spares.refl _) (fun iv' _ _ => trivial))
  ·
   have h15 : vs 15 = vs 14 := hd.out 15 (mem_of (by kernel_rfl)) (by decide) (by kernel_rfl)
   have h14 := (hd.out 14 (mem_of (by kernel_rfl)) (by decide) (by kernel_rfl)).trans hx14.out
   go_wp2_with fail
   exact Onward.mk (hK undef _ _ (fun h => by cases h) (by first | rfl | simp only [puts, h15, h14]) (Spares.refl _) (fun iv' _ _ => trivial))
  ·
   have h15 : vs 15 = vs 14 := hd.out 15 (mem_of (by kernel_rfl)) (by decide) (by kernel_rfl)
   have h14 := (hd.out 14 (mem_of (by kernel_rfl)) (by decide) (by kernel_rfl)).trans hx14.out
   go_wp2_with fail
   exact Onward.mk (hK undef _ _ (fun h => by cases h) (by first | rfl | simp only [puts, h15, h14]) (Spares.refl _) (fun iv' _ _ => trivial))
  ·
   have h15 : vs 15 = vs 14 := hd.out 15 (mem_of (by kernel_rfl)) (by decide) (by kernel_rfl)
   have h14 := (hd.out 14 (mem_of (by kernel_rfl)) (by decide) (by kernel_rfl)).trans hx14.out
   go_wp2_with fail
   exact Onward.mk (hK undef _ _ (fun h => by cases h) (by first | rfl | simp only [puts, h15, h14]) (Spares.refl _) (fun iv' _ _ => trivial))
  ·
   have h15 : vs 15 = vs 14 := hd.out 15 (mem_of (by kernel_rfl)) (by decide) (by kernel_rfl)
   have h14 := (hd.out 14 (mem_of (by kernel_rfl)) (by decide) (by kernel_rfl)).trans hx14.out
   go_wp2_with fail
   exact Onward.mk (hK undef _ _ (fun h => by cases h) (by first | rfl | simp only [puts, h15, h14]) (Spares.refl _) (fun iv' _ _ => trivial))
  ·
   have h15 : vs 15 = vs 14 := hd.out 15 (mem_of (by kernel_rfl)) (by decide) (by kernel_rfl)
   have h14 := (hd.out 14 (mem_of (by kernel_rfl)) (by decide) (by kernel_rfl)).trans hx14.out
   go_wp2_with fail
   exact Onward.mk (hK undef _ _ (fun h => by cases h) (by first | rfl | simp only [puts, h15, h14]) (Spares.refl _) (fun iv' _ _ => trivial))
  ·
   have h15 : vs 15 = vs 14 := hd.out 15 (mem_of (by kernel_rfl)) (by decide) (by kernel_rfl)
   skip
   have h14 := (hd.out 14 (mem_of (by kernel_rfl)) (by decide) (by kernel_rfl)).trans hx14.out
   go_wp2_with fail
   refine Onward.mk (hK ?val2_24 _ _ (fun h => by cases h) ?eqA (Spares.refl _) (fun iv' _ _ => ?ja))
   case eqA => first | rfl | (simp only [puts, h15, h14]; rfl)
   case ja => exact hx24.out.symm
  ·
   go_wp2_with fail
   refine Onward.mk (hK ?val2_25 _ _ (fun h => by cases h) ?eqA (Spares.refl _) (fun iv' _ _ => ?ja))
   case eqA => first | rfl | (simp only [puts]; rfl)
   case ja => exact hx25.out.symm
  ·
   have h12 := (hd.out 12 (mem_of (by kernel_rfl)) (by decide) (by kernel_rfl)).trans hx12.out
   have h24 := (hd.out 24 (mem_of (by kernel_rfl)) (by decide) (by kernel_rfl)).trans hx24.out
   have h25 := (hd.out 25 (mem_of (by kernel_rfl)) (by decide) (by kernel_rfl)).trans hx25.out
   go_wp2_with fail
   refine (mixed_b HZ.out).mono ?_
   rintro e w2 ⟨rfl, hb⟩
   go_wp2_with fail
   exact Onward.mk (hK (.bool Z) _ _ (fun h => by cases h) (by first | rfl | (simp only [puts, h12, h24, h25])) (Spares.of_below hb) (fun iv' _ _ => rfl))
  ·
   have h26 : vs 26 = .bool Z := hd.out 26 (mem_of (by kernel_rfl)) (by decide) (by kernel_rfl)
   go_wp2_with fail
   exact Onward.mk (hK (.slice (some ⟨w1.heap.size, 0, none⟩) 1 1) _ _ (fun h => by cases h) (by first | rfl | (simp only [puts, h26])) (Spares.of_below (Below.alloc (Below.refl _ _) (Nat.le_refl _) _)) (fun iv' _ hi => by
    show Value.slice (some ⟨w1.heap.size, 0, none⟩) 1 1 = .slice (some ⟨(iv' 27).1, 0, none⟩) 1 1 ∧ (iv' 27).2 = (iv' 27).1 + 1 ∧ Blk _ (iv' 27).1 4 [.bool Z]
    rw [hi]
    exact ⟨rfl, by simp, Blk.new1 _ _ _⟩))
  ·
   have h0 : vs 0 = .slice a5 m c5 := hd.out 0 (mem_of (by kernel_rfl)) (by decide) (by kernel_rfl)
   obtain ⟨h27, q27, f27⟩ := hd.out 27 (mem_of (by kernel_rfl)) (by decide) (by kernel_rfl)
   have V01 := V0.keep (fun b _ hb => hS.out 0 b (by kernel_rfl) ⟨rfl, hb⟩)
   simp only [h0, h27]
   have f27' : Blk w1 (iv 27).1 4 [.bool Z] := by first | exact f27 | (rw [h27] at f27; exact f27)
   refine wpList_append_s w1 (by rfl) _ _ 77 (by rfl) 4 ((.bool false)) 1 1 Try.underlying77 rn_bl rfl (by decide) (S := (fun b => (w3.heap.size ≤ b ∧ b < wm.heap.size ∧ own b = 5))) (T := (fun _ => False)) _ (by rfl) V01 ⟨(iv 27).1, 0, none⟩ 1 1 [.bool Z] (by rfl) (news_blk f27') (rn_noneb) (fun _ _ _ h => h) (by simp) (by simp [Value.oneCell']) (by omega) (by omega) (by unfold maxLen; omega) ?_
   intro g cap w2 hap ht
   go_wp2_with fail
   exact Onward.mk (hK (.slice (some ⟨g, 0, none⟩) (m + 1) cap) _ _ (fun h => by cases h) (by first | rfl | (simp only [puts, h0, h27])) (ht.more (fun b h => Or.inl ⟨0, by decide, ⟨rfl, h⟩⟩)) (fun iv' ag hi => ⟨g, cap, rfl, hap.more (fun b _ h => by rcases h with h | h | h; exact foot_given 0 (by decide) ⟨rfl, h⟩; exact h.elim; exact foot_new hi h.1 h.2)⟩))
  ·
   obtain ⟨g28, cap28, h28, f28⟩ := hd.out 28 (mem_of (by kernel_rfl)) (by decide) (by kernel_rfl)
   go_wp2_with fail
   refine Onward.mk (hK ?val2_29 _ _ (fun h => by cases h) ?eqA (Spares.refl _) (fun iv' _ _ => ?ja))
   case eqA => first | rfl | (simp only [puts, h28]; rfl)
   case ja => show _ = vs 28; simp only [h28]; rfl
 case hQ =>
  intro iv vs wx hB hSp hd he hbd hsep
  have hzB := hB.size
  have h0 : vs 0 = .slice a5 m c5 := hd.out 0 (mem_of (by kernel_rfl)) (not_eaten (by kernel_rfl))
  have h1 := (hd.out 1 (mem_of (by kernel_rfl)) (not_eaten (by kernel_rfl))).trans hx1.out
  have h2 := (hd.out 2 (mem_of (by kernel_rfl)) (not_eaten (by kernel_rfl))).trans hx2.out
  have h3 : vs 3 = vs 2 := hd.out 3 (mem_of (by kernel_rfl)) (not_eaten (by kernel_rfl))
  have h4 := (hd.out 4 (mem_of (by kernel_rfl)) (not_eaten (by kernel_rfl))).trans hx4.out
  have h5 := (hd.out 5 (mem_of (by kernel_rfl)) (not_eaten (by kernel_rfl))).trans hx5.out
  have h6 := (hd.out 6 (mem_of (by kernel_rfl)) (not_eaten (by kernel_rfl))).trans hx6.out
  have h7 := (hd.out 7 (mem_of (by kernel_rfl)) (not_eaten (by kernel_rfl))).trans hx7.out
  have h8 := (hd.out 8 (mem_of (by kernel_rfl)) (not_eaten (by kernel_rfl))).trans hx8.out
  have h9 := (hd.out 9 (mem_of (by kernel_rfl)) (not_eaten (by kernel_rfl))).trans hx9.out
  have h10 := (hd.out 10 (mem_of (by kernel_rfl)) (not_eaten (by kernel_rfl))).trans hx10.out
  have h11 := (hd.out 11 (mem_of (by kernel_rfl)) (not_eaten (by kernel_rfl))).trans hx11.out
  have h12 := (hd.out 12 (mem_of (by kernel_rfl)) (not_eaten (by kernel_rfl))).trans hx12.out
  have h13 := (hd.out 13 (mem_of (by kernel_rfl)) (not_eaten (by kernel_rfl))).trans hx13.out
  have h14 := (hd.out 14 (mem_of (by kernel_rfl)) (not_eaten (by kernel_rfl))).trans hx14.out
  have h15 : vs 15 = vs 14 := hd.out 15 (mem_of (by kernel_rfl)) (not_eaten (by kernel_rfl))
  skip
  skip
  skip
  skip
  skip
  skip
  skip
  skip
  have h24 := (hd.out 24 (mem_of (by kernel_rfl)) (not_eaten (by kernel_rfl))).trans hx24.out
  have h25 := (hd.out 25 (mem_of (by kernel_rfl)) (not_eaten (by kernel_rfl))).trans hx25.out
  have h26 : vs 26 = .bool Z := hd.out 26 (mem_of (by kernel_rfl)) (not_eaten (by kernel_rfl))
  obtain ⟨h27, q27, f27⟩ := hd.out 27 (mem_of (by kernel_rfl)) (not_eaten (by kernel_rfl))
  obtain ⟨g28, cap28, h28, f28⟩ := hd.out 28 (mem_of (by kernel_rfl)) (not_eaten (by kernel_rfl))
  have h29 : vs 29 = vs 28 := hd.out 29 (mem_of (by kernel_rfl)) (not_eaten (by kernel_rfl))
  have lo28 : ∀ b, foot [] [(28, 0)] (fun m b => (m = 0 ∧ (w3.heap.size ≤ b ∧ b < wm.heap.size ∧ own b = 5))) 30 28 iv b → (w3.heap.size) ≤ b := by
   rintro b ⟨j, hj, hh⟩
   have hj' := of_decide_eq_true (List.all_eq_true.1 (show ((chainOf [] 30 28).all fun j => decide (j ∈ [28])) = true from by kernel_rfl) j hj)
   simp only [List.mem_cons, List.not_mem_nil, or_false] at hj'
   rcases hj' with rfl
   ·
    have q := (hbd.out 28 (mem_of (by kernel_rfl))).1
    rcases hh with hh | ⟨m, hm, hg⟩
    ·
     omega
    ·
     simp at hm
     subst hm
     simp at hg
     have q' := V0f b hg
     omega
  simp only [putFrom, puts]
  have so28 : ∀ b, (foot [] [(28, 0)] (fun m b => (m = 0 ∧ (w3.heap.size ≤ b ∧ b < wm.heap.size ∧ own b = 5))) 30 28 iv) b → (w3.heap.size ≤ b ∧ b < wm.heap.size ∧ own b = 5) ∨ (wm).heap.size ≤ b := by
   rintro b ⟨j, hj, hh⟩
   have hj' := of_decide_eq_true (List.all_eq_true.1 (show ((chainOf [] 30 28).all fun j => decide (j ∈ [28])) = true from by kernel_rfl) j hj)
   simp only [List.mem_cons, List.not_mem_nil, or_false] at hj'
   rcases hj' with rfl
   ·
    have q := (hbd.out 28 (mem_of (by kernel_rfl))).1
    rcases hh with hh | ⟨m, hm, hg⟩
    ·
     exact Or.inr (by omega)
    ·
     simp at hm; subst hm; simp at hg; exact Or.inl hg
  simp only [h29, h28]
  clear hd he hbd hsep h0 h1 h2 h3 h4 h5 h6 h7 h8 h9 h10 h11 h12 h13 h14 h15  h24 h25 h26 h27 h28 h29 q27 f27
  refine HK.out g28 cap28 wx _ _ _ _ _ _ _ _ _ _ _ _ _ _ _ _ _ _ _ _ _ _ _ _ _ _ _ _ _ ⟨?_, HW.out.2.trans hB⟩
  exact Bun.turn_app Hown.out hSp.out.size (by omega) 5 (fun bb hb hn => hSp.out.block bb hb (fun ⟨mm, hmm⟩ => hn hmm.2)) f28 (fun bb _ hS => so28 bb hS)
set_option maxRecDepth 1000000 in
set_option maxHeartbeats 16000000 in
theorem mix12_ft {t a mix : Int} {ac bc : List (List Bool)} {nx ny : List (List (List Int))} {u u' : Option Addr} {ub1 uo1 ub2 uo2 c c' d d' : Nat} {w w3 wm : World} {am aA aX a5 : Option Addr} {ri cm cA cX c5 m g gA : Nat} {Lm : List (Int × Int)} {MA : List (List Bool)} {MX : List (List (List Int))} {ds : List D} {it : Item} {x1 : Int} {s2 : Nat}
  (hB3 : Below w.heap.size w w3) (X : Blk w3 w.heap.size 31 [.int .i64 t, .int .i64 a, .slice (some ⟨ub1, uo1, none⟩) ac.length c, .slice u nx.length d]) (Y : Blk w3 (w.heap.size + 1) 31 [.int .i64 t, .int .i64 a, .slice (some ⟨ub2, uo2, none⟩) bc.length c', .slice u' ny.length d'])
  (hr : Rd w (bbD ac) (.slice (some ⟨ub1, uo1, none⟩) ac.length c)) (hr' : Rd w (bbD bc) (.slice (some ⟨ub2, uo2, none⟩) bc.length c')) (hok : AutOk t a ac nx) (hok' : AutOk t a bc ny) (hmat : (m : Int) < atomsN t) (hm8 : m < 8) (hx2 : x1 < 0) (hx4 : (s2 : Int) < bc.length)
  (hW : MiW w3.heap.size g gA t a w3 wm Lm ri MA MX (.slice am Lm.length cm) (.slice aA ri cA) (.slice aX ri cX) [.app 4 1 m ds (.slice a5 m c5), it])
  {K : Act → World → Prop} {Q' : Exit → Act → World → Prop} {y0 y1 y5 y6 y7 y8 y9 y10 y11 y15 y17 y18 y19 y20 y21 y22 y23 y24 y25 y26 y27 y28 y29 y30 y31 y32 y33 y34 y35 y36 y37 y38 y39 y40 y41 y42 y43 y44 y45 y46 y47 y48 y49 y50 y51 y52 y53 y54 y55 y56 y57 y58 y59 y60 y61 y62 y63 y64 y65 y66 y67 y68 y69 y70 y71 y72 y73 y74 y75 y76 y77 y78 y79 y80 y81 y82 y83 y84 y85 y86 y87 y88 y89 y90 y91 y92 y93 y94 y95 y96 y97 y98 y99 y100 y101 y102 y103 y104 y105 y106 y107 y108 y109 y110 y111 y112 y113 y114 y115 y116 y117 y118 y119 y120 y121 y122 y123 y124 y125 y126 y127 y128 y129 y130 y131 y132 y133 y134 y135 y136 y137 y138 y139 y140 y141 y142 y143 y144 y145 y146 : Value}
  (hK : ∀ (g8 cap8 : Nat) (wx : World) (u55 u56 u57 u58 u59 u60 u61 u62 u63 u64 u65 u66 u67 u68 u69 u70 u71 u72 u73 u74 u75 u76 u77 u78 u79 u80 u81 u82 u83 : Value), MiW w3.heap.size g gA t a w3 wx Lm ri MA MX (.slice am Lm.length cm) (.slice aA ri cA) (.slice aX ri cX) [.app 4 1 (m + 1) (ds ++ [.bool (mixB mix (hasN ac x1 m) (hasN bc (s2 : Int) m))]) (.slice (some ⟨g8, 0, none⟩) (m + 1) cap8), it] → K ⟨#[y0, y1, .int .i64 mix, .pointer (some ⟨w.heap.size, 0, none⟩), .pointer (some ⟨w.heap.size + 1, 0, none⟩), y5, y6, y7, y8, y9, y10, y11, .int .i64 x1, .int .i64 (s2 : Int), .slice (some ⟨g8, 0, none⟩) (m + 1) cap8, y15, .int .i64 m, y17, y18, y19, y20, y21, y22, y23, y24, y25, y26, y27, y28, y29, y30, y31, y32, y33, y34, y35, y36, y37, y38, y39, y40, y41, y42, y43, y44, y45, y46, y47, y48, y49, y50, y51, y52, y53, y54, u55, u56, u57, u58, u59, u60, u61, u62, u63, u64, u65, u66, u67, u68, u69, u70, u71, u72, u73, u74, u75, u76, u77, u78, u79, u80, u81, u82, u83, y84, y85, y86, y87, y88, y89, y90, y91, y92, y93, y94, y95, y96, y97, y98, y99, y100, y101, y102, y103, y104, y105, y106, y107, y108, y109, y110, y111, y112, y113, y114, y115, y116, y117, y118, y119, y120, y121, y122, y123, y124, y125, y126, y127, y128, y129, y130, y131, y132, y133, y134, y135, y136, y137, y138, y139, y140, y141, y142, y143, y144, y145, y146], []⟩ wx) :
  Code.wp Try.prog mixR12 (Exit.then K Q') ⟨#[y0, y1, .int .i64 mix, .pointer (some ⟨w.heap.size, 0, none⟩), .pointer (some ⟨w.heap.size + 1, 0, none⟩), y5, y6, y7, y8, y9, y10, y11, .int .i64 x1, .int .i64 (s2 : Int), .slice a5 m c5, y15, .int .i64 m, y17, y18, y19, y20, y21, y22, y23, y24, y25, y26, y27, y28, y29, y30, y31, y32, y33, y34, y35, y36, y37, y38, y39, y40, y41, y42, y43, y44, y45, y46, y47, y48, y49, y50, y51, y52, y53, y54, y55, y56, y57, y58, y59, y60, y61, y62, y63, y64, y65, y66, y67, y68, y69, y70, y71, y72, y73, y74, y75, y76, y77, y78, y79, y80, y81, y82, y83, y84, y85, y86, y87, y88, y89, y90, y91, y92, y93, y94, y95, y96, y97, y98, y99, y100, y101, y102, y103, y104, y105, y106, y107, y108, y109, y110, y111, y112, y113, y114, y115, y116, y117, y118, y119, y120, y121, y122, y123, y124, y125, y126, y127, y128, y129, y130, y131, y132, y133, y134, y135, y136, y137, y138, y139, y140, y141, y142, y143, y144, y145, y146], []⟩ wm := by
 have hd1 : decide (0 ≤ x1) = false := by apply decide_eq_false; omega
 have e01 : hasN ac x1 m = false := hasN_neg (by omega)
 rw [e01] at hK
 clear e01
 obtain ⟨ar2, z2, har2, hz2, e2⟩ := hok'.acc (s := s2) (x := m) (by omega) hmat
 obtain ⟨hcx2, hcy2⟩ := nest_bd hr'
 unfold maxLen at hcy2
 obtain ⟨hul2, sn2, cn2, b02, rb2⟩ := nest_sl (g := D.bool) hr' har2
 have hml2 := (List.getElem?_eq_some_iff.1 hz2).1
 obtain ⟨vb2, vo2, rfl⟩ := nest_some (f := D.bool) rb2 (by omega)
 obtain ⟨hcp2, hcq2⟩ := nest_bd rb2
 unfold maxLen at hcq2
 obtain ⟨hvl2, q02⟩ := bool_in rb2 hz2
 have hsp2 := Int.natCast_nonneg s2
 have i12 : (s2 : Int) < ((bc).length : Int) := by omega
 have i22 : (m : Int) < (ar2.length : Int) := by omega
 have e02 : hasN bc (s2 : Int) m = z2 := by rw [hasN_pos, e2]
 rw [e02] at hK
 clear har2 hz2 rb2 e2 e02 hr'
 obtain ⟨Z, hZ⟩ : ∃ v, mixB mix false z2 = v := ⟨_, rfl⟩
 rw [hZ] at hK
 have HK := Lib.hid hK
 have HZ := Lib.hid hZ
 have HW := Lib.hid hW
 have HXb := Lib.hid X
 have HYb := Lib.hid Y
 have hzm := hW.2.size
 obtain ⟨own, hown⟩ := hW.1
 have V0 := hown 5 _ rfl
 have V0f := fun (b : Nat) (h : w3.heap.size ≤ b ∧ b < wm.heap.size ∧ own b = 5) => And.intro h.1 h.2.1
 have Hown := Lib.hid hown
 have hm0 := Int.natCast_nonneg m
 obtain ⟨_, _, e5, q1, q2⟩ := hW.1.shape 5 rfl
 simp only [Value.slice.injEq, true_and] at e5
 obtain ⟨rfl, rfl⟩ := e5
 unfold maxLen at q2
 clear hown hK hZ hW X Y hok hok' hmat
 conv => arg 2; whnf
 go_wp2_with fail
 obtain ⟨x1, hx1⟩ := mkval ?a3_1
 obtain ⟨x2, hx2⟩ := mkval ?a3_2
 obtain ⟨x12, hx12⟩ := mkval ?a3_12
 obtain ⟨x13, hx13⟩ := mkval ?a3_13
 obtain ⟨x14, hx14⟩ := mkval ?a3_14
 obtain ⟨x16, hx16⟩ := mkval ?a3_16
 obtain ⟨x17, hx17⟩ := mkval ?a3_17
 obtain ⟨x18, hx18⟩ := mkval ?a3_18
 obtain ⟨x19, hx19⟩ := mkval ?a3_19
 obtain ⟨x20, hx20⟩ := mkval ?a3_20
 obtain ⟨x21, hx21⟩ := mkval ?a3_21
 obtain ⟨x22, hx22⟩ := mkval ?a3_22
 obtain ⟨x23, hx23⟩ := mkval ?a3_23
 obtain ⟨x24, hx24⟩ := mkval ?a3_24
 obtain ⟨x25, hx25⟩ := mkval ?a3_25
 have hGb : ∀ m b, (fun m b => (m = 0 ∧ (w3.heap.size ≤ b ∧ b < wm.heap.size ∧ own b = 5))) m b → (w3.heap.size) ≤ b ∧ b < (wm).heap.size := by
  intro m b hg
  rcases hg with ⟨rfl, hg⟩
  ·
   have q := V0f b hg
   omega
 have hGd : ∀ m m' b, (fun m b => (m = 0 ∧ (w3.heap.size ≤ b ∧ b < wm.heap.size ∧ own b = 5))) m b → (fun m b => (m = 0 ∧ (w3.heap.size ≤ b ∧ b < wm.heap.size ∧ own b = 5))) m' b → m = m' := by
  intro m m' b h h'
  rcases h with ⟨rfl, h⟩ <;> rcases h' with ⟨rfl, h'⟩ <;> first
   | rfl
 refine region_rs [] [(28, 0)] (fun m b => (m = 0 ∧ (w3.heap.size ≤ b ∧ b < wm.heap.size ∧ own b = 5))) (w3.heap.size) (fun i iv vs wx => match i with
  | 0 => vs 0 = .slice a5 m c5
  | 1 => vs 1 = x1
  | 2 => vs 2 = x2
  | 3 => vs 3 = vs 2
  | 4 => True
  | 5 => True
  | 6 => True
  | 7 => True
  | 8 => True
  | 9 => True
  | 10 => True
  | 11 => True
  | 12 => vs 12 = x12
  | 13 => vs 13 = x13
  | 14 => vs 14 = x14
  | 15 => vs 15 = vs 14
  | 16 => vs 16 = x16
  | 17 => vs 17 = x17
  | 18 => vs 18 = x18
  | 19 => vs 19 = x19
  | 20 => vs 20 = x20
  | 21 => vs 21 = x21
  | 22 => vs 22 = x22
  | 23 => vs 23 = x23
  | 24 => vs 24 = x24
  | 25 => vs 25 = x25
  | 26 => vs 26 = .bool Z
  | 27 => vs 27 = .slice (some ⟨(iv 27).1, 0, none⟩) 1 1 ∧ (iv 27).2 = (iv 27).1 + 1 ∧ Blk wx (iv 27).1 4 [.bool Z]
  | 28 => ∃ g cap, vs 28 = .slice (some ⟨g, 0, none⟩) (m + 1) cap ∧ AppS (foot [] [(28, 0)] (fun m b => (m = 0 ∧ (w3.heap.size ≤ b ∧ b < wm.heap.size ∧ own b = 5))) 30 28 iv) wx 4 1 (m + 1) (ds ++ [.bool Z]) (.slice (some ⟨g, 0, none⟩) (m + 1) cap)
  | 29 => vs 29 = vs 28
  | _ => True) (fun i iv vs => match i with
  | 0 => vs 0 = .slice a5 m c5
  | 1 => vs 1 = x1
  | 2 => vs 2 = x2
  | 3 => vs 3 = vs 2
  | 4 => True
  | 5 => True
  | 6 => True
  | 7 => True
  | 8 => True
  | 9 => True
  | 10 => True
  | 11 => True
  | 12 => vs 12 = x12
  | 13 => vs 13 = x13
  | 14 => vs 14 = x14
  | 15 => vs 15 = vs 14
  | 16 => vs 16 = x16
  | 17 => vs 17 = x17
  | 18 => vs 18 = x18
  | 19 => vs 19 = x19
  | 20 => vs 20 = x20
  | 21 => vs 21 = x21
  | 22 => vs 22 = x22
  | 23 => vs 23 = x23
  | 24 => vs 24 = x24
  | 25 => vs 25 = x25
  | 26 => vs 26 = .bool Z
  | 27 => vs 27 = .slice (some ⟨(iv 27).1, 0, none⟩) 1 1 ∧ (iv 27).2 = (iv 27).1 + 1
  | 28 => ∃ g cap, vs 28 = .slice (some ⟨g, 0, none⟩) (m + 1) cap
  | 29 => vs 29 = vs 28
  | _ => True) (by kernel_rfl) (by kernel_rfl) [0, 1, 2, 3, 4, 5, 6, 7, 8, 9, 10, 11, 12, 13, 14, 15, 16, 17, 18, 19, 20, 21, 22, 23, 24, 25, 26, 27, 28, 29] (by kernel_rfl) ?hbase ?hGb ?hG ?hJ ?hE ?hEE ?hstep ?hQ
 case hbase => first | exact Nat.le_refl _ | omega | (simp; omega)
 case hGb =>
  exact hGb
 case hG =>
  exact hGd
 case hJ =>
  intro i hi iv iv' vs vs' wx wx' ha hv hz hk hj
  simp only [List.mem_cons, List.not_mem_nil, or_false] at hi
  rcases hi with rfl | rfl | rfl | rfl | rfl | rfl | rfl | rfl | rfl | rfl | rfl | rfl | rfl | rfl | rfl | rfl | rfl | rfl | rfl | rfl | rfl | rfl | rfl | rfl | rfl | rfl | rfl | rfl | rfl | rfl
  ·
   exact (hv.out 0 (mem_of (by kernel_rfl))).symm.trans hj
  ·
   exact (hv.out 1 (mem_of (by kernel_rfl))).symm.trans hj
  ·
   exact (hv.out 2 (mem_of (by kernel_rfl))).symm.trans hj
  ·
   have e2 := hv.out 2 (mem_of (by kernel_rfl))
   have e3 := hv.out 3 (mem_of (by kernel_rfl))
   have hj' : vs 3 = vs 2 := hj
   show vs' 3 = vs' 2
   rw [← e2, ← e3]
   exact hj'
  ·
   trivial
  ·
   trivial
  ·
   trivial
  ·
   trivial
  ·
   trivial
  ·
   trivial
  ·
   trivial
  ·
   trivial
  ·
   exact (hv.out 12 (mem_of (by kernel_rfl))).symm.trans hj
  ·
   exact (hv.out 13 (mem_of (by kernel_rfl))).symm.trans hj
  ·
   exact (hv.out 14 (mem_of (by kernel_rfl))).symm.trans hj
  ·
   have e14 := hv.out 14 (mem_of (by kernel_rfl))
   have e15 := hv.out 15 (mem_of (by kernel_rfl))
   have hj' : vs 15 = vs 14 := hj
   show vs' 15 = vs' 14
   rw [← e14, ← e15]
   exact hj'
  ·
   exact (hv.out 16 (mem_of (by kernel_rfl))).symm.trans hj
  ·
   exact (hv.out 17 (mem_of (by kernel_rfl))).symm.trans hj
  ·
   exact (hv.out 18 (mem_of (by kernel_rfl))).symm.trans hj
  ·
   exact (hv.out 19 (mem_of (by kernel_rfl))).symm.trans hj
  ·
   exact (hv.out 20 (mem_of (by kernel_rfl))).symm.trans hj
  ·
   exact (hv.out 21 (mem_of (by kernel_rfl))).symm.trans hj
  ·
   exact (hv.out 22 (mem_of (by kernel_rfl))).symm.trans hj
  ·
   exact (hv.out 23 (mem_of (by kernel_rfl))).symm.trans hj
  ·
   exact (hv.out 24 (mem_of (by kernel_rfl))).symm.trans hj
  ·
   exact (hv.out 25 (mem_of (by kernel_rfl))).symm.trans hj
  ·
   exact (hv.out 26 (mem_of (by kernel_rfl))).symm.trans hj
  ·
   have e27 := hv.out 27 (mem_of (by kernel_rfl))
   have g27 := ha.out 27 (mem_of (by kernel_rfl))
   obtain ⟨q1, q3, q2⟩ := hj
   show vs' 27 = .slice (some ⟨(iv' 27).1, 0, none⟩) 1 1 ∧ (iv' 27).2 = (iv' 27).1 + 1 ∧ Blk wx' (iv' 27).1 4 [.bool Z]
   rw [← e27, ← g27]
   exact ⟨q1, q3, q2.keep (hk.out _ q2.lt (foot_own (Nat.le_refl _) (by omega)))⟩
  ·
   have e28 := hv.out 28 (mem_of (by kernel_rfl))
   obtain ⟨g, cap, q1, q2⟩ := hj
   exact ⟨g, cap, e28 ▸ q1, (q2.keep (fun b hb h1 => hk.out b hb h1)).more (fun b hb h1 => foot_agree (l := ancs _ 30 28) (by exact of_decide_eq_true (by kernel_rfl)) ha.out h1)⟩
  ·
   have e28 := hv.out 28 (mem_of (by kernel_rfl))
   have e29 := hv.out 29 (mem_of (by kernel_rfl))
   have hj' : vs 29 = vs 28 := hj
   show vs' 29 = vs' 28
   rw [← e28, ← e29]
   exact hj'
 case hE =>
  intro i hi iv vs wx hj
  simp only [List.mem_cons, List.not_mem_nil, or_false] at hi
  rcases hi with rfl | rfl | rfl | rfl | rfl | rfl | rfl | rfl | rfl | rfl | rfl | rfl | rfl | rfl | rfl | rfl | rfl | rfl | rfl | rfl | rfl | rfl | rfl | rfl | rfl | rfl | rfl | rfl | rfl | rfl
  ·
   exact hj
  ·
   exact hj
  ·
   exact hj
  ·
   exact hj
  ·
   exact hj
  ·
   exact hj
  ·
   exact hj
  ·
   exact hj
  ·
   exact hj
  ·
   exact hj
  ·
   exact hj
  ·
   exact hj
  ·
   exact hj
  ·
   exact hj
  ·
   exact hj
  ·
   exact hj
  ·
   exact hj
  ·
   exact hj
  ·
   exact hj
  ·
   exact hj
  ·
   exact hj
  ·
   exact hj
  ·
   exact hj
  ·
   exact hj
  ·
   exact hj
  ·
   exact hj
  ·
   exact hj
  ·
   exact ⟨hj.1, hj.2.1⟩
  ·
   obtain ⟨g, cap, q1, -⟩ := hj
   exact ⟨g, cap, q1⟩
  ·
   exact hj
 case hEE =>
  intro i hi iv iv' vs vs' ha hv hj
  simp only [List.mem_cons, List.not_mem_nil, or_false] at hi
  rcases hi with rfl | rfl | rfl | rfl | rfl | rfl | rfl | rfl | rfl | rfl | rfl | rfl | rfl | rfl | rfl | rfl | rfl | rfl | rfl | rfl | rfl | rfl | rfl | rfl | rfl | rfl | rfl | rfl | rfl | rfl
  ·
   exact (hv.out 0 (mem_of (by kernel_rfl))).symm.trans hj
  ·
   exact (hv.out 1 (mem_of (by kernel_rfl))).symm.trans hj
  ·
   exact (hv.out 2 (mem_of (by kernel_rfl))).symm.trans hj
  ·
   have e2 := hv.out 2 (mem_of (by kernel_rfl))
   have e3 := hv.out 3 (mem_of (by kernel_rfl))
   have hj' : vs 3 = vs 2 := hj
   show vs' 3 = vs' 2
   rw [← e2, ← e3]
   exact hj'
  ·
   trivial
  ·
   trivial
  ·
   trivial
  ·
   trivial
  ·
   trivial
  ·
   trivial
  ·
   trivial
  ·
   trivial
  ·
   exact (hv.out 12 (mem_of (by kernel_rfl))).symm.trans hj
  ·
   exact (hv.out 13 (mem_of (by kernel_rfl))).symm.trans hj
  ·
   exact (hv.out 14 (mem_of (by kernel_rfl))).symm.trans hj
  ·
   have e14 := hv.out 14 (mem_of (by kernel_rfl))
   have e15 := hv.out 15 (mem_of (by kernel_rfl))
   have hj' : vs 15 = vs 14 := hj
   show vs' 15 = vs' 14
   rw [← e14, ← e15]
   exact hj'
  ·
   exact (hv.out 16 (mem_of (by kernel_rfl))).symm.trans hj
  ·
   exact (hv.out 17 (mem_of (by kernel_rfl))).symm.trans hj
  ·
   exact (hv.out 18 (mem_of (by kernel_rfl))).symm.trans hj
  ·
   exact (hv.out 19 (mem_of (by kernel_rfl))).symm.trans hj
  ·
   exact (hv.out 20 (mem_of (by kernel_rfl))).symm.trans hj
  ·
   exact (hv.out 21 (mem_of (by kernel_rfl))).symm.trans hj
  ·
   exact (hv.out 22 (mem_of (by kernel_rfl))).symm.trans hj
  ·
   exact (hv.out 23 (mem_of (by kernel_rfl))).symm.trans hj
  ·
   exact (hv.out 24 (mem_of (by kernel_rfl))).symm.trans hj
  ·
   exact (hv.out 25 (mem_of (by kernel_rfl))).symm.trans hj
  ·
   exact (hv.out 26 (mem_of (by kernel_rfl))).symm.trans hj
  ·
   have e27 := hv.out 27 (mem_of (by kernel_rfl))
   have g27 := ha.out 27 (mem_of (by kernel_rfl))
   have hj' : vs 27 = .slice (some ⟨(iv 27).1, 0, none⟩) 1 1 ∧ (iv 27).2 = (iv 27).1 + 1 := hj
   show vs' 27 = .slice (some ⟨(iv' 27).1, 0, none⟩) 1 1 ∧ (iv' 27).2 = (iv' 27).1 + 1
   rw [← e27, ← g27]
   exact hj'
  ·
   have e28 := hv.out 28 (mem_of (by kernel_rfl))
   have hj' : ∃ g cap, vs 28 = .slice (some ⟨g, 0, none⟩) (m + 1) cap := hj
   show ∃ g cap, vs' 28 = .slice (some ⟨g, 0, none⟩) (m + 1) cap
   rw [← e28]
   exact hj'
  ·
   have e28 := hv.out 28 (mem_of (by kernel_rfl))
   have e29 := hv.out 29 (mem_of (by kernel_rfl))
   have hj' : vs 29 = vs 28 := hj
   show vs' 29 = vs' 28
   rw [← e28, ← e29]
   exact hj'
 case hstep =>
  intro i hi opr ho iv vs w1 hB hS hSo hd he hbd hsep hun K hK
  simp only [List.mem_cons, List.not_mem_nil, or_false] at hi
  have hzB := hB.size
  have HGb := Lib.hid hGb
  clear hGb hGd
  have hbw := HW.out.2.trans hB
  have hwb : Below w.heap.size w w1 := hB3.trans (hbw.mono hB3.size)
  obtain ⟨xa0, xa1, xa2, xa3, -, -, -, -, ltA⟩ := (HXb.out.below hbw).all4
  obtain ⟨ya0, ya1, ya2, ya3, -, -, -, -, ltB⟩ := (HYb.out.below hbw).all4
  have k21 := (hwb.cell (p := ⟨ub2, uo2 + s2, none⟩) hul2).trans b02
  have k22 := (hwb.cell (p := ⟨vb2, vo2 + m, none⟩) hvl2).trans q02
  generalize hA : putFrom _ 0 vs _ = A at hK ⊢
  simp only [putFrom, puts] at hA
  rcases hi with rfl | rfl | rfl | rfl | rfl | rfl | rfl | rfl | rfl | rfl | rfl | rfl | rfl | rfl | rfl | rfl | rfl | rfl | rfl | rfl | rfl | rfl | rfl | rfl | rfl | rfl | rfl | rfl | rfl | rfl
  all_goals
   simp at ho
   subst ho
   subst hA
  ·
   have un29 : vs 29 = .slice a5 m c5 := hun.out 29 (mem_of (by kernel_rfl))
   go_wp2_with fail
   exact Onward.mk (hK (.slice a5 m c5) _ _ (fun h => by cases h) (by first | rfl | (simp only [puts, un29])) (Spares.refl _) (fun iv' _ _ => rfl))
  ·
   go_wp2_with fail
   refine Onward.mk (hK ?val3_1 _ _ (fun h => by cases h) ?eqA (Spares.refl _) (fun iv' _ _ => ?ja))
   case eqA => first | rfl | (simp only [puts]; rfl)
   case ja => exact hx1.out.symm
  ·
   have h1 := (hd.out 1 (mem_of (by kernel_rfl)) (by decide) (by kernel_rfl)).trans hx1.out
   go_wp2_with fail
   refine Onward.mk (hK ?val3_2 _ _ (fun h => by cases h) ?eqA (Spares.refl _) (fun iv' _ _ => ?ja))
   case eqA => first | rfl | (simp only [puts, h1]; rfl)
   case ja => exact hx2.out.symm
  ·
   have h2 := (hd.out 2 (mem_of (by kernel_rfl)) (by decide) (by kernel_rfl)).trans hx2.out
   go_wp2_with fail
   refine Onward.mk (hK ?val3_3 _ _ (fun h => by cases h) ?eqA (Spares.refl _) (fun iv' _ _ => ?ja))
   case eqA => first | rfl | (simp only [puts, h2]; rfl)
   case ja => show _ = vs 2; simp only [h2]; rfl
  ·
   have h3 : vs 3 = vs 2 := hd.out 3 (mem_of (by kernel_rfl)) (by decide) (by kernel_rfl)
   have h2 := (hd.out 2 (mem_of (by kernel_rfl)) (by decide) (by kernel_rfl)).trans hx2.out
   go_wp2_with fail
   exact Onward.mk (hK undef _ _ (fun h => by cases h) (by first | rfl | simp only [puts, h3, h2]) (Spares.refl _) (fun iv' _ _ => trivial))
  ·
   have h3 : vs 3 = vs 2 := hd.out 3 (mem_of (by kernel_rfl)) (by decide) (by kernel_rfl)
   have h2 := (hd.out 2 (mem_of (by kernel_rfl)) (by decide) (by kernel_rfl)).trans hx2.out
   go_wp2_with fail
   exact Onward.mk (hK undef _ _ (fun h => by cases h) (by first | rfl | simp only [puts, h3, h2]) (Spares.refl _) (fun iv' _ _ => trivial))
  ·
   have h3 : vs 3 = vs 2 := hd.out 3 (mem_of (by kernel_rfl)) (by decide) (by kernel_rfl)
   have h2 := (hd.out 2 (mem_of (by kernel_rfl)) (by decide) (by kernel_rfl)).trans hx2.out
   go_wp2_with fail
   exact Onward.mk (hK undef _ _ (fun h => by cases h) (by first | rfl | simp only [puts, h3, h2]) (Spares.refl _) (fun iv' _ _ => trivial))
  ·
   have h3 : vs 3 = vs 2 := hd.out 3 (mem_of (by kernel_rfl)) (by decide) (by kernel_rfl)
   have h2 := (hd.out 2 (mem_of (by kernel_rfl)) (by decide) (by kernel_rfl)).trans hx2.out
   go_wp2_with fail
   exact Onward.mk (hK undef _ _ (fun h => by cases h) (by first | rfl | simp only [puts, h3, h2]) (Spares.refl _) (fun iv' _ _ => trivial))
  ·
   have h3 : vs 3 = vs 2 := hd.out 3 (mem_of (by kernel_rfl)) (by decide) (by kernel_rfl)
   have h2 := (hd.out 2 (mem_of (by kernel_rfl)) (by decide) (by kernel_rfl)).trans hx2.out
   go_wp2_with fail
   exact Onward.mk (hK undef _ _ (fun h => by cases h) (by first | rfl | simp only [puts, h3, h2]) (Spares.refl _) (fun iv' _ _ => trivial))
  ·
   have h3 : vs 3 = vs 2 := hd.out 3 (mem_of (by kernel_rfl)) (by decide) (by kernel_rfl)
   have h2 := (hd.out 2 (mem_of (by kernel_rfl)) (by decide) (by kernel_rfl)).trans hx2.out
   go_wp2_with fail
   exact Onward.mk (hK undef _ _ (fun h => by cases h) (by first | rfl | simp only [puts, h3, h2]) (Spares.refl _) (fun iv' _ _ => trivial))
  ·
   have h3 : vs 3 = vs 2 := hd.out 3 (mem_of (by kernel_rfl)) (by decide) (by kernel_rfl)
   have h2 := (hd.out 2 (mem_of (by kernel_rfl)) (by decide) (by kernel_rfl)).trans hx2.out
   go_wp2_with fail
   exact Onward.mk (hK undef _ _ (fun h => by cases h) (by first | rfl | simp only [puts, h3, h2]) (Spares.refl _) (fun iv' _ _ => trivial))
  ·
   have h3 : vs 3 = vs 2 := hd.out 3 (mem_of (by kernel_rfl)) (by decide) (by kernel_rfl)
   have h2 := (hd.out 2 (mem_of (by kernel_rfl)) (by decide) (by kernel_rfl)).trans hx2.out
   go_wp2_with fail
   exact Onward.mk (hK undef _ _ (fun h => by cases h) (by first | rfl | simp only [puts, h3, h2]) (Spares.refl _) (fun iv' _ _ => trivial))
  ·
   have h3 : vs 3 = vs 2 := hd.out 3 (mem_of (by kernel_rfl)) (by decide) (by kernel_rfl)
   skip
   have h2 := (hd.out 2 (mem_of (by kernel_rfl)) (by decide) (by kernel_rfl)).trans hx2.out
   go_wp2_with fail
   refine Onward.mk (hK ?val3_12 _ _ (fun h => by cases h) ?eqA (Spares.refl _) (fun iv' _ _ => ?ja))
   case eqA => first | rfl | (simp only [puts, h3, h2]; rfl)
   case ja => exact hx12.out.symm
  ·
   go_wp2_with fail
   refine Onward.mk (hK ?val3_13 _ _ (fun h => by cases h) ?eqA (Spares.refl _) (fun iv' _ _ => ?ja))
   case eqA => first | rfl | (simp only [puts]; rfl)
   case ja => exact hx13.out.symm
  ·
   have h13 := (hd.out 13 (mem_of (by kernel_rfl)) (by decide) (by kernel_rfl)).trans hx13.out
   go_wp2_with fail
   refine Onward.mk (hK ?val3_14 _ _ (fun h => by cases h) ?eqA (Spares.refl _) (fun iv' _ _ => ?ja))
   case eqA => first | rfl | (simp only [puts, h13]; rfl)
   case ja => exact hx14.out.symm
  ·
   have h14 := (hd.out 14 (mem_of (by kernel_rfl)) (by decide) (by kernel_rfl)).trans hx14.out
   go_wp2_with fail
   refine Onward.mk (hK ?val3_15 _ _ (fun h => by cases h) ?eqA (Spares.refl _) (fun iv' _ _ => ?ja))
   case eqA => first | rfl | (simp only [puts, h14]; rfl)
   case ja => show _ = vs 14; simp only [h14]; rfl
  ·
   have h15 : vs 15 = vs 14 := hd.out 15 (mem_of (by kernel_rfl)) (by decide) (by kernel_rfl)
   have h14 := (hd.out 14 (mem_of (by kernel_rfl)) (by decide) (by kernel_rfl)).trans hx14.out
   go_wp2_with fail
   refine Onward.mk (hK ?val3_16 _ _ (fun h => by cases h) ?eqA (Spares.refl _) (fun iv' _ _ => ?ja))
   case eqA => first | rfl | (simp only [puts, h15, h14]; rfl)
   case ja => exact hx16.out.symm
  ·
   have h16 := (hd.out 16 (mem_of (by kernel_rfl)) (by decide) (by kernel_rfl)).trans hx16.out
   have h15 : vs 15 = vs 14 := hd.out 15 (mem_of (by kernel_rfl)) (by decide) (by kernel_rfl)
   have h14 := (hd.out 14 (mem_of (by kernel_rfl)) (by decide) (by kernel_rfl)).trans hx14.out
   go_wp2_with fail
   refine Onward.mk (hK ?val3_17 _ _ (fun h => by cases h) ?eqA (Spares.refl _) (fun iv' _ _ => ?ja))
   case eqA => first | rfl | (simp only [puts, h16, h15, h14]; rfl)
   case ja => exact hx17.out.symm
  ·
   have h15 : vs 15 = vs 14 := hd.out 15 (mem_of (by kernel_rfl)) (by decide) (by kernel_rfl)
   have h14 := (hd.out 14 (mem_of (by kernel_rfl)) (by decide) (by kernel_rfl)).trans hx14.out
   go_wp2_with fail
   refine Onward.mk (hK ?val3_18 _ _ (fun h => by cases h) ?eqA (Spares.refl _) (fun iv' _ _ => ?ja))
   case eqA => first | rfl | (simp only [puts, h15, h14]; rfl)
   case ja => exact hx18.out.symm
  ·
   have h17 := (hd.out 17 (mem_of (by kernel_rfl)) (by decide) (by kernel_rfl)).trans hx17.out
   have h18 := (hd.out 18 (mem_of (by kernel_rfl)) (by decide) (by kernel_rfl)).trans hx18.out
   have h15 : vs 15 = vs 14 := hd.out 15 (mem_of (by kernel_rfl)) (by decide) (by kernel_rfl)
   have h14 := (hd.out 14 (mem_of (by kernel_rfl)) (by decide) (by kernel_rfl)).trans hx14.out
   go_wp2_with fail
   refine Onward.mk (hK ?val3_19 _ _ (fun h => by cases h) ?eqA (Spares.refl _) (fun iv' _ _ => ?ja))
   case eqA => first | rfl | (simp only [puts, h17, h18, h15, h14]; rfl)
   case ja => exact hx19.out.symm
  ·
   have h19 := (hd.out 19 (mem_of (by kernel_rfl)) (by decide) (by kernel_rfl)).trans hx19.out
   have h15 : vs 15 = vs 14 := hd.out 15 (mem_of (by kernel_rfl)) (by decide) (by kernel_rfl)
   have h14 := (hd.out 14 (mem_of (by kernel_rfl)) (by decide) (by kernel_rfl)).trans hx14.out
   go_wp2_with fail
   refine Onward.mk (hK ?val3_20 _ _ (fun h => by cases h) ?eqA (Spares.refl _) (fun iv' _ _ => ?ja))
   case eqA => first | rfl | (simp only [puts, h19, h15, h14]; rfl)
   case ja => exact hx20.out.symm
  ·
   have h15 : vs 15 = vs 14 := hd.out 15 (mem_of (by kernel_rfl)) (by decide) (by kernel_rfl)
   have h14 := (hd.out 14 (mem_of (by kernel_rfl)) (by decide) (by kernel_rfl)).trans hx14.out
   go_wp2_with fail
   refine Onward.mk (hK ?val3_21 _ _ (fun h => by cases h) ?eqA (Spares.refl _) (fun iv' _ _ => ?ja))
   case eqA => first | rfl | (simp only [puts, h15, h14]; rfl)
   case ja => exact hx21.out.symm
  ·
   have h20 := (hd.out 20 (mem_of (by kernel_rfl)) (by decide) (by kernel_rfl)).trans hx20.out
   have h21 := (hd.out 21 (mem_of (by kernel_rfl)) (by decide) (by kernel_rfl)).trans hx21.out
   have h15 : vs 15 = vs 14 := hd.out 15 (mem_of (by kernel_rfl)) (by decide) (by kernel_rfl)
   have h14 := (hd.out 14 (mem_of (by kernel_rfl)) (by decide) (by kernel_rfl)).trans hx14.out
   go_wp2_with fail
   refine Onward.mk (hK ?val3_22 _ _ (fun h => by cases h) ?eqA (Spares.refl _) (fun iv' _ _ => ?ja))
   case eqA => first | rfl | (simp only [puts, h20, h21, h15, h14]; rfl)
   case ja => exact hx22.out.symm
  ·
   have h22 := (hd.out 22 (mem_of (by kernel_rfl)) (by decide) (by kernel_rfl)).trans hx22.out
   have h15 : vs 15 = vs 14 := hd.out 15 (mem_of (by kernel_rfl)) (by decide) (by kernel_rfl)
   have h14 := (hd.out 14 (mem_of (by kernel_rfl)) (by decide) (by kernel_rfl)).trans hx14.out
   go_wp2_with fail
   refine Onward.mk (hK ?val3_23 _ _ (fun h => by cases h) ?eqA (Spares.refl _) (fun iv' _ _ => ?ja))
   case eqA => first | rfl | (simp only [puts, h22, h15, h14]; rfl)
   case ja => exact hx23.out.symm
  ·
   have h15 : vs 15 = vs 14 := hd.out 15 (mem_of (by kernel_rfl)) (by decide) (by kernel_rfl)
   have h23 := (hd.out 23 (mem_of (by kernel_rfl)) (by decide) (by kernel_rfl)).trans hx23.out
   have h14 := (hd.out 14 (mem_of (by kernel_rfl)) (by decide) (by kernel_rfl)).trans hx14.out
   go_wp2_with fail
   refine Onward.mk (hK ?val3_24 _ _ (fun h => by cases h) ?eqA (Spares.refl _) (fun iv' _ _ => ?ja))
   case eqA => first | rfl | (simp only [puts, h15, h23, h14]; rfl)
   case ja => exact hx24.out.symm
  ·
   go_wp2_with fail
   refine Onward.mk (hK ?val3_25 _ _ (fun h => by cases h) ?eqA (Spares.refl _) (fun iv' _ _ => ?ja))
   case eqA => first | rfl | (simp only [puts]; rfl)
   case ja => exact hx25.out.symm
  ·
   have h12 := (hd.out 12 (mem_of (by kernel_rfl)) (by decide) (by kernel_rfl)).trans hx12.out
   have h24 := (hd.out 24 (mem_of (by kernel_rfl)) (by decide) (by kernel_rfl)).trans hx24.out
   have h25 := (hd.out 25 (mem_of (by kernel_rfl)) (by decide) (by kernel_rfl)).trans hx25.out
   go_wp2_with fail
   refine (mixed_b HZ.out).mono ?_
   rintro e w2 ⟨rfl, hb⟩
   go_wp2_with fail
   exact Onward.mk (hK (.bool Z) _ _ (fun h => by cases h) (by first | rfl | (simp only [puts, h12, h24, h25])) (Spares.of_below hb) (fun iv' _ _ => rfl))
  ·
   have h26 : vs 26 = .bool Z := hd.out 26 (mem_of (by kernel_rfl)) (by decide) (by kernel_rfl)
   go_wp2_with fail
   exact Onward.mk (hK (.slice (some ⟨w1.heap.size, 0, none⟩) 1 1) _ _ (fun h => by cases h) (by first | rfl | (simp only [puts, h26])) (Spares.of_below (Below.alloc (Below.refl _ _) (Nat.le_refl _) _)) (fun iv' _ hi => by
    show Value.slice (some ⟨w1.heap.size, 0, none⟩) 1 1 = .slice (some ⟨(iv' 27).1, 0, none⟩) 1 1 ∧ (iv' 27).2 = (iv' 27).1 + 1 ∧ Blk _ (iv' 27).1 4 [.bool Z]
    rw [hi]
    exact ⟨rfl, by simp, Blk.new1 _ _ _⟩))
  ·
   have h0 : vs 0 = .slice a5 m c5 := hd.out 0 (mem_of (by kernel_rfl)) (by decide) (by kernel_rfl)
   obtain ⟨h27, q27, f27⟩ := hd.out 27 (mem_of (by kernel_rfl)) (by decide) (by kernel_rfl)
   have V01 := V0.keep (fun b _ hb => hS.out 0 b (by kernel_rfl) ⟨rfl, hb⟩)
   simp only [h0, h27]
   have f27' : Blk w1 (iv 27).1 4 [.bool Z] := by first | exact f27 | (rw [h27] at f27; exact f27)
   refine wpList_append_s w1 (by rfl) _ _ 77 (by rfl) 4 ((.bool false)) 1 1 Try.underlying77 rn_bl rfl (by decide) (S := (fun b => (w3.heap.size ≤ b ∧ b < wm.heap.size ∧ own b = 5))) (T := (fun _ => False)) _ (by rfl) V01 ⟨(iv 27).1, 0, none⟩ 1 1 [.bool Z] (by rfl) (news_blk f27') (rn_noneb) (fun _ _ _ h => h) (by simp) (by simp [Value.oneCell']) (by omega) (by omega) (by unfold maxLen; omega) ?_
   intro g cap w2 hap ht
   go_wp2_with fail
   exact Onward.mk (hK (.slice (some ⟨g, 0, none⟩) (m + 1) cap) _ _ (fun h => by cases h) (by first | rfl | (simp only [puts, h0, h27])) (ht.more (fun b h => Or.inl ⟨0, by decide, ⟨rfl, h⟩⟩)) (fun iv' ag hi => ⟨g, cap, rfl, hap.more (fun b _ h => by rcases h with h | h | h; exact foot_given 0 (by decide) ⟨rfl, h⟩; exact h.elim; exact foot_new hi h.1 h.2)⟩))
  ·
   obtain ⟨g28, cap28, h28, f28⟩ := hd.out 28 (mem_of (by kernel_rfl)) (by decide) (by kernel_rfl)
   go_wp2_with fail
   refine Onward.mk (hK ?val3_29 _ _ (fun h => by cases h) ?eqA (Spares.refl _) (fun iv' _ _ => ?ja))
   case eqA => first | rfl | (simp only [puts, h28]; rfl)
   case ja => show _ = vs 28; simp only [h28]; rfl
 case hQ =>
  intro iv vs wx hB hSp hd he hbd hsep
  have hzB := hB.size
  have h0 : vs 0 = .slice a5 m c5 := hd.out 0 (mem_of (by kernel_rfl)) (not_eaten (by kernel_rfl))
  have h1 := (hd.out 1 (mem_of (by kernel_rfl)) (not_eaten (by kernel_rfl))).trans hx1.out
  have h2 := (hd.out 2 (mem_of (by kernel_rfl)) (not_eaten (by kernel_rfl))).trans hx2.out
  have h3 : vs 3 = vs 2 := hd.out 3 (mem_of (by kernel_rfl)) (not_eaten (by kernel_rfl))
  skip
  skip
  skip
  skip
  skip
  skip
  skip
  skip
  have h12 := (hd.out 12 (mem_of (by kernel_rfl)) (not_eaten (by kernel_rfl))).trans hx12.out
  have h13 := (hd.out 13 (mem_of (by kernel_rfl)) (not_eaten (by kernel_rfl))).trans hx13.out
  have h14 := (hd.out 14 (mem_of (by kernel_rfl)) (not_eaten (by kernel_rfl))).trans hx14.out
  have h15 : vs 15 = vs 14 := hd.out 15 (mem_of (by kernel_rfl)) (not_eaten (by kernel_rfl))
  have h16 := (hd.out 16 (mem_of (by kernel_rfl)) (not_eaten (by kernel_rfl))).trans hx16.out
  have h17 := (hd.out 17 (mem_of (by kernel_rfl)) (not_eaten (by kernel_rfl))).trans hx17.out
  have h18 := (hd.out 18 (mem_of (by kernel_rfl)) (not_eaten (by kernel_rfl))).trans hx18.out
  have h19 := (hd.out 19 (mem_of (by kernel_rfl)) (not_eaten (by kernel_rfl))).trans hx19.out
  have h20 := (hd.out 20 (mem_of (by kernel_rfl)) (not_eaten (by kernel_rfl))).trans hx20.out
  have h21 := (hd.out 21 (mem_of (by kernel_rfl)) (not_eaten (by kernel_rfl))).trans hx21.out
  have h22 := (hd.out 22 (mem_of (by kernel_rfl)) (not_eaten (by kernel_rfl))).trans hx22.out
  have h23 := (hd.out 23 (mem_of (by kernel_rfl)) (not_eaten (by kernel_rfl))).trans hx23.out
  have h24 := (hd.out 24 (mem_of (by kernel_rfl)) (not_eaten (by kernel_rfl))).trans hx24.out
  have h25 := (hd.out 25 (mem_of (by kernel_rfl)) (not_eaten (by kernel_rfl))).trans hx25.out
  have h26 : vs 26 = .bool Z := hd.out 26 (mem_of (by kernel_rfl)) (not_eaten (by kernel_rfl))
  obtain ⟨h27, q27, f27⟩ := hd.out 27 (mem_of (by kernel_rfl)) (not_eaten (by kernel_rfl))
  obtain ⟨g28, cap28, h28, f28⟩ := hd.out 28 (mem_of (by kernel_rfl)) (not_eaten (by kernel_rfl))
  have h29 : vs 29 = vs 28 := hd.out 29 (mem_of (by kernel_rfl)) (not_eaten (by kernel_rfl))
  have lo28 : ∀ b, foot [] [(28, 0)] (fun m b => (m = 0 ∧ (w3.heap.size ≤ b ∧ b < wm.heap.size ∧ own b = 5))) 30 28 iv b → (w3.heap.size) ≤ b := by
   rintro b ⟨j, hj, hh⟩
   have hj' := of_decide_eq_true (List.all_eq_true.1 (show ((chainOf [] 30 28).all fun j => decide (j ∈ [28])) = true from by kernel_rfl) j hj)
   simp only [List.mem_cons, List.not_mem_nil, or_false] at hj'
   rcases hj' with rfl
   ·
    have q := (hbd.out 28 (mem_of (by kernel_rfl))).1
    rcases hh with hh | ⟨m, hm, hg⟩
    ·
     omega
    ·
     simp at hm
     subst hm
     simp at hg
     have q' := V0f b hg
     omega
  simp only [putFrom, puts]
  have so28 : ∀ b, (foot [] [(28, 0)] (fun m b => (m = 0 ∧ (w3.heap.size ≤ b ∧ b < wm.heap.size ∧ own b = 5))) 30 28 iv) b → (w3.heap.size ≤ b ∧ b < wm.heap.size ∧ own b = 5) ∨ (wm).heap.size ≤ b := by
   rintro b ⟨j, hj, hh⟩
   have hj' := of_decide_eq_true (List.all_eq_true.1 (show ((chainOf [] 30 28).all fun j => decide (j ∈ [28])) = true from by kernel_rfl) j hj)
   simp only [List.mem_cons, List.not_mem_nil, or_false] at hj'
   rcases hj' with rfl
   ·
    have q := (hbd.out 28 (mem_of (by kernel_rfl))).1
    rcases hh with hh | ⟨m, hm, hg⟩
    ·
     exact Or.inr (by omega)
    ·
     simp at hm; subst hm; simp at hg; exact Or.inl hg
  simp only [h29, h28]
  clear hd he hbd hsep h0 h1 h2 h3  h12 h13 h14 h15 h16 h17 h18 h19 h20 h21 h22 h23 h24 h25 h26 h27 h28 h29 q27 f27
  refine HK.out g28 cap28 wx _ _ _ _ _ _ _ _ _ _ _ _ _ _ _ _ _ _ _ _ _ _ _ _ _ _ _ _ _ ⟨?_, HW.out.2.trans hB⟩
  exact Bun.turn_app Hown.out hSp.out.size (by omega) 5 (fun bb hb hn => hSp.out.block bb hb (fun ⟨mm, hmm⟩ => hn hmm.2)) f28 (fun bb _ hS => so28 bb hS)
theorem mix12_i {t a mix : Int} {ac bc : List (List Bool)} {nx ny : List (List (List Int))} {u u' : Option Addr} {ub1 uo1 ub2 uo2 c c' d d' : Nat} {w w3 wm : World} {am aA aX a5 : Option Addr} {ri cm cA cX c5 m g gA : Nat} {Lm : List (Int × Int)} {MA : List (List Bool)} {MX : List (List (List Int))} {ds : List D} {it : Item} {x1 x2 : Int}
  (hB3 : Below w.heap.size w w3) (X : Blk w3 w.heap.size 31 [.int .i64 t, .int .i64 a, .slice (some ⟨ub1, uo1, none⟩) ac.length c, .slice u nx.length d]) (Y : Blk w3 (w.heap.size + 1) 31 [.int .i64 t, .int .i64 a, .slice (some ⟨ub2, uo2, none⟩) bc.length c', .slice u' ny.length d'])
  (hr : Rd w (bbD ac) (.slice (some ⟨ub1, uo1, none⟩) ac.length c)) (hr' : Rd w (bbD bc) (.slice (some ⟨ub2, uo2, none⟩) bc.length c')) (hok : AutOk t a ac nx) (hok' : AutOk t a bc ny) (hmat : (m : Int) < atomsN t) (hm8 : m < 8) (hx2 : x1 < ac.length) (hx4 : x2 < bc.length) (hlive : ¬ (x1 < 0 ∧ x2 < 0))
  (hW : MiW w3.heap.size g gA t a w3 wm Lm ri MA MX (.slice am Lm.length cm) (.slice aA ri cA) (.slice aX ri cX) [.app 4 1 m ds (.slice a5 m c5), it])
  {K : Act → World → Prop} {Q' : Exit → Act → World → Prop} {y0 y1 y5 y6 y7 y8 y9 y10 y11 y15 y17 y18 y19 y20 y21 y22 y23 y24 y25 y26 y27 y28 y29 y30 y31 y32 y33 y34 y35 y36 y37 y38 y39 y40 y41 y42 y43 y44 y45 y46 y47 y48 y49 y50 y51 y52 y53 y54 y55 y56 y57 y58 y59 y60 y61 y62 y63 y64 y65 y66 y67 y68 y69 y70 y71 y72 y73 y74 y75 y76 y77 y78 y79 y80 y81 y82 y83 y84 y85 y86 y87 y88 y89 y90 y91 y92 y93 y94 y95 y96 y97 y98 y99 y100 y101 y102 y103 y104 y105 y106 y107 y108 y109 y110 y111 y112 y113 y114 y115 y116 y117 y118 y119 y120 y121 y122 y123 y124 y125 y126 y127 y128 y129 y130 y131 y132 y133 y134 y135 y136 y137 y138 y139 y140 y141 y142 y143 y144 y145 y146 : Value}
  (hK : ∀ (g8 cap8 : Nat) (wx : World) (u55 u56 u57 u58 u59 u60 u61 u62 u63 u64 u65 u66 u67 u68 u69 u70 u71 u72 u73 u74 u75 u76 u77 u78 u79 u80 u81 u82 u83 : Value), MiW w3.heap.size g gA t a w3 wx Lm ri MA MX (.slice am Lm.length cm) (.slice aA ri cA) (.slice aX ri cX) [.app 4 1 (m + 1) (ds ++ [.bool (mixB mix (hasN ac x1 m) (hasN bc x2 m))]) (.slice (some ⟨g8, 0, none⟩) (m + 1) cap8), it] → K ⟨#[y0, y1, .int .i64 mix, .pointer (some ⟨w.heap.size, 0, none⟩), .pointer (some ⟨w.heap.size + 1, 0, none⟩), y5, y6, y7, y8, y9, y10, y11, .int .i64 x1, .int .i64 x2, .slice (some ⟨g8, 0, none⟩) (m + 1) cap8, y15, .int .i64 m, y17, y18, y19, y20, y21, y22, y23, y24, y25, y26, y27, y28, y29, y30, y31, y32, y33, y34, y35, y36, y37, y38, y39, y40, y41, y42, y43, y44, y45, y46, y47, y48, y49, y50, y51, y52, y53, y54, u55, u56, u57, u58, u59, u60, u61, u62, u63, u64, u65, u66, u67, u68, u69, u70, u71, u72, u73, u74, u75, u76, u77, u78, u79, u80, u81, u82, u83, y84, y85, y86, y87, y88, y89, y90, y91, y92, y93, y94, y95, y96, y97, y98, y99, y100, y101, y102, y103, y104, y105, y106, y107, y108, y109, y110, y111, y112, y113, y114, y115, y116, y117, y118, y119, y120, y121, y122, y123, y124, y125, y126, y127, y128, y129, y130, y131, y132, y133, y134, y135, y136, y137, y138, y139, y140, y141, y142, y143, y144, y145, y146], []⟩ wx) :
  Code.wp Try.prog mixR12 (Exit.then K Q') ⟨#[y0, y1, .int .i64 mix, .pointer (some ⟨w.heap.size, 0, none⟩), .pointer (some ⟨w.heap.size + 1, 0, none⟩), y5, y6, y7, y8, y9, y10, y11, .int .i64 x1, .int .i64 x2, .slice a5 m c5, y15, .int .i64 m, y17, y18, y19, y20, y21, y22, y23, y24, y25, y26, y27, y28, y29, y30, y31, y32, y33, y34, y35, y36, y37, y38, y39, y40, y41, y42, y43, y44, y45, y46, y47, y48, y49, y50, y51, y52, y53, y54, y55, y56, y57, y58, y59, y60, y61, y62, y63, y64, y65, y66, y67, y68, y69, y70, y71, y72, y73, y74, y75, y76, y77, y78, y79, y80, y81, y82, y83, y84, y85, y86, y87, y88, y89, y90, y91, y92, y93, y94, y95, y96, y97, y98, y99, y100, y101, y102, y103, y104, y105, y106, y107, y108, y109, y110, y111, y112, y113, y114, y115, y116, y117, y118, y119, y120, y121, y122, y123, y124, y125, y126, y127, y128, y129, y130, y131, y132, y133, y134, y135, y136, y137, y138, y139, y140, y141, y142, y143, y144, y145, y146], []⟩ wm := by
 by_cases h1 : x1 < 0
 ·
  obtain ⟨s2, rfl⟩ : ∃ s2 : Nat, x2 = (s2 : Int) := ⟨x2.toNat, by omega⟩
  exact mix12_ft hB3 X Y hr hr' hok hok' hmat hm8 h1 hx4 hW hK
 ·
  obtain ⟨s1, rfl⟩ : ∃ s1 : Nat, x1 = (s1 : Int) := ⟨x1.toNat, by omega⟩
  by_cases h2 : x2 < 0
  ·
   exact mix12_tf hB3 X Y hr hr' hok hok' hmat hm8 hx2 h2 hW hK
  ·
   obtain ⟨s2, rfl⟩ : ∃ s2 : Nat, x2 = (s2 : Int) := ⟨x2.toNat, by omega⟩
   exact mix12_tt hB3 X Y hr hr' hok hok' hmat hm8 hx2 hx4 hW hK
end Go.Proofs.Ytfhlddbngjlhbaa
