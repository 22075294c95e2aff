/-
  Lists of expressions as parameters of a law.
-/
import Derived.Test.YtlnojmmjpgpjdaaSz
import Derived.Test.YtlnojmmjpgpjdaaTo
import Derived.Test.YtlnojmmjpgpjdaaEq
import Derived.Test.YtlnojmmjpgpjdaaMarkE
namespace Go.Proofs.Ytlnojmmjpgpjdaa
open Go.ChangeShapes Go.WideShapes Go.ChangeAt Go.RowKit Go.Sort

theorem szExprS_i {ks : List Ex} {s : Option Addr} {cap : Nat} {left : Int} {w : World} (hr : Rd w (kidsD ks) (.slice s ks.length cap)) (h0 : 0 ≤ left) (h1 : left ≤ 1048576) :
    Calls Try.prog 21 #[.slice s ks.length cap, .int .i64 left] w fun e w' => Szd (Ex.sizeL ks) left e ∧ Below w.heap.size w w' := szExprS_any ks s cap left w hr h0 h1
theorem toExprS_i {ks : List Ex} {s : Option Addr} {cap : Nat} {w : World} (hr : Rd w (kidsD ks) (.slice s ks.length cap)) (h1 : Ex.sizeL ks ≤ 1048576) :
    Calls Try.prog 25 #[.slice s ks.length cap] w fun e w' => ∃ s' c', e = .returned (.slice s' ks.length c') ∧ Freshs w w' [kidsD ks] [.slice s' ks.length c'] ∧ Below w.heap.size w w' :=
  (toExprS_all _ ks s cap w (Nat.le_refl _) hr h1).mono fun _ _ ⟨s', c', he, hf, hb⟩ => ⟨s', c', he, Freshs.one hf, hb⟩
theorem eqExprS_i {ks js : List Ex} {s t : Option Addr} {cap cap' : Nat} {w : World} (hr : Rd w (kidsD ks) (.slice s ks.length cap)) (hr' : Rd w (kidsD js) (.slice t js.length cap')) :
    Calls Try.prog 28 #[.slice s ks.length cap, .slice t js.length cap'] w fun e w' => e = .returned (.bool (eqb ks js)) ∧ Below w.heap.size w w' := eqExprS_all _ ks js s t cap cap' w (Nat.le_refl _) hr hr'
theorem markExprSL_i {ks : List Ex} {s : Option Addr} {c k : Nat} {F : List Nat} {w : World} (h : Ows w [kidsD ks] [.slice s ks.length c] F) (hn : F.Nodup) (hk : k + 2 * Ex.sizeL ks ≤ 1000000000000) :
    Calls Try.prog 30 #[.slice s ks.length c, .int .i64 k] w fun e w' => e = .returned (.int .i64 (k + 2 * Ex.sizeL ks : Nat)) ∧ Ows w' (D.markL [kidsD ks] k) [.slice s ks.length c] F ∧ Only F w w' :=
  (markExprS_all _ ks s c k F w (Nat.le_refl _) h.single hn hk).mono fun _ _ ⟨h1, h2, h3⟩ => ⟨h1, h2.single, h3⟩
theorem cells_laws_Expr' : Try.prog.cellsOf 42 = 3 := by kernel_rfl
set_option maxRecDepth 10000
section
variable {H : Type} {enc : TypeId × Value → H} {W : World} {base : Nat} {sp : Nat → Bool} {hd : Bool} {v : Value} {d : DataW H} {ps : List MemPlace}
theorem open_lawsExprS {r : Reach} {b0 : Nat} (hval : Value.okWide Try.prog W r b0 40 v) (h : DataW.Trod enc Try.prog W base sp hd 40 v d ps) :
    ∃ qs s cap, v = .slice s (List.length qs) cap ∧ Rd W (kidsD qs) (.slice s qs.length cap) := by
  obtain ⟨a, len, cap, rfl⟩ := okWide_slice Try.underlying40 hval
  obtain ⟨fuel, hf⟩ := h
  obtain ⟨v', rows, e2, hrows, hr⟩ := open_sl (size := 3) (Q := fun r => ∃ e : Ex, r = e.cells) Try.underlying40 cells_laws_Expr' (by omega) (fun m _ cs x hx => by
    obtain ⟨e, h0⟩ := open_expr Try.underlying42 Try.underlying40 Try.underlying2 rfl rfl rfl rfl rfl rfl cells_int64 cells_laws_Exprs cells_laws_Expr _ _ _ hx
    exact ⟨e.cells, ⟨e, rfl⟩, Ex.cells_length e, h0⟩) hf
  have e3 : v' = .slice a len cap := by simpa [Value.cells] using e2.symm
  subst e3
  obtain ⟨qs, k1, k2⟩ := rows_exprs rows hrows
  rw [k1, k2] at hr
  obtain ⟨rfl, _⟩ := hr.sl_at
  exact ⟨qs, a, cap, rfl, hr⟩
end
end Go.Proofs.Ytlnojmmjpgpjdaa
