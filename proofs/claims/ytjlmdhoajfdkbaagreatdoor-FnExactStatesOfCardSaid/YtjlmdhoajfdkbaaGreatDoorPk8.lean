/-
  Parts of a proof, joined: CStatesOf. No condition.
-/
import Derived.Test.YtjlmdhoajfdkbaaGreatDoorTie
import Derived.Test.YtjlmdhoajfdkbaaGreatDoorCards
import Derived.Handed
import Derived.LaidLaws
import Derived.LaidMore
import Derived.Stop.Joined
import Derived.WalkKit
import Derived.ProofKit
import Derived.OpenShut
import Derived.ChangeSame
import Derived.Carry
import Derived.Deep.Slices
import Derived.Deep.LoopGhost
import Derived.Deep.DeepFit
import Derived.Deep.DeepMust
import Derived.Deep.RegionWith
import Derived.Deep.RegionHeld3
import Derived.Deep.QuietTactic
import Derived.BigQuiet
import Derived.WalkSpells
import Derived.WalkLawsBesides
import Derived.WalkSmall
import Derived.Lib.Hide
import Derived.Lib.QuietBelow
import Derived.Deep.CutRange
import Derived.Test.YtjlmdhoajfdkbaaGreatDoorRows
import Derived.JoinedOf
import Derived.Lib.AppendStr
import Derived.Shelf.Strings.Builder1
import Derived.Shelf.Small.Bits
import Derived.Shelf.Small.Strs
import Derived.Shelf.Strings.BuilderF
import Derived.Shelf.Strings.BuilderK
import Derived.Shelf.Strconv.Itoa0
import Derived.Shelf.Strconv.Itoa1
import Derived.Shelf.LaysM
import Derived.Shelf.Strconv.Itoa2
import Derived.Shelf.Strconv.Itoa3
import Derived.Shelf.Strconv.Itoa4
import Derived.Shelf.Strings.BuilderCap
import Derived.Test.YtjlmdhoajfdkbaaGreatDoorProg
import Derived.Deep.AppendLies
import Derived.Shelf.SlGeneric
import Derived.Shelf.SlSortCmp.WholeK
import Derived.Ground.SlsfProg
import Derived.Maps.OwnOps
import Derived.DeepKeys4
import Derived.Test.YtjlmdhoajfdkbaaGreatDoorPk0
import Derived.Test.YtjlmdhoajfdkbaaGreatDoorPk1
import Derived.Test.YtjlmdhoajfdkbaaGreatDoorPk2
import Derived.Test.YtjlmdhoajfdkbaaGreatDoorPk3
import Derived.Test.YtjlmdhoajfdkbaaGreatDoorPk4
import Derived.Test.YtjlmdhoajfdkbaaGreatDoorPk5
import Derived.Test.YtjlmdhoajfdkbaaGreatDoorPk6
import Derived.Test.YtjlmdhoajfdkbaaGreatDoorPk7
namespace Go.Proofs.YtjlmdhoajfdkbaaGreatDoor
set_option linter.unusedVariables false
set_option linter.unusedSimpArgs false
open Go Go.ChangeShapes Go.Deep Go.WideShapes Go.ChangeAt Go.RowKit
set_option maxRecDepth 100000 in
theorem fnExactStatesOf_closed : joinedFacts Tryz.prog 4 Tryz.f4 Rows.fnExactStatesOfSpec Rows.fnExactStatesOfRow = true := by
  unfold joinedFacts
  exact (band (band (band (band (band (band (band (band (band (band (band (band (band (band (band (band (band (band (band (band (band (band (band (band (band (band (band (band (band (band (band fnExactStatesOf_k0 fnExactStatesOf_k1) fnExactStatesOf_k2) fnExactStatesOf_k3) fnExactStatesOf_k4) fnExactStatesOf_k5) fnExactStatesOf_k6) fnExactStatesOf_k7) fnExactStatesOf_k8) fnExactStatesOf_k9) fnExactStatesOf_k10) fnExactStatesOf_k11) fnExactStatesOf_k12) fnExactStatesOf_k13) fnExactStatesOf_k14) fnExactStatesOf_k15) fnExactStatesOf_k16) fnExactStatesOf_k17) fnExactStatesOf_k18) fnExactStatesOf_k19) fnExactStatesOf_k20) fnExactStatesOf_k21) fnExactStatesOf_k22) fnExactStatesOf_k23) fnExactStatesOf_k24) fnExactStatesOf_k25) fnExactStatesOf_k26) fnExactStatesOf_k27) fnExactStatesOf_k28) fnExactStatesOf_k29) fnExactStatesOf_k30) fnExactStatesOf_k31)
theorem door_met (os : Os) (args : Array Value) : laidMetH Tryz.prog [("math/bits.deBruijn32tab", Rows.laid_math_bits_deBruijn32tab), ("math/bits.deBruijn64tab", Rows.laid_math_bits_deBruijn64tab), ("internal/strconv.uint64pow10", Rows.laid_internal_strconv_uint64pow10)] ((World.doorLaid Tryz.prog 24 os).forCall (fun _ _ => 0) ⟨#[], args, []⟩).memory :=
  laidMetH_of_parts3 (fuel := 8) (laidMet_of_run' 8 (by kernel_rfl) (by kernel_rfl)) (by kernel_rfl) (by kernel_rfl)
set_option maxRecDepth 100000 in
theorem fnExactStatesOf_lifted (os : Os) (started : os.Started) (H : Type) (enc : TypeId × Value → H) :
    ReturnsInHanded {} Tryz.checked os 4 .any (fun w args => (Rows.fnExactStatesOfSpec.pre enc Tryz.prog Tryz.f4 [] false w args ∧ laidMetH Tryz.prog [("math/bits.deBruijn32tab", Rows.laid_math_bits_deBruijn32tab), ("math/bits.deBruijn64tab", Rows.laid_math_bits_deBruijn64tab), ("internal/strconv.uint64pow10", Rows.laid_internal_strconv_uint64pow10)] w) ∧ sizedMet enc Tryz.prog Tryz.f4 (OpenSpec.ofChange Rows.fnExactStatesOfSpec) false w args)
      (Rows.fnExactStatesOfSpec.post enc Tryz.prog Tryz.f4 false true false false) :=
  laid_lifted (C := Tryz.checked) own laid (by kernel_rfl) rfl (by kernel_rfl) Tryz.underlying4 Tryz.func4 (by kernel_rfl)
    (fun H ds h => by
      rw [Tryz.params4] at h
      match ds, h with | [d0, d1], _ => rfl) os started H enc
    (ChangeSpec.witness_shaped (enc := enc) (C := Tryz.checked) (os := os) (X := fun w _ => laidMetH Tryz.prog [("math/bits.deBruijn32tab", Rows.laid_math_bits_deBruijn32tab), ("math/bits.deBruijn64tab", Rows.laid_math_bits_deBruijn64tab), ("internal/strconv.uint64pow10", Rows.laid_internal_strconv_uint64pow10)] w) false (World.doorLaid Tryz.prog 24 os) #[.agg #[.int .i64 0, .int .i64 0], .agg #[.int .i64 0, .int .i64 0, .slice none 0 0]] 8 rfl (World.shaped_of_RefB (by kernel_rfl) (by kernel_rfl)) (by kernel_rfl) (by kernel_rfl) (by kernel_rfl) (door_met os _))
    (fun W args ds ps hA hval _ => law_StatesOf_of W args ds ps hA hval)
theorem fnExactStatesOf_over : Rows.FnExactStatesOfSaid :=
  OpenClaim.holds_of_wide 4 Tryz.f4 rfl rfl rfl rfl rfl rfl rfl ⟨rfl, rfl, rfl, rfl, rfl⟩ rfl rfl rfl rfl rfl (by kernel_rfl) Tryz.func4 fnExactStatesOf_closed
    (of_decide_eq_true (by kernel_rfl)) (by unfold Func.isWrapper; rw [if_neg (of_decide_eq_false (by kernel_rfl))]; exact ⟨rfl, rfl⟩)
    (fun os started H enc _ => fnExactStatesOf_lifted os started H enc)
theorem fnExactStatesOfCard_proved : Rows.FnExactStatesOfCardSaid :=
  Claim7.holds_tied_plain_at .later [] [.data, .data, .data] true Rows.fnExactStatesOfCard.stood.harness false
    fnExactStatesOf_over (fun _ h => by cases h) (by kernel_rfl) (fun _ h => by cases h) fnExactStatesOf_row_tie rfl ⟨rfl, rfl⟩ (by kernel_rfl) rfl
    (fun f fn hf hfn => by
      obtain rfl : f = 4 := Option.some.inj ((show Tryz.prog.funcNamed "loop.example/g01101/laws.FnExactStatesOf" = some 4 by kernel_rfl).symm.trans hf) |>.symm
      obtain rfl : fn = Tryz.f4 := (Option.some.inj (Tryz.func4.symm.trans hfn)).symm
      exact ⟨by kernel_rfl, fun j t ht => by
        have hall : (Tryz.f4.params.toList.all fun u => !Tryz.prog.wantsStandIn u) = true := by kernel_rfl
        have hm : t ∈ Tryz.f4.params.toList := by simpa using Array.mem_of_getElem? ht
        exact (show Tryz.prog.wantsStandIn t = false by simpa using List.all_eq_true.1 hall t hm)⟩)
    (by kernel_rfl)
#print axioms fnExactStatesOfCard_proved
end Go.Proofs.YtjlmdhoajfdkbaaGreatDoor
