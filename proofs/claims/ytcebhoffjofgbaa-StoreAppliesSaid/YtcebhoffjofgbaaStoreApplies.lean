/-
  Apply applies a substitution to all constraints: the law returns true. No condition.
-/
import Derived.Test.YtcebhoffjofgbaaLGA
import Derived.Test.YtcebhoffjofgbaaLGB
import Derived.Test.YtcebhoffjofgbaaLGC
import Derived.Test.YtcebhoffjofgbaaLGD
namespace Go.Proofs.Ytcebhoffjofgbaa.storeApplies
set_option maxRecDepth 100000
open Go.ChangeShapes Go.WideShapes Go.ChangeAt Go.RowKit
set_option linter.unusedVariables false

theorem holds : Holds 3 Try.f3 :=
  holds_of [aItems, aBinds, aDecl] (by rw [Try.params3]; rfl) fun es h => by
    match es, h with
    | [_, _, _], ⟨⟨l, rfl⟩, ⟨b, rfl⟩, ⟨q, rfl⟩, _⟩ => exact gives_StoreApplies _ _ _

set_option maxRecDepth 100000 in
theorem lifted (os : Os) (started : os.Started) (H : Type) (enc : TypeId × Value → H) :
    ReturnsInHanded {} Try.checked os 3 .any (Rows.storeAppliesSpec.pre6 enc Try.prog Try.f3 Rows.storeAppliesRow.domain false) (Rows.storeAppliesSpec.post enc Try.prog Try.f3 false true false false) := by
  refine returnsInHanded_of_change (C := Try.checked) own started (by kernel_rfl) Try.func3
    (ChangeSpec.witness6 (enc := enc) (C := Try.checked) false ⟨#[], #[.slice none 0 0, .slice none 0 0, .agg #[.string ⟨#[]⟩, .int .i64 0]], []⟩ 8 (by kernel_rfl) (by kernel_rfl) (by kernel_rfl) (by kernel_rfl)) ?_
  intro W base args ds gs before hval hW _ _
  exact law_contract holds rfl (by kernel_rfl) rfl rfl (fun H ds h => by
    match ds, h with
    | [_, _, _], _ => rfl) W base args ds gs before hval hW

theorem over : Rows.storeAppliesRow.holds Try.pinned (OpenSpec.ofChange Rows.storeAppliesSpec) :=
  OpenClaim.holds_of_wide 3 Try.f3 rfl rfl rfl rfl rfl rfl rfl ⟨rfl, rfl, rfl, rfl, rfl⟩ rfl rfl rfl rfl rfl (by kernel_rfl) Try.func3 (by kernel_rfl)
    (of_decide_eq_true (by kernel_rfl)) (by unfold Func.isWrapper; first | (rw [if_pos (by decide +kernel)]; kernel_rfl) | (rw [if_neg (by decide +kernel)]; exact ⟨rfl, rfl⟩))
    (fun os started H enc _ => lifted os started H enc)

theorem proved : Rows.StoreAppliesSaid :=
  over
#print axioms proved
end Go.Proofs.Ytcebhoffjofgbaa.storeApplies
