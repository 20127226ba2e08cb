/-
  Check is that of the reference: the law returns true. No condition.
-/
import Derived.Test.YtbdhjkneoandiaaGreatLGA
import Derived.Test.YtbdhjkneoandiaaGreatLGB
import Derived.Test.YtbdhjkneoandiaaGreatLGC
import Derived.Test.YtbdhjkneoandiaaGreatLGD
import Derived.Test.YtbdhjkneoandiaaGreatLGE
import Derived.Test.YtbdhjkneoandiaaGreatLGF
import Derived.Test.YtbdhjkneoandiaaGreatLGG
import Derived.Test.YtbdhjkneoandiaaGreatLGH
import Derived.Test.YtbdhjkneoandiaaGreatLGI
import Derived.Test.YtbdhjkneoandiaaGreatLGJ
namespace Go.Proofs.YtbdhjkneoandiaaGreat.instrCheck
set_option maxRecDepth 100000
open Go.ChangeShapes Go.WideShapes Go.ChangeAt Go.RowKit
set_option linter.unusedVariables false

theorem holds : Holds 3 Tryz.f3 :=
  holds_of [aBlock] (by rw [Tryz.params3]; rfl) fun es h => by
    match es, h with
    | [_], ⟨⟨b, rfl⟩, _⟩ => exact gives_InstrCheck _

set_option maxRecDepth 100000 in
theorem lifted (os : Os) (started : os.Started) (H : Type) (enc : TypeId × Value → H) :
    ReturnsInHanded {} Tryz.checked os 3 .any (Rows.instrCheckSpec.pre6 enc Tryz.prog Tryz.f3 Rows.instrCheckRow.domain false) (Rows.instrCheckSpec.post enc Tryz.prog Tryz.f3 false true false false) := by
  refine returnsInHanded_of_change (C := Tryz.checked) own started (by kernel_rfl) Tryz.func3
    (ChangeSpec.witness6 (enc := enc) (C := Tryz.checked) false ⟨#[], #[.agg #[.int .i64 0, .int .i64 0, .bool false, .slice none 0 0]], []⟩ 8 (by kernel_rfl) (by kernel_rfl) (by kernel_rfl) (by kernel_rfl)) ?_
  intro W base args ds gs before hval hW _ _
  exact law_contract holds rfl (by kernel_rfl) rfl rfl (fun H ds h => by
    match ds, h with
    | [_], _ => rfl) W base args ds gs before hval hW

theorem over : Rows.instrCheckRow.holds Tryz.pinned (OpenSpec.ofChange Rows.instrCheckSpec) :=
  OpenClaim.holds_of_wide 3 Tryz.f3 rfl rfl rfl rfl rfl rfl rfl ⟨rfl, rfl, rfl, rfl, rfl⟩ rfl rfl rfl rfl rfl (by kernel_rfl) Tryz.func3 (by kernel_rfl)
    (of_decide_eq_true (by kernel_rfl)) (by unfold Func.isWrapper; first | (rw [if_pos (by decide +kernel)]; kernel_rfl) | (rw [if_neg (by decide +kernel)]; exact ⟨rfl, rfl⟩))
    (fun os started H enc _ => lifted os started H enc)

theorem proved : Rows.InstrCheckSaid :=
  over
#print axioms proved
end Go.Proofs.YtbdhjkneoandiaaGreat.instrCheck
