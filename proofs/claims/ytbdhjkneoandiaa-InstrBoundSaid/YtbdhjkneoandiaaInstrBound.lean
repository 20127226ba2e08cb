/-
  Right code uses bound registers alone and ends with its only ICommit: the law returns true. No condition.
-/
import Derived.Test.YtbdhjkneoandiaaLGA
import Derived.Test.YtbdhjkneoandiaaLGB
import Derived.Test.YtbdhjkneoandiaaLGC
import Derived.Test.YtbdhjkneoandiaaLGD
import Derived.Test.YtbdhjkneoandiaaLGE
import Derived.Test.YtbdhjkneoandiaaLGF
import Derived.Test.YtbdhjkneoandiaaLGG
import Derived.Test.YtbdhjkneoandiaaLGH
namespace Go.Proofs.Ytbdhjkneoandiaa.instrBound
set_option maxRecDepth 100000
open Go.ChangeShapes Go.WideShapes Go.ChangeAt Go.RowKit
set_option linter.unusedVariables false

theorem holds : Holds 5 Try.f5 :=
  holds_of [aBlock] (by rw [Try.params5]; rfl) fun es h => by
    match es, h with
    | [_], ⟨⟨b, rfl⟩, _⟩ => exact gives_InstrBound _

set_option maxRecDepth 100000 in
theorem lifted (os : Os) (started : os.Started) (H : Type) (enc : TypeId × Value → H) :
    ReturnsInHanded {} Try.checked os 5 .any (Rows.instrBoundSpec.pre6 enc Try.prog Try.f5 Rows.instrBoundRow.domain false) (Rows.instrBoundSpec.post enc Try.prog Try.f5 false true false false) := by
  refine returnsInHanded_of_change (C := Try.checked) own started (by kernel_rfl) Try.func5
    (ChangeSpec.witness6 (enc := enc) (C := Try.checked) false ⟨#[], #[.agg #[.int .i64 0, .int .i64 0, .bool false, .slice none 0 0]], []⟩ 8 (by kernel_rfl) (by kernel_rfl) (by kernel_rfl) (by kernel_rfl)) ?_
  intro W base args ds gs before hval hW _ _
  exact law_contract holds rfl (by kernel_rfl) rfl rfl (fun H ds h => by
    match ds, h with
    | [_], _ => rfl) W base args ds gs before hval hW

theorem over : Rows.instrBoundRow.holds Try.pinned (OpenSpec.ofChange Rows.instrBoundSpec) :=
  OpenClaim.holds_of_wide 5 Try.f5 rfl rfl rfl rfl rfl rfl rfl ⟨rfl, rfl, rfl, rfl, rfl⟩ rfl rfl rfl rfl rfl (by kernel_rfl) Try.func5 (by kernel_rfl)
    (of_decide_eq_true (by kernel_rfl)) (by unfold Func.isWrapper; first | (rw [if_pos (by decide +kernel)]; kernel_rfl) | (rw [if_neg (by decide +kernel)]; exact ⟨rfl, rfl⟩))
    (fun os started H enc _ => lifted os started H enc)

theorem proved : Rows.InstrBoundSaid :=
  over
#print axioms proved
end Go.Proofs.Ytbdhjkneoandiaa.instrBound
