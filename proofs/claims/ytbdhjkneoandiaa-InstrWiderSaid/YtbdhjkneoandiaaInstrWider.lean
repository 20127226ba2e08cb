/-
  A right image stays right with one unit more: the law returns true. No condition.
-/
import Derived.Test.YtbdhjkneoandiaaLHA
import Derived.Test.YtbdhjkneoandiaaLHB
import Derived.Test.YtbdhjkneoandiaaLHC
import Derived.Test.YtbdhjkneoandiaaLHD
import Derived.Test.YtbdhjkneoandiaaLHE
import Derived.Test.YtbdhjkneoandiaaLHF
import Derived.Test.YtbdhjkneoandiaaLHG
namespace Go.Proofs.Ytbdhjkneoandiaa.instrWider
set_option maxRecDepth 100000
open Go.ChangeShapes Go.WideShapes Go.ChangeAt Go.RowKit
set_option linter.unusedVariables false

theorem holds : Holds 7 Try.f7 :=
  holds_of [aImage, aUnit] (by rw [Try.params7]; rfl) fun es h => by
    match es, h with
    | [_, _], ⟨⟨m, rfl⟩, ⟨u, rfl⟩, _⟩ => exact gives_InstrWider _ _

set_option maxRecDepth 100000 in
theorem lifted (os : Os) (started : os.Started) (H : Type) (enc : TypeId × Value → H) :
    ReturnsInHanded {} Try.checked os 7 .any (Rows.instrWiderSpec.pre6 enc Try.prog Try.f7 Rows.instrWiderRow.domain false) (Rows.instrWiderSpec.post enc Try.prog Try.f7 false true false false) := by
  refine returnsInHanded_of_change (C := Try.checked) own started (by kernel_rfl) Try.func7
    (ChangeSpec.witness6 (enc := enc) (C := Try.checked) false ⟨#[], #[.agg #[.slice none 0 0, .slice none 0 0, .int .i64 0], .agg #[.string ⟨#[]⟩, .int .i64 0, .slice none 0 0, .bool false, .int .i64 0]], []⟩ 8 (by kernel_rfl) (by kernel_rfl) (by kernel_rfl) (by kernel_rfl)) ?_
  intro W base args ds gs before hval hW _ _
  exact law_contract holds rfl (by kernel_rfl) rfl rfl (fun H ds h => by
    match ds, h with
    | [_, _], _ => rfl) W base args ds gs before hval hW

theorem over : Rows.instrWiderRow.holds Try.pinned (OpenSpec.ofChange Rows.instrWiderSpec) :=
  OpenClaim.holds_of_wide 7 Try.f7 rfl rfl rfl rfl rfl rfl rfl ⟨rfl, rfl, rfl, rfl, rfl⟩ rfl rfl rfl rfl rfl (by kernel_rfl) Try.func7 (by kernel_rfl)
    (of_decide_eq_true (by kernel_rfl)) (by unfold Func.isWrapper; first | (rw [if_pos (by decide +kernel)]; kernel_rfl) | (rw [if_neg (by decide +kernel)]; exact ⟨rfl, rfl⟩))
    (fun os started H enc _ => lifted os started H enc)

theorem proved : Rows.InstrWiderSaid :=
  over
#print axioms proved
end Go.Proofs.Ytbdhjkneoandiaa.instrWider
