/-
  Right code stays right without a test, a match or a push, and is not right without its last instruction or with it twice: the law returns true. No condition.
-/
import Derived.Test.YtbdhjkneoandiaaLHA
import Derived.Test.YtbdhjkneoandiaaLHB
import Derived.Test.YtbdhjkneoandiaaLHC
import Derived.Test.YtbdhjkneoandiaaLHD
import Derived.Test.YtbdhjkneoandiaaLHE
import Derived.Test.YtbdhjkneoandiaaLHF
import Derived.Test.YtbdhjkneoandiaaLHG
namespace Go.Proofs.Ytbdhjkneoandiaa.instrLess
set_option maxRecDepth 100000
open Go.ChangeShapes Go.WideShapes Go.ChangeAt Go.RowKit
set_option linter.unusedVariables false

theorem holds : Holds 6 Try.f6 :=
  holds_of [aBlock, aInt] (by rw [Try.params6]; rfl) fun es h => by
    match es, h with
    | [_, _], ⟨⟨b, rfl⟩, ⟨which, rfl⟩, _⟩ => exact gives_InstrLess _ _

set_option maxRecDepth 100000 in
theorem lifted (os : Os) (started : os.Started) (H : Type) (enc : TypeId × Value → H) :
    ReturnsInHanded {} Try.checked os 6 .any (Rows.instrLessSpec.pre6 enc Try.prog Try.f6 Rows.instrLessRow.domain false) (Rows.instrLessSpec.post enc Try.prog Try.f6 false true false false) := by
  refine returnsInHanded_of_change (C := Try.checked) own started (by kernel_rfl) Try.func6
    (ChangeSpec.witness6 (enc := enc) (C := Try.checked) false ⟨#[], #[.agg #[.int .i64 0, .int .i64 0, .bool false, .slice none 0 0], .int .i64 0], []⟩ 8 (by kernel_rfl) (by kernel_rfl) (by kernel_rfl) (by kernel_rfl)) ?_
  intro W base args ds gs before hval hW _ _
  exact law_contract holds rfl (by kernel_rfl) rfl rfl (fun H ds h => by
    match ds, h with
    | [_, _], _ => rfl) W base args ds gs before hval hW

theorem over : Rows.instrLessRow.holds Try.pinned (OpenSpec.ofChange Rows.instrLessSpec) :=
  OpenClaim.holds_of_wide 6 Try.f6 rfl rfl rfl rfl rfl rfl rfl ⟨rfl, rfl, rfl, rfl, rfl⟩ rfl rfl rfl rfl rfl (by kernel_rfl) Try.func6 (by kernel_rfl)
    (of_decide_eq_true (by kernel_rfl)) (by unfold Func.isWrapper; first | (rw [if_pos (by decide +kernel)]; kernel_rfl) | (rw [if_neg (by decide +kernel)]; exact ⟨rfl, rfl⟩))
    (fun os started H enc _ => lifted os started H enc)

theorem proved : Rows.InstrLessSaid :=
  over
#print axioms proved
end Go.Proofs.Ytbdhjkneoandiaa.instrLess
