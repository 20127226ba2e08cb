/-
  Rules appended and rules in front change Never and Late as they should: the law returns true. No condition.
-/
import Derived.Test.YtnldggbcfcibaaaLGA
import Derived.Test.YtnldggbcfcibaaaLGB
import Derived.Test.YtnldggbcfcibaaaLGC
import Derived.Test.YtnldggbcfcibaaaLGD
import Derived.Test.YtnldggbcfcibaaaLGE
import Derived.Test.YtnldggbcfcibaaaLGF
namespace Go.Proofs.Ytnldggbcfcibaaa.storedMore
set_option maxRecDepth 100000
open Go.ChangeShapes Go.WideShapes Go.ChangeAt Go.RowKit
set_option linter.unusedVariables false

theorem holds : Holds 5 Try.f5 :=
  holds_of [aProgram, aRule] (by rw [Try.params5]; rfl) fun es h => by
    match es, h with
    | [_, _], ⟨⟨p, rfl⟩, ⟨r, rfl⟩, _⟩ => exact gives_StoredMore _ _

set_option maxRecDepth 100000 in
theorem lifted (os : Os) (started : os.Started) (H : Type) (enc : TypeId × Value → H) :
    ReturnsInHanded {} Try.checked os 5 .any (Rows.storedMoreSpec.pre6 enc Try.prog Try.f5 Rows.storedMoreRow.domain false) (Rows.storedMoreSpec.post enc Try.prog Try.f5 false true false false) := by
  refine returnsInHanded_of_change (C := Try.checked) own started (by kernel_rfl) Try.func5
    (ChangeSpec.witness6 (enc := enc) (C := Try.checked) false ⟨#[], #[.agg #[.slice none 0 0, .slice none 0 0], .agg #[.string ⟨#[]⟩, .slice none 0 0, .slice none 0 0, .slice none 0 0, .slice none 0 0, .int .i64 0]], []⟩ 8 (by kernel_rfl) (by kernel_rfl) (by kernel_rfl) (by kernel_rfl)) ?_
  intro W base args ds gs before hval hW _ _
  exact law_contract holds rfl (by kernel_rfl) rfl rfl (fun H ds h => by
    match ds, h with
    | [_, _], _ => rfl) W base args ds gs before hval hW

theorem over : Rows.storedMoreRow.holds Try.pinned (OpenSpec.ofChange Rows.storedMoreSpec) :=
  OpenClaim.holds_of_wide 5 Try.f5 rfl rfl rfl rfl rfl rfl rfl ⟨rfl, rfl, rfl, rfl, rfl⟩ rfl rfl rfl rfl rfl (by kernel_rfl) Try.func5 (by kernel_rfl)
    (of_decide_eq_true (by kernel_rfl)) (by unfold Func.isWrapper; first | (rw [if_pos (by decide +kernel)]; kernel_rfl) | (rw [if_neg (by decide +kernel)]; exact ⟨rfl, rfl⟩))
    (fun os started H enc _ => lifted os started H enc)

theorem proved : Rows.StoredMoreSaid :=
  over
#print axioms proved
end Go.Proofs.Ytnldggbcfcibaaa.storedMore
