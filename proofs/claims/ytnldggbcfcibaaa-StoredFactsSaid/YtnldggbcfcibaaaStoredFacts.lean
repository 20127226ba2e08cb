/-
  Inert, Never and Late are those of the reference: the law returns true. No condition.
-/
import Derived.Test.YtnldggbcfcibaaaLGA
import Derived.Test.YtnldggbcfcibaaaLGB
import Derived.Test.YtnldggbcfcibaaaLGC
import Derived.Test.YtnldggbcfcibaaaLGD
import Derived.Test.YtnldggbcfcibaaaLGE
import Derived.Test.YtnldggbcfcibaaaLGF
namespace Go.Proofs.Ytnldggbcfcibaaa.storedFacts
set_option maxRecDepth 100000
open Go.ChangeShapes Go.WideShapes Go.ChangeAt Go.RowKit
set_option linter.unusedVariables false

theorem holds : Holds 3 Try.f3 :=
  holds_of [aProgram, aStr, aInt] (by rw [Try.params3]; rfl) fun es h => by
    match es, h with
    | [_, _, _], ⟨⟨p, rfl⟩, ⟨name, rfl⟩, ⟨arity, rfl⟩, _⟩ => exact gives_StoredFacts _ _ _

set_option maxRecDepth 100000 in
theorem lifted (os : Os) (started : os.Started) (H : Type) (enc : TypeId × Value → H) :
    ReturnsInHanded {} Try.checked os 3 .any (Rows.storedFactsSpec.pre6 enc Try.prog Try.f3 Rows.storedFactsRow.domain false) (Rows.storedFactsSpec.post enc Try.prog Try.f3 false true false false) := by
  refine returnsInHanded_of_change (C := Try.checked) own started (by kernel_rfl) Try.func3
    (ChangeSpec.witness6 (enc := enc) (C := Try.checked) false ⟨#[], #[.agg #[.slice none 0 0, .slice none 0 0], .string ⟨#[]⟩, .int .i64 0], []⟩ 8 (by kernel_rfl) (by kernel_rfl) (by kernel_rfl) (by kernel_rfl)) ?_
  intro W base args ds gs before hval hW _ _
  exact law_contract holds rfl (by kernel_rfl) rfl rfl (fun H ds h => by
    match ds, h with
    | [_, _, _], _ => rfl) W base args ds gs before hval hW

theorem over : Rows.storedFactsRow.holds Try.pinned (OpenSpec.ofChange Rows.storedFactsSpec) :=
  OpenClaim.holds_of_wide 3 Try.f3 rfl rfl rfl rfl rfl rfl rfl ⟨rfl, rfl, rfl, rfl, rfl⟩ rfl rfl rfl rfl rfl (by kernel_rfl) Try.func3 (by kernel_rfl)
    (of_decide_eq_true (by kernel_rfl)) (by unfold Func.isWrapper; first | (rw [if_pos (by decide +kernel)]; kernel_rfl) | (rw [if_neg (by decide +kernel)]; exact ⟨rfl, rfl⟩))
    (fun os started H enc _ => lifted os started H enc)

theorem proved : Rows.StoredFactsSaid :=
  over
#print axioms proved
end Go.Proofs.Ytnldggbcfcibaaa.storedFacts
