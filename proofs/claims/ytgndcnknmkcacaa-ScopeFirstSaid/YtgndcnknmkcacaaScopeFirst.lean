/-
  The rules before the first wrong one are right, and that one is wrong by itself: the law returns true. No condition.
-/
import Derived.Test.YtgndcnknmkcacaaLFA
import Derived.Test.YtgndcnknmkcacaaLFB
import Derived.Test.YtgndcnknmkcacaaLFC
import Derived.Test.YtgndcnknmkcacaaLFD
import Derived.Test.YtgndcnknmkcacaaLFE
namespace Go.Proofs.Ytgndcnknmkcacaa.scopeFirst
set_option maxRecDepth 100000
open Go.ChangeShapes Go.WideShapes Go.ChangeAt Go.RowKit
set_option linter.unusedVariables false

theorem holds : Holds 8 Try.f8 :=
  holds_of [aProgram] (by rw [Try.params8]; rfl) fun es h => by
    match es, h with
    | [_], ⟨⟨p, rfl⟩, _⟩ => exact gives_ScopeFirst _

set_option maxRecDepth 100000 in
theorem lifted (os : Os) (started : os.Started) (H : Type) (enc : TypeId × Value → H) :
    ReturnsInHanded {} Try.checked os 8 .any (Rows.scopeFirstSpec.pre6 enc Try.prog Try.f8 Rows.scopeFirstRow.domain false) (Rows.scopeFirstSpec.post enc Try.prog Try.f8 false true false false) := by
  refine returnsInHanded_of_change (C := Try.checked) own started (by kernel_rfl) Try.func8
    (ChangeSpec.witness6 (enc := enc) (C := Try.checked) false ⟨#[], #[.agg #[.slice none 0 0, .slice none 0 0]], []⟩ 8 (by kernel_rfl) (by kernel_rfl) (by kernel_rfl) (by kernel_rfl)) ?_
  intro W base args ds gs before hval hW _ _
  exact law_contract holds rfl (by kernel_rfl) rfl rfl (fun H ds h => by
    match ds, h with
    | [_], _ => rfl) W base args ds gs before hval hW

theorem over : Rows.scopeFirstRow.holds Try.pinned (OpenSpec.ofChange Rows.scopeFirstSpec) :=
  OpenClaim.holds_of_wide 8 Try.f8 rfl rfl rfl rfl rfl rfl rfl ⟨rfl, rfl, rfl, rfl, rfl⟩ rfl rfl rfl rfl rfl (by kernel_rfl) Try.func8 (by kernel_rfl)
    (of_decide_eq_true (by kernel_rfl)) (by unfold Func.isWrapper; first | (rw [if_pos (by decide +kernel)]; kernel_rfl) | (rw [if_neg (by decide +kernel)]; exact ⟨rfl, rfl⟩))
    (fun os started H enc _ => lifted os started H enc)

theorem proved : Rows.ScopeFirstSaid :=
  over
#print axioms proved
end Go.Proofs.Ytgndcnknmkcacaa.scopeFirst
