/-
  Ranks and their totals are those of the reference, and the total of two parts is the sum: the law returns true. No condition.
-/
import Derived.Test.YtnlncgjlhnodgaaLRA
import Derived.Test.YtnlncgjlhnodgaaLRB
import Derived.Test.YtnlncgjlhnodgaaLRC
import Derived.Test.YtnlncgjlhnodgaaLRD
import Derived.Test.YtnlncgjlhnodgaaLRE
namespace Go.Proofs.Ytnlncgjlhnodgaa.rankTotals
set_option maxRecDepth 100000
open Go.ChangeShapes Go.WideShapes Go.ChangeAt Go.RowKit
set_option linter.unusedVariables false

theorem holds : Holds 3 Try.f3 :=
  holds_of [aRanks, aAtoms, aU8] (by rw [Try.params3]; rfl) fun es h => by
    match es, h with
    | [_, _, _], ⟨⟨ranks, rfl⟩, ⟨l, rfl⟩, ⟨k, rfl, hk⟩, _⟩ => exact gives_RankTotals _ _ _ hk

set_option maxRecDepth 100000 in
theorem lifted (os : Os) (started : os.Started) (H : Type) (enc : TypeId × Value → H) :
    ReturnsInHanded {} Try.checked os 3 .any (Rows.rankTotalsSpec.pre6 enc Try.prog Try.f3 Rows.rankTotalsRow.domain false) (Rows.rankTotalsSpec.post enc Try.prog Try.f3 false true false false) := by
  refine returnsInHanded_of_change (C := Try.checked) own started (by kernel_rfl) Try.func3
    (ChangeSpec.witness6 (enc := enc) (C := Try.checked) false ⟨#[], #[.slice none 0 0, .slice none 0 0, .int .u8 0], []⟩ 8 (by kernel_rfl) (by kernel_rfl) (by kernel_rfl) (by kernel_rfl)) ?_
  intro W base args ds gs before hval hW _ _
  exact law_contract holds rfl (by kernel_rfl) rfl rfl (fun H ds h => by
    match ds, h with
    | [_, _, _], _ => rfl) W base args ds gs before hval hW

theorem over : Rows.rankTotalsRow.holds Try.pinned (OpenSpec.ofChange Rows.rankTotalsSpec) :=
  OpenClaim.holds_of_wide 3 Try.f3 rfl rfl rfl rfl rfl rfl rfl ⟨rfl, rfl, rfl, rfl, rfl⟩ rfl rfl rfl rfl rfl (by kernel_rfl) Try.func3 (by kernel_rfl)
    (of_decide_eq_true (by kernel_rfl)) (by unfold Func.isWrapper; first | (rw [if_pos (by decide +kernel)]; kernel_rfl) | (rw [if_neg (by decide +kernel)]; exact ⟨rfl, rfl⟩))
    (fun os started H enc _ => lifted os started H enc)

theorem proved : Rows.RankTotalsSaid :=
  over
#print axioms proved
end Go.Proofs.Ytnlncgjlhnodgaa.rankTotals
