/-
  Next visits all lists of digits, each once: the law returns true. No condition.
-/
import Derived.Test.YthcgefbigimgoaaLAA
import Derived.Test.YthcgefbigimgoaaLAB
import Derived.Test.YthcgefbigimgoaaLAC
import Derived.Test.YthcgefbigimgoaaLAD
import Derived.Test.YthcgefbigimgoaaLAE
import Derived.Test.YthcgefbigimgoaaLAF
import Derived.Test.YthcgefbigimgoaaLAG
import Derived.Test.YthcgefbigimgoaaLAH
import Derived.Test.YthcgefbigimgoaaLAI
namespace Go.Proofs.Ythcgefbigimgoaa.terminateVisits
set_option maxRecDepth 100000
open Go.ChangeShapes Go.WideShapes Go.ChangeAt Go.RowKit
set_option linter.unusedVariables false

theorem holds : Holds 5 Try.f5 :=
  holds_of [aU8, aU8] (by rw [Try.params5]; rfl) fun es h => by
    match es, h with
    | [_, _], ⟨⟨n, rfl, hn⟩, ⟨m, rfl, hm⟩, _⟩ => exact gives_TerminateVisits _ _ hn hm

set_option maxRecDepth 100000 in
theorem lifted (os : Os) (started : os.Started) (H : Type) (enc : TypeId × Value → H) :
    ReturnsInHanded {} Try.checked os 5 .any (Rows.terminateVisitsSpec.pre6 enc Try.prog Try.f5 Rows.terminateVisitsRow.domain false) (Rows.terminateVisitsSpec.post enc Try.prog Try.f5 false true false false) := by
  refine returnsInHanded_of_change (C := Try.checked) own started (by kernel_rfl) Try.func5
    (ChangeSpec.witness6 (enc := enc) (C := Try.checked) false ⟨#[], #[.int .u8 0, .int .u8 0], []⟩ 8 (by kernel_rfl) (by kernel_rfl) (by kernel_rfl) (by kernel_rfl)) ?_
  intro W base args ds gs before hval hW _ _
  exact law_contract holds rfl (by kernel_rfl) rfl rfl (fun H ds h => by
    match ds, h with
    | [_, _], _ => rfl) W base args ds gs before hval hW

theorem over : Rows.terminateVisitsRow.holds Try.pinned (OpenSpec.ofChange Rows.terminateVisitsSpec) :=
  OpenClaim.holds_of_wide 5 Try.f5 rfl rfl rfl rfl rfl rfl rfl ⟨rfl, rfl, rfl, rfl, rfl⟩ rfl rfl rfl rfl rfl (by kernel_rfl) Try.func5 (by kernel_rfl)
    (of_decide_eq_true (by kernel_rfl)) (by unfold Func.isWrapper; first | (rw [if_pos (by decide +kernel)]; kernel_rfl) | (rw [if_neg (by decide +kernel)]; exact ⟨rfl, rfl⟩))
    (fun os started H enc _ => lifted os started H enc)

theorem proved : Rows.TerminateVisitsSaid :=
  over
#print axioms proved
end Go.Proofs.Ythcgefbigimgoaa.terminateVisits
