/-
  Find is that of the reference: the law returns true where the arguments are of bulk at most 1048576.
-/
import Derived.Test.YthcgefbigimgoaaLAA
import Derived.Test.YthcgefbigimgoaaLAB
import Derived.Test.YthcgefbigimgoaaLAC
import Derived.Test.YthcgefbigimgoaaLAD
import Derived.Test.YthcgefbigimgoaaLAE
import Derived.Test.YthcgefbigimgoaaLAF
import Derived.Test.YthcgefbigimgoaaLAG
import Derived.Test.YthcgefbigimgoaaLAH
import Derived.Test.YthcgefbigimgoaaLAI
import Derived.Test.YthcgefbigimgoaaLAJ
namespace Go.Proofs.Ythcgefbigimgoaa.terminateFinds
set_option maxRecDepth 100000
open Go.ChangeShapes Go.WideShapes Go.ChangeAt Go.RowKit
set_option linter.unusedVariables false

theorem holds : HoldsU 3 Try.f3 :=
  holdsU_of [bProgram, bInt] (by rw [Try.params3]; rfl) fun es h hb => by
    match es, h with
    | [_, _], ⟨⟨p, rfl⟩, ⟨most, rfl⟩, _⟩ => exact gives_TerminateFinds _ _ (fun r hr => (let ⟨a, b, c, d⟩ := prog_bulk (by simp only [bulkDs] at hb; omega) r hr; ⟨a, b, c, d⟩))

set_option maxRecDepth 100000 in
theorem lifted (os : Os) (started : os.Started) (H : Type) (enc : TypeId × Value → H) (F : Stop.Interp) :
    ReturnsInHanded {} Try.checked os 3 .any ((Rows.OpenSpec.upto Rows.terminateFindsSpec).pre6 enc Try.prog Try.f3 Rows.terminateFindsUptoRow.domain false) (((Rows.OpenSpec.upto Rows.terminateFindsSpec).at F).post enc Try.prog Try.f3 false true false false) := by
  refine returnsInHanded_of_cond (C := Try.checked) (s := Rows.OpenSpec.upto Rows.terminateFindsSpec) (k := Rows.uptoSmall) rfl own started (by kernel_rfl) Try.func3
    (OpenSpec.witness (enc := enc) (C := Try.checked) (s := Rows.OpenSpec.upto Rows.terminateFindsSpec) (k := Rows.uptoSmall) rfl false ⟨#[], #[.agg #[.slice none 0 0, .slice none 0 0], .int .i64 0], []⟩ 8 (by kernel_rfl) (by kernel_rfl) (by kernel_rfl)
      (x := ([.agg [.nil, .nil], .lit (.int .i64 0)], [], [])) (by kernel_rfl) rfl (by kernel_rfl)) ?_
  intro W base args ds gs before hval hW _ hk _
  exact law_contractU holds rfl (by kernel_rfl) rfl rfl (fun H ds h => by
    match ds, h with
    | [_, _], _ => rfl) W base args ds gs before hval hW hk

theorem over : Rows.terminateFindsUptoRow.holds Try.pinned (Rows.OpenSpec.upto Rows.terminateFindsSpec) :=
  OpenClaim.holds_of_cond 3 Try.f3 rfl rfl rfl rfl rfl rfl rfl ⟨rfl, rfl, rfl, rfl, rfl⟩ rfl rfl rfl rfl rfl (by kernel_rfl) Try.func3 (by kernel_rfl)
    (of_decide_eq_true (by kernel_rfl)) (by unfold Func.isWrapper; first | (rw [if_pos (by decide +kernel)]; kernel_rfl) | (rw [if_neg (by decide +kernel)]; exact ⟨rfl, rfl⟩))
    (fun os started H enc _ F => lifted os started H enc F)

theorem proved : Rows.TerminateFindsUptoSaid :=
  over
#print axioms proved
end Go.Proofs.Ythcgefbigimgoaa.terminateFinds
