/-
  Program returns the specified bytes and TakeProgram the program again: the law returns true. No condition.
-/
import Derived.Test.YtdoljfkjdfaakaaGreatLPA
import Derived.Test.YtdoljfkjdfaakaaGreatLPB
import Derived.Test.YtdoljfkjdfaakaaGreatLPC
import Derived.Test.YtdoljfkjdfaakaaGreatLPD
import Derived.Test.YtdoljfkjdfaakaaGreatLPE
import Derived.Test.YtdoljfkjdfaakaaGreatLPF
import Derived.Test.YtdoljfkjdfaakaaGreatLPG
namespace Go.Proofs.YtdoljfkjdfaakaaGreat.snapshotPrograms
set_option maxRecDepth 100000
open Go.ChangeShapes Go.WideShapes Go.ChangeAt Go.RowKit
set_option linter.unusedVariables false

theorem holds : Holds 3 Tryz.f3 :=
  holds_of [aProgram] (by rw [Tryz.params3]; rfl) fun es h => by
    match es, h with
    | [_], ⟨⟨p, rfl⟩, _⟩ => exact gives_SnapshotPrograms _

set_option maxRecDepth 100000 in
theorem lifted (os : Os) (started : os.Started) (H : Type) (enc : TypeId × Value → H) :
    ReturnsInHanded {} Tryz.checked os 3 .any (Rows.snapshotProgramsSpec.pre6 enc Tryz.prog Tryz.f3 Rows.snapshotProgramsRow.domain false) (Rows.snapshotProgramsSpec.post enc Tryz.prog Tryz.f3 false true false false) := by
  refine returnsInHanded_of_change (C := Tryz.checked) own started (by kernel_rfl) Tryz.func3
    (ChangeSpec.witness6 (enc := enc) (C := Tryz.checked) false ⟨#[], #[.agg #[.slice none 0 0, .slice none 0 0]], []⟩ 8 (by kernel_rfl) (by kernel_rfl) (by kernel_rfl) (by kernel_rfl)) ?_
  intro W base args ds gs before hval hW _ _
  exact law_contract holds rfl (by kernel_rfl) rfl rfl (fun H ds h => by
    match ds, h with
    | [_], _ => rfl) W base args ds gs before hval hW

theorem over : Rows.snapshotProgramsRow.holds Tryz.pinned (OpenSpec.ofChange Rows.snapshotProgramsSpec) :=
  OpenClaim.holds_of_wide 3 Tryz.f3 rfl rfl rfl rfl rfl rfl rfl ⟨rfl, rfl, rfl, rfl, rfl⟩ rfl rfl rfl rfl rfl (by kernel_rfl) Tryz.func3 (by kernel_rfl)
    (of_decide_eq_true (by kernel_rfl)) (by unfold Func.isWrapper; first | (rw [if_pos (by decide +kernel)]; kernel_rfl) | (rw [if_neg (by decide +kernel)]; exact ⟨rfl, rfl⟩))
    (fun os started H enc _ => lifted os started H enc)

theorem proved : Rows.SnapshotProgramsSaid :=
  over
#print axioms proved
end Go.Proofs.YtdoljfkjdfaakaaGreat.snapshotPrograms
