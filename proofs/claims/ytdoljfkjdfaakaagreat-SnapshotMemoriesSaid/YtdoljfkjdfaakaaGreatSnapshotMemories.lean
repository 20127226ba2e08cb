/-
  Memory returns the specified bytes and TakeMemory the memory again: the law returns true. No condition.
-/
import Derived.Test.YtdoljfkjdfaakaaGreatLMeG
import Derived.Test.YtdoljfkjdfaakaaGreatLMeH
namespace Go.Proofs.YtdoljfkjdfaakaaGreat.snapshotMemories
set_option maxRecDepth 100000
open Go.ChangeShapes Go.WideShapes Go.ChangeAt Go.RowKit
set_option linter.unusedVariables false

theorem holds : Holds 7 Tryz.f7 :=
  holds_of [aMemory] (by rw [Tryz.params7]; rfl) fun es h => by
    match es, h with
    | [_], ⟨⟨m, rfl⟩, _⟩ => exact gives_SnapshotMemories _

set_option maxRecDepth 100000 in
theorem lifted (os : Os) (started : os.Started) (H : Type) (enc : TypeId × Value → H) :
    ReturnsInHanded {} Tryz.checked os 7 .any (Rows.snapshotMemoriesSpec.pre6 enc Tryz.prog Tryz.f7 Rows.snapshotMemoriesRow.domain false) (Rows.snapshotMemoriesSpec.post enc Tryz.prog Tryz.f7 false true false false) := by
  refine returnsInHanded_of_change (C := Tryz.checked) own started (by kernel_rfl) Tryz.func7
    (ChangeSpec.witness6 (enc := enc) (C := Tryz.checked) false ⟨#[], #[.agg #[.slice none 0 0, .slice none 0 0, .slice none 0 0, .int .i64 0, .int .i64 0]], []⟩ 8 (by kernel_rfl) (by kernel_rfl) (by kernel_rfl) (by kernel_rfl)) ?_
  intro W base args ds gs before hval hW _ _
  exact law_contract holds rfl (by kernel_rfl) rfl rfl (fun H ds h => by
    match ds, h with
    | [_], _ => rfl) W base args ds gs before hval hW

theorem over : Rows.snapshotMemoriesRow.holds Tryz.pinned (OpenSpec.ofChange Rows.snapshotMemoriesSpec) :=
  OpenClaim.holds_of_wide 7 Tryz.f7 rfl rfl rfl rfl rfl rfl rfl ⟨rfl, rfl, rfl, rfl, rfl⟩ rfl rfl rfl rfl rfl (by kernel_rfl) Tryz.func7 (by kernel_rfl)
    (of_decide_eq_true (by kernel_rfl)) (by unfold Func.isWrapper; first | (rw [if_pos (by decide +kernel)]; kernel_rfl) | (rw [if_neg (by decide +kernel)]; exact ⟨rfl, rfl⟩))
    (fun os started H enc _ => lifted os started H enc)

theorem proved : Rows.SnapshotMemoriesSaid :=
  over
#print axioms proved
end Go.Proofs.YtdoljfkjdfaakaaGreat.snapshotMemories
