/-
  Config returns the specified bytes and TakeConfig the state again: the law returns true where the argument is of bulk at most 1048576.
-/
import Derived.Test.YtdoljfkjdfaakaaGreatLCoG
import Derived.Test.YtdoljfkjdfaakaaGreatLCoH
namespace Go.Proofs.YtdoljfkjdfaakaaGreat.snapshotConfigs
set_option maxRecDepth 100000
open Go.ChangeShapes Go.WideShapes Go.ChangeAt Go.RowKit
set_option linter.unusedVariables false

theorem holds : HoldsU 4 Tryz.f4 :=
  holdsU_of [bConfig] (by rw [Tryz.params4]; rfl) fun es h hb => by
    match es, h with
    | [_], ⟨⟨c, rfl⟩, _⟩ => exact gives_SnapshotConfigs _ (config_bulk (by simp only [bulkDs] at hb; omega))

set_option maxRecDepth 100000 in
theorem lifted (os : Os) (started : os.Started) (H : Type) (enc : TypeId × Value → H) (F : Stop.Interp) :
    ReturnsInHanded {} Tryz.checked os 4 .any ((Rows.OpenSpec.upto Rows.snapshotConfigsSpec).pre6 enc Tryz.prog Tryz.f4 Rows.snapshotConfigsUptoRow.domain false) (((Rows.OpenSpec.upto Rows.snapshotConfigsSpec).at F).post enc Tryz.prog Tryz.f4 false true false false) := by
  refine returnsInHanded_of_cond (C := Tryz.checked) (s := Rows.OpenSpec.upto Rows.snapshotConfigsSpec) (k := Rows.uptoSmall) rfl own started (by kernel_rfl) Tryz.func4
    (OpenSpec.witness (enc := enc) (C := Tryz.checked) (s := Rows.OpenSpec.upto Rows.snapshotConfigsSpec) (k := Rows.uptoSmall) rfl false ⟨#[], #[.agg #[.slice none 0 0, .slice none 0 0, .slice none 0 0, .slice none 0 0, .int .i64 0, .int .i64 0, .bool false]], []⟩ 8 (by kernel_rfl) (by kernel_rfl) (by kernel_rfl)
      (x := ([.agg [.nil, .nil, .nil, .nil, .lit (.int .i64 0), .lit (.int .i64 0), .lit (.bool false)]], [], [])) (by kernel_rfl) rfl (by kernel_rfl)) ?_
  intro W base args ds gs before hval hW _ hk _
  exact law_contractU holds rfl (by kernel_rfl) rfl rfl (fun H ds h => by
    match ds, h with
    | [_], _ => rfl) W base args ds gs before hval hW hk

theorem over : Rows.snapshotConfigsUptoRow.holds Tryz.pinned (Rows.OpenSpec.upto Rows.snapshotConfigsSpec) :=
  OpenClaim.holds_of_cond 4 Tryz.f4 rfl rfl rfl rfl rfl rfl rfl ⟨rfl, rfl, rfl, rfl, rfl⟩ rfl rfl rfl rfl rfl (by kernel_rfl) Tryz.func4 (by kernel_rfl)
    (of_decide_eq_true (by kernel_rfl)) (by unfold Func.isWrapper; first | (rw [if_pos (by decide +kernel)]; kernel_rfl) | (rw [if_neg (by decide +kernel)]; exact ⟨rfl, rfl⟩))
    (fun os started H enc _ F => lifted os started H enc F)

theorem proved : Rows.SnapshotConfigsUptoSaid :=
  over
#print axioms proved
end Go.Proofs.YtdoljfkjdfaakaaGreat.snapshotConfigs
