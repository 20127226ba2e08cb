/-
  Each beginning of an encoding is too short, and one byte more is wrong: the law returns true where the arguments are of bulk at most 1048576.
-/
import Derived.Test.YtdoljfkjdfaakaaGreatLCuF
namespace Go.Proofs.YtdoljfkjdfaakaaGreat.snapshotCuts
set_option maxRecDepth 100000
open Go.ChangeShapes Go.WideShapes Go.ChangeAt Go.RowKit
set_option linter.unusedVariables false

theorem holds : HoldsU 5 Tryz.f5 :=
  holdsU_of [bProgram, bConfig, bU16] (by rw [Tryz.params5]; rfl) fun es h hb => by
    match es, h with
    | [_, _, _], ⟨⟨p, rfl⟩, ⟨c, rfl⟩, ⟨k, rfl, hk, hk2⟩, _⟩ => exact gives_SnapshotCuts _ _ _ (config_bulk (by simp only [bulkDs] at hb; omega)) hk hk2

set_option maxRecDepth 100000 in
theorem lifted (os : Os) (started : os.Started) (H : Type) (enc : TypeId × Value → H) (F : Stop.Interp) :
    ReturnsInHanded {} Tryz.checked os 5 .any ((Rows.OpenSpec.upto Rows.snapshotCutsSpec).pre6 enc Tryz.prog Tryz.f5 Rows.snapshotCutsUptoRow.domain false) (((Rows.OpenSpec.upto Rows.snapshotCutsSpec).at F).post enc Tryz.prog Tryz.f5 false true false false) := by
  refine returnsInHanded_of_cond (C := Tryz.checked) (s := Rows.OpenSpec.upto Rows.snapshotCutsSpec) (k := Rows.uptoSmall) rfl own started (by kernel_rfl) Tryz.func5
    (OpenSpec.witness (enc := enc) (C := Tryz.checked) (s := Rows.OpenSpec.upto Rows.snapshotCutsSpec) (k := Rows.uptoSmall) rfl false ⟨#[], #[.agg #[.slice none 0 0, .slice none 0 0], .agg #[.slice none 0 0, .slice none 0 0, .slice none 0 0, .slice none 0 0, .int .i64 0, .int .i64 0, .bool false], .int .u16 0], []⟩ 8 (by kernel_rfl) (by kernel_rfl) (by kernel_rfl)
      (x := ([.agg [.nil, .nil], .agg [.nil, .nil, .nil, .nil, .lit (.int .i64 0), .lit (.int .i64 0), .lit (.bool false)], .lit (.int .u16 0)], [], [])) (by kernel_rfl) rfl (by kernel_rfl)) ?_
  intro W base args ds gs before hval hW _ hk _
  exact law_contractU holds rfl (by kernel_rfl) rfl rfl (fun H ds h => by
    match ds, h with
    | [_, _, _], _ => rfl) W base args ds gs before hval hW hk

theorem over : Rows.snapshotCutsUptoRow.holds Tryz.pinned (Rows.OpenSpec.upto Rows.snapshotCutsSpec) :=
  OpenClaim.holds_of_cond 5 Tryz.f5 rfl rfl rfl rfl rfl rfl rfl ⟨rfl, rfl, rfl, rfl, rfl⟩ rfl rfl rfl rfl rfl (by kernel_rfl) Tryz.func5 (by kernel_rfl)
    (of_decide_eq_true (by kernel_rfl)) (by unfold Func.isWrapper; first | (rw [if_pos (by decide +kernel)]; kernel_rfl) | (rw [if_neg (by decide +kernel)]; exact ⟨rfl, rfl⟩))
    (fun os started H enc _ F => lifted os started H enc F)

theorem proved : Rows.SnapshotCutsUptoSaid :=
  over
#print axioms proved
end Go.Proofs.YtdoljfkjdfaakaaGreat.snapshotCuts
