/-
  Every right state and every right memory has an encoding: the law returns true where the arguments are of bulk at most 1048576.
-/
import Derived.Test.YtdoljfkjdfaakaaGreatLSA
import Derived.Test.YtdoljfkjdfaakaaGreatLSB
import Derived.Test.YtdoljfkjdfaakaaGreatLSC
import Derived.Test.YtdoljfkjdfaakaaGreatLSD
import Derived.Test.YtdoljfkjdfaakaaGreatLSE
import Derived.Test.YtdoljfkjdfaakaaGreatLSF
import Derived.Test.YtdoljfkjdfaakaaGreatLSG
import Derived.Test.YtdoljfkjdfaakaaGreatLSH
import Derived.Test.YtdoljfkjdfaakaaGreatLSI
import Derived.Test.YtdoljfkjdfaakaaGreatLSJ
import Derived.Test.YtdoljfkjdfaakaaGreatLSK
namespace Go.Proofs.YtdoljfkjdfaakaaGreat.snapshotStates
set_option maxRecDepth 100000
open Go.ChangeShapes Go.WideShapes Go.ChangeAt Go.RowKit
set_option linter.unusedVariables false

theorem holds : HoldsU 6 Tryz.f6 :=
  qsa [bProgram, bConfig, bMemory] (by rw [Tryz.params6]; rfl) fun es h hb => by
    match es, h with
    | [_, _, _], ⟨⟨p, rfl⟩, ⟨c, rfl⟩, ⟨m, rfl⟩, _⟩ => exact qlT _ _ _ (by simp only [bulkDs] at hb; refine ⟨?_, ?_, ?_⟩ <;> omega)

set_option maxRecDepth 100000 in
theorem lifted (os : Os) (started : os.Started) (H : Type) (enc : TypeId × Value → H) (F : Stop.Interp) :
    ReturnsInHanded {} Tryz.checked os 6 .any ((Rows.OpenSpec.upto Rows.snapshotStatesSpec).pre6 enc Tryz.prog Tryz.f6 Rows.snapshotStatesUptoRow.domain false) (((Rows.OpenSpec.upto Rows.snapshotStatesSpec).at F).post enc Tryz.prog Tryz.f6 false true false false) := by
  refine returnsInHanded_of_cond (C := Tryz.checked) (s := Rows.OpenSpec.upto Rows.snapshotStatesSpec) (k := Rows.uptoSmall) rfl own started (by kernel_rfl) Tryz.func6
    (OpenSpec.witness (enc := enc) (C := Tryz.checked) (s := Rows.OpenSpec.upto Rows.snapshotStatesSpec) (k := Rows.uptoSmall) rfl false ⟨#[], #[.agg #[.slice none 0 0, .slice none 0 0], .agg #[.slice none 0 0, .slice none 0 0, .slice none 0 0, .slice none 0 0, .int .i64 0, .int .i64 0, .bool false], .agg #[.slice none 0 0, .slice none 0 0, .slice none 0 0, .int .i64 0, .int .i64 0]], []⟩ 8 (by kernel_rfl) (by kernel_rfl) (by kernel_rfl)
      (x := ([.agg [.nil, .nil], .agg [.nil, .nil, .nil, .nil, .lit (.int .i64 0), .lit (.int .i64 0), .lit (.bool false)], .agg [.nil, .nil, .nil, .lit (.int .i64 0), .lit (.int .i64 0)]], [], [])) (by kernel_rfl) rfl (by kernel_rfl)) ?_
  intro W base args ds gs before hval hW _ hk _
  exact qox holds rfl (by kernel_rfl) rfl rfl (fun H ds h => by
    match ds, h with
    | [_, _, _], _ => rfl) W base args ds gs before hval hW hk

theorem over : Rows.snapshotStatesUptoRow.holds Tryz.pinned (Rows.OpenSpec.upto Rows.snapshotStatesSpec) :=
  OpenClaim.holds_of_cond 6 Tryz.f6 rfl rfl rfl rfl rfl rfl rfl ⟨rfl, rfl, rfl, rfl, rfl⟩ rfl rfl rfl rfl rfl (by kernel_rfl) Tryz.func6 (by kernel_rfl)
    (of_decide_eq_true (by kernel_rfl)) (by unfold Func.isWrapper; first | (rw [if_pos (by decide +kernel)]; kernel_rfl) | (rw [if_neg (by decide +kernel)]; exact ⟨rfl, rfl⟩))
    (fun os started H enc _ F => lifted os started H enc F)

theorem proved : Rows.SnapshotStatesUptoSaid :=
  over
#print axioms proved
end Go.Proofs.YtdoljfkjdfaakaaGreat.snapshotStates
