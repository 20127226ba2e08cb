/-
  The linear form of a rule is applicable to the same constraints as the rule: the law returns true. No condition.
-/
import Derived.Test.YtabbfihjeppbhaaGreatLMA
import Derived.Test.YtabbfihjeppbhaaGreatLMB
import Derived.Test.YtabbfihjeppbhaaGreatLMC
import Derived.Test.YtabbfihjeppbhaaGreatLMD
import Derived.Test.YtabbfihjeppbhaaGreatLME
import Derived.Test.YtabbfihjeppbhaaGreatLMF
import Derived.Test.YtabbfihjeppbhaaGreatLMG
import Derived.Test.YtabbfihjeppbhaaGreatLMH
import Derived.Test.YtabbfihjeppbhaaGreatLMI
import Derived.Test.YtabbfihjeppbhaaGreatLMJ
import Derived.Test.YtabbfihjeppbhaaGreatLMK
namespace Go.Proofs.YtabbfihjeppbhaaGreat.normalMeans
set_option maxRecDepth 100000
open Go.ChangeShapes Go.WideShapes Go.ChangeAt Go.RowKit
set_option linter.unusedVariables false

theorem holds : Holds 3 Tryz.f3 :=
  qrn [aRule, aAtoms] (by rw [Tryz.params3]; rfl) fun es h => by
    match es, h with
    | [_, _], ⟨⟨r, rfl⟩, ⟨l, rfl⟩, _⟩ => exact qjj _ _

set_option maxRecDepth 100000 in
theorem lifted (os : Os) (started : os.Started) (H : Type) (enc : TypeId × Value → H) :
    ReturnsInHanded {} Tryz.checked os 3 .any (Rows.normalMeansSpec.pre6 enc Tryz.prog Tryz.f3 Rows.normalMeansRow.domain false) (Rows.normalMeansSpec.post enc Tryz.prog Tryz.f3 false true false false) := by
  refine returnsInHanded_of_change (C := Tryz.checked) own started (by kernel_rfl) Tryz.func3
    (ChangeSpec.witness6 (enc := enc) (C := Tryz.checked) false ⟨#[], #[.agg #[.string ⟨#[]⟩, .slice none 0 0, .slice none 0 0, .slice none 0 0, .slice none 0 0, .int .i64 0], .slice none 0 0], []⟩ 8 (by kernel_rfl) (by kernel_rfl) (by kernel_rfl) (by kernel_rfl)) ?_
  intro W base args ds gs before hval hW _ _
  exact ql7 holds rfl (by kernel_rfl) rfl rfl (fun H ds h => by
    match ds, h with
    | [_, _], _ => rfl) W base args ds gs before hval hW

theorem over : Rows.normalMeansRow.holds Tryz.pinned (OpenSpec.ofChange Rows.normalMeansSpec) :=
  OpenClaim.holds_of_wide 3 Tryz.f3 rfl rfl rfl rfl rfl rfl rfl ⟨rfl, rfl, rfl, rfl, rfl⟩ rfl rfl rfl rfl rfl (by kernel_rfl) Tryz.func3 (by kernel_rfl)
    (of_decide_eq_true (by kernel_rfl)) (by unfold Func.isWrapper; first | (rw [if_pos (by decide +kernel)]; kernel_rfl) | (rw [if_neg (by decide +kernel)]; exact ⟨rfl, rfl⟩))
    (fun os started H enc _ => lifted os started H enc)

theorem proved : Rows.NormalMeansSaid :=
  over
#print axioms proved
end Go.Proofs.YtabbfihjeppbhaaGreat.normalMeans
