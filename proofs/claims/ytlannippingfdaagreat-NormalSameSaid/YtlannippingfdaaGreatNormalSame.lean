/-
  Same is that of the reference, and a rule is the same as itself renamed: the law returns true. No condition.
-/
import Derived.Test.YtlannippingfdaaGreatLSA
import Derived.Test.YtlannippingfdaaGreatLSB
import Derived.Test.YtlannippingfdaaGreatLSC
import Derived.Test.YtlannippingfdaaGreatLSD
import Derived.Test.YtlannippingfdaaGreatLSE
import Derived.Test.YtlannippingfdaaGreatLSF
import Derived.Test.YtlannippingfdaaGreatLSG
import Derived.Test.YtlannippingfdaaGreatLSH
namespace Go.Proofs.YtlannippingfdaaGreat.normalSame
set_option maxRecDepth 100000
open Go.ChangeShapes Go.WideShapes Go.ChangeAt Go.RowKit
set_option linter.unusedVariables false

theorem holds : Holds 4 Tryz.f4 :=
  holds_of [aRule, aRule, aInt] (by rw [Tryz.params4]; rfl) fun es h => by
    match es, h with
    | [_, _, _], ⟨⟨a, rfl⟩, ⟨b, rfl⟩, ⟨k, rfl⟩, _⟩ => exact gives_NormalSame _ _ _

set_option maxRecDepth 100000 in
theorem lifted (os : Os) (started : os.Started) (H : Type) (enc : TypeId × Value → H) :
    ReturnsInHanded {} Tryz.checked os 4 .any (Rows.normalSameSpec.pre6 enc Tryz.prog Tryz.f4 Rows.normalSameRow.domain false) (Rows.normalSameSpec.post enc Tryz.prog Tryz.f4 false true false false) := by
  refine returnsInHanded_of_change (C := Tryz.checked) own started (by kernel_rfl) Tryz.func4
    (ChangeSpec.witness6 (enc := enc) (C := Tryz.checked) false ⟨#[], #[.agg #[.string ⟨#[]⟩, .slice none 0 0, .slice none 0 0, .slice none 0 0, .slice none 0 0, .int .i64 0], .agg #[.string ⟨#[]⟩, .slice none 0 0, .slice none 0 0, .slice none 0 0, .slice none 0 0, .int .i64 0], .int .i64 0], []⟩ 8 (by kernel_rfl) (by kernel_rfl) (by kernel_rfl) (by kernel_rfl)) ?_
  intro W base args ds gs before hval hW _ _
  exact law_contract holds rfl (by kernel_rfl) rfl rfl (fun H ds h => by
    match ds, h with
    | [_, _, _], _ => rfl) W base args ds gs before hval hW

theorem over : Rows.normalSameRow.holds Tryz.pinned (OpenSpec.ofChange Rows.normalSameSpec) :=
  OpenClaim.holds_of_wide 4 Tryz.f4 rfl rfl rfl rfl rfl rfl rfl ⟨rfl, rfl, rfl, rfl, rfl⟩ rfl rfl rfl rfl rfl (by kernel_rfl) Tryz.func4 (by kernel_rfl)
    (of_decide_eq_true (by kernel_rfl)) (by unfold Func.isWrapper; first | (rw [if_pos (by decide +kernel)]; kernel_rfl) | (rw [if_neg (by decide +kernel)]; exact ⟨rfl, rfl⟩))
    (fun os started H enc _ => lifted os started H enc)

theorem proved : Rows.NormalSameSaid :=
  over
#print axioms proved
end Go.Proofs.YtlannippingfdaaGreat.normalSame
