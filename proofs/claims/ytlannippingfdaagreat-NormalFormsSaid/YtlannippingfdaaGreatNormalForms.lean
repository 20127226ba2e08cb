/-
  Linear, IsLinear and Join are those of the reference: the law returns true. No condition.
-/
import Derived.Test.YtlannippingfdaaGreatLFA
import Derived.Test.YtlannippingfdaaGreatLFB
import Derived.Test.YtlannippingfdaaGreatLFC
import Derived.Test.YtlannippingfdaaGreatLFD
import Derived.Test.YtlannippingfdaaGreatLFE
import Derived.Test.YtlannippingfdaaGreatLFF
import Derived.Test.YtlannippingfdaaGreatLFG
import Derived.Test.YtlannippingfdaaGreatLFH
namespace Go.Proofs.YtlannippingfdaaGreat.normalForms
set_option maxRecDepth 100000
open Go.ChangeShapes Go.WideShapes Go.ChangeAt Go.RowKit
set_option linter.unusedVariables false

theorem holds : Holds 3 Tryz.f3 :=
  holds_of [aRule] (by rw [Tryz.params3]; rfl) fun es h => by
    match es, h with
    | [_], ⟨⟨r, rfl⟩, _⟩ => exact gives_NormalForms _

set_option maxRecDepth 100000 in
theorem lifted (os : Os) (started : os.Started) (H : Type) (enc : TypeId × Value → H) :
    ReturnsInHanded {} Tryz.checked os 3 .any (Rows.normalFormsSpec.pre6 enc Tryz.prog Tryz.f3 Rows.normalFormsRow.domain false) (Rows.normalFormsSpec.post enc Tryz.prog Tryz.f3 false true false false) := by
  refine returnsInHanded_of_change (C := Tryz.checked) own started (by kernel_rfl) Tryz.func3
    (ChangeSpec.witness6 (enc := enc) (C := Tryz.checked) false ⟨#[], #[.agg #[.string ⟨#[]⟩, .slice none 0 0, .slice none 0 0, .slice none 0 0, .slice none 0 0, .int .i64 0]], []⟩ 8 (by kernel_rfl) (by kernel_rfl) (by kernel_rfl) (by kernel_rfl)) ?_
  intro W base args ds gs before hval hW _ _
  exact law_contract holds rfl (by kernel_rfl) rfl rfl (fun H ds h => by
    match ds, h with
    | [_], _ => rfl) W base args ds gs before hval hW

theorem over : Rows.normalFormsRow.holds Tryz.pinned (OpenSpec.ofChange Rows.normalFormsSpec) :=
  OpenClaim.holds_of_wide 3 Tryz.f3 rfl rfl rfl rfl rfl rfl rfl ⟨rfl, rfl, rfl, rfl, rfl⟩ rfl rfl rfl rfl rfl (by kernel_rfl) Tryz.func3 (by kernel_rfl)
    (of_decide_eq_true (by kernel_rfl)) (by unfold Func.isWrapper; first | (rw [if_pos (by decide +kernel)]; kernel_rfl) | (rw [if_neg (by decide +kernel)]; exact ⟨rfl, rfl⟩))
    (fun os started H enc _ => lifted os started H enc)

theorem proved : Rows.NormalFormsSaid :=
  over
#print axioms proved
end Go.Proofs.YtlannippingfdaaGreat.normalForms
