/-
  Join of the linear form is Join of the rule: the law returns true. No condition.
-/
import Derived.Test.YtlannippingfdaaLBA
import Derived.Test.YtlannippingfdaaLBB
import Derived.Test.YtlannippingfdaaLBC
import Derived.Test.YtlannippingfdaaLBD
import Derived.Test.YtlannippingfdaaLBE
import Derived.Test.YtlannippingfdaaLBF
import Derived.Test.YtlannippingfdaaLBG
import Derived.Test.YtlannippingfdaaLBH
namespace Go.Proofs.Ytlannippingfdaa.normalBack
set_option maxRecDepth 100000
open Go.ChangeShapes Go.WideShapes Go.ChangeAt Go.RowKit
set_option linter.unusedVariables false

theorem holds : Holds 4 Try.f4 :=
  holds_of [aRule] (by rw [Try.params4]; rfl) fun es h => by
    match es, h with
    | [_], ⟨⟨r, rfl⟩, _⟩ => exact gives_NormalBack _

set_option maxRecDepth 100000 in
theorem lifted (os : Os) (started : os.Started) (H : Type) (enc : TypeId × Value → H) :
    ReturnsInHanded {} Try.checked os 4 .any (Rows.normalBackSpec.pre6 enc Try.prog Try.f4 Rows.normalBackRow.domain false) (Rows.normalBackSpec.post enc Try.prog Try.f4 false true false false) := by
  refine returnsInHanded_of_change (C := Try.checked) own started (by kernel_rfl) Try.func4
    (ChangeSpec.witness6 (enc := enc) (C := Try.checked) false ⟨#[], #[.agg #[.string ⟨#[]⟩, .slice none 0 0, .slice none 0 0, .slice none 0 0, .slice none 0 0, .int .i64 0]], []⟩ 8 (by kernel_rfl) (by kernel_rfl) (by kernel_rfl) (by kernel_rfl)) ?_
  intro W base args ds gs before hval hW _ _
  exact law_contract holds rfl (by kernel_rfl) rfl rfl (fun H ds h => by
    match ds, h with
    | [_], _ => rfl) W base args ds gs before hval hW

theorem over : Rows.normalBackRow.holds Try.pinned (OpenSpec.ofChange Rows.normalBackSpec) :=
  OpenClaim.holds_of_wide 4 Try.f4 rfl rfl rfl rfl rfl rfl rfl ⟨rfl, rfl, rfl, rfl, rfl⟩ rfl rfl rfl rfl rfl (by kernel_rfl) Try.func4 (by kernel_rfl)
    (of_decide_eq_true (by kernel_rfl)) (by unfold Func.isWrapper; first | (rw [if_pos (by decide +kernel)]; kernel_rfl) | (rw [if_neg (by decide +kernel)]; exact ⟨rfl, rfl⟩))
    (fun os started H enc _ => lifted os started H enc)

theorem proved : Rows.NormalBackSaid :=
  over
#print axioms proved
end Go.Proofs.Ytlannippingfdaa.normalBack
