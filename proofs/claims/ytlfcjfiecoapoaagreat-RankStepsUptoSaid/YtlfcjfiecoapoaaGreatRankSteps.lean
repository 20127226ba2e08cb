/-
  Where all rules decrease the rank, each application of a rule that removes something decreases the measure of a state: the law returns true where the arguments are of bulk at most 1048576.
-/
import Derived.Test.YtlfcjfiecoapoaaGreatLRA
import Derived.Test.YtlfcjfiecoapoaaGreatLRB
import Derived.Test.YtlfcjfiecoapoaaGreatLRC
import Derived.Test.YtlfcjfiecoapoaaGreatLRD
import Derived.Test.YtlfcjfiecoapoaaGreatLRE
import Derived.Test.YtlfcjfiecoapoaaGreatLRF
import Derived.Test.YtlfcjfiecoapoaaGreatLRG
import Derived.Test.YtlfcjfiecoapoaaGreatLRH
import Derived.Test.YtlfcjfiecoapoaaGreatLRI
import Derived.Test.YtlfcjfiecoapoaaGreatLRJ
import Derived.Test.YtlfcjfiecoapoaaGreatLRK
import Derived.Test.YtlfcjfiecoapoaaGreatLRL
namespace Go.Proofs.YtlfcjfiecoapoaaGreat.rankSteps
set_option maxRecDepth 100000
open Go.ChangeShapes Go.WideShapes Go.ChangeAt Go.RowKit
set_option linter.unusedVariables false

theorem holds : zba 3 Tryz.f3 :=
  qv6 [zbq, bRanks, bState] (by rw [Tryz.params3]; rfl) fun es h hb => by
    match es, h with
    | [_, _, _], ⟨⟨p, rfl⟩, ⟨ranks, rfl⟩, ⟨s, rfl⟩, _⟩ => exact qnU _ _ _ (by simp only [zC] at hb; omega) (by simp only [zC] at hb; omega)

set_option maxRecDepth 100000 in
theorem lifted (os : Os) (started : os.Started) (H : Type) (enc : TypeId × Value → H) (F : Stop.Interp) :
    ReturnsInHanded {} Tryz.checked os 3 .any ((Rows.OpenSpec.upto Rows.rankStepsSpec).pre6 enc Tryz.prog Tryz.f3 Rows.rankStepsUptoRow.domain false) (((Rows.OpenSpec.upto Rows.rankStepsSpec).at F).post enc Tryz.prog Tryz.f3 false true false false) := by
  refine returnsInHanded_of_cond (C := Tryz.checked) (s := Rows.OpenSpec.upto Rows.rankStepsSpec) (k := Rows.uptoSmall) rfl own started (by kernel_rfl) Tryz.func3
    (OpenSpec.witness (enc := enc) (C := Tryz.checked) (s := Rows.OpenSpec.upto Rows.rankStepsSpec) (k := Rows.uptoSmall) rfl false ⟨#[], #[.agg #[.slice none 0 0, .slice none 0 0], .slice none 0 0, .agg #[.slice none 0 0, .slice none 0 0, .slice none 0 0, .slice none 0 0, .slice none 0 0, .int .i64 0, .int .i64 0, .bool false]], []⟩ 8 (by kernel_rfl) (by kernel_rfl) (by kernel_rfl)
      (x := ([.agg [.nil, .nil], .nil, .agg [.nil, .nil, .nil, .nil, .nil, .lit (.int .i64 0), .lit (.int .i64 0), .lit (.bool false)]], [], [])) (by kernel_rfl) rfl (by kernel_rfl)) ?_
  intro W base args ds gs before hval hW _ hk _
  exact qrT holds rfl (by kernel_rfl) rfl rfl (fun H ds h => by
    match ds, h with
    | [_, _, _], _ => rfl) W base args ds gs before hval hW hk

theorem over : Rows.rankStepsUptoRow.holds Tryz.pinned (Rows.OpenSpec.upto Rows.rankStepsSpec) :=
  OpenClaim.holds_of_cond 3 Tryz.f3 rfl rfl rfl rfl rfl rfl rfl ⟨rfl, rfl, rfl, rfl, rfl⟩ rfl rfl rfl rfl rfl (by kernel_rfl) Tryz.func3 (by kernel_rfl)
    (of_decide_eq_true (by kernel_rfl)) (by unfold Func.isWrapper; first | (rw [if_pos (by decide +kernel)]; kernel_rfl) | (rw [if_neg (by decide +kernel)]; exact ⟨rfl, rfl⟩))
    (fun os started H enc _ F => lifted os started H enc F)

theorem proved : Rows.RankStepsUptoSaid :=
  over
#print axioms proved
end Go.Proofs.YtlfcjfiecoapoaaGreat.rankSteps
