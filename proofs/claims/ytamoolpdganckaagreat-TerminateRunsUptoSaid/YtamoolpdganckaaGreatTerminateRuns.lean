/-
  Where there is a ranking, a run of a query of ground calls applies rules with removed heads at most as often as the rank of the query: the law returns true where the arguments are of bulk at most 1048576.
-/
import Derived.Test.YtamoolpdganckaaGreatLRA
import Derived.Test.YtamoolpdganckaaGreatLRB
import Derived.Test.YtamoolpdganckaaGreatLRC
import Derived.Test.YtamoolpdganckaaGreatLRD
import Derived.Test.YtamoolpdganckaaGreatLRE
import Derived.Test.YtamoolpdganckaaGreatLRF
import Derived.Test.YtamoolpdganckaaGreatLRG
import Derived.Test.YtamoolpdganckaaGreatLRH
import Derived.Test.YtamoolpdganckaaGreatLRI
import Derived.Test.YtamoolpdganckaaGreatLRJ
import Derived.Test.YtamoolpdganckaaGreatLRK
namespace Go.Proofs.YtamoolpdganckaaGreat.terminateRuns
set_option maxRecDepth 100000
open Go.ChangeShapes Go.WideShapes Go.ChangeAt Go.RowKit
set_option linter.unusedVariables false

theorem holds : zbC 4 Tryz.f4 :=
  qz4 [zbM, bGoals, bInt] (by rw [Tryz.params4]; rfl) fun es h hb => by
    match es, h with
    | [_, _, _], ⟨⟨p, rfl⟩, ⟨goals, rfl⟩, ⟨most, rfl⟩, _⟩ => exact qnQ _ _ _ (by simp only [zG] at hb; omega) (by simp only [zG] at hb; omega)

set_option maxRecDepth 100000 in
theorem lifted (os : Os) (started : os.Started) (H : Type) (enc : TypeId × Value → H) (F : Stop.Interp) :
    ReturnsInHanded {} Tryz.checked os 4 .any ((Rows.OpenSpec.upto Rows.terminateRunsSpec).pre6 enc Tryz.prog Tryz.f4 Rows.terminateRunsUptoRow.domain false) (((Rows.OpenSpec.upto Rows.terminateRunsSpec).at F).post enc Tryz.prog Tryz.f4 false true false false) := by
  refine returnsInHanded_of_cond (C := Tryz.checked) (s := Rows.OpenSpec.upto Rows.terminateRunsSpec) (k := Rows.uptoSmall) rfl own started (by kernel_rfl) Tryz.func4
    (OpenSpec.witness (enc := enc) (C := Tryz.checked) (s := Rows.OpenSpec.upto Rows.terminateRunsSpec) (k := Rows.uptoSmall) rfl false ⟨#[], #[.agg #[.slice none 0 0, .slice none 0 0], .slice none 0 0, .int .i64 0], []⟩ 8 (by kernel_rfl) (by kernel_rfl) (by kernel_rfl)
      (x := ([.agg [.nil, .nil], .nil, .lit (.int .i64 0)], [], [])) (by kernel_rfl) rfl (by kernel_rfl)) ?_
  intro W base args ds gs before hval hW _ hk _
  exact qtm holds rfl (by kernel_rfl) rfl rfl (fun H ds h => by
    match ds, h with
    | [_, _, _], _ => rfl) W base args ds gs before hval hW hk

theorem over : Rows.terminateRunsUptoRow.holds Tryz.pinned (Rows.OpenSpec.upto Rows.terminateRunsSpec) :=
  OpenClaim.holds_of_cond 4 Tryz.f4 rfl rfl rfl rfl rfl rfl rfl ⟨rfl, rfl, rfl, rfl, rfl⟩ rfl rfl rfl rfl rfl (by kernel_rfl) Tryz.func4 (by kernel_rfl)
    (of_decide_eq_true (by kernel_rfl)) (by unfold Func.isWrapper; first | (rw [if_pos (by decide +kernel)]; kernel_rfl) | (rw [if_neg (by decide +kernel)]; exact ⟨rfl, rfl⟩))
    (fun os started H enc _ F => lifted os started H enc F)

theorem proved : Rows.TerminateRunsUptoSaid :=
  over
#print axioms proved
end Go.Proofs.YtamoolpdganckaaGreat.terminateRuns
