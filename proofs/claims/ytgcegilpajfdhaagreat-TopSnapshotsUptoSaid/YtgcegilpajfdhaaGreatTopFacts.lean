/-
  What the row's cells say of the program, by reckoning: each part a fact of its own. No condition.
-/
import Derived.Test.YtgcegilpajfdhaaGreatRows
import Derived.JoinedCond
import Derived.KernelRfl
namespace Go.Proofs.YtgcegilpajfdhaaGreat.topSnapshots
open Go.ChangeShapes

theorem aT {a b : Bool} (h : a = true) (k : b = true) : (a && b) = true := by rw [h, k]; rfl
set_option maxRecDepth 100000 in
set_option maxHeartbeats 8000000 in
theorem closed : joinedFacts Tryz.checked.prog 3 Tryz.f3 (Rows.OpenSpec.upto Rows.topSnapshotsSpec).bare Rows.topSnapshotsUptoRow = true := by
  unfold joinedFacts
  refine aT (aT (aT (aT (aT (aT (aT (aT (aT (aT (aT (aT (aT (aT (aT (aT (aT (aT (aT (aT (aT (aT (aT (aT (aT (aT (aT (aT (aT (aT (aT ?_ ?_) ?_) ?_) ?_) ?_) ?_) ?_) ?_) ?_) ?_) ?_) ?_) ?_) ?_) ?_) ?_) ?_) ?_) ?_) ?_) ?_) ?_) ?_) ?_) ?_) ?_) ?_) ?_) ?_) ?_) ?_
  all_goals as_aux_lemma => kernel_rfl

set_option maxRecDepth 100000 in
set_option maxHeartbeats 8000000 in
theorem named : Tryz.checked.prog.funcNamed Rows.topSnapshotsUptoRow.func = some 3 := by kernel_rfl
end Go.Proofs.YtgcegilpajfdhaaGreat.topSnapshots
