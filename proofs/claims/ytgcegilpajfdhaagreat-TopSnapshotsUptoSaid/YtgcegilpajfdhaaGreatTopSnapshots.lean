/-
  A snapshot goes on where the state stood: the law returns true where the arguments are of bulk at most 1048576.
-/
import Derived.Test.YtgcegilpajfdhaaGreatLTA
import Derived.Test.YtgcegilpajfdhaaGreatLTB
import Derived.Test.YtgcegilpajfdhaaGreatLTC
import Derived.Test.YtgcegilpajfdhaaGreatLTD
import Derived.Test.YtgcegilpajfdhaaGreatLTE
import Derived.Test.YtgcegilpajfdhaaGreatLTF
import Derived.Test.YtgcegilpajfdhaaGreatLTG
import Derived.Test.YtgcegilpajfdhaaGreatLTH
import Derived.Test.YtgcegilpajfdhaaGreatLTI
import Derived.Test.YtgcegilpajfdhaaGreatLTJ
import Derived.Test.YtgcegilpajfdhaaGreatTopFacts
namespace Go.Proofs.YtgcegilpajfdhaaGreat.topSnapshots
set_option maxRecDepth 100000
open Go.ChangeShapes Go.WideShapes Go.ChangeAt Go.RowKit
set_option linter.unusedVariables false

theorem own : ownKnob Tryz.prog.godebug = none := by kernel_rfl
theorem holds : zbM 3 Tryz.f3 :=
  qwQ [zce, bQuery, bTwo] (by rw [Tryz.params3]; rfl) fun es h hb => by
    match es, h with
    | [_, _, _], ⟨⟨p, rfl⟩, ⟨q, rfl⟩, ⟨n, rfl, hn⟩, _⟩ => exact qlI _ _ _ (by simp only [zL] at hb; omega) (by simp only [zL] at hb; omega) hn

set_option maxRecDepth 100000 in
theorem lifted (os : Os) (started : os.Started) (H : Type) (enc : TypeId × Value → H) (F : Stop.Interp) :
    ReturnsInHanded {} Tryz.checked os 3 .any ((Rows.OpenSpec.upto Rows.topSnapshotsSpec).pre6 enc Tryz.prog Tryz.f3 Rows.topSnapshotsUptoRow.domain false) (((Rows.OpenSpec.upto Rows.topSnapshotsSpec).at F).post enc Tryz.prog Tryz.f3 false true false false) := by
  refine returnsInHanded_of_cond (C := Tryz.checked) (s := Rows.OpenSpec.upto Rows.topSnapshotsSpec) (k := Rows.uptoSmall) rfl own started (by kernel_rfl) Tryz.func3
    (OpenSpec.witness (enc := enc) (C := Tryz.checked) (s := Rows.OpenSpec.upto Rows.topSnapshotsSpec) (k := Rows.uptoSmall) rfl false ⟨#[], #[.agg #[.slice none 0 0, .slice none 0 0], .agg #[.slice none 0 0, .int .i64 0], .agg #[.int .u8 0, .int .u8 0]], []⟩ 8 (by kernel_rfl) (by kernel_rfl) (by kernel_rfl)
      (x := ([.agg [.nil, .nil], .agg [.nil, .lit (.int .i64 0)], .agg [.lit (.int .u8 0), .lit (.int .u8 0)]], [], [])) (by kernel_rfl) rfl (by kernel_rfl)) ?_
  intro W base args ds gs before hval hW _ hk _
  exact qpG holds rfl (by kernel_rfl) rfl rfl (fun H ds h => by
    match ds, h with
    | [_, _, _], _ => rfl) W base args ds gs before hval hW hk

set_option maxHeartbeats 8000000 in
theorem over : Rows.topSnapshotsUptoRow.holds Tryz.pinned (Rows.OpenSpec.upto Rows.topSnapshotsSpec) :=
  OpenClaim.holds_of_cond 3 Tryz.f3 rfl rfl rfl rfl rfl rfl rfl ⟨rfl, rfl, rfl, rfl, rfl⟩ rfl rfl rfl rfl rfl named Tryz.func3 closed
    (of_decide_eq_true (by as_aux_lemma => kernel_rfl)) (by unfold Func.isWrapper; first | (rw [if_pos (by decide +kernel)]; kernel_rfl) | (rw [if_neg (by decide +kernel)]; exact ⟨rfl, rfl⟩))
    (fun os started H enc _ F => lifted os started H enc F)

theorem proved : Rows.TopSnapshotsUptoSaid :=
  over
#print axioms proved
end Go.Proofs.YtgcegilpajfdhaaGreat.topSnapshots
