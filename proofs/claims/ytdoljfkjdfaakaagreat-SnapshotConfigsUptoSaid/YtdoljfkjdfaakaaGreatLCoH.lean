/-
  Texts of the seat, merged.
-/
import Derived.Test.YtdoljfkjdfaakaaGreatLBA
import Derived.Test.YtdoljfkjdfaakaaGreatLBB
import Derived.Test.YtdoljfkjdfaakaaGreatLBC
import Derived.Test.YtdoljfkjdfaakaaGreatLBD
import Derived.Test.YtdoljfkjdfaakaaGreatLBE
import Derived.Test.YtdoljfkjdfaakaaGreatLCoF
import Derived.Test.YtdoljfkjdfaakaaGreatLCoG
import Derived.Test.YtdoljfkjdfaakaaGreatChecked
import Derived.WalkKit
import Derived.Lib.Hide
import Derived.Lib.AppendStr
import Derived.Deep.AppendLies
import Derived.Deep.AppendSrc
import Derived.Deep.Draws
import Derived.Deep.QuietTactic
import Derived.BigQuiet
import Derived.Deep.RegionWith
import Derived.Maps.AppendAt
import Derived.WalkSpells
import Derived.Orders
import Derived.Deep.Slices
import Derived.Deep.Fields
import Derived.ChangeArms
import Derived.Lib.OthersKept
import Derived.Lib.TrimU
import Derived.Lib.IndexAny
import Derived.Deep.LoopGhost
import Derived.Lib.Bytealg
import Derived.RangeFuncBox
import Derived.RangeFuncNested
import Derived.RangeFuncBound
import Derived.RangeFuncCalls
import Derived.RangeFuncLeaves
import Derived.Shelf.Abstract
import Derived.OwnWalkIn
import Derived.TacticsInMore
import Derived.LoopNIn
import Derived.LoopIn
import Derived.RangeFuncWrites
import Derived.Maps.OwnIn
import Derived.Maps.Views
import Derived.Laws.OwnMore
import Derived.Maps.OwnSet
import Derived.Laws.IdiomStrings
import Derived.Test.YtdoljfkjdfaakaaGreatRows
import Derived.ProofKit
import Derived.OpenShut
import Derived.Carry
import Derived.OrdersIn
import Derived.Great.BuildSlice
import Derived.ArgAppend
import Derived.Laws.MakeOwn
import Derived.Laws.Cover3
import Derived.Laws.CopyRow
import Derived.MapKept
import Derived.Maps.RangeRun
import Derived.DeepKeys5
import Derived.WideKeyRuns
import Derived.RangeFuncOwn
import Derived.Defers
import Derived.Recover
import Derived.Tactics
import Derived.Tactics2
import Derived.KernelRfl
import Derived.ChangeSlices
import Derived.JoinedCond
set_option linter.unusedVariables false
set_option linter.unusedSimpArgs false
set_option linter.unnecessarySimpa false
set_option linter.all false

namespace Go.Proofs.YtdoljfkjdfaakaaGreat
set_option maxRecDepth 100000
open Go.RowKit

theorem len_ne {e : List Int} (h : e ≠ []) : ((e.length : Int) == 0) = false := by
  rw [beq_eq_false_iff_ne]
  have := List.length_pos_iff.2 h
  omega
theorem configs_lf (c : S_api_Config) (hb : ConfigB c) : lf_constraintlaw52_SnapshotConfigs 30 c = some true := by
  unfold lf_constraintlaw52_SnapshotConfigs
  simp only [ex52, Option.bind_some]
  obtain ⟨b, e1, e2⟩ := small_lf c hb
  rw [e1, Option.bind_some]
  refine cT (fun _ => rfl) fun hb => ?_
  have hc := e2 (by simpa using hb)
  have hw := wr_Config (fuel := 30) (by omega) c hc
  simp only [hw, wrR_Config (fuel := 30) (by omega) c hc, same52_self, take_Config, Option.bind_some, Bool.not_true, cond_false]
  cases he : eConfig c with
  | none =>
    simp only [Option.getD_none, whole0_Config, Option.bind_some]
    rfl
  | some e =>
    rw [he] at hw
    have h := (whole_Config (fuel := 30) (by omega) he hw (len_Config (fuel := 30) (by omega) c hc e he)).1
    simp only [Option.getD_some, h, Option.bind_some, len_ne (catO_pos he), cond_false, config_self c hc.k hc.s hc.b]
    rfl
theorem gives_SnapshotConfigs (c : S_api_Config) (hb : ConfigB c) : Gives Tryz.prog 4 [enc_S_api_Config c] (.bool true) := lg_constraintlaw52_SnapshotConfigs 30 c true (configs_lf c hb)
/-! ### cuts -/
end Go.Proofs.YtdoljfkjdfaakaaGreat

