/-
 Texts of the seat, merged.
-/
import Derived.Test.YtabbfihjeppbhaaGreatLMA
import Derived.Test.YtabbfihjeppbhaaGreatLMB
import Derived.Test.YtabbfihjeppbhaaGreatLMC
import Derived.Test.YtabbfihjeppbhaaGreatLMD
import Derived.Test.YtabbfihjeppbhaaGreatLME
import Derived.Test.YtabbfihjeppbhaaGreatChecked
import Derived.WalkKit
import Derived.Lib.Hide
import Derived.Lib.AppendStr
import Derived.Deep.AppendLies
import Derived.Deep.AppendSrc
import Derived.Deep.Draws
import Derived.Deep.QuietTactic
import Derived.BigQuiet
import Derived.Deep.RegionWith
import Derived.Maps.AppendAt
import Derived.WalkSpells
import Derived.Orders
import Derived.Deep.Slices
import Derived.Deep.Fields
import Derived.ChangeArms
import Derived.Lib.OthersKept
import Derived.Lib.TrimU
import Derived.Lib.IndexAny
import Derived.Deep.LoopGhost
import Derived.Lib.Bytealg
import Derived.RangeFuncBox
import Derived.RangeFuncNested
import Derived.RangeFuncBound
import Derived.RangeFuncCalls
import Derived.RangeFuncLeaves
import Derived.Shelf.Abstract
import Derived.OwnWalkIn
import Derived.TacticsInMore
import Derived.LoopNIn
import Derived.LoopIn
import Derived.RangeFuncWrites
import Derived.Maps.OwnIn
import Derived.Maps.Views
import Derived.Laws.OwnMore
import Derived.Maps.OwnSet
import Derived.Test.YtabbfihjeppbhaaGreatRows
import Derived.ProofKit
import Derived.OpenShut
import Derived.Carry
import Derived.OrdersIn
import Derived.Great.BuildSlice
import Derived.ArgAppend
import Derived.Laws.MakeOwn
import Derived.Laws.Cover3
import Derived.Laws.CopyRow
import Derived.MapKept
import Derived.Maps.RangeRun
import Derived.DeepKeys5
import Derived.WideKeyRuns
import Derived.RangeFuncOwn
import Derived.Lib.AppendZeros
set_option linter.unusedVariables false
set_option linter.unusedSimpArgs false
set_option linter.unnecessarySimpa false
set_option linter.all false
namespace Go.Proofs.YtabbfihjeppbhaaGreat
set_option maxRecDepth 100000
open Go.RowKit
theorem qd : Ty Tryz.prog 134 false 1 := ⟨⟨_, Tryz.underlying134, rfl⟩, by kernel_rfl⟩
theorem qe : ElT Tryz.prog 134 141 4 56 := .of Tryz.underlying134 (by kernel_rfl) (by decide)
theorem qu : Fld Tryz.prog 136 0 0 := ⟨_, _, 1, Tryz.underlying136, rfl, rfl, by kernel_rfl, by decide⟩
theorem qav : Fld Tryz.prog 136 1 1 := ⟨_, _, 1, Tryz.underlying136, rfl, rfl, by kernel_rfl, by decide⟩
theorem qZ : ElT Tryz.prog 137 143 2 16 := .of Tryz.underlying137 (by kernel_rfl) (by decide)
theorem qj : Ty Tryz.prog 141 true 4 := ⟨⟨_, Tryz.underlying141, rfl⟩, by kernel_rfl⟩
theorem qQ : Fld Tryz.prog 141 0 0 := ⟨_, _, 1, Tryz.underlying141, rfl, rfl, by kernel_rfl, by decide⟩
theorem qz : Fld Tryz.prog 141 1 1 := ⟨_, _, 1, Tryz.underlying141, rfl, rfl, by kernel_rfl, by decide⟩
theorem qaa : Fld Tryz.prog 141 2 2 := ⟨_, _, 1, Tryz.underlying141, rfl, rfl, by kernel_rfl, by decide⟩
theorem qan : Fld Tryz.prog 141 3 3 := ⟨_, _, 1, Tryz.underlying141, rfl, rfl, by kernel_rfl, by decide⟩
theorem qhr : ym Tryz.prog 141 [.int .i64 0, .int .i64 0, .str ⟨#[]⟩, .lst []] := .mk rfl (by kernel_rfl) Tryz.underlying141 (by kernel_rfl)
theorem qD : yj Tryz.prog 141 (.agg [.int .i64 0, .int .i64 0, .str ⟨#[]⟩, .lst []]) := .agg qhr
theorem qF : Ty Tryz.prog 143 true 2 := ⟨⟨_, Tryz.underlying143, rfl⟩, by kernel_rfl⟩
theorem qaR : Fld Tryz.prog 143 0 0 := ⟨_, _, 1, Tryz.underlying143, rfl, rfl, by kernel_rfl, by decide⟩
theorem qbh : Fld Tryz.prog 143 1 1 := ⟨_, _, 1, Tryz.underlying143, rfl, rfl, by kernel_rfl, by decide⟩
theorem qeF : ym Tryz.prog 143 [.int .i64 0, .int .i64 0] := .mk rfl (by kernel_rfl) Tryz.underlying143 (by kernel_rfl)
theorem qaB : yj Tryz.prog 143 (.agg [.int .i64 0, .int .i64 0]) := .agg qeF
theorem qgO : callee Tryz.prog 5 := ⟨_, _, Tryz.func5, rfl, by decide⟩
theorem qd6 : callee Tryz.prog 9 := ⟨_, _, Tryz.func9, rfl, by decide⟩
theorem qhs : callee Tryz.prog 25 := ⟨_, _, Tryz.func25, rfl, by decide⟩
theorem qhp : callee Tryz.prog 26 := ⟨_, _, Tryz.func26, rfl, by decide⟩
theorem qfq : callee Tryz.prog 27 := ⟨_, _, Tryz.func27, rfl, by decide⟩
theorem qe7 : callee Tryz.prog 48 := ⟨_, _, Tryz.func48, rfl, by decide⟩
theorem qgJ : callee Tryz.prog 49 := ⟨_, _, Tryz.func49, rfl, by decide⟩
theorem qaZ : callee Tryz.prog 50 := ⟨_, _, Tryz.func50, rfl, by decide⟩
theorem qdI : callee Tryz.prog 52 := ⟨_, _, Tryz.func52, rfl, by decide⟩
theorem qgF : callee Tryz.prog 53 := ⟨_, _, Tryz.func53, rfl, by decide⟩
theorem qeh : callee Tryz.prog 55 := ⟨_, _, Tryz.func55, rfl, by decide⟩
theorem qem : callee Tryz.prog 56 := ⟨_, _, Tryz.func56, rfl, by decide⟩
theorem qhq : callee Tryz.prog 78 := ⟨_, _, Tryz.func78, rfl, by decide⟩
theorem qcX : callee Tryz.prog 81 := ⟨_, _, Tryz.func81, rfl, by decide⟩
theorem qdl : callee Tryz.prog 82 := ⟨_, _, Tryz.func82, rfl, by decide⟩
theorem qgL : callee Tryz.prog 84 := ⟨_, _, Tryz.func84, rfl, by decide⟩
theorem qge : callee Tryz.prog 85 := ⟨_, _, Tryz.func85, rfl, by decide⟩
theorem qfa : callee Tryz.prog 99 := ⟨_, _, Tryz.func99, rfl, by decide⟩
theorem qgK : callee Tryz.prog 100 := ⟨_, _, Tryz.func100, rfl, by decide⟩
theorem qb3 : callee Tryz.prog 101 := ⟨_, _, Tryz.func101, rfl, by decide⟩
theorem qev : callee Tryz.prog 102 := ⟨_, _, Tryz.func102, rfl, by decide⟩
theorem qg9 : callee Tryz.prog 103 := ⟨_, _, Tryz.func103, rfl, by decide⟩
theorem qhH : callee Tryz.prog 106 := ⟨_, _, Tryz.func106, rfl, by decide⟩
theorem qgu : callee Tryz.prog 107 := ⟨_, _, Tryz.func107, rfl, by decide⟩
theorem qgU : callee Tryz.prog 113 := ⟨_, _, Tryz.func113, rfl, by decide⟩
theorem qg6 : callee Tryz.prog 114 := ⟨_, _, Tryz.func114, rfl, by decide⟩
theorem qcl : callee Tryz.prog 122 := ⟨_, _, Tryz.func122, rfl, by decide⟩
theorem qdV : callee Tryz.prog 123 := ⟨_, _, Tryz.func123, rfl, by decide⟩
theorem qfe : callee Tryz.prog 124 := ⟨_, _, Tryz.func124, rfl, by decide⟩
theorem qb2 : callee Tryz.prog 125 := ⟨_, _, Tryz.func125, rfl, by decide⟩
theorem qdT : callee Tryz.prog 126 := ⟨_, _, Tryz.func126, rfl, by decide⟩
theorem qaA : callee Tryz.prog 127 := ⟨_, _, Tryz.func127, rfl, by decide⟩
end Go.Proofs.YtabbfihjeppbhaaGreat
