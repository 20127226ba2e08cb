/-
  Texts of the seat, merged.
-/
import Derived.Test.YtdoljfkjdfaakaaGreatLTA
import Derived.Test.YtdoljfkjdfaakaaGreatLTB
import Derived.Test.YtdoljfkjdfaakaaGreatLTC
import Derived.Test.YtdoljfkjdfaakaaGreatLTD
import Derived.Test.YtdoljfkjdfaakaaGreatLTE
import Derived.Test.YtdoljfkjdfaakaaGreatLTF
import Derived.Test.YtdoljfkjdfaakaaGreatLTG
import Derived.Test.YtdoljfkjdfaakaaGreatChecked
import Derived.WalkKit
import Derived.Lib.Hide
import Derived.Lib.AppendStr
import Derived.Deep.AppendLies
import Derived.Deep.AppendSrc
import Derived.Deep.Draws
import Derived.Deep.QuietTactic
import Derived.BigQuiet
import Derived.Deep.RegionWith
import Derived.Maps.AppendAt
import Derived.WalkSpells
import Derived.Orders
import Derived.Deep.Slices
import Derived.Deep.Fields
import Derived.ChangeArms
import Derived.Lib.OthersKept
import Derived.Lib.TrimU
import Derived.Lib.IndexAny
import Derived.Deep.LoopGhost
import Derived.Lib.Bytealg
import Derived.RangeFuncBox
import Derived.RangeFuncNested
import Derived.RangeFuncBound
import Derived.RangeFuncCalls
import Derived.RangeFuncLeaves
import Derived.Shelf.Abstract
import Derived.OwnWalkIn
import Derived.TacticsInMore
import Derived.LoopNIn
import Derived.LoopIn
import Derived.RangeFuncWrites
import Derived.Maps.OwnIn
import Derived.Maps.Views
import Derived.Laws.OwnMore
import Derived.Maps.OwnSet
import Derived.Laws.IdiomStrings
import Derived.Test.YtdoljfkjdfaakaaGreatRows
import Derived.ProofKit
import Derived.OpenShut
import Derived.Carry
import Derived.OrdersIn
import Derived.Great.BuildSlice
import Derived.ArgAppend
import Derived.Laws.MakeOwn
import Derived.Laws.Cover3
import Derived.Laws.CopyRow
import Derived.MapKept
import Derived.Maps.RangeRun
import Derived.DeepKeys5
import Derived.WideKeyRuns
import Derived.RangeFuncOwn
import Derived.Defers
import Derived.Recover
import Derived.Tactics
import Derived.Tactics2
set_option linter.unusedVariables false
set_option linter.unusedSimpArgs false
set_option linter.unnecessarySimpa false
set_option linter.all false
namespace Go.Proofs.YtdoljfkjdfaakaaGreat
set_option maxRecDepth 100000
open Go.RowKit
structure qg where
  f0_b : (List Int)
  f1_at : Int
  f2_e : Int
  f3_bad : Bool
def qd (x : qg) : D := .agg [.lst (x.f0_b.map (D.int .u8)), .int .i64 x.f1_at, .int .i64 x.f2_e, .bool x.f3_bad]
theorem qlb : BuildT Tryz.prog 25 [.own (.slice none 0 0) [], .own (.slice none 0 0) []] := .mk rfl (by kernel_rfl) Tryz.underlying25 (by kernel_rfl)
theorem qkj : BuildT Tryz.prog 44 [.own (.slice none 0 0) [], .own (.slice none 0 0) [], .own (.slice none 0 0) [], .own (.slice none 0 0) [], .int .i64 0, .int .i64 0, .bool false] := .mk rfl (by kernel_rfl) Tryz.underlying44 (by kernel_rfl)
theorem qmz : BuildT Tryz.prog 55 [.lst (([] : List _).map qE), .lst (([] : List _).map qE), .own (.slice none 0 0) [], .int .i64 0, .int .i64 0] := .mk rfl (by kernel_rfl) Tryz.underlying55 (by kernel_rfl)
noncomputable def qbB (k : (Int) → (Int) → Option (Int × Int × Int)) (at_a1 : Int) (b_a0 : (List Int)) : Nat → Int → Int → Int → Option (Int × Int × Int)
  | 0, u_4, factor_5, i_6 =>
  none
  | rest + 1, u_4, factor_5, i_6 =>
  (bif (decide ((wr ((b_a0.length : Int) - at_a1)) ≤ i_6)) then
  some (0, 0, 4)
  else
  ((getI b_a0 (wr (at_a1 + i_6))).bind fun q_15 =>
  (bif (i_6 == (9 : Int)) then
  (bif (decide (q_15 > (1 : Int))) then
  some (0, 0, 3)
  else
  (bif (decide (q_15 < (128 : Int))) then
  (bif (q_15 == (0 : Int)) then
  (bif (decide ((wr (i_6 + (1 : Int))) > (1 : Int))) then
  some (0, 0, 3)
  else
  (k (IntKind.u64.wrap (u_4 + (IntKind.u64.wrap (factor_5 * (IntKind.u64.wrap (IntKind.u8.wrap (Int.tmod q_15 128))))))) (wr (i_6 + (1 : Int)))))
  else
  (k (IntKind.u64.wrap (u_4 + (IntKind.u64.wrap (factor_5 * (IntKind.u64.wrap (IntKind.u8.wrap (Int.tmod q_15 128))))))) (wr (i_6 + (1 : Int)))))
  else
  (qbB k at_a1 b_a0 rest (IntKind.u64.wrap (u_4 + (IntKind.u64.wrap (factor_5 * (IntKind.u64.wrap (IntKind.u8.wrap (Int.tmod q_15 128))))))) (IntKind.u64.wrap (factor_5 * (128 : Int))) (wr (i_6 + (1 : Int))))))
  else
  (bif (decide (q_15 < (128 : Int))) then
  (bif (q_15 == (0 : Int)) then
  (bif (decide ((wr (i_6 + (1 : Int))) > (1 : Int))) then
  some (0, 0, 3)
  else
  (k (IntKind.u64.wrap (u_4 + (IntKind.u64.wrap (factor_5 * (IntKind.u64.wrap (IntKind.u8.wrap (Int.tmod q_15 128))))))) (wr (i_6 + (1 : Int)))))
  else
  (k (IntKind.u64.wrap (u_4 + (IntKind.u64.wrap (factor_5 * (IntKind.u64.wrap (IntKind.u8.wrap (Int.tmod q_15 128))))))) (wr (i_6 + (1 : Int)))))
  else
  (qbB k at_a1 b_a0 rest (IntKind.u64.wrap (u_4 + (IntKind.u64.wrap (factor_5 * (IntKind.u64.wrap (IntKind.u8.wrap (Int.tmod q_15 128))))))) (IntKind.u64.wrap (factor_5 * (128 : Int))) (wr (i_6 + (1 : Int))))))))
noncomputable def qdH (fuel : Nat) (b_a0 : (List Int)) (at_a1 : Int) (low_a2 : Int) (high_a3 : Int) : Option (Int × Int × Int) :=
  (bif (decide (at_a1 < (0 : Int))) then
  some (0, 0, 2)
  else
  (bif (decide (at_a1 > (b_a0.length : Int))) then
  some (0, 0, 2)
  else
  (bif (decide (low_a2 > high_a3)) then
  some (0, 0, 2)
  else
  (qbB (fun u_7 i_8 =>
  (bif ((IntKind.u64.wrap (Int.tmod u_7 2)) == (1 : Int)) then
  (bif (decide ((wr ((wr (-(IntKind.i64.wrap (IntKind.u64.wrap (Int.tdiv u_7 2))))) - (1 : Int))) < low_a2)) then
  some (0, 0, 5)
  else
  (bif (decide ((wr ((wr (-(IntKind.i64.wrap (IntKind.u64.wrap (Int.tdiv u_7 2))))) - (1 : Int))) > high_a3)) then
  some (0, 0, 5)
  else
  some ((wr ((wr (-(IntKind.i64.wrap (IntKind.u64.wrap (Int.tdiv u_7 2))))) - (1 : Int))), (wr (at_a1 + i_8)), 0)))
  else
  (bif (decide ((IntKind.i64.wrap (IntKind.u64.wrap (Int.tdiv u_7 2))) < low_a2)) then
  some (0, 0, 5)
  else
  (bif (decide ((IntKind.i64.wrap (IntKind.u64.wrap (Int.tdiv u_7 2))) > high_a3)) then
  some (0, 0, 5)
  else
  some ((IntKind.i64.wrap (IntKind.u64.wrap (Int.tdiv u_7 2))), (wr (at_a1 + i_8)), 0))))) at_a1 b_a0 fuel 0 1 0))))
set_option maxHeartbeats 1000000 in
theorem qhH (fuel : Nat) (b_a0 : (List Int)) (at_a1 : Int) (low_a2 : Int) (high_a3 : Int) (res : Int × Int × Int) (hr : qdH fuel b_a0 at_a1 low_a2 high_a3 = some res) : Gives Tryz.prog 190 [.lst (b_a0.map (D.int .u8)), .int .i64 at_a1, .int .i64 low_a2, .int .i64 high_a3] (.tup [.int .i64 res.1, .int .i64 res.2.1, .int .i64 res.2.2]) := by
  unfold qdH at hr
  refine qag [(0, .lst (b_a0.map (D.int .u8))), (1, .int .i64 at_a1), (2, .int .i64 low_a2), (3, .int .i64 high_a3)] Tryz.func190 rfl rfl fun K hK => (qk (gr [.d, .d, .d] (r_d rfl rfl rfl (qj rfl rfl) (r_d rfl rfl rfl (qj rfl rfl) (r_d rfl rfl rfl (qj rfl rfl) (ql (qk (qk (gr [.d, .d, .d, .d, .d, .d, .d, .d, .d, .d, .d, .d, .d] (r_d rfl rfl rfl (qe rfl rfl) (r_d rfl rfl rfl (qX rfl rfl rfl rfl) ?_)))))))))))
  refine r_d rfl rfl rfl (qe rfl rfl) ?_
  refine r_sB 17 rfl hr (fun h17_0 hr => ?_) (fun h17_0 hr => ?_)
  ·
   refine qh rfl rfl rfl (qh rfl rfl rfl (qh rfl rfl rfl (qh rfl rfl rfl (r_d rfl rfl rfl (qP rfl rfl rfl) (r_d rfl rfl rfl (qe rfl rfl) (qh rfl rfl rfl (qh rfl rfl rfl (qh rfl rfl rfl (r_d rfl rfl rfl (qP rfl rfl rfl) (ql (qC rfl ?_)))))))))))
   refine qk (gr [.d, .d, .d] (r_d rfl rfl rfl (qj rfl rfl) (r_d rfl rfl rfl (qj rfl rfl) (r_d rfl rfl rfl (qj rfl rfl) (ql ?_)))))
   obtain rfl := Option.some.inj hr
   refine q9 Tryz.func190 _ (.cons (resTmp rfl (Wk.refl _)) (.cons (resTmp rfl (Wk.refl _)) (.cons (resTmp rfl (Wk.refl _)) .nil))) ?_
   rfl
  ·
   refine r_d rfl rfl rfl (qe rfl rfl) (r_d rfl rfl rfl (qe rfl rfl) (r_d rfl rfl rfl (qbP (f := (D.int .u8)) b_a0 rfl qb9 rfl (asl rfl)) (r_d rfl rfl rfl (qX rfl rfl rfl rfl) (r_d rfl rfl rfl (qG rfl rfl rfl) (r_d rfl rfl rfl (qe rfl rfl) ?_)))))
   refine r_sB 23 rfl hr (fun h23_1 hr => ?_) (fun h23_1 hr => ?_)
   ·
    refine qh rfl rfl rfl (qh rfl rfl rfl (qh rfl rfl rfl (r_d rfl rfl rfl (qP rfl rfl rfl) (ql (qC rfl (qk (gr [.d, .d, .d] (r_d rfl rfl rfl (qj rfl rfl) (r_d rfl rfl rfl (qj rfl rfl) (r_d rfl rfl rfl (qj rfl rfl) (ql ?_)))))))))))
    obtain rfl := Option.some.inj hr
    refine q9 Tryz.func190 _ (.cons (resTmp rfl (Wk.refl _)) (.cons (resTmp rfl (Wk.refl _)) (.cons (resTmp rfl (Wk.refl _)) .nil))) ?_
    rfl
   ·
    refine r_d rfl rfl rfl (qe rfl rfl) (r_d rfl rfl rfl (qe rfl rfl) (r_d rfl rfl rfl (qX rfl rfl rfl rfl) (r_d rfl rfl rfl (qG rfl rfl rfl) (ql ?_))))
    refine g_sB 27 rfl hr (fun h27_2 hr => ?_) (fun h27_2 hr => ?_)
    ·
     refine qC rfl (qk (gr [.d, .d, .d] (r_d rfl rfl rfl (qj rfl rfl) (r_d rfl rfl rfl (qj rfl rfl) (r_d rfl rfl rfl (qj rfl rfl) (ql ?_))))))
     obtain rfl := Option.some.inj hr
     refine q9 Tryz.func190 _ (.cons (resTmp rfl (Wk.refl _)) (.cons (resTmp rfl (Wk.refl _)) (.cons (resTmp rfl (Wk.refl _)) .nil))) ?_
     rfl
    ·
     refine qB rfl (qab (qk (gr [.d, .d] (r_d rfl rfl rfl (qj rfl rfl) (r_d rfl rfl rfl (qj rfl rfl) (ql (qk (gr [.d] (r_d rfl rfl rfl (qj rfl rfl) (ql (qk ?_)))))))))))
     obtain ⟨kk0, hkk0, hr⟩ := exK (fun k => qbB k at_a1 b_a0 fuel 0 1 0) hr
     refine qbe (fun env σ => ∃ (u_7 : Int) (i_8 : Int), env = [(1, .int .i64 at_a1), (2, .int .i64 low_a2), (3, .int .i64 high_a3), (11, .int .u64 u_7), (13, .int .i64 i_8)] ∧ σ = [] ∧ kk0 u_7 i_8 = some res) ?_ (fun HK0 => ?_)
     ·
      rintro _ _ ⟨u_7, i_8, rfl, rfl, hr⟩
      rw [hkk0] at hr
      refine qk (gr [.d, .d, .d, .d] (r_d rfl rfl rfl (qe rfl rfl) (r_d rfl rfl rfl (qtY rfl rfl rfl (by decide)) (r_d rfl rfl rfl (qqG rfl Tryz.underlying247 Tryz.underlying3 rfl) (r_d rfl rfl rfl (qj rfl rfl) (ql (qk (qk (gr [.d, .d, .d] (r_d rfl rfl rfl (qe rfl rfl) (r_d rfl rfl rfl (qrU rfl rfl rfl (by decide)) ?_)))))))))))
      refine r_d rfl rfl rfl (qX rfl rfl rfl rfl) (ql ?_)
      refine g_sB 70 rfl hr (fun h70_8 hr => ?_) (fun h70_8 hr => ?_)
      ·
       refine qC rfl (gr [.d, .d, .d, .d] (r_d rfl rfl rfl (qe rfl rfl) (r_d rfl rfl rfl (qt9 rfl rfl) (r_d rfl rfl rfl (qiF rfl rfl rfl rfl) (r_d rfl rfl rfl (qj rfl rfl) (ql (qk (qk (gr [.d, .d, .d, .d, .d, .d, .d, .d] (r_d rfl rfl rfl (qe rfl rfl) (r_d rfl rfl rfl (qe rfl rfl) ?_)))))))))))
       refine r_d rfl rfl rfl (qX rfl rfl rfl rfl) (r_d rfl rfl rfl (qe rfl rfl) ?_)
       refine r_sB 77 rfl hr (fun h77_9 hr => ?_) (fun h77_9 hr => ?_)
       ·
        refine qh rfl rfl rfl (qh rfl rfl rfl (qh rfl rfl rfl (r_d rfl rfl rfl (qP rfl rfl rfl) (ql (qC rfl (qk (gr [.d, .d, .d] (r_d rfl rfl rfl (qj rfl rfl) (r_d rfl rfl rfl (qj rfl rfl) (r_d rfl rfl rfl (qj rfl rfl) (ql ?_)))))))))))
        obtain rfl := Option.some.inj hr
        refine q9 Tryz.func190 _ (.cons (resTmp rfl (Wk.refl _)) (.cons (resTmp rfl (Wk.refl _)) (.cons (resTmp rfl (Wk.refl _)) .nil))) ?_
        rfl
       ·
        refine r_d rfl rfl rfl (qe rfl rfl) (r_d rfl rfl rfl (qe rfl rfl) (r_d rfl rfl rfl (qX rfl rfl rfl rfl) (r_d rfl rfl rfl (qG rfl rfl rfl) (ql ?_))))
        refine g_sB 81 rfl hr (fun h81_10 hr => ?_) (fun h81_10 hr => ?_)
        ·
         refine qC rfl (qk (gr [.d, .d, .d] (r_d rfl rfl rfl (qj rfl rfl) (r_d rfl rfl rfl (qj rfl rfl) (r_d rfl rfl rfl (qj rfl rfl) (ql ?_))))))
         obtain rfl := Option.some.inj hr
         refine q9 Tryz.func190 _ (.cons (resTmp rfl (Wk.refl _)) (.cons (resTmp rfl (Wk.refl _)) (.cons (resTmp rfl (Wk.refl _)) .nil))) ?_
         rfl
        ·
         refine qB rfl (qab (qk (gr [.d, .d, .d, .d, .d, .d, .d] (r_d rfl rfl rfl (qe rfl rfl) (r_d rfl rfl rfl (qe rfl rfl) (r_d rfl rfl rfl (qe rfl rfl) (r_d rfl rfl rfl (qiF rfl rfl rfl rfl) (r_d rfl rfl rfl (qj rfl rfl) (r_d rfl rfl rfl (qj rfl rfl) (r_d rfl rfl rfl (qj rfl rfl) (ql ?_)))))))))))
         obtain rfl := Option.some.inj hr
         refine q9 Tryz.func190 _ (.cons (resTmp rfl (Wk.refl _)) (.cons (resTmp rfl (Wk.refl _)) (.cons (resTmp rfl (Wk.refl _)) .nil))) ?_
         rfl
      ·
       refine qB rfl (qab (qk (qk (gr [.d, .d, .d, .d, .d, .d, .d, .d] (r_d rfl rfl rfl (qe rfl rfl) (r_d rfl rfl rfl (qe rfl rfl) (r_d rfl rfl rfl (qX rfl rfl rfl rfl) (r_d rfl rfl rfl (qe rfl rfl) ?_))))))))
       refine r_sB 77 rfl hr (fun h77_11 hr => ?_) (fun h77_11 hr => ?_)
       ·
        refine qh rfl rfl rfl (qh rfl rfl rfl (qh rfl rfl rfl (r_d rfl rfl rfl (qP rfl rfl rfl) (ql (qC rfl (qk (gr [.d, .d, .d] (r_d rfl rfl rfl (qj rfl rfl) (r_d rfl rfl rfl (qj rfl rfl) (r_d rfl rfl rfl (qj rfl rfl) (ql ?_)))))))))))
        obtain rfl := Option.some.inj hr
        refine q9 Tryz.func190 _ (.cons (resTmp rfl (Wk.refl _)) (.cons (resTmp rfl (Wk.refl _)) (.cons (resTmp rfl (Wk.refl _)) .nil))) ?_
        rfl
       ·
        refine r_d rfl rfl rfl (qe rfl rfl) (r_d rfl rfl rfl (qe rfl rfl) (r_d rfl rfl rfl (qX rfl rfl rfl rfl) (r_d rfl rfl rfl (qG rfl rfl rfl) (ql ?_))))
        refine g_sB 81 rfl hr (fun h81_12 hr => ?_) (fun h81_12 hr => ?_)
        ·
         refine qC rfl (qk (gr [.d, .d, .d] (r_d rfl rfl rfl (qj rfl rfl) (r_d rfl rfl rfl (qj rfl rfl) (r_d rfl rfl rfl (qj rfl rfl) (ql ?_))))))
         obtain rfl := Option.some.inj hr
         refine q9 Tryz.func190 _ (.cons (resTmp rfl (Wk.refl _)) (.cons (resTmp rfl (Wk.refl _)) (.cons (resTmp rfl (Wk.refl _)) .nil))) ?_
         rfl
        ·
         refine qB rfl (qab (qk (gr [.d, .d, .d, .d, .d, .d, .d] (r_d rfl rfl rfl (qe rfl rfl) (r_d rfl rfl rfl (qe rfl rfl) (r_d rfl rfl rfl (qe rfl rfl) (r_d rfl rfl rfl (qiF rfl rfl rfl rfl) (r_d rfl rfl rfl (qj rfl rfl) (r_d rfl rfl rfl (qj rfl rfl) (r_d rfl rfl rfl (qj rfl rfl) (ql ?_)))))))))))
         obtain rfl := Option.some.inj hr
         refine q9 Tryz.func190 _ (.cons (resTmp rfl (Wk.refl _)) (.cons (resTmp rfl (Wk.refl _)) (.cons (resTmp rfl (Wk.refl _)) .nil))) ?_
         rfl
     ·
      refine qan [(0, .lst (b_a0.map (D.int .u8))), (1, .int .i64 at_a1), (2, .int .i64 low_a2), (3, .int .i64 high_a3), (11, .int .u64 0), (12, .int .u64 1), (13, .int .i64 0)] (Sub.cons' rfl (Sub.cons' rfl (Sub.cons' rfl (Sub.cons' rfl (Sub.cons' rfl (Sub.cons' rfl (Sub.cons' rfl (Sub.nil _)))))))) (qdb (fun n env σ => ∃ (u_4 : Int) (factor_5 : Int) (i_6 : Int) (n0 : Nat), (n0 = n) ∧ (env = [(0, .lst (b_a0.map (D.int .u8))), (1, .int .i64 at_a1), (2, .int .i64 low_a2), (3, .int .i64 high_a3), (11, .int .u64 u_4), (12, .int .u64 factor_5), (13, .int .i64 i_6)]) ∧ (σ = []) ∧ (qbB kk0 at_a1 b_a0 n0 u_4 factor_5 i_6 = some res)) _ ⟨0, 1, 0, _, rfl, rfl, rfl, hr⟩ ?_)
      rintro n _ _ ⟨u_4, factor_5, i_6, n0, rfl, rfl, rfl, hr⟩ IH0
      cases n0 with
      | zero => rw [qbB] at hr; cases hr
      | succ n0 =>
       rw [qbB] at hr
       refine qbi (qk (qk (gr [.d, .d, .d, .d, .d, .d] (r_d rfl rfl rfl (qe rfl rfl) (r_d rfl rfl rfl (qbP (f := (D.int .u8)) b_a0 rfl qb9 rfl (asl rfl)) (r_d rfl rfl rfl (qe rfl rfl) (r_d rfl rfl rfl (qiF rfl rfl rfl rfl) (r_d rfl rfl rfl (qe rfl rfl) (r_d rfl rfl rfl (qX rfl rfl rfl rfl) (ql ?_))))))))))
       refine g_sB 33 rfl hr (fun h33_13 hr => ?_) (fun h33_13 hr => ?_)
       ·
        refine qC rfl (qk (gr [.d, .d, .d] (r_d rfl rfl rfl (qj rfl rfl) (r_d rfl rfl rfl (qj rfl rfl) (r_d rfl rfl rfl (qj rfl rfl) (ql ?_))))))
        obtain rfl := Option.some.inj hr
        refine q9 Tryz.func190 _ (.cons (resTmp rfl (Wk.refl _)) (.cons (resTmp rfl (Wk.refl _)) (.cons (resTmp rfl (Wk.refl _)) .nil))) ?_
        rfl
       ·
        refine qB rfl (qab (qk (gr [.d, .d, .d, .d, .d, .d, .d] (r_d rfl rfl rfl (qe rfl rfl) (r_d rfl rfl rfl (qe rfl rfl) (r_d rfl rfl rfl (qe rfl rfl) (r_d rfl rfl rfl (qiF rfl rfl rfl rfl) ?_)))))))
        obtain ⟨q_15, hq_15, hr⟩ := bindS hr
        refine r_d rfl rfl rfl (qbH (f := (D.int .u8)) b_a0 rfl qb9 rfl (asl rfl) rfl hq_15 (fun _ => rfl) rfl) (r_d rfl rfl rfl (qw rfl rfl (by exact qlf) rfl) (r_d rfl rfl rfl (qj rfl rfl) (ql (qk (qk (gr [.d, .d, .d, .d, .d, .d] (r_d rfl rfl rfl (qe rfl rfl) (r_d rfl rfl rfl (qX rfl rfl rfl rfl) (r_d rfl rfl rfl (qe rfl rfl) ?_)))))))))
        refine r_sB 42 rfl hr (fun h42_15 hr => ?_) (fun h42_15 hr => ?_)
        ·
         refine r_d rfl rfl rfl (qe rfl rfl) (r_d rfl rfl rfl (qX rfl rfl rfl rfl) (r_d rfl rfl rfl (qP rfl rfl rfl) (ql ?_)))
         refine g_sB 45 rfl hr (fun h45_16 hr => ?_) (fun h45_16 hr => ?_)
         ·
          refine qC rfl (qk (gr [.d, .d, .d] (r_d rfl rfl rfl (qj rfl rfl) (r_d rfl rfl rfl (qj rfl rfl) (r_d rfl rfl rfl (qj rfl rfl) (ql ?_))))))
          obtain rfl := Option.some.inj hr
          refine q9 Tryz.func190 _ (.cons (resTmp rfl (Wk.refl _)) (.cons (resTmp rfl (Wk.refl _)) (.cons (resTmp rfl (Wk.refl _)) .nil))) ?_
          rfl
         ·
          refine qB rfl (qab (qk (gr [.d, .d, .d, .d, .d, .d, .d, .d] (r_d rfl rfl rfl (qe rfl rfl) (r_d rfl rfl rfl (qe rfl rfl) (r_d rfl rfl rfl (qe rfl rfl) (r_d rfl rfl rfl (qrU rfl rfl rfl (by decide)) (r_d rfl rfl rfl (qqG rfl Tryz.underlying5 Tryz.underlying247 rfl) (r_d rfl rfl rfl (qiF rfl rfl rfl rfl) (r_d rfl rfl rfl (qiF rfl rfl rfl rfl) (r_d rfl rfl rfl (qj rfl rfl) ?_)))))))))))
          refine ql (qk (gr [.d, .d, .d] (r_d rfl rfl rfl (qe rfl rfl) (r_d rfl rfl rfl (qiF rfl rfl rfl rfl) (r_d rfl rfl rfl (qj rfl rfl) (ql (qk (gr [.d, .d, .d] (r_d rfl rfl rfl (qe rfl rfl) (r_d rfl rfl rfl (qiF rfl rfl rfl rfl) (r_d rfl rfl rfl (qj rfl rfl) ?_)))))))))))
          refine ql (qk (gr [.d, .d] (r_d rfl rfl rfl (qe rfl rfl) (r_d rfl rfl rfl (qX rfl rfl rfl rfl) (ql ?_)))))
          refine g_sB 58 rfl hr (fun h58_17 hr => ?_) (fun h58_17 hr => ?_)
          ·
           refine qC rfl (qk (qk (gr [.d, .d, .d, .d, .d, .d] (r_d rfl rfl rfl (qe rfl rfl) (r_d rfl rfl rfl (qX rfl rfl rfl rfl) (r_d rfl rfl rfl (qe rfl rfl) ?_))))))
           refine r_sB 61 rfl hr (fun h61_18 hr => ?_) (fun h61_18 hr => ?_)
           ·
            refine r_d rfl rfl rfl (qe rfl rfl) (r_d rfl rfl rfl (qX rfl rfl rfl rfl) (r_d rfl rfl rfl (qP rfl rfl rfl) (ql ?_)))
            refine g_sB 64 rfl hr (fun h64_19 hr => ?_) (fun h64_19 hr => ?_)
            ·
             refine qC rfl (qk (gr [.d, .d, .d] (r_d rfl rfl rfl (qj rfl rfl) (r_d rfl rfl rfl (qj rfl rfl) (r_d rfl rfl rfl (qj rfl rfl) (ql ?_))))))
             obtain rfl := Option.some.inj hr
             refine q9 Tryz.func190 _ (.cons (resTmp rfl (Wk.refl _)) (.cons (resTmp rfl (Wk.refl _)) (.cons (resTmp rfl (Wk.refl _)) .nil))) ?_
             rfl
            ·
             refine qB rfl (qab (qbC rfl (qan [(1, .int .i64 at_a1), (2, .int .i64 low_a2), (3, .int .i64 high_a3), (11, .int .u64 (IntKind.u64.wrap (u_4 + (IntKind.u64.wrap (factor_5 * (IntKind.u64.wrap (IntKind.u8.wrap (Int.tmod q_15 128)))))))), (13, .int .i64 (wr (i_6 + (1 : Int))))] (Sub.cons' rfl (Sub.cons' rfl (Sub.cons' rfl (Sub.cons' rfl (Sub.cons' rfl (Sub.nil _)))))) ?_)))
             exact HK0 _ _ ⟨(IntKind.u64.wrap (u_4 + (IntKind.u64.wrap (factor_5 * (IntKind.u64.wrap (IntKind.u8.wrap (Int.tmod q_15 128))))))), (wr (i_6 + (1 : Int))), rfl, rfl, hr⟩
           ·
            refine qh rfl rfl rfl (qh rfl rfl rfl (r_d rfl rfl rfl (qG rfl rfl rfl) (ql (qB rfl (qab (qbC rfl (qan [(1, .int .i64 at_a1), (2, .int .i64 low_a2), (3, .int .i64 high_a3), (11, .int .u64 (IntKind.u64.wrap (u_4 + (IntKind.u64.wrap (factor_5 * (IntKind.u64.wrap (IntKind.u8.wrap (Int.tmod q_15 128)))))))), (13, .int .i64 (wr (i_6 + (1 : Int))))] (Sub.cons' rfl (Sub.cons' rfl (Sub.cons' rfl (Sub.cons' rfl (Sub.cons' rfl (Sub.nil _)))))) ?_)))))))
            exact HK0 _ _ ⟨(IntKind.u64.wrap (u_4 + (IntKind.u64.wrap (factor_5 * (IntKind.u64.wrap (IntKind.u8.wrap (Int.tmod q_15 128))))))), (wr (i_6 + (1 : Int))), rfl, rfl, hr⟩
          ·
           refine qB rfl (qab (qac (qan [(0, .lst (b_a0.map (D.int .u8))), (1, .int .i64 at_a1), (2, .int .i64 low_a2), (3, .int .i64 high_a3), (11, .int .u64 (IntKind.u64.wrap (u_4 + (IntKind.u64.wrap (factor_5 * (IntKind.u64.wrap (IntKind.u8.wrap (Int.tmod q_15 128)))))))), (12, .int .u64 (IntKind.u64.wrap (factor_5 * (128 : Int)))), (13, .int .i64 (wr (i_6 + (1 : Int))))] (Sub.cons' rfl (Sub.cons' rfl (Sub.cons' rfl (Sub.cons' rfl (Sub.cons' rfl (Sub.cons' rfl (Sub.cons' rfl (Sub.nil _)))))))) ?_)))
           exact IH0 _ _ _ (by omega) ⟨(IntKind.u64.wrap (u_4 + (IntKind.u64.wrap (factor_5 * (IntKind.u64.wrap (IntKind.u8.wrap (Int.tmod q_15 128))))))), (IntKind.u64.wrap (factor_5 * (128 : Int))), (wr (i_6 + (1 : Int))), _, rfl, rfl, rfl, hr⟩
        ·
         refine qh rfl rfl rfl (qh rfl rfl rfl (r_d rfl rfl rfl (qG rfl rfl rfl) (ql (qB rfl (qab (qk (gr [.d, .d, .d, .d, .d, .d, .d, .d] (r_d rfl rfl rfl (qe rfl rfl) (r_d rfl rfl rfl (qe rfl rfl) (r_d rfl rfl rfl (qe rfl rfl) (r_d rfl rfl rfl (qrU rfl rfl rfl (by decide)) ?_)))))))))))
         refine r_d rfl rfl rfl (qqG rfl Tryz.underlying5 Tryz.underlying247 rfl) (r_d rfl rfl rfl (qiF rfl rfl rfl rfl) (r_d rfl rfl rfl (qiF rfl rfl rfl rfl) (r_d rfl rfl rfl (qj rfl rfl) (ql (qk (gr [.d, .d, .d] (r_d rfl rfl rfl (qe rfl rfl) (r_d rfl rfl rfl (qiF rfl rfl rfl rfl) (r_d rfl rfl rfl (qj rfl rfl) (ql (qk ?_)))))))))))
         refine gr [.d, .d, .d] (r_d rfl rfl rfl (qe rfl rfl) (r_d rfl rfl rfl (qiF rfl rfl rfl rfl) (r_d rfl rfl rfl (qj rfl rfl) (ql (qk (gr [.d, .d] (r_d rfl rfl rfl (qe rfl rfl) (r_d rfl rfl rfl (qX rfl rfl rfl rfl) (ql ?_)))))))))
         refine g_sB 58 rfl hr (fun h58_20 hr => ?_) (fun h58_20 hr => ?_)
         ·
          refine qC rfl (qk (qk (gr [.d, .d, .d, .d, .d, .d] (r_d rfl rfl rfl (qe rfl rfl) (r_d rfl rfl rfl (qX rfl rfl rfl rfl) (r_d rfl rfl rfl (qe rfl rfl) ?_))))))
          refine r_sB 61 rfl hr (fun h61_21 hr => ?_) (fun h61_21 hr => ?_)
          ·
           refine r_d rfl rfl rfl (qe rfl rfl) (r_d rfl rfl rfl (qX rfl rfl rfl rfl) (r_d rfl rfl rfl (qP rfl rfl rfl) (ql ?_)))
           refine g_sB 64 rfl hr (fun h64_22 hr => ?_) (fun h64_22 hr => ?_)
           ·
            refine qC rfl (qk (gr [.d, .d, .d] (r_d rfl rfl rfl (qj rfl rfl) (r_d rfl rfl rfl (qj rfl rfl) (r_d rfl rfl rfl (qj rfl rfl) (ql ?_))))))
            obtain rfl := Option.some.inj hr
            refine q9 Tryz.func190 _ (.cons (resTmp rfl (Wk.refl _)) (.cons (resTmp rfl (Wk.refl _)) (.cons (resTmp rfl (Wk.refl _)) .nil))) ?_
            rfl
           ·
            refine qB rfl (qab (qbC rfl (qan [(1, .int .i64 at_a1), (2, .int .i64 low_a2), (3, .int .i64 high_a3), (11, .int .u64 (IntKind.u64.wrap (u_4 + (IntKind.u64.wrap (factor_5 * (IntKind.u64.wrap (IntKind.u8.wrap (Int.tmod q_15 128)))))))), (13, .int .i64 (wr (i_6 + (1 : Int))))] (Sub.cons' rfl (Sub.cons' rfl (Sub.cons' rfl (Sub.cons' rfl (Sub.cons' rfl (Sub.nil _)))))) ?_)))
            exact HK0 _ _ ⟨(IntKind.u64.wrap (u_4 + (IntKind.u64.wrap (factor_5 * (IntKind.u64.wrap (IntKind.u8.wrap (Int.tmod q_15 128))))))), (wr (i_6 + (1 : Int))), rfl, rfl, hr⟩
          ·
           refine qh rfl rfl rfl (qh rfl rfl rfl (r_d rfl rfl rfl (qG rfl rfl rfl) (ql (qB rfl (qab (qbC rfl (qan [(1, .int .i64 at_a1), (2, .int .i64 low_a2), (3, .int .i64 high_a3), (11, .int .u64 (IntKind.u64.wrap (u_4 + (IntKind.u64.wrap (factor_5 * (IntKind.u64.wrap (IntKind.u8.wrap (Int.tmod q_15 128)))))))), (13, .int .i64 (wr (i_6 + (1 : Int))))] (Sub.cons' rfl (Sub.cons' rfl (Sub.cons' rfl (Sub.cons' rfl (Sub.cons' rfl (Sub.nil _)))))) ?_)))))))
           exact HK0 _ _ ⟨(IntKind.u64.wrap (u_4 + (IntKind.u64.wrap (factor_5 * (IntKind.u64.wrap (IntKind.u8.wrap (Int.tmod q_15 128))))))), (wr (i_6 + (1 : Int))), rfl, rfl, hr⟩
         ·
          refine qB rfl (qab (qac (qan [(0, .lst (b_a0.map (D.int .u8))), (1, .int .i64 at_a1), (2, .int .i64 low_a2), (3, .int .i64 high_a3), (11, .int .u64 (IntKind.u64.wrap (u_4 + (IntKind.u64.wrap (factor_5 * (IntKind.u64.wrap (IntKind.u8.wrap (Int.tmod q_15 128)))))))), (12, .int .u64 (IntKind.u64.wrap (factor_5 * (128 : Int)))), (13, .int .i64 (wr (i_6 + (1 : Int))))] (Sub.cons' rfl (Sub.cons' rfl (Sub.cons' rfl (Sub.cons' rfl (Sub.cons' rfl (Sub.cons' rfl (Sub.cons' rfl (Sub.nil _)))))))) ?_)))
          exact IH0 _ _ _ (by omega) ⟨(IntKind.u64.wrap (u_4 + (IntKind.u64.wrap (factor_5 * (IntKind.u64.wrap (IntKind.u8.wrap (Int.tmod q_15 128))))))), (IntKind.u64.wrap (factor_5 * (128 : Int))), (wr (i_6 + (1 : Int))), _, rfl, rfl, rfl, hr⟩
noncomputable def qi (fuel : Nat) (low_a1 : Int) (high_a2 : Int) (c_0 : qg) : Option (Int × qg) :=
  (bif (c_0.f2_e != (0 : Int)) then
  some (0, c_0)
  else
  ((qdH fuel c_0.f0_b c_0.f1_at low_a1 high_a2).bind fun r_2 =>
  some (r_2.1, (⟨c_0.f0_b, r_2.2.1, r_2.2.2, c_0.f3_bad⟩ : qg))))
set_option maxHeartbeats 1000000 in
theorem qr (fuel : Nat) (low_a1 : Int) (high_a2 : Int) (c_0 : qg) (b_o0 : Nat) (res : Int × qg) (hr : qi fuel low_a1 high_a2 c_0 = some res) : Spec Tryz.prog 118 [.ref b_o0 0 [], .int .i64 low_a1, .int .i64 high_a2] [.cell b_o0 (qd c_0)] (fun d σ => d = .int .i64 res.1 ∧ σ = [.cell b_o0 (qd res.2)]) := by
  unfold qi at hr
  refine qag [(0, .ref b_o0 0 []), (1, .int .i64 low_a1), (2, .int .i64 high_a2)] Tryz.func118 rfl rfl fun K hK => (qk (gr [.d] (r_d rfl rfl rfl (qj rfl rfl) (ql (qk (qk (gr [.d, .d, .d, .r, .d] (r_d rfl rfl rfl (qe rfl rfl) (r_d rfl rfl rfl (qv rfl rfl) (r_d rfl rfl rfl (qo rfl qH rfl) (r_r rfl rfl rfl (qx rfl rfl (.head _) rfl rfl (by exact qaj) rfl) ?_)))))))))))
  refine r_d rfl rfl rfl (qX rfl rfl rfl rfl) (ql ?_)
  refine g_sB 14 rfl hr (fun h14_0 hr => ?_) (fun h14_0 hr => ?_)
  ·
   refine qC rfl (qk (gr [.d] (r_d rfl rfl rfl (qj rfl rfl) (ql ?_))))
   obtain rfl := Option.some.inj hr
   refine q9 Tryz.func118 _ (.cons (resTmp rfl (Wk.refl _)) .nil) ?_
   exact ⟨rfl, rfl⟩
  ·
   refine qB rfl (qab (qk (ga [(0, .d), (1, .d), (2, .d), (3, .r), (4, .d), (5, .d), (6, .d), (7, .r), (8, .d), (9, .d), (10, .d), (11, .d), (12, .d), (13, .d), (14, .d), (15, .d), (16, .d), (17, .d)] (r_d rfl rfl rfl (qe rfl rfl) (r_d rfl rfl rfl (qv rfl rfl) (r_d rfl rfl rfl (qo rfl qd6 rfl) (r_r rfl rfl rfl (qx rfl rfl (.head _) rfl rfl (by exact qc5) rfl) (r_d rfl rfl rfl (qe rfl rfl) (r_d rfl rfl rfl (qv rfl rfl) (r_d rfl rfl rfl (qo rfl qb0 rfl) (r_r rfl rfl rfl (qx rfl rfl (.head _) rfl rfl (by exact qaF) rfl) ?_)))))))))))
   refine r_d rfl rfl rfl (qe rfl rfl) (r_d rfl rfl rfl (qe rfl rfl) ?_)
   obtain ⟨r_2, hr_2, hr⟩ := bindS hr
   refine r_d rfl rfl rfl (qal rfl qhF (.oc rfl (.oc rfl (.oc rfl (.oc rfl .nil)))) (qhH fuel _ _ _ _ _ hr_2)) (r_d rfl rfl rfl (qe rfl rfl) (r_d rfl rfl rfl (qaz rfl rfl rfl) (r_d rfl rfl rfl (qaz rfl rfl rfl) (r_d rfl rfl rfl (qaz rfl rfl rfl) (r_d rfl rfl rfl (qj rfl rfl) (r_d rfl rfl rfl (qj rfl rfl) (r_d rfl rfl rfl (qj rfl rfl) (ql (qk (gr [.d, .d, .d, .d, .d, .d, .w, .d, .d, .w] (r_d rfl rfl rfl (qe rfl rfl) ?_)))))))))))
   refine r_d rfl rfl rfl (qe rfl rfl) (r_d rfl rfl rfl (qe rfl rfl) (r_d rfl rfl rfl (qe rfl rfl) (r_d rfl rfl rfl (qv rfl rfl) (r_d rfl rfl rfl (qo rfl qb0 rfl) (qaa rfl rfl rfl (qV _ rfl rfl rfl (Wk.refl _) (pf0 _) rfl rfl (by exact qaF) rfl rfl rfl) (r_d rfl rfl rfl (qv rfl rfl) (r_d rfl rfl rfl (qo rfl qH rfl) (qaa rfl rfl rfl (qV _ rfl rfl rfl (Wk.refl _) (pf0 _) rfl rfl (by exact qaj) rfl rfl rfl) (ql (qk (gr [.d, .d] ?_)))))))))))
   refine r_d rfl rfl rfl (qe rfl rfl) (r_d rfl rfl rfl (qj rfl rfl) (ql ?_))
   obtain rfl := Option.some.inj hr
   refine q9 Tryz.func118 _ (.cons (resTmp rfl (Wk.refl _)) .nil) ?_
   exact ⟨rfl, rfl⟩
noncomputable def qd2 (fuel : Nat) (b_a0 : (List Int)) (at_a1 : Int) (most_a2 : Int) : Option (ByteArray × Int × Int) :=
  (bif (decide (most_a2 < (0 : Int))) then
  some (⟨#[]⟩, 0, 2)
  else
  ((qdH fuel b_a0 at_a1 0 most_a2).bind fun r_2 =>
  (bif (r_2.2.2 != (0 : Int)) then
  some (⟨#[]⟩, 0, r_2.2.2)
  else
  (bif (decide (r_2.1 > (wr ((b_a0.length : Int) - r_2.2.1)))) then
  some (⟨#[]⟩, 0, 4)
  else
  ((subO b_a0 r_2.2.1 (wr (r_2.2.1 + r_2.1))).bind fun l_5 =>
  some ((strY l_5), (wr (r_2.2.1 + r_2.1)), 0))))))
set_option maxHeartbeats 1000000 in
theorem qjw (fuel : Nat) (b_a0 : (List Int)) (at_a1 : Int) (most_a2 : Int) (res : ByteArray × Int × Int) (hr : qd2 fuel b_a0 at_a1 most_a2 = some res) : Gives Tryz.prog 191 [.lst (b_a0.map (D.int .u8)), .int .i64 at_a1, .int .i64 most_a2] (.tup [.str res.1, .int .i64 res.2.1, .int .i64 res.2.2]) := by
  unfold qd2 at hr
  refine qag [(0, .lst (b_a0.map (D.int .u8))), (1, .int .i64 at_a1), (2, .int .i64 most_a2)] Tryz.func191 rfl rfl fun K hK => (qk (gr [.d, .d, .d] (r_d rfl rfl rfl (qj rfl rfl) (r_d rfl rfl rfl (qj rfl rfl) (r_d rfl rfl rfl (qj rfl rfl) (ql (qk (qk (gr [.d, .d] (r_d rfl rfl rfl (qe rfl rfl) (r_d rfl rfl rfl (qX rfl rfl rfl rfl) ?_)))))))))))
  refine ql ?_
  refine g_sB 13 rfl hr (fun h13_0 hr => ?_) (fun h13_0 hr => ?_)
  ·
   refine qC rfl (qk (gr [.d, .d, .d] (r_d rfl rfl rfl (qj rfl rfl) (r_d rfl rfl rfl (qj rfl rfl) (r_d rfl rfl rfl (qj rfl rfl) (ql ?_))))))
   obtain rfl := Option.some.inj hr
   refine q9 Tryz.func191 _ (.cons (resTmp rfl (Wk.refl _)) (.cons (resTmp rfl (Wk.refl _)) (.cons (resTmp rfl (Wk.refl _)) .nil))) ?_
   rfl
  ·
   refine qB rfl (qab (qk (gr [.d, .d, .d, .d, .d, .d, .d, .d, .d, .d, .d] (r_d rfl rfl rfl (qe rfl rfl) (r_d rfl rfl rfl (qe rfl rfl) (r_d rfl rfl rfl (qe rfl rfl) ?_))))))
   obtain ⟨r_2, hr_2, hr⟩ := bindS hr
   refine r_d rfl rfl rfl (qal rfl qhF (.oc rfl (.oc rfl (.oc rfl (.oc rfl .nil)))) (qhH fuel _ _ _ _ _ hr_2)) (r_d rfl rfl rfl (qe rfl rfl) (r_d rfl rfl rfl (qaz rfl rfl rfl) (r_d rfl rfl rfl (qaz rfl rfl rfl) (r_d rfl rfl rfl (qaz rfl rfl rfl) (r_d rfl rfl rfl (qj rfl rfl) (r_d rfl rfl rfl (qj rfl rfl) (r_d rfl rfl rfl (qj rfl rfl) (ql (qk (qk (gr [.d, .d] ?_)))))))))))
   refine r_d rfl rfl rfl (qe rfl rfl) (r_d rfl rfl rfl (qX rfl rfl rfl rfl) (ql ?_))
   refine g_sB 23 rfl hr (fun h23_2 hr => ?_) (fun h23_2 hr => ?_)
   ·
    refine qC rfl (qk (gr [.d, .d, .d, .d] (r_d rfl rfl rfl (qe rfl rfl) (r_d rfl rfl rfl (qj rfl rfl) (r_d rfl rfl rfl (qj rfl rfl) (r_d rfl rfl rfl (qj rfl rfl) (ql ?_)))))))
    obtain rfl := Option.some.inj hr
    refine q9 Tryz.func191 _ (.cons (resTmp rfl (Wk.refl _)) (.cons (resTmp rfl (Wk.refl _)) (.cons (resTmp rfl (Wk.refl _)) .nil))) ?_
    rfl
   ·
    refine qB rfl (qab (qk (qk (gr [.d, .d, .d, .d, .d, .d] (r_d rfl rfl rfl (qe rfl rfl) (r_d rfl rfl rfl (qe rfl rfl) (r_d rfl rfl rfl (qbP (f := (D.int .u8)) b_a0 rfl qb9 rfl (asl rfl)) (r_d rfl rfl rfl (qe rfl rfl) (r_d rfl rfl rfl (qiF rfl rfl rfl rfl) (r_d rfl rfl rfl (qX rfl rfl rfl rfl) (ql ?_)))))))))))
    refine g_sB 30 rfl hr (fun h30_3 hr => ?_) (fun h30_3 hr => ?_)
    ·
     refine qC rfl (qk (gr [.d, .d, .d] (r_d rfl rfl rfl (qj rfl rfl) (r_d rfl rfl rfl (qj rfl rfl) (r_d rfl rfl rfl (qj rfl rfl) (ql ?_))))))
     obtain rfl := Option.some.inj hr
     refine q9 Tryz.func191 _ (.cons (resTmp rfl (Wk.refl _)) (.cons (resTmp rfl (Wk.refl _)) (.cons (resTmp rfl (Wk.refl _)) .nil))) ?_
     rfl
    ·
     refine qB rfl (qab (qk (gr [.d, .d, .d, .d, .d, .d, .d, .d, .d, .d, .d, .d, .d] (r_d rfl rfl rfl (qe rfl rfl) (r_d rfl rfl rfl (qe rfl rfl) (r_d rfl rfl rfl (qe rfl rfl) (r_d rfl rfl rfl (qe rfl rfl) (r_d rfl rfl rfl (qiF rfl rfl rfl rfl) ?_))))))))
     obtain ⟨l_5, hl_5, hr⟩ := bindS hr
     refine r_d rfl rfl rfl (qua (f := (D.int .u8)) b_a0 r_2.2.1 (wr (r_2.2.1 + r_2.1)) rfl qb9 rfl (asl rfl) (qtc rfl) (qtb rfl) (fun _ => rfl) hl_5) (r_d rfl rfl rfl (qo6 l_5 rfl Tryz.underlying30 Tryz.underlying5 Tryz.underlying9 rfl (asl rfl)) (r_d rfl rfl rfl (qe rfl rfl) (r_d rfl rfl rfl (qe rfl rfl) (r_d rfl rfl rfl (qiF rfl rfl rfl rfl) (r_d rfl rfl rfl (qj rfl rfl) (r_d rfl rfl rfl (qj rfl rfl) (r_d rfl rfl rfl (qj rfl rfl) (ql ?_))))))))
     obtain rfl := Option.some.inj hr
     refine q9 Tryz.func191 _ (.cons (resTmp rfl (Wk.refl _)) (.cons (resTmp rfl (Wk.refl _)) (.cons (resTmp rfl (Wk.refl _)) .nil))) ?_
     rfl
noncomputable def qI (fuel : Nat) (c_0 : qg) : Option (ByteArray × qg) :=
  (bif (c_0.f2_e != (0 : Int)) then
  some (⟨#[]⟩, c_0)
  else
  ((qd2 fuel c_0.f0_b c_0.f1_at 40).bind fun r_2 =>
  some (r_2.1, (⟨c_0.f0_b, r_2.2.1, r_2.2.2, c_0.f3_bad⟩ : qg))))
set_option maxHeartbeats 1000000 in
theorem qbj (fuel : Nat) (c_0 : qg) (b_o0 : Nat) (res : ByteArray × qg) (hr : qI fuel c_0 = some res) : Spec Tryz.prog 119 [.ref b_o0 0 []] [.cell b_o0 (qd c_0)] (fun d σ => d = .str res.1 ∧ σ = [.cell b_o0 (qd res.2)]) := by
  unfold qI at hr
  refine qag [(0, .ref b_o0 0 [])] Tryz.func119 rfl rfl fun K hK => (qk (gr [.d] (r_d rfl rfl rfl (qj rfl rfl) (ql (qk (qk (gr [.d, .d, .d, .r, .d] (r_d rfl rfl rfl (qe rfl rfl) (r_d rfl rfl rfl (qv rfl rfl) (r_d rfl rfl rfl (qo rfl qH rfl) (r_r rfl rfl rfl (qx rfl rfl (.head _) rfl rfl (by exact qaj) rfl) ?_)))))))))))
  refine r_d rfl rfl rfl (qX rfl rfl rfl rfl) (ql ?_)
  refine g_sB 10 rfl hr (fun h10_0 hr => ?_) (fun h10_0 hr => ?_)
  ·
   refine qC rfl (qk (gr [.d] (r_d rfl rfl rfl (qj rfl rfl) (ql ?_))))
   obtain rfl := Option.some.inj hr
   refine q9 Tryz.func119 _ (.cons (resTmp rfl (Wk.refl _)) .nil) ?_
   exact ⟨rfl, rfl⟩
  ·
   refine qB rfl (qab (qk (ga [(0, .d), (1, .d), (2, .d), (3, .r), (4, .d), (5, .d), (6, .d), (7, .r), (8, .d), (9, .d), (10, .d), (11, .d), (12, .d), (13, .d), (14, .d), (15, .d)] (r_d rfl rfl rfl (qe rfl rfl) (r_d rfl rfl rfl (qv rfl rfl) (r_d rfl rfl rfl (qo rfl qd6 rfl) (r_r rfl rfl rfl (qx rfl rfl (.head _) rfl rfl (by exact qc5) rfl) (r_d rfl rfl rfl (qe rfl rfl) (r_d rfl rfl rfl (qv rfl rfl) (r_d rfl rfl rfl (qo rfl qb0 rfl) (r_r rfl rfl rfl (qx rfl rfl (.head _) rfl rfl (by exact qaF) rfl) ?_)))))))))))
   obtain ⟨r_2, hr_2, hr⟩ := bindS hr
   refine r_d rfl rfl rfl (qal rfl qjU (.oc rfl (.oc rfl (.oc rfl .nil))) (qjw fuel _ _ _ _ hr_2)) (r_d rfl rfl rfl (qe rfl rfl) (r_d rfl rfl rfl (qaz rfl rfl rfl) (r_d rfl rfl rfl (qaz rfl rfl rfl) (r_d rfl rfl rfl (qaz rfl rfl rfl) (r_d rfl rfl rfl (qj rfl rfl) (r_d rfl rfl rfl (qj rfl rfl) (r_d rfl rfl rfl (qj rfl rfl) (ql (qk (gr [.d, .d, .d, .d, .d, .d, .w, .d, .d, .w] (r_d rfl rfl rfl (qe rfl rfl) ?_)))))))))))
   refine r_d rfl rfl rfl (qe rfl rfl) (r_d rfl rfl rfl (qe rfl rfl) (r_d rfl rfl rfl (qe rfl rfl) (r_d rfl rfl rfl (qv rfl rfl) (r_d rfl rfl rfl (qo rfl qb0 rfl) (qaa rfl rfl rfl (qV _ rfl rfl rfl (Wk.refl _) (pf0 _) rfl rfl (by exact qaF) rfl rfl rfl) (r_d rfl rfl rfl (qv rfl rfl) (r_d rfl rfl rfl (qo rfl qH rfl) (qaa rfl rfl rfl (qV _ rfl rfl rfl (Wk.refl _) (pf0 _) rfl rfl (by exact qaj) rfl rfl rfl) (ql (qk (gr [.d, .d] ?_)))))))))))
   refine r_d rfl rfl rfl (qe rfl rfl) (r_d rfl rfl rfl (qj rfl rfl) (ql ?_))
   obtain rfl := Option.some.inj hr
   refine q9 Tryz.func119 _ (.cons (resTmp rfl (Wk.refl _)) .nil) ?_
   exact ⟨rfl, rfl⟩
noncomputable def qaA (fuel : Nat) (rec : Int → qg → Option ((List T) × qg)) (depth_a1 : Int) (c_0 : qg) : Option (T × qg) :=
  (bif (c_0.f2_e == (0 : Int)) then
  (bif (decide (depth_a1 > (20 : Int))) then
  ((qi fuel 0 2 (⟨c_0.f0_b, c_0.f1_at, 6, c_0.f3_bad⟩ : qg)).bind fun r_4 =>
  (bif (r_4.2.f2_e != (0 : Int)) then
  some ((T.mk r_4.1 0 ⟨#[]⟩ []), r_4.2)
  else
  (bif (r_4.1 == (0 : Int)) then
  ((qi fuel (-2147483648) 2147483648 r_4.2).bind fun r_8 =>
  some ((T.mk r_4.1 r_8.1 ⟨#[]⟩ []), r_8.2))
  else
  (bif (r_4.1 == (1 : Int)) then
  ((qi fuel 0 1048576 r_4.2).bind fun r_10 =>
  some ((T.mk r_4.1 r_10.1 ⟨#[]⟩ []), r_10.2))
  else
  ((qI fuel r_4.2).bind fun r_11 =>
  ((rec (wr (depth_a1 + (1 : Int))) r_11.2).bind fun r_12 =>
  some ((T.mk r_4.1 0 r_11.1 r_12.1), r_12.2)))))))
  else
  ((qi fuel 0 2 c_0).bind fun r_13 =>
  (bif (r_13.2.f2_e != (0 : Int)) then
  some ((T.mk r_13.1 0 ⟨#[]⟩ []), r_13.2)
  else
  (bif (r_13.1 == (0 : Int)) then
  ((qi fuel (-2147483648) 2147483648 r_13.2).bind fun r_17 =>
  some ((T.mk r_13.1 r_17.1 ⟨#[]⟩ []), r_17.2))
  else
  (bif (r_13.1 == (1 : Int)) then
  ((qi fuel 0 1048576 r_13.2).bind fun r_19 =>
  some ((T.mk r_13.1 r_19.1 ⟨#[]⟩ []), r_19.2))
  else
  ((qI fuel r_13.2).bind fun r_20 =>
  ((rec (wr (depth_a1 + (1 : Int))) r_20.2).bind fun r_21 =>
  some ((T.mk r_13.1 0 r_20.1 r_21.1), r_21.2))))))))
  else
  ((qi fuel 0 2 c_0).bind fun r_22 =>
  (bif (r_22.2.f2_e != (0 : Int)) then
  some ((T.mk r_22.1 0 ⟨#[]⟩ []), r_22.2)
  else
  (bif (r_22.1 == (0 : Int)) then
  ((qi fuel (-2147483648) 2147483648 r_22.2).bind fun r_26 =>
  some ((T.mk r_22.1 r_26.1 ⟨#[]⟩ []), r_26.2))
  else
  (bif (r_22.1 == (1 : Int)) then
  ((qi fuel 0 1048576 r_22.2).bind fun r_28 =>
  some ((T.mk r_22.1 r_28.1 ⟨#[]⟩ []), r_28.2))
  else
  ((qI fuel r_22.2).bind fun r_29 =>
  ((rec (wr (depth_a1 + (1 : Int))) r_29.2).bind fun r_30 =>
  some ((T.mk r_22.1 0 r_29.1 r_30.1), r_30.2))))))))
set_option maxHeartbeats 1000000 in
theorem qeZ (fuel : Nat) (rec : Int → qg → Option ((List T) × qg)) (IHR : ∀ (depth_a1 : Int) (c_0 : qg) (b_o0 : Nat) (res : (List T) × qg), rec depth_a1 c_0 = some res → Spec Tryz.prog 193 [.ref b_o0 0 [], .int .i64 depth_a1] [.cell b_o0 (qd c_0)] (fun d σ => d = .lst (res.1.map encT) ∧ σ = [.cell b_o0 (qd res.2)])) (depth_a1 : Int) (c_0 : qg) (b_o0 : Nat) (res : T × qg) (hr : qaA fuel rec depth_a1 c_0 = some res) : Spec Tryz.prog 125 [.ref b_o0 0 [], .int .i64 depth_a1] [.cell b_o0 (qd c_0)] (fun d σ => d = encT res.1 ∧ σ = [.cell b_o0 (qd res.2)]) := by
  unfold qaA at hr
  refine qag [(0, .ref b_o0 0 []), (1, .int .i64 depth_a1)] Tryz.func125 rfl rfl fun K hK => (qk (gr [.w] (r_w rfl rfl rfl (qau rfl qgz) ?_)))
  rintro _ _ ⟨b4_0, rfl, rfl⟩
  refine ql (qk (qk (gr [.d, .d, .d, .r, .d, .d, .d, .d, .d] (r_d rfl rfl rfl (qe rfl rfl) (r_d rfl rfl rfl (qv rfl rfl) (r_d rfl rfl rfl (qo rfl qH rfl) (r_r rfl rfl rfl (qx rfl rfl (.tail _ (.head _)) rfl rfl (by exact qaj) rfl) (r_d rfl rfl rfl (qX rfl rfl rfl rfl) (r_d rfl rfl rfl (qe rfl rfl) ?_)))))))))
  refine r_sB 11 rfl hr (fun h11_1 hr => ?_) (fun h11_1 hr => ?_)
  ·
   refine r_d rfl rfl rfl (qe rfl rfl) (r_d rfl rfl rfl (qX rfl rfl rfl rfl) (r_d rfl rfl rfl (qP rfl rfl rfl) (ql ?_)))
   refine g_sB 14 rfl hr (fun h14_2 hr => ?_) (fun h14_2 hr => ?_)
   ·
    refine qC rfl (gr [.d, .d, .d, .w] (r_d rfl rfl rfl (qe rfl rfl) (r_d rfl rfl rfl (qv rfl rfl) (r_d rfl rfl rfl (qo rfl qH rfl) (qaa rfl rfl rfl (qV _ rfl rfl rfl (Wk.refl _) (pf1 _ _ _) rfl rfl (by exact qaj) rfl rfl rfl) (ql (qk (gr [.d, .w, .d, .w, .w] (r_d rfl rfl rfl (qe rfl rfl) ?_)))))))))
    obtain ⟨r_4, hr_4, hr⟩ := bindS hr
    refine r_w rfl rfl rfl (qF _ rfl qs (.oc rfl (.oc rfl (.oc rfl .nil))) (by exact (pf0 _)) (qr fuel _ _ _ _ _ hr_4)) ?_
    rintro _ _ ⟨_, ⟨rfl, rfl⟩, rfl⟩
    refine r_st ((.cell b_o0 (qd r_4.2)) :: _) rfl (r_d rfl rfl rfl (qbT rfl qiJ (.oc rfl .nil) (.cons rfl rfl rfl (.nil _))) (r_w rfl rfl rfl (qau rfl qgz) ?_))
    rintro _ _ ⟨b5_4, rfl, rfl⟩
    refine qaa rfl rfl rfl (qK _ rfl rfl rfl (Wk.refl _) (pf0 _) (by exact qQ) rfl rfl rfl) (ql (qk (qbi (qk (gr [.d, .d, .d, .r, .d, .d] (r_d rfl rfl rfl (qe rfl rfl) (r_d rfl rfl rfl (qv rfl rfl) (r_d rfl rfl rfl (qo rfl qH rfl) (r_r rfl rfl rfl (qx rfl rfl (.tail _ (.head _)) rfl rfl (by exact qaj) rfl) (r_d rfl rfl rfl (qX rfl rfl rfl rfl) (r_d rfl rfl rfl (qj rfl rfl) ?_)))))))))))
    refine ql ?_
    refine g_sB 29 rfl hr (fun h29_5 hr => ?_) (fun h29_5 hr => ?_)
    ·
     refine qC rfl (qk (gr [.r, .w] (r_r rfl rfl rfl (qx rfl rfl (.head _) rfl rfl (by exact qQ) rfl) (qaa rfl rfl rfl (qK _ rfl rfl rfl (Wk.refl _) (pf2 _ _ _ _) (by exact qQ) rfl rfl rfl) (ql (qap 4 b4_0 rfl (pf0 _) (qar [_] _ (pf1 _ _ _) ?_)))))))
     obtain rfl := Option.some.inj hr
     refine q9 Tryz.func125 _ (.cons (resPtr rfl (by exact qQ) rfl (Wk.refl _)) .nil) ?_
     exact ⟨rfl, rfl⟩
    ·
     refine qB rfl (qk (gr [.d, .r, .d, .d] (r_d rfl rfl rfl (qo rfl qeG rfl) (r_r rfl rfl rfl (qx rfl rfl (.head _) rfl rfl (by exact qaF) rfl) (r_d rfl rfl rfl (qX rfl rfl rfl rfl) (r_d rfl rfl rfl (qj rfl rfl) (ql ?_)))))))
     refine g_sB 36 rfl hr (fun h36_6 hr => ?_) (fun h36_6 hr => ?_)
     ·
      refine qC rfl (gr [.d, .w, .d, .w] (r_d rfl rfl rfl (qe rfl rfl) ?_))
      obtain ⟨r_8, hr_8, hr⟩ := bindS hr
      refine r_w rfl rfl rfl (qF _ rfl qs (.oc rfl (.oc rfl (.oc rfl .nil))) (by exact (pf1 _ _ _)) (qr fuel _ _ _ _ _ hr_8)) ?_
      rintro _ _ ⟨_, ⟨rfl, rfl⟩, rfl⟩
      refine r_st ((.cell b_o0 (qd r_8.2)) :: _) rfl (r_d rfl rfl rfl (qo rfl qem rfl) (qaa rfl rfl rfl (qV _ rfl rfl rfl (Wk.refl _) (pf1 _ _ _) rfl rfl (by exact qaF) rfl rfl rfl) (ql (qac (qk (gr [.r, .w] (r_r rfl rfl rfl (qx rfl rfl (.head _) rfl rfl (by exact qQ) rfl) (qaa rfl rfl rfl (qK _ rfl rfl rfl (Wk.refl _) (pf2 _ _ _ _) (by exact qQ) rfl rfl rfl) (ql (qap 4 b4_0 rfl (pf0 _) (qar [_] _ (pf1 _ _ _) ?_)))))))))))
      obtain rfl := Option.some.inj hr
      refine q9 Tryz.func125 _ (.cons (resPtr rfl (by exact qQ) rfl (Wk.refl _)) .nil) ?_
      exact ⟨rfl, rfl⟩
     ·
      refine qB rfl (qk (gr [.d, .r, .d, .d] (r_d rfl rfl rfl (qo rfl qeG rfl) (r_r rfl rfl rfl (qx rfl rfl (.head _) rfl rfl (by exact qaF) rfl) (r_d rfl rfl rfl (qX rfl rfl rfl rfl) (r_d rfl rfl rfl (qj rfl rfl) (ql ?_)))))))
      refine g_sB 43 rfl hr (fun h43_8 hr => ?_) (fun h43_8 hr => ?_)
      ·
       refine qC rfl (gr [.d, .w, .d, .w] (r_d rfl rfl rfl (qe rfl rfl) ?_))
       obtain ⟨r_10, hr_10, hr⟩ := bindS hr
       refine r_w rfl rfl rfl (qF _ rfl qs (.oc rfl (.oc rfl (.oc rfl .nil))) (by exact (pf1 _ _ _)) (qr fuel _ _ _ _ _ hr_10)) ?_
       rintro _ _ ⟨_, ⟨rfl, rfl⟩, rfl⟩
       refine r_st ((.cell b_o0 (qd r_10.2)) :: _) rfl (r_d rfl rfl rfl (qo rfl qem rfl) (qaa rfl rfl rfl (qV _ rfl rfl rfl (Wk.refl _) (pf1 _ _ _) rfl rfl (by exact qaF) rfl rfl rfl) (ql (qac (qk (gr [.r, .w] (r_r rfl rfl rfl (qx rfl rfl (.head _) rfl rfl (by exact qQ) rfl) (qaa rfl rfl rfl (qK _ rfl rfl rfl (Wk.refl _) (pf2 _ _ _ _) (by exact qQ) rfl rfl rfl) (ql (qap 4 b4_0 rfl (pf0 _) (qar [_] _ (pf1 _ _ _) ?_)))))))))))
       obtain rfl := Option.some.inj hr
       refine q9 Tryz.func125 _ (.cons (resPtr rfl (by exact qQ) rfl (Wk.refl _)) .nil) ?_
       exact ⟨rfl, rfl⟩
      ·
       refine qB rfl (qk (gr [.d, .w, .d, .w] (r_d rfl rfl rfl (qe rfl rfl) ?_)))
       obtain ⟨r_11, hr_11, hr⟩ := bindS hr
       refine r_w rfl rfl rfl (qF _ rfl qby (.oc rfl .nil) (by exact (pf1 _ _ _)) (qbj fuel _ _ _ hr_11)) ?_
       rintro _ _ ⟨_, ⟨rfl, rfl⟩, rfl⟩
       refine r_st ((.cell b_o0 (qd r_11.2)) :: _) rfl (r_d rfl rfl rfl (qo rfl qhp rfl) (qaa rfl rfl rfl (qV _ rfl rfl rfl (Wk.refl _) (pf1 _ _ _) rfl rfl (by exact qep) rfl rfl rfl) (ql (gr [.d, .d, .d, .w, .d, .w] (r_d rfl rfl rfl (qe rfl rfl) (r_d rfl rfl rfl (qe rfl rfl) (r_d rfl rfl rfl (qiF rfl rfl rfl rfl) ?_)))))))
       obtain ⟨r_12, hr_12, hr⟩ := bindS hr
       refine r_w rfl rfl rfl (qF _ rfl qcy (.oc rfl (.oc rfl .nil)) (by exact (pf1 _ _ _)) (IHR _ _ _ _ hr_12)) ?_
       rintro _ _ ⟨_, ⟨rfl, rfl⟩, rfl⟩
       refine r_st ((.cell b_o0 (qd r_12.2)) :: _) rfl (r_d rfl rfl rfl (qo rfl qhx rfl) (qaa rfl rfl rfl (qV _ rfl rfl rfl (Wk.refl _) (pf1 _ _ _) rfl rfl (by exact qdQ) rfl rfl rfl) (ql (qac (qk (gr [.r, .w] (r_r rfl rfl rfl (qx rfl rfl (.head _) rfl rfl (by exact qQ) rfl) (qaa rfl rfl rfl (qK _ rfl rfl rfl (Wk.refl _) (pf2 _ _ _ _) (by exact qQ) rfl rfl rfl) (ql (qap 4 b4_0 rfl (pf0 _) (qar [_] _ (pf1 _ _ _) ?_)))))))))))
       obtain rfl := Option.some.inj hr
       refine q9 Tryz.func125 _ (.cons (resPtr rfl (by exact qQ) rfl (Wk.refl _)) .nil) ?_
       exact ⟨(congrArg D.agg (qh8 (T.mk r_4.1 0 r_11.1 r_12.1))).symm, rfl⟩
   ·
    refine qB rfl (qab (qk (gr [.d, .w, .d, .w, .w] (r_d rfl rfl rfl (qe rfl rfl) ?_))))
    obtain ⟨r_13, hr_13, hr⟩ := bindS hr
    refine r_w rfl rfl rfl (qF _ rfl qs (.oc rfl (.oc rfl (.oc rfl .nil))) (by exact (pf1 _ _ _)) (qr fuel _ _ _ _ _ hr_13)) ?_
    rintro _ _ ⟨_, ⟨rfl, rfl⟩, rfl⟩
    refine r_st ((.cell b_o0 (qd r_13.2)) :: _) rfl (r_d rfl rfl rfl (qbT rfl qiJ (.oc rfl .nil) (.cons rfl rfl rfl (.nil _))) (r_w rfl rfl rfl (qau rfl qgz) ?_))
    rintro _ _ ⟨b5_13, rfl, rfl⟩
    refine qaa rfl rfl rfl (qK _ rfl rfl rfl (Wk.refl _) (pf0 _) (by exact qQ) rfl rfl rfl) (ql (qk (qbi (qk (gr [.d, .d, .d, .r, .d, .d] (r_d rfl rfl rfl (qe rfl rfl) (r_d rfl rfl rfl (qv rfl rfl) (r_d rfl rfl rfl (qo rfl qH rfl) (r_r rfl rfl rfl (qx rfl rfl (.tail _ (.head _)) rfl rfl (by exact qaj) rfl) (r_d rfl rfl rfl (qX rfl rfl rfl rfl) (r_d rfl rfl rfl (qj rfl rfl) ?_)))))))))))
    refine ql ?_
    refine g_sB 29 rfl hr (fun h29_14 hr => ?_) (fun h29_14 hr => ?_)
    ·
     refine qC rfl (qk (gr [.r, .w] (r_r rfl rfl rfl (qx rfl rfl (.head _) rfl rfl (by exact qQ) rfl) (qaa rfl rfl rfl (qK _ rfl rfl rfl (Wk.refl _) (pf2 _ _ _ _) (by exact qQ) rfl rfl rfl) (ql (qap 4 b4_0 rfl (pf0 _) (qar [_] _ (pf1 _ _ _) ?_)))))))
     obtain rfl := Option.some.inj hr
     refine q9 Tryz.func125 _ (.cons (resPtr rfl (by exact qQ) rfl (Wk.refl _)) .nil) ?_
     exact ⟨rfl, rfl⟩
    ·
     refine qB rfl (qk (gr [.d, .r, .d, .d] (r_d rfl rfl rfl (qo rfl qeG rfl) (r_r rfl rfl rfl (qx rfl rfl (.head _) rfl rfl (by exact qaF) rfl) (r_d rfl rfl rfl (qX rfl rfl rfl rfl) (r_d rfl rfl rfl (qj rfl rfl) (ql ?_)))))))
     refine g_sB 36 rfl hr (fun h36_15 hr => ?_) (fun h36_15 hr => ?_)
     ·
      refine qC rfl (gr [.d, .w, .d, .w] (r_d rfl rfl rfl (qe rfl rfl) ?_))
      obtain ⟨r_17, hr_17, hr⟩ := bindS hr
      refine r_w rfl rfl rfl (qF _ rfl qs (.oc rfl (.oc rfl (.oc rfl .nil))) (by exact (pf1 _ _ _)) (qr fuel _ _ _ _ _ hr_17)) ?_
      rintro _ _ ⟨_, ⟨rfl, rfl⟩, rfl⟩
      refine r_st ((.cell b_o0 (qd r_17.2)) :: _) rfl (r_d rfl rfl rfl (qo rfl qem rfl) (qaa rfl rfl rfl (qV _ rfl rfl rfl (Wk.refl _) (pf1 _ _ _) rfl rfl (by exact qaF) rfl rfl rfl) (ql (qac (qk (gr [.r, .w] (r_r rfl rfl rfl (qx rfl rfl (.head _) rfl rfl (by exact qQ) rfl) (qaa rfl rfl rfl (qK _ rfl rfl rfl (Wk.refl _) (pf2 _ _ _ _) (by exact qQ) rfl rfl rfl) (ql (qap 4 b4_0 rfl (pf0 _) (qar [_] _ (pf1 _ _ _) ?_)))))))))))
      obtain rfl := Option.some.inj hr
      refine q9 Tryz.func125 _ (.cons (resPtr rfl (by exact qQ) rfl (Wk.refl _)) .nil) ?_
      exact ⟨rfl, rfl⟩
     ·
      refine qB rfl (qk (gr [.d, .r, .d, .d] (r_d rfl rfl rfl (qo rfl qeG rfl) (r_r rfl rfl rfl (qx rfl rfl (.head _) rfl rfl (by exact qaF) rfl) (r_d rfl rfl rfl (qX rfl rfl rfl rfl) (r_d rfl rfl rfl (qj rfl rfl) (ql ?_)))))))
      refine g_sB 43 rfl hr (fun h43_17 hr => ?_) (fun h43_17 hr => ?_)
      ·
       refine qC rfl (gr [.d, .w, .d, .w] (r_d rfl rfl rfl (qe rfl rfl) ?_))
       obtain ⟨r_19, hr_19, hr⟩ := bindS hr
       refine r_w rfl rfl rfl (qF _ rfl qs (.oc rfl (.oc rfl (.oc rfl .nil))) (by exact (pf1 _ _ _)) (qr fuel _ _ _ _ _ hr_19)) ?_
       rintro _ _ ⟨_, ⟨rfl, rfl⟩, rfl⟩
       refine r_st ((.cell b_o0 (qd r_19.2)) :: _) rfl (r_d rfl rfl rfl (qo rfl qem rfl) (qaa rfl rfl rfl (qV _ rfl rfl rfl (Wk.refl _) (pf1 _ _ _) rfl rfl (by exact qaF) rfl rfl rfl) (ql (qac (qk (gr [.r, .w] (r_r rfl rfl rfl (qx rfl rfl (.head _) rfl rfl (by exact qQ) rfl) (qaa rfl rfl rfl (qK _ rfl rfl rfl (Wk.refl _) (pf2 _ _ _ _) (by exact qQ) rfl rfl rfl) (ql (qap 4 b4_0 rfl (pf0 _) (qar [_] _ (pf1 _ _ _) ?_)))))))))))
       obtain rfl := Option.some.inj hr
       refine q9 Tryz.func125 _ (.cons (resPtr rfl (by exact qQ) rfl (Wk.refl _)) .nil) ?_
       exact ⟨rfl, rfl⟩
      ·
       refine qB rfl (qk (gr [.d, .w, .d, .w] (r_d rfl rfl rfl (qe rfl rfl) ?_)))
       obtain ⟨r_20, hr_20, hr⟩ := bindS hr
       refine r_w rfl rfl rfl (qF _ rfl qby (.oc rfl .nil) (by exact (pf1 _ _ _)) (qbj fuel _ _ _ hr_20)) ?_
       rintro _ _ ⟨_, ⟨rfl, rfl⟩, rfl⟩
       refine r_st ((.cell b_o0 (qd r_20.2)) :: _) rfl (r_d rfl rfl rfl (qo rfl qhp rfl) (qaa rfl rfl rfl (qV _ rfl rfl rfl (Wk.refl _) (pf1 _ _ _) rfl rfl (by exact qep) rfl rfl rfl) (ql (gr [.d, .d, .d, .w, .d, .w] (r_d rfl rfl rfl (qe rfl rfl) (r_d rfl rfl rfl (qe rfl rfl) (r_d rfl rfl rfl (qiF rfl rfl rfl rfl) ?_)))))))
       obtain ⟨r_21, hr_21, hr⟩ := bindS hr
       refine r_w rfl rfl rfl (qF _ rfl qcy (.oc rfl (.oc rfl .nil)) (by exact (pf1 _ _ _)) (IHR _ _ _ _ hr_21)) ?_
       rintro _ _ ⟨_, ⟨rfl, rfl⟩, rfl⟩
       refine r_st ((.cell b_o0 (qd r_21.2)) :: _) rfl (r_d rfl rfl rfl (qo rfl qhx rfl) (qaa rfl rfl rfl (qV _ rfl rfl rfl (Wk.refl _) (pf1 _ _ _) rfl rfl (by exact qdQ) rfl rfl rfl) (ql (qac (qk (gr [.r, .w] (r_r rfl rfl rfl (qx rfl rfl (.head _) rfl rfl (by exact qQ) rfl) (qaa rfl rfl rfl (qK _ rfl rfl rfl (Wk.refl _) (pf2 _ _ _ _) (by exact qQ) rfl rfl rfl) (ql (qap 4 b4_0 rfl (pf0 _) (qar [_] _ (pf1 _ _ _) ?_)))))))))))
       obtain rfl := Option.some.inj hr
       refine q9 Tryz.func125 _ (.cons (resPtr rfl (by exact qQ) rfl (Wk.refl _)) .nil) ?_
       exact ⟨(congrArg D.agg (qh8 (T.mk r_13.1 0 r_20.1 r_21.1))).symm, rfl⟩
  ·
   refine qh rfl rfl rfl (qh rfl rfl rfl (r_d rfl rfl rfl (qG rfl rfl rfl) (ql (qB rfl (qab (qk (gr [.d, .w, .d, .w, .w] (r_d rfl rfl rfl (qe rfl rfl) ?_))))))))
   obtain ⟨r_22, hr_22, hr⟩ := bindS hr
   refine r_w rfl rfl rfl (qF _ rfl qs (.oc rfl (.oc rfl (.oc rfl .nil))) (by exact (pf1 _ _ _)) (qr fuel _ _ _ _ _ hr_22)) ?_
   rintro _ _ ⟨_, ⟨rfl, rfl⟩, rfl⟩
   refine r_st ((.cell b_o0 (qd r_22.2)) :: _) rfl (r_d rfl rfl rfl (qbT rfl qiJ (.oc rfl .nil) (.cons rfl rfl rfl (.nil _))) (r_w rfl rfl rfl (qau rfl qgz) ?_))
   rintro _ _ ⟨b5_22, rfl, rfl⟩
   refine qaa rfl rfl rfl (qK _ rfl rfl rfl (Wk.refl _) (pf0 _) (by exact qQ) rfl rfl rfl) (ql (qk (qbi (qk (gr [.d, .d, .d, .r, .d, .d] (r_d rfl rfl rfl (qe rfl rfl) (r_d rfl rfl rfl (qv rfl rfl) (r_d rfl rfl rfl (qo rfl qH rfl) (r_r rfl rfl rfl (qx rfl rfl (.tail _ (.head _)) rfl rfl (by exact qaj) rfl) (r_d rfl rfl rfl (qX rfl rfl rfl rfl) (r_d rfl rfl rfl (qj rfl rfl) ?_)))))))))))
   refine ql ?_
   refine g_sB 29 rfl hr (fun h29_23 hr => ?_) (fun h29_23 hr => ?_)
   ·
    refine qC rfl (qk (gr [.r, .w] (r_r rfl rfl rfl (qx rfl rfl (.head _) rfl rfl (by exact qQ) rfl) (qaa rfl rfl rfl (qK _ rfl rfl rfl (Wk.refl _) (pf2 _ _ _ _) (by exact qQ) rfl rfl rfl) (ql (qap 4 b4_0 rfl (pf0 _) (qar [_] _ (pf1 _ _ _) ?_)))))))
    obtain rfl := Option.some.inj hr
    refine q9 Tryz.func125 _ (.cons (resPtr rfl (by exact qQ) rfl (Wk.refl _)) .nil) ?_
    exact ⟨rfl, rfl⟩
   ·
    refine qB rfl (qk (gr [.d, .r, .d, .d] (r_d rfl rfl rfl (qo rfl qeG rfl) (r_r rfl rfl rfl (qx rfl rfl (.head _) rfl rfl (by exact qaF) rfl) (r_d rfl rfl rfl (qX rfl rfl rfl rfl) (r_d rfl rfl rfl (qj rfl rfl) (ql ?_)))))))
    refine g_sB 36 rfl hr (fun h36_24 hr => ?_) (fun h36_24 hr => ?_)
    ·
     refine qC rfl (gr [.d, .w, .d, .w] (r_d rfl rfl rfl (qe rfl rfl) ?_))
     obtain ⟨r_26, hr_26, hr⟩ := bindS hr
     refine r_w rfl rfl rfl (qF _ rfl qs (.oc rfl (.oc rfl (.oc rfl .nil))) (by exact (pf1 _ _ _)) (qr fuel _ _ _ _ _ hr_26)) ?_
     rintro _ _ ⟨_, ⟨rfl, rfl⟩, rfl⟩
     refine r_st ((.cell b_o0 (qd r_26.2)) :: _) rfl (r_d rfl rfl rfl (qo rfl qem rfl) (qaa rfl rfl rfl (qV _ rfl rfl rfl (Wk.refl _) (pf1 _ _ _) rfl rfl (by exact qaF) rfl rfl rfl) (ql (qac (qk (gr [.r, .w] (r_r rfl rfl rfl (qx rfl rfl (.head _) rfl rfl (by exact qQ) rfl) (qaa rfl rfl rfl (qK _ rfl rfl rfl (Wk.refl _) (pf2 _ _ _ _) (by exact qQ) rfl rfl rfl) (ql (qap 4 b4_0 rfl (pf0 _) (qar [_] _ (pf1 _ _ _) ?_)))))))))))
     obtain rfl := Option.some.inj hr
     refine q9 Tryz.func125 _ (.cons (resPtr rfl (by exact qQ) rfl (Wk.refl _)) .nil) ?_
     exact ⟨rfl, rfl⟩
    ·
     refine qB rfl (qk (gr [.d, .r, .d, .d] (r_d rfl rfl rfl (qo rfl qeG rfl) (r_r rfl rfl rfl (qx rfl rfl (.head _) rfl rfl (by exact qaF) rfl) (r_d rfl rfl rfl (qX rfl rfl rfl rfl) (r_d rfl rfl rfl (qj rfl rfl) (ql ?_)))))))
     refine g_sB 43 rfl hr (fun h43_26 hr => ?_) (fun h43_26 hr => ?_)
     ·
      refine qC rfl (gr [.d, .w, .d, .w] (r_d rfl rfl rfl (qe rfl rfl) ?_))
      obtain ⟨r_28, hr_28, hr⟩ := bindS hr
      refine r_w rfl rfl rfl (qF _ rfl qs (.oc rfl (.oc rfl (.oc rfl .nil))) (by exact (pf1 _ _ _)) (qr fuel _ _ _ _ _ hr_28)) ?_
      rintro _ _ ⟨_, ⟨rfl, rfl⟩, rfl⟩
      refine r_st ((.cell b_o0 (qd r_28.2)) :: _) rfl (r_d rfl rfl rfl (qo rfl qem rfl) (qaa rfl rfl rfl (qV _ rfl rfl rfl (Wk.refl _) (pf1 _ _ _) rfl rfl (by exact qaF) rfl rfl rfl) (ql (qac (qk (gr [.r, .w] (r_r rfl rfl rfl (qx rfl rfl (.head _) rfl rfl (by exact qQ) rfl) (qaa rfl rfl rfl (qK _ rfl rfl rfl (Wk.refl _) (pf2 _ _ _ _) (by exact qQ) rfl rfl rfl) (ql (qap 4 b4_0 rfl (pf0 _) (qar [_] _ (pf1 _ _ _) ?_)))))))))))
      obtain rfl := Option.some.inj hr
      refine q9 Tryz.func125 _ (.cons (resPtr rfl (by exact qQ) rfl (Wk.refl _)) .nil) ?_
      exact ⟨rfl, rfl⟩
     ·
      refine qB rfl (qk (gr [.d, .w, .d, .w] (r_d rfl rfl rfl (qe rfl rfl) ?_)))
      obtain ⟨r_29, hr_29, hr⟩ := bindS hr
      refine r_w rfl rfl rfl (qF _ rfl qby (.oc rfl .nil) (by exact (pf1 _ _ _)) (qbj fuel _ _ _ hr_29)) ?_
      rintro _ _ ⟨_, ⟨rfl, rfl⟩, rfl⟩
      refine r_st ((.cell b_o0 (qd r_29.2)) :: _) rfl (r_d rfl rfl rfl (qo rfl qhp rfl) (qaa rfl rfl rfl (qV _ rfl rfl rfl (Wk.refl _) (pf1 _ _ _) rfl rfl (by exact qep) rfl rfl rfl) (ql (gr [.d, .d, .d, .w, .d, .w] (r_d rfl rfl rfl (qe rfl rfl) (r_d rfl rfl rfl (qe rfl rfl) (r_d rfl rfl rfl (qiF rfl rfl rfl rfl) ?_)))))))
      obtain ⟨r_30, hr_30, hr⟩ := bindS hr
      refine r_w rfl rfl rfl (qF _ rfl qcy (.oc rfl (.oc rfl .nil)) (by exact (pf1 _ _ _)) (IHR _ _ _ _ hr_30)) ?_
      rintro _ _ ⟨_, ⟨rfl, rfl⟩, rfl⟩
      refine r_st ((.cell b_o0 (qd r_30.2)) :: _) rfl (r_d rfl rfl rfl (qo rfl qhx rfl) (qaa rfl rfl rfl (qV _ rfl rfl rfl (Wk.refl _) (pf1 _ _ _) rfl rfl (by exact qdQ) rfl rfl rfl) (ql (qac (qk (gr [.r, .w] (r_r rfl rfl rfl (qx rfl rfl (.head _) rfl rfl (by exact qQ) rfl) (qaa rfl rfl rfl (qK _ rfl rfl rfl (Wk.refl _) (pf2 _ _ _ _) (by exact qQ) rfl rfl rfl) (ql (qap 4 b4_0 rfl (pf0 _) (qar [_] _ (pf1 _ _ _) ?_)))))))))))
      obtain rfl := Option.some.inj hr
      refine q9 Tryz.func125 _ (.cons (resPtr rfl (by exact qQ) rfl (Wk.refl _)) .nil) ?_
      exact ⟨(congrArg D.agg (qh8 (T.mk r_22.1 0 r_29.1 r_30.1))).symm, rfl⟩
noncomputable def qaq (k : ((List T)) → (qg) → Option ((List T) × qg)) (rec : Int → qg → Option ((List T) × qg)) (depth_a1 : Int) (fuel : Nat) : Nat → (List T) → qg → Option ((List T) × qg)
  | 0, out_5, r_7 =>
  (k out_5 r_7)
  | rest + 1, out_5, r_7 =>
  (bif (r_7.f2_e == (0 : Int)) then
  ((qaA fuel rec depth_a1 r_7).bind fun r_12 =>
  ((appO 56 out_5 [r_12.1]).bind fun l_13 =>
  (qaq k rec depth_a1 fuel rest l_13 r_12.2)))
  else
  (k out_5 r_7))
noncomputable def qU : Nat → Int → qg → Option ((List T) × qg)
  | 0, _, _ => none
  | fuel + 1, depth_a1, c_0 =>
    (fun (rec : Int → qg → Option ((List T) × qg)) =>
      ((qi fuel 0 6 c_0).bind fun r_3 =>
      (qaq (fun out_9 r_10 =>
      some (out_9, r_10)) rec depth_a1 fuel (r_3.1 - 0 : Int).toNat [] r_3.2))) (qU fuel)
set_option maxHeartbeats 1000000 in
theorem qgS (fuel : Nat) (rec : Int → qg → Option ((List T) × qg)) (IHR : ∀ (depth_a1 : Int) (c_0 : qg) (b_o0 : Nat) (res : (List T) × qg), rec depth_a1 c_0 = some res → Spec Tryz.prog 193 [.ref b_o0 0 [], .int .i64 depth_a1] [.cell b_o0 (qd c_0)] (fun d σ => d = .lst (res.1.map encT) ∧ σ = [.cell b_o0 (qd res.2)])) (depth_a1 : Int) (c_0 : qg) (b_o0 : Nat) (res : (List T) × qg)
    (hr : ((qi fuel 0 6 c_0).bind fun r_3 =>
(qaq (fun out_9 r_10 =>
some (out_9, r_10)) rec depth_a1 fuel (r_3.1 - 0 : Int).toNat [] r_3.2)) = some res) : Spec Tryz.prog 193 [.ref b_o0 0 [], .int .i64 depth_a1] [.cell b_o0 (qd c_0)] (fun d σ => d = .lst (res.1.map encT) ∧ σ = [.cell b_o0 (qd res.2)]) := by
  refine qag [(0, .ref b_o0 0 []), (1, .int .i64 depth_a1)] Tryz.func193 rfl rfl fun K hK => (qk (gr [.w] (r_w rfl rfl rfl (qcs 114 4 (.inl rfl)) ?_)))
  rintro _ _ ⟨u4_0, rfl, rfl⟩
  refine ql (qk (gr [.w] (r_w rfl rfl rfl (qcs 114 4 (.inl rfl)) ?_)))
  rintro _ _ ⟨u5_1, rfl, rfl⟩
  refine ql (qk (gr [.d, .w, .d] (r_d rfl rfl rfl (qe rfl rfl) ?_)))
  obtain ⟨r_3, hr_3, hr⟩ := bindS hr
  refine r_w rfl rfl rfl (qF _ rfl qs (.oc rfl (.oc rfl (.oc rfl .nil))) (by exact (pf2 _ _ _ _)) (qr fuel _ _ _ _ _ hr_3)) ?_
  rintro _ _ ⟨_, ⟨rfl, rfl⟩, rfl⟩
  refine r_st ((.cell b_o0 (qd r_3.2)) :: _) rfl (r_d rfl rfl rfl (qj rfl rfl) (ql (qk (qk (gr [.d] (r_d rfl rfl rfl (qj rfl rfl) (ql ?_)))))))
  obtain ⟨kk0, hkk0, hr⟩ := exK (fun k => qaq k rec depth_a1 fuel (r_3.1 - 0 : Int).toNat [] r_3.2) hr
  refine qdU 9 rfl fun hla0 => ?_
  refine qbe (fun env σ => ∃ (out_9 : (List T)) (r_10 : qg) (u_8 : Value), env = [(5, .own u_8 (out_9.map encT))] ∧ σ = [.row u_8 out_9.length 114 4, .cell b_o0 (qd r_10)] ∧ kk0 out_9 r_10 = some res) ?_ (fun HK0 => ?_)
  ·
   rintro _ _ ⟨out_9, r_10, u_8, rfl, rfl, hr⟩
   rw [hkk0] at hr
   refine qk (gr [.d, .d] (r_d rfl rfl rfl (qe rfl rfl) (r_d rfl rfl rfl (qj rfl rfl) (ql (qar [_] _ (pf1 _ _ _) ?_)))))
   obtain rfl := Option.some.inj hr
   refine q9 Tryz.func193 _ (.cons (resTmp rfl (Wk.own _ _)) .nil) ?_
   exact ⟨rfl, rfl⟩
  ·
   refine qan [(0, .ref b_o0 0 []), (1, .int .i64 depth_a1), (6, .int .i64 r_3.1), (5, .own u5_1 ([].map encT)), (7, .int .i64 0)] (Sub.cons' rfl (Sub.cons' rfl (Sub.cons' rfl (Sub.cons' rfl (Sub.cons' rfl (Sub.nil _)))))) (qar [_, _] _ ((pf1 _ _ _).trans (pf1 _ _ _)) (qdb (fun n env σ => ∃ (out_5 : (List T)) (i_6 : Int) (r_7 : qg) (u_4 : Value) (m0 : Nat), (m0 = n) ∧ (env = [(0, .ref b_o0 0 []), (1, .int .i64 depth_a1), (6, .int .i64 r_3.1), (5, .own u_4 (out_5.map encT)), (7, .int .i64 i_6)]) ∧ (σ = [.cell b_o0 (qd r_7), .row u_4 out_5.length 114 4]) ∧ (m0 = (r_3.1 - i_6 : Int).toNat) ∧ (qaq kk0 rec depth_a1 fuel m0 out_5 r_7 = some res)) _ ⟨[], 0, r_3.2, u5_1, _, rfl, rfl, rfl, rfl, hr⟩ ?_))
   rintro n _ _ ⟨out_5, i_6, r_7, u_4, m0, rfl, rfl, rfl, hi0, hr⟩ IH0
   refine qdU 7 rfl fun hb0 => ?_
   rcases cntStep i_6 r_3.1 m0 hi0 with ⟨hm0, ht0⟩ | ⟨m0', hm0, ht0, hi0', hlt0⟩
   ·
    rw [hm0, qaq] at hr
    refine qk (qk (gr [.d, .d, .d, .d, .d, .d, .d, .r, .d, .d] (r_d rfl rfl rfl (qe rfl rfl) (r_d rfl rfl rfl (qe rfl rfl) (r_d rfl rfl rfl (qX rfl rfl rfl rfl) (r_d rfl rfl rfl (qe rfl rfl) (qdi 13 false rfl ht0 (qh rfl rfl rfl (qh rfl rfl rfl (qh rfl rfl rfl (qh rfl rfl rfl ?_)))))))))))
    refine qh rfl rfl rfl (r_d rfl rfl rfl (qG rfl rfl rfl) (ql (qB rfl (qbC rfl (qan [(5, .own u_4 (out_5.map encT))] (Sub.cons' rfl (Sub.nil _)) (qar [_, _] _ ((pf0 _).trans (pf1 _ _ _)) ?_))))))
    exact HK0 _ _ ⟨out_5, r_7, u_4, rfl, rfl, hr⟩
   ·
    rw [hm0, qaq] at hr
    refine qk (qk (gr [.d, .d, .d, .d, .d, .d, .d, .r, .d, .d] (r_d rfl rfl rfl (qe rfl rfl) (r_d rfl rfl rfl (qe rfl rfl) (r_d rfl rfl rfl (qX rfl rfl rfl rfl) (r_d rfl rfl rfl (qe rfl rfl) (qdi 13 true rfl ht0 (r_d rfl rfl rfl (qe rfl rfl) (r_d rfl rfl rfl (qv rfl rfl) (r_d rfl rfl rfl (qo rfl qH rfl) (r_r rfl rfl rfl (qx rfl rfl (.head _) rfl rfl (by exact qaj) rfl) ?_)))))))))))
    refine r_d rfl rfl rfl (qX rfl rfl rfl rfl) (r_d rfl rfl rfl (qP rfl rfl rfl) (ql ?_))
    refine g_sB 19 rfl hr (fun h19_10 hr => ?_) (fun h19_10 hr => ?_)
    ·
     refine qC rfl (qab (qk (qbi (gr [.d, .d, .d, .w, .d, .w, .d] (r_d rfl rfl rfl (qe rfl rfl) (r_d rfl rfl rfl (qe rfl rfl) (r_d rfl rfl rfl (qe rfl rfl) ?_)))))))
     obtain ⟨r_12, hr_12, hr⟩ := bindS hr
     refine r_w rfl rfl rfl (qF _ rfl qfw (.oc rfl (.oc rfl .nil)) (by exact (pf0 _)) (qeZ fuel rec IHR _ _ _ _ hr_12)) ?_
     rintro _ _ ⟨_, ⟨rfl, rfl⟩, rfl⟩
     refine r_st ((.cell b_o0 (qd r_12.2)) :: _) rfl (r_d rfl rfl rfl (qg3 (f := encT) [.tmp 25] [r_12.1] rfl qfh rfl rfl (by decide) (by decide) (.oc rfl .nil) qee (fun _ => rfl)) ?_)
     obtain ⟨l_13, hl_13, hr⟩ := bindS hr
     refine r_w rfl rfl rfl (qdF (f := encT) out_5 [r_12.1] rfl qfh rfl rfl (asl rfl) (pf1 _ _ _) rfl qee hl_13) ?_
     rintro _ _ ⟨u27_13, rfl, rfl⟩
     refine r_d rfl rfl rfl (qj rfl rfl) (ql (qac (gr [.d, .d, .d] (r_d rfl rfl rfl (qe rfl rfl) (r_d rfl rfl rfl (s_ar (r := i_6 + 1) rfl rfl rfl rfl (by omega)) (r_d rfl rfl rfl (qj rfl rfl) (ql (qan [(0, .ref b_o0 0 []), (1, .int .i64 depth_a1), (6, .int .i64 r_3.1), (5, .own u27_13 (l_13.map encT)), (7, .int .i64 (i_6 + 1))] (Sub.cons' rfl (Sub.cons' rfl (Sub.cons' rfl (Sub.cons' rfl (Sub.cons' rfl (Sub.nil _)))))) (qar [_, _] _ ((pf0 _).trans (pf1 _ _ _)) ?_)))))))))
     exact IH0 _ _ _ (by omega) ⟨l_13, (i_6 + 1), r_12.2, u27_13, _, rfl, rfl, rfl, hi0', hr⟩
    ·
     refine qB rfl (qbC rfl (qan [(5, .own u_4 (out_5.map encT))] (Sub.cons' rfl (Sub.nil _)) (qar [_, _] _ ((pf0 _).trans (pf1 _ _ _)) ?_)))
     exact HK0 _ _ ⟨out_5, r_7, u_4, rfl, rfl, hr⟩
theorem qc6 : ∀ (fuel : Nat) (depth_a1 : Int) (c_0 : qg) (b_o0 : Nat) (res : (List T) × qg), qU fuel depth_a1 c_0 = some res → Spec Tryz.prog 193 [.ref b_o0 0 [], .int .i64 depth_a1] [.cell b_o0 (qd c_0)] (fun d σ => d = .lst (res.1.map encT) ∧ σ = [.cell b_o0 (qd res.2)])
  | 0, _, _, _, _, h => by cases h
  | fuel + 1, depth_a1, c_0, b_o0, res, h => qgS fuel (qU fuel) (qc6 fuel) depth_a1 c_0 b_o0 res h
noncomputable def qda (fuel : Nat) (depth_a1 : Int) (c_0 : qg) : Option (T × qg) := qaA fuel (qU fuel) depth_a1 c_0
theorem qhk (fuel : Nat) (depth_a1 : Int) (c_0 : qg) (b_o0 : Nat) (res : T × qg) (hr : qda fuel depth_a1 c_0 = some res) : Spec Tryz.prog 125 [.ref b_o0 0 [], .int .i64 depth_a1] [.cell b_o0 (qd c_0)] (fun d σ => d = encT res.1 ∧ σ = [.cell b_o0 (qd res.2)]) := qeZ fuel (qU fuel) (qc6 fuel) depth_a1 c_0 b_o0 res hr
noncomputable def qat (fuel : Nat) (c_0 : qg) : Option (At × qg) :=
  ((qI fuel c_0).bind fun r_2 =>
  ((qU fuel 1 r_2.2).bind fun r_4 =>
  (bif r_4.2.f3_bad then
  some ((⟨r_2.1, r_4.1⟩ : At), (⟨r_4.2.f0_b, r_4.2.f1_at, r_4.2.f2_e, true⟩ : qg))
  else
  ((qll (⟨r_2.1, r_4.1⟩ : At)).bind fun r_6 =>
  some ((⟨r_2.1, r_4.1⟩ : At), (⟨r_4.2.f0_b, r_4.2.f1_at, r_4.2.f2_e, (!r_6)⟩ : qg))))))
set_option maxHeartbeats 1000000 in
theorem qdT (fuel : Nat) (c_0 : qg) (b_o0 : Nat) (res : At × qg) (hr : qat fuel c_0 = some res) : Spec Tryz.prog 124 [.ref b_o0 0 []] [.cell b_o0 (qd c_0)] (fun d σ => d = encA res.1 ∧ σ = [.cell b_o0 (qd res.2)]) := by
  unfold qat at hr
  refine qag [(0, .ref b_o0 0 [])] Tryz.func124 rfl rfl fun K hK => (qk (gr [.w] (r_w rfl rfl rfl (qau rfl qjt) ?_)))
  rintro _ _ ⟨b2_0, rfl, rfl⟩
  refine ql (qk (gr [.d, .w, .d, .w, .w] (r_d rfl rfl rfl (qe rfl rfl) ?_)))
  obtain ⟨r_2, hr_2, hr⟩ := bindS hr
  refine r_w rfl rfl rfl (qF _ rfl qby (.oc rfl .nil) (by exact (pf1 _ _ _)) (qbj fuel _ _ _ hr_2)) ?_
  rintro _ _ ⟨_, ⟨rfl, rfl⟩, rfl⟩
  refine r_st ((.cell b_o0 (qd r_2.2)) :: _) rfl (r_d rfl rfl rfl (qbT rfl qkJ (.oc rfl .nil) (.cons rfl rfl rfl (.nil _))) (r_w rfl rfl rfl (qau rfl qjt) ?_))
  rintro _ _ ⟨b3_2, rfl, rfl⟩
  refine qaa rfl rfl rfl (qK _ rfl rfl rfl (Wk.refl _) (pf0 _) (by exact qbN) rfl rfl rfl) (ql (qk (gr [.d, .w, .d, .w] (r_d rfl rfl rfl (qe rfl rfl) ?_))))
  obtain ⟨r_4, hr_4, hr⟩ := bindS hr
  refine r_w rfl rfl rfl (qF _ rfl qcy (.oc rfl (.oc rfl .nil)) (by exact (pf1 _ _ _)) (qc6 fuel _ _ _ _ hr_4)) ?_
  rintro _ _ ⟨_, ⟨rfl, rfl⟩, rfl⟩
  refine r_st ((.cell b_o0 (qd r_4.2)) :: _) rfl (r_d rfl rfl rfl (qo rfl qj6 rfl) (qaa rfl rfl rfl (qV _ rfl rfl rfl (Wk.refl _) (pf1 _ _ _) rfl rfl (by exact qdQ) rfl rfl rfl) (ql (qk (gr [.d, .d, .d, .d, .r, .d, .r, .d, .d, .d, .d, .d, .w] (r_d rfl rfl rfl (qe rfl rfl) (r_d rfl rfl rfl (qe rfl rfl) (r_d rfl rfl rfl (qv rfl rfl) (r_d rfl rfl rfl (qo rfl qa6 rfl) (r_r rfl rfl rfl (qx rfl rfl (.tail _ (.head _)) rfl rfl (by exact qbm) rfl) (r_d rfl rfl rfl (qe rfl rfl) ?_)))))))))))
  refine r_sB 15 rfl hr (fun h15_4 hr => ?_) (fun h15_4 hr => ?_)
  ·
   refine qh rfl rfl rfl (qh rfl rfl rfl (qh rfl rfl rfl (r_d rfl rfl rfl (qP rfl rfl rfl) (r_d rfl rfl rfl (qv rfl rfl) (r_d rfl rfl rfl (qo rfl qa6 rfl) (qaa rfl rfl rfl (qV _ rfl rfl rfl (Wk.refl _) (pf1 _ _ _) rfl rfl (by exact qbm) rfl rfl rfl) (ql (qk (gr [.r, .w] (r_r rfl rfl rfl (qx rfl rfl (.tail _ (.head _)) rfl rfl (by exact qbN) rfl) (qaa rfl rfl rfl (qK _ rfl rfl rfl (Wk.refl _) (pf2 _ _ _ _) (by exact qbN) rfl rfl rfl) ?_)))))))))))
   refine ql (qap 2 b2_0 rfl (pf0 _) (qar [_] _ (pf0 _) ?_))
   obtain rfl := Option.some.inj hr
   refine q9 Tryz.func124 _ (.cons (resPtr rfl (by exact qbN) rfl (Wk.refl _)) .nil) ?_
   exact ⟨rfl, rfl⟩
  ·
   refine r_r rfl rfl rfl (qx rfl rfl (.head _) rfl rfl (by exact qbN) rfl) ?_
   obtain ⟨r_6, hr_6, hr⟩ := bindS hr
   refine r_d rfl rfl rfl (qal rfl qit (.oc rfl .nil) (qig _ _ hr_6)) (r_d rfl rfl rfl (qfZ rfl rfl) (r_d rfl rfl rfl (qG rfl rfl rfl) (r_d rfl rfl rfl (qv rfl rfl) (r_d rfl rfl rfl (qo rfl qa6 rfl) (qaa rfl rfl rfl (qV _ rfl rfl rfl (Wk.refl _) (pf1 _ _ _) rfl rfl (by exact qbm) rfl rfl rfl) (ql (qk (gr [.r, .w] (r_r rfl rfl rfl (qx rfl rfl (.tail _ (.head _)) rfl rfl (by exact qbN) rfl) (qaa rfl rfl rfl (qK _ rfl rfl rfl (Wk.refl _) (pf2 _ _ _ _) (by exact qbN) rfl rfl rfl) (ql ?_)))))))))))
   refine qap 2 b2_0 rfl (pf0 _) (qar [_] _ (pf0 _) ?_)
   obtain rfl := Option.some.inj hr
   refine q9 Tryz.func124 _ (.cons (resPtr rfl (by exact qbN) rfl (Wk.refl _)) .nil) ?_
   exact ⟨rfl, rfl⟩
noncomputable def qaD (k : ((List At)) → (qg) → Option ((List At) × qg)) (fuel : Nat) : Nat → (List At) → qg → Option ((List At) × qg)
  | 0, out_5, r_7 =>
  (k out_5 r_7)
  | rest + 1, out_5, r_7 =>
  (bif (r_7.f2_e == (0 : Int)) then
  ((qat fuel r_7).bind fun r_12 =>
  ((appO 40 out_5 [r_12.1]).bind fun l_13 =>
  (qaD k fuel rest l_13 r_12.2)))
  else
  (k out_5 r_7))
noncomputable def qaO (fuel : Nat) (c_0 : qg) : Option ((List At) × qg) :=
  ((qi fuel 0 4 c_0).bind fun r_3 =>
  (qaD (fun out_9 r_10 =>
  some (out_9, r_10)) fuel (r_3.1 - 0 : Int).toNat [] r_3.2))
set_option maxHeartbeats 1000000 in
theorem qe7 (fuel : Nat) (c_0 : qg) (b_o0 : Nat) (res : (List At) × qg) (hr : qaO fuel c_0 = some res) : Spec Tryz.prog 120 [.ref b_o0 0 []] [.cell b_o0 (qd c_0)] (fun d σ => d = .lst (res.1.map encA) ∧ σ = [.cell b_o0 (qd res.2)]) := by
  unfold qaO at hr
  refine qag [(0, .ref b_o0 0 [])] Tryz.func120 rfl rfl fun K hK => (qk (gr [.w] (r_w rfl rfl rfl (qcs 107 2 (.inl rfl)) ?_)))
  rintro _ _ ⟨u2_0, rfl, rfl⟩
  refine ql (qk (gr [.w] (r_w rfl rfl rfl (qcs 107 2 (.inl rfl)) ?_)))
  rintro _ _ ⟨u3_1, rfl, rfl⟩
  refine ql (qk (gr [.d, .w, .d] (r_d rfl rfl rfl (qe rfl rfl) ?_)))
  obtain ⟨r_3, hr_3, hr⟩ := bindS hr
  refine r_w rfl rfl rfl (qF _ rfl qs (.oc rfl (.oc rfl (.oc rfl .nil))) (by exact (pf2 _ _ _ _)) (qr fuel _ _ _ _ _ hr_3)) ?_
  rintro _ _ ⟨_, ⟨rfl, rfl⟩, rfl⟩
  refine r_st ((.cell b_o0 (qd r_3.2)) :: _) rfl (r_d rfl rfl rfl (qj rfl rfl) (ql (qk (qk (gr [.d] (r_d rfl rfl rfl (qj rfl rfl) (ql ?_)))))))
  obtain ⟨kk0, hkk0, hr⟩ := exK (fun k => qaD k fuel (r_3.1 - 0 : Int).toNat [] r_3.2) hr
  refine qdU 7 rfl fun hla0 => ?_
  refine qbe (fun env σ => ∃ (out_9 : (List At)) (r_10 : qg) (u_8 : Value), env = [(3, .own u_8 (out_9.map encA))] ∧ σ = [.row u_8 out_9.length 107 2, .cell b_o0 (qd r_10)] ∧ kk0 out_9 r_10 = some res) ?_ (fun HK0 => ?_)
  ·
   rintro _ _ ⟨out_9, r_10, u_8, rfl, rfl, hr⟩
   rw [hkk0] at hr
   refine qk (gr [.d, .d] (r_d rfl rfl rfl (qe rfl rfl) (r_d rfl rfl rfl (qj rfl rfl) (ql (qar [_] _ (pf1 _ _ _) ?_)))))
   obtain rfl := Option.some.inj hr
   refine q9 Tryz.func120 _ (.cons (resTmp rfl (Wk.own _ _)) .nil) ?_
   exact ⟨rfl, rfl⟩
  ·
   refine qan [(0, .ref b_o0 0 []), (4, .int .i64 r_3.1), (3, .own u3_1 ([].map encA)), (5, .int .i64 0)] (Sub.cons' rfl (Sub.cons' rfl (Sub.cons' rfl (Sub.cons' rfl (Sub.nil _))))) (qar [_, _] _ ((pf1 _ _ _).trans (pf1 _ _ _)) (qdb (fun n env σ => ∃ (out_5 : (List At)) (i_6 : Int) (r_7 : qg) (u_4 : Value) (m0 : Nat), (m0 = n) ∧ (env = [(0, .ref b_o0 0 []), (4, .int .i64 r_3.1), (3, .own u_4 (out_5.map encA)), (5, .int .i64 i_6)]) ∧ (σ = [.cell b_o0 (qd r_7), .row u_4 out_5.length 107 2]) ∧ (m0 = (r_3.1 - i_6 : Int).toNat) ∧ (qaD kk0 fuel m0 out_5 r_7 = some res)) _ ⟨[], 0, r_3.2, u3_1, _, rfl, rfl, rfl, rfl, hr⟩ ?_))
   rintro n _ _ ⟨out_5, i_6, r_7, u_4, m0, rfl, rfl, rfl, hi0, hr⟩ IH0
   refine qdU 5 rfl fun hb0 => ?_
   rcases cntStep i_6 r_3.1 m0 hi0 with ⟨hm0, ht0⟩ | ⟨m0', hm0, ht0, hi0', hlt0⟩
   ·
    rw [hm0, qaD] at hr
    refine qk (qk (gr [.d, .d, .d, .d, .d, .d, .d, .r, .d, .d] (r_d rfl rfl rfl (qe rfl rfl) (r_d rfl rfl rfl (qe rfl rfl) (r_d rfl rfl rfl (qX rfl rfl rfl rfl) (r_d rfl rfl rfl (qe rfl rfl) (qdi 11 false rfl ht0 (qh rfl rfl rfl (qh rfl rfl rfl (qh rfl rfl rfl (qh rfl rfl rfl ?_)))))))))))
    refine qh rfl rfl rfl (r_d rfl rfl rfl (qG rfl rfl rfl) (ql (qB rfl (qbC rfl (qan [(3, .own u_4 (out_5.map encA))] (Sub.cons' rfl (Sub.nil _)) (qar [_, _] _ ((pf0 _).trans (pf1 _ _ _)) ?_))))))
    exact HK0 _ _ ⟨out_5, r_7, u_4, rfl, rfl, hr⟩
   ·
    rw [hm0, qaD] at hr
    refine qk (qk (gr [.d, .d, .d, .d, .d, .d, .d, .r, .d, .d] (r_d rfl rfl rfl (qe rfl rfl) (r_d rfl rfl rfl (qe rfl rfl) (r_d rfl rfl rfl (qX rfl rfl rfl rfl) (r_d rfl rfl rfl (qe rfl rfl) (qdi 11 true rfl ht0 (r_d rfl rfl rfl (qe rfl rfl) (r_d rfl rfl rfl (qv rfl rfl) (r_d rfl rfl rfl (qo rfl qH rfl) (r_r rfl rfl rfl (qx rfl rfl (.head _) rfl rfl (by exact qaj) rfl) ?_)))))))))))
    refine r_d rfl rfl rfl (qX rfl rfl rfl rfl) (r_d rfl rfl rfl (qP rfl rfl rfl) (ql ?_))
    refine g_sB 17 rfl hr (fun h17_10 hr => ?_) (fun h17_10 hr => ?_)
    ·
     refine qC rfl (qab (qk (qbi (gr [.d, .d, .w, .d, .w, .d] (r_d rfl rfl rfl (qe rfl rfl) (r_d rfl rfl rfl (qe rfl rfl) ?_))))))
     obtain ⟨r_12, hr_12, hr⟩ := bindS hr
     refine r_w rfl rfl rfl (qF _ rfl qec (.oc rfl .nil) (by exact (pf0 _)) (qdT fuel _ _ _ hr_12)) ?_
     rintro _ _ ⟨_, ⟨rfl, rfl⟩, rfl⟩
     refine r_st ((.cell b_o0 (qd r_12.2)) :: _) rfl (r_d rfl rfl rfl (qg3 (f := encA) [.tmp 22] [r_12.1] rfl qdg rfl rfl (by decide) (by decide) (.oc rfl .nil) qbA (fun _ => rfl)) ?_)
     obtain ⟨l_13, hl_13, hr⟩ := bindS hr
     refine r_w rfl rfl rfl (qdF (f := encA) out_5 [r_12.1] rfl qdg rfl rfl (asl rfl) (pf1 _ _ _) rfl qbA hl_13) ?_
     rintro _ _ ⟨u24_13, rfl, rfl⟩
     refine r_d rfl rfl rfl (qj rfl rfl) (ql (qac (gr [.d, .d, .d] (r_d rfl rfl rfl (qe rfl rfl) (r_d rfl rfl rfl (s_ar (r := i_6 + 1) rfl rfl rfl rfl (by omega)) (r_d rfl rfl rfl (qj rfl rfl) (ql (qan [(0, .ref b_o0 0 []), (4, .int .i64 r_3.1), (3, .own u24_13 (l_13.map encA)), (5, .int .i64 (i_6 + 1))] (Sub.cons' rfl (Sub.cons' rfl (Sub.cons' rfl (Sub.cons' rfl (Sub.nil _))))) (qar [_, _] _ ((pf0 _).trans (pf1 _ _ _)) ?_)))))))))
     exact IH0 _ _ _ (by omega) ⟨l_13, (i_6 + 1), r_12.2, u24_13, _, rfl, rfl, rfl, hi0', hr⟩
    ·
     refine qB rfl (qbC rfl (qan [(3, .own u_4 (out_5.map encA))] (Sub.cons' rfl (Sub.nil _)) (qar [_, _] _ ((pf0 _).trans (pf1 _ _ _)) ?_)))
     exact HK0 _ _ ⟨out_5, r_7, u_4, rfl, rfl, hr⟩
noncomputable def qbk (fuel : Nat) (c_0 : qg) : Option (Gl × qg) :=
  ((qi fuel 0 12 c_0).bind fun r_2 =>
  ((qI fuel r_2.2).bind fun r_4 =>
  ((qU fuel 1 r_4.2).bind fun r_5 =>
  (bif r_5.2.f3_bad then
  some ((⟨r_2.1, r_4.1, r_5.1⟩ : Gl), (⟨r_5.2.f0_b, r_5.2.f1_at, r_5.2.f2_e, true⟩ : qg))
  else
  ((qlo (⟨r_2.1, r_4.1, r_5.1⟩ : Gl)).bind fun r_7 =>
  some ((⟨r_2.1, r_4.1, r_5.1⟩ : Gl), (⟨r_5.2.f0_b, r_5.2.f1_at, r_5.2.f2_e, (!r_7)⟩ : qg)))))))
set_option maxHeartbeats 1000000 in
theorem qfe (fuel : Nat) (c_0 : qg) (b_o0 : Nat) (res : Gl × qg) (hr : qbk fuel c_0 = some res) : Spec Tryz.prog 192 [.ref b_o0 0 []] [.cell b_o0 (qd c_0)] (fun d σ => d = encG res.1 ∧ σ = [.cell b_o0 (qd res.2)]) := by
  unfold qbk at hr
  refine qag [(0, .ref b_o0 0 [])] Tryz.func192 rfl rfl fun K hK => (qk (gr [.w] (r_w rfl rfl rfl (qau rfl qj1) ?_)))
  rintro _ _ ⟨b2_0, rfl, rfl⟩
  refine ql (qk (gr [.d, .w, .d, .w, .w] (r_d rfl rfl rfl (qe rfl rfl) ?_)))
  obtain ⟨r_2, hr_2, hr⟩ := bindS hr
  refine r_w rfl rfl rfl (qF _ rfl qs (.oc rfl (.oc rfl (.oc rfl .nil))) (by exact (pf1 _ _ _)) (qr fuel _ _ _ _ _ hr_2)) ?_
  rintro _ _ ⟨_, ⟨rfl, rfl⟩, rfl⟩
  refine r_st ((.cell b_o0 (qd r_2.2)) :: _) rfl (r_d rfl rfl rfl (qbT rfl qju (.oc rfl .nil) (.cons rfl rfl rfl (.nil _))) (r_w rfl rfl rfl (qau rfl qj1) ?_))
  rintro _ _ ⟨b3_2, rfl, rfl⟩
  refine qaa rfl rfl rfl (qK _ rfl rfl rfl (Wk.refl _) (pf0 _) (by exact qcq) rfl rfl rfl) (ql (qk (gr [.d, .w, .d, .w] (r_d rfl rfl rfl (qe rfl rfl) ?_))))
  obtain ⟨r_4, hr_4, hr⟩ := bindS hr
  refine r_w rfl rfl rfl (qF _ rfl qby (.oc rfl .nil) (by exact (pf1 _ _ _)) (qbj fuel _ _ _ hr_4)) ?_
  rintro _ _ ⟨_, ⟨rfl, rfl⟩, rfl⟩
  refine r_st ((.cell b_o0 (qd r_4.2)) :: _) rfl (r_d rfl rfl rfl (qo rfl qis rfl) (qaa rfl rfl rfl (qV _ rfl rfl rfl (Wk.refl _) (pf1 _ _ _) rfl rfl (by exact qep) rfl rfl rfl) (ql (qk (gr [.d, .w, .d, .w] (r_d rfl rfl rfl (qe rfl rfl) ?_))))))
  obtain ⟨r_5, hr_5, hr⟩ := bindS hr
  refine r_w rfl rfl rfl (qF _ rfl qcy (.oc rfl (.oc rfl .nil)) (by exact (pf1 _ _ _)) (qc6 fuel _ _ _ _ hr_5)) ?_
  rintro _ _ ⟨_, ⟨rfl, rfl⟩, rfl⟩
  refine r_st ((.cell b_o0 (qd r_5.2)) :: _) rfl (r_d rfl rfl rfl (qo rfl qic rfl) (qaa rfl rfl rfl (qV _ rfl rfl rfl (Wk.refl _) (pf1 _ _ _) rfl rfl (by exact qdQ) rfl rfl rfl) (ql (qk (gr [.d, .d, .d, .d, .r, .d, .r, .d, .d, .d, .d, .d, .w] (r_d rfl rfl rfl (qe rfl rfl) (r_d rfl rfl rfl (qe rfl rfl) (r_d rfl rfl rfl (qv rfl rfl) (r_d rfl rfl rfl (qo rfl qa6 rfl) (r_r rfl rfl rfl (qx rfl rfl (.tail _ (.head _)) rfl rfl (by exact qbm) rfl) (r_d rfl rfl rfl (qe rfl rfl) ?_)))))))))))
  refine r_sB 18 rfl hr (fun h18_5 hr => ?_) (fun h18_5 hr => ?_)
  ·
   refine qh rfl rfl rfl (qh rfl rfl rfl (qh rfl rfl rfl (r_d rfl rfl rfl (qP rfl rfl rfl) (r_d rfl rfl rfl (qv rfl rfl) (r_d rfl rfl rfl (qo rfl qa6 rfl) (qaa rfl rfl rfl (qV _ rfl rfl rfl (Wk.refl _) (pf1 _ _ _) rfl rfl (by exact qbm) rfl rfl rfl) (ql (qk (gr [.r, .w] (r_r rfl rfl rfl (qx rfl rfl (.tail _ (.head _)) rfl rfl (by exact qcq) rfl) (qaa rfl rfl rfl (qK _ rfl rfl rfl (Wk.refl _) (pf2 _ _ _ _) (by exact qcq) rfl rfl rfl) ?_)))))))))))
   refine ql (qap 2 b2_0 rfl (pf0 _) (qar [_] _ (pf0 _) ?_))
   obtain rfl := Option.some.inj hr
   refine q9 Tryz.func192 _ (.cons (resPtr rfl (by exact qcq) rfl (Wk.refl _)) .nil) ?_
   exact ⟨rfl, rfl⟩
  ·
   refine r_r rfl rfl rfl (qx rfl rfl (.head _) rfl rfl (by exact qcq) rfl) ?_
   obtain ⟨r_7, hr_7, hr⟩ := bindS hr
   refine r_d rfl rfl rfl (qal rfl qih (.oc rfl .nil) (qif _ _ hr_7)) (r_d rfl rfl rfl (qfZ rfl rfl) (r_d rfl rfl rfl (qG rfl rfl rfl) (r_d rfl rfl rfl (qv rfl rfl) (r_d rfl rfl rfl (qo rfl qa6 rfl) (qaa rfl rfl rfl (qV _ rfl rfl rfl (Wk.refl _) (pf1 _ _ _) rfl rfl (by exact qbm) rfl rfl rfl) (ql (qk (gr [.r, .w] (r_r rfl rfl rfl (qx rfl rfl (.tail _ (.head _)) rfl rfl (by exact qcq) rfl) (qaa rfl rfl rfl (qK _ rfl rfl rfl (Wk.refl _) (pf2 _ _ _ _) (by exact qcq) rfl rfl rfl) (ql ?_)))))))))))
   refine qap 2 b2_0 rfl (pf0 _) (qar [_] _ (pf0 _) ?_)
   obtain rfl := Option.some.inj hr
   refine q9 Tryz.func192 _ (.cons (resPtr rfl (by exact qcq) rfl (Wk.refl _)) .nil) ?_
   exact ⟨rfl, rfl⟩
noncomputable def qaB (k : ((List Gl)) → (qg) → Option ((List Gl) × qg)) (fuel : Nat) : Nat → (List Gl) → qg → Option ((List Gl) × qg)
  | 0, out_5, r_7 =>
  (k out_5 r_7)
  | rest + 1, out_5, r_7 =>
  (bif (r_7.f2_e == (0 : Int)) then
  ((qbk fuel r_7).bind fun r_12 =>
  ((appO 48 out_5 [r_12.1]).bind fun l_13 =>
  (qaB k fuel rest l_13 r_12.2)))
  else
  (k out_5 r_7))
noncomputable def qaQ (fuel : Nat) (c_0 : qg) : Option ((List Gl) × qg) :=
  ((qi fuel 0 12 c_0).bind fun r_3 =>
  (qaB (fun out_9 r_10 =>
  some (out_9, r_10)) fuel (r_3.1 - 0 : Int).toNat [] r_3.2))
set_option maxHeartbeats 1000000 in
theorem qe2 (fuel : Nat) (c_0 : qg) (b_o0 : Nat) (res : (List Gl) × qg) (hr : qaQ fuel c_0 = some res) : Spec Tryz.prog 121 [.ref b_o0 0 []] [.cell b_o0 (qd c_0)] (fun d σ => d = .lst (res.1.map encG) ∧ σ = [.cell b_o0 (qd res.2)]) := by
  unfold qaQ at hr
  refine qag [(0, .ref b_o0 0 [])] Tryz.func121 rfl rfl fun K hK => (qk (gr [.w] (r_w rfl rfl rfl (qcs 73 3 (.inl rfl)) ?_)))
  rintro _ _ ⟨u2_0, rfl, rfl⟩
  refine ql (qk (gr [.w] (r_w rfl rfl rfl (qcs 73 3 (.inl rfl)) ?_)))
  rintro _ _ ⟨u3_1, rfl, rfl⟩
  refine ql (qk (gr [.d, .w, .d] (r_d rfl rfl rfl (qe rfl rfl) ?_)))
  obtain ⟨r_3, hr_3, hr⟩ := bindS hr
  refine r_w rfl rfl rfl (qF _ rfl qs (.oc rfl (.oc rfl (.oc rfl .nil))) (by exact (pf2 _ _ _ _)) (qr fuel _ _ _ _ _ hr_3)) ?_
  rintro _ _ ⟨_, ⟨rfl, rfl⟩, rfl⟩
  refine r_st ((.cell b_o0 (qd r_3.2)) :: _) rfl (r_d rfl rfl rfl (qj rfl rfl) (ql (qk (qk (gr [.d] (r_d rfl rfl rfl (qj rfl rfl) (ql ?_)))))))
  obtain ⟨kk0, hkk0, hr⟩ := exK (fun k => qaB k fuel (r_3.1 - 0 : Int).toNat [] r_3.2) hr
  refine qdU 7 rfl fun hla0 => ?_
  refine qbe (fun env σ => ∃ (out_9 : (List Gl)) (r_10 : qg) (u_8 : Value), env = [(3, .own u_8 (out_9.map encG))] ∧ σ = [.row u_8 out_9.length 73 3, .cell b_o0 (qd r_10)] ∧ kk0 out_9 r_10 = some res) ?_ (fun HK0 => ?_)
  ·
   rintro _ _ ⟨out_9, r_10, u_8, rfl, rfl, hr⟩
   rw [hkk0] at hr
   refine qk (gr [.d, .d] (r_d rfl rfl rfl (qe rfl rfl) (r_d rfl rfl rfl (qj rfl rfl) (ql (qar [_] _ (pf1 _ _ _) ?_)))))
   obtain rfl := Option.some.inj hr
   refine q9 Tryz.func121 _ (.cons (resTmp rfl (Wk.own _ _)) .nil) ?_
   exact ⟨rfl, rfl⟩
  ·
   refine qan [(0, .ref b_o0 0 []), (4, .int .i64 r_3.1), (3, .own u3_1 ([].map encG)), (5, .int .i64 0)] (Sub.cons' rfl (Sub.cons' rfl (Sub.cons' rfl (Sub.cons' rfl (Sub.nil _))))) (qar [_, _] _ ((pf1 _ _ _).trans (pf1 _ _ _)) (qdb (fun n env σ => ∃ (out_5 : (List Gl)) (i_6 : Int) (r_7 : qg) (u_4 : Value) (m0 : Nat), (m0 = n) ∧ (env = [(0, .ref b_o0 0 []), (4, .int .i64 r_3.1), (3, .own u_4 (out_5.map encG)), (5, .int .i64 i_6)]) ∧ (σ = [.cell b_o0 (qd r_7), .row u_4 out_5.length 73 3]) ∧ (m0 = (r_3.1 - i_6 : Int).toNat) ∧ (qaB kk0 fuel m0 out_5 r_7 = some res)) _ ⟨[], 0, r_3.2, u3_1, _, rfl, rfl, rfl, rfl, hr⟩ ?_))
   rintro n _ _ ⟨out_5, i_6, r_7, u_4, m0, rfl, rfl, rfl, hi0, hr⟩ IH0
   refine qdU 5 rfl fun hb0 => ?_
   rcases cntStep i_6 r_3.1 m0 hi0 with ⟨hm0, ht0⟩ | ⟨m0', hm0, ht0, hi0', hlt0⟩
   ·
    rw [hm0, qaB] at hr
    refine qk (qk (gr [.d, .d, .d, .d, .d, .d, .d, .r, .d, .d] (r_d rfl rfl rfl (qe rfl rfl) (r_d rfl rfl rfl (qe rfl rfl) (r_d rfl rfl rfl (qX rfl rfl rfl rfl) (r_d rfl rfl rfl (qe rfl rfl) (qdi 11 false rfl ht0 (qh rfl rfl rfl (qh rfl rfl rfl (qh rfl rfl rfl (qh rfl rfl rfl ?_)))))))))))
    refine qh rfl rfl rfl (r_d rfl rfl rfl (qG rfl rfl rfl) (ql (qB rfl (qbC rfl (qan [(3, .own u_4 (out_5.map encG))] (Sub.cons' rfl (Sub.nil _)) (qar [_, _] _ ((pf0 _).trans (pf1 _ _ _)) ?_))))))
    exact HK0 _ _ ⟨out_5, r_7, u_4, rfl, rfl, hr⟩
   ·
    rw [hm0, qaB] at hr
    refine qk (qk (gr [.d, .d, .d, .d, .d, .d, .d, .r, .d, .d] (r_d rfl rfl rfl (qe rfl rfl) (r_d rfl rfl rfl (qe rfl rfl) (r_d rfl rfl rfl (qX rfl rfl rfl rfl) (r_d rfl rfl rfl (qe rfl rfl) (qdi 11 true rfl ht0 (r_d rfl rfl rfl (qe rfl rfl) (r_d rfl rfl rfl (qv rfl rfl) (r_d rfl rfl rfl (qo rfl qH rfl) (r_r rfl rfl rfl (qx rfl rfl (.head _) rfl rfl (by exact qaj) rfl) ?_)))))))))))
    refine r_d rfl rfl rfl (qX rfl rfl rfl rfl) (r_d rfl rfl rfl (qP rfl rfl rfl) (ql ?_))
    refine g_sB 17 rfl hr (fun h17_10 hr => ?_) (fun h17_10 hr => ?_)
    ·
     refine qC rfl (qab (qk (qbi (gr [.d, .d, .w, .d, .w, .d] (r_d rfl rfl rfl (qe rfl rfl) (r_d rfl rfl rfl (qe rfl rfl) ?_))))))
     obtain ⟨r_12, hr_12, hr⟩ := bindS hr
     refine r_w rfl rfl rfl (qF _ rfl qfy (.oc rfl .nil) (by exact (pf0 _)) (qfe fuel _ _ _ hr_12)) ?_
     rintro _ _ ⟨_, ⟨rfl, rfl⟩, rfl⟩
     refine r_st ((.cell b_o0 (qd r_12.2)) :: _) rfl (r_d rfl rfl rfl (qg3 (f := encG) [.tmp 22] [r_12.1] rfl qde rfl rfl (by decide) (by decide) (.oc rfl .nil) qbh (fun _ => rfl)) ?_)
     obtain ⟨l_13, hl_13, hr⟩ := bindS hr
     refine r_w rfl rfl rfl (qdF (f := encG) out_5 [r_12.1] rfl qde rfl rfl (asl rfl) (pf1 _ _ _) rfl qbh hl_13) ?_
     rintro _ _ ⟨u24_13, rfl, rfl⟩
     refine r_d rfl rfl rfl (qj rfl rfl) (ql (qac (gr [.d, .d, .d] (r_d rfl rfl rfl (qe rfl rfl) (r_d rfl rfl rfl (s_ar (r := i_6 + 1) rfl rfl rfl rfl (by omega)) (r_d rfl rfl rfl (qj rfl rfl) (ql (qan [(0, .ref b_o0 0 []), (4, .int .i64 r_3.1), (3, .own u24_13 (l_13.map encG)), (5, .int .i64 (i_6 + 1))] (Sub.cons' rfl (Sub.cons' rfl (Sub.cons' rfl (Sub.cons' rfl (Sub.nil _))))) (qar [_, _] _ ((pf0 _).trans (pf1 _ _ _)) ?_)))))))))
     exact IH0 _ _ _ (by omega) ⟨l_13, (i_6 + 1), r_12.2, u24_13, _, rfl, rfl, rfl, hi0', hr⟩
    ·
     refine qB rfl (qbC rfl (qan [(3, .own u_4 (out_5.map encG))] (Sub.cons' rfl (Sub.nil _)) (qar [_, _] _ ((pf0 _).trans (pf1 _ _ _)) ?_)))
     exact HK0 _ _ ⟨out_5, r_7, u_4, rfl, rfl, hr⟩
noncomputable def qaw (c_0 : qg) : Option (Int) :=
  (bif (c_0.f2_e != (0 : Int)) then
  some (c_0.f2_e)
  else
  (bif (decide (c_0.f1_at < (c_0.f0_b.length : Int))) then
  some (3)
  else
  (bif c_0.f3_bad then
  some (2)
  else
  some (0))))
set_option maxHeartbeats 1000000 in
theorem qdW (c_0 : qg) (b_o0 : Nat) (res : Int) (hr : qaw c_0 = some res) : Spec Tryz.prog 122 [.ref b_o0 0 []] [.cell b_o0 (qd c_0)] (fun d σ => d = .int .i64 res ∧ σ = [.cell b_o0 (qd c_0)]) := by
  unfold qaw at hr
  refine qag [(0, .ref b_o0 0 [])] Tryz.func122 rfl rfl fun K hK => (qk (gr [.d] (r_d rfl rfl rfl (qj rfl rfl) (ql (qk (qbi (qk (gr [.d, .d, .d, .r, .d, .d] (r_d rfl rfl rfl (qe rfl rfl) (r_d rfl rfl rfl (qv rfl rfl) (r_d rfl rfl rfl (qo rfl qH rfl) ?_)))))))))))
  refine r_r rfl rfl rfl (qx rfl rfl (.head _) rfl rfl (by exact qaj) rfl) (r_d rfl rfl rfl (qX rfl rfl rfl rfl) (r_d rfl rfl rfl (qj rfl rfl) (ql ?_)))
  refine g_sB 3 rfl hr (fun h3_0 hr => ?_) (fun h3_0 hr => ?_)
  ·
   refine qC rfl (qk (gr [.d, .d, .d, .r, .d] (r_d rfl rfl rfl (qe rfl rfl) (r_d rfl rfl rfl (qv rfl rfl) (r_d rfl rfl rfl (qo rfl qH rfl) (r_r rfl rfl rfl (qx rfl rfl (.head _) rfl rfl (by exact qaj) rfl) (r_d rfl rfl rfl (qj rfl rfl) (ql ?_))))))))
   obtain rfl := Option.some.inj hr
   refine q9 Tryz.func122 _ (.cons (resTmp rfl (Wk.refl _)) .nil) ?_
   exact ⟨rfl, rfl⟩
  ·
   refine qB rfl (qk (ga [(0, .d), (1, .d), (2, .d), (3, .r), (4, .d), (5, .d), (6, .d), (7, .r), (8, .d), (9, .d), (10, .d)] (r_d rfl rfl rfl (qe rfl rfl) (r_d rfl rfl rfl (qv rfl rfl) (r_d rfl rfl rfl (qo rfl qb0 rfl) (r_r rfl rfl rfl (qx rfl rfl (.head _) rfl rfl (by exact qaF) rfl) (r_d rfl rfl rfl (qe rfl rfl) (r_d rfl rfl rfl (qv rfl rfl) (r_d rfl rfl rfl (qo rfl qd6 rfl) (r_r rfl rfl rfl (qx rfl rfl (.head _) rfl rfl (by exact qc5) rfl) (r_d rfl rfl rfl (qbP (f := (D.int .u8)) c_0.f0_b rfl qb9 rfl (asl rfl)) ?_)))))))))))
   refine r_d rfl rfl rfl (qX rfl rfl rfl rfl) (r_d rfl rfl rfl (qj rfl rfl) (ql ?_))
   refine g_sB 13 rfl hr (fun h13_1 hr => ?_) (fun h13_1 hr => ?_)
   ·
    refine qC rfl (qk (gr [.d] (r_d rfl rfl rfl (qj rfl rfl) (ql ?_))))
    obtain rfl := Option.some.inj hr
    refine q9 Tryz.func122 _ (.cons (resTmp rfl (Wk.refl _)) .nil) ?_
    exact ⟨rfl, rfl⟩
   ·
    refine qB rfl (qk (gr [.d, .d, .d, .r, .d] (r_d rfl rfl rfl (qe rfl rfl) (r_d rfl rfl rfl (qv rfl rfl) (r_d rfl rfl rfl (qo rfl qa6 rfl) (r_r rfl rfl rfl (qx rfl rfl (.head _) rfl rfl (by exact qbm) rfl) (r_d rfl rfl rfl (qj rfl rfl) (ql ?_))))))))
    refine g_sB 24 rfl hr (fun h24_2 hr => ?_) (fun h24_2 hr => ?_)
    ·
     refine qC rfl (qk (gr [.d] (r_d rfl rfl rfl (qj rfl rfl) (ql ?_))))
     obtain rfl := Option.some.inj hr
     refine q9 Tryz.func122 _ (.cons (resTmp rfl (Wk.refl _)) .nil) ?_
     exact ⟨rfl, rfl⟩
    ·
     refine qB rfl (qab (qac (qk (gr [.d] (r_d rfl rfl rfl (qj rfl rfl) (ql ?_))))))
     obtain rfl := Option.some.inj hr
     refine q9 Tryz.func122 _ (.cons (resTmp rfl (Wk.refl _)) .nil) ?_
     exact ⟨rfl, rfl⟩
noncomputable def qa3 (k : (qg) → ((List S_api_Decl)) → ((List qak)) → Option (qad × Int)) (fuel : Nat) : Nat → qg → (List S_api_Decl) → (List qak) → Option (qad × Int)
  | 0, r_21, p_22, p_23 =>
  (k r_21 p_22 p_23)
  | rest + 1, r_21, p_22, p_23 =>
  (bif (r_21.f2_e == (0 : Int)) then
  ((qI fuel r_21).bind fun r_32 =>
  ((qaO fuel r_32.2).bind fun r_34 =>
  ((qaO fuel r_34.2).bind fun r_35 =>
  ((qaQ fuel r_35.2).bind fun r_36 =>
  ((qaQ fuel r_36.2).bind fun r_37 =>
  ((qi fuel 0 1048576 r_37.2).bind fun r_38 =>
  ((appO 120 p_23 [(⟨r_32.1, r_34.1, r_35.1, r_36.1, r_37.1, r_38.1⟩ : qak)]).bind fun l_39 =>
  (qa3 k fuel rest r_38.2 p_22 l_39))))))))
  else
  (k r_21 p_22 p_23))
noncomputable def qa4 (k : (qg) → ((List S_api_Decl)) → ((List qak)) → Option (qad × Int)) (fuel : Nat) : Nat → qg → (List S_api_Decl) → (List qak) → Option (qad × Int)
  | 0, t14_9, p_10, p_11 =>
  (k t14_9 p_10 p_11)
  | rest + 1, t14_9, p_10, p_11 =>
  (bif (t14_9.f2_e == (0 : Int)) then
  ((qI fuel t14_9).bind fun r_42 =>
  ((qi fuel 0 6 r_42.2).bind fun r_44 =>
  ((appO 24 p_10 [(⟨r_42.1, r_44.1⟩ : S_api_Decl)]).bind fun l_45 =>
  (qa4 k fuel rest r_44.2 l_45 p_11))))
  else
  (k t14_9 p_10 p_11))
noncomputable def qb7 (fuel : Nat) (b_a0 : (List Int)) : Option (qad × Int) :=
  ((qi fuel 1 1 (⟨b_a0, 0, 0, false⟩ : qg)).bind fun r_3 =>
  ((qi fuel 0 30 r_3.2).bind fun r_5 =>
  (qa4 (fun t14_12 p_15 p_16 =>
  ((qi fuel 0 40 t14_12).bind fun r_17 =>
  (qa3 (fun r_24 p_27 p_28 =>
  ((qaw r_24).bind fun r_29 =>
  (bif (r_29 != (0 : Int)) then
  some ((⟨[], []⟩ : qad), r_29)
  else
  some ((⟨p_27, p_28⟩ : qad), 0)))) fuel (r_17.1 - 0 : Int).toNat r_17.2 p_15 p_16))) fuel (r_5.1 - 0 : Int).toNat r_5.2 [] [])))
set_option maxHeartbeats 1000000 in
theorem qhQ (fuel : Nat) (b_a0 : (List Int)) (res : qad × Int) (hr : qb7 fuel b_a0 = some res) : Gives Tryz.prog 29 [.lst (b_a0.map (D.int .u8))] (.tup [qS res.1, .int .i64 res.2]) := by
  unfold qb7 at hr
  refine qag [(0, .lst (b_a0.map (D.int .u8)))] Tryz.func29 rfl rfl fun K hK => (qk (gr [.w, .d] (r_w rfl rfl rfl (qau rfl qdI) ?_)))
  rintro _ _ ⟨b2_0, rfl, rfl⟩
  refine r_d rfl rfl rfl (qj rfl rfl) (ql (qk (gr [.d, .d, .w, .d] (r_d rfl rfl rfl (qe rfl rfl) (r_d rfl rfl rfl (qbT rfl qfk (.oc rfl .nil) (.cons rfl rfl rfl (.nil _))) (r_w rfl rfl rfl (qid rfl rfl rfl) ?_))))))
  rintro _ _ ⟨b14_1, rfl, rfl⟩
  refine r_d rfl rfl rfl (qj rfl rfl) (ql (qk (gr [.d, .w] (r_d rfl rfl rfl (qe rfl rfl) ?_))))
  obtain ⟨r_3, hr_3, hr⟩ := bindS hr
  refine r_w rfl rfl rfl (qF _ rfl qs (.oc rfl (.oc rfl (.oc rfl .nil))) (by exact (pf0 _)) (qr fuel _ _ _ _ _ hr_3)) ?_
  rintro _ _ ⟨_, ⟨rfl, rfl⟩, rfl⟩
  refine r_st ((.cell b14_1 (qd r_3.2)) :: _) rfl (ql (qk (qjx 29 2 (qjx 68 6 (gr [.w] (r_w rfl rfl rfl (qau rfl (ZeroV.agg qlb)) ?_))))))
  rintro _ _ ⟨b5_3, rfl, rfl⟩
  refine ql (qk (gr [.d, .w, .d] (r_d rfl rfl rfl (qe rfl rfl) ?_)))
  obtain ⟨r_5, hr_5, hr⟩ := bindS hr
  refine r_w rfl rfl rfl (qF _ rfl qs (.oc rfl (.oc rfl (.oc rfl .nil))) (by exact (pf3 _ _ _ _ _)) (qr fuel _ _ _ _ _ hr_5)) ?_
  rintro _ _ ⟨_, ⟨rfl, rfl⟩, rfl⟩
  refine r_st ((.cell b14_1 (qd r_5.2)) :: _) rfl (r_d rfl rfl rfl (qj rfl rfl) (ql (qk (qk (gr [.d] (r_d rfl rfl rfl (qj rfl rfl) (ql ?_)))))))
  obtain ⟨kk0, hkk0, hr⟩ := exK (fun k => qa4 k fuel (r_5.1 - 0 : Int).toNat r_5.2 [] []) hr
  refine qdU 18 rfl fun hla0 => ?_
  refine qbe (fun env σ => ∃ (t14_12 : qg) (p_15 : (List S_api_Decl)) (p_16 : (List qak)) (u_13 : Value) (u_14 : Value), env = [(2, .ref b2_0 0 []), (4, .ref b14_1 0 []), (5, .ref b5_3 0 [])] ∧ σ = [.cell b2_0 (.agg [.lst ([].map qW), .lst ([].map qT)]), .cell b14_1 (qd t14_12), .cell b5_3 (.agg [.own u_13 (p_15.map qW), .own u_14 (p_16.map qT)]), .row u_13 p_15.length 29 2, .row u_14 p_16.length 68 6] ∧ kk0 t14_12 p_15 p_16 = some res) ?_ (fun HK0 => ?_)
  ·
   rintro _ _ ⟨t14_12, p_15, p_16, u_13, u_14, rfl, rfl, hr⟩
   rw [hkk0] at hr
   refine qk (gr [.d, .w, .d] (r_d rfl rfl rfl (qe rfl rfl) ?_))
   obtain ⟨r_17, hr_17, hr⟩ := bindS hr
   refine r_w rfl rfl rfl (qF _ rfl qs (.oc rfl (.oc rfl (.oc rfl .nil))) (by exact (pf1 _ _ _)) (qr fuel _ _ _ _ _ hr_17)) ?_
   rintro _ _ ⟨_, ⟨rfl, rfl⟩, rfl⟩
   refine r_st ((.cell b14_1 (qd r_17.2)) :: _) rfl (r_d rfl rfl rfl (qj rfl rfl) (ql (qk (qk (gr [.d] (r_d rfl rfl rfl (qj rfl rfl) (ql ?_)))))))
   obtain ⟨kk1, hkk1, hr⟩ := exK (fun k => qa3 k fuel (r_17.1 - 0 : Int).toNat r_17.2 p_15 p_16) hr
   refine qdU 44 rfl fun hla1 => ?_
   refine qbe (fun env σ => ∃ (r_24 : qg) (p_27 : (List S_api_Decl)) (p_28 : (List qak)) (u_25 : Value) (u_26 : Value), env = [(2, .ref b2_0 0 []), (4, .ref b14_1 0 []), (5, .ref b5_3 0 [])] ∧ σ = [.cell b2_0 (.agg [.lst ([].map qW), .lst ([].map qT)]), .cell b14_1 (qd r_24), .cell b5_3 (.agg [.own u_25 (p_27.map qW), .own u_26 (p_28.map qT)]), .row u_25 p_27.length 29 2, .row u_26 p_28.length 68 6] ∧ kk1 r_24 p_27 p_28 = some res) ?_ (fun HK1 => ?_)
   ·
    rintro _ _ ⟨r_24, p_27, p_28, u_25, u_26, rfl, rfl, hr⟩
    rw [hkk1] at hr
    refine qk (gr [.d, .w, .d] (r_d rfl rfl rfl (qe rfl rfl) ?_))
    obtain ⟨r_29, hr_29, hr⟩ := bindS hr
    refine r_w rfl rfl rfl (qF _ rfl qeo (.oc rfl .nil) (by exact (pf1 _ _ _)) (qdW _ _ _ hr_29)) ?_
    rintro _ _ ⟨_, ⟨rfl, rfl⟩, rfl⟩
    refine r_st ((.cell b14_1 (qd r_24)) :: _) rfl (r_d rfl rfl rfl (qj rfl rfl) (ql (qk (qk (gr [.d, .d] (r_d rfl rfl rfl (qe rfl rfl) (r_d rfl rfl rfl (qX rfl rfl rfl rfl) (ql ?_))))))))
    refine g_sB 84 rfl hr (fun h84_29 hr => ?_) (fun h84_29 hr => ?_)
    ·
     refine qC rfl (qk (gr [.d, .d, .w, .d] (r_d rfl rfl rfl (qbT rfl qjd .nil (.nil _)) (r_d rfl rfl rfl (qe rfl rfl) (qaa rfl rfl rfl (qK _ rfl rfl rfl (Wk.refl _) (pf1 _ _ _) (by exact qaK) rfl rfl rfl) (r_d rfl rfl rfl (qj rfl rfl) (ql ?_)))))))
     obtain rfl := Option.some.inj hr
     refine q9 Tryz.func29 _ (.cons (resRef rfl (.head _) (by exact qaK) rfl (Wk.refl _)) (.cons (resTmp rfl (Wk.refl _)) .nil)) ?_
     rfl
    ·
     refine qB rfl (qab (qk (gr [.r, .w, .d] (r_r rfl rfl rfl (qx rfl rfl (.tail _ (.tail _ (.head _))) rfl rfl (by exact qaK) rfl) (qaa rfl rfl rfl (qK _ rfl rfl rfl (Wk.refl _) (pf1 _ _ _) (by exact qaK) rfl rfl rfl) (r_d rfl rfl rfl (qj rfl rfl) (ql ?_)))))))
     obtain rfl := Option.some.inj hr
     refine q9 Tryz.func29 _ (.cons (resRef rfl (.head _) (by exact qaK) rfl (Wk.agg (.cons (Wk.own _ _) (.cons (Wk.own _ _) .nil)))) (.cons (resTmp rfl (Wk.refl _)) .nil)) ?_
     rfl
   ·
    refine qan [(2, .ref b2_0 0 []), (4, .ref b14_1 0 []), (5, .ref b5_3 0 []), (6, .int .i64 r_17.1), (9, .int .i64 0)] (Sub.cons' rfl (Sub.cons' rfl (Sub.cons' rfl (Sub.cons' rfl (Sub.cons' rfl (Sub.nil _)))))) (qar [_, _, _, _, _] _ (((((pf4 _ _ _ _ _ _).trans (pf4 _ _ _ _ _ _)).trans (pf4 _ _ _ _ _ _)).trans (pf3 _ _ _ _ _)).trans (pf4 _ _ _ _ _ _)) (qdb (fun n env σ => ∃ (i_20 : Int) (r_21 : qg) (p_22 : (List S_api_Decl)) (p_23 : (List qak)) (u_18 : Value) (u_19 : Value) (m1 : Nat), (m1 = n) ∧ (env = [(2, .ref b2_0 0 []), (4, .ref b14_1 0 []), (5, .ref b5_3 0 []), (6, .int .i64 r_17.1), (9, .int .i64 i_20)]) ∧ (σ = [.cell b2_0 (.agg [.lst ([].map qW), .lst ([].map qT)]), .cell b14_1 (qd r_21), .cell b5_3 (.agg [.own u_18 (p_22.map qW), .own u_19 (p_23.map qT)]), .row u_18 p_22.length 29 2, .row u_19 p_23.length 68 6]) ∧ (m1 = (r_17.1 - i_20 : Int).toNat) ∧ (qa3 kk1 fuel m1 r_21 p_22 p_23 = some res)) _ ⟨0, r_17.2, p_15, p_16, u_13, u_14, _, rfl, rfl, rfl, rfl, hr⟩ ?_))
    rintro n _ _ ⟨i_20, r_21, p_22, p_23, u_18, u_19, m1, rfl, rfl, rfl, hi1, hr⟩ IH1
    refine qdU 9 rfl fun hb1 => ?_
    rcases cntStep i_20 r_17.1 m1 hi1 with ⟨hm1, ht1⟩ | ⟨m1', hm1, ht1, hi1', hlt1⟩
    ·
     rw [hm1, qa3] at hr
     refine qk (qk (gr [.d, .d, .d, .d, .d, .d, .d, .r, .d, .d] (r_d rfl rfl rfl (qe rfl rfl) (r_d rfl rfl rfl (qe rfl rfl) (r_d rfl rfl rfl (qX rfl rfl rfl rfl) (r_d rfl rfl rfl (qe rfl rfl) (qdi 48 false rfl ht1 (qh rfl rfl rfl (qh rfl rfl rfl (qh rfl rfl rfl (qh rfl rfl rfl ?_)))))))))))
     refine qh rfl rfl rfl (r_d rfl rfl rfl (qG rfl rfl rfl) (ql (qB rfl (qbC rfl (qan [(2, .ref b2_0 0 []), (4, .ref b14_1 0 []), (5, .ref b5_3 0 [])] (Sub.cons' rfl (Sub.cons' rfl (Sub.cons' rfl (Sub.nil _)))) ?_)))))
     exact HK1 _ _ ⟨r_21, p_22, p_23, u_18, u_19, rfl, rfl, hr⟩
    ·
     rw [hm1, qa3] at hr
     refine qk (qk (gr [.d, .d, .d, .d, .d, .d, .d, .r, .d, .d] (r_d rfl rfl rfl (qe rfl rfl) (r_d rfl rfl rfl (qe rfl rfl) (r_d rfl rfl rfl (qX rfl rfl rfl rfl) (r_d rfl rfl rfl (qe rfl rfl) (qdi 48 true rfl ht1 (r_d rfl rfl rfl (qe rfl rfl) (r_d rfl rfl rfl (qv rfl rfl) (r_d rfl rfl rfl (qo rfl qH rfl) (r_r rfl rfl rfl (qx rfl rfl (.tail _ (.head _)) rfl rfl (by exact qaj) rfl) ?_)))))))))))
     refine r_d rfl rfl rfl (qX rfl rfl rfl rfl) (r_d rfl rfl rfl (qP rfl rfl rfl) (ql ?_))
     refine g_sB 54 rfl hr (fun h54_30 hr => ?_) (fun h54_30 hr => ?_)
     ·
      refine qC rfl (qab (qk (qbi (qk (gr [.d, .w, .d, .w, .w] (r_d rfl rfl rfl (qe rfl rfl) ?_))))))
      obtain ⟨r_32, hr_32, hr⟩ := bindS hr
      refine r_w rfl rfl rfl (qF _ rfl qby (.oc rfl .nil) (by exact (pf1 _ _ _)) (qbj fuel _ _ _ hr_32)) ?_
      rintro _ _ ⟨_, ⟨rfl, rfl⟩, rfl⟩
      refine r_st ((.cell b14_1 (qd r_32.2)) :: _) rfl (r_d rfl rfl rfl (qbT rfl qmH (.oc rfl .nil) (.cons rfl rfl rfl (.nil _))) (r_w rfl rfl rfl (qau rfl qk2) ?_))
      rintro _ _ ⟨b10_32, rfl, rfl⟩
      refine qaa rfl rfl rfl (qK _ rfl rfl rfl (Wk.refl _) (pf0 _) (by exact qfj) rfl rfl rfl) (ql (qk (gr [.d, .w, .d, .w] (r_d rfl rfl rfl (qe rfl rfl) ?_))))
      obtain ⟨r_34, hr_34, hr⟩ := bindS hr
      refine r_w rfl rfl rfl (qF _ rfl qfp (.oc rfl .nil) (by exact (pf1 _ _ _)) (qe7 fuel _ _ _ hr_34)) ?_
      rintro _ _ ⟨_, ⟨rfl, rfl⟩, rfl⟩
      refine r_st ((.cell b14_1 (qd r_34.2)) :: _) rfl (r_d rfl rfl rfl (qo rfl qhB rfl) (qaa rfl rfl rfl (qV _ rfl rfl rfl (Wk.refl _) (pf1 _ _ _) rfl rfl (by exact qei) rfl rfl rfl) (ql (qk (gr [.d, .w, .d, .w] (r_d rfl rfl rfl (qe rfl rfl) ?_))))))
      obtain ⟨r_35, hr_35, hr⟩ := bindS hr
      refine r_w rfl rfl rfl (qF _ rfl qfp (.oc rfl .nil) (by exact (pf1 _ _ _)) (qe7 fuel _ _ _ hr_35)) ?_
      rintro _ _ ⟨_, ⟨rfl, rfl⟩, rfl⟩
      refine r_st ((.cell b14_1 (qd r_35.2)) :: _) rfl (r_d rfl rfl rfl (qo rfl qhq rfl) (qaa rfl rfl rfl (qV _ rfl rfl rfl (Wk.refl _) (pf1 _ _ _) rfl rfl (by exact qei) rfl rfl rfl) (ql (qk (gr [.d, .w, .d, .w] (r_d rfl rfl rfl (qe rfl rfl) ?_))))))
      obtain ⟨r_36, hr_36, hr⟩ := bindS hr
      refine r_w rfl rfl rfl (qF _ rfl qfm (.oc rfl .nil) (by exact (pf1 _ _ _)) (qe2 fuel _ _ _ hr_36)) ?_
      rintro _ _ ⟨_, ⟨rfl, rfl⟩, rfl⟩
      refine r_st ((.cell b14_1 (qd r_36.2)) :: _) rfl (r_d rfl rfl rfl (qo rfl qhs rfl) (qaa rfl rfl rfl (qV _ rfl rfl rfl (Wk.refl _) (pf1 _ _ _) rfl rfl (by exact qeh) rfl rfl rfl) (ql (qk (gr [.d, .w, .d, .w] (r_d rfl rfl rfl (qe rfl rfl) ?_))))))
      obtain ⟨r_37, hr_37, hr⟩ := bindS hr
      refine r_w rfl rfl rfl (qF _ rfl qfm (.oc rfl .nil) (by exact (pf1 _ _ _)) (qe2 fuel _ _ _ hr_37)) ?_
      rintro _ _ ⟨_, ⟨rfl, rfl⟩, rfl⟩
      refine r_st ((.cell b14_1 (qd r_37.2)) :: _) rfl (r_d rfl rfl rfl (qo rfl qhv rfl) (qaa rfl rfl rfl (qV _ rfl rfl rfl (Wk.refl _) (pf1 _ _ _) rfl rfl (by exact qeh) rfl rfl rfl) (ql (qk (gr [.d, .w, .d, .w] (r_d rfl rfl rfl (qe rfl rfl) ?_))))))
      obtain ⟨r_38, hr_38, hr⟩ := bindS hr
      refine r_w rfl rfl rfl (qF _ rfl qs (.oc rfl (.oc rfl (.oc rfl .nil))) (by exact (pf1 _ _ _)) (qr fuel _ _ _ _ _ hr_38)) ?_
      rintro _ _ ⟨_, ⟨rfl, rfl⟩, rfl⟩
      refine r_st ((.cell b14_1 (qd r_38.2)) :: _) rfl (r_d rfl rfl rfl (qo rfl qhu rfl) (qaa rfl rfl rfl (qV _ rfl rfl rfl (Wk.refl _) (pf1 _ _ _) rfl rfl (by exact qaF) rfl rfl rfl) (ql (gr [.d, .r, .r, .d, .w, .d, .w] (r_d rfl rfl rfl (qo rfl qdr rfl) (r_r rfl rfl rfl (qx rfl rfl (.tail _ (.tail _ (.tail _ (.head _)))) rfl rfl (by exact qej) rfl) (r_r rfl rfl rfl (qx rfl rfl (.head _) rfl rfl (by exact qfj) rfl) (r_d rfl rfl rfl (qg3 (f := qT) [.tmp 77] [(⟨r_32.1, r_34.1, r_35.1, r_36.1, r_37.1, r_38.1⟩ : qak)] rfl qdu rfl rfl (by decide) (by decide) (.oc rfl .nil) qdL (fun _ => rfl)) ?_))))))))
      obtain ⟨l_39, hl_39, hr⟩ := bindS hr
      refine r_w rfl rfl rfl (qdF (f := qT) p_23 [(⟨r_32.1, r_34.1, r_35.1, r_36.1, r_37.1, r_38.1⟩ : qak)] rfl qdu rfl rfl (asl rfl) (pf5 _ _ _ _ _ _ _) rfl qdL hl_39) ?_
      rintro _ _ ⟨u79_39, rfl, rfl⟩
      refine r_d rfl rfl rfl (qo rfl qdr rfl) (qaa rfl rfl rfl (qV _ rfl rfl rfl (Wk.refl _) (pf4 _ _ _ _ _ _) rfl rfl (by exact qej) rfl rfl rfl) (ql (qac (gr [.d, .d, .d] (r_d rfl rfl rfl (qe rfl rfl) (r_d rfl rfl rfl (s_ar (r := i_20 + 1) rfl rfl rfl rfl (by omega)) (r_d rfl rfl rfl (qj rfl rfl) (ql (qan [(2, .ref b2_0 0 []), (4, .ref b14_1 0 []), (5, .ref b5_3 0 []), (6, .int .i64 r_17.1), (9, .int .i64 (i_20 + 1))] (Sub.cons' rfl (Sub.cons' rfl (Sub.cons' rfl (Sub.cons' rfl (Sub.cons' rfl (Sub.nil _)))))) (qar [_, _, _, _, _] _ (((((pf1 _ _ _).trans (pf5 _ _ _ _ _ _ _)).trans (pf2 _ _ _ _)).trans (pf4 _ _ _ _ _ _)).trans (pf5 _ _ _ _ _ _ _)) ?_))))))))))
      exact IH1 _ _ _ (by omega) ⟨(i_20 + 1), r_38.2, p_22, l_39, u_18, u79_39, _, rfl, rfl, rfl, hi1', hr⟩
     ·
      refine qB rfl (qbC rfl (qan [(2, .ref b2_0 0 []), (4, .ref b14_1 0 []), (5, .ref b5_3 0 [])] (Sub.cons' rfl (Sub.cons' rfl (Sub.cons' rfl (Sub.nil _)))) ?_))
      exact HK1 _ _ ⟨r_21, p_22, p_23, u_18, u_19, rfl, rfl, hr⟩
  ·
   refine qan [(2, .ref b2_0 0 []), (4, .ref b14_1 0 []), (5, .ref b5_3 0 []), (6, .int .i64 r_5.1), (7, .int .i64 0)] (Sub.cons' rfl (Sub.cons' rfl (Sub.cons' rfl (Sub.cons' rfl (Sub.cons' rfl (Sub.nil _)))))) (qar [_, _, _, _, _] _ (((((pf2 _ _ _ _).trans (pf3 _ _ _ _ _)).trans (pf3 _ _ _ _ _)).trans (pf3 _ _ _ _ _)).trans (pf4 _ _ _ _ _ _)) (qdb (fun n env σ => ∃ (i_8 : Int) (t14_9 : qg) (p_10 : (List S_api_Decl)) (p_11 : (List qak)) (u_6 : Value) (u_7 : Value) (m0 : Nat), (m0 = n) ∧ (env = [(2, .ref b2_0 0 []), (4, .ref b14_1 0 []), (5, .ref b5_3 0 []), (6, .int .i64 r_5.1), (7, .int .i64 i_8)]) ∧ (σ = [.cell b2_0 (.agg [.lst ([].map qW), .lst ([].map qT)]), .cell b14_1 (qd t14_9), .cell b5_3 (.agg [.own u_6 (p_10.map qW), .own u_7 (p_11.map qT)]), .row u_6 p_10.length 29 2, .row u_7 p_11.length 68 6]) ∧ (m0 = (r_5.1 - i_8 : Int).toNat) ∧ (qa4 kk0 fuel m0 t14_9 p_10 p_11 = some res)) _ ⟨0, r_5.2, [], [], (.slice none 0 0 ), (.slice none 0 0  ), _, rfl, rfl, rfl, rfl, hr⟩ ?_))
   rintro n _ _ ⟨i_8, t14_9, p_10, p_11, u_6, u_7, m0, rfl, rfl, rfl, hi0, hr⟩ IH0
   refine qdU 7 rfl fun hb0 => ?_
   rcases cntStep i_8 r_5.1 m0 hi0 with ⟨hm0, ht0⟩ | ⟨m0', hm0, ht0, hi0', hlt0⟩
   ·
    rw [hm0, qa4] at hr
    refine qk (qk (gr [.d, .d, .d, .d, .d, .d, .d, .r, .d, .d] (r_d rfl rfl rfl (qe rfl rfl) (r_d rfl rfl rfl (qe rfl rfl) (r_d rfl rfl rfl (qX rfl rfl rfl rfl) (r_d rfl rfl rfl (qe rfl rfl) (qdi 22 false rfl ht0 (qh rfl rfl rfl (qh rfl rfl rfl (qh rfl rfl rfl (qh rfl rfl rfl ?_)))))))))))
    refine qh rfl rfl rfl (r_d rfl rfl rfl (qG rfl rfl rfl) (ql (qB rfl (qbC rfl (qan [(2, .ref b2_0 0 []), (4, .ref b14_1 0 []), (5, .ref b5_3 0 [])] (Sub.cons' rfl (Sub.cons' rfl (Sub.cons' rfl (Sub.nil _)))) ?_)))))
    exact HK0 _ _ ⟨t14_9, p_10, p_11, u_6, u_7, rfl, rfl, hr⟩
   ·
    rw [hm0, qa4] at hr
    refine qk (qk (gr [.d, .d, .d, .d, .d, .d, .d, .r, .d, .d] (r_d rfl rfl rfl (qe rfl rfl) (r_d rfl rfl rfl (qe rfl rfl) (r_d rfl rfl rfl (qX rfl rfl rfl rfl) (r_d rfl rfl rfl (qe rfl rfl) (qdi 22 true rfl ht0 (r_d rfl rfl rfl (qe rfl rfl) (r_d rfl rfl rfl (qv rfl rfl) (r_d rfl rfl rfl (qo rfl qH rfl) (r_r rfl rfl rfl (qx rfl rfl (.tail _ (.head _)) rfl rfl (by exact qaj) rfl) ?_)))))))))))
    refine r_d rfl rfl rfl (qX rfl rfl rfl rfl) (r_d rfl rfl rfl (qP rfl rfl rfl) (ql ?_))
    refine g_sB 28 rfl hr (fun h28_40 hr => ?_) (fun h28_40 hr => ?_)
    ·
     refine qC rfl (qab (qk (qbi (qk (gr [.d, .w, .d, .w, .w] (r_d rfl rfl rfl (qe rfl rfl) ?_))))))
     obtain ⟨r_42, hr_42, hr⟩ := bindS hr
     refine r_w rfl rfl rfl (qF _ rfl qby (.oc rfl .nil) (by exact (pf1 _ _ _)) (qbj fuel _ _ _ hr_42)) ?_
     rintro _ _ ⟨_, ⟨rfl, rfl⟩, rfl⟩
     refine r_st ((.cell b14_1 (qd r_42.2)) :: _) rfl (r_d rfl rfl rfl (qbT rfl qjY (.oc rfl .nil) (.cons rfl rfl rfl (.nil _))) (r_w rfl rfl rfl (qau rfl qkZ) ?_))
     rintro _ _ ⟨b8_42, rfl, rfl⟩
     refine qaa rfl rfl rfl (qK _ rfl rfl rfl (Wk.refl _) (pf0 _) (by exact qfK) rfl rfl rfl) (ql (qk (gr [.d, .w, .d, .w] (r_d rfl rfl rfl (qe rfl rfl) ?_))))
     obtain ⟨r_44, hr_44, hr⟩ := bindS hr
     refine r_w rfl rfl rfl (qF _ rfl qs (.oc rfl (.oc rfl (.oc rfl .nil))) (by exact (pf1 _ _ _)) (qr fuel _ _ _ _ _ hr_44)) ?_
     rintro _ _ ⟨_, ⟨rfl, rfl⟩, rfl⟩
     refine r_st ((.cell b14_1 (qd r_44.2)) :: _) rfl (r_d rfl rfl rfl (qo rfl qle rfl) (qaa rfl rfl rfl (qV _ rfl rfl rfl (Wk.refl _) (pf1 _ _ _) rfl rfl (by exact qaF) rfl rfl rfl) (ql (gr [.d, .r, .r, .d, .w, .d, .w] (r_d rfl rfl rfl (qo rfl qcS rfl) (r_r rfl rfl rfl (qx rfl rfl (.tail _ (.tail _ (.tail _ (.head _)))) rfl rfl (by exact qdP) rfl) (r_r rfl rfl rfl (qx rfl rfl (.head _) rfl rfl (by exact qfK) rfl) (r_d rfl rfl rfl (qg3 (f := qW) [.tmp 39] [(⟨r_42.1, r_44.1⟩ : S_api_Decl)] rfl qcQ rfl rfl (by decide) (by decide) (.oc rfl .nil) qdf (fun _ => rfl)) ?_))))))))
     obtain ⟨l_45, hl_45, hr⟩ := bindS hr
     refine r_w rfl rfl rfl (qdF (f := qW) p_10 [(⟨r_42.1, r_44.1⟩ : S_api_Decl)] rfl qcQ rfl rfl (asl rfl) (pf4 _ _ _ _ _ _) rfl qdf hl_45) ?_
     rintro _ _ ⟨u41_45, rfl, rfl⟩
     refine r_d rfl rfl rfl (qo rfl qcS rfl) (qaa rfl rfl rfl (qV _ rfl rfl rfl (Wk.refl _) (pf4 _ _ _ _ _ _) rfl rfl (by exact qdP) rfl rfl rfl) (ql (qac (gr [.d, .d, .d] (r_d rfl rfl rfl (qe rfl rfl) (r_d rfl rfl rfl (s_ar (r := i_8 + 1) rfl rfl rfl rfl (by omega)) (r_d rfl rfl rfl (qj rfl rfl) (ql (qan [(2, .ref b2_0 0 []), (4, .ref b14_1 0 []), (5, .ref b5_3 0 []), (6, .int .i64 r_5.1), (7, .int .i64 (i_8 + 1))] (Sub.cons' rfl (Sub.cons' rfl (Sub.cons' rfl (Sub.cons' rfl (Sub.cons' rfl (Sub.nil _)))))) (qar [_, _, _, _, _] _ (((((pf5 _ _ _ _ _ _ _).trans (pf2 _ _ _ _)).trans (pf2 _ _ _ _)).trans (pf4 _ _ _ _ _ _)).trans (pf5 _ _ _ _ _ _ _)) ?_))))))))))
     exact IH0 _ _ _ (by omega) ⟨(i_8 + 1), r_44.2, l_45, p_11, u41_45, u_7, _, rfl, rfl, rfl, hi0', hr⟩
    ·
     refine qB rfl (qbC rfl (qan [(2, .ref b2_0 0 []), (4, .ref b14_1 0 []), (5, .ref b5_3 0 [])] (Sub.cons' rfl (Sub.cons' rfl (Sub.cons' rfl (Sub.nil _)))) ?_))
     exact HK0 _ _ ⟨t14_9, p_10, p_11, u_6, u_7, rfl, rfl, hr⟩
noncomputable def qaP (fuel : Nat) (c_0 : qg) : Option (qL × qg) :=
  ((qi fuel 0 2147483648 c_0).bind fun r_2 =>
  ((qi fuel (-1) 2147483648 r_2.2).bind fun r_4 =>
  (bif (r_2.1 == (0 : Int)) then
  (bif (r_4.2.f2_e == (0 : Int)) then
  ((qbk fuel r_4.2).bind fun r_7 =>
  some ((⟨r_7.1, r_2.1, r_4.1⟩ : qL), r_7.2))
  else
  some ((⟨(⟨0, ⟨#[]⟩, []⟩ : Gl), r_2.1, r_4.1⟩ : qL), r_4.2))
  else
  some ((⟨(⟨0, ⟨#[]⟩, []⟩ : Gl), r_2.1, r_4.1⟩ : qL), r_4.2))))
set_option maxHeartbeats 1000000 in
theorem qeX (fuel : Nat) (c_0 : qg) (b_o0 : Nat) (res : qL × qg) (hr : qaP fuel c_0 = some res) : Spec Tryz.prog 123 [.ref b_o0 0 []] [.cell b_o0 (qd c_0)] (fun d σ => d = qz res.1 ∧ σ = [.cell b_o0 (qd res.2)]) := by
  unfold qaP at hr
  refine qag [(0, .ref b_o0 0 [])] Tryz.func123 rfl rfl fun K hK => (qk (gr [.w] (r_w rfl rfl rfl (qau rfl qi7) ?_)))
  rintro _ _ ⟨b2_0, rfl, rfl⟩
  refine ql (qk (gr [.d, .w, .d, .w, .w] (r_d rfl rfl rfl (qe rfl rfl) ?_)))
  obtain ⟨r_2, hr_2, hr⟩ := bindS hr
  refine r_w rfl rfl rfl (qF _ rfl qs (.oc rfl (.oc rfl (.oc rfl .nil))) (by exact (pf1 _ _ _)) (qr fuel _ _ _ _ _ hr_2)) ?_
  rintro _ _ ⟨_, ⟨rfl, rfl⟩, rfl⟩
  refine r_st ((.cell b_o0 (qd r_2.2)) :: _) rfl (r_d rfl rfl rfl (qbT rfl qi5 (.oc rfl .nil) (.cons rfl rfl rfl (.nil _))) (r_w rfl rfl rfl (qau rfl qi7) ?_))
  rintro _ _ ⟨b3_2, rfl, rfl⟩
  refine qaa rfl rfl rfl (qK _ rfl rfl rfl (Wk.refl _) (pf0 _) (by exact qch) (by first | rfl | simp [sz, szs, qbx, qbh]) (by first | rfl | simp [sz, szs, qbx, qbh]) rfl) (ql (qk (gr [.d, .w, .d, .w] (r_d rfl rfl rfl (qe rfl rfl) ?_))))
  obtain ⟨r_4, hr_4, hr⟩ := bindS hr
  refine r_w rfl rfl rfl (qF _ rfl qs (.oc rfl (.oc rfl (.oc rfl .nil))) (by exact (pf1 _ _ _)) (qr fuel _ _ _ _ _ hr_4)) ?_
  rintro _ _ ⟨_, ⟨rfl, rfl⟩, rfl⟩
  refine r_st ((.cell b_o0 (qd r_4.2)) :: _) rfl (r_d rfl rfl rfl (qo rfl qf2 rfl) (qaa rfl rfl rfl (qV _ rfl rfl rfl (Wk.refl _) (pf1 _ _ _) rfl (by first | rfl | simp [offD, szs, sz, qbx, qbA, qbh]) (by exact qaF) rfl rfl rfl) (ql (qk (qk (gr [.d, .r, .d, .d, .d, .d, .d, .r, .d, .d] (r_d rfl rfl rfl (qo rfl qfi rfl) (r_r rfl rfl rfl (qx rfl rfl (.head _) rfl (by first | rfl | simp [offD, szs, sz, qbx, qbA, qbh]) (by exact qaF) rfl) (r_d rfl rfl rfl (qX rfl rfl rfl rfl) (r_d rfl rfl rfl (qe rfl rfl) ?_))))))))))
  refine r_sB 13 rfl hr (fun h13_4 hr => ?_) (fun h13_4 hr => ?_)
  ·
   refine r_d rfl rfl rfl (qe rfl rfl) (r_d rfl rfl rfl (qv rfl rfl) (r_d rfl rfl rfl (qo rfl qH rfl) (r_r rfl rfl rfl (qx rfl rfl (.tail _ (.head _)) rfl rfl (by exact qaj) rfl) (r_d rfl rfl rfl (qX rfl rfl rfl rfl) (r_d rfl rfl rfl (qP rfl rfl rfl) (ql ?_))))))
   refine g_sB 19 rfl hr (fun h19_5 hr => ?_) (fun h19_5 hr => ?_)
   ·
    refine qC rfl (gr [.d, .w, .d, .w] (r_d rfl rfl rfl (qe rfl rfl) ?_))
    obtain ⟨r_7, hr_7, hr⟩ := bindS hr
    refine r_w rfl rfl rfl (qF _ rfl qfy (.oc rfl .nil) (by exact (pf1 _ _ _)) (qfe fuel _ _ _ hr_7)) ?_
    rintro _ _ ⟨_, ⟨rfl, rfl⟩, rfl⟩
    refine r_st ((.cell b_o0 (qd r_7.2)) :: _) rfl (r_d rfl rfl rfl (qo rfl qeR rfl) (qaa rfl rfl rfl (qV _ rfl rfl rfl (Wk.refl _) (pf1 _ _ _) rfl (by first | rfl | simp [offD, szs, sz, qbx, qbA, qbh]) (by exact qcq) (qbh _) rfl rfl) (ql (qk (gr [.r, .w] (r_r rfl rfl rfl (qx rfl rfl (.head _) rfl rfl (by exact qch) (by first | rfl | simp [sz, szs, qbx, qbh])) (qaa rfl rfl rfl (qK _ rfl rfl rfl (Wk.refl _) (pf2 _ _ _ _) (by exact qch) (by first | rfl | simp [sz, szs, qbx, qbh]) (by first | rfl | simp [sz, szs, qbx, qbh]) rfl) (ql (qap 2 b2_0 rfl (pf0 _) (qar [_] _ (pf1 _ _ _) ?_))))))))))
    obtain rfl := Option.some.inj hr
    refine q9 Tryz.func123 _ (.cons (resPtr rfl (by exact qch) (by first | rfl | simp [sz, szs, qbx, qbh]) (Wk.refl _)) .nil) ?_
    exact ⟨rfl, rfl⟩
   ·
    refine qB rfl (qab (qk (gr [.r, .w] (r_r rfl rfl rfl (qx rfl rfl (.head _) rfl rfl (by exact qch) (by first | rfl | simp [sz, szs, qbx, qbh])) (qaa rfl rfl rfl (qK _ rfl rfl rfl (Wk.refl _) (pf2 _ _ _ _) (by exact qch) (by first | rfl | simp [sz, szs, qbx, qbh]) (by first | rfl | simp [sz, szs, qbx, qbh]) rfl) (ql (qap 2 b2_0 rfl (pf0 _) (qar [_] _ (pf1 _ _ _) ?_))))))))
    obtain rfl := Option.some.inj hr
    refine q9 Tryz.func123 _ (.cons (resPtr rfl (by exact qch) (by first | rfl | simp [sz, szs, qbx, qbh]) (Wk.refl _)) .nil) ?_
    exact ⟨rfl, rfl⟩
  ·
   refine qh rfl rfl rfl (qh rfl rfl rfl (qh rfl rfl rfl (qh rfl rfl rfl (qh rfl rfl rfl (r_d rfl rfl rfl (qG rfl rfl rfl) (ql (qB rfl (qab (qk (gr [.r, .w] (r_r rfl rfl rfl (qx rfl rfl (.head _) rfl rfl (by exact qch) (by first | rfl | simp [sz, szs, qbx, qbh])) ?_)))))))))))
   refine qaa rfl rfl rfl (qK _ rfl rfl rfl (Wk.refl _) (pf2 _ _ _ _) (by exact qch) (by first | rfl | simp [sz, szs, qbx, qbh]) (by first | rfl | simp [sz, szs, qbx, qbh]) rfl) (ql (qap 2 b2_0 rfl (pf0 _) (qar [_] _ (pf1 _ _ _) ?_)))
   obtain rfl := Option.some.inj hr
   refine q9 Tryz.func123 _ (.cons (resPtr rfl (by exact qch) (by first | rfl | simp [sz, szs, qbx, qbh]) (Wk.refl _)) .nil) ?_
   exact ⟨rfl, rfl⟩
noncomputable def qaH (k : ((List Int)) → (qg) → Option ((List Int) × qg)) (fuel : Nat) (high_a2 : Int) : Nat → (List Int) → qg → Option ((List Int) × qg)
  | 0, out_5, r_7 =>
  (k out_5 r_7)
  | rest + 1, out_5, r_7 =>
  (bif (r_7.f2_e == (0 : Int)) then
  ((qi fuel 0 high_a2 r_7).bind fun r_12 =>
  ((appO 8 out_5 [r_12.1]).bind fun l_13 =>
  (qaH k fuel high_a2 rest l_13 r_12.2)))
  else
  (k out_5 r_7))
noncomputable def qM (fuel : Nat) (most_a1 : Int) (high_a2 : Int) (c_0 : qg) : Option ((List Int) × qg) :=
  ((qi fuel 0 most_a1 c_0).bind fun r_3 =>
  (qaH (fun out_9 r_10 =>
  some (out_9, r_10)) fuel high_a2 (r_3.1 - 0 : Int).toNat [] r_3.2))
set_option maxHeartbeats 1000000 in
theorem qbD (fuel : Nat) (most_a1 : Int) (high_a2 : Int) (c_0 : qg) (b_o0 : Nat) (res : (List Int) × qg) (hr : qM fuel most_a1 high_a2 c_0 = some res) : Spec Tryz.prog 127 [.ref b_o0 0 [], .int .i64 most_a1, .int .i64 high_a2] [.cell b_o0 (qd c_0)] (fun d σ => d = .lst (res.1.map (D.int .i64)) ∧ σ = [.cell b_o0 (qd res.2)]) := by
  unfold qM at hr
  refine qag [(0, .ref b_o0 0 []), (1, .int .i64 most_a1), (2, .int .i64 high_a2)] Tryz.func127 rfl rfl fun K hK => (qk (gr [.w] (r_w rfl rfl rfl (qcs 3 1 (.inl rfl)) ?_)))
  rintro _ _ ⟨u6_0, rfl, rfl⟩
  refine ql (qk (gr [.w] (r_w rfl rfl rfl (qcs 3 1 (.inl rfl)) ?_)))
  rintro _ _ ⟨u7_1, rfl, rfl⟩
  refine ql (qk (gr [.d, .d, .w, .d] (r_d rfl rfl rfl (qe rfl rfl) (r_d rfl rfl rfl (qe rfl rfl) ?_))))
  obtain ⟨r_3, hr_3, hr⟩ := bindS hr
  refine r_w rfl rfl rfl (qF _ rfl qs (.oc rfl (.oc rfl (.oc rfl .nil))) (by exact (pf2 _ _ _ _)) (qr fuel _ _ _ _ _ hr_3)) ?_
  rintro _ _ ⟨_, ⟨rfl, rfl⟩, rfl⟩
  refine r_st ((.cell b_o0 (qd r_3.2)) :: _) rfl (r_d rfl rfl rfl (qj rfl rfl) (ql (qk (qk (gr [.d] (r_d rfl rfl rfl (qj rfl rfl) (ql ?_)))))))
  obtain ⟨kk0, hkk0, hr⟩ := exK (fun k => qaH k fuel high_a2 (r_3.1 - 0 : Int).toNat [] r_3.2) hr
  refine qdU 12 rfl fun hla0 => ?_
  refine qbe (fun env σ => ∃ (out_9 : (List Int)) (r_10 : qg) (u_8 : Value), env = [(7, .own u_8 (out_9.map (D.int .i64)))] ∧ σ = [.row u_8 out_9.length 3 1, .cell b_o0 (qd r_10)] ∧ kk0 out_9 r_10 = some res) ?_ (fun HK0 => ?_)
  ·
   rintro _ _ ⟨out_9, r_10, u_8, rfl, rfl, hr⟩
   rw [hkk0] at hr
   refine qk (gr [.d, .d] (r_d rfl rfl rfl (qe rfl rfl) (r_d rfl rfl rfl (qj rfl rfl) (ql (qar [_] _ (pf1 _ _ _) ?_)))))
   obtain rfl := Option.some.inj hr
   refine q9 Tryz.func127 _ (.cons (resTmp rfl (Wk.own _ _)) .nil) ?_
   exact ⟨rfl, rfl⟩
  ·
   refine qan [(0, .ref b_o0 0 []), (2, .int .i64 high_a2), (8, .int .i64 r_3.1), (7, .own u7_1 ([].map (D.int .i64))), (9, .int .i64 0)] (Sub.cons' rfl (Sub.cons' rfl (Sub.cons' rfl (Sub.cons' rfl (Sub.cons' rfl (Sub.nil _)))))) (qar [_, _] _ ((pf1 _ _ _).trans (pf1 _ _ _)) (qdb (fun n env σ => ∃ (out_5 : (List Int)) (i_6 : Int) (r_7 : qg) (u_4 : Value) (m0 : Nat), (m0 = n) ∧ (env = [(0, .ref b_o0 0 []), (2, .int .i64 high_a2), (8, .int .i64 r_3.1), (7, .own u_4 (out_5.map (D.int .i64))), (9, .int .i64 i_6)]) ∧ (σ = [.cell b_o0 (qd r_7), .row u_4 out_5.length 3 1]) ∧ (m0 = (r_3.1 - i_6 : Int).toNat) ∧ (qaH kk0 fuel high_a2 m0 out_5 r_7 = some res)) _ ⟨[], 0, r_3.2, u7_1, _, rfl, rfl, rfl, rfl, hr⟩ ?_))
   rintro n _ _ ⟨out_5, i_6, r_7, u_4, m0, rfl, rfl, rfl, hi0, hr⟩ IH0
   refine qdU 9 rfl fun hb0 => ?_
   rcases cntStep i_6 r_3.1 m0 hi0 with ⟨hm0, ht0⟩ | ⟨m0', hm0, ht0, hi0', hlt0⟩
   ·
    rw [hm0, qaH] at hr
    refine qk (qk (gr [.d, .d, .d, .d, .d, .d, .d, .r, .d, .d] (r_d rfl rfl rfl (qe rfl rfl) (r_d rfl rfl rfl (qe rfl rfl) (r_d rfl rfl rfl (qX rfl rfl rfl rfl) (r_d rfl rfl rfl (qe rfl rfl) (qdi 16 false rfl ht0 (qh rfl rfl rfl (qh rfl rfl rfl (qh rfl rfl rfl (qh rfl rfl rfl ?_)))))))))))
    refine qh rfl rfl rfl (r_d rfl rfl rfl (qG rfl rfl rfl) (ql (qB rfl (qbC rfl (qan [(7, .own u_4 (out_5.map (D.int .i64)))] (Sub.cons' rfl (Sub.nil _)) (qar [_, _] _ ((pf0 _).trans (pf1 _ _ _)) ?_))))))
    exact HK0 _ _ ⟨out_5, r_7, u_4, rfl, rfl, hr⟩
   ·
    rw [hm0, qaH] at hr
    refine qk (qk (gr [.d, .d, .d, .d, .d, .d, .d, .r, .d, .d] (r_d rfl rfl rfl (qe rfl rfl) (r_d rfl rfl rfl (qe rfl rfl) (r_d rfl rfl rfl (qX rfl rfl rfl rfl) (r_d rfl rfl rfl (qe rfl rfl) (qdi 16 true rfl ht0 (r_d rfl rfl rfl (qe rfl rfl) (r_d rfl rfl rfl (qv rfl rfl) (r_d rfl rfl rfl (qo rfl qH rfl) (r_r rfl rfl rfl (qx rfl rfl (.head _) rfl rfl (by exact qaj) rfl) ?_)))))))))))
    refine r_d rfl rfl rfl (qX rfl rfl rfl rfl) (r_d rfl rfl rfl (qP rfl rfl rfl) (ql ?_))
    refine g_sB 22 rfl hr (fun h22_10 hr => ?_) (fun h22_10 hr => ?_)
    ·
     refine qC rfl (qab (qk (qbi (gr [.d, .d, .d, .w, .d, .w, .d] (r_d rfl rfl rfl (qe rfl rfl) (r_d rfl rfl rfl (qe rfl rfl) (r_d rfl rfl rfl (qe rfl rfl) ?_)))))))
     obtain ⟨r_12, hr_12, hr⟩ := bindS hr
     refine r_w rfl rfl rfl (qF _ rfl qs (.oc rfl (.oc rfl (.oc rfl .nil))) (by exact (pf0 _)) (qr fuel _ _ _ _ _ hr_12)) ?_
     rintro _ _ ⟨_, ⟨rfl, rfl⟩, rfl⟩
     refine r_st ((.cell b_o0 (qd r_12.2)) :: _) rfl (r_d rfl rfl rfl (qg3 (f := (D.int .i64)) [.tmp 28] [r_12.1] rfl qdz rfl rfl (by decide) (by decide) (.oc rfl .nil) (fun _ => rfl) (fun _ => rfl)) ?_)
     obtain ⟨l_13, hl_13, hr⟩ := bindS hr
     refine r_w rfl rfl rfl (qdF (f := (D.int .i64)) out_5 [r_12.1] rfl qdz rfl rfl (asl rfl) (pf1 _ _ _) rfl (fun _ => rfl) hl_13) ?_
     rintro _ _ ⟨u30_13, rfl, rfl⟩
     refine r_d rfl rfl rfl (qj rfl rfl) (ql (qac (gr [.d, .d, .d] (r_d rfl rfl rfl (qe rfl rfl) (r_d rfl rfl rfl (s_ar (r := i_6 + 1) rfl rfl rfl rfl (by omega)) (r_d rfl rfl rfl (qj rfl rfl) (ql (qan [(0, .ref b_o0 0 []), (2, .int .i64 high_a2), (8, .int .i64 r_3.1), (7, .own u30_13 (l_13.map (D.int .i64))), (9, .int .i64 (i_6 + 1))] (Sub.cons' rfl (Sub.cons' rfl (Sub.cons' rfl (Sub.cons' rfl (Sub.cons' rfl (Sub.nil _)))))) (qar [_, _] _ ((pf0 _).trans (pf1 _ _ _)) ?_)))))))))
     exact IH0 _ _ _ (by omega) ⟨l_13, (i_6 + 1), r_12.2, u30_13, _, rfl, rfl, rfl, hi0', hr⟩
    ·
     refine qB rfl (qbC rfl (qan [(7, .own u_4 (out_5.map (D.int .i64)))] (Sub.cons' rfl (Sub.nil _)) (qar [_, _] _ ((pf0 _).trans (pf1 _ _ _)) ?_)))
     exact HK0 _ _ ⟨out_5, r_7, u_4, rfl, rfl, hr⟩
noncomputable def qeJ (b_a0 : (List Int)) (at_a1 : Int) : Option (Bool × Int × Int) :=
  (bif (decide (at_a1 < (0 : Int))) then
  some (false, 0, 2)
  else
  (bif (decide (at_a1 > (b_a0.length : Int))) then
  some (false, 0, 2)
  else
  (bif (at_a1 == (b_a0.length : Int)) then
  some (false, 0, 4)
  else
  ((getI b_a0 at_a1).bind fun q_4 =>
  (bif (decide (q_4 > (1 : Int))) then
  some (false, 0, 3)
  else
  some ((q_4 == (1 : Int)), (wr (at_a1 + (1 : Int))), 0))))))
set_option maxHeartbeats 1000000 in
theorem qj2 (b_a0 : (List Int)) (at_a1 : Int) (res : Bool × Int × Int) (hr : qeJ b_a0 at_a1 = some res) : Gives Tryz.prog 196 [.lst (b_a0.map (D.int .u8)), .int .i64 at_a1] (.tup [.bool res.1, .int .i64 res.2.1, .int .i64 res.2.2]) := by
  unfold qeJ at hr
  refine qag [(0, .lst (b_a0.map (D.int .u8))), (1, .int .i64 at_a1)] Tryz.func196 rfl rfl fun K hK => (qk (gr [.d, .d, .d] (r_d rfl rfl rfl (qj rfl rfl) (r_d rfl rfl rfl (qj rfl rfl) (r_d rfl rfl rfl (qj rfl rfl) (ql (qk (qk (gr [.d, .d, .d, .d, .d, .d, .d, .d] (r_d rfl rfl rfl (qe rfl rfl) (r_d rfl rfl rfl (qX rfl rfl rfl rfl) ?_)))))))))))
  refine r_d rfl rfl rfl (qe rfl rfl) ?_
  refine r_sB 9 rfl hr (fun h9_0 hr => ?_) (fun h9_0 hr => ?_)
  ·
   refine qh rfl rfl rfl (qh rfl rfl rfl (qh rfl rfl rfl (qh rfl rfl rfl (r_d rfl rfl rfl (qP rfl rfl rfl) (ql (qC rfl (qk (gr [.d, .d, .d] (r_d rfl rfl rfl (qj rfl rfl) (r_d rfl rfl rfl (qj rfl rfl) (r_d rfl rfl rfl (qj rfl rfl) ?_)))))))))))
   refine ql ?_
   obtain rfl := Option.some.inj hr
   refine q9 Tryz.func196 _ (.cons (resTmp rfl (Wk.refl _)) (.cons (resTmp rfl (Wk.refl _)) (.cons (resTmp rfl (Wk.refl _)) .nil))) ?_
   rfl
  ·
   refine r_d rfl rfl rfl (qe rfl rfl) (r_d rfl rfl rfl (qe rfl rfl) (r_d rfl rfl rfl (qbP (f := (D.int .u8)) b_a0 rfl qb9 rfl (asl rfl)) (r_d rfl rfl rfl (qX rfl rfl rfl rfl) (r_d rfl rfl rfl (qG rfl rfl rfl) (ql ?_)))))
   refine g_sB 14 rfl hr (fun h14_1 hr => ?_) (fun h14_1 hr => ?_)
   ·
    refine qC rfl (qk (gr [.d, .d, .d] (r_d rfl rfl rfl (qj rfl rfl) (r_d rfl rfl rfl (qj rfl rfl) (r_d rfl rfl rfl (qj rfl rfl) (ql ?_))))))
    obtain rfl := Option.some.inj hr
    refine q9 Tryz.func196 _ (.cons (resTmp rfl (Wk.refl _)) (.cons (resTmp rfl (Wk.refl _)) (.cons (resTmp rfl (Wk.refl _)) .nil))) ?_
    rfl
   ·
    refine qB rfl (qab (qk (qk (gr [.d, .d, .d, .d] (r_d rfl rfl rfl (qe rfl rfl) (r_d rfl rfl rfl (qe rfl rfl) (r_d rfl rfl rfl (qbP (f := (D.int .u8)) b_a0 rfl qb9 rfl (asl rfl)) (r_d rfl rfl rfl (qX rfl rfl rfl rfl) (ql ?_)))))))))
    refine g_sB 18 rfl hr (fun h18_2 hr => ?_) (fun h18_2 hr => ?_)
    ·
     refine qC rfl (qk (gr [.d, .d, .d] (r_d rfl rfl rfl (qj rfl rfl) (r_d rfl rfl rfl (qj rfl rfl) (r_d rfl rfl rfl (qj rfl rfl) (ql ?_))))))
     obtain rfl := Option.some.inj hr
     refine q9 Tryz.func196 _ (.cons (resTmp rfl (Wk.refl _)) (.cons (resTmp rfl (Wk.refl _)) (.cons (resTmp rfl (Wk.refl _)) .nil))) ?_
     rfl
    ·
     refine qB rfl (qab (qk (qk (gr [.d, .d, .d, .d, .d] (r_d rfl rfl rfl (qe rfl rfl) (r_d rfl rfl rfl (qe rfl rfl) ?_))))))
     obtain ⟨q_4, hq_4, hr⟩ := bindS hr
     refine r_d rfl rfl rfl (qbH (f := (D.int .u8)) b_a0 rfl qb9 rfl (asl rfl) rfl hq_4 (fun _ => rfl) rfl) (r_d rfl rfl rfl (qw rfl rfl (by exact qlf) rfl) (r_d rfl rfl rfl (qX rfl rfl rfl rfl) (ql ?_)))
     refine g_sB 23 rfl hr (fun h23_4 hr => ?_) (fun h23_4 hr => ?_)
     ·
      refine qC rfl (qk (gr [.d, .d, .d] (r_d rfl rfl rfl (qj rfl rfl) (r_d rfl rfl rfl (qj rfl rfl) (r_d rfl rfl rfl (qj rfl rfl) (ql ?_))))))
      obtain rfl := Option.some.inj hr
      refine q9 Tryz.func196 _ (.cons (resTmp rfl (Wk.refl _)) (.cons (resTmp rfl (Wk.refl _)) (.cons (resTmp rfl (Wk.refl _)) .nil))) ?_
      rfl
     ·
      refine qB rfl (qab (qk (gr [.d, .d, .d, .d, .d, .d, .d, .d, .d, .d] (r_d rfl rfl rfl (qe rfl rfl) (r_d rfl rfl rfl (qe rfl rfl) (r_d rfl rfl rfl (qbH (f := (D.int .u8)) b_a0 rfl qb9 rfl (asl rfl) rfl hq_4 (fun _ => rfl) rfl) (r_d rfl rfl rfl (qw rfl rfl (by exact qlf) rfl) (r_d rfl rfl rfl (qX rfl rfl rfl rfl) (r_d rfl rfl rfl (qe rfl rfl) (r_d rfl rfl rfl (qiF rfl rfl rfl rfl) (r_d rfl rfl rfl (qj rfl rfl) ?_)))))))))))
      refine r_d rfl rfl rfl (qj rfl rfl) (r_d rfl rfl rfl (qj rfl rfl) (ql ?_))
      obtain rfl := Option.some.inj hr
      refine q9 Tryz.func196 _ (.cons (resTmp rfl (Wk.refl _)) (.cons (resTmp rfl (Wk.refl _)) (.cons (resTmp rfl (Wk.refl _)) .nil))) ?_
      rfl
noncomputable def qaG (c_0 : qg) : Option (Bool × qg) :=
  (bif (c_0.f2_e != (0 : Int)) then
  some (false, c_0)
  else
  ((qeJ c_0.f0_b c_0.f1_at).bind fun r_2 =>
  some (r_2.1, (⟨c_0.f0_b, r_2.2.1, r_2.2.2, c_0.f3_bad⟩ : qg))))
set_option maxHeartbeats 1000000 in
theorem qff (c_0 : qg) (b_o0 : Nat) (res : Bool × qg) (hr : qaG c_0 = some res) : Spec Tryz.prog 128 [.ref b_o0 0 []] [.cell b_o0 (qd c_0)] (fun d σ => d = .bool res.1 ∧ σ = [.cell b_o0 (qd res.2)]) := by
  unfold qaG at hr
  refine qag [(0, .ref b_o0 0 [])] Tryz.func128 rfl rfl fun K hK => (qk (gr [.d] (r_d rfl rfl rfl (qj rfl rfl) (ql (qk (qk (gr [.d, .d, .d, .r, .d] (r_d rfl rfl rfl (qe rfl rfl) (r_d rfl rfl rfl (qv rfl rfl) (r_d rfl rfl rfl (qo rfl qH rfl) (r_r rfl rfl rfl (qx rfl rfl (.head _) rfl rfl (by exact qaj) rfl) ?_)))))))))))
  refine r_d rfl rfl rfl (qX rfl rfl rfl rfl) (ql ?_)
  refine g_sB 10 rfl hr (fun h10_0 hr => ?_) (fun h10_0 hr => ?_)
  ·
   refine qC rfl (qk (gr [.d] (r_d rfl rfl rfl (qj rfl rfl) (ql ?_))))
   obtain rfl := Option.some.inj hr
   refine q9 Tryz.func128 _ (.cons (resTmp rfl (Wk.refl _)) .nil) ?_
   exact ⟨rfl, rfl⟩
  ·
   refine qB rfl (qab (qk (ga [(0, .d), (1, .d), (2, .d), (3, .r), (4, .d), (5, .d), (6, .d), (7, .r), (8, .d), (9, .d), (10, .d), (11, .d), (12, .d), (13, .d), (14, .d), (15, .d)] (r_d rfl rfl rfl (qe rfl rfl) (r_d rfl rfl rfl (qv rfl rfl) (r_d rfl rfl rfl (qo rfl qd6 rfl) (r_r rfl rfl rfl (qx rfl rfl (.head _) rfl rfl (by exact qc5) rfl) (r_d rfl rfl rfl (qe rfl rfl) (r_d rfl rfl rfl (qv rfl rfl) (r_d rfl rfl rfl (qo rfl qb0 rfl) (r_r rfl rfl rfl (qx rfl rfl (.head _) rfl rfl (by exact qaF) rfl) ?_)))))))))))
   obtain ⟨r_2, hr_2, hr⟩ := bindS hr
   refine r_d rfl rfl rfl (qal rfl qjE (.oc rfl (.oc rfl .nil)) (qj2 _ _ _ hr_2)) (r_d rfl rfl rfl (qe rfl rfl) (r_d rfl rfl rfl (qaz rfl rfl rfl) (r_d rfl rfl rfl (qaz rfl rfl rfl) (r_d rfl rfl rfl (qaz rfl rfl rfl) (r_d rfl rfl rfl (qj rfl rfl) (r_d rfl rfl rfl (qj rfl rfl) (r_d rfl rfl rfl (qj rfl rfl) (ql (qk (gr [.d, .d, .d, .d, .d, .d, .w, .d, .d, .w] (r_d rfl rfl rfl (qe rfl rfl) ?_)))))))))))
   refine r_d rfl rfl rfl (qe rfl rfl) (r_d rfl rfl rfl (qe rfl rfl) (r_d rfl rfl rfl (qe rfl rfl) (r_d rfl rfl rfl (qv rfl rfl) (r_d rfl rfl rfl (qo rfl qb0 rfl) (qaa rfl rfl rfl (qV _ rfl rfl rfl (Wk.refl _) (pf0 _) rfl rfl (by exact qaF) rfl rfl rfl) (r_d rfl rfl rfl (qv rfl rfl) (r_d rfl rfl rfl (qo rfl qH rfl) (qaa rfl rfl rfl (qV _ rfl rfl rfl (Wk.refl _) (pf0 _) rfl rfl (by exact qaj) rfl rfl rfl) (ql (qk (gr [.d, .d] ?_)))))))))))
   refine r_d rfl rfl rfl (qe rfl rfl) (r_d rfl rfl rfl (qj rfl rfl) (ql ?_))
   obtain rfl := Option.some.inj hr
   refine q9 Tryz.func128 _ (.cons (resTmp rfl (Wk.refl _)) .nil) ?_
   exact ⟨rfl, rfl⟩
noncomputable def qa8 (k : (qg) → ((List qL)) → ((List (Int × At))) → ((List (Int × T))) → ((List qY)) → (Int) → (Int) → (Bool) → Option (qai × Int)) (fuel : Nat) : Nat → qg → (List qL) → (List (Int × At)) → (List (Int × T)) → (List qY) → Int → Int → Bool → Option (qai × Int)
  | 0, r_89, c_90, c_91, c_92, c_93, c_94, c_95, c_96 =>
  (k r_89 c_90 c_91 c_92 c_93 c_94 c_95 c_96)
  | rest + 1, r_89, c_90, c_91, c_92, c_93, c_94, c_95, c_96 =>
  (bif (r_89.f2_e == (0 : Int)) then
  ((qi fuel 0 40 r_89).bind fun r_115 =>
  ((qM fuel 4 2147483648 r_115.2).bind fun r_117 =>
  ((appO 32 c_93 [(⟨r_115.1, r_117.1⟩ : qY)]).bind fun l_118 =>
  (qa8 k fuel rest r_117.2 c_90 c_91 c_92 l_118 c_94 c_95 c_96))))
  else
  (k r_89 c_90 c_91 c_92 c_93 c_94 c_95 c_96))
noncomputable def qaN (k : (qg) → ((List qL)) → ((List (Int × At))) → ((List (Int × T))) → ((List qY)) → (Int) → (Int) → (Bool) → Option (qai × Int)) (fuel : Nat) : Nat → qg → (List qL) → (List (Int × At)) → (List (Int × T)) → (List qY) → Int → Int → Bool → Option (qai × Int)
  | 0, r_63, c_64, c_65, c_66, c_67, c_68, c_69, c_70 =>
  (k r_63 c_64 c_65 c_66 c_67 c_68 c_69 c_70)
  | rest + 1, r_63, c_64, c_65, c_66, c_67, c_68, c_69, c_70 =>
  (bif (r_63.f2_e == (0 : Int)) then
  ((qi fuel 0 1048576 r_63).bind fun r_121 =>
  ((qda fuel 1 r_121.2).bind fun r_123 =>
  (bif r_123.2.f3_bad then
  ((appO 64 c_66 [(r_121.1, r_123.1)]).bind fun l_125 =>
  (qaN k fuel rest (⟨r_123.2.f0_b, r_123.2.f1_at, r_123.2.f2_e, true⟩ : qg) c_64 c_65 l_125 c_67 c_68 c_69 c_70))
  else
  ((qkt r_123.1).bind fun r_127 =>
  ((appO 64 c_66 [(r_121.1, r_123.1)]).bind fun l_128 =>
  (qaN k fuel rest (⟨r_123.2.f0_b, r_123.2.f1_at, r_123.2.f2_e, (!r_127)⟩ : qg) c_64 c_65 l_128 c_67 c_68 c_69 c_70))))))
  else
  (k r_63 c_64 c_65 c_66 c_67 c_68 c_69 c_70))
noncomputable def qba (k : (qg) → ((List qL)) → ((List (Int × At))) → ((List (Int × T))) → ((List qY)) → (Int) → (Int) → (Bool) → Option (qai × Int)) (fuel : Nat) : Nat → qg → (List qL) → (List (Int × At)) → (List (Int × T)) → (List qY) → Int → Int → Bool → Option (qai × Int)
  | 0, r_37, c_38, c_39, c_40, c_41, c_42, c_43, c_44 =>
  (k r_37 c_38 c_39 c_40 c_41 c_42 c_43 c_44)
  | rest + 1, r_37, c_38, c_39, c_40, c_41, c_42, c_43, c_44 =>
  (bif (r_37.f2_e == (0 : Int)) then
  ((qi fuel 0 2147483648 r_37).bind fun r_131 =>
  ((qat fuel r_131.2).bind fun r_133 =>
  ((appO 48 c_39 [(r_131.1, r_133.1)]).bind fun l_134 =>
  (qba k fuel rest r_133.2 c_38 l_134 c_40 c_41 c_42 c_43 c_44))))
  else
  (k r_37 c_38 c_39 c_40 c_41 c_42 c_43 c_44))
noncomputable def qbb (k : (qg) → ((List qL)) → ((List (Int × At))) → ((List (Int × T))) → ((List qY)) → (Int) → (Int) → (Bool) → Option (qai × Int)) (fuel : Nat) : Nat → qg → (List qL) → (List (Int × At)) → (List (Int × T)) → (List qY) → Int → Int → Bool → Option (qai × Int)
  | 0, t17_11, c_12, c_13, c_14, c_15, c_16, c_17, c_18 =>
  (k t17_11 c_12 c_13 c_14 c_15 c_16 c_17 c_18)
  | rest + 1, t17_11, c_12, c_13, c_14, c_15, c_16, c_17, c_18 =>
  (bif (t17_11.f2_e == (0 : Int)) then
  ((qaP fuel t17_11).bind fun r_138 =>
  ((appO 64 c_12 [r_138.1]).bind fun l_139 =>
  (qbb k fuel rest r_138.2 l_139 c_13 c_14 c_15 c_16 c_17 c_18)))
  else
  (k t17_11 c_12 c_13 c_14 c_15 c_16 c_17 c_18))
noncomputable def qcc (fuel : Nat) (b_a0 : (List Int)) : Option (qai × Int) :=
  ((qi fuel 2 2 (⟨b_a0, 0, 0, false⟩ : qg)).bind fun r_3 =>
  ((qi fuel 0 1000 r_3.2).bind fun r_5 =>
  (qbb (fun t17_19 c_24 c_25 c_26 c_27 c_28 c_29 c_30 =>
  ((qi fuel 0 500 t17_19).bind fun r_31 =>
  (qba (fun r_45 c_50 c_51 c_52 c_53 c_54 c_55 c_56 =>
  ((qi fuel 0 1048576 r_45).bind fun r_57 =>
  (qaN (fun r_71 c_76 c_77 c_78 c_79 c_80 c_81 c_82 =>
  ((qi fuel 0 5000 r_71).bind fun r_83 =>
  (qa8 (fun r_97 c_102 c_103 c_104 c_105 c_106 c_107 c_108 =>
  ((qi fuel 0 2147483648 r_97).bind fun r_109 =>
  ((qi fuel 0 1048576 r_109.2).bind fun r_110 =>
  ((qaG r_110.2).bind fun r_111 =>
  ((qaw r_111.2).bind fun r_112 =>
  (bif (r_112 != (0 : Int)) then
  some ((⟨[], [], [], [], 0, 0, false⟩ : qai), r_112)
  else
  some ((⟨c_102, c_103, c_104, c_105, r_109.1, r_110.1, r_111.1⟩ : qai), 0))))))) fuel (r_83.1 - 0 : Int).toNat r_83.2 c_76 c_77 c_78 c_79 c_80 c_81 c_82))) fuel (r_57.1 - 0 : Int).toNat r_57.2 c_50 c_51 c_52 c_53 c_54 c_55 c_56))) fuel (r_31.1 - 0 : Int).toNat r_31.2 c_24 c_25 c_26 c_27 c_28 c_29 c_30))) fuel (r_5.1 - 0 : Int).toNat r_5.2 [] [] [] [] 0 0 false)))
end Go.Proofs.YtdoljfkjdfaakaaGreat
