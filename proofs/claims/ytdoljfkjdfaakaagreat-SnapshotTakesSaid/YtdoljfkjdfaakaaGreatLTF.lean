/-
  Texts of the seat, merged.
-/
import Derived.Test.YtdoljfkjdfaakaaGreatLTA
import Derived.Test.YtdoljfkjdfaakaaGreatLTB
import Derived.Test.YtdoljfkjdfaakaaGreatLTC
import Derived.Test.YtdoljfkjdfaakaaGreatLTD
import Derived.Test.YtdoljfkjdfaakaaGreatLTE
import Derived.Test.YtdoljfkjdfaakaaGreatChecked
import Derived.WalkKit
import Derived.Lib.Hide
import Derived.Lib.AppendStr
import Derived.Deep.AppendLies
import Derived.Deep.AppendSrc
import Derived.Deep.Draws
import Derived.Deep.QuietTactic
import Derived.BigQuiet
import Derived.Deep.RegionWith
import Derived.Maps.AppendAt
import Derived.WalkSpells
import Derived.Orders
import Derived.Deep.Slices
import Derived.Deep.Fields
import Derived.ChangeArms
import Derived.Lib.OthersKept
import Derived.Lib.TrimU
import Derived.Lib.IndexAny
import Derived.Deep.LoopGhost
import Derived.Lib.Bytealg
import Derived.RangeFuncBox
import Derived.RangeFuncNested
import Derived.RangeFuncBound
import Derived.RangeFuncCalls
import Derived.RangeFuncLeaves
import Derived.Shelf.Abstract
import Derived.OwnWalkIn
import Derived.TacticsInMore
import Derived.LoopNIn
import Derived.LoopIn
import Derived.RangeFuncWrites
import Derived.Maps.OwnIn
import Derived.Maps.Views
import Derived.Laws.OwnMore
import Derived.Maps.OwnSet
import Derived.Laws.IdiomStrings
import Derived.Test.YtdoljfkjdfaakaaGreatRows
import Derived.ProofKit
import Derived.OpenShut
import Derived.Carry
import Derived.OrdersIn
import Derived.Great.BuildSlice
import Derived.ArgAppend
import Derived.Laws.MakeOwn
import Derived.Laws.Cover3
import Derived.Laws.CopyRow
import Derived.MapKept
import Derived.Maps.RangeRun
import Derived.DeepKeys5
import Derived.WideKeyRuns
set_option linter.unusedVariables false
set_option linter.unusedSimpArgs false
set_option linter.unnecessarySimpa false
set_option linter.all false
namespace Go.Proofs.YtdoljfkjdfaakaaGreat
set_option maxRecDepth 100000
open Go.RowKit
set_option maxHeartbeats 1000000 in
theorem qgw (fuel : Nat) (c_0 : qb) (b_o0 : Nat) (res : Int ⊕ (qas × qb)) (hr : qcU fuel c_0 = some res) : SpecX Tryz.prog 111 [.ref b_o0 0 []] [.cell b_o0 (qc c_0)] (fun d σ => ∃ r : qas × qb, res = .inr r ∧ d = qax r.1 ∧ σ = [.cell b_o0 (qc r.2)]) (fun d => ∃ c, res = .inl c ∧ d = .ifc 191 (.agg [.int .i64 c])) := by
  unfold qcU at hr
  refine qbL [(0, .ref b_o0 0 [])] Tryz.func111 rfl rfl fun K hK hX => (qk (gr [.w] (r_w rfl rfl rfl (qau rfl qeI) ?_)))
  rintro _ _ ⟨b2_0, rfl, rfl⟩
  refine ql (qk (gr [.d, .d, .d, .w, .d, .w] (r_d rfl rfl rfl (qe rfl rfl) (r_d rfl rfl rfl (qe rfl rfl) (r_d rfl rfl rfl (qbz rfl rfl rfl) ?_)))))
  rcases bindXS hr with ⟨c_r_2, hr_2, rfl⟩ | ⟨r_2, hr_2, hr⟩
  ·
   refine qb1 rfl rfl (qa0 _ rfl qel (.oc rfl (.oc rfl (.oc rfl .nil))) (by exact (pf1 _ _ _)) (qN (qfr fuel _ _ _ _ hr_2))) (hX _ ⟨_, rfl, rfl⟩)
  ·
   refine r_w rfl rfl rfl (qF _ rfl qel (.oc rfl (.oc rfl (.oc rfl .nil))) (by exact (pf1 _ _ _)) (qO (qfr fuel _ _ _ _ hr_2))) ?_
   rintro _ _ ⟨_, ⟨rfl, rfl⟩, rfl⟩
   refine r_st ((.cell b_o0 (qc r_2.2)) :: _) rfl (r_d rfl rfl rfl (qo rfl qhn rfl) (qaa rfl rfl rfl (qV _ rfl rfl rfl (Wk.refl _) (pf1 _ _ _) rfl rfl (by exact qeQ) rfl rfl rfl) (ql (qk (gr [.d, .d, .d, .w, .d, .w] (r_d rfl rfl rfl (qe rfl rfl) (r_d rfl rfl rfl (qe rfl rfl) (r_d rfl rfl rfl (qbz rfl rfl rfl) ?_))))))))
   rcases bindXS hr with ⟨c_r_3, hr_3, rfl⟩ | ⟨r_3, hr_3, hr⟩
   ·
    refine qb1 rfl rfl (qa0 _ rfl qel (.oc rfl (.oc rfl (.oc rfl .nil))) (by exact (pf1 _ _ _)) (qN (qfr fuel _ _ _ _ hr_3))) (hX _ ⟨_, rfl, rfl⟩)
   ·
    refine r_w rfl rfl rfl (qF _ rfl qel (.oc rfl (.oc rfl (.oc rfl .nil))) (by exact (pf1 _ _ _)) (qO (qfr fuel _ _ _ _ hr_3))) ?_
    rintro _ _ ⟨_, ⟨rfl, rfl⟩, rfl⟩
    refine r_st ((.cell b_o0 (qc r_3.2)) :: _) rfl (r_d rfl rfl rfl (qo rfl qgB rfl) (qaa rfl rfl rfl (qV _ rfl rfl rfl (Wk.refl _) (pf1 _ _ _) rfl rfl (by exact qeQ) rfl rfl rfl) (ql (qk (gr [.d, .d, .d, .w, .d, .w] (r_d rfl rfl rfl (qe rfl rfl) (r_d rfl rfl rfl (qe rfl rfl) (r_d rfl rfl rfl (qbz rfl rfl rfl) ?_))))))))
    rcases bindXS hr with ⟨c_r_4, hr_4, rfl⟩ | ⟨r_4, hr_4, hr⟩
    ·
     refine qb1 rfl rfl (qa0 _ rfl qf6 (.oc rfl (.oc rfl (.oc rfl .nil))) (by exact (pf1 _ _ _)) (qN (qh7 _ _ _ _ hr_4))) (hX _ ⟨_, rfl, rfl⟩)
    ·
     refine r_w rfl rfl rfl (qF _ rfl qf6 (.oc rfl (.oc rfl (.oc rfl .nil))) (by exact (pf1 _ _ _)) (qO (qh7 _ _ _ _ hr_4))) ?_
     rintro _ _ ⟨_, ⟨rfl, rfl⟩, rfl⟩
     refine r_st ((.cell b_o0 (qc r_4.2)) :: _) rfl (r_d rfl rfl rfl (qo rfl qdJ rfl) (qaa rfl rfl rfl (qV _ rfl rfl rfl (Wk.refl _) (pf1 _ _ _) rfl rfl (by exact qds) rfl rfl rfl) (ql (qk (gr [.d, .w, .d, .w] (r_d rfl rfl rfl (qe rfl rfl) ?_))))))
     rcases bindXS hr with ⟨c_r_5, hr_5, rfl⟩ | ⟨r_5, hr_5, hr⟩
     ·
      refine qb1 rfl rfl (qa0 _ rfl qn (.oc rfl (.oc rfl (.oc rfl .nil))) (by exact (pf1 _ _ _)) (qN (qm _ _ _ _ _ hr_5))) (hX _ ⟨_, rfl, rfl⟩)
     ·
      refine r_w rfl rfl rfl (qF _ rfl qn (.oc rfl (.oc rfl (.oc rfl .nil))) (by exact (pf1 _ _ _)) (qO (qm _ _ _ _ _ hr_5))) ?_
      rintro _ _ ⟨_, ⟨rfl, rfl⟩, rfl⟩
      refine r_st ((.cell b_o0 (qc r_5.2)) :: _) rfl (r_d rfl rfl rfl (qo rfl qgv rfl) (qaa rfl rfl rfl (qV _ rfl rfl rfl (Wk.refl _) (pf1 _ _ _) rfl rfl (by exact qaF) rfl rfl rfl) (ql (qk (gr [.d, .w, .d, .w] (r_d rfl rfl rfl (qe rfl rfl) ?_))))))
      rcases bindXS hr with ⟨c_r_6, hr_6, rfl⟩ | ⟨r_6, hr_6, hr⟩
      ·
       refine qb1 rfl rfl (qa0 _ rfl qn (.oc rfl (.oc rfl (.oc rfl .nil))) (by exact (pf1 _ _ _)) (qN (qm _ _ _ _ _ hr_6))) (hX _ ⟨_, rfl, rfl⟩)
      ·
       refine r_w rfl rfl rfl (qF _ rfl qn (.oc rfl (.oc rfl (.oc rfl .nil))) (by exact (pf1 _ _ _)) (qO (qm _ _ _ _ _ hr_6))) ?_
       rintro _ _ ⟨_, ⟨rfl, rfl⟩, rfl⟩
       refine r_st ((.cell b_o0 (qc r_6.2)) :: _) rfl (r_d rfl rfl rfl (qo rfl qgp rfl) (qaa rfl rfl rfl (qV _ rfl rfl rfl (Wk.refl _) (pf1 _ _ _) rfl rfl (by exact qaF) rfl rfl rfl) (ql (qk (gr [.r, .w] (r_r rfl rfl rfl (qx rfl rfl (.head _) rfl rfl (by exact qaY) rfl) (qaa rfl rfl rfl (qK _ rfl rfl rfl (Wk.refl _) (pf0 _) (by exact qaY) rfl rfl rfl) (ql (qap 2 b2_0 rfl (pf0 _) ?_)))))))))
       obtain rfl := Option.some.inj hr
       refine q9 Tryz.func111 _ (.cons (resPtr rfl (by exact qaY) rfl (Wk.refl _)) .nil) ?_
       exact ⟨_, rfl, rfl, rfl⟩
end Go.Proofs.YtdoljfkjdfaakaaGreat
