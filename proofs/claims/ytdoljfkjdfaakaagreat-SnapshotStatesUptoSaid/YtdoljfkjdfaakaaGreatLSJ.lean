/-
  Texts of the seat, merged.
-/
import Derived.Test.YtdoljfkjdfaakaaGreatLSA
import Derived.Test.YtdoljfkjdfaakaaGreatLSB
import Derived.Test.YtdoljfkjdfaakaaGreatLSC
import Derived.Test.YtdoljfkjdfaakaaGreatLSD
import Derived.Test.YtdoljfkjdfaakaaGreatLSE
import Derived.Test.YtdoljfkjdfaakaaGreatLSF
import Derived.Test.YtdoljfkjdfaakaaGreatLSG
import Derived.Test.YtdoljfkjdfaakaaGreatLSH
import Derived.Test.YtdoljfkjdfaakaaGreatLSI
import Derived.Test.YtdoljfkjdfaakaaGreatChecked
import Derived.WalkKit
import Derived.Lib.Hide
import Derived.Lib.AppendStr
import Derived.Deep.AppendLies
import Derived.Deep.AppendSrc
import Derived.Deep.Draws
import Derived.Deep.QuietTactic
import Derived.BigQuiet
import Derived.Deep.RegionWith
import Derived.Maps.AppendAt
import Derived.WalkSpells
import Derived.Orders
import Derived.Deep.Slices
import Derived.Deep.Fields
import Derived.ChangeArms
import Derived.Lib.OthersKept
import Derived.Lib.TrimU
import Derived.Lib.IndexAny
import Derived.Deep.LoopGhost
import Derived.Lib.Bytealg
import Derived.RangeFuncBox
import Derived.RangeFuncNested
import Derived.RangeFuncBound
import Derived.RangeFuncCalls
import Derived.RangeFuncLeaves
import Derived.Shelf.Abstract
import Derived.OwnWalkIn
import Derived.TacticsInMore
import Derived.LoopNIn
import Derived.LoopIn
import Derived.RangeFuncWrites
import Derived.Maps.OwnIn
import Derived.Maps.Views
import Derived.Laws.OwnMore
import Derived.Maps.OwnSet
import Derived.Laws.IdiomStrings
import Derived.Test.YtdoljfkjdfaakaaGreatRows
import Derived.ProofKit
import Derived.OpenShut
import Derived.Carry
import Derived.OrdersIn
import Derived.Great.BuildSlice
import Derived.ArgAppend
import Derived.Laws.MakeOwn
import Derived.Laws.Cover3
import Derived.Laws.CopyRow
import Derived.MapKept
import Derived.Maps.RangeRun
import Derived.DeepKeys5
import Derived.WideKeyRuns
import Derived.RangeFuncOwn
import Derived.Defers
import Derived.Recover
import Derived.Tactics
import Derived.Tactics2
set_option linter.unusedVariables false
set_option linter.unusedSimpArgs false
set_option linter.unnecessarySimpa false
set_option linter.all false
namespace Go.Proofs.YtdoljfkjdfaakaaGreat
set_option maxRecDepth 100000
open Go.RowKit
set_option maxHeartbeats 1000000 in
theorem qhZ (fuel : Nat) (p_a0 : qI) (m_a1 : qab) (res : Bool) (hr : qc3 fuel p_a0 m_a1 = some res) : Gives Tryz.prog 24 [qn p_a0, qx m_a1] (.bool res) := by
  unfold qc3 at hr
  refine qR [(0, qn p_a0), (1, qx m_a1)] Tryz.func24 rfl rfl fun K hK => (qh (gr [.d, .d, .d] (r_d rfl rfl rfl (qef rfl rfl rfl) (r_d rfl rfl rfl (qef rfl rfl rfl) (r_d rfl rfl rfl (qe rfl rfl) (qj (qh (qh (gr [.d, .d, .d, .d, .d, .d, .d, .d, .d, .d, .d, .d, .d, .d, .d, .d, .d, .d, .d, .d, .d, .d, .d, .d, .d, .d, .d, .d, .d, .d, .d, .d, .d, .d, .d, .d, .d, .d, .d] (r_d rfl rfl rfl (qk rfl rfl (by exact qam) (qak _)) ?_))))))))))
  obtain ⟨r_1, hr_1, hr⟩ := bindS hr
  refine r_d rfl rfl rfl (qK rfl qko (.oc rfl .nil) (qj5 fuel _ _ hr_1)) (r_d rfl rfl rfl (qB rfl rfl rfl rfl) (r_d rfl rfl rfl (qb rfl rfl) ?_))
  refine r_sB 13 rfl hr (fun h13_1 hr => ?_) (fun h13_1 hr => ?_)
  ·
   refine qc rfl rfl rfl (qc rfl rfl rfl (qc rfl rfl rfl (r_d rfl rfl rfl (qy rfl rfl rfl) (r_d rfl rfl rfl (qb rfl rfl) (qc rfl rfl rfl (qc rfl rfl rfl (qc rfl rfl rfl (r_d rfl rfl rfl (qy rfl rfl rfl) (r_d rfl rfl rfl (qb rfl rfl) (qc rfl rfl rfl (qc rfl rfl rfl ?_)))))))))))
   refine qc rfl rfl rfl (r_d rfl rfl rfl (qy rfl rfl rfl) (r_d rfl rfl rfl (qb rfl rfl) (qc rfl rfl rfl (qc rfl rfl rfl (qc rfl rfl rfl (r_d rfl rfl rfl (qy rfl rfl rfl) (r_d rfl rfl rfl (qb rfl rfl) (qc rfl rfl rfl (qc rfl rfl rfl (qc rfl rfl rfl (qc rfl rfl rfl ?_)))))))))))
   refine r_d rfl rfl rfl (qy rfl rfl rfl) (r_d rfl rfl rfl (qb rfl rfl) (qc rfl rfl rfl (qc rfl rfl rfl (qc rfl rfl rfl (qc rfl rfl rfl (qc rfl rfl rfl (qc rfl rfl rfl (qc rfl rfl rfl (qc rfl rfl rfl (r_d rfl rfl rfl (qy rfl rfl rfl) (qj ?_)))))))))))
   refine qo rfl (qh (gr [.d] (r_d rfl rfl rfl (qe rfl rfl) (qj ?_))))
   obtain rfl := Option.some.inj hr
   refine qJ Tryz.func24 _ (.cons (resTmp rfl (Wk.refl _)) .nil) ?_
   rfl
  ·
   refine r_d rfl rfl rfl (qg rfl qih rfl rfl rfl rfl) (r_d rfl rfl rfl (qk rfl rfl (by exact qW) rfl) (r_d rfl rfl rfl (qB rfl rfl rfl rfl) (r_d rfl rfl rfl (qD rfl rfl rfl) (r_d rfl rfl rfl (qb rfl rfl) ?_))))
   refine r_sB 18 rfl hr (fun h18_2 hr => ?_) (fun h18_2 hr => ?_)
   ·
    refine qc rfl rfl rfl (qc rfl rfl rfl (qc rfl rfl rfl (r_d rfl rfl rfl (qy rfl rfl rfl) (r_d rfl rfl rfl (qb rfl rfl) (qc rfl rfl rfl (qc rfl rfl rfl (qc rfl rfl rfl (r_d rfl rfl rfl (qy rfl rfl rfl) (r_d rfl rfl rfl (qb rfl rfl) (qc rfl rfl rfl (qc rfl rfl rfl ?_)))))))))))
    refine qc rfl rfl rfl (r_d rfl rfl rfl (qy rfl rfl rfl) (r_d rfl rfl rfl (qb rfl rfl) (qc rfl rfl rfl (qc rfl rfl rfl (qc rfl rfl rfl (qc rfl rfl rfl (r_d rfl rfl rfl (qy rfl rfl rfl) (r_d rfl rfl rfl (qb rfl rfl) (qc rfl rfl rfl (qc rfl rfl rfl (qc rfl rfl rfl ?_)))))))))))
    refine qc rfl rfl rfl (qc rfl rfl rfl (qc rfl rfl rfl (qc rfl rfl rfl (qc rfl rfl rfl (r_d rfl rfl rfl (qy rfl rfl rfl) (qj (qo rfl (qh (gr [.d] (r_d rfl rfl rfl (qe rfl rfl) (qj ?_)))))))))))
    obtain rfl := Option.some.inj hr
    refine qJ Tryz.func24 _ (.cons (resTmp rfl (Wk.refl _)) .nil) ?_
    rfl
   ·
    refine r_d rfl rfl rfl (qg rfl qih rfl rfl rfl rfl) (r_d rfl rfl rfl (qk rfl rfl (by exact qW) rfl) (r_d rfl rfl rfl (qB rfl rfl rfl rfl) (r_d rfl rfl rfl (qD rfl rfl rfl) (r_d rfl rfl rfl (qb rfl rfl) ?_))))
    refine r_sB 23 rfl hr (fun h23_3 hr => ?_) (fun h23_3 hr => ?_)
    ·
     refine qc rfl rfl rfl (qc rfl rfl rfl (qc rfl rfl rfl (r_d rfl rfl rfl (qy rfl rfl rfl) (r_d rfl rfl rfl (qb rfl rfl) (qc rfl rfl rfl (qc rfl rfl rfl (qc rfl rfl rfl (r_d rfl rfl rfl (qy rfl rfl rfl) (r_d rfl rfl rfl (qb rfl rfl) (qc rfl rfl rfl (qc rfl rfl rfl ?_)))))))))))
     refine qc rfl rfl rfl (qc rfl rfl rfl (r_d rfl rfl rfl (qy rfl rfl rfl) (r_d rfl rfl rfl (qb rfl rfl) (qc rfl rfl rfl (qc rfl rfl rfl (qc rfl rfl rfl (qc rfl rfl rfl (qc rfl rfl rfl (qc rfl rfl rfl (qc rfl rfl rfl (qc rfl rfl rfl ?_)))))))))))
     refine r_d rfl rfl rfl (qy rfl rfl rfl) (qj (qo rfl (qh (gr [.d] (r_d rfl rfl rfl (qe rfl rfl) (qj ?_))))))
     obtain rfl := Option.some.inj hr
     refine qJ Tryz.func24 _ (.cons (resTmp rfl (Wk.refl _)) .nil) ?_
     rfl
    ·
     refine r_d rfl rfl rfl (qg rfl qgZ rfl rfl rfl rfl) (r_d rfl rfl rfl (qk rfl rfl (by exact qW) rfl) (r_d rfl rfl rfl (qB rfl rfl rfl rfl) (r_d rfl rfl rfl (qD rfl rfl rfl) (r_d rfl rfl rfl (qb rfl rfl) ?_))))
     refine r_sB 28 rfl hr (fun h28_4 hr => ?_) (fun h28_4 hr => ?_)
     ·
      refine qc rfl rfl rfl (qc rfl rfl rfl (qc rfl rfl rfl (r_d rfl rfl rfl (qy rfl rfl rfl) (r_d rfl rfl rfl (qb rfl rfl) (qc rfl rfl rfl (qc rfl rfl rfl (qc rfl rfl rfl (qc rfl rfl rfl (r_d rfl rfl rfl (qy rfl rfl rfl) (r_d rfl rfl rfl (qb rfl rfl) (qc rfl rfl rfl ?_)))))))))))
      refine qc rfl rfl rfl (qc rfl rfl rfl (qc rfl rfl rfl (qc rfl rfl rfl (qc rfl rfl rfl (qc rfl rfl rfl (qc rfl rfl rfl (r_d rfl rfl rfl (qy rfl rfl rfl) (qj (qo rfl (qh (gr [.d] ?_)))))))))))
      refine r_d rfl rfl rfl (qe rfl rfl) (qj ?_)
      obtain rfl := Option.some.inj hr
      refine qJ Tryz.func24 _ (.cons (resTmp rfl (Wk.refl _)) .nil) ?_
      rfl
     ·
      refine r_d rfl rfl rfl (qg rfl qgZ rfl rfl rfl rfl) (r_d rfl rfl rfl (qk rfl rfl (by exact qW) rfl) (r_d rfl rfl rfl (qB rfl rfl rfl rfl) (r_d rfl rfl rfl (qD rfl rfl rfl) (r_d rfl rfl rfl (qb rfl rfl) ?_))))
      refine r_sB 33 rfl hr (fun h33_5 hr => ?_) (fun h33_5 hr => ?_)
      ·
       refine qc rfl rfl rfl (qc rfl rfl rfl (qc rfl rfl rfl (qc rfl rfl rfl (r_d rfl rfl rfl (qy rfl rfl rfl) (r_d rfl rfl rfl (qb rfl rfl) (qc rfl rfl rfl (qc rfl rfl rfl (qc rfl rfl rfl (qc rfl rfl rfl (qc rfl rfl rfl (qc rfl rfl rfl ?_)))))))))))
       refine qc rfl rfl rfl (qc rfl rfl rfl (r_d rfl rfl rfl (qy rfl rfl rfl) (qj (qo rfl (qh (gr [.d] (r_d rfl rfl rfl (qe rfl rfl) (qj ?_))))))))
       obtain rfl := Option.some.inj hr
       refine qJ Tryz.func24 _ (.cons (resTmp rfl (Wk.refl _)) .nil) ?_
       rfl
      ·
       refine r_d rfl rfl rfl (qg rfl qdi rfl rfl rfl rfl) (r_d rfl rfl rfl (qk rfl rfl (by exact qcR) rfl) (r_d rfl rfl rfl (qT (f := qv) m_a1.f2_Log rfl qcd rfl (asl rfl)) (r_d rfl rfl rfl (qB rfl rfl rfl rfl) (r_d rfl rfl rfl (qD rfl rfl rfl) (r_d rfl rfl rfl (qb rfl rfl) ?_)))))
       refine r_sB 39 rfl hr (fun h39_6 hr => ?_) (fun h39_6 hr => ?_)
       ·
        refine qc rfl rfl rfl (qc rfl rfl rfl (qc rfl rfl rfl (qc rfl rfl rfl (qc rfl rfl rfl (qc rfl rfl rfl (qc rfl rfl rfl (qc rfl rfl rfl (r_d rfl rfl rfl (qy rfl rfl rfl) (qj (qo rfl (qh ?_)))))))))))
        refine gr [.d] (r_d rfl rfl rfl (qe rfl rfl) (qj ?_))
        obtain rfl := Option.some.inj hr
        refine qJ Tryz.func24 _ (.cons (resTmp rfl (Wk.refl _)) .nil) ?_
        rfl
       ·
        refine r_d rfl rfl rfl (qg rfl qc2 rfl rfl rfl rfl) (r_d rfl rfl rfl (qk rfl rfl (by exact qaA) rfl) (r_d rfl rfl rfl (qT (f := qu) m_a1.f0_Facts rfl qaf rfl (asl rfl)) (r_d rfl rfl rfl (qg rfl qcp rfl rfl rfl rfl) (r_d rfl rfl rfl (qk rfl rfl (by exact qaA) rfl) (r_d rfl rfl rfl (qT (f := qu) m_a1.f1_Past rfl qaf rfl (asl rfl)) (r_d rfl rfl rfl (qkF rfl rfl rfl rfl) (r_d rfl rfl rfl (qB rfl rfl rfl rfl) (r_d rfl rfl rfl (qD rfl rfl rfl) (qj ?_)))))))))
        refine g_sB 48 rfl hr (fun h48_7 hr => ?_) (fun h48_7 hr => ?_)
        ·
         refine qo rfl (qh (gr [.d] (r_d rfl rfl rfl (qe rfl rfl) (qj ?_))))
         obtain rfl := Option.some.inj hr
         refine qJ Tryz.func24 _ (.cons (resTmp rfl (Wk.refl _)) .nil) ?_
         rfl
        ·
         refine qs rfl (qE (qh (qh (gr [.d, .d, .d, .d, .d, .d, .d, .d, .d, .d, .d, .d, .d, .d] (r_d rfl rfl rfl (qk rfl rfl (by exact qam) (qak _)) (r_d rfl rfl rfl (qk rfl rfl (by exact qeX) (qd6 _)) (r_d rfl rfl rfl (qg rfl qc2 rfl rfl rfl rfl) (r_d rfl rfl rfl (qk rfl rfl (by exact qaA) rfl) ?_))))))))
         obtain ⟨r_9, hr_9, hr⟩ := bindS hr
         refine r_d rfl rfl rfl (qK rfl qh3 (.oc rfl (.oc rfl (.oc rfl .nil))) (qhX fuel _ _ _ _ hr_9)) (r_d rfl rfl rfl (qdO rfl rfl) (r_d rfl rfl rfl (qb rfl rfl) ?_))
         refine r_sB 55 rfl hr (fun h55_9 hr => ?_) (fun h55_9 hr => ?_)
         ·
          refine qc rfl rfl rfl (qc rfl rfl rfl (qc rfl rfl rfl (qc rfl rfl rfl (qc rfl rfl rfl (qc rfl rfl rfl (r_d rfl rfl rfl (qy rfl rfl rfl) (qj (qo rfl (qh (gr [.d] (r_d rfl rfl rfl (qe rfl rfl) ?_)))))))))))
          refine qj ?_
          obtain rfl := Option.some.inj hr
          refine qJ Tryz.func24 _ (.cons (resTmp rfl (Wk.refl _)) .nil) ?_
          rfl
         ·
          refine r_d rfl rfl rfl (qk rfl rfl (by exact qam) (qak _)) (r_d rfl rfl rfl (qk rfl rfl (by exact qeX) (qd6 _)) (r_d rfl rfl rfl (qg rfl qcp rfl rfl rfl rfl) (r_d rfl rfl rfl (qk rfl rfl (by exact qaA) rfl) ?_)))
          obtain ⟨r_11, hr_11, hr⟩ := bindS hr
          refine r_d rfl rfl rfl (qK rfl qh3 (.oc rfl (.oc rfl (.oc rfl .nil))) (qhX fuel _ _ _ _ hr_11)) (r_d rfl rfl rfl (qdO rfl rfl) (r_d rfl rfl rfl (qD rfl rfl rfl) (qj ?_)))
          refine g_sB 62 rfl hr (fun h62_11 hr => ?_) (fun h62_11 hr => ?_)
          ·
           refine qo rfl (qh (gr [.d] (r_d rfl rfl rfl (qe rfl rfl) (qj ?_))))
           obtain rfl := Option.some.inj hr
           refine qJ Tryz.func24 _ (.cons (resTmp rfl (Wk.refl _)) .nil) ?_
           rfl
          ·
           refine qs rfl (qE (qh (qh (gr [.d] (r_d rfl rfl rfl (qe rfl rfl) (qj ?_))))))
           obtain ⟨kk0, hkk0, hr⟩ := exK (fun k => qbo k m_a1 p_a0 m_a1.f2_Log) hr
           refine qdG 35 rfl (asl rfl) fun hla0 => ?_
           simp only [List.length_map] at hla0
           refine qV (fun env σ => env = [(3, .ptr (qx m_a1))] ∧ σ = [] ∧ kk0 = some res) ?_ (fun HK0 => ?_)
           ·
            rintro _ _ ⟨rfl, rfl, hr⟩
            rw [hkk0] at hr
            refine qh (qh (gr [.d] (r_d rfl rfl rfl (qe rfl rfl) (qj ?_))))
            obtain ⟨kk1, hkk1, hr⟩ := exK (fun k => qbx k m_a1 m_a1.f0_Facts) hr
            refine qlc 3 [0] (l := m_a1.f0_Facts.map qu) rfl rfl (asl rfl) fun hla1 => ?_
            simp only [List.length_map] at hla1
            refine qV (fun env σ => env = [(3, .ptr (qx m_a1))] ∧ σ = [] ∧ kk1 = some res) ?_ (fun HK1 => ?_)
            ·
             rintro _ _ ⟨rfl, rfl, hr⟩
             rw [hkk1] at hr
             refine qh (qh (gr [.d] (r_d rfl rfl rfl (qe rfl rfl) (qj ?_))))
             obtain ⟨kk2, hkk2, hr⟩ := exK (fun k => qby k m_a1 m_a1.f1_Past) hr
             refine qlc 3 [1] (l := m_a1.f1_Past.map qu) rfl rfl (asl rfl) fun hla2 => ?_
             simp only [List.length_map] at hla2
             refine qV (fun env σ => env = [] ∧ σ = [] ∧ kk2 = some res) ?_ (fun HK2 => ?_)
             ·
              rintro _ _ ⟨rfl, rfl, hr⟩
              rw [hkk2] at hr
              refine qh (gr [.d] (r_d rfl rfl rfl (qe rfl rfl) (qj ?_)))
              obtain rfl := Option.some.inj hr
              refine qJ Tryz.func24 _ (.cons (resTmp rfl (Wk.refl _)) .nil) ?_
              rfl
             ·
              refine qM [(3, .ptr (qx m_a1)), (9, .int .i64 ((0 : Nat) : Int))] (Sub.cons' rfl (Sub.cons' rfl (Sub.nil _))) (qaM (fun n env σ => ∃ (i_15 : Nat), (n = m_a1.f1_Past.length - i_15) ∧ (env = [(3, .ptr (qx m_a1)), (9, .int .i64 (i_15 : Int))]) ∧ (σ = []) ∧ (i_15 ≤ m_a1.f1_Past.length) ∧ (qby kk2 m_a1 (m_a1.f1_Past.drop i_15) = some res)) _ ⟨0, rfl, rfl, rfl, Nat.zero_le _, hr⟩ ?_)
              rintro n _ _ ⟨i_15, rfl, rfl, rfl, hi2, hr⟩ IH2
              rcases listStep m_a1.f1_Past i_15 hi2 with ⟨ht2, hd2, he2⟩ | ⟨q_16, ht2, hd2, hq2, hlt2⟩
              ·
               rw [hd2, qby] at hr
               refine qh (qh (gr [.d, .d, .d, .d, .d] (r_d rfl rfl rfl (qb rfl rfl) (r_d rfl rfl rfl (qg rfl qcp rfl rfl rfl rfl) (r_d rfl rfl rfl (qk rfl rfl (by exact qaA) rfl) (r_d rfl rfl rfl (qT (f := qu) m_a1.f1_Past rfl qaf rfl (asl rfl)) (r_d rfl rfl rfl (qB rfl rfl rfl rfl) (qj (qC 115 false rfl ht2 (qs rfl (qaw rfl ?_)))))))))))
               refine qM [] (Sub.nil _) ?_
               exact HK2 _ _ ⟨rfl, rfl, hr⟩
              ·
               rw [hd2, qby] at hr
               refine qh (qh (gr [.d, .d, .d, .d, .d] (r_d rfl rfl rfl (qb rfl rfl) (r_d rfl rfl rfl (qg rfl qcp rfl rfl rfl rfl) (r_d rfl rfl rfl (qk rfl rfl (by exact qaA) rfl) (r_d rfl rfl rfl (qT (f := qu) m_a1.f1_Past rfl qaf rfl (asl rfl)) (r_d rfl rfl rfl (qB rfl rfl rfl rfl) (qj (qC 115 true rfl ht2 (qo rfl (qE ?_)))))))))))
               refine qh (q0 (qh (ga [(0, .d), (1, .d), (2, .d), (3, .d), (4, .d), (5, .d), (6, .d), (7, .d), (8, .d), (9, .d), (10, .d), (11, .d), (12, .d), (13, .d), (14, .d), (15, .d), (16, .d), (17, .d), (18, .d), (19, .d), (20, .d), (21, .d)] (r_d rfl rfl rfl (qg rfl qdi rfl rfl rfl rfl) (r_d rfl rfl rfl (qk rfl rfl (by exact qcR) rfl) (r_d rfl rfl rfl (qg rfl qcp rfl rfl rfl rfl) (r_d rfl rfl rfl (qk rfl rfl (by exact qaA) rfl) (r_d rfl rfl rfl (qb rfl rfl) (r_d rfl rfl rfl (qN (f := qu) m_a1.f1_Past rfl qaf rfl (asl rfl) rfl hq2 qai rfl) (r_d rfl rfl rfl (qg rfl qeY rfl rfl rfl rfl) (r_d rfl rfl rfl (qk rfl rfl (by exact qW) rfl) ?_)))))))))))
               obtain ⟨r_17, hr_17, hr⟩ := bindS hr
               refine r_d rfl rfl rfl (qK rfl qf0 (.oc rfl (.oc rfl (.oc rfl .nil))) (qfZ _ _ _ _ hr_17)) (r_d rfl rfl rfl (qB rfl rfl rfl rfl) (r_d rfl rfl rfl (qb rfl rfl) ?_))
               refine r_sB 128 rfl hr (fun h128_17 hr => ?_) (fun h128_17 hr => ?_)
               ·
                refine qc rfl rfl rfl (qc rfl rfl rfl (qc rfl rfl rfl (qc rfl rfl rfl (qc rfl rfl rfl (qc rfl rfl rfl (qc rfl rfl rfl (qc rfl rfl rfl (qc rfl rfl rfl (qc rfl rfl rfl (r_d rfl rfl rfl (qy rfl rfl rfl) (qj ?_)))))))))))
                refine qo rfl (qh (gr [.d] (r_d rfl rfl rfl (qe rfl rfl) (qj ?_))))
                obtain rfl := Option.some.inj hr
                refine qJ Tryz.func24 _ (.cons (resTmp rfl (Wk.refl _)) .nil) ?_
                rfl
               ·
                refine r_d rfl rfl rfl (qg rfl qdi rfl rfl rfl rfl) (r_d rfl rfl rfl (qk rfl rfl (by exact qcR) rfl) (r_d rfl rfl rfl (qg rfl qcp rfl rfl rfl rfl) (r_d rfl rfl rfl (qk rfl rfl (by exact qaA) rfl) (r_d rfl rfl rfl (qb rfl rfl) (r_d rfl rfl rfl (qN (f := qu) m_a1.f1_Past rfl qaf rfl (asl rfl) rfl hq2 qai rfl) (r_d rfl rfl rfl (qg rfl qeY rfl rfl rfl rfl) (r_d rfl rfl rfl (qk rfl rfl (by exact qW) rfl) ?_)))))))
                obtain ⟨r_19, hr_19, hr⟩ := bindS hr
                refine r_d rfl rfl rfl (qK rfl qf0 (.oc rfl (.oc rfl (.oc rfl .nil))) (qfZ _ _ _ _ hr_19)) (r_d rfl rfl rfl (qB rfl rfl rfl rfl) (r_d rfl rfl rfl (qD rfl rfl rfl) (qj ?_)))
                refine g_sB 139 rfl hr (fun h139_19 hr => ?_) (fun h139_19 hr => ?_)
                ·
                 refine qo rfl (qh (gr [.d] (r_d rfl rfl rfl (qe rfl rfl) (qj ?_))))
                 obtain rfl := Option.some.inj hr
                 refine qJ Tryz.func24 _ (.cons (resTmp rfl (Wk.refl _)) .nil) ?_
                 rfl
                ·
                 refine qs rfl (qE (qF (gr [.d, .d, .d] (r_d rfl rfl rfl (qb rfl rfl) (r_d rfl rfl rfl (s_ar (r := ((i_15 + 1 : Nat) : Int)) rfl rfl rfl (by simp [iar]) (by omega)) (r_d rfl rfl rfl (qe rfl rfl) (qj (qM [(3, .ptr (qx m_a1)), (9, .int .i64 ((i_15 + 1 : Nat) : Int))] (Sub.cons' rfl (Sub.cons' rfl (Sub.nil _))) ?_))))))))
                 exact IH2 _ _ _ (by omega) ⟨(i_15 + 1), rfl, rfl, rfl, (by omega), hr⟩
            ·
             refine qM [(3, .ptr (qx m_a1)), (6, .int .i64 ((0 : Nat) : Int))] (Sub.cons' rfl (Sub.cons' rfl (Sub.nil _))) (qaM (fun n env σ => ∃ (i_14 : Nat), (n = m_a1.f0_Facts.length - i_14) ∧ (env = [(3, .ptr (qx m_a1)), (6, .int .i64 (i_14 : Int))]) ∧ (σ = []) ∧ (i_14 ≤ m_a1.f0_Facts.length) ∧ (qbx kk1 m_a1 (m_a1.f0_Facts.drop i_14) = some res)) _ ⟨0, rfl, rfl, rfl, Nat.zero_le _, hr⟩ ?_)
             rintro n _ _ ⟨i_14, rfl, rfl, rfl, hi1, hr⟩ IH1
             rcases listStep m_a1.f0_Facts i_14 hi1 with ⟨ht1, hd1, he1⟩ | ⟨q_21, ht1, hd1, hq1, hlt1⟩
             ·
              rw [hd1, qbx] at hr
              refine qh (qh (gr [.d, .d, .d, .d, .d] (r_d rfl rfl rfl (qb rfl rfl) (r_d rfl rfl rfl (qg rfl qc2 rfl rfl rfl rfl) (r_d rfl rfl rfl (qk rfl rfl (by exact qaA) rfl) (r_d rfl rfl rfl (qT (f := qu) m_a1.f0_Facts rfl qaf rfl (asl rfl)) (r_d rfl rfl rfl (qB rfl rfl rfl rfl) (qj (qC 83 false rfl ht1 (qs rfl (qaw rfl ?_)))))))))))
              refine qM [(3, .ptr (qx m_a1))] (Sub.cons' rfl (Sub.nil _)) ?_
              exact HK1 _ _ ⟨rfl, rfl, hr⟩
             ·
              rw [hd1, qbx] at hr
              refine qh (qh (gr [.d, .d, .d, .d, .d] (r_d rfl rfl rfl (qb rfl rfl) (r_d rfl rfl rfl (qg rfl qc2 rfl rfl rfl rfl) (r_d rfl rfl rfl (qk rfl rfl (by exact qaA) rfl) (r_d rfl rfl rfl (qT (f := qu) m_a1.f0_Facts rfl qaf rfl (asl rfl)) (r_d rfl rfl rfl (qB rfl rfl rfl rfl) (qj (qC 83 true rfl ht1 (qo rfl (qE ?_)))))))))))
              refine qh (q0 (qh (ga [(0, .d), (1, .d), (2, .d), (3, .d), (4, .d), (5, .d), (6, .d), (7, .d), (8, .d), (9, .d), (10, .d), (11, .d), (12, .w), (13, .w), (14, .d)] (r_d rfl rfl rfl (qg rfl qcp rfl rfl rfl rfl) (r_d rfl rfl rfl (qk rfl rfl (by exact qaA) rfl) (r_d rfl rfl rfl (qg rfl qc2 rfl rfl rfl rfl) (r_d rfl rfl rfl (qk rfl rfl (by exact qaA) rfl) (r_d rfl rfl rfl (qb rfl rfl) (r_d rfl rfl rfl (qN (f := qu) m_a1.f0_Facts rfl qaf rfl (asl rfl) rfl hq1 qai rfl) (r_d rfl rfl rfl (qg rfl qeY rfl rfl rfl rfl) (r_d rfl rfl rfl (qk rfl rfl (by exact qW) rfl) ?_)))))))))))
              obtain ⟨r_22, hr_22, hr⟩ := bindS hr
              refine r_d rfl rfl rfl (qK rfl qfp (.oc rfl (.oc rfl .nil)) (qfs _ _ _ hr_22)) (r_d rfl rfl rfl (qb rfl rfl) (r_d rfl rfl rfl (qaH rfl rfl rfl) (r_d rfl rfl rfl (qaH rfl rfl rfl) (r_w rfl rfl rfl (qa8 rfl qgq) ?_))))
              rintro _ _ ⟨b7_22, rfl, rfl⟩
              refine qbE rfl rfl rfl (qag _ rfl rfl rfl (Wk.refl _) (pf0 _) (by exact qcH) (qai _) (by first | rfl | simp [sz, szs, qdC, qan]) rfl) (r_d rfl rfl rfl (qe rfl rfl) (qj (qaT 7 b7_22 rfl (pf0 _) (qh (ga [(0, .d), (1, .d), (2, .d), (3, .d), (4, .d), (5, .d), (6, .d), (7, .d), (8, .d), (9, .d), (10, .d), (11, .d), (12, .d)] (r_d rfl rfl rfl (qb rfl rfl) (r_d rfl rfl rfl (qb rfl rfl) ?_)))))))
              refine r_sB 99 rfl hr (fun h99_23 hr => ?_) (fun h99_23 hr => ?_)
              ·
               refine qc rfl rfl rfl (qc rfl rfl rfl (qc rfl rfl rfl (qc rfl rfl rfl (qc rfl rfl rfl (qc rfl rfl rfl (qc rfl rfl rfl (qc rfl rfl rfl (qc rfl rfl rfl (qc rfl rfl rfl (r_d rfl rfl rfl (qy rfl rfl rfl) (qj ?_)))))))))))
               refine qo rfl (qh (gr [.d] (r_d rfl rfl rfl (qe rfl rfl) (qj ?_))))
               obtain rfl := Option.some.inj hr
               refine qJ Tryz.func24 _ (.cons (resTmp rfl (Wk.refl _)) .nil) ?_
               rfl
              ·
               refine r_d rfl rfl rfl (qg rfl qdi rfl rfl rfl rfl) (r_d rfl rfl rfl (qk rfl rfl (by exact qcR) rfl) (r_d rfl rfl rfl (qg rfl qc2 rfl rfl rfl rfl) (r_d rfl rfl rfl (qk rfl rfl (by exact qaA) rfl) (r_d rfl rfl rfl (qb rfl rfl) (r_d rfl rfl rfl (qN (f := qu) m_a1.f0_Facts rfl qaf rfl (asl rfl) rfl hq1 qai rfl) (r_d rfl rfl rfl (qg rfl qeY rfl rfl rfl rfl) (r_d rfl rfl rfl (qk rfl rfl (by exact qW) rfl) ?_)))))))
               obtain ⟨r_25, hr_25, hr⟩ := bindS hr
               refine r_d rfl rfl rfl (qK rfl qf0 (.oc rfl (.oc rfl (.oc rfl .nil))) (qfZ _ _ _ _ hr_25)) (r_d rfl rfl rfl (qB rfl rfl rfl rfl) (r_d rfl rfl rfl (qD rfl rfl rfl) (qj ?_)))
               refine g_sB 110 rfl hr (fun h110_25 hr => ?_) (fun h110_25 hr => ?_)
               ·
                refine qo rfl (qh (gr [.d] (r_d rfl rfl rfl (qe rfl rfl) (qj ?_))))
                obtain rfl := Option.some.inj hr
                refine qJ Tryz.func24 _ (.cons (resTmp rfl (Wk.refl _)) .nil) ?_
                rfl
               ·
                refine qs rfl (qE (qF (gr [.d, .d, .d] (r_d rfl rfl rfl (qb rfl rfl) (r_d rfl rfl rfl (s_ar (r := ((i_14 + 1 : Nat) : Int)) rfl rfl rfl (by simp [iar]) (by omega)) (r_d rfl rfl rfl (qe rfl rfl) (qj (qM [(3, .ptr (qx m_a1)), (6, .int .i64 ((i_14 + 1 : Nat) : Int))] (Sub.cons' rfl (Sub.cons' rfl (Sub.nil _))) ?_))))))))
                exact IH1 _ _ _ (by omega) ⟨(i_14 + 1), rfl, rfl, rfl, (by omega), hr⟩
           ·
            refine qM [(2, .ptr (qn p_a0)), (3, .ptr (qx m_a1)), (5, .int .i64 ((0 : Nat) : Int))] (Sub.cons' rfl (Sub.cons' rfl (Sub.cons' rfl (Sub.nil _)))) (qaM (fun n env σ => ∃ (i_13 : Nat), (n = m_a1.f2_Log.length - i_13) ∧ (env = [(2, .ptr (qn p_a0)), (3, .ptr (qx m_a1)), (5, .int .i64 (i_13 : Int))]) ∧ (σ = []) ∧ (i_13 ≤ m_a1.f2_Log.length) ∧ (qbo kk0 m_a1 p_a0 (m_a1.f2_Log.drop i_13) = some res)) _ ⟨0, rfl, rfl, rfl, Nat.zero_le _, hr⟩ ?_)
            rintro n _ _ ⟨i_13, rfl, rfl, rfl, hi0, hr⟩ IH0
            rcases listStep m_a1.f2_Log i_13 hi0 with ⟨ht0, hd0, he0⟩ | ⟨q_27, ht0, hd0, hq0, hlt0⟩
            ·
             rw [hd0, qbo] at hr
             refine qh (qh (gr [.d, .d, .d, .d, .d] (r_d rfl rfl rfl (qb rfl rfl) (r_d rfl rfl rfl (qg rfl qdi rfl rfl rfl rfl) (r_d rfl rfl rfl (qk rfl rfl (by exact qcR) rfl) (r_d rfl rfl rfl (qT (f := qv) m_a1.f2_Log rfl qcd rfl (asl rfl)) (r_d rfl rfl rfl (qB rfl rfl rfl rfl) (qj (qC 67 false rfl ht0 (qs rfl (qaw rfl ?_)))))))))))
             refine qM [(3, .ptr (qx m_a1))] (Sub.cons' rfl (Sub.nil _)) ?_
             exact HK0 _ _ ⟨rfl, rfl, hr⟩
            ·
             rw [hd0, qbo] at hr
             refine qh (qh (gr [.d, .d, .d, .d, .d] (r_d rfl rfl rfl (qb rfl rfl) (r_d rfl rfl rfl (qg rfl qdi rfl rfl rfl rfl) (r_d rfl rfl rfl (qk rfl rfl (by exact qcR) rfl) (r_d rfl rfl rfl (qT (f := qv) m_a1.f2_Log rfl qcd rfl (asl rfl)) (r_d rfl rfl rfl (qB rfl rfl rfl rfl) (qj (qC 67 true rfl ht0 (qo rfl (qE ?_)))))))))))
             refine qh (q0 (qh (ga [(0, .d), (1, .d), (2, .d), (3, .d), (4, .d), (5, .d), (6, .d), (7, .d), (8, .d)] (r_d rfl rfl rfl (qk rfl rfl (by exact qam) (qak _)) (r_d rfl rfl rfl (qk rfl rfl (by exact qeX) (qd6 _)) (r_d rfl rfl rfl (qg rfl qdi rfl rfl rfl rfl) (r_d rfl rfl rfl (qk rfl rfl (by exact qcR) rfl) (r_d rfl rfl rfl (qb rfl rfl) (r_d rfl rfl rfl (qN (f := qv) m_a1.f2_Log rfl qcd rfl (asl rfl) rfl hq0 qdh rfl) (r_d rfl rfl rfl (qk rfl rfl (by exact qgF) (qdh _)) ?_))))))))))
             obtain ⟨r_28, hr_28, hr⟩ := bindS hr
             refine r_d rfl rfl rfl (qK rfl qj9 (.oc rfl (.oc rfl (.oc rfl .nil))) (qkp _ _ _ _ hr_28)) (r_d rfl rfl rfl (qdO rfl rfl) (qj ?_))
             refine g_sB 78 rfl hr (fun h78_28 hr => ?_) (fun h78_28 hr => ?_)
             ·
              refine qo rfl (qh (gr [.d] (r_d rfl rfl rfl (qe rfl rfl) (qj ?_))))
              obtain rfl := Option.some.inj hr
              refine qJ Tryz.func24 _ (.cons (resTmp rfl (Wk.refl _)) .nil) ?_
              rfl
             ·
              refine qs rfl (qE (qF (gr [.d, .d, .d] (r_d rfl rfl rfl (qb rfl rfl) (r_d rfl rfl rfl (s_ar (r := ((i_13 + 1 : Nat) : Int)) rfl rfl rfl (by simp [iar]) (by omega)) (r_d rfl rfl rfl (qe rfl rfl) (qj (qM [(2, .ptr (qn p_a0)), (3, .ptr (qx m_a1)), (5, .int .i64 ((i_13 + 1 : Nat) : Int))] (Sub.cons' rfl (Sub.cons' rfl (Sub.cons' rfl (Sub.nil _)))) ?_))))))))
              exact IH0 _ _ _ (by omega) ⟨(i_13 + 1), rfl, rfl, rfl, (by omega), hr⟩
noncomputable def qdm (fuel : Nat) (p_a0 : qI) (c_a1 : qar) (m_a2 : qab) : Option (Bool) :=
  ((qdz p_a0).bind fun r_1 =>
  (bif (!r_1) then
  ((qau fuel).bind fun r_3 =>
  some (r_3))
  else
  ((qeg c_a1).bind fun r_4 =>
  (bif (!r_4) then
  ((qau fuel).bind fun r_6 =>
  some (r_6))
  else
  ((qeQ m_a2).bind fun r_7 =>
  (bif (!r_7) then
  ((qau fuel).bind fun r_9 =>
  some (r_9))
  else
  ((qet fuel p_a0 c_a1).bind fun r_10 =>
  (bif r_10 then
  ((qey fuel c_a1).bind fun r_12 =>
  (bif ((r_12.length : Int) == (0 : Int)) then
  some (false)
  else
  ((qc3 fuel p_a0 m_a2).bind fun r_14 =>
  (bif r_14 then
  ((qdQ fuel m_a2).bind fun r_16 =>
  (bif ((r_16.length : Int) == (0 : Int)) then
  some (false)
  else
  ((qau fuel).bind fun r_18 =>
  some (r_18))))
  else
  ((qau fuel).bind fun r_19 =>
  some (r_19))))))
  else
  ((qc3 fuel p_a0 m_a2).bind fun r_20 =>
  (bif r_20 then
  ((qdQ fuel m_a2).bind fun r_22 =>
  (bif ((r_22.length : Int) == (0 : Int)) then
  some (false)
  else
  ((qau fuel).bind fun r_24 =>
  some (r_24))))
  else
  ((qau fuel).bind fun r_25 =>
  some (r_25))))))))))))
set_option maxHeartbeats 1000000 in
theorem qir (fuel : Nat) (p_a0 : qI) (c_a1 : qar) (m_a2 : qab) (res : Bool) (hr : qdm fuel p_a0 c_a1 m_a2 = some res) : Gives Tryz.prog 6 [qn p_a0, qae c_a1, qx m_a2] (.bool res) := by
  unfold qdm at hr
  refine qR [(0, qn p_a0), (1, qae c_a1), (2, qx m_a2)] Tryz.func6 rfl rfl fun K hK => (qh (gr [.d, .d, .d, .d] (r_d rfl rfl rfl (qef rfl rfl rfl) (r_d rfl rfl rfl (qef rfl rfl rfl) (r_d rfl rfl rfl (qef rfl rfl rfl) (r_d rfl rfl rfl (qe rfl rfl) (qj (qh (qh (gr [.d, .d, .d, .d, .d, .d, .d, .d, .d, .d, .d, .d, .d] (r_d rfl rfl rfl (qk rfl rfl (by exact qam) (qak _)) ?_)))))))))))
  obtain ⟨r_1, hr_1, hr⟩ := bindS hr
  refine r_d rfl rfl rfl (qK rfl qjE (.oc rfl .nil) (qjj _ _ hr_1)) (r_d rfl rfl rfl (qdO rfl rfl) (r_d rfl rfl rfl (qb rfl rfl) ?_))
  refine r_sB 10 rfl hr (fun h10_1 hr => ?_) (fun h10_1 hr => ?_)
  ·
   refine qc rfl rfl rfl (qc rfl rfl rfl (qc rfl rfl rfl (r_d rfl rfl rfl (qy rfl rfl rfl) (r_d rfl rfl rfl (qb rfl rfl) (qc rfl rfl rfl (qc rfl rfl rfl (qc rfl rfl rfl (r_d rfl rfl rfl (qy rfl rfl rfl) (qj (qo rfl (qh ?_)))))))))))
   refine gr [.d, .d] ?_
   obtain ⟨r_3, hr_3, hr⟩ := bindS hr
   refine r_d rfl rfl rfl (qK rfl qbS .nil (qbR fuel _ hr_3)) (r_d rfl rfl rfl (qe rfl rfl) (qj ?_))
   obtain rfl := Option.some.inj hr
   refine qJ Tryz.func6 _ (.cons (resTmp rfl (Wk.refl _)) .nil) ?_
   rfl
  ·
   refine r_d rfl rfl rfl (qk rfl rfl (by exact qcA) (qc0 _)) ?_
   obtain ⟨r_4, hr_4, hr⟩ := bindS hr
   refine r_d rfl rfl rfl (qK rfl qkd (.oc rfl .nil) (qkg _ _ hr_4)) (r_d rfl rfl rfl (qdO rfl rfl) (r_d rfl rfl rfl (qD rfl rfl rfl) (r_d rfl rfl rfl (qb rfl rfl) ?_)))
   refine r_sB 15 rfl hr (fun h15_4 hr => ?_) (fun h15_4 hr => ?_)
   ·
    refine qc rfl rfl rfl (qc rfl rfl rfl (qc rfl rfl rfl (r_d rfl rfl rfl (qy rfl rfl rfl) (qj (qo rfl (qh (gr [.d, .d] ?_)))))))
    obtain ⟨r_6, hr_6, hr⟩ := bindS hr
    refine r_d rfl rfl rfl (qK rfl qbS .nil (qbR fuel _ hr_6)) (r_d rfl rfl rfl (qe rfl rfl) (qj ?_))
    obtain rfl := Option.some.inj hr
    refine qJ Tryz.func6 _ (.cons (resTmp rfl (Wk.refl _)) .nil) ?_
    rfl
   ·
    refine r_d rfl rfl rfl (qk rfl rfl (by exact qeX) (qd6 _)) ?_
    obtain ⟨r_7, hr_7, hr⟩ := bindS hr
    refine r_d rfl rfl rfl (qK rfl qlq (.oc rfl .nil) (qlm _ _ hr_7)) (r_d rfl rfl rfl (qdO rfl rfl) (r_d rfl rfl rfl (qD rfl rfl rfl) (qj ?_)))
    refine g_sB 19 rfl hr (fun h19_7 hr => ?_) (fun h19_7 hr => ?_)
    ·
     refine qo rfl (qh (gr [.d, .d] ?_))
     obtain ⟨r_9, hr_9, hr⟩ := bindS hr
     refine r_d rfl rfl rfl (qK rfl qbS .nil (qbR fuel _ hr_9)) (r_d rfl rfl rfl (qe rfl rfl) (qj ?_))
     obtain rfl := Option.some.inj hr
     refine qJ Tryz.func6 _ (.cons (resTmp rfl (Wk.refl _)) .nil) ?_
     rfl
    ·
     refine qs rfl (qE (qh (qh (gr [.d, .d, .d, .d, .d, .d, .d, .d, .d, .d, .d, .d, .d, .d, .d, .d, .d, .d, .d, .d] (r_d rfl rfl rfl (qk rfl rfl (by exact qam) (qak _)) (r_d rfl rfl rfl (qk rfl rfl (by exact qcA) (qc0 _)) ?_))))))
     obtain ⟨r_10, hr_10, hr⟩ := bindS hr
     refine r_d rfl rfl rfl (qK rfl qkq (.oc rfl (.oc rfl .nil)) (qkn fuel _ _ _ hr_10)) (r_d rfl rfl rfl (qb rfl rfl) ?_)
     refine r_sB 24 rfl hr (fun h24_10 hr => ?_) (fun h24_10 hr => ?_)
     ·
      refine r_d rfl rfl rfl (qk rfl rfl (by exact qcA) (qc0 _)) ?_
      obtain ⟨r_12, hr_12, hr⟩ := bindS hr
      refine r_d rfl rfl rfl (qK rfl qix (.oc rfl .nil) (qiz fuel _ _ hr_12)) (r_d rfl rfl rfl (qT (f := (D.int .u8)) r_12 rfl qeO rfl (asl rfl)) (r_d rfl rfl rfl (qB rfl rfl rfl rfl) (r_d rfl rfl rfl (qy rfl rfl rfl) (r_d rfl rfl rfl (qb rfl rfl) ?_))))
      refine r_sB 30 rfl hr (fun h30_12 hr => ?_) (fun h30_12 hr => ?_)
      ·
       refine qc rfl rfl rfl (qc rfl rfl rfl (qc rfl rfl rfl (qc rfl rfl rfl (qc rfl rfl rfl (qc rfl rfl rfl (qc rfl rfl rfl (qc rfl rfl rfl (qc rfl rfl rfl (r_d rfl rfl rfl (qy rfl rfl rfl) (qj (qo rfl ?_)))))))))))
       refine qh (gr [.d] (r_d rfl rfl rfl (qe rfl rfl) (qj ?_)))
       obtain rfl := Option.some.inj hr
       refine qJ Tryz.func6 _ (.cons (resTmp rfl (Wk.refl _)) .nil) ?_
       rfl
      ·
       refine r_d rfl rfl rfl (qk rfl rfl (by exact qam) (qak _)) (r_d rfl rfl rfl (qk rfl rfl (by exact qeX) (qd6 _)) ?_)
       obtain ⟨r_14, hr_14, hr⟩ := bindS hr
       refine r_d rfl rfl rfl (qK rfl qid (.oc rfl (.oc rfl .nil)) (qhZ fuel _ _ _ hr_14)) (r_d rfl rfl rfl (qb rfl rfl) ?_)
       refine r_sB 34 rfl hr (fun h34_14 hr => ?_) (fun h34_14 hr => ?_)
       ·
        refine r_d rfl rfl rfl (qk rfl rfl (by exact qeX) (qd6 _)) ?_
        obtain ⟨r_16, hr_16, hr⟩ := bindS hr
        refine r_d rfl rfl rfl (qK rfl qip (.oc rfl .nil) (qiv fuel _ _ hr_16)) (r_d rfl rfl rfl (qT (f := (D.int .u8)) r_16 rfl qeO rfl (asl rfl)) (r_d rfl rfl rfl (qB rfl rfl rfl rfl) (r_d rfl rfl rfl (qy rfl rfl rfl) (r_d rfl rfl rfl (qD rfl rfl rfl) (qj ?_)))))
        refine g_sB 40 rfl hr (fun h40_16 hr => ?_) (fun h40_16 hr => ?_)
        ·
         refine qo rfl (qh (gr [.d] (r_d rfl rfl rfl (qe rfl rfl) (qj ?_))))
         obtain rfl := Option.some.inj hr
         refine qJ Tryz.func6 _ (.cons (resTmp rfl (Wk.refl _)) .nil) ?_
         rfl
        ·
         refine qs rfl (qE (qh (gr [.d, .d] ?_)))
         obtain ⟨r_18, hr_18, hr⟩ := bindS hr
         refine r_d rfl rfl rfl (qK rfl qbS .nil (qbR fuel _ hr_18)) (r_d rfl rfl rfl (qe rfl rfl) (qj ?_))
         obtain rfl := Option.some.inj hr
         refine qJ Tryz.func6 _ (.cons (resTmp rfl (Wk.refl _)) .nil) ?_
         rfl
       ·
        refine qc rfl rfl rfl (qc rfl rfl rfl (qc rfl rfl rfl (qc rfl rfl rfl (r_d rfl rfl rfl (qD rfl rfl rfl) (r_d rfl rfl rfl (qD rfl rfl rfl) (qj (qs rfl (qE (qh (gr [.d, .d] ?_))))))))))
        obtain ⟨r_19, hr_19, hr⟩ := bindS hr
        refine r_d rfl rfl rfl (qK rfl qbS .nil (qbR fuel _ hr_19)) (r_d rfl rfl rfl (qe rfl rfl) (qj ?_))
        obtain rfl := Option.some.inj hr
        refine qJ Tryz.func6 _ (.cons (resTmp rfl (Wk.refl _)) .nil) ?_
        rfl
     ·
      refine qc rfl rfl rfl (qc rfl rfl rfl (qc rfl rfl rfl (qc rfl rfl rfl (r_d rfl rfl rfl (qD rfl rfl rfl) (r_d rfl rfl rfl (qb rfl rfl) (r_d rfl rfl rfl (qk rfl rfl (by exact qam) (qak _)) (r_d rfl rfl rfl (qk rfl rfl (by exact qeX) (qd6 _)) ?_)))))))
      obtain ⟨r_20, hr_20, hr⟩ := bindS hr
      refine r_d rfl rfl rfl (qK rfl qid (.oc rfl (.oc rfl .nil)) (qhZ fuel _ _ _ hr_20)) (r_d rfl rfl rfl (qb rfl rfl) ?_)
      refine r_sB 34 rfl hr (fun h34_20 hr => ?_) (fun h34_20 hr => ?_)
      ·
       refine r_d rfl rfl rfl (qk rfl rfl (by exact qeX) (qd6 _)) ?_
       obtain ⟨r_22, hr_22, hr⟩ := bindS hr
       refine r_d rfl rfl rfl (qK rfl qip (.oc rfl .nil) (qiv fuel _ _ hr_22)) (r_d rfl rfl rfl (qT (f := (D.int .u8)) r_22 rfl qeO rfl (asl rfl)) (r_d rfl rfl rfl (qB rfl rfl rfl rfl) (r_d rfl rfl rfl (qy rfl rfl rfl) (r_d rfl rfl rfl (qD rfl rfl rfl) (qj ?_)))))
       refine g_sB 40 rfl hr (fun h40_22 hr => ?_) (fun h40_22 hr => ?_)
       ·
        refine qo rfl (qh (gr [.d] (r_d rfl rfl rfl (qe rfl rfl) (qj ?_))))
        obtain rfl := Option.some.inj hr
        refine qJ Tryz.func6 _ (.cons (resTmp rfl (Wk.refl _)) .nil) ?_
        rfl
       ·
        refine qs rfl (qE (qh (gr [.d, .d] ?_)))
        obtain ⟨r_24, hr_24, hr⟩ := bindS hr
        refine r_d rfl rfl rfl (qK rfl qbS .nil (qbR fuel _ hr_24)) (r_d rfl rfl rfl (qe rfl rfl) (qj ?_))
        obtain rfl := Option.some.inj hr
        refine qJ Tryz.func6 _ (.cons (resTmp rfl (Wk.refl _)) .nil) ?_
        rfl
      ·
       refine qc rfl rfl rfl (qc rfl rfl rfl (qc rfl rfl rfl (qc rfl rfl rfl (r_d rfl rfl rfl (qD rfl rfl rfl) (r_d rfl rfl rfl (qD rfl rfl rfl) (qj (qs rfl (qE (qh (gr [.d, .d] ?_))))))))))
       obtain ⟨r_25, hr_25, hr⟩ := bindS hr
       refine r_d rfl rfl rfl (qK rfl qbS .nil (qbR fuel _ hr_25)) (r_d rfl rfl rfl (qe rfl rfl) (qj ?_))
       obtain rfl := Option.some.inj hr
       refine qJ Tryz.func6 _ (.cons (resTmp rfl (Wk.refl _)) .nil) ?_
       rfl
end Go.Proofs.YtdoljfkjdfaakaaGreat
