/-
 Texts of the seat, merged.
-/
import Derived.Test.YtabbfihjeppbhaaGreatLMA
import Derived.Test.YtabbfihjeppbhaaGreatLMB
import Derived.Test.YtabbfihjeppbhaaGreatLMC
import Derived.Test.YtabbfihjeppbhaaGreatLMD
import Derived.Test.YtabbfihjeppbhaaGreatLME
import Derived.Test.YtabbfihjeppbhaaGreatLMF
import Derived.Test.YtabbfihjeppbhaaGreatLMG
import Derived.Test.YtabbfihjeppbhaaGreatLMH
import Derived.Test.YtabbfihjeppbhaaGreatChecked
import Derived.WalkKit
import Derived.Lib.Hide
import Derived.Lib.AppendStr
import Derived.Deep.AppendLies
import Derived.Deep.AppendSrc
import Derived.Deep.Draws
import Derived.Deep.QuietTactic
import Derived.BigQuiet
import Derived.Deep.RegionWith
import Derived.Maps.AppendAt
import Derived.WalkSpells
import Derived.Orders
import Derived.Deep.Slices
import Derived.Deep.Fields
import Derived.ChangeArms
import Derived.Lib.OthersKept
import Derived.Lib.TrimU
import Derived.Lib.IndexAny
import Derived.Deep.LoopGhost
import Derived.Lib.Bytealg
import Derived.RangeFuncBox
import Derived.RangeFuncNested
import Derived.RangeFuncBound
import Derived.RangeFuncCalls
import Derived.RangeFuncLeaves
import Derived.Shelf.Abstract
import Derived.OwnWalkIn
import Derived.TacticsInMore
import Derived.LoopNIn
import Derived.LoopIn
import Derived.RangeFuncWrites
import Derived.Maps.OwnIn
import Derived.Maps.Views
import Derived.Laws.OwnMore
import Derived.Maps.OwnSet
import Derived.Test.YtabbfihjeppbhaaGreatRows
import Derived.ProofKit
import Derived.OpenShut
import Derived.Carry
import Derived.OrdersIn
import Derived.Great.BuildSlice
import Derived.ArgAppend
import Derived.Laws.MakeOwn
import Derived.Laws.Cover3
import Derived.Laws.CopyRow
import Derived.MapKept
import Derived.Maps.RangeRun
import Derived.DeepKeys5
import Derived.WideKeyRuns
import Derived.RangeFuncOwn
import Derived.Lib.AppendZeros
set_option linter.unusedVariables false
set_option linter.unusedSimpArgs false
set_option linter.unnecessarySimpa false
set_option linter.all false
namespace Go.Proofs.YtabbfihjeppbhaaGreat
set_option maxRecDepth 100000
open Go.RowKit
set_option maxHeartbeats 1000000 in
theorem qgW (fuel : Nat) (a_a0 : (List T)) (b_a1 : (List T)) (res : (List (Int × T)) × Int) (hr : qcF fuel a_a0 b_a1 = some res) : zi Tryz.prog 114 [.lst (a_a0.map ze), .lst (b_a1.map ze)] (.tup [.lst (res.1.map zp), .int .i64 res.2]) := by
 unfold qcF at hr
 refine q7 [(0, .lst (a_a0.map ze)), (1, .lst (b_a1.map ze))] Tryz.func114 rfl rfl fun K hK => (qk (gr [.w, .d] (ew rfl (qb8 123 5 (.inl rfl)) ?_)))
 rintro _ _ ⟨u4_0, rfl, rfl⟩
 refine rc rfl (qg (qk (qiY 141 4 (qrA 3 1 (by decide) (gr [.d, .w, .d] (rd rfl (qbj rfl qfD .nil (.nil _)) (ew rfl (qib rfl rfl rfl) ?_)))))))
 rintro _ _ ⟨b19_1, rfl, rfl⟩
 refine rc rfl (qg (qk (qk (gr [.d] (rc rfl (qg ?_))))))
 obtain ⟨kk0, hkk0, hr⟩ := exK (fun k => qa5 k b_a1 fuel a_a0 0 [] []) hr
 refine qfb 0 rfl (asl rfl) fun hla0 => ?_
 simp only [List.length_map] at hla0
 refine qaW (fun env σ => ∃ (t19_10 : (List ql)) (t19_11 : (List Int)) (u_8 : Value) (u_9 : Value), env = [(6, .ref b19_1 0 [])] ∧ σ = [.cell b19_1 (.agg [.own u_8 (t19_10.map qa), .vec u_9 t19_11.length]), .row u_8 t19_10.length 141 4, .vec u_9 (t19_11.map (D.int .i64)) 3 1] ∧ kk0 t19_10 t19_11 = some res) ?_ (fun HK0 => ?_)
 ·
  rintro _ _ ⟨t19_10, t19_11, u_8, u_9, rfl, rfl, hr⟩
  rw [hkk0] at hr
  refine qk (gr [.d, .r, .d, .d, .d, .d, .d] (rf rfl ?_))
  obtain ⟨r_12, hr_12, hr⟩ := zb hr
  refine er rfl (qdZ _ rfl qfe (.oc rfl .nil) (by exact (((pf2 _ _ _ _).trans (pf2 _ _ _ _)).trans (pf2 _ _ _ _))) (qeI fuel _ _ _ _ _ _ hr_12)) ?_
  refine rf rfl (rd rfl (qbi rfl rfl rfl) (rd rfl (qbi rfl rfl rfl) (rc rfl (rc rfl (qg (qk (qk (gr [.d, .d] (rf rfl (rd rfl (qdN rfl rfl) (qg ?_)))))))))))
  refine zq 49 rfl hr (fun h49_12 hr => ?_) (fun h49_12 hr => ?_)
  ·
   refine qy rfl (qk (gr [.w, .d] (ew rfl (qb8 123 5 (.inl rfl)) ?_)))
   rintro _ _ ⟨u4_13, rfl, rfl⟩
   refine rc rfl (qg ?_)
   obtain rfl := Option.some.inj hr
   refine qS Tryz.func114 _ (.cons (za rfl (Wk.own _ _)) (.cons (za rfl (Wk.refl _)) .nil)) ?_
   rfl
  ·
   refine qA rfl (qU (qk (gr [.w] (ew rfl (qb8 123 5 (.inl rfl)) ?_))))
   rintro _ _ ⟨u12_14, rfl, rfl⟩
   refine qg (qk (qk (gr [.d] (rc rfl (qg ?_)))))
   obtain ⟨kk1, hkk1, hr⟩ := exK (fun k => qaL k fuel r_12 fuel [] 0 t19_10 t19_11) hr
   refine qaW (fun env σ => ∃ (out_24 : (List (Int × T))) (u_23 : Value), env = [(12, .own u_23 (out_24.map zp))] ∧ σ = [.row u_23 out_24.length 123 5] ∧ kk1 out_24 = some res) ?_ (fun HK1 => ?_)
   ·
    rintro _ _ ⟨out_24, u_23, rfl, rfl, hr⟩
    rw [hkk1] at hr
    refine qk (gr [.d, .d, .d] (rf rfl (rc rfl (rc rfl (qg ?_)))))
    obtain rfl := Option.some.inj hr
    refine qS Tryz.func114 _ (.cons (za rfl (Wk.own _ _)) (.cons (za rfl (Wk.refl _)) .nil)) ?_
    rfl
   ·
    refine qal [(6, .ref b19_1 0 []), (10, .lst (r_12.1.map qo)), (12, .own u12_14 ([].map zp)), (13, .int .i64 0)] (sc rfl (sc rfl (sc rfl (sc rfl (Sub.nil _))))) (qbf [_, _, _, _] _ ((((pf0 _).trans (pf3 _ _ _ _ _)).trans (pf3 _ _ _ _ _)).trans (pf3 _ _ _ _ _)) (qcc (fun n env σ => ∃ (out_19 : (List (Int × T))) (i_20 : Int) (g_21 : (List ql)) (g_22 : (List Int)) (u_16 : Value) (u_17 : Value) (u_18 : Value) (n1 : Nat), (n1 = n) ∧ (env = [(6, .ref b19_1 0 []), (10, .lst (r_12.1.map qo)), (12, .own u_18 (out_19.map zp)), (13, .int .i64 i_20)]) ∧ (σ = [.cell b19_1 (.agg [.own u_16 (g_21.map qa), .vec u_17 g_22.length]), .row u_16 g_21.length 141 4, .vec u_17 (g_22.map (D.int .i64)) 3 1, .row u_18 out_19.length 123 5]) ∧ (qaL kk1 fuel r_12 n1 out_19 i_20 g_21 g_22 = some res)) _ ⟨[], 0, t19_10, t19_11, u_8, u_9, u12_14, _, rfl, rfl, rfl, hr⟩ ?_))
    rintro n _ _ ⟨out_19, i_20, g_21, g_22, u_16, u_17, u_18, n1, rfl, rfl, rfl, hr⟩ IH1
    cases n1 with
    | zero => rw [qaL] at hr; cases hr
    | succ n1 =>
     rw [qaL] at hr
     refine qk (qk (gr [.d, .d, .d, .d, .r, .d, .d] (rf rfl (rf rfl (rd rfl (qac rfl rfl) (rd rfl (qq rfl qu rfl) (er rfl (qm rfl rfl (.head _) rfl rfl (by exact qd) rfl) (rd rfl (qbd (f := qa) g_21 rfl qe rfl (asl rfl)) (rd rfl (qV rfl rfl rfl rfl) (qg ?_))))))))))
     refine zq 56 rfl hr (fun h56_24 hr => ?_) (fun h56_24 hr => ?_)
     ·
      refine qy rfl (qU (qk (qaP (qk (gr [.d, .d, .d, .r, .d, .r, .r, .d] (rf rfl (rd rfl (qac rfl rfl) (rd rfl (qq rfl qav rfl) (er rfl (qm rfl rfl (.head _) rfl rfl (by exact qbM) rfl) (rf rfl ?_))))))))))
      obtain ⟨q_26, hq_26, hr⟩ := zb hr
      have hq_26_n := (qax hq_26).2
      refine er rfl (qct (f := (D.int .i64)) g_22 rfl qbb rfl rfl hq_26 (.tail _ (.tail _ (.head _)))) (er rfl (qd0 rfl rfl (.tail _ (.tail _ (.head _))) (yp hq_26_n) rfl rfl (by exact qL) rfl) (rc rfl (qg (qk (qk (ga [(0, .d), (1, .d), (2, .d), (3, .r), (4, .d), (5, .d), (6, .d), (7, .d), (8, .d), (9, .d), (10, .d), (11, .d), (12, .r), (13, .d), (14, .d), (15, .d), (16, .d), (17, .r), (18, .d), (19, .d), (20, .d), (21, .r), (22, .d), (23, .d), (24, .d), (25, .d), (26, .d), (27, .d), (28, .d)] (rf rfl (rd rfl (qac rfl rfl) (rd rfl (qq rfl qu rfl) (er rfl (qm rfl rfl (.head _) rfl rfl (by exact qd) rfl) (rf rfl ?_)))))))))))
      obtain ⟨q_27, hq_27, hr⟩ := zb hr
      refine rd rfl (qB (f := qa) g_21 rfl qe rfl (asl rfl) rfl hq_27 qb rfl) (rd rfl (qi rfl qQ rfl rfl rfl rfl) (rd rfl (qn rfl rfl (by exact qL) rfl) (rd rfl (qV rfl rfl rfl rfl) (rf rfl ?_))))
      refine zJ 75 rfl hr (fun h75_27 hr => ?_) (fun h75_27 hr => ?_)
      ·
       refine rh rfl (rh rfl (rh rfl (rh rfl (rh rfl (rh rfl (rh rfl (rh rfl (rh rfl (rh rfl (rh rfl (rh rfl (rh rfl (rh rfl ?_)))))))))))))
       refine rh rfl (rh rfl (rh rfl (rh rfl (rd rfl (qP rfl rfl rfl) (qg (qy rfl (qbB rfl (gr [.d, .d, .d] (rf rfl (rd rfl (qdK rfl rfl rfl rfl) (rc rfl (qg (qal [(6, .ref b19_1 0 []), (10, .lst (r_12.1.map qo)), (12, .own u_18 (out_19.map zp)), (13, .int .i64 (wr (i_20 + (1 : Int))))] (sc rfl (sc rfl (sc rfl (sc rfl (Sub.nil _))))) ?_)))))))))))))
       exact IH1 _ _ _ (by omega) ⟨out_19, (wr (i_20 + (1 : Int))), g_21, g_22, u_16, u_17, u_18, _, rfl, rfl, rfl, hr⟩
      ·
       refine rf rfl (rf rfl ?_)
       obtain ⟨r_29, hr_29, hr⟩ := zb hr
       refine er rfl (qdZ _ rfl qb2 (.oc rfl (.oc rfl .nil)) (by exact (((pf2 _ _ _ _).trans (pf2 _ _ _ _)).trans (pf2 _ _ _ _))) (qbK _ _ _ _ _ _ _ hr_29)) ?_
       refine rd rfl (qV rfl rfl rfl rfl) (rf rfl ?_)
       refine zJ 80 rfl hr (fun h80_29 hr => ?_) (fun h80_29 hr => ?_)
       ·
        refine rf rfl (rf rfl ?_)
        obtain ⟨r_31, hr_31, hr⟩ := zb hr
        refine er rfl (qdZ _ rfl qdT (.oc rfl (.oc rfl .nil)) (by exact (((pf2 _ _ _ _).trans (pf2 _ _ _ _)).trans (pf2 _ _ _ _))) (qdw _ _ _ _ _ _ _ hr_31)) ?_
        refine rf rfl (rd rfl (qac rfl rfl) (rd rfl (qq rfl qu rfl) (er rfl (qm rfl rfl (.head _) rfl rfl (by exact qd) rfl) (rf rfl (rd rfl (qB (f := qa) g_21 rfl qe rfl (asl rfl) rfl hq_27 qb rfl) (rd rfl (qi rfl qz rfl rfl rfl rfl) (rd rfl (qn rfl rfl (by exact qL) rfl) (rd rfl (qV rfl rfl rfl rfl) (rd rfl (qP rfl rfl rfl) (rd rfl (qN rfl rfl rfl) (qg ?_)))))))))))
        refine zq 94 rfl hr (fun h94_31 hr => ?_) (fun h94_31 hr => ?_)
        ·
         refine qy rfl (qbB rfl (gr [.d, .d, .d] (rf rfl (rd rfl (qdK rfl rfl rfl rfl) (rc rfl (qg (qal [(6, .ref b19_1 0 []), (10, .lst (r_12.1.map qo)), (12, .own u_18 (out_19.map zp)), (13, .int .i64 (wr (i_20 + (1 : Int))))] (sc rfl (sc rfl (sc rfl (sc rfl (Sub.nil _))))) ?_)))))))
         exact IH1 _ _ _ (by omega) ⟨out_19, (wr (i_20 + (1 : Int))), g_21, g_22, u_16, u_17, u_18, _, rfl, rfl, rfl, hr⟩
        ·
         refine qA rfl (qU (qk (qk (gr [.d, .d, .d, .d, .d, .d, .d, .d, .d, .d, .d, .d, .d, .d] (rf rfl (rf rfl ?_))))))
         obtain ⟨q_33, hq_33, hr⟩ := zb hr
         refine rd rfl (qB (f := qo) r_12.1 rfl qZ rfl (asl rfl) rfl hq_33 qx rfl) (rd rfl (qi rfl qaR rfl rfl rfl rfl) (rd rfl (qn rfl rfl (by exact qL) rfl) (rd rfl (qV rfl rfl rfl rfl) (rf rfl ?_))))
         refine zJ 101 rfl hr (fun h101_33 hr => ?_) (fun h101_33 hr => ?_)
         ·
          refine rh rfl (rh rfl (rh rfl (rh rfl (rh rfl (rh rfl (rd rfl (qP rfl rfl rfl) (qg (qy rfl (qk (gr [.w, .d] (ew rfl (qb8 123 5 (.inl rfl)) ?_)))))))))))
          rintro _ _ ⟨u4_34, rfl, rfl⟩
          refine rc rfl (qg ?_)
          obtain rfl := Option.some.inj hr
          refine qS Tryz.func114 _ (.cons (za rfl (Wk.own _ _)) (.cons (za rfl (Wk.refl _)) .nil)) ?_
          rfl
         ·
          refine rf rfl (rf rfl (rd rfl (qB (f := qo) r_12.1 rfl qZ rfl (asl rfl) rfl hq_33 qx rfl) (rd rfl (qi rfl qbh rfl rfl rfl rfl) (rd rfl (qn rfl rfl (by exact qL) rfl) (rd rfl (qV rfl rfl rfl rfl) (rd rfl (qN rfl rfl rfl) (qg ?_)))))))
          refine zq 108 rfl hr (fun h108_35 hr => ?_) (fun h108_35 hr => ?_)
          ·
           refine qy rfl (qk (gr [.w, .d] (ew rfl (qb8 123 5 (.inl rfl)) ?_)))
           rintro _ _ ⟨u4_36, rfl, rfl⟩
           refine rc rfl (qg ?_)
           obtain rfl := Option.some.inj hr
           refine qS Tryz.func114 _ (.cons (za rfl (Wk.own _ _)) (.cons (za rfl (Wk.refl _)) .nil)) ?_
           rfl
          ·
           refine qA rfl (qU (qk ?_))
           obtain ⟨r_39, hr_39, hr⟩ := zb hr
           refine qlh (by kernel_rfl) (by kernel_rfl) [(0, .d), (1, .d), (2, .d), (4, .d), (8, .d), (9, .d)] (.cons 3 [(5, .d), (6, .d), (7, .d)] (.cons 10 [(11, .d)] (.cons 12 [] (.cons 13 [] .nil .nil) .nil) (.cons 12 [] (.cons 10 [(11, .d)] (.cons 13 [] .nil .nil) .nil) .nil)) (.cons 10 [] (.cons 3 [(5, .d), (6, .d), (7, .d), (11, .d)] (.cons 12 [] (.cons 13 [] .nil .nil) .nil) (.cons 12 [] (.cons 3 [(5, .d), (6, .d), (7, .d), (11, .d)] (.cons 13 [] .nil .nil) .nil) .nil)) (.cons 12 [] (.cons 3 [(5, .d), (6, .d), (7, .d)] (.cons 10 [(11, .d)] (.cons 13 [] .nil .nil) .nil) (.cons 10 [] (.cons 3 [(5, .d), (6, .d), (7, .d), (11, .d)] (.cons 13 [] .nil .nil) .nil) .nil)) .nil))) (by kernel_rfl) (fun env σ => ∃ (b15_r20_37 : Nat), Sub [(6, .ref b19_1 0 []), (10, .lst (r_12.1.map qo)), (12, .own u_18 (out_19.map zp)), (13, .int .i64 i_20), (15, .ref b15_r20_37 0 [])] env ∧ σ.Perm [.cell b15_r20_37 (.agg [.int .i64 q_27.f1_Int, ze r_39]), .cell b19_1 (.agg [.own u_16 (g_21.map qa), .vec u_17 g_22.length]), .row u_16 g_21.length 141 4, .vec u_17 (g_22.map (D.int .i64)) 3 1, .row u_18 out_19.length 123 5]) ?_ ?_
           ·
            refine rf rfl (rd rfl (qac rfl rfl) (rd rfl (qq rfl qu rfl) (rf rfl (rf rfl (rf rfl (qg ?_))))))
            refine qv ?_ ?_
            ·
             refine ewr rfl (qm rfl rfl (.head _) rfl rfl (by exact qd) rfl) (rd rfl (qB (f := qa) g_21 rfl qe rfl (asl rfl) rfl hq_27 qb rfl) (rd rfl (qi rfl qz rfl rfl rfl rfl) (rd rfl (qn rfl rfl (by exact qL) rfl) (qg ?_))))
             refine qv ?_ ?_
             ·
              refine ewr rfl (qdZ _ rfl qaA (.oc rfl (.oc rfl .nil)) (by exact (((pf2 _ _ _ _).trans (pf2 _ _ _ _)).trans (pf2 _ _ _ _))) (qar fuel _ _ _ _ _ _ _ hr_39)) ?_
              refine rd rfl (qbj rfl qcS (.oc rfl (.oc rfl .nil)) (.cons rfl rfl rfl (.cons rfl (qI _) rfl (.nil _)))) (qg ?_)
              refine qv ?_ zf
              refine ew rfl (qY rfl qdL) ?_
              rintro _ _ ⟨b15_r20_37, rfl, rfl⟩
              refine qg ?_
              refine qv ?_ zf
              refine eqR rfl (qt _ rfl rfl rfl (Wk.refl _) (pf0 _) (by exact qcE) (by first | rfl | simp [sz, szs, qc8, qI]) (by first | rfl | simp [sz, szs, qc8, qI]) rfl) (qg ?_)
              refine qbJ ?_
              exact ⟨b15_r20_37, (sc rfl (sc rfl (sc rfl (sc rfl (sc rfl (Sub.nil _)))))), (((((pf4 _ _ _ _ _ _).trans (pf4 _ _ _ _ _ _)).trans (pf4 _ _ _ _ _ _)).trans (pf4 _ _ _ _ _ _)).trans (pf4 _ _ _ _ _ _))⟩
             refine qv ?_ zf
             refine ew rfl (qY rfl qdL) ?_
             rintro _ _ ⟨b15_r20_37, rfl, rfl⟩
             refine qg ?_
             refine qv ?_ zf
             refine ewr rfl (qdZ _ rfl qaA (.oc rfl (.oc rfl .nil)) (by exact (((pf3 _ _ _ _ _).trans (pf3 _ _ _ _ _)).trans (pf3 _ _ _ _ _))) (qar fuel _ _ _ _ _ _ _ hr_39)) ?_
             refine rd rfl (qbj rfl qcS (.oc rfl (.oc rfl .nil)) (.cons rfl rfl rfl (.cons rfl (qI _) rfl (.nil _)))) (qg ?_)
             refine qv ?_ zf
             refine eqR rfl (qt _ rfl rfl rfl (Wk.refl _) (pf0 _) (by exact qcE) (by first | rfl | simp [sz, szs, qc8, qI]) (by first | rfl | simp [sz, szs, qc8, qI]) rfl) (qg ?_)
             refine qbJ ?_
             exact ⟨b15_r20_37, (sc rfl (sc rfl (sc rfl (sc rfl (sc rfl (Sub.nil _)))))), (((((pf4 _ _ _ _ _ _).trans (pf4 _ _ _ _ _ _)).trans (pf4 _ _ _ _ _ _)).trans (pf4 _ _ _ _ _ _)).trans (pf4 _ _ _ _ _ _))⟩
            refine qv ?_ ?_
            ·
             refine ewr rfl (qdZ _ rfl qaA (.oc rfl (.oc rfl .nil)) (by exact (((pf2 _ _ _ _).trans (pf2 _ _ _ _)).trans (pf2 _ _ _ _))) (qar fuel _ _ _ _ _ _ _ hr_39)) ?_
             refine qg ?_
             refine qv ?_ ?_
             ·
              refine ewr rfl (qm rfl rfl (.head _) rfl rfl (by exact qd) rfl) (rd rfl (qB (f := qa) g_21 rfl qe rfl (asl rfl) rfl hq_27 qb rfl) (rd rfl (qi rfl qz rfl rfl rfl rfl) (rd rfl (qn rfl rfl (by exact qL) rfl) (rd rfl (qbj rfl qcS (.oc rfl (.oc rfl .nil)) (.cons rfl rfl rfl (.cons rfl (qI _) rfl (.nil _)))) (qg ?_)))))
              refine qv ?_ zf
              refine ew rfl (qY rfl qdL) ?_
              rintro _ _ ⟨b15_r20_37, rfl, rfl⟩
              refine qg ?_
              refine qv ?_ zf
              refine eqR rfl (qt _ rfl rfl rfl (Wk.refl _) (pf0 _) (by exact qcE) (by first | rfl | simp [sz, szs, qc8, qI]) (by first | rfl | simp [sz, szs, qc8, qI]) rfl) (qg ?_)
              refine qbJ ?_
              exact ⟨b15_r20_37, (sc rfl (sc rfl (sc rfl (sc rfl (sc rfl (Sub.nil _)))))), (((((pf4 _ _ _ _ _ _).trans (pf4 _ _ _ _ _ _)).trans (pf4 _ _ _ _ _ _)).trans (pf4 _ _ _ _ _ _)).trans (pf4 _ _ _ _ _ _))⟩
             refine qv ?_ zf
             refine ew rfl (qY rfl qdL) ?_
             rintro _ _ ⟨b15_r20_37, rfl, rfl⟩
             refine qg ?_
             refine qv ?_ zf
             refine ewr rfl (qm rfl rfl (.tail _ (.head _)) rfl rfl (by exact qd) rfl) (rd rfl (qB (f := qa) g_21 rfl qe rfl (asl rfl) rfl hq_27 qb rfl) (rd rfl (qi rfl qz rfl rfl rfl rfl) (rd rfl (qn rfl rfl (by exact qL) rfl) (rd rfl (qbj rfl qcS (.oc rfl (.oc rfl .nil)) (.cons rfl rfl rfl (.cons rfl (qI _) rfl (.nil _)))) (qg ?_)))))
             refine qv ?_ zf
             refine eqR rfl (qt _ rfl rfl rfl (Wk.refl _) (pf0 _) (by exact qcE) (by first | rfl | simp [sz, szs, qc8, qI]) (by first | rfl | simp [sz, szs, qc8, qI]) rfl) (qg ?_)
             refine qbJ ?_
             exact ⟨b15_r20_37, (sc rfl (sc rfl (sc rfl (sc rfl (sc rfl (Sub.nil _)))))), (((((pf4 _ _ _ _ _ _).trans (pf4 _ _ _ _ _ _)).trans (pf4 _ _ _ _ _ _)).trans (pf4 _ _ _ _ _ _)).trans (pf4 _ _ _ _ _ _))⟩
            refine qv ?_ zf
            refine ew rfl (qY rfl qdL) ?_
            rintro _ _ ⟨b15_r20_37, rfl, rfl⟩
            refine qg ?_
            refine qv ?_ ?_
            ·
             refine ewr rfl (qm rfl rfl (.tail _ (.head _)) rfl rfl (by exact qd) rfl) (rd rfl (qB (f := qa) g_21 rfl qe rfl (asl rfl) rfl hq_27 qb rfl) (rd rfl (qi rfl qz rfl rfl rfl rfl) (rd rfl (qn rfl rfl (by exact qL) rfl) (qg ?_))))
             refine qv ?_ zf
             refine ewr rfl (qdZ _ rfl qaA (.oc rfl (.oc rfl .nil)) (by exact (((pf3 _ _ _ _ _).trans (pf3 _ _ _ _ _)).trans (pf3 _ _ _ _ _))) (qar fuel _ _ _ _ _ _ _ hr_39)) ?_
             refine rd rfl (qbj rfl qcS (.oc rfl (.oc rfl .nil)) (.cons rfl rfl rfl (.cons rfl (qI _) rfl (.nil _)))) (qg ?_)
             refine qv ?_ zf
             refine eqR rfl (qt _ rfl rfl rfl (Wk.refl _) (pf0 _) (by exact qcE) (by first | rfl | simp [sz, szs, qc8, qI]) (by first | rfl | simp [sz, szs, qc8, qI]) rfl) (qg ?_)
             refine qbJ ?_
             exact ⟨b15_r20_37, (sc rfl (sc rfl (sc rfl (sc rfl (sc rfl (Sub.nil _)))))), (((((pf4 _ _ _ _ _ _).trans (pf4 _ _ _ _ _ _)).trans (pf4 _ _ _ _ _ _)).trans (pf4 _ _ _ _ _ _)).trans (pf4 _ _ _ _ _ _))⟩
            refine qv ?_ zf
            refine ewr rfl (qdZ _ rfl qaA (.oc rfl (.oc rfl .nil)) (by exact (((pf3 _ _ _ _ _).trans (pf3 _ _ _ _ _)).trans (pf3 _ _ _ _ _))) (qar fuel _ _ _ _ _ _ _ hr_39)) ?_
            refine qg ?_
            refine qv ?_ zf
            refine ewr rfl (qm rfl rfl (.tail _ (.head _)) rfl rfl (by exact qd) rfl) (rd rfl (qB (f := qa) g_21 rfl qe rfl (asl rfl) rfl hq_27 qb rfl) (rd rfl (qi rfl qz rfl rfl rfl rfl) (rd rfl (qn rfl rfl (by exact qL) rfl) (rd rfl (qbj rfl qcS (.oc rfl (.oc rfl .nil)) (.cons rfl rfl rfl (.cons rfl (qI _) rfl (.nil _)))) (qg ?_)))))
            refine qv ?_ zf
            refine eqR rfl (qt _ rfl rfl rfl (Wk.refl _) (pf0 _) (by exact qcE) (by first | rfl | simp [sz, szs, qc8, qI]) (by first | rfl | simp [sz, szs, qc8, qI]) rfl) (qg ?_)
            refine qbJ ?_
            exact ⟨b15_r20_37, (sc rfl (sc rfl (sc rfl (sc rfl (sc rfl (Sub.nil _)))))), (((((pf4 _ _ _ _ _ _).trans (pf4 _ _ _ _ _ _)).trans (pf4 _ _ _ _ _ _)).trans (pf4 _ _ _ _ _ _)).trans (pf4 _ _ _ _ _ _))⟩
           ·
            rintro _ _ ⟨b15_r20_37, hs, hp⟩
            refine qj7 hs hp (qbS 15 b15_r20_37 rfl (pf0 _) (qk (gr [.w] (ew rfl (qb8 123 5 (.inl rfl)) ?_))))
            rintro _ _ ⟨u16_39, rfl, rfl⟩
            refine qg (qk (gr [.d] (rc rfl (qg (qk ?_)))))
            obtain ⟨kk2, hkk2, hr⟩ := exK (fun k => qa8 k q_27 out_19 0) hr
            refine qfb 12 rfl (asl rfl) fun hla2 => ?_
            simp only [List.length_map] at hla2
            refine qaW (fun env σ => ∃ (k_48 : Int) (u_46 : Value) (u_47 : Value) (u_49 : Value) (u_50 : Value), env = [(6, .ref b19_1 0 []), (10, .lst (r_12.1.map qo)), (12, .own u_46 (out_19.map zp)), (13, .int .i64 i_20), (15, .ptr (.agg [.int .i64 q_27.f1_Int, ze r_39])), (16, .own u_47 ([].map zp)), (17, .int .i64 k_48)] ∧ σ = [.cell b19_1 (.agg [.own u_49 (g_21.map qa), .vec u_50 g_22.length]), .row u_49 g_21.length 141 4, .vec u_50 (g_22.map (D.int .i64)) 3 1, .row u_46 out_19.length 123 5, .row u_47 ([] : (List (Int × T))).length 123 5] ∧ kk2 k_48 = some res) ?_ (fun HK2 => ?_)
            ·
             rintro _ _ ⟨k_48, u_46, u_47, u_49, u_50, rfl, rfl, hr⟩
             rw [hkk2] at hr
             refine qk (gr [.d, .d, .d, .d, .w, .d] (rf rfl (rf rfl (rf rfl ?_))))
             obtain ⟨l_51, hl_51, hr⟩ := zb hr
             refine rd rfl (qhh (f := zp) out_19 0 k_48 rfl qbY rfl (asl rfl) qnz (qm4 rfl) qdf hl_51) ?_
             obtain ⟨l_52, hl_52, hr⟩ := zb hr
             refine ew rfl (qcd (f := zp) [] l_51 rfl qbY rfl rfl (asl rfl) (pf4 _ _ _ _ _ _) rfl qdf hl_52) ?_
             rintro _ _ ⟨u141_52, rfl, rfl⟩
             refine rc rfl (qg (qk (gr [.d, .d, .d, .w, .d] (rf rfl (rd rfl (qn rfl rfl (by exact qcE) (by first | rfl | simp [sz, szs, qc8, qI])) (rd rfl (qgi (f := zp) [.tmp 143] [(q_27.f1_Int, r_39)] rfl qbY rfl rfl (by decide) (by decide) (.oc rfl .nil) qdf (fun _ => rfl)) ?_))))))
             obtain ⟨l_54, hl_54, hr⟩ := zb hr
             refine ew rfl (qcd (f := zp) l_52 [(q_27.f1_Int, r_39)] rfl qbY rfl rfl (asl rfl) (pf0 _) rfl qdf hl_54) ?_
             rintro _ _ ⟨u145_54, rfl, rfl⟩
             refine rc rfl (qg (gr [.d, .d, .d, .d, .w, .d] (rf rfl (rf rfl (rf rfl ?_)))))
             obtain ⟨l_56, hl_56, hr⟩ := zb hr
             refine rd rfl (qhh (f := zp) out_19 k_48 (out_19.length : Int) rfl qbY rfl (asl rfl) (qeK rfl) qeG qdf hl_56) ?_
             obtain ⟨l_57, hl_57, hr⟩ := zb hr
             refine ew rfl (qcd (f := zp) l_54 l_56 rfl qbY rfl rfl (asl rfl) (pf0 _) rfl qdf hl_57) ?_
             rintro _ _ ⟨u150_57, rfl, rfl⟩
             refine rc rfl (qg (qK (gr [.d, .d, .d] (rf rfl (rd rfl (qdK rfl rfl rfl rfl) (rc rfl (qg (qal [(6, .ref b19_1 0 []), (10, .lst (r_12.1.map qo)), (12, .own u150_57 (l_57.map zp)), (13, .int .i64 (wr (i_20 + (1 : Int))))] (sc rfl (sc rfl (sc rfl (sc rfl (Sub.nil _))))) (qbf [_, _, _, _] _ ((((pf0 _).trans (pf3 _ _ _ _ _)).trans (pf3 _ _ _ _ _)).trans (pf3 _ _ _ _ _)) ?_)))))))))
             exact IH1 _ _ _ (by omega) ⟨l_57, (wr (i_20 + (1 : Int))), g_21, g_22, u_49, u_50, u150_57, _, rfl, rfl, rfl, hr⟩
            ·
             refine qal [(6, .ref b19_1 0 []), (10, .lst (r_12.1.map qo)), (12, .own u_18 (out_19.map zp)), (13, .int .i64 i_20), (15, .ptr (.agg [.int .i64 q_27.f1_Int, ze r_39])), (16, .own u16_39 ([].map zp)), (17, .int .i64 ((0 : Nat) : Int))] (sc rfl (sc rfl (sc rfl (sc rfl (sc rfl (sc rfl (sc rfl (Sub.nil _)))))))) (qbf [_, _, _, _, _] _ (((((pf0 _).trans (pf4 _ _ _ _ _ _)).trans (pf4 _ _ _ _ _ _)).trans (pf4 _ _ _ _ _ _)).trans (pf4 _ _ _ _ _ _)) (qcc (fun n env σ => ∃ (k_45 : Nat) (u_41 : Value) (u_42 : Value) (u_43 : Value) (u_44 : Value), (n = out_19.length - k_45) ∧ (env = [(6, .ref b19_1 0 []), (10, .lst (r_12.1.map qo)), (12, .own u_43 (out_19.map zp)), (13, .int .i64 i_20), (15, .ptr (.agg [.int .i64 q_27.f1_Int, ze r_39])), (16, .own u_44 ([].map zp)), (17, .int .i64 (k_45 : Int))]) ∧ (σ = [.cell b19_1 (.agg [.own u_41 (g_21.map qa), .vec u_42 g_22.length]), .row u_41 g_21.length 141 4, .vec u_42 (g_22.map (D.int .i64)) 3 1, .row u_43 out_19.length 123 5, .row u_44 ([] : (List (Int × T))).length 123 5]) ∧ (k_45 ≤ out_19.length) ∧ (qa8 kk2 q_27 (out_19.drop k_45) k_45 = some res)) _ ⟨0, u_16, u_17, u_18, u16_39, rfl, rfl, rfl, Nat.zero_le _, hr⟩ ?_))
             rintro n _ _ ⟨k_45, u_41, u_42, u_43, u_44, rfl, rfl, rfl, hi2, hr⟩ IH2
             rcases zh out_19 k_45 hi2 with ⟨ht2, hd2, he2⟩ | ⟨q_59, ht2, hd2, hq2, hlt2⟩
             ·
              rw [hd2, qa8] at hr
              refine qk (qk (ga [(0, .d), (1, .d), (2, .d), (3, .d), (4, .d), (5, .d), (6, .d), (7, .d), (8, .d), (9, .d), (10, .d), (11, .d), (12, .d), (13, .d)] (rf rfl (rf rfl (rd rfl (qbd (f := zp) out_19 rfl qbY rfl (asl rfl)) (rd rfl (qV rfl rfl rfl rfl) (rf rfl (qdS 125 false rfl ht2 (rh rfl (rh rfl (rh rfl (rh rfl (rh rfl ?_)))))))))))))
              refine rh rfl (rh rfl (rh rfl (rd rfl (qN rfl rfl rfl) (qg (qA rfl (qbB rfl (qal [(6, .ref b19_1 0 []), (10, .lst (r_12.1.map qo)), (12, .own u_43 (out_19.map zp)), (13, .int .i64 i_20), (15, .ptr (.agg [.int .i64 q_27.f1_Int, ze r_39])), (16, .own u_44 ([].map zp)), (17, .int .i64 (k_45 : Int))] (sc rfl (sc rfl (sc rfl (sc rfl (sc rfl (sc rfl (sc rfl (Sub.nil _)))))))) ?_)))))))
              exact HK2 _ _ ⟨(k_45 : Int), u_43, u_44, u_41, u_42, rfl, rfl, hr⟩
             ·
              rw [hd2, qa8] at hr
              refine qk (qk (ga [(0, .d), (1, .d), (2, .d), (3, .d), (4, .d), (5, .d), (6, .d), (7, .d), (8, .d), (9, .d), (10, .d), (11, .d), (12, .d), (13, .d)] (rf rfl (rf rfl (rd rfl (qbd (f := zp) out_19 rfl qbY rfl (asl rfl)) (rd rfl (qV rfl rfl rfl rfl) (rf rfl (qdS 125 true rfl ht2 (rf rfl (rf rfl (rd rfl (qB (f := zp) out_19 rfl qbY rfl (asl rfl) rfl hq2 qdf rfl) (rd rfl (qi rfl qdX rfl rfl rfl rfl) (rd rfl (qn rfl rfl (by exact qL) rfl) ?_)))))))))))))
              refine rd rfl (qi rfl qdX rfl rfl rfl rfl) (rd rfl (qn rfl rfl (by exact qL) rfl) (rd rfl (qV rfl rfl rfl rfl) (rd rfl (qP rfl rfl rfl) (qg ?_))))
              refine zq 134 rfl hr (fun h134_59 hr => ?_) (fun h134_59 hr => ?_)
              ·
               refine qy rfl (qU (qaP (gr [.d, .d, .d] (rf rfl (rd rfl (zZ (r := ((k_45 + 1 : Nat) : Int)) rfl rfl rfl (by simp [iar]) (by omega)) (rc rfl (qg (qK (qal [(6, .ref b19_1 0 []), (10, .lst (r_12.1.map qo)), (12, .own u_43 (out_19.map zp)), (13, .int .i64 i_20), (15, .ptr (.agg [.int .i64 q_27.f1_Int, ze r_39])), (16, .own u_44 ([].map zp)), (17, .int .i64 ((k_45 + 1 : Nat) : Int))] (sc rfl (sc rfl (sc rfl (sc rfl (sc rfl (sc rfl (sc rfl (Sub.nil _)))))))) ?_)))))))))
               exact IH2 _ _ _ (by omega) ⟨(k_45 + 1), u_41, u_42, u_43, u_44, rfl, rfl, rfl, (by omega), hr⟩
              ·
               refine qA rfl (qbB rfl (qal [(6, .ref b19_1 0 []), (10, .lst (r_12.1.map qo)), (12, .own u_43 (out_19.map zp)), (13, .int .i64 i_20), (15, .ptr (.agg [.int .i64 q_27.f1_Int, ze r_39])), (16, .own u_44 ([].map zp)), (17, .int .i64 (k_45 : Int))] (sc rfl (sc rfl (sc rfl (sc rfl (sc rfl (sc rfl (sc rfl (Sub.nil _)))))))) ?_))
               exact HK2 _ _ ⟨(k_45 : Int), u_43, u_44, u_41, u_42, rfl, rfl, hr⟩
       ·
        refine rh rfl (rh rfl (rh rfl (rh rfl (rh rfl (rh rfl (rh rfl (rh rfl (rh rfl (rh rfl (rh rfl (rh rfl (rd rfl (qN rfl rfl rfl) (rd rfl (qN rfl rfl rfl) ?_)))))))))))))
        refine qg (qA rfl (qU (qk (qk (gr [.d, .d, .d, .d, .d, .d, .d, .d, .d, .d, .d, .d, .d, .d] (rf rfl (rf rfl ?_)))))))
        obtain ⟨q_61, hq_61, hr⟩ := zb hr
        refine rd rfl (qB (f := qo) r_12.1 rfl qZ rfl (asl rfl) rfl hq_61 qx rfl) (rd rfl (qi rfl qaR rfl rfl rfl rfl) (rd rfl (qn rfl rfl (by exact qL) rfl) (rd rfl (qV rfl rfl rfl rfl) (rf rfl ?_))))
        refine zJ 101 rfl hr (fun h101_61 hr => ?_) (fun h101_61 hr => ?_)
        ·
         refine rh rfl (rh rfl (rh rfl (rh rfl (rh rfl (rh rfl (rd rfl (qP rfl rfl rfl) (qg (qy rfl (qk (gr [.w, .d] (ew rfl (qb8 123 5 (.inl rfl)) ?_)))))))))))
         rintro _ _ ⟨u4_62, rfl, rfl⟩
         refine rc rfl (qg ?_)
         obtain rfl := Option.some.inj hr
         refine qS Tryz.func114 _ (.cons (za rfl (Wk.own _ _)) (.cons (za rfl (Wk.refl _)) .nil)) ?_
         rfl
        ·
         refine rf rfl (rf rfl (rd rfl (qB (f := qo) r_12.1 rfl qZ rfl (asl rfl) rfl hq_61 qx rfl) (rd rfl (qi rfl qbh rfl rfl rfl rfl) (rd rfl (qn rfl rfl (by exact qL) rfl) (rd rfl (qV rfl rfl rfl rfl) (rd rfl (qN rfl rfl rfl) (qg ?_)))))))
         refine zq 108 rfl hr (fun h108_63 hr => ?_) (fun h108_63 hr => ?_)
         ·
          refine qy rfl (qk (gr [.w, .d] (ew rfl (qb8 123 5 (.inl rfl)) ?_)))
          rintro _ _ ⟨u4_64, rfl, rfl⟩
          refine rc rfl (qg ?_)
          obtain rfl := Option.some.inj hr
          refine qS Tryz.func114 _ (.cons (za rfl (Wk.own _ _)) (.cons (za rfl (Wk.refl _)) .nil)) ?_
          rfl
         ·
          refine qA rfl (qU (qk ?_))
          obtain ⟨r_67, hr_67, hr⟩ := zb hr
          refine qlh (by kernel_rfl) (by kernel_rfl) [(0, .d), (1, .d), (2, .d), (4, .d), (8, .d), (9, .d)] (.cons 3 [(5, .d), (6, .d), (7, .d)] (.cons 10 [(11, .d)] (.cons 12 [] (.cons 13 [] .nil .nil) .nil) (.cons 12 [] (.cons 10 [(11, .d)] (.cons 13 [] .nil .nil) .nil) .nil)) (.cons 10 [] (.cons 3 [(5, .d), (6, .d), (7, .d), (11, .d)] (.cons 12 [] (.cons 13 [] .nil .nil) .nil) (.cons 12 [] (.cons 3 [(5, .d), (6, .d), (7, .d), (11, .d)] (.cons 13 [] .nil .nil) .nil) .nil)) (.cons 12 [] (.cons 3 [(5, .d), (6, .d), (7, .d)] (.cons 10 [(11, .d)] (.cons 13 [] .nil .nil) .nil) (.cons 10 [] (.cons 3 [(5, .d), (6, .d), (7, .d), (11, .d)] (.cons 13 [] .nil .nil) .nil) .nil)) .nil))) (by kernel_rfl) (fun env σ => ∃ (b15_r20_65 : Nat), Sub [(6, .ref b19_1 0 []), (10, .lst (r_12.1.map qo)), (12, .own u_18 (out_19.map zp)), (13, .int .i64 i_20), (15, .ref b15_r20_65 0 [])] env ∧ σ.Perm [.cell b15_r20_65 (.agg [.int .i64 q_27.f1_Int, ze r_67]), .cell b19_1 (.agg [.own u_16 (g_21.map qa), .vec u_17 g_22.length]), .row u_16 g_21.length 141 4, .vec u_17 (g_22.map (D.int .i64)) 3 1, .row u_18 out_19.length 123 5]) ?_ ?_
          ·
           refine rf rfl (rd rfl (qac rfl rfl) (rd rfl (qq rfl qu rfl) (rf rfl (rf rfl (rf rfl (qg ?_))))))
           refine qv ?_ ?_
           ·
            refine ewr rfl (qm rfl rfl (.head _) rfl rfl (by exact qd) rfl) (rd rfl (qB (f := qa) g_21 rfl qe rfl (asl rfl) rfl hq_27 qb rfl) (rd rfl (qi rfl qz rfl rfl rfl rfl) (rd rfl (qn rfl rfl (by exact qL) rfl) (qg ?_))))
            refine qv ?_ ?_
            ·
             refine ewr rfl (qdZ _ rfl qaA (.oc rfl (.oc rfl .nil)) (by exact (((pf2 _ _ _ _).trans (pf2 _ _ _ _)).trans (pf2 _ _ _ _))) (qar fuel _ _ _ _ _ _ _ hr_67)) ?_
             refine rd rfl (qbj rfl qcS (.oc rfl (.oc rfl .nil)) (.cons rfl rfl rfl (.cons rfl (qI _) rfl (.nil _)))) (qg ?_)
             refine qv ?_ zf
             refine ew rfl (qY rfl qdL) ?_
             rintro _ _ ⟨b15_r20_65, rfl, rfl⟩
             refine qg ?_
             refine qv ?_ zf
             refine eqR rfl (qt _ rfl rfl rfl (Wk.refl _) (pf0 _) (by exact qcE) (by first | rfl | simp [sz, szs, qc8, qI]) (by first | rfl | simp [sz, szs, qc8, qI]) rfl) (qg ?_)
             refine qbJ ?_
             exact ⟨b15_r20_65, (sc rfl (sc rfl (sc rfl (sc rfl (sc rfl (Sub.nil _)))))), (((((pf4 _ _ _ _ _ _).trans (pf4 _ _ _ _ _ _)).trans (pf4 _ _ _ _ _ _)).trans (pf4 _ _ _ _ _ _)).trans (pf4 _ _ _ _ _ _))⟩
            refine qv ?_ zf
            refine ew rfl (qY rfl qdL) ?_
            rintro _ _ ⟨b15_r20_65, rfl, rfl⟩
            refine qg ?_
            refine qv ?_ zf
            refine ewr rfl (qdZ _ rfl qaA (.oc rfl (.oc rfl .nil)) (by exact (((pf3 _ _ _ _ _).trans (pf3 _ _ _ _ _)).trans (pf3 _ _ _ _ _))) (qar fuel _ _ _ _ _ _ _ hr_67)) ?_
            refine rd rfl (qbj rfl qcS (.oc rfl (.oc rfl .nil)) (.cons rfl rfl rfl (.cons rfl (qI _) rfl (.nil _)))) (qg ?_)
            refine qv ?_ zf
            refine eqR rfl (qt _ rfl rfl rfl (Wk.refl _) (pf0 _) (by exact qcE) (by first | rfl | simp [sz, szs, qc8, qI]) (by first | rfl | simp [sz, szs, qc8, qI]) rfl) (qg ?_)
            refine qbJ ?_
            exact ⟨b15_r20_65, (sc rfl (sc rfl (sc rfl (sc rfl (sc rfl (Sub.nil _)))))), (((((pf4 _ _ _ _ _ _).trans (pf4 _ _ _ _ _ _)).trans (pf4 _ _ _ _ _ _)).trans (pf4 _ _ _ _ _ _)).trans (pf4 _ _ _ _ _ _))⟩
           refine qv ?_ ?_
           ·
            refine ewr rfl (qdZ _ rfl qaA (.oc rfl (.oc rfl .nil)) (by exact (((pf2 _ _ _ _).trans (pf2 _ _ _ _)).trans (pf2 _ _ _ _))) (qar fuel _ _ _ _ _ _ _ hr_67)) ?_
            refine qg ?_
            refine qv ?_ ?_
            ·
             refine ewr rfl (qm rfl rfl (.head _) rfl rfl (by exact qd) rfl) (rd rfl (qB (f := qa) g_21 rfl qe rfl (asl rfl) rfl hq_27 qb rfl) (rd rfl (qi rfl qz rfl rfl rfl rfl) (rd rfl (qn rfl rfl (by exact qL) rfl) (rd rfl (qbj rfl qcS (.oc rfl (.oc rfl .nil)) (.cons rfl rfl rfl (.cons rfl (qI _) rfl (.nil _)))) (qg ?_)))))
             refine qv ?_ zf
             refine ew rfl (qY rfl qdL) ?_
             rintro _ _ ⟨b15_r20_65, rfl, rfl⟩
             refine qg ?_
             refine qv ?_ zf
             refine eqR rfl (qt _ rfl rfl rfl (Wk.refl _) (pf0 _) (by exact qcE) (by first | rfl | simp [sz, szs, qc8, qI]) (by first | rfl | simp [sz, szs, qc8, qI]) rfl) (qg ?_)
             refine qbJ ?_
             exact ⟨b15_r20_65, (sc rfl (sc rfl (sc rfl (sc rfl (sc rfl (Sub.nil _)))))), (((((pf4 _ _ _ _ _ _).trans (pf4 _ _ _ _ _ _)).trans (pf4 _ _ _ _ _ _)).trans (pf4 _ _ _ _ _ _)).trans (pf4 _ _ _ _ _ _))⟩
            refine qv ?_ zf
            refine ew rfl (qY rfl qdL) ?_
            rintro _ _ ⟨b15_r20_65, rfl, rfl⟩
            refine qg ?_
            refine qv ?_ zf
            refine ewr rfl (qm rfl rfl (.tail _ (.head _)) rfl rfl (by exact qd) rfl) (rd rfl (qB (f := qa) g_21 rfl qe rfl (asl rfl) rfl hq_27 qb rfl) (rd rfl (qi rfl qz rfl rfl rfl rfl) (rd rfl (qn rfl rfl (by exact qL) rfl) (rd rfl (qbj rfl qcS (.oc rfl (.oc rfl .nil)) (.cons rfl rfl rfl (.cons rfl (qI _) rfl (.nil _)))) (qg ?_)))))
            refine qv ?_ zf
            refine eqR rfl (qt _ rfl rfl rfl (Wk.refl _) (pf0 _) (by exact qcE) (by first | rfl | simp [sz, szs, qc8, qI]) (by first | rfl | simp [sz, szs, qc8, qI]) rfl) (qg ?_)
            refine qbJ ?_
            exact ⟨b15_r20_65, (sc rfl (sc rfl (sc rfl (sc rfl (sc rfl (Sub.nil _)))))), (((((pf4 _ _ _ _ _ _).trans (pf4 _ _ _ _ _ _)).trans (pf4 _ _ _ _ _ _)).trans (pf4 _ _ _ _ _ _)).trans (pf4 _ _ _ _ _ _))⟩
           refine qv ?_ zf
           refine ew rfl (qY rfl qdL) ?_
           rintro _ _ ⟨b15_r20_65, rfl, rfl⟩
           refine qg ?_
           refine qv ?_ ?_
           ·
            refine ewr rfl (qm rfl rfl (.tail _ (.head _)) rfl rfl (by exact qd) rfl) (rd rfl (qB (f := qa) g_21 rfl qe rfl (asl rfl) rfl hq_27 qb rfl) (rd rfl (qi rfl qz rfl rfl rfl rfl) (rd rfl (qn rfl rfl (by exact qL) rfl) (qg ?_))))
            refine qv ?_ zf
            refine ewr rfl (qdZ _ rfl qaA (.oc rfl (.oc rfl .nil)) (by exact (((pf3 _ _ _ _ _).trans (pf3 _ _ _ _ _)).trans (pf3 _ _ _ _ _))) (qar fuel _ _ _ _ _ _ _ hr_67)) ?_
            refine rd rfl (qbj rfl qcS (.oc rfl (.oc rfl .nil)) (.cons rfl rfl rfl (.cons rfl (qI _) rfl (.nil _)))) (qg ?_)
            refine qv ?_ zf
            refine eqR rfl (qt _ rfl rfl rfl (Wk.refl _) (pf0 _) (by exact qcE) (by first | rfl | simp [sz, szs, qc8, qI]) (by first | rfl | simp [sz, szs, qc8, qI]) rfl) (qg ?_)
            refine qbJ ?_
            exact ⟨b15_r20_65, (sc rfl (sc rfl (sc rfl (sc rfl (sc rfl (Sub.nil _)))))), (((((pf4 _ _ _ _ _ _).trans (pf4 _ _ _ _ _ _)).trans (pf4 _ _ _ _ _ _)).trans (pf4 _ _ _ _ _ _)).trans (pf4 _ _ _ _ _ _))⟩
           refine qv ?_ zf
           refine ewr rfl (qdZ _ rfl qaA (.oc rfl (.oc rfl .nil)) (by exact (((pf3 _ _ _ _ _).trans (pf3 _ _ _ _ _)).trans (pf3 _ _ _ _ _))) (qar fuel _ _ _ _ _ _ _ hr_67)) ?_
           refine qg ?_
           refine qv ?_ zf
           refine ewr rfl (qm rfl rfl (.tail _ (.head _)) rfl rfl (by exact qd) rfl) (rd rfl (qB (f := qa) g_21 rfl qe rfl (asl rfl) rfl hq_27 qb rfl) (rd rfl (qi rfl qz rfl rfl rfl rfl) (rd rfl (qn rfl rfl (by exact qL) rfl) (rd rfl (qbj rfl qcS (.oc rfl (.oc rfl .nil)) (.cons rfl rfl rfl (.cons rfl (qI _) rfl (.nil _)))) (qg ?_)))))
           refine qv ?_ zf
           refine eqR rfl (qt _ rfl rfl rfl (Wk.refl _) (pf0 _) (by exact qcE) (by first | rfl | simp [sz, szs, qc8, qI]) (by first | rfl | simp [sz, szs, qc8, qI]) rfl) (qg ?_)
           refine qbJ ?_
           exact ⟨b15_r20_65, (sc rfl (sc rfl (sc rfl (sc rfl (sc rfl (Sub.nil _)))))), (((((pf4 _ _ _ _ _ _).trans (pf4 _ _ _ _ _ _)).trans (pf4 _ _ _ _ _ _)).trans (pf4 _ _ _ _ _ _)).trans (pf4 _ _ _ _ _ _))⟩
          ·
           rintro _ _ ⟨b15_r20_65, hs, hp⟩
           refine qj7 hs hp (qbS 15 b15_r20_65 rfl (pf0 _) (qk (gr [.w] (ew rfl (qb8 123 5 (.inl rfl)) ?_))))
           rintro _ _ ⟨u16_67, rfl, rfl⟩
           refine qg (qk (gr [.d] (rc rfl (qg (qk ?_)))))
           obtain ⟨kk3, hkk3, hr⟩ := exK (fun k => qa6 k q_27 out_19 0) hr
           refine qfb 12 rfl (asl rfl) fun hla3 => ?_
           simp only [List.length_map] at hla3
           refine qaW (fun env σ => ∃ (k_76 : Int) (u_74 : Value) (u_75 : Value) (u_77 : Value) (u_78 : Value), env = [(6, .ref b19_1 0 []), (10, .lst (r_12.1.map qo)), (12, .own u_74 (out_19.map zp)), (13, .int .i64 i_20), (15, .ptr (.agg [.int .i64 q_27.f1_Int, ze r_67])), (16, .own u_75 ([].map zp)), (17, .int .i64 k_76)] ∧ σ = [.cell b19_1 (.agg [.own u_77 (g_21.map qa), .vec u_78 g_22.length]), .row u_77 g_21.length 141 4, .vec u_78 (g_22.map (D.int .i64)) 3 1, .row u_74 out_19.length 123 5, .row u_75 ([] : (List (Int × T))).length 123 5] ∧ kk3 k_76 = some res) ?_ (fun HK3 => ?_)
           ·
            rintro _ _ ⟨k_76, u_74, u_75, u_77, u_78, rfl, rfl, hr⟩
            rw [hkk3] at hr
            refine qk (gr [.d, .d, .d, .d, .w, .d] (rf rfl (rf rfl (rf rfl ?_))))
            obtain ⟨l_79, hl_79, hr⟩ := zb hr
            refine rd rfl (qhh (f := zp) out_19 0 k_76 rfl qbY rfl (asl rfl) qnz (qm4 rfl) qdf hl_79) ?_
            obtain ⟨l_80, hl_80, hr⟩ := zb hr
            refine ew rfl (qcd (f := zp) [] l_79 rfl qbY rfl rfl (asl rfl) (pf4 _ _ _ _ _ _) rfl qdf hl_80) ?_
            rintro _ _ ⟨u141_80, rfl, rfl⟩
            refine rc rfl (qg (qk (gr [.d, .d, .d, .w, .d] (rf rfl (rd rfl (qn rfl rfl (by exact qcE) (by first | rfl | simp [sz, szs, qc8, qI])) (rd rfl (qgi (f := zp) [.tmp 143] [(q_27.f1_Int, r_67)] rfl qbY rfl rfl (by decide) (by decide) (.oc rfl .nil) qdf (fun _ => rfl)) ?_))))))
            obtain ⟨l_82, hl_82, hr⟩ := zb hr
            refine ew rfl (qcd (f := zp) l_80 [(q_27.f1_Int, r_67)] rfl qbY rfl rfl (asl rfl) (pf0 _) rfl qdf hl_82) ?_
            rintro _ _ ⟨u145_82, rfl, rfl⟩
            refine rc rfl (qg (gr [.d, .d, .d, .d, .w, .d] (rf rfl (rf rfl (rf rfl ?_)))))
            obtain ⟨l_84, hl_84, hr⟩ := zb hr
            refine rd rfl (qhh (f := zp) out_19 k_76 (out_19.length : Int) rfl qbY rfl (asl rfl) (qeK rfl) qeG qdf hl_84) ?_
            obtain ⟨l_85, hl_85, hr⟩ := zb hr
            refine ew rfl (qcd (f := zp) l_82 l_84 rfl qbY rfl rfl (asl rfl) (pf0 _) rfl qdf hl_85) ?_
            rintro _ _ ⟨u150_85, rfl, rfl⟩
            refine rc rfl (qg (qK (gr [.d, .d, .d] (rf rfl (rd rfl (qdK rfl rfl rfl rfl) (rc rfl (qg (qal [(6, .ref b19_1 0 []), (10, .lst (r_12.1.map qo)), (12, .own u150_85 (l_85.map zp)), (13, .int .i64 (wr (i_20 + (1 : Int))))] (sc rfl (sc rfl (sc rfl (sc rfl (Sub.nil _))))) (qbf [_, _, _, _] _ ((((pf0 _).trans (pf3 _ _ _ _ _)).trans (pf3 _ _ _ _ _)).trans (pf3 _ _ _ _ _)) ?_)))))))))
            exact IH1 _ _ _ (by omega) ⟨l_85, (wr (i_20 + (1 : Int))), g_21, g_22, u_77, u_78, u150_85, _, rfl, rfl, rfl, hr⟩
           ·
            refine qal [(6, .ref b19_1 0 []), (10, .lst (r_12.1.map qo)), (12, .own u_18 (out_19.map zp)), (13, .int .i64 i_20), (15, .ptr (.agg [.int .i64 q_27.f1_Int, ze r_67])), (16, .own u16_67 ([].map zp)), (17, .int .i64 ((0 : Nat) : Int))] (sc rfl (sc rfl (sc rfl (sc rfl (sc rfl (sc rfl (sc rfl (Sub.nil _)))))))) (qbf [_, _, _, _, _] _ (((((pf0 _).trans (pf4 _ _ _ _ _ _)).trans (pf4 _ _ _ _ _ _)).trans (pf4 _ _ _ _ _ _)).trans (pf4 _ _ _ _ _ _)) (qcc (fun n env σ => ∃ (k_73 : Nat) (u_69 : Value) (u_70 : Value) (u_71 : Value) (u_72 : Value), (n = out_19.length - k_73) ∧ (env = [(6, .ref b19_1 0 []), (10, .lst (r_12.1.map qo)), (12, .own u_71 (out_19.map zp)), (13, .int .i64 i_20), (15, .ptr (.agg [.int .i64 q_27.f1_Int, ze r_67])), (16, .own u_72 ([].map zp)), (17, .int .i64 (k_73 : Int))]) ∧ (σ = [.cell b19_1 (.agg [.own u_69 (g_21.map qa), .vec u_70 g_22.length]), .row u_69 g_21.length 141 4, .vec u_70 (g_22.map (D.int .i64)) 3 1, .row u_71 out_19.length 123 5, .row u_72 ([] : (List (Int × T))).length 123 5]) ∧ (k_73 ≤ out_19.length) ∧ (qa6 kk3 q_27 (out_19.drop k_73) k_73 = some res)) _ ⟨0, u_16, u_17, u_18, u16_67, rfl, rfl, rfl, Nat.zero_le _, hr⟩ ?_))
            rintro n _ _ ⟨k_73, u_69, u_70, u_71, u_72, rfl, rfl, rfl, hi3, hr⟩ IH3
            rcases zh out_19 k_73 hi3 with ⟨ht3, hd3, he3⟩ | ⟨q_87, ht3, hd3, hq3, hlt3⟩
            ·
             rw [hd3, qa6] at hr
             refine qk (qk (ga [(0, .d), (1, .d), (2, .d), (3, .d), (4, .d), (5, .d), (6, .d), (7, .d), (8, .d), (9, .d), (10, .d), (11, .d), (12, .d), (13, .d)] (rf rfl (rf rfl (rd rfl (qbd (f := zp) out_19 rfl qbY rfl (asl rfl)) (rd rfl (qV rfl rfl rfl rfl) (rf rfl (qdS 125 false rfl ht3 (rh rfl (rh rfl (rh rfl (rh rfl (rh rfl ?_)))))))))))))
             refine rh rfl (rh rfl (rh rfl (rd rfl (qN rfl rfl rfl) (qg (qA rfl (qbB rfl (qal [(6, .ref b19_1 0 []), (10, .lst (r_12.1.map qo)), (12, .own u_71 (out_19.map zp)), (13, .int .i64 i_20), (15, .ptr (.agg [.int .i64 q_27.f1_Int, ze r_67])), (16, .own u_72 ([].map zp)), (17, .int .i64 (k_73 : Int))] (sc rfl (sc rfl (sc rfl (sc rfl (sc rfl (sc rfl (sc rfl (Sub.nil _)))))))) ?_)))))))
             exact HK3 _ _ ⟨(k_73 : Int), u_71, u_72, u_69, u_70, rfl, rfl, hr⟩
            ·
             rw [hd3, qa6] at hr
             refine qk (qk (ga [(0, .d), (1, .d), (2, .d), (3, .d), (4, .d), (5, .d), (6, .d), (7, .d), (8, .d), (9, .d), (10, .d), (11, .d), (12, .d), (13, .d)] (rf rfl (rf rfl (rd rfl (qbd (f := zp) out_19 rfl qbY rfl (asl rfl)) (rd rfl (qV rfl rfl rfl rfl) (rf rfl (qdS 125 true rfl ht3 (rf rfl (rf rfl (rd rfl (qB (f := zp) out_19 rfl qbY rfl (asl rfl) rfl hq3 qdf rfl) (rd rfl (qi rfl qdX rfl rfl rfl rfl) (rd rfl (qn rfl rfl (by exact qL) rfl) ?_)))))))))))))
             refine rd rfl (qi rfl qdX rfl rfl rfl rfl) (rd rfl (qn rfl rfl (by exact qL) rfl) (rd rfl (qV rfl rfl rfl rfl) (rd rfl (qP rfl rfl rfl) (qg ?_))))
             refine zq 134 rfl hr (fun h134_87 hr => ?_) (fun h134_87 hr => ?_)
             ·
              refine qy rfl (qU (qaP (gr [.d, .d, .d] (rf rfl (rd rfl (zZ (r := ((k_73 + 1 : Nat) : Int)) rfl rfl rfl (by simp [iar]) (by omega)) (rc rfl (qg (qK (qal [(6, .ref b19_1 0 []), (10, .lst (r_12.1.map qo)), (12, .own u_71 (out_19.map zp)), (13, .int .i64 i_20), (15, .ptr (.agg [.int .i64 q_27.f1_Int, ze r_67])), (16, .own u_72 ([].map zp)), (17, .int .i64 ((k_73 + 1 : Nat) : Int))] (sc rfl (sc rfl (sc rfl (sc rfl (sc rfl (sc rfl (sc rfl (Sub.nil _)))))))) ?_)))))))))
              exact IH3 _ _ _ (by omega) ⟨(k_73 + 1), u_69, u_70, u_71, u_72, rfl, rfl, rfl, (by omega), hr⟩
             ·
              refine qA rfl (qbB rfl (qal [(6, .ref b19_1 0 []), (10, .lst (r_12.1.map qo)), (12, .own u_71 (out_19.map zp)), (13, .int .i64 i_20), (15, .ptr (.agg [.int .i64 q_27.f1_Int, ze r_67])), (16, .own u_72 ([].map zp)), (17, .int .i64 (k_73 : Int))] (sc rfl (sc rfl (sc rfl (sc rfl (sc rfl (sc rfl (sc rfl (Sub.nil _)))))))) ?_))
              exact HK3 _ _ ⟨(k_73 : Int), u_71, u_72, u_69, u_70, rfl, rfl, hr⟩
     ·
      refine qA rfl (qbB rfl (qal [(12, .own u_18 (out_19.map zp))] (sc rfl (Sub.nil _)) (qbf [_] _ (pf3 _ _ _ _ _) ?_)))
      exact HK1 _ _ ⟨out_19, u_18, rfl, rfl, hr⟩
 ·
  refine qal [(0, .lst (a_a0.map ze)), (1, .lst (b_a1.map ze)), (6, .ref b19_1 0 []), (7, .int .i64 ((0 : Nat) : Int))] (sc rfl (sc rfl (sc rfl (sc rfl (Sub.nil _))))) (qbf [_, _, _] _ (((pf1 _ _ _).trans (pf2 _ _ _ _)).trans (pf2 _ _ _ _)) (qcc (fun n env σ => ∃ (i_5 : Nat) (t19_6 : (List ql)) (t19_7 : (List Int)) (u_3 : Value) (u_4 : Value), (n = a_a0.length - i_5) ∧ (env = [(0, .lst (a_a0.map ze)), (1, .lst (b_a1.map ze)), (6, .ref b19_1 0 []), (7, .int .i64 (i_5 : Int))]) ∧ (σ = [.cell b19_1 (.agg [.own u_3 (t19_6.map qa), .vec u_4 t19_7.length]), .row u_3 t19_6.length 141 4, .vec u_4 (t19_7.map (D.int .i64)) 3 1]) ∧ (i_5 ≤ a_a0.length) ∧ (qa5 kk0 b_a1 fuel (a_a0.drop i_5) i_5 t19_6 t19_7 = some res)) _ ⟨0, [], [], (.slice none 0 0 ), (.slice none 0 0  ), rfl, rfl, rfl, Nat.zero_le _, hr⟩ ?_))
  rintro n _ _ ⟨i_5, t19_6, t19_7, u_3, u_4, rfl, rfl, rfl, hi0, hr⟩ IH0
  rcases zh a_a0 i_5 hi0 with ⟨ht0, hd0, he0⟩ | ⟨q_89, ht0, hd0, hq0, hlt0⟩
  ·
   rw [hd0, qa5] at hr
   refine qk (qk (gr [.d, .d, .d, .d] (rf rfl (rf rfl (rd rfl (qbd (f := ze) a_a0 rfl qC rfl (asl rfl)) (rd rfl (qV rfl rfl rfl rfl) (qg (qaJ 23 false rfl ht0 (qA rfl (qbB rfl (qal [(6, .ref b19_1 0 [])] (sc rfl (Sub.nil _)) ?_)))))))))))
   exact HK0 _ _ ⟨t19_6, t19_7, u_3, u_4, rfl, rfl, hr⟩
  ·
   rw [hd0, qa5] at hr
   refine qk (qk (gr [.d, .d, .d, .d] (rf rfl (rf rfl (rd rfl (qbd (f := ze) a_a0 rfl qC rfl (asl rfl)) (rd rfl (qV rfl rfl rfl rfl) (qg (qaJ 23 true rfl ht0 (qy rfl (qU (qk (qaP (qk ?_)))))))))))))
   refine gr [.d, .d, .d, .d, .d, .w, .d] (rf rfl (rf rfl (rf rfl (rd rfl (qB (f := ze) a_a0 rfl qC rfl (asl rfl) rfl hq0 qI rfl) (rd rfl (qn rfl rfl (by exact qr) (qI _)) ?_)))))
   obtain ⟨r_90, hr_90, hr⟩ := zb hr
   refine ew rfl (qb1 _ rfl qcl (.oc rfl (.oc rfl .nil)) (by exact (((pf2 _ _ _ _).trans (pf2 _ _ _ _)).trans (pf2 _ _ _ _))) (qcO fuel _ _ _ _ _ _ _ hr_90)) ?_
   rintro _ _ ⟨_, ⟨u31_90, u31_91, rfl, rfl⟩, rfl⟩
   refine zT ((.cell b19_1 (.agg [.own u31_90 (r_90.2.1.map qa), .vec u31_91 r_90.2.2.length])) :: (.row u31_90 r_90.2.1.length 141 4) :: (.vec u31_91 (r_90.2.2.map (D.int .i64)) 3 1) :: _) rfl (rc rfl (qg (qk (gr [.d, .d, .d, .d, .d, .w, .d] (rf rfl (rf rfl (rf rfl ?_)))))))
   obtain ⟨q_93, hq_93, hr⟩ := zb hr
   refine rd rfl (qB (f := ze) b_a1 rfl qC rfl (asl rfl) rfl hq_93 qI rfl) (rd rfl (qn rfl rfl (by exact qr) (qI _)) ?_)
   obtain ⟨r_94, hr_94, hr⟩ := zb hr
   refine ew rfl (qb1 _ rfl qcl (.oc rfl (.oc rfl .nil)) (by exact (((pf2 _ _ _ _).trans (pf2 _ _ _ _)).trans (pf2 _ _ _ _))) (qcO fuel _ _ _ _ _ _ _ hr_94)) ?_
   rintro _ _ ⟨_, ⟨u37_94, u37_95, rfl, rfl⟩, rfl⟩
   refine zT ((.cell b19_1 (.agg [.own u37_94 (r_94.2.1.map qa), .vec u37_95 r_94.2.2.length])) :: (.row u37_94 r_94.2.1.length 141 4) :: (.vec u37_95 (r_94.2.2.map (D.int .i64)) 3 1) :: _) rfl (rc rfl (qg (qk (gr [.d, .d, .d, .w, .d] (rf rfl (rf rfl (rf rfl ?_)))))))
   obtain ⟨r_97, hr_97, hr⟩ := zb hr
   refine ew rfl (qb1 _ rfl qdV (.oc rfl (.oc rfl (.oc rfl .nil))) (by exact (((pf2 _ _ _ _).trans (pf2 _ _ _ _)).trans (pf2 _ _ _ _))) (qdC fuel _ _ _ _ _ _ _ _ hr_97)) ?_
   rintro _ _ ⟨_, ⟨u41_97, u41_98, rfl, rfl⟩, rfl⟩
   refine zT ((.cell b19_1 (.agg [.own u41_97 (r_97.2.1.map qa), .vec u41_98 r_97.2.2.length])) :: (.row u41_97 r_97.2.1.length 141 4) :: (.vec u41_98 (r_97.2.2.map (D.int .i64)) 3 1) :: _) rfl (rd rfl (qdN rfl rfl) (qg ?_))
   refine zq 42 rfl hr (fun h42_99 hr => ?_) (fun h42_99 hr => ?_)
   ·
    refine qy rfl (qk (gr [.w, .d] (ew rfl (qb8 123 5 (.inl rfl)) ?_)))
    rintro _ _ ⟨u4_100, rfl, rfl⟩
    refine rc rfl (qg ?_)
    obtain rfl := Option.some.inj hr
    refine qS Tryz.func114 _ (.cons (za rfl (Wk.own _ _)) (.cons (za rfl (Wk.refl _)) .nil)) ?_
    rfl
   ·
    refine qA rfl (qU (qK (gr [.d, .d, .d] (rf rfl (rd rfl (zZ (r := ((i_5 + 1 : Nat) : Int)) rfl rfl rfl (by simp [iar]) (by omega)) (rc rfl (qg (qal [(0, .lst (a_a0.map ze)), (1, .lst (b_a1.map ze)), (6, .ref b19_1 0 []), (7, .int .i64 ((i_5 + 1 : Nat) : Int))] (sc rfl (sc rfl (sc rfl (sc rfl (Sub.nil _))))) ?_))))))))
    exact IH0 _ _ _ (by omega) ⟨(i_5 + 1), r_97.2.1, r_97.2.2, u41_97, u41_98, rfl, rfl, rfl, (by omega), hr⟩
noncomputable def qbp (k : Option ((List (Int × T)) × Int)) : List T → Option ((List (Int × T)) × Int)
 | [] =>
 k
 | q_5 :: rest =>
 ((qjL q_5).bind fun r_6 =>
 (bif (!r_6) then
 some ([], 2)
 else
 (qbp k rest)))
noncomputable def qbl (k : Option ((List (Int × T)) × Int)) : List T → Option ((List (Int × T)) × Int)
 | [] =>
 k
 | q_8 :: rest =>
 ((qjL q_8).bind fun r_9 =>
 (bif (!r_9) then
 some ([], 2)
 else
 (qbl k rest)))
noncomputable def qc1 (fuel : Nat) (a_a0 : (List T)) (b_a1 : (List T)) : Option ((List (Int × T)) × Int) :=
 (qbl ((qbp ((bif ((a_a0.length : Int) != (b_a1.length : Int)) then
 some ([], 9)
 else
 ((qcF fuel a_a0 b_a1).bind fun r_4 =>
 some (r_4.1, r_4.2)))) b_a1)) a_a0)
set_option maxHeartbeats 1000000 in
theorem qhO (fuel : Nat) (a_a0 : (List T)) (b_a1 : (List T)) (res : (List (Int × T)) × Int) (hr : qc1 fuel a_a0 b_a1 = some res) : zi Tryz.prog 106 [.lst (a_a0.map ze), .lst (b_a1.map ze)] (.tup [.lst (res.1.map zp), .int .i64 res.2]) := by
 unfold qc1 at hr
 refine q7 [(0, .lst (a_a0.map ze)), (1, .lst (b_a1.map ze))] Tryz.func106 rfl rfl fun K hK => (qk (gr [.d, .d] (rc rfl (rc rfl (qg (qk (qk (gr [.d] (rc rfl (qg ?_))))))))))
 obtain ⟨kk0, hkk0, hr⟩ := exK (fun k => qbl k a_a0) hr
 refine qfb 0 rfl (asl rfl) fun hla0 => ?_
 simp only [List.length_map] at hla0
 refine qaW (fun env σ => env = [(0, .lst (a_a0.map ze)), (1, .lst (b_a1.map ze))] ∧ σ = [] ∧ kk0 = some res) ?_ (fun HK0 => ?_)
 ·
  rintro _ _ ⟨rfl, rfl, hr⟩
  rw [hkk0] at hr
  refine qk (qk (gr [.d] (rc rfl (qg ?_))))
  obtain ⟨kk1, hkk1, hr⟩ := exK (fun k => qbp k b_a1) hr
  refine qfb 1 rfl (asl rfl) fun hla1 => ?_
  simp only [List.length_map] at hla1
  refine qaW (fun env σ => env = [(0, .lst (a_a0.map ze)), (1, .lst (b_a1.map ze))] ∧ σ = [] ∧ kk1 = some res) ?_ (fun HK1 => ?_)
  ·
   rintro _ _ ⟨rfl, rfl, hr⟩
   rw [hkk1] at hr
   refine qk (qk (gr [.d, .d, .d, .d, .d] (rf rfl (rd rfl (qbd (f := ze) a_a0 rfl qC rfl (asl rfl)) (rf rfl (rd rfl (qbd (f := ze) b_a1 rfl qC rfl (asl rfl)) (rd rfl (qV rfl rfl rfl rfl) (qg ?_))))))))
   refine zq 36 rfl hr (fun h36_2 hr => ?_) (fun h36_2 hr => ?_)
   ·
    refine qy rfl (qk (gr [.d, .d] (rc rfl (rc rfl (qg ?_)))))
    obtain rfl := Option.some.inj hr
    refine qS Tryz.func106 _ (.cons (za rfl (Wk.full _)) (.cons (za rfl (Wk.refl _)) .nil)) ?_
    rfl
   ·
    refine qA rfl (qU (qk (gr [.d, .d, .d, .d, .d, .d, .d] (rf rfl (rf rfl ?_)))))
    obtain ⟨r_4, hr_4, hr⟩ := zb hr
    refine rd rfl (qM rfl qg6 (.oc rfl (.oc rfl .nil)) (qgW fuel _ _ _ hr_4)) (rd rfl (qbi rfl rfl rfl) (rd rfl (qbi rfl rfl rfl) (rc rfl (rc rfl (qg ?_)))))
    obtain rfl := Option.some.inj hr
    refine qS Tryz.func106 _ (.cons (za rfl (Wk.refl _)) (.cons (za rfl (Wk.refl _)) .nil)) ?_
    rfl
  ·
   refine qal [(0, .lst (a_a0.map ze)), (1, .lst (b_a1.map ze)), (7, .int .i64 ((0 : Nat) : Int))] (sc rfl (sc rfl (sc rfl (Sub.nil _)))) (qcc (fun n env σ => ∃ (i_2 : Nat), (n = b_a1.length - i_2) ∧ (env = [(0, .lst (a_a0.map ze)), (1, .lst (b_a1.map ze)), (7, .int .i64 (i_2 : Int))]) ∧ (σ = []) ∧ (i_2 ≤ b_a1.length) ∧ (qbp kk1 (b_a1.drop i_2) = some res)) _ ⟨0, rfl, rfl, rfl, Nat.zero_le _, hr⟩ ?_)
   rintro n _ _ ⟨i_2, rfl, rfl, rfl, hi1, hr⟩ IH1
   rcases zh b_a1 i_2 hi1 with ⟨ht1, hd1, he1⟩ | ⟨q_5, ht1, hd1, hq1, hlt1⟩
   ·
    rw [hd1, qbp] at hr
    refine qk (qk (gr [.d, .d, .d, .d] (rf rfl (rf rfl (rd rfl (qbd (f := ze) b_a1 rfl qC rfl (asl rfl)) (rd rfl (qV rfl rfl rfl rfl) (qg (qaJ 23 false rfl ht1 (qA rfl (qbB rfl (qal [(0, .lst (a_a0.map ze)), (1, .lst (b_a1.map ze))] (sc rfl (sc rfl (Sub.nil _))) ?_)))))))))))
    exact HK1 _ _ ⟨rfl, rfl, hr⟩
   ·
    rw [hd1, qbp] at hr
    refine qk (qk (gr [.d, .d, .d, .d] (rf rfl (rf rfl (rd rfl (qbd (f := ze) b_a1 rfl qC rfl (asl rfl)) (rd rfl (qV rfl rfl rfl rfl) (qg (qaJ 23 true rfl ht1 (qy rfl (qU (qk (qaP (qk ?_)))))))))))))
    refine gr [.d, .d, .d, .d, .d, .d] (rf rfl (rf rfl (rd rfl (qB (f := ze) b_a1 rfl qC rfl (asl rfl) rfl hq1 qI rfl) (rd rfl (qn rfl rfl (by exact qr) (qI _)) ?_))))
    obtain ⟨r_6, hr_6, hr⟩ := zb hr
    refine rd rfl (qM rfl qe9 (.oc rfl .nil) (qe8 _ _ hr_6)) (rd rfl (qdN rfl rfl) (qg ?_))
    refine zq 31 rfl hr (fun h31_6 hr => ?_) (fun h31_6 hr => ?_)
    ·
     refine qy rfl (qk (gr [.d, .d] (rc rfl (rc rfl (qg ?_)))))
     obtain rfl := Option.some.inj hr
     refine qS Tryz.func106 _ (.cons (za rfl (Wk.full _)) (.cons (za rfl (Wk.refl _)) .nil)) ?_
     rfl
    ·
     refine qA rfl (qU (qK (gr [.d, .d, .d] (rf rfl (rd rfl (zZ (r := ((i_2 + 1 : Nat) : Int)) rfl rfl rfl (by simp [iar]) (by omega)) (rc rfl (qg (qal [(0, .lst (a_a0.map ze)), (1, .lst (b_a1.map ze)), (7, .int .i64 ((i_2 + 1 : Nat) : Int))] (sc rfl (sc rfl (sc rfl (Sub.nil _)))) ?_))))))))
     exact IH1 _ _ _ (by omega) ⟨(i_2 + 1), rfl, rfl, rfl, (by omega), hr⟩
 ·
  refine qal [(0, .lst (a_a0.map ze)), (1, .lst (b_a1.map ze)), (6, .int .i64 ((0 : Nat) : Int))] (sc rfl (sc rfl (sc rfl (Sub.nil _)))) (qcc (fun n env σ => ∃ (i_1 : Nat), (n = a_a0.length - i_1) ∧ (env = [(0, .lst (a_a0.map ze)), (1, .lst (b_a1.map ze)), (6, .int .i64 (i_1 : Int))]) ∧ (σ = []) ∧ (i_1 ≤ a_a0.length) ∧ (qbl kk0 (a_a0.drop i_1) = some res)) _ ⟨0, rfl, rfl, rfl, Nat.zero_le _, hr⟩ ?_)
  rintro n _ _ ⟨i_1, rfl, rfl, rfl, hi0, hr⟩ IH0
  rcases zh a_a0 i_1 hi0 with ⟨ht0, hd0, he0⟩ | ⟨q_8, ht0, hd0, hq0, hlt0⟩
  ·
   rw [hd0, qbl] at hr
   refine qk (qk (gr [.d, .d, .d, .d] (rf rfl (rf rfl (rd rfl (qbd (f := ze) a_a0 rfl qC rfl (asl rfl)) (rd rfl (qV rfl rfl rfl rfl) (qg (qaJ 11 false rfl ht0 (qA rfl (qbB rfl (qal [(0, .lst (a_a0.map ze)), (1, .lst (b_a1.map ze))] (sc rfl (sc rfl (Sub.nil _))) ?_)))))))))))
   exact HK0 _ _ ⟨rfl, rfl, hr⟩
  ·
   rw [hd0, qbl] at hr
   refine qk (qk (gr [.d, .d, .d, .d] (rf rfl (rf rfl (rd rfl (qbd (f := ze) a_a0 rfl qC rfl (asl rfl)) (rd rfl (qV rfl rfl rfl rfl) (qg (qaJ 11 true rfl ht0 (qy rfl (qU (qk (qaP (qk ?_)))))))))))))
   refine gr [.d, .d, .d, .d, .d, .d] (rf rfl (rf rfl (rd rfl (qB (f := ze) a_a0 rfl qC rfl (asl rfl) rfl hq0 qI rfl) (rd rfl (qn rfl rfl (by exact qr) (qI _)) ?_))))
   obtain ⟨r_9, hr_9, hr⟩ := zb hr
   refine rd rfl (qM rfl qe9 (.oc rfl .nil) (qe8 _ _ hr_9)) (rd rfl (qdN rfl rfl) (qg ?_))
   refine zq 19 rfl hr (fun h19_9 hr => ?_) (fun h19_9 hr => ?_)
   ·
    refine qy rfl (qk (gr [.d, .d] (rc rfl (rc rfl (qg ?_)))))
    obtain rfl := Option.some.inj hr
    refine qS Tryz.func106 _ (.cons (za rfl (Wk.full _)) (.cons (za rfl (Wk.refl _)) .nil)) ?_
    rfl
   ·
    refine qA rfl (qU (qK (gr [.d, .d, .d] (rf rfl (rd rfl (zZ (r := ((i_1 + 1 : Nat) : Int)) rfl rfl rfl (by simp [iar]) (by omega)) (rc rfl (qg (qal [(0, .lst (a_a0.map ze)), (1, .lst (b_a1.map ze)), (6, .int .i64 ((i_1 + 1 : Nat) : Int))] (sc rfl (sc rfl (sc rfl (Sub.nil _)))) ?_))))))))
    exact IH0 _ _ _ (by omega) ⟨(i_1 + 1), rfl, rfl, rfl, (by omega), hr⟩
noncomputable def qdb (fuel : Nat) (a_a0 : T) (b_a1 : T) : Option ((List (Int × T)) × Int) :=
 ((qc1 fuel [a_a0] [b_a1]).bind fun r_1 =>
 some (r_1.1, r_1.2))
set_option maxHeartbeats 1000000 in
theorem qgM (fuel : Nat) (a_a0 : T) (b_a1 : T) (res : (List (Int × T)) × Int) (hr : qdb fuel a_a0 b_a1 = some res) : zi Tryz.prog 84 [ze a_a0, ze b_a1] (.tup [.lst (res.1.map zp), .int .i64 res.2]) := by
 unfold qdb at hr
 refine q7 [(0, ze a_a0), (1, ze b_a1)] Tryz.func84 rfl rfl fun K hK => (qk (gr [.d, .d, .d, .d] (rd rfl (qdH rfl rfl rfl) (rd rfl (qdH rfl rfl rfl) (rc rfl (rc rfl (qg (qk (gr [.d, .d, .d, .d, .d, .d, .d, .d, .d] (rd rfl (qn rfl rfl (by exact qr) (qI _)) (rd rfl (qgi (f := ze) [.tmp 6] [a_a0] rfl qC rfl rfl (by decide) (by decide) (.oc rfl .nil) qI (fun _ => rfl)) (rd rfl (qn rfl rfl (by exact qr) (qI _)) (rd rfl (qgi (f := ze) [.tmp 8] [b_a1] rfl qC rfl rfl (by decide) (by decide) (.oc rfl .nil) qI (fun _ => rfl)) ?_)))))))))))))
 obtain ⟨r_1, hr_1, hr⟩ := zb hr
 refine rd rfl (by exact qM rfl qhH (.cons rfl (Wk.full _) (.cons rfl (Wk.full _) .nil)) (qhO fuel _ _ _ hr_1)) ?_
 refine rd rfl (qbi rfl rfl rfl) (rd rfl (qbi rfl rfl rfl) (rc rfl (rc rfl (qg ?_))))
 obtain rfl := Option.some.inj hr
 refine qS Tryz.func84 _ (.cons (za rfl (Wk.refl _)) (.cons (za rfl (Wk.refl _)) .nil)) ?_
 rfl
noncomputable def qbg (fuel : Nat) (a_a0 : T) (b_a1 : T) : Option (Bool) :=
 ((qdb fuel a_a0 b_a1).bind fun r_1 =>
 (bif (r_1.2 == (0 : Int)) then
 some (true)
 else
 some ((r_1.2 == (6 : Int)))))
set_option maxHeartbeats 1000000 in
theorem qed (fuel : Nat) (a_a0 : T) (b_a1 : T) (res : Bool) (hr : qbg fuel a_a0 b_a1 = some res) : zi Tryz.prog 55 [ze a_a0, ze b_a1] (.bool res) := by
 unfold qbg at hr
 refine q7 [(0, ze a_a0), (1, ze b_a1)] Tryz.func55 rfl rfl fun K hK => (qk (gr [.d, .d, .d] (rd rfl (qdH rfl rfl rfl) (rd rfl (qdH rfl rfl rfl) (rc rfl (qg (qk (gr [.d, .d, .d, .d, .d, .d, .d, .d] (rd rfl (qn rfl rfl (by exact qr) (qI _)) (rd rfl (qn rfl rfl (by exact qr) (qI _)) ?_))))))))))
 obtain ⟨r_1, hr_1, hr⟩ := zb hr
 refine rd rfl (qM rfl qgL (.oc rfl (.oc rfl .nil)) (qgM fuel _ _ _ hr_1)) (rf rfl (rd rfl (qbi rfl rfl rfl) (rd rfl (qbi rfl rfl rfl) (rc rfl (rc rfl (qg (qk (gr [.d, .d, .d, .d, .d, .d, .d] (rf rfl (rd rfl (qV rfl rfl rfl rfl) (rf rfl ?_)))))))))))
 refine zJ 15 rfl hr (fun h15_1 hr => ?_) (fun h15_1 hr => ?_)
 ·
  refine rh rfl (rh rfl (rd rfl (qP rfl rfl rfl) (rc rfl (qg ?_))))
  obtain rfl := Option.some.inj hr
  refine qS Tryz.func55 _ (.cons (za rfl (Wk.refl _)) .nil) ?_
  rfl
 ·
  refine rf rfl (rd rfl (qV rfl rfl rfl rfl) (rd rfl (qN rfl rfl rfl) (rc rfl (qg ?_))))
  obtain rfl := Option.some.inj hr
  refine qS Tryz.func55 _ (.cons (za rfl (Wk.refl _)) .nil) ?_
  rfl
noncomputable def qbU (fuel : Nat) (g_a0 : Gl) : Option (Int) :=
 ((qcy g_a0).bind fun r_1 =>
 (bif (!r_1) then
 (bif (g_a0.op == (1 : Int)) then
 ((qie g_a0).bind fun r_4 =>
 ((qaj r_4).bind fun r_5 =>
 some (r_5)))
 else
 ((qaj false).bind fun r_6 =>
 some (r_6)))
 else
 ((zw g_a0.ts 0).bind fun q_7 =>
 (bif (g_a0.op == (11 : Int)) then
 (bif (q_7.k == (1 : Int)) then
 some (0)
 else
 ((qaj (q_7.k == (0 : Int))).bind fun r_11 =>
 some (r_11)))
 else
 (bif (g_a0.op == (12 : Int)) then
 ((qbV fuel q_7).bind fun r_13 =>
 (bif r_13 then
 some (1)
 else
 some (0)))
 else
 ((zw g_a0.ts 1).bind fun q_15 =>
 (bif (g_a0.op != (5 : Int)) then
 (bif (g_a0.op != (6 : Int)) then
 ((qcx fuel g_a0.op q_7 q_15).bind fun r_19 =>
 some (r_19))
 else
 ((qh3 q_7 q_15).bind fun r_20 =>
 (bif r_20 then
 ((qaj (g_a0.op == (5 : Int))).bind fun r_22 =>
 some (r_22))
 else
 ((qbg fuel q_7 q_15).bind fun r_23 =>
 (bif (!r_23) then
 ((qaj (g_a0.op == (6 : Int))).bind fun r_25 =>
 some (r_25))
 else
 some (0))))))
 else
 ((qh3 q_7 q_15).bind fun r_26 =>
 (bif r_26 then
 ((qaj (g_a0.op == (5 : Int))).bind fun r_28 =>
 some (r_28))
 else
 ((qbg fuel q_7 q_15).bind fun r_29 =>
 (bif (!r_29) then
 ((qaj (g_a0.op == (6 : Int))).bind fun r_31 =>
 some (r_31))
 else
 some (0))))))))))))
set_option maxHeartbeats 1000000 in
theorem qhu (fuel : Nat) (g_a0 : Gl) (res : Int) (hr : qbU fuel g_a0 = some res) : zi Tryz.prog 26 [zk g_a0] (.int .i64 res) := by
 unfold qbU at hr
 refine q7 [(0, zk g_a0)] Tryz.func26 rfl rfl fun K hK => (qk (gr [.d, .d] (rd rfl (qdH rfl rfl rfl) (rc rfl (qg (qk (qk (gr [.d, .d, .d] (rd rfl (qn rfl rfl (by exact qbs) (qbu _)) ?_)))))))))
 obtain ⟨r_1, hr_1, hr⟩ := zb hr
 refine rd rfl (qM rfl qgJ (.oc rfl .nil) (qgx _ _ hr_1)) (rd rfl (qdN rfl rfl) (qg ?_))
 refine zq 7 rfl hr (fun h7_1 hr => ?_) (fun h7_1 hr => ?_)
 ·
  refine qy rfl (qk (gr [.d, .d, .d, .d, .d, .d, .d, .d, .d] (rd rfl (qi rfl qcp rfl rfl rfl rfl) (rd rfl (qn rfl rfl (by exact qL) rfl) (rd rfl (qV rfl rfl rfl rfl) (rf rfl ?_))))))
  refine zJ 11 rfl hr (fun h11_2 hr => ?_) (fun h11_2 hr => ?_)
  ·
   refine rd rfl (qn rfl rfl (by exact qbs) (qbu _)) ?_
   obtain ⟨r_4, hr_4, hr⟩ := zb hr
   refine rd rfl (qM rfl qee (.oc rfl .nil) (qep _ _ hr_4)) (rd rfl (qP rfl rfl rfl) ?_)
   obtain ⟨r_5, hr_5, hr⟩ := zb hr
   refine rd rfl (qM rfl qaZ (.oc rfl .nil) (qaY _ _ hr_5)) (rc rfl (qg ?_))
   obtain rfl := Option.some.inj hr
   refine qS Tryz.func26 _ (.cons (za rfl (Wk.refl _)) .nil) ?_
   rfl
  ·
   refine rh rfl (rh rfl (rd rfl (qN rfl rfl rfl) ?_))
   obtain ⟨r_6, hr_6, hr⟩ := zb hr
   refine rd rfl (qM rfl qaZ (.oc rfl .nil) (qaY _ _ hr_6)) (rc rfl (qg ?_))
   obtain rfl := Option.some.inj hr
   refine qS Tryz.func26 _ (.cons (za rfl (Wk.refl _)) .nil) ?_
   rfl
 ·
  refine qA rfl (qU (qk (gr [.d, .d, .d, .d, .w, .w] (rd rfl (qi rfl qcm rfl rfl rfl rfl) (rd rfl (qn rfl rfl (by exact qT) rfl) ?_)))))
  obtain ⟨q_7, hq_7, hr⟩ := zb hr
  refine rd rfl (qB (f := ze) g_a0.ts rfl qC rfl (asl rfl) rfl hq_7 qI rfl) (rd rfl (qn rfl rfl (by exact qr) (qI _)) (ew rfl (qY rfl qbc) ?_))
  rintro _ _ ⟨b3_7, rfl, rfl⟩
  refine eqR rfl (qt _ rfl rfl rfl (Wk.refl _) (pf0 _) (by exact qr) (qI _) rfl rfl) (qg (qbS 3 b3_7 rfl (pf0 _) (qk (qk (gr [.d, .d] (rd rfl (qi rfl qcp rfl rfl rfl rfl) (rd rfl (qn rfl rfl (by exact qL) rfl) (qg (qaP (qk (gr [.d, .d] (rd rfl (qV rfl rfl rfl rfl) (rc rfl ?_)))))))))))))
  refine qg ?_
  refine zq 22 rfl hr (fun h22_8 hr => ?_) (fun h22_8 hr => ?_)
  ·
   refine qy rfl (qk (qk (gr [.d, .d, .d] (rd rfl (qi rfl qbm rfl (qdd _) (qc9 _) rfl) (rd rfl (qn rfl rfl (by exact qL) rfl) (rd rfl (qV rfl rfl rfl rfl) (qg ?_)))))))
   refine zq 26 rfl hr (fun h26_9 hr => ?_) (fun h26_9 hr => ?_)
   ·
    refine qy rfl (qk (gr [.d] (rc rfl (qg ?_))))
    obtain rfl := Option.some.inj hr
    refine qS Tryz.func26 _ (.cons (za rfl (Wk.refl _)) .nil) ?_
    rfl
   ·
    refine qA rfl (qU (qk (gr [.d, .d, .d, .d, .d] (rd rfl (qi rfl qbm rfl (qdd _) (qc9 _) rfl) (rd rfl (qn rfl rfl (by exact qL) rfl) (rd rfl (qV rfl rfl rfl rfl) ?_))))))
    obtain ⟨r_11, hr_11, hr⟩ := zb hr
    refine rd rfl (qM rfl qaZ (.oc rfl .nil) (qaY _ _ hr_11)) (rc rfl (qg ?_))
    obtain rfl := Option.some.inj hr
    refine qS Tryz.func26 _ (.cons (za rfl (Wk.refl _)) .nil) ?_
    rfl
  ·
   refine qA rfl (qk (gr [.d, .d] (rd rfl (qV rfl rfl rfl rfl) (rc rfl (qg ?_)))))
   refine zq 31 rfl hr (fun h31_11 hr => ?_) (fun h31_11 hr => ?_)
   ·
    refine qy rfl (qk (qk (gr [.d, .d] (rd rfl (qn rfl rfl (by exact qr) (qI _)) ?_))))
    obtain ⟨r_13, hr_13, hr⟩ := zb hr
    refine rd rfl (qM rfl qdI (.oc rfl .nil) (qdJ fuel _ _ hr_13)) (qg ?_)
    refine zq 34 rfl hr (fun h34_13 hr => ?_) (fun h34_13 hr => ?_)
    ·
     refine qy rfl (qk (gr [.d] (rc rfl (qg ?_))))
     obtain rfl := Option.some.inj hr
     refine qS Tryz.func26 _ (.cons (za rfl (Wk.refl _)) .nil) ?_
     rfl
    ·
     refine qA rfl (qU (qk (gr [.d] (rc rfl (qg ?_)))))
     obtain rfl := Option.some.inj hr
     refine qS Tryz.func26 _ (.cons (za rfl (Wk.refl _)) .nil) ?_
     rfl
   ·
    refine qA rfl (qU (qK (qk (gr [.d, .d, .d, .d, .w, .w] (rd rfl (qi rfl qcm rfl rfl rfl rfl) (rd rfl (qn rfl rfl (by exact qT) rfl) ?_))))))
    obtain ⟨q_15, hq_15, hr⟩ := zb hr
    refine rd rfl (qB (f := ze) g_a0.ts rfl qC rfl (asl rfl) rfl hq_15 qI rfl) (rd rfl (qn rfl rfl (by exact qr) (qI _)) (ew rfl (qY rfl qbc) ?_))
    rintro _ _ ⟨b4_15, rfl, rfl⟩
    refine eqR rfl (qt _ rfl rfl rfl (Wk.refl _) (pf0 _) (by exact qr) (qI _) rfl rfl) (qg (qbS 4 b4_15 rfl (pf0 _) (qk (qk (gr [.d, .d, .d, .d, .d, .d, .d, .d] (rd rfl (qi rfl qcp rfl rfl rfl rfl) (rd rfl (qn rfl rfl (by exact qL) rfl) (rd rfl (qV rfl rfl rfl rfl) (rf rfl ?_)))))))))
    refine zJ 42 rfl hr (fun h42_16 hr => ?_) (fun h42_16 hr => ?_)
    ·
     refine rd rfl (qi rfl qcp rfl rfl rfl rfl) (rd rfl (qn rfl rfl (by exact qL) rfl) (rd rfl (qV rfl rfl rfl rfl) (rd rfl (qP rfl rfl rfl) (qg ?_))))
     refine zq 46 rfl hr (fun h46_17 hr => ?_) (fun h46_17 hr => ?_)
     ·
      refine qy rfl (qk (gr [.d, .d, .d, .d, .d, .d] (rd rfl (qi rfl qcp rfl rfl rfl rfl) (rd rfl (qn rfl rfl (by exact qL) rfl) (rd rfl (qn rfl rfl (by exact qr) (qI _)) (rd rfl (qn rfl rfl (by exact qr) (qI _)) ?_))))))
      obtain ⟨r_19, hr_19, hr⟩ := zb hr
      refine rd rfl (qM rfl qgF (.oc rfl (.oc rfl (.oc rfl .nil))) (qgB fuel _ _ _ _ hr_19)) (rc rfl (qg ?_))
      obtain rfl := Option.some.inj hr
      refine qS Tryz.func26 _ (.cons (za rfl (Wk.refl _)) .nil) ?_
      rfl
     ·
      refine qA rfl (qU (qk (qk (gr [.d, .d, .d] (rd rfl (qn rfl rfl (by exact qr) (qI _)) (rd rfl (qn rfl rfl (by exact qr) (qI _)) ?_))))))
      obtain ⟨r_20, hr_20, hr⟩ := zb hr
      refine rd rfl (qM rfl qdm (.oc rfl (.oc rfl .nil)) (qdk _ _ _ hr_20)) (qg ?_)
      refine zq 54 rfl hr (fun h54_20 hr => ?_) (fun h54_20 hr => ?_)
      ·
       refine qy rfl (qk (gr [.d, .d, .d, .d, .d] (rd rfl (qi rfl qcp rfl rfl rfl rfl) (rd rfl (qn rfl rfl (by exact qL) rfl) (rd rfl (qV rfl rfl rfl rfl) ?_)))))
       obtain ⟨r_22, hr_22, hr⟩ := zb hr
       refine rd rfl (qM rfl qaZ (.oc rfl .nil) (qaY _ _ hr_22)) (rc rfl (qg ?_))
       obtain rfl := Option.some.inj hr
       refine qS Tryz.func26 _ (.cons (za rfl (Wk.refl _)) .nil) ?_
       rfl
      ·
       refine qA rfl (qU (qk (qk (gr [.d, .d, .d, .d] (rd rfl (qn rfl rfl (by exact qr) (qI _)) (rd rfl (qn rfl rfl (by exact qr) (qI _)) ?_))))))
       obtain ⟨r_23, hr_23, hr⟩ := zb hr
       refine rd rfl (qM rfl qeh (.oc rfl (.oc rfl .nil)) (qed fuel _ _ _ hr_23)) (rd rfl (qdN rfl rfl) (qg ?_))
       refine zq 62 rfl hr (fun h62_23 hr => ?_) (fun h62_23 hr => ?_)
       ·
        refine qy rfl (qk (gr [.d, .d, .d, .d, .d] (rd rfl (qi rfl qcp rfl rfl rfl rfl) (rd rfl (qn rfl rfl (by exact qL) rfl) (rd rfl (qV rfl rfl rfl rfl) ?_)))))
        obtain ⟨r_25, hr_25, hr⟩ := zb hr
        refine rd rfl (qM rfl qaZ (.oc rfl .nil) (qaY _ _ hr_25)) (rc rfl (qg ?_))
        obtain rfl := Option.some.inj hr
        refine qS Tryz.func26 _ (.cons (za rfl (Wk.refl _)) .nil) ?_
        rfl
       ·
        refine qA rfl (qU (qk (gr [.d] (rc rfl (qg ?_)))))
        obtain rfl := Option.some.inj hr
        refine qS Tryz.func26 _ (.cons (za rfl (Wk.refl _)) .nil) ?_
        rfl
    ·
     refine rh rfl (rh rfl (rh rfl (rd rfl (qN rfl rfl rfl) (qg (qA rfl (qU (qk (qk (gr [.d, .d, .d] (rd rfl (qn rfl rfl (by exact qr) (qI _)) (rd rfl (qn rfl rfl (by exact qr) (qI _)) ?_)))))))))))
     obtain ⟨r_26, hr_26, hr⟩ := zb hr
     refine rd rfl (qM rfl qdm (.oc rfl (.oc rfl .nil)) (qdk _ _ _ hr_26)) (qg ?_)
     refine zq 54 rfl hr (fun h54_26 hr => ?_) (fun h54_26 hr => ?_)
     ·
      refine qy rfl (qk (gr [.d, .d, .d, .d, .d] (rd rfl (qi rfl qcp rfl rfl rfl rfl) (rd rfl (qn rfl rfl (by exact qL) rfl) (rd rfl (qV rfl rfl rfl rfl) ?_)))))
      obtain ⟨r_28, hr_28, hr⟩ := zb hr
      refine rd rfl (qM rfl qaZ (.oc rfl .nil) (qaY _ _ hr_28)) (rc rfl (qg ?_))
      obtain rfl := Option.some.inj hr
      refine qS Tryz.func26 _ (.cons (za rfl (Wk.refl _)) .nil) ?_
      rfl
     ·
      refine qA rfl (qU (qk (qk (gr [.d, .d, .d, .d] (rd rfl (qn rfl rfl (by exact qr) (qI _)) (rd rfl (qn rfl rfl (by exact qr) (qI _)) ?_))))))
      obtain ⟨r_29, hr_29, hr⟩ := zb hr
      refine rd rfl (qM rfl qeh (.oc rfl (.oc rfl .nil)) (qed fuel _ _ _ hr_29)) (rd rfl (qdN rfl rfl) (qg ?_))
      refine zq 62 rfl hr (fun h62_29 hr => ?_) (fun h62_29 hr => ?_)
      ·
       refine qy rfl (qk (gr [.d, .d, .d, .d, .d] (rd rfl (qi rfl qcp rfl rfl rfl rfl) (rd rfl (qn rfl rfl (by exact qL) rfl) (rd rfl (qV rfl rfl rfl rfl) ?_)))))
       obtain ⟨r_31, hr_31, hr⟩ := zb hr
       refine rd rfl (qM rfl qaZ (.oc rfl .nil) (qaY _ _ hr_31)) (rc rfl (qg ?_))
       obtain rfl := Option.some.inj hr
       refine qS Tryz.func26 _ (.cons (za rfl (Wk.refl _)) .nil) ?_
       rfl
      ·
       refine qA rfl (qU (qk (gr [.d] (rc rfl (qg ?_)))))
       obtain rfl := Option.some.inj hr
       refine qS Tryz.func26 _ (.cons (za rfl (Wk.refl _)) .nil) ?_
       rfl
end Go.Proofs.YtabbfihjeppbhaaGreat
