/-
 Texts of the seat, merged.
-/
import Derived.Test.YtlfcjfiecoapoaaGreatLRE
set_option linter.unusedVariables false
set_option linter.unusedSimpArgs false
set_option linter.unnecessarySimpa false
set_option linter.all false
set_option maxHeartbeats 8000000
namespace Go.Proofs.YtlfcjfiecoapoaaGreat
noncomputable section
set_option maxRecDepth 100000
open Go.RowKit
def qdK (fuel : Nat) (g_a0 : Gl) : Option (Int) :=
 ((qda g_a0).bind fun r_1 =>
 (bif (!r_1) then
 (bif (g_a0.op == (1 : Int)) then
 ((qiQ g_a0).bind fun r_4 =>
 ((qU r_4).bind fun r_5 =>
 some (r_5)))
 else
 ((qU false).bind fun r_6 =>
 some (r_6)))
 else
 ((zj g_a0.ts 0).bind fun q_7 =>
 (bif (g_a0.op == (11 : Int)) then
 (bif (q_7.k == (1 : Int)) then
 some (0)
 else
 ((qU (q_7.k == (0 : Int))).bind fun r_11 =>
 some (r_11)))
 else
 (bif (g_a0.op == (12 : Int)) then
 ((qcH fuel q_7).bind fun r_13 =>
 (bif r_13 then
 some (1)
 else
 some (0)))
 else
 ((zj g_a0.ts 1).bind fun q_15 =>
 (bif (g_a0.op != (5 : Int)) then
 (bif (g_a0.op != (6 : Int)) then
 ((qdU fuel g_a0.op q_7 q_15).bind fun r_19 =>
 some (r_19))
 else
 ((qlN q_7 q_15).bind fun r_20 =>
 (bif r_20 then
 ((qU (g_a0.op == (5 : Int))).bind fun r_22 =>
 some (r_22))
 else
 ((qbR fuel q_7 q_15).bind fun r_23 =>
 (bif (!r_23) then
 ((qU (g_a0.op == (6 : Int))).bind fun r_25 =>
 some (r_25))
 else
 some (0))))))
 else
 ((qlN q_7 q_15).bind fun r_26 =>
 (bif r_26 then
 ((qU (g_a0.op == (5 : Int))).bind fun r_28 =>
 some (r_28))
 else
 ((qbR fuel q_7 q_15).bind fun r_29 =>
 (bif (!r_29) then
 ((qU (g_a0.op == (6 : Int))).bind fun r_31 =>
 some (r_31))
 else
 some (0))))))))))))
theorem qlb (fuel : Nat) (g_a0 : Gl) (res : Int) (hr : qdK fuel g_a0 = some res) : zf Tryz.prog 122 [zA g_a0] (.int .i64 res) := by
 unfold qdK at hr
 refine qY Tryz.func122 rfl fun K hK => (qe (qg 2 (rd rfl (qcK rfl rfl rfl) (qa 1 rfl (qb (qe (qe (qg 3 (qa 1 rfl ?_)))))))))
 obtain ⟨r_1, hr_1, hr⟩ := za hr
 refine qs rfl qg1 (qg9 _ _ hr_1) (qa 1 rfl (qb ?_))
 refine zh 7 rfl hr (fun h7_1 hr => ?_) (fun h7_1 hr => ?_)
 ·
  refine qO rfl (qe (qg 9 (qa 4 rfl ?_)))
  refine zq 11 rfl hr (fun h11_2 hr => ?_) (fun h11_2 hr => ?_)
  ·
   refine qa 1 rfl ?_
   obtain ⟨r_4, hr_4, hr⟩ := za hr
   refine qs rfl qci (qcd _ _ hr_4) (qa 1 rfl ?_)
   obtain ⟨r_5, hr_5, hr⟩ := za hr
   refine qs rfl qa9 (qba _ _ hr_5) (qa 1 rfl (qb ?_))
   cases hr
   refine qu Tryz.func122 rfl ?_
   rfl
  ·
   refine qa 3 rfl ?_
   obtain ⟨r_6, hr_6, hr⟩ := za hr
   refine qs rfl qa9 (qba _ _ hr_6) (qa 1 rfl (qb ?_))
   cases hr
   refine qu Tryz.func122 rfl ?_
   rfl
 ·
  refine qf 3 rfl (zg 6 1280 (qa 2 rfl ?_))
  obtain ⟨q_7, hq_7, hr⟩ := za hr
  refine qN hq_7 rfl (qa 1 rfl (ew rfl (qaJ rfl qc0) ?_))
  rintro _ _ ⟨b3_7, rfl, rfl⟩
  refine qcr rfl (pf0 _) (qb (qaR 3 b3_7 rfl (pf0 _) (qf 6 rfl ?_)))
  refine zh 22 rfl hr (fun h22_8 hr => ?_) (fun h22_8 hr => ?_)
  ·
   refine qf 3 rfl (qg 3 (rd rfl (qK rfl qcg rfl (qfr _) (qfs _) rfl) (qa 2 rfl (qb ?_))))
   refine zh 26 rfl hr (fun h26_9 hr => ?_) (fun h26_9 hr => ?_)
   ·
    refine qf 3 rfl ?_
    cases hr
    refine qu Tryz.func122 rfl ?_
    rfl
   ·
    refine qf 3 rfl (qg 5 (rd rfl (qK rfl qcg rfl (qfr _) (qfs _) rfl) (qa 2 rfl ?_)))
    obtain ⟨r_11, hr_11, hr⟩ := za hr
    refine qs rfl qa9 (qba _ _ hr_11) (qa 1 rfl (qb ?_))
    cases hr
    refine qu Tryz.func122 rfl ?_
    rfl
  ·
   refine qf 3 rfl ?_
   refine zh 31 rfl hr (fun h31_11 hr => ?_) (fun h31_11 hr => ?_)
   ·
    refine qf 3 rfl (qg 2 (qa 1 rfl ?_))
    obtain ⟨r_13, hr_13, hr⟩ := za hr
    refine qs rfl qfv (qfu fuel _ _ hr_13) (qb ?_)
    refine zh 34 rfl hr (fun h34_13 hr => ?_) (fun h34_13 hr => ?_)
    ·
     refine qf 3 rfl ?_
     cases hr
     refine qu Tryz.func122 rfl ?_
     rfl
    ·
     refine qf 4 rfl ?_
     cases hr
     refine qu Tryz.func122 rfl ?_
     rfl
   ·
    refine qf 4 rfl (zg 6 1280 (qa 2 rfl ?_))
    obtain ⟨q_15, hq_15, hr⟩ := za hr
    refine qN hq_15 rfl (qa 1 rfl (ew rfl (qaJ rfl qc0) ?_))
    rintro _ _ ⟨b4_15, rfl, rfl⟩
    refine qcr rfl (pf0 _) (qb (qaR 4 b4_15 rfl (pf0 _) (qe (qe (qg 8 (qa 4 rfl ?_))))))
    refine zq 42 rfl hr (fun h42_16 hr => ?_) (fun h42_16 hr => ?_)
    ·
     refine qa 4 rfl (qb ?_)
     refine zh 46 rfl hr (fun h46_17 hr => ?_) (fun h46_17 hr => ?_)
     ·
      refine qO rfl (qe (qg 6 (qa 4 rfl ?_)))
      obtain ⟨r_19, hr_19, hr⟩ := za hr
      refine qs rfl qjX (qjI fuel _ _ _ _ hr_19) (qa 1 rfl (qb ?_))
      cases hr
      refine qu Tryz.func122 rfl ?_
      rfl
     ·
      refine qf 4 rfl (qg 3 (qa 2 rfl ?_))
      obtain ⟨r_20, hr_20, hr⟩ := za hr
      refine qs rfl qe0 (qe7 _ _ _ hr_20) (qb ?_)
      refine zh 54 rfl hr (fun h54_20 hr => ?_) (fun h54_20 hr => ?_)
      ·
       refine qO rfl (qe (qg 5 (qa 3 rfl ?_)))
       obtain ⟨r_22, hr_22, hr⟩ := za hr
       refine qs rfl qa9 (qba _ _ hr_22) (qa 1 rfl (qb ?_))
       cases hr
       refine qu Tryz.func122 rfl ?_
       rfl
      ·
       refine qf 4 rfl (qg 4 (qa 2 rfl ?_))
       obtain ⟨r_23, hr_23, hr⟩ := za hr
       refine qs rfl qgh (qgj fuel _ _ _ hr_23) (qa 1 rfl (qb ?_))
       refine zh 62 rfl hr (fun h62_23 hr => ?_) (fun h62_23 hr => ?_)
       ·
        refine qO rfl (qe (qg 5 (qa 3 rfl ?_)))
        obtain ⟨r_25, hr_25, hr⟩ := za hr
        refine qs rfl qa9 (qba _ _ hr_25) (qa 1 rfl (qb ?_))
        cases hr
        refine qu Tryz.func122 rfl ?_
        rfl
       ·
        refine qf 4 rfl ?_
        cases hr
        refine qu Tryz.func122 rfl ?_
        rfl
    ·
     refine qa 4 rfl (qb (qf 4 rfl (qg 3 (qa 2 rfl ?_))))
     obtain ⟨r_26, hr_26, hr⟩ := za hr
     refine qs rfl qe0 (qe7 _ _ _ hr_26) (qb ?_)
     refine zh 54 rfl hr (fun h54_26 hr => ?_) (fun h54_26 hr => ?_)
     ·
      refine qO rfl (qe (qg 5 (qa 3 rfl ?_)))
      obtain ⟨r_28, hr_28, hr⟩ := za hr
      refine qs rfl qa9 (qba _ _ hr_28) (qa 1 rfl (qb ?_))
      cases hr
      refine qu Tryz.func122 rfl ?_
      rfl
     ·
      refine qf 4 rfl (qg 4 (qa 2 rfl ?_))
      obtain ⟨r_29, hr_29, hr⟩ := za hr
      refine qs rfl qgh (qgj fuel _ _ _ hr_29) (qa 1 rfl (qb ?_))
      refine zh 62 rfl hr (fun h62_29 hr => ?_) (fun h62_29 hr => ?_)
      ·
       refine qO rfl (qe (qg 5 (qa 3 rfl ?_)))
       obtain ⟨r_31, hr_31, hr⟩ := za hr
       refine qs rfl qa9 (qba _ _ hr_31) (qa 1 rfl (qb ?_))
       cases hr
       refine qu Tryz.func122 rfl ?_
       rfl
      ·
       refine qf 4 rfl ?_
       cases hr
       refine qu Tryz.func122 rfl ?_
       rfl
end
end Go.Proofs.YtlfcjfiecoapoaaGreat
