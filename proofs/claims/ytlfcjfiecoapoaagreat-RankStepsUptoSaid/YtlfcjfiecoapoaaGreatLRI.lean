/-
 Texts of the seat, merged.
-/
import Derived.Test.YtlfcjfiecoapoaaGreatLRH
set_option linter.unusedVariables false
set_option linter.unusedSimpArgs false
set_option linter.unnecessarySimpa false
set_option linter.all false
set_option maxHeartbeats 8000000
namespace Go.Proofs.YtlfcjfiecoapoaaGreat
noncomputable section
set_option maxRecDepth 100000
open Go.RowKit
theorem qlv (a0 : List (Int × At)) (a1 : (Int × At)) (res : (List (Int × At)) × Int) (hr : qey a0 a1 = some res) : zf Tryz.prog 29 [.lst (a0.map zr), zr a1] (.tup [.lst (res.1.map zr), .int .i64 res.2]) := by
 unfold qey at hr
 refine qY Tryz.func29 rfl fun K hK => (qe (zg 3 4 (rd rfl (qcK rfl rfl rfl) (ew rfl (qab 85 3 (.inl rfl)) ?_))))
 rintro _ _ ⟨u4_0, rfl, rfl⟩
 refine qa 1 rfl (qb (qe (qe (qg 14 (qa 1 rfl ?_)))))
 obtain ⟨r2, h2, hr⟩ := za hr
 refine qs rfl qfD (qfK _ _ h2) (qa 2 rfl ?_)
 refine zq 11 rfl hr (fun h11_2 hr => ?_) (fun h11_2 hr => ?_)
 ·
  refine qa 10 rfl (qb (qO rfl (qe (zg 2 1 (ew rfl (qab 85 3 (.inl rfl)) ?_)))))
  rintro _ _ ⟨u4_3, rfl, rfl⟩
  refine qa 1 rfl (qb ?_)
  cases hr
  refine qbQ Tryz.func29 _ (.cons (zd rfl (Wk.own _ _)) (.cons (zd rfl (Wk.refl _)) .nil)) ?_
  rfl
 ·
  refine qa 2 rfl ?_
  obtain ⟨r5, h5, hr⟩ := za hr
  refine qs rfl qee (qef _ _ h5) (qa 3 rfl ?_)
  refine zq 17 rfl hr (fun h17_5 hr => ?_) (fun h17_5 hr => ?_)
  ·
   refine qa 4 rfl (qb (qO rfl (qe (zg 2 1 (ew rfl (qab 85 3 (.inl rfl)) ?_)))))
   rintro _ _ ⟨u4_6, rfl, rfl⟩
   refine qa 1 rfl (qb ?_)
   cases hr
   refine qbQ Tryz.func29 _ (.cons (zd rfl (Wk.own _ _)) (.cons (zd rfl (Wk.refl _)) .nil)) ?_
   rfl
  ·
   refine qa 4 rfl (qb ?_)
   refine zh 21 rfl hr (fun h21_7 hr => ?_) (fun h21_7 hr => ?_)
   ·
    refine qO rfl (qe (zg 2 1 (ew rfl (qab 85 3 (.inl rfl)) ?_)))
    rintro _ _ ⟨u4_8, rfl, rfl⟩
    refine qa 1 rfl (qb ?_)
    cases hr
    refine qbQ Tryz.func29 _ (.cons (zd rfl (Wk.own _ _)) (.cons (zd rfl (Wk.refl _)) .nil)) ?_
    rfl
   ·
    refine qf 5 rfl ?_
    obtain ⟨kk0, hkk0, hr⟩ := exK (fun k => qb3 k a1 a0) hr
    refine qcq 0 rfl (asl rfl) fun hla0 => ?_
    simp only [jb] at hla0
    refine qx (fun env σ => env = [(0, .lst (a0.map zr)), (3, .ptr (zr a1))] ∧ σ = [] ∧ kk0 = some res) ?_ (fun HK0 => ?_)
    ·
     rintro _ _ ⟨rfl, rfl, hr⟩
     rw [hkk0] at hr
     refine qe (qe (qei 15 0 (qa 1 rfl (qz rfl (qa 2 rfl ?_)))))
     refine zq 39 rfl hr (fun h39_10 hr => ?_) (fun h39_10 hr => ?_)
     ·
      refine qa 4 rfl (qz rfl (rd rfl (qeF rfl rfl rfl rfl) ?_))
      obtain ⟨q_12, h12, hr⟩ := za hr
      refine qN h12 rfl (qa 4 rfl (qb ?_))
      refine zh 50 rfl hr (fun h50_12 hr => ?_) (fun h50_12 hr => ?_)
      ·
       refine qO rfl (qe (zg 2 1 (ew rfl (qab 85 3 (.inl rfl)) ?_)))
       rintro _ _ ⟨u4_13, rfl, rfl⟩
       refine qa 1 rfl (qb ?_)
       cases hr
       refine qbQ Tryz.func29 _ (.cons (zd rfl (Wk.own _ _)) (.cons (zd rfl (Wk.refl _)) .nil)) ?_
       rfl
      ·
       refine qf 4 rfl (qg 3 (qa 1 rfl (qz rfl (qa 1 rfl (qb ?_)))))
       refine zh 53 rfl hr (fun h53_14 hr => ?_) (fun h53_14 hr => ?_)
       ·
        refine qO rfl (qe (zg 2 1 (ew rfl (qab 85 3 (.inl rfl)) ?_)))
        rintro _ _ ⟨u4_15, rfl, rfl⟩
        refine qa 1 rfl (qb ?_)
        cases hr
        refine qbQ Tryz.func29 _ (.cons (zd rfl (Wk.own _ _)) (.cons (zd rfl (Wk.refl _)) .nil)) ?_
        rfl
       ·
        refine qf 3 rfl (zg 1 1 (ew rfl (qab 85 3 (.inl rfl)) ?_))
        rintro _ _ ⟨u7_16, rfl, rfl⟩
        refine qb (qe (zg 4 16 (qa 2 rfl ?_)))
        obtain ⟨l18, h18, hr⟩ := za hr
        refine ew rfl (qaK (f := zr) [] a0 rfl qdJ rfl rfl (asl rfl) (pf0 _) rfl qf2 h18) ?_
        rintro _ _ ⟨u56_18, rfl, rfl⟩
        refine qa 1 rfl (qb (qe (zg 6 64 (qa 2 rfl (rd rfl (qeS (f := zr) [.tmp 58] [a1] rfl qdJ rfl rfl (by decide) (by decide) (.oc rfl .nil) qf2 (fun _ => rfl)) ?_)))))
        obtain ⟨l20, h20, hr⟩ := za hr
        refine ew rfl (qaK (f := zr) l18 [a1] rfl qdJ rfl rfl (asl rfl) (pf0 _) rfl qf2 h20) ?_
        rintro _ _ ⟨u60_20, rfl, rfl⟩
        refine qa 2 rfl (qb ?_)
        cases hr
        refine qbQ Tryz.func29 _ (.cons (zd rfl (Wk.own _ _)) (.cons (zd rfl (Wk.refl _)) .nil)) ?_
        rfl
     ·
      refine qa 11 rfl (qb (qf 4 rfl (qg 3 (qa 1 rfl (qz rfl (qa 1 rfl (qb ?_)))))))
      refine zh 53 rfl hr (fun h53_21 hr => ?_) (fun h53_21 hr => ?_)
      ·
       refine qO rfl (qe (zg 2 1 (ew rfl (qab 85 3 (.inl rfl)) ?_)))
       rintro _ _ ⟨u4_22, rfl, rfl⟩
       refine qa 1 rfl (qb ?_)
       cases hr
       refine qbQ Tryz.func29 _ (.cons (zd rfl (Wk.own _ _)) (.cons (zd rfl (Wk.refl _)) .nil)) ?_
       rfl
      ·
       refine qf 3 rfl (zg 1 1 (ew rfl (qab 85 3 (.inl rfl)) ?_))
       rintro _ _ ⟨u7_23, rfl, rfl⟩
       refine qb (qe (zg 4 16 (qa 2 rfl ?_)))
       obtain ⟨l25, h25, hr⟩ := za hr
       refine ew rfl (qaK (f := zr) [] a0 rfl qdJ rfl rfl (asl rfl) (pf0 _) rfl qf2 h25) ?_
       rintro _ _ ⟨u56_25, rfl, rfl⟩
       refine qa 1 rfl (qb (qe (zg 6 64 (qa 2 rfl (rd rfl (qeS (f := zr) [.tmp 58] [a1] rfl qdJ rfl rfl (by decide) (by decide) (.oc rfl .nil) qf2 (fun _ => rfl)) ?_)))))
       obtain ⟨l27, h27, hr⟩ := za hr
       refine ew rfl (qaK (f := zr) l25 [a1] rfl qdJ rfl rfl (asl rfl) (pf0 _) rfl qf2 h27) ?_
       rintro _ _ ⟨u60_27, rfl, rfl⟩
       refine qa 2 rfl (qb ?_)
       cases hr
       refine qbQ Tryz.func29 _ (.cons (zd rfl (Wk.own _ _)) (.cons (zd rfl (Wk.refl _)) .nil)) ?_
       rfl
    ·
     refine qm [0, 3, 6] rfl (qcA [] _ (pf0 _) (q9 (fun n env σ => ∃ (i10 : Nat), (n = a0.length - i10) ∧ (env = [(0, .lst (a0.map zr)), (3, .ptr (zr a1)), (6, .int .i64 (i10 : Int))]) ∧ (σ = []) ∧ (i10 ≤ a0.length) ∧ (qb3 kk0 a1 (a0.drop i10) = some res)) _ ⟨0, rfl, rfl, rfl, jc _, hr⟩ ?_))
     rintro n _ _ ⟨i10, rfl, rfl, rfl, hi0, hr⟩ IH0
     rcases zb a0 i10 hi0 with ⟨ht0, hd0, he0⟩ | ⟨q_29, ht0, hd0, hq0, hlt0⟩
     ·
      rw [hd0, qb3] at hr
      refine qe (qe (qg 4 (qa 2 rfl (qz rfl (qa 1 rfl (qb (qk 25 false rfl ht0 (qA rfl (qQ rfl (qm [0, 3] rfl ?_))))))))))
      exact HK0 _ _ ⟨rfl, rfl, hr⟩
     ·
      rw [hd0, qb3] at hr
      refine qe (qe (qg 4 (qa 2 rfl (qz rfl (qa 1 rfl (qb (qk 25 true rfl ht0 (qf 5 rfl (qei 8 0 (qa 2 rfl (qN hq0 rfl (qa 5 rfl (qb ?_)))))))))))))
      refine zh 35 rfl hr (fun h35_29 hr => ?_) (fun h35_29 hr => ?_)
      ·
       refine qO rfl (qe (zg 2 1 (ew rfl (qab 85 3 (.inl rfl)) ?_)))
       rintro _ _ ⟨u4_30, rfl, rfl⟩
       refine qa 1 rfl (qb ?_)
       cases hr
       refine qbQ Tryz.func29 _ (.cons (zd rfl (Wk.own _ _)) (.cons (zd rfl (Wk.refl _)) .nil)) ?_
       rfl
      ·
       refine qf 3 rfl (qg 3 (qa 1 rfl (qaj rfl (qa 1 rfl (qb (qm [0, 3, 6] rfl ?_))))))
       exact IH0 _ _ _ (by omega) ⟨(i10 + 1), rfl, rfl, rfl, (by omega), hr⟩
def qbF (k : Bool → Option (qw × Int)) (a2 : qE) : List qE → Bool → Option (qw × Int)
 | [], f7 =>
 (k f7)
 | q_21 :: rest, f7 =>
 ((qdA q_21 a2).bind fun r22 =>
 (bif r22 then
 (qbF k a2 rest true)
 else
 (qbF k a2 rest f7)))
def qeN (fuel : Nat) (a0 : qn) (a1 : qw) (a2 : qE) : Option (qw × Int) :=
 ((qcS fuel a0 a1).bind fun r3 =>
 (bif (!r3) then
 some ((⟨[], [], [], [], [], 0, 0, false⟩ : qw), 2)
 else
 (bif a1.f7_Failed then
 some ((⟨[], [], [], [], [], 0, 0, false⟩ : qw), 14)
 else
 ((qdx fuel a0 a1).bind fun r6 =>
 (qbF (fun f9 =>
 (bif (!f9) then
 some ((⟨[], [], [], [], [], 0, 0, false⟩ : qw), 18)
 else
 (bif (a2.f0_Kind == (1 : Int)) then
 ((qed fuel a1 a2.f1_Goal).bind fun r12 =>
 some (r12.1, r12.2))
 else
 (bif (a2.f0_Kind == (3 : Int)) then
 ((qd8 fuel a0 a1 a2.f2_Rule a2.f3_IDs).bind fun r14 =>
 some (r14.1, r14.2))
 else
 ((zj a1.f0_Goals a2.f1_Goal).bind fun q_15 =>
 ((qey a1.f1_Store (a1.f5_Next, (⟨q_15.n, q_15.ts⟩ : At))).bind fun r17 =>
 (bif (r17.2 != (0 : Int)) then
 some ((⟨[], [], [], [], [], 0, 0, false⟩ : qw), 6)
 else
 (bif (a1.f5_Next == (2147483648 : Int)) then
 some ((⟨[], [], [], [], [], 0, 0, false⟩ : qw), 6)
 else
 ((qdL a1.f0_Goals a2.f1_Goal).bind fun r20 =>
 some ((⟨r20, r17.1, a1.f2_Binds, a1.f3_Fired, a1.f4_Known, (wr (a1.f5_Next + (1 : Int))), a1.f6_Fresh, a1.f7_Failed⟩ : qw), 0)))))))))) a2 r6 false)))))
theorem qlO (fuel : Nat) (a0 : qn) (a1 : qw) (a2 : qE) (res : qw × Int) (hr : qeN fuel a0 a1 a2 = some res) : zf Tryz.prog 10 [ql a0, qJ a1, qaL a2] (.tup [qJ res.1, .int .i64 res.2]) := by
 unfold qeN at hr
 refine qY Tryz.func10 rfl fun K hK => (qe (zg 5 68 (rd rfl (qcK rfl rfl rfl) (ew rfl (qmD rfl rfl rfl) ?_))))
 rintro _ _ ⟨b4_0, rfl, rfl⟩
 refine rd rfl (qcK rfl rfl rfl) (ew rfl (qaJ rfl qjy) ?_)
 rintro _ _ ⟨b6_1, rfl, rfl⟩
 refine qa 1 rfl (qb (qe (qe (zg 4 8 (qa 1 rfl (qcD 1 rfl ?_))))))
 obtain ⟨r3, h3, hr⟩ := za hr
 refine qs rfl qfC (qfG fuel _ _ _ h3) (qa 1 rfl (qb ?_))
 refine zh 17 rfl hr (fun h17_3 hr => ?_) (fun h17_3 hr => ?_)
 ·
  refine qO rfl (qe (zg 3 4 (rd rfl (qbl rfl qeu .nil (.nil _)) (qcr rfl (pf0 _) (qa 1 rfl (qb ?_))))))
  cases hr
  refine qbQ Tryz.func10 _ (.cons (zy rfl (.head _) (by exact qcM) rfl (Wk.refl _)) (.cons (zd rfl (Wk.refl _)) .nil)) ?_
  rfl
 ·
  refine qf 4 rfl (zg 2 8 (rd rfl (qr rfl qjF rfl) (qcD 1 rfl (qb ?_))))
  refine zh 20 rfl hr (fun h20_4 hr => ?_) (fun h20_4 hr => ?_)
  ·
   refine qO rfl (qe (zg 3 4 (rd rfl (qbl rfl qeu .nil (.nil _)) (qcr rfl (pf0 _) (qa 1 rfl (qb ?_))))))
   cases hr
   refine qbQ Tryz.func10 _ (.cons (zy rfl (.head _) (by exact qcM) rfl (Wk.refl _)) (.cons (zd rfl (Wk.refl _)) .nil)) ?_
   rfl
  ·
   refine qf 3 rfl (zg 4 8 (qa 1 rfl (qcD 1 rfl ?_)))
   obtain ⟨r6, h6, hr⟩ := za hr
   refine qs rfl qhA (qhl fuel _ _ _ h6) (qa 1 rfl (qb (qf 5 rfl ?_)))
   obtain ⟨kk0, hkk0, hr⟩ := exK (fun k => qbF k a2 r6 false) hr
   refine qcq 24 rfl (asl rfl) fun hla0 => ?_
   simp only [jb] at hla0
   refine qx (fun env σ => ∃ (f9 : Bool), env = [(3, .ptr (ql a0)), (4, .ref b4_0 0 []), (5, .ptr (qaL a2)), (6, .ref b6_1 0 []), (9, .bool f9)] ∧ σ = [.cell b4_0 (qJ a1), .cell b6_1 (.agg [.lst ([].map zA), .lst ([].map zr), .lst ([].map zo), .lst ([].map qh), .lst ([].map zA), .int .i64 0, .int .i64 0, .bool false])] ∧ kk0 f9 = some res) ?_ (fun HK0 => ?_)
   ·
    rintro _ _ ⟨f9, rfl, rfl, hr⟩
    rw [hkk0] at hr
    refine qf 3 rfl ?_
    refine zh 38 rfl hr (fun h38_9 hr => ?_) (fun h38_9 hr => ?_)
    ·
     refine qO rfl (qe (zg 3 4 (rd rfl (qbl rfl qeu .nil (.nil _)) (qcr rfl (pf1 _ _ _) (qa 1 rfl (qb ?_))))))
     cases hr
     refine qbQ Tryz.func10 _ (.cons (zy rfl (.head _) (by exact qcM) rfl (Wk.refl _)) (.cons (zd rfl (Wk.refl _)) .nil)) ?_
     rfl
    ·
     refine qf 5 rfl ?_
     refine zh 42 rfl hr (fun h42_10 hr => ?_) (fun h42_10 hr => ?_)
     ·
      refine qO rfl (qe (zg 8 4098 (qcD 0 rfl (qa 2 rfl ?_))))
      obtain ⟨r12, h12, hr⟩ := za hr
      refine qs rfl qkA (qj2 fuel _ _ _ h12) (qa 2 rfl (qcr rfl (pf1 _ _ _) (qa 1 rfl (qb ?_))))
      cases hr
      refine qbQ Tryz.func10 _ (.cons (zy rfl (.head _) (by exact qcM) (qg3 _) (Wk.refl _)) (.cons (zd rfl (Wk.refl _)) .nil)) ?_
      rfl
     ·
      refine qf 5 rfl ?_
      refine zh 51 rfl hr (fun h51_12 hr => ?_) (fun h51_12 hr => ?_)
      ·
       refine qO rfl (qe (zg 11 262152 (qa 1 rfl (qcD 0 rfl (qa 4 rfl ?_)))))
       obtain ⟨r14, h14, hr⟩ := za hr
       refine qs rfl qkw (qj8 fuel _ _ _ _ _ h14) (qa 2 rfl (qcr rfl (pf1 _ _ _) (qa 1 rfl (qb ?_))))
       cases hr
       refine qbQ Tryz.func10 _ (.cons (zy rfl (.head _) (by exact qcM) (qg3 _) (Wk.refl _)) (.cons (zd rfl (Wk.refl _)) .nil)) ?_
       rfl
      ·
       refine qf 3 rfl (zg 8 20488 (rd rfl (qr rfl qdD rfl) (qcD 0 rfl (qa 2 rfl ?_))))
       obtain ⟨q_15, h15, hr⟩ := za hr
       refine qN h15 rfl (qa 1 rfl (ew rfl (qaJ rfl qgo) ?_))
       rintro _ _ ⟨b11_15, rfl, rfl⟩
       refine qcr rfl (pf0 _) (qb (qaR 11 b11_15 rfl (pf0 _) (qe (zg 16 136 (rd rfl (qr rfl qe8 rfl) (qcD 0 rfl (rd rfl (qr rfl qg2 rfl) (qcD 0 rfl (qa 4 rfl (rd rfl (qbl rfl qfw (.oc rfl (.oc rfl .nil)) (.cons rfl rfl rfl (.cons rfl rfl rfl (.nil _)))) (rd rfl (qbl rfl qoq (.oc rfl (.oc rfl .nil)) (.cons rfl rfl rfl (.cons rfl rfl rfl (.nil _)))) ?_)))))))))))
       obtain ⟨r17, h17, hr⟩ := za hr
       refine qs rfl qlu (qlv _ _ _ h17) (qa 5 rfl (qb (qe (qe (zg 7 512 (qa 3 rfl ?_))))))
       refine zq 83 rfl hr (fun h83_17 hr => ?_) (fun h83_17 hr => ?_)
       ·
        refine qa 4 rfl (qb (qO rfl (qe (zg 3 4 (rd rfl (qbl rfl qeu .nil (.nil _)) (qcr rfl (pf1 _ _ _) (qa 1 rfl (qb ?_))))))))
        cases hr
        refine qbQ Tryz.func10 _ (.cons (zy rfl (.head _) (by exact qcM) rfl (Wk.refl _)) (.cons (zd rfl (Wk.refl _)) .nil)) ?_
        rfl
       ·
        refine rd rfl (qr rfl qg2 rfl) (qcD 0 rfl (qa 2 rfl (qb ?_)))
        refine zh 87 rfl hr (fun h87_18 hr => ?_) (fun h87_18 hr => ?_)
        ·
         refine qO rfl (qe (zg 3 4 (rd rfl (qbl rfl qeu .nil (.nil _)) (qcr rfl (pf1 _ _ _) (qa 1 rfl (qb ?_))))))
         cases hr
         refine qbQ Tryz.func10 _ (.cons (zy rfl (.head _) (by exact qcM) rfl (Wk.refl _)) (.cons (zd rfl (Wk.refl _)) .nil)) ?_
         rfl
        ·
         refine qf 3 rfl (zg 3 16 (qa 1 rfl (rd rfl (qr rfl qe8 rfl) (qgZ rfl rfl rfl (qeM _ rfl rfl rfl (Wk.refl _) (pf0 _) rfl rfl (by exact qiK) rfl rfl rfl) (qb (qe (zg 7 4104 (rd rfl (qr rfl qdD rfl) (qcD 0 rfl (qa 2 rfl ?_))))))))))
         obtain ⟨r20, h20, hr⟩ := za hr
         refine qs rfl qgN (qgJ _ _ _ h20) (rd rfl (qr rfl qdD rfl) (qgZ rfl rfl rfl (qeM _ rfl rfl rfl (Wk.refl _) (pf0 _) rfl rfl (by exact qgF) rfl rfl rfl) (qb (qe (zg 5 264 (rd rfl (qr rfl qg2 rfl) (qcD 0 rfl (rd rfl (qeF rfl rfl rfl rfl) (rd rfl (qr rfl qg2 rfl) (qgZ rfl rfl rfl (qeM _ rfl rfl rfl (Wk.refl _) (pf0 _) rfl rfl (by exact qgQ) rfl rfl rfl) (qb (qe (zg 3 6 ?_)))))))))))))
         refine qcD 0 rfl (qcr rfl (pf1 _ _ _) (qa 1 rfl (qb ?_)))
         cases hr
         refine qbQ Tryz.func10 _ (.cons (zy rfl (.head _) (by exact qcM) rfl (Wk.refl _)) (.cons (zd rfl (Wk.refl _)) .nil)) ?_
         rfl
   ·
    refine qm [3, 4, 5, 6, 8, 9, 10] rfl (qcA [_, _] _ (pS [0, 1] _) (q9 (fun n env σ => ∃ (f7 : Bool) (i8 : Nat), (n = r6.length - i8) ∧ (env = [(3, .ptr (ql a0)), (4, .ref b4_0 0 []), (5, .ptr (qaL a2)), (6, .ref b6_1 0 []), (8, .lst (r6.map qaL)), (9, .bool f7), (10, .int .i64 (i8 : Int))]) ∧ (σ = [.cell b4_0 (qJ a1), .cell b6_1 (.agg [.lst ([].map zA), .lst ([].map zr), .lst ([].map zo), .lst ([].map qh), .lst ([].map zA), .int .i64 0, .int .i64 0, .bool false])]) ∧ (i8 ≤ r6.length) ∧ (qbF kk0 a2 (r6.drop i8) f7 = some res)) _ ⟨false, 0, rfl, rfl, rfl, jc _, hr⟩ ?_))
    rintro n _ _ ⟨f7, i8, rfl, rfl, rfl, hi0, hr⟩ IH0
    rcases zb r6 i8 hi0 with ⟨ht0, hd0, he0⟩ | ⟨q_21, ht0, hd0, hq0, hlt0⟩
    ·
     rw [hd0, qbF] at hr
     refine qe (qe (qg 4 (qa 2 rfl (qz rfl (qa 1 rfl (qb (qk 28 false rfl ht0 (qA rfl (qQ rfl (qm [3, 4, 5, 6, 9] rfl ?_))))))))))
     exact HK0 _ _ ⟨f7, rfl, rfl, hr⟩
    ·
     rw [hd0, qbF] at hr
     refine qe (qe (qg 4 (qa 2 rfl (qz rfl (qa 1 rfl (qb (qk 28 true rfl ht0 (qf 5 rfl (qei 6 0 (qa 2 rfl (qN hq0 rfl (qa 2 rfl ?_))))))))))))
     obtain ⟨r22, h22, hr⟩ := za hr
     refine qs rfl qjf (qi4 _ _ _ h22) (qb ?_)
     refine zh 36 rfl hr (fun h36_22 hr => ?_) (fun h36_22 hr => ?_)
     ·
      refine qf 3 rfl (qg 3 (qa 1 rfl (qaj rfl (qa 1 rfl (qb (qm [3, 4, 5, 6, 8, 9, 10] rfl ?_))))))
      exact IH0 _ _ _ (by omega) ⟨true, (i8 + 1), rfl, rfl, rfl, (by omega), hr⟩
     ·
      refine qf 3 rfl (qg 3 (qa 1 rfl (qaj rfl (qa 1 rfl (qb (qm [3, 4, 5, 6, 8, 9, 10] rfl ?_))))))
      exact IH0 _ _ _ (by omega) ⟨f7, (i8 + 1), rfl, rfl, rfl, (by omega), hr⟩
end
end Go.Proofs.YtlfcjfiecoapoaaGreat
