/-
 Texts of the seat, merged.
-/
import Derived.Test.YtlfcjfiecoapoaaGreatLRG
set_option linter.unusedVariables false
set_option linter.unusedSimpArgs false
set_option linter.unnecessarySimpa false
set_option linter.all false
set_option maxHeartbeats 8000000
namespace Go.Proofs.YtlfcjfiecoapoaaGreat
noncomputable section
set_option maxRecDepth 100000
open Go.RowKit
theorem qiO (rec : (List (Int × T)) → Int → List T → Option (List T)) (IHR : ∀ (a0 : List (Int × T)) (a1 : Int) (l_a2 : List T) (res : List T), rec a0 a1 l_a2 = some res → zf Tryz.prog 123 [.lst (a0.map zo), .int .i64 a1, .lst (l_a2.map zi)] (.lst (res.map zi))) (a0 : List (Int × T)) (a1 : Int) (t_a2 : T) (res : T) (hr : qdi rec a0 a1 t_a2 = some res) : zf Tryz.prog 142 [.lst (a0.map zo), .int .i64 a1, zi t_a2] (zi res) := by
 unfold qdi at hr
 refine qY Tryz.func142 rfl fun K hK => (qe (zg 2 4 (rd rfl (qcK rfl rfl rfl) (ew rfl (qaJ rfl qc0) ?_))))
 rintro _ _ ⟨b6_0, rfl, rfl⟩
 refine qb (qe (qe (qg 2 (rd rfl (qK rfl qcg rfl (qfr _) (qfs _) rfl) (qa 1 rfl (qb (qf 3 rfl ?_)))))))
 refine zh 10 rfl hr (fun h10_1 hr => ?_) (fun h10_1 hr => ?_)
 ·
  refine qO rfl (qe (qei 9 65536 (rd rfl (qK rfl qfp rfl (qla _) (qlh _) rfl) (qa 3 rfl (rd rfl (qK rfl qcf rfl (qgi _) (qgf _) rfl) (qa 1 rfl ?_))))))
  obtain ⟨r3, h3, hr⟩ := za hr
  refine qs rfl qge (IHR _ _ _ _ h3) (rd rfl (qbl rfl qeB (.oc rfl (.oc rfl (.oc rfl .nil))) (.cons rfl rfl rfl (.cons rfl rfl rfl (.cons rfl rfl rfl (.nil _))))) (qcr rfl (pf0 _) (qb ?_)))
  cases hr
  refine qbQ Tryz.func142 _ (.cons (zy rfl (.head _) (by exact qdC) rfl (Wk.refl _)) .nil) ?_
  first | rfl | (show _ = D.agg (fsT _); rw [qdQ] <;> rfl) | simp [yJ, zi, qdQ, T.k, T.i, T.s, T.ar]
 ·
  refine qf 3 rfl ?_
  refine zh 20 rfl hr (fun h20_3 hr => ?_) (fun h20_3 hr => ?_)
  ·
   refine qO rfl (qe (qg 5 (qa 1 rfl (rd rfl (qK rfl qcp rfl (qfy _) (qfz _) rfl) (qa 1 rfl ?_)))))
   obtain ⟨r5, h5, hr⟩ := za hr
   refine qs rfl qhr (qhu _ _ _ h5) (qa 1 rfl (qb (qf 3 rfl ?_)))
   refine zh 27 rfl hr (fun h27_5 hr => ?_) (fun h27_5 hr => ?_)
   ·
    refine qO rfl (qe (zg 6 1024 (qa 2 rfl ?_)))
    obtain ⟨q_7, h7, hr⟩ := za hr
    refine qN h7 rfl (qa 2 rfl (qcr rfl (pf0 _) (qb ?_)))
    cases hr
    refine qbQ Tryz.func142 _ (.cons (zy rfl (.head _) (by exact qdC) (qcl _) (Wk.refl _)) .nil) ?_
    rfl
   ·
    refine qf 4 rfl (qg 4 (qa 1 rfl (rd rfl (qK rfl qcp rfl (qfy _) (qfz _) rfl) (qa 1 rfl ?_))))
    obtain ⟨r8, h8, hr⟩ := za hr
    refine qs rfl qjO (qjP _ _ _ h8) (qb ?_)
    refine zh 36 rfl hr (fun h36_8 hr => ?_) (fun h36_8 hr => ?_)
    ·
     refine qO rfl (qe (zg 4 64 (rd rfl (qK rfl qcp rfl (qfy _) (qfz _) rfl) (qa 1 rfl ?_))))
     obtain ⟨r10, h10, hr⟩ := za hr
     refine qs rfl qh7 (qh3 _ _ h10) (qcr rfl (pf0 _) (qb ?_))
     cases hr
     refine qbQ Tryz.func142 _ (.cons (zy rfl (.head _) (by exact qdC) (qcl _) (Wk.refl _)) .nil) ?_
     rfl
    ·
     refine qf 3 rfl (zg 6 1024 (qa 1 rfl (rd rfl (qK rfl qcp rfl (qfy _) (qfz _) rfl) (qa 1 rfl (rd rfl (qeF rfl rfl rfl rfl) ?_)))))
     obtain ⟨r11, h11, hr⟩ := za hr
     refine qs rfl qh7 (qh3 _ _ h11) (qcr rfl (pf0 _) (qb ?_))
     cases hr
     refine qbQ Tryz.func142 _ (.cons (zy rfl (.head _) (by exact qdC) (qcl _) (Wk.refl _)) .nil) ?_
     rfl
  ·
   refine qf 3 rfl ?_
   refine zh 45 rfl hr (fun h45_11 hr => ?_) (fun h45_11 hr => ?_)
   ·
    refine qO rfl (qe (zg 4 64 (rd rfl (qK rfl qcp rfl (qfy _) (qfz _) rfl) (qa 1 rfl ?_))))
    obtain ⟨r13, h13, hr⟩ := za hr
    refine qs rfl qly (qlw _ _ h13) (qcr rfl (pf0 _) (qb ?_))
    cases hr
    refine qbQ Tryz.func142 _ (.cons (zy rfl (.head _) (by exact qdC) (qcl _) (Wk.refl _)) .nil) ?_
    rfl
   ·
    refine qf 4 rfl (zg 2 4 (qa 1 rfl (qcr rfl (pf0 _) (qb ?_))))
    cases hr
    refine qbQ Tryz.func142 _ (.cons (zy rfl (.head _) (by exact qdC) (qcl _) (Wk.refl _)) .nil) ?_
    rfl
def qak (k : List T → Option (List T)) (rec : (List (Int × T)) → Int → List T → Option (List T)) (a0 : List (Int × T)) (a1 : Int) : List T → List T → Option (List T)
 | [], o4 =>
 (k o4)
 | q_8 :: rest, o4 =>
 ((qdi rec a0 a1 q_8).bind fun r9 =>
 ((zN 56 o4 [r9]).bind fun l10 =>
 (qak k rec a0 a1 rest l10)))
def qcI : Nat → (List (Int × T)) → Int → List T → Option (List T)
 | 0, _, _, _ => none
 | fuel + 1, a0, a1, a2 =>
  (fun (rec : (List (Int × T)) → Int → List T → Option (List T)) =>
   (qak (fun o7 =>
   some (o7)) rec a0 a1 a2 [])) (qcI fuel)
theorem qiC (fuel : Nat) (rec : (List (Int × T)) → Int → List T → Option (List T)) (IHR : ∀ (a0 : List (Int × T)) (a1 : Int) (a2 : List T) (res : List T), rec a0 a1 a2 = some res → zf Tryz.prog 123 [.lst (a0.map zo), .int .i64 a1, .lst (a2.map zi)] (.lst (res.map zi))) (a0 : List (Int × T)) (a1 : Int) (a2 : List T) (res : List T)
 (hr : (qak (fun o7 =>
some (o7)) rec a0 a1 a2 []) = some res) : zf Tryz.prog 123 [.lst (a0.map zo), .int .i64 a1, .lst (a2.map zi)] (.lst (res.map zi)) := by
 refine qY Tryz.func123 rfl fun K hK => (qe (zg 1 1 (ew rfl (qab 71 4 (.inl rfl)) ?_)))
 rintro _ _ ⟨u6_0, rfl, rfl⟩
 refine qb (qe (zg 1 1 (ew rfl (qab 71 4 (.inl rfl)) ?_)))
 rintro _ _ ⟨u7_1, rfl, rfl⟩
 refine qb (qf 3 rfl ?_)
 obtain ⟨kk0, hkk0, hr⟩ := exK (fun k => qak k rec a0 a1 a2 []) hr
 refine qcq 2 rfl (asl rfl) fun hla0 => ?_
 simp only [jb] at hla0
 refine qx (fun env σ => ∃ (o7 : List T) (u6 : Value), env = [(7, .own u6 (o7.map zi))] ∧ σ = [.row u6 o7.length 71 4] ∧ kk0 o7 = some res) ?_ (fun HK0 => ?_)
 ·
  rintro _ _ ⟨o7, u6, rfl, rfl, hr⟩
  rw [hkk0] at hr
  refine qf 2 rfl ?_
  cases hr
  refine qbQ Tryz.func123 _ (.cons (zd rfl (Wk.own _ _)) .nil) ?_
  rfl
 ·
  refine qm [0, 1, 2, 7, 8] rfl (qcA [_] _ (pf0 _) (q9 (fun n env σ => ∃ (o4 : List T) (i5 : Nat) (u3 : Value), (n = a2.length - i5) ∧ (env = [(0, .lst (a0.map zo)), (1, .int .i64 a1), (2, .lst (a2.map zi)), (7, .own u3 (o4.map zi)), (8, .int .i64 (i5 : Int))]) ∧ (σ = [.row u3 o4.length 71 4]) ∧ (i5 ≤ a2.length) ∧ (qak kk0 rec a0 a1 (a2.drop i5) o4 = some res)) _ ⟨[], 0, u7_1, rfl, rfl, rfl, jc _, hr⟩ ?_))
  rintro n _ _ ⟨o4, i5, u3, rfl, rfl, rfl, hi0, hr⟩ IH0
  rcases zb a2 i5 hi0 with ⟨ht0, hd0, he0⟩ | ⟨q_8, ht0, hd0, hq0, hlt0⟩
  ·
   rw [hd0, qak] at hr
   refine qe (qe (qg 4 (qa 2 rfl (qz rfl (qa 1 rfl (qb (qk 12 false rfl ht0 (qA rfl (qQ rfl (qm [7] rfl ?_))))))))))
   exact HK0 _ _ ⟨o4, u3, rfl, rfl, hr⟩
  ·
   rw [hd0, qak] at hr
   refine qe (qe (qg 4 (qa 2 rfl (qz rfl (qa 1 rfl (qb (qk 12 true rfl ht0 (qf 4 rfl (zg 11 262144 (qa 5 rfl (qN hq0 rfl (qa 1 rfl ?_))))))))))))
   obtain ⟨r9, h9, hr⟩ := za hr
   refine qs rfl qi5 (qiO rec IHR _ _ _ _ h9) (rd rfl (qeS (f := zi) [.tmp 22] [r9] rfl qam rfl rfl (by decide) (by decide) (.oc rfl .nil) qcl (fun _ => rfl)) ?_)
   obtain ⟨l10, h10, hr⟩ := za hr
   refine ew rfl (qaK (f := zi) o4 [r9] rfl qam rfl rfl (asl rfl) (pf0 _) rfl qcl h10) ?_
   rintro _ _ ⟨u24_10, rfl, rfl⟩
   refine qa 1 rfl (qb (qaa (qg 3 (qa 1 rfl (qaj rfl (qa 1 rfl (qb (qm [0, 1, 2, 7, 8] rfl ?_))))))))
   exact IH0 _ _ _ (by omega) ⟨l10, (i5 + 1), u24_10, rfl, rfl, rfl, (by omega), hr⟩
theorem qgg : ∀ (fuel : Nat) (a0 : List (Int × T)) (a1 : Int) (a2 : List T) (res : List T), qcI fuel a0 a1 a2 = some res → zf Tryz.prog 123 [.lst (a0.map zo), .int .i64 a1, .lst (a2.map zi)] (.lst (res.map zi))
 | 0, _, _, _, _, h => by cases h
 | fuel + 1, a0, a1, a2, res, h => qiC fuel (qcI fuel) (qgg fuel) a0 a1 a2 res h
def qcm (fuel : Nat) (a0 : List (Int × T)) (a1 : Int) (a2 : Gl) : Option Gl :=
 ((qcI fuel a0 a1 a2.ts).bind fun r2 =>
 some ((⟨a2.op, a2.n, r2⟩ : Gl)))
theorem qfE (fuel : Nat) (a0 : List (Int × T)) (a1 : Int) (a2 : Gl) (res : Gl) (hr : qcm fuel a0 a1 a2 = some res) : zf Tryz.prog 92 [.lst (a0.map zo), .int .i64 a1, zA a2] (zA res) := by
 unfold qcm at hr
 refine qY Tryz.func92 rfl fun K hK => (qe (zg 2 4 (rd rfl (qcK rfl rfl rfl) (ew rfl (qaJ rfl qgo) ?_))))
 rintro _ _ ⟨b6_0, rfl, rfl⟩
 refine qb (qe (qei 11 1048576 (qa 8 rfl ?_)))
 obtain ⟨r2, h2, hr⟩ := za hr
 refine qs rfl qge (qgg fuel _ _ _ _ h2) (rd rfl (qbl rfl qic (.oc rfl (.oc rfl (.oc rfl .nil))) (.cons rfl rfl rfl (.cons rfl rfl rfl (.cons rfl rfl rfl (.nil _))))) (qcr rfl (pf0 _) (qb ?_)))
 cases hr
 refine qbQ Tryz.func92 _ (.cons (zy rfl (.head _) (by exact qmj) rfl (Wk.refl _)) .nil) ?_
 rfl
def qc9 (rec : (List (Int × T)) → List T → Option (List T)) (a0 : List (Int × T)) (a1 : T) : Option T :=
 (bif (a1.k == (1 : Int)) then
 ((qcG a0 a1.i).bind fun r4 =>
 (bif r4.2 then
 some (r4.1)
 else
 some ((T.mk a1.k a1.i a1.s a1.ar))))
 else
 (bif (a1.k == (2 : Int)) then
 ((rec a0 a1.ar).bind fun r8 =>
 some ((T.mk a1.k a1.i a1.s r8)))
 else
 some ((T.mk a1.k a1.i a1.s a1.ar))))
theorem qg6 (rec : (List (Int × T)) → List T → Option (List T)) (IHR : ∀ (a0 : List (Int × T)) (l_a1 : List T) (res : List T), rec a0 l_a1 = some res → zf Tryz.prog 129 [.lst (a0.map zo), .lst (l_a1.map zi)] (.lst (res.map zi))) (a0 : List (Int × T)) (t_a1 : T) (res : T) (hr : qc9 rec a0 t_a1 = some res) : zf Tryz.prog 128 [.lst (a0.map zo), zi t_a1] (zi res) := by
 unfold qc9 at hr
 refine qY Tryz.func128 rfl fun K hK => (qe (zg 2 5 (ew rfl (qmD rfl rfl rfl) ?_)))
 rintro _ _ ⟨b3_0, rfl, rfl⟩
 refine zaq [.cell b3_0 (.agg [.int .i64 t_a1.k, .int .i64 t_a1.i, .str t_a1.s, .lst (t_a1.ar.map zi)])] (by simp only [zi, qdQ]) (ew rfl (qaJ rfl qc0) ?_)
 rintro _ _ ⟨b4_1, rfl, rfl⟩
 refine qb (qe (qe (zg 2 8 (rd rfl (qr rfl qcg rfl) (qcD 1 rfl (qb (qf 3 rfl ?_)))))))
 refine zh 9 rfl hr (fun h9_2 hr => ?_) (fun h9_2 hr => ?_)
 ·
  refine qO rfl (qe (zg 10 81952 (qa 1 rfl (rd rfl (qr rfl qcp rfl) (qcD 1 rfl ?_)))))
  obtain ⟨r4, h4, hr⟩ := za hr
  refine qs rfl qeJ (qeD _ _ _ h4) (qa 3 rfl (ew rfl (qaJ rfl qc0) ?_))
  rintro _ _ ⟨b5_4, rfl, rfl⟩
  refine qcr rfl (pf0 _) (qa 1 rfl (qb (qaR 5 b5_4 rfl (pf0 _) (qf 2 rfl ?_))))
  refine zh 18 rfl hr (fun h18_5 hr => ?_) (fun h18_5 hr => ?_)
  ·
   refine qO rfl (qe (zg 2 4 (qa 1 rfl (qcr rfl (pf0 _) (qb ?_)))))
   cases hr
   refine qbQ Tryz.func128 _ (.cons (zy rfl (.head _) (by exact qdC) (qcl _) (Wk.refl _)) .nil) ?_
   rfl
  ·
   refine qf 4 rfl (zg 2 6 (qcD 1 rfl (qcr rfl (pf0 _) (qb ?_))))
   cases hr
   refine qbQ Tryz.func128 _ (.cons (zy rfl (.head _) (by exact qdC) rfl (Wk.refl _)) .nil) ?_
   first | rfl | (show _ = D.agg (fsT _); rw [qdQ] <;> rfl) | simp [yJ, zi, qdQ, T.k, T.i, T.s, T.ar]
 ·
  refine qf 3 rfl ?_
  refine zh 20 rfl hr (fun h20_6 hr => ?_) (fun h20_6 hr => ?_)
  ·
   refine qO rfl (zg 6 1056 (qa 1 rfl (rd rfl (qr rfl qcf rfl) (qcD 1 rfl ?_))))
   obtain ⟨r8, h8, hr⟩ := za hr
   refine qs rfl qeZ (IHR _ _ _ h8) (rd rfl (qr rfl qcf rfl) (qgZ rfl rfl rfl (qeM _ rfl rfl rfl (Wk.refl _) (pf1 _ _ _) rfl rfl (by exact qkN) rfl rfl rfl) (qb (qaa (qe (zg 2 6 (qcD 0 rfl (qcr rfl (pf1 _ _ _) (qb ?_)))))))))
   cases hr
   refine qbQ Tryz.func128 _ (.cons (zy rfl (.head _) (by exact qdC) rfl (Wk.refl _)) .nil) ?_
   first | rfl | (show _ = D.agg (fsT _); rw [qdQ] <;> rfl) | simp [yJ, zi, qdQ, T.k, T.i, T.s, T.ar]
  ·
   refine qf 4 rfl (zg 2 6 (qcD 1 rfl (qcr rfl (pf0 _) (qb ?_))))
   cases hr
   refine qbQ Tryz.func128 _ (.cons (zy rfl (.head _) (by exact qdC) rfl (Wk.refl _)) .nil) ?_
   first | rfl | (show _ = D.agg (fsT _); rw [qdQ] <;> rfl) | simp [yJ, zi, qdQ, T.k, T.i, T.s, T.ar]
def qae (k : List T → Option (List T)) (rec : (List (Int × T)) → List T → Option (List T)) (a0 : List (Int × T)) : List T → List T → Option (List T)
 | [], o4 =>
 (k o4)
 | q_8 :: rest, o4 =>
 ((qc9 rec a0 q_8).bind fun r9 =>
 ((zN 56 o4 [r9]).bind fun l10 =>
 (qae k rec a0 rest l10)))
def qa5 : Nat → (List (Int × T)) → List T → Option (List T)
 | 0, _, _ => none
 | fuel + 1, a0, a1 =>
  (fun (rec : (List (Int × T)) → List T → Option (List T)) =>
   (qae (fun o7 =>
   some (o7)) rec a0 a1 [])) (qa5 fuel)
theorem qiu (fuel : Nat) (rec : (List (Int × T)) → List T → Option (List T)) (IHR : ∀ (a0 : List (Int × T)) (a1 : List T) (res : List T), rec a0 a1 = some res → zf Tryz.prog 129 [.lst (a0.map zo), .lst (a1.map zi)] (.lst (res.map zi))) (a0 : List (Int × T)) (a1 : List T) (res : List T)
 (hr : (qae (fun o7 =>
some (o7)) rec a0 a1 []) = some res) : zf Tryz.prog 129 [.lst (a0.map zo), .lst (a1.map zi)] (.lst (res.map zi)) := by
 refine qY Tryz.func129 rfl fun K hK => (qe (zg 1 1 (ew rfl (qab 71 4 (.inl rfl)) ?_)))
 rintro _ _ ⟨u4_0, rfl, rfl⟩
 refine qb (qe (zg 1 1 (ew rfl (qab 71 4 (.inl rfl)) ?_)))
 rintro _ _ ⟨u5_1, rfl, rfl⟩
 refine qb (qf 3 rfl ?_)
 obtain ⟨kk0, hkk0, hr⟩ := exK (fun k => qae k rec a0 a1 []) hr
 refine qcq 1 rfl (asl rfl) fun hla0 => ?_
 simp only [jb] at hla0
 refine qx (fun env σ => ∃ (o7 : List T) (u6 : Value), env = [(5, .own u6 (o7.map zi))] ∧ σ = [.row u6 o7.length 71 4] ∧ kk0 o7 = some res) ?_ (fun HK0 => ?_)
 ·
  rintro _ _ ⟨o7, u6, rfl, rfl, hr⟩
  rw [hkk0] at hr
  refine qf 2 rfl ?_
  cases hr
  refine qbQ Tryz.func129 _ (.cons (zd rfl (Wk.own _ _)) .nil) ?_
  rfl
 ·
  refine qm [0, 1, 5, 6] rfl (qcA [_] _ (pf0 _) (q9 (fun n env σ => ∃ (o4 : List T) (i5 : Nat) (u3 : Value), (n = a1.length - i5) ∧ (env = [(0, .lst (a0.map zo)), (1, .lst (a1.map zi)), (5, .own u3 (o4.map zi)), (6, .int .i64 (i5 : Int))]) ∧ (σ = [.row u3 o4.length 71 4]) ∧ (i5 ≤ a1.length) ∧ (qae kk0 rec a0 (a1.drop i5) o4 = some res)) _ ⟨[], 0, u5_1, rfl, rfl, rfl, jc _, hr⟩ ?_))
  rintro n _ _ ⟨o4, i5, u3, rfl, rfl, rfl, hi0, hr⟩ IH0
  rcases zb a1 i5 hi0 with ⟨ht0, hd0, he0⟩ | ⟨q_8, ht0, hd0, hq0, hlt0⟩
  ·
   rw [hd0, qae] at hr
   refine qe (qe (qg 4 (qa 2 rfl (qz rfl (qa 1 rfl (qb (qk 10 false rfl ht0 (qA rfl (qQ rfl (qm [5] rfl ?_))))))))))
   exact HK0 _ _ ⟨o4, u3, rfl, rfl, hr⟩
  ·
   rw [hd0, qae] at hr
   refine qe (qe (qg 4 (qa 2 rfl (qz rfl (qa 1 rfl (qb (qk 10 true rfl ht0 (qf 4 rfl (zg 10 65536 (qa 4 rfl (qN hq0 rfl (qa 1 rfl ?_))))))))))))
   obtain ⟨r9, h9, hr⟩ := za hr
   refine qs rfl qhs (qg6 rec IHR _ _ _ h9) (rd rfl (qeS (f := zi) [.tmp 19] [r9] rfl qam rfl rfl (by decide) (by decide) (.oc rfl .nil) qcl (fun _ => rfl)) ?_)
   obtain ⟨l10, h10, hr⟩ := za hr
   refine ew rfl (qaK (f := zi) o4 [r9] rfl qam rfl rfl (asl rfl) (pf0 _) rfl qcl h10) ?_
   rintro _ _ ⟨u21_10, rfl, rfl⟩
   refine qa 1 rfl (qb (qaa (qg 3 (qa 1 rfl (qaj rfl (qa 1 rfl (qb (qm [0, 1, 5, 6] rfl ?_))))))))
   exact IH0 _ _ _ (by omega) ⟨l10, (i5 + 1), u21_10, rfl, rfl, rfl, (by omega), hr⟩
theorem qdW : ∀ (fuel : Nat) (a0 : List (Int × T)) (a1 : List T) (res : List T), qa5 fuel a0 a1 = some res → zf Tryz.prog 129 [.lst (a0.map zo), .lst (a1.map zi)] (.lst (res.map zi))
 | 0, _, _, _, h => by cases h
 | fuel + 1, a0, a1, res, h => qiu fuel (qa5 fuel) (qdW fuel) a0 a1 res h
def qfL (fuel : Nat) (a0 : List (Int × T)) (a1 : T) : Option T := qc9 (qa5 fuel) a0 a1
theorem qkx (fuel : Nat) (a0 : List (Int × T)) (a1 : T) (res : T) (hr : qfL fuel a0 a1 = some res) : zf Tryz.prog 128 [.lst (a0.map zo), zi a1] (zi res) := qg6 (qa5 fuel) (qdW fuel) a0 a1 res hr
def qch (fuel : Nat) (a0 : List (Int × T)) (a1 : Gl) : Option Gl :=
 ((qa5 fuel a0 a1.ts).bind fun r2 =>
 some ((⟨a1.op, a1.n, r2⟩ : Gl)))
theorem qe5 (fuel : Nat) (a0 : List (Int × T)) (a1 : Gl) (res : Gl) (hr : qch fuel a0 a1 = some res) : zf Tryz.prog 96 [.lst (a0.map zo), zA a1] (zA res) := by
 unfold qch at hr
 refine qY Tryz.func96 rfl fun K hK => (qe (zg 2 4 (rd rfl (qcK rfl rfl rfl) (ew rfl (qaJ rfl qgo) ?_))))
 rintro _ _ ⟨b4_0, rfl, rfl⟩
 refine qb (qe (qei 10 262144 (qa 7 rfl ?_)))
 obtain ⟨r2, h2, hr⟩ := za hr
 refine qs rfl qeZ (qdW fuel _ _ _ h2) (rd rfl (qbl rfl qic (.oc rfl (.oc rfl (.oc rfl .nil))) (.cons rfl rfl rfl (.cons rfl rfl rfl (.cons rfl rfl rfl (.nil _))))) (qcr rfl (pf0 _) (qb ?_)))
 cases hr
 refine qbQ Tryz.func96 _ (.cons (zy rfl (.head _) (by exact qmj) rfl (Wk.refl _)) .nil) ?_
 rfl
def qbE (k : Option Int) (a0 : List (Int × T)) (fuel : Nat) (r1 : Gl) : List Gl → Option Int
 | [] =>
 k
 | q_5 :: rest =>
 ((qda r1).bind fun r6 =>
 (bif r6 then
 ((qch fuel a0 q_5).bind fun r8 =>
 ((qs5 r1 r8).bind fun r9 =>
 (bif r9 then
 some (1)
 else
 (qbE k a0 fuel r1 rest))))
 else
 (qbE k a0 fuel r1 rest)))
def qeQ (fuel : Nat) (a0 : List (Int × T)) (a1 : List Gl) (a2 : Gl) : Option Int :=
 ((qch fuel a0 a2).bind fun r1 =>
 (qbE (((qdK fuel r1).bind fun r4 =>
 some (r4))) a0 fuel r1 a1))
theorem qlL (fuel : Nat) (a0 : List (Int × T)) (a1 : List Gl) (a2 : Gl) (res : Int) (hr : qeQ fuel a0 a1 a2 = some res) : zf Tryz.prog 91 [.lst (a0.map zo), .lst (a1.map zA), zA a2] (.int .i64 res) := by
 unfold qeQ at hr
 refine qY Tryz.func91 rfl fun K hK => (qe (qg 2 (rd rfl (qcK rfl rfl rfl) (qa 1 rfl (qb (qe (zg 5 320 (qa 2 rfl ?_))))))))
 obtain ⟨r1, h1, hr⟩ := za hr
 refine qs rfl qe2 (qe5 fuel _ _ _ h1) (ew rfl (qaJ rfl qgo) ?_)
 rintro _ _ ⟨b7_1, rfl, rfl⟩
 refine qcr rfl (pf0 _) (qb (qaR 7 b7_1 rfl (pf0 _) (qf 3 rfl ?_)))
 obtain ⟨kk0, hkk0, hr⟩ := exK (fun k => qbE k a0 fuel r1 a1) hr
 refine qcq 1 rfl (asl rfl) fun hla0 => ?_
 simp only [jb] at hla0
 refine qx (fun env σ => env = [(7, .ptr (zA r1))] ∧ σ = [] ∧ kk0 = some res) ?_ (fun HK0 => ?_)
 ·
  rintro _ _ ⟨rfl, rfl, hr⟩
  rw [hkk0] at hr
  refine qe (qg 3 (qa 1 rfl ?_))
  obtain ⟨r4, h4, hr⟩ := za hr
  refine qs rfl qli (qlb fuel _ _ h4) (qa 1 rfl (qb ?_))
  cases hr
  refine qu Tryz.func91 rfl ?_
  rfl
 ·
  refine qm [0, 1, 7, 8] rfl (q9 (fun n env σ => ∃ (i3 : Nat), (n = a1.length - i3) ∧ (env = [(0, .lst (a0.map zo)), (1, .lst (a1.map zA)), (7, .ptr (zA r1)), (8, .int .i64 (i3 : Int))]) ∧ (σ = []) ∧ (i3 ≤ a1.length) ∧ (qbE kk0 a0 fuel r1 (a1.drop i3) = some res)) _ ⟨0, rfl, rfl, rfl, jc _, hr⟩ ?_)
  rintro n _ _ ⟨i3, rfl, rfl, rfl, hi0, hr⟩ IH0
  rcases zb a1 i3 hi0 with ⟨ht0, hd0, he0⟩ | ⟨q_5, ht0, hd0, hq0, hlt0⟩
  ·
   rw [hd0, qbE] at hr
   refine qe (qe (qg 4 (qa 2 rfl (qz rfl (qa 1 rfl (qb (qk 15 false rfl ht0 (qA rfl (qQ rfl (qm [7] rfl ?_))))))))))
   exact HK0 _ _ ⟨rfl, rfl, hr⟩
  ·
   rw [hd0, qbE] at hr
   refine qe (qe (qg 4 (qa 2 rfl (qz rfl (qa 1 rfl (qb (qk 15 true rfl ht0 (qf 5 rfl (qei 12 0 (qa 1 rfl ?_))))))))))
   obtain ⟨r6, h6, hr⟩ := za hr
   refine qs rfl qg1 (qg9 _ _ h6) (qa 1 rfl ?_)
   refine zq 20 rfl hr (fun h20_6 hr => ?_) (fun h20_6 hr => ?_)
   ·
    refine qa 4 rfl (qN hq0 rfl (qa 1 rfl ?_))
    obtain ⟨r8, h8, hr⟩ := za hr
    refine qs rfl qe2 (qe5 fuel _ _ _ h8) ?_
    obtain ⟨r9, h9, hr⟩ := za hr
    refine qs rfl qi1 (qjc _ _ _ h9) (qa 1 rfl (qb ?_))
    refine zh 29 rfl hr (fun h29_9 hr => ?_) (fun h29_9 hr => ?_)
    ·
     refine qf 3 rfl ?_
     cases hr
     refine qu Tryz.func91 rfl ?_
     rfl
    ·
     refine qf 3 rfl (qg 3 (qa 1 rfl (qaj rfl (qa 1 rfl (qb (qm [0, 1, 7, 8] rfl ?_))))))
     exact IH0 _ _ _ (by omega) ⟨(i3 + 1), rfl, rfl, rfl, (by omega), hr⟩
   ·
    refine qa 9 rfl (qb (qf 3 rfl (qg 3 (qa 1 rfl (qaj rfl (qa 1 rfl (qb (qm [0, 1, 7, 8] rfl ?_))))))))
    exact IH0 _ _ _ (by omega) ⟨(i3 + 1), rfl, rfl, rfl, (by omega), hr⟩
def qcj (k : Option Bool) (a1 : qq) : List qq → Option Bool
 | [] =>
 k
 | q_2 :: rest =>
 ((qcz q_2 a1).bind fun r3 =>
 (bif (r3 == (0 : Int)) then
 some (true)
 else
 (qcj k a1 rest)))
def qdc (a0 : List qq) (a1 : qq) : Option Bool :=
 (qcj (some (false)) a1 a0)
theorem qh6 (a0 : List qq) (a1 : qq) (res : Bool) (hr : qdc a0 a1 = some res) : zf Tryz.prog 93 [.lst (a0.map qh), qh a1] (.bool res) := by
 unfold qdc at hr
 refine qY Tryz.func93 rfl fun K hK => (qe (qg 2 (rd rfl (qcK rfl rfl rfl) (qa 1 rfl (qb (qf 3 rfl ?_))))))
 obtain ⟨kk0, hkk0, hr⟩ := exK (fun k => qcj k a1 a0) hr
 refine qcq 0 rfl (asl rfl) fun hla0 => ?_
 simp only [jb] at hla0
 refine qx (fun env σ => env = [] ∧ σ = [] ∧ kk0 = some res) ?_ (fun HK0 => ?_)
 ·
  rintro _ _ ⟨rfl, rfl, hr⟩
  rw [hkk0] at hr
  refine qf 2 rfl ?_
  cases hr
  refine qu Tryz.func93 rfl ?_
  rfl
 ·
  refine qm [0, 3, 5] rfl (q9 (fun n env σ => ∃ (i1 : Nat), (n = a0.length - i1) ∧ (env = [(0, .lst (a0.map qh)), (3, .ptr (qh a1)), (5, .int .i64 (i1 : Int))]) ∧ (σ = []) ∧ (i1 ≤ a0.length) ∧ (qcj kk0 a1 (a0.drop i1) = some res)) _ ⟨0, rfl, rfl, rfl, jc _, hr⟩ ?_)
  rintro n _ _ ⟨i1, rfl, rfl, rfl, hi0, hr⟩ IH0
  rcases zb a0 i1 hi0 with ⟨ht0, hd0, he0⟩ | ⟨q_2, ht0, hd0, hq0, hlt0⟩
  ·
   rw [hd0, qcj] at hr
   refine qe (qe (qg 4 (qa 2 rfl (qz rfl (qa 1 rfl (qb (qk 9 false rfl ht0 (qA rfl (qQ rfl (qm [] rfl ?_))))))))))
   exact HK0 _ _ ⟨rfl, rfl, hr⟩
  ·
   rw [hd0, qcj] at hr
   refine qe (qe (qg 4 (qa 2 rfl (qz rfl (qa 1 rfl (qb (qk 9 true rfl ht0 (qf 5 rfl (qei 7 0 (qa 2 rfl (qN hq0 rfl (qa 2 rfl ?_))))))))))))
   obtain ⟨r3, h3, hr⟩ := za hr
   refine qs rfl qfh (qfk _ _ _ h3) (qa 1 rfl (qb ?_))
   refine zh 18 rfl hr (fun h18_3 hr => ?_) (fun h18_3 hr => ?_)
   ·
    refine qf 3 rfl ?_
    cases hr
    refine qu Tryz.func93 rfl ?_
    rfl
   ·
    refine qf 3 rfl (qg 3 (qa 1 rfl (qaj rfl (qa 1 rfl (qb (qm [0, 3, 5] rfl ?_))))))
    exact IH0 _ _ _ (by omega) ⟨(i1 + 1), rfl, rfl, rfl, (by omega), hr⟩
def qb1 (k : Option ((List (Int × T)) × Bool)) (a2 : List (Int × T)) (e7 : List (Int × T)) (fuel : Nat) (a3 : List Gl) : List Gl → Option ((List (Int × T)) × Bool)
 | [] =>
 k
 | q_13 :: rest =>
 ((qcm fuel e7 0 q_13).bind fun r14 =>
 ((qeQ fuel a2 a3 r14).bind fun r15 =>
 (bif (r15 != (1 : Int)) then
 some ([], false)
 else
 (qb1 k a2 e7 fuel a3 rest))))
def qbY (k : Option ((List (Int × T)) × Bool)) (i6 : Nat) (a6 : List Int) : Nat → Int → Option ((List (Int × T)) × Bool)
 | 0, k18 =>
 k
 | rest + 1, k18 =>
 ((zj a6 k18).bind fun q_25 =>
 ((zj a6 (i6 : Int)).bind fun q26 =>
 (bif (q_25 == q26) then
 some ([], false)
 else
 (qbY k i6 a6 rest (k18 + 1)))))
def qb0 (k : ((List (Int × T))) → Option ((List (Int × T)) × Bool)) (fuel : Nat) (a6 : List Int) (a1 : List (Int × At)) : List At → (List (Int × T)) → Nat → Option ((List (Int × T)) × Bool)
 | [], e5, i6 =>
 (k e5)
 | q_17 :: rest, e5, i6 =>
 (qbY (((zj a6 (i6 : Int)).bind fun q_19 =>
 ((qes a1 q_19).bind fun r20 =>
 (bif (!r20.2) then
 some ([], false)
 else
 ((qeo fuel e5 q_17 r20.1).bind fun r23 =>
 (bif (!r23.2) then
 some ([], false)
 else
 (qb0 k fuel a6 a1 rest r23.1 (i6 + 1)))))))) i6 a6 ((i6 : Int) - 0 : Int).toNat 0)
def qbP (fuel : Nat) (a0 : qn) (a1 : List (Int × At)) (a2 : List (Int × T)) (a3 : List Gl) (a4 : List qq) (a5 : Int) (a6 : List Int) : Option ((List (Int × T)) × Bool) :=
 ((zj a0.f1_Rules a5).bind fun q1 =>
 ((qcP q1).bind fun r3 =>
 (bif ((a6.length : Int) != (r3.length : Int)) then
 some ([], false)
 else
 (qb0 (fun e7 =>
 (qb1 (((qaP q1).bind fun r9 =>
 (bif r9 then
 ((qdc a4 (⟨a5, a6⟩ : qq)).bind fun r11 =>
 (bif r11 then
 some ([], false)
 else
 some (e7, true)))
 else
 some (e7, true)))) a2 e7 fuel a3 q1.f3_Guard)) fuel a6 a1 r3 [] 0))))
theorem qh4 (fuel : Nat) (a0 : qn) (a1 : List (Int × At)) (a2 : List (Int × T)) (a3 : List Gl) (a4 : List qq) (a5 : Int) (a6 : List Int) (res : (List (Int × T)) × Bool) (hr : qbP fuel a0 a1 a2 a3 a4 a5 a6 = some res) : zf Tryz.prog 59 [ql a0, .lst (a1.map zr), .lst (a2.map zo), .lst (a3.map zA), .lst (a4.map qh), .int .i64 a5, .lst (a6.map (D.int .i64))] (.tup [.lst (res.1.map zo), .bool res.2]) := by
 unfold qbP at hr
 refine qY Tryz.func59 rfl fun K hK => (qe (qg 3 (rd rfl (qcK rfl rfl rfl) (qa 2 rfl (qb (qe (zg 7 5120 (qa 3 rfl ?_))))))))
 obtain ⟨q1, h1, hr⟩ := za hr
 refine qN h1 rfl (qa 1 rfl (ew rfl (qaJ rfl qgt) ?_))
 rintro _ _ ⟨b16_1, rfl, rfl⟩
 refine qcr rfl (pf0 _) (qb (qaR 16 b16_1 rfl (pf0 _) (qe (qg 3 (qa 1 rfl ?_)))))
 obtain ⟨r3, h3, hr⟩ := za hr
 refine qs rfl qfI (qfB _ _ h3) (qa 1 rfl (qb (qe (qe (qg 5 (qa 1 rfl (qz rfl (qa 1 rfl (qz rfl (qa 1 rfl (qb ?_)))))))))))
 refine zh 37 rfl hr (fun h37_3 hr => ?_) (fun h37_3 hr => ?_)
 ·
  refine qf 3 rfl ?_
  cases hr
  refine qbQ Tryz.func59 _ (.cons (zd rfl (Wk.full _)) (.cons (zd rfl (Wk.refl _)) .nil)) ?_
  rfl
 ·
  refine qf 7 rfl ?_
  obtain ⟨kk0, hkk0, hr⟩ := exK (fun k => qb0 k fuel a6 a1 r3 [] 0) hr
  refine qcq 32 rfl (asl rfl) fun hla0 => ?_
  simp only [jb] at hla0
  refine qx (fun env σ => ∃ (e7 : List (Int × T)), env = [(2, .lst (a2.map zo)), (3, .lst (a3.map zA)), (4, .lst (a4.map qh)), (5, .int .i64 a5), (6, .lst (a6.map (D.int .i64))), (16, .ptr (qp q1)), (18, .lst (e7.map zo))] ∧ σ = [] ∧ kk0 e7 = some res) ?_ (fun HK0 => ?_)
  ·
   rintro _ _ ⟨e7, rfl, rfl, hr⟩
   rw [hkk0] at hr
   refine qf 3 rfl ?_
   obtain ⟨kk1, hkk1, hr⟩ := exK (fun k => qb1 k a2 e7 fuel a3 q1.f3_Guard) hr
   refine ql3 16 [3] (l := q1.f3_Guard.map zA) rfl rfl (asl rfl) fun hla1 => ?_
   simp only [jb] at hla1
   refine qx (fun env σ => env = [(4, .lst (a4.map qh)), (5, .int .i64 a5), (6, .lst (a6.map (D.int .i64))), (16, .ptr (qp q1)), (18, .lst (e7.map zo))] ∧ σ = [] ∧ kk1 = some res) ?_ (fun HK1 => ?_)
   ·
    rintro _ _ ⟨rfl, rfl, hr⟩
    rw [hkk1] at hr
    refine qe (qe (qg 9 (qa 1 rfl ?_)))
    obtain ⟨r9, h9, hr⟩ := za hr
    refine qs rfl qeO (qeP _ _ h9) (qa 1 rfl ?_)
    refine zq 102 rfl hr (fun h102_9 hr => ?_) (fun h102_9 hr => ?_)
    ·
     refine qa 3 rfl (rd rfl (qbl rfl qoi (.oc rfl (.oc rfl .nil)) (.cons rfl rfl rfl (.cons rfl rfl rfl (.nil _)))) ?_)
     obtain ⟨r11, h11, hr⟩ := za hr
     refine qs rfl qh1 (qh6 _ _ _ h11) (qa 1 rfl (qb ?_))
     refine zh 108 rfl hr (fun h108_11 hr => ?_) (fun h108_11 hr => ?_)
     ·
      refine qf 3 rfl ?_
      cases hr
      refine qbQ Tryz.func59 _ (.cons (zd rfl (Wk.full _)) (.cons (zd rfl (Wk.refl _)) .nil)) ?_
      rfl
     ·
      refine qf 4 rfl ?_
      cases hr
      refine qu Tryz.func59 rfl ?_
      rfl
    ·
     refine qa 6 rfl (qb (qf 4 rfl ?_))
     cases hr
     refine qu Tryz.func59 rfl ?_
     rfl
   ·
    refine qm [2, 3, 4, 5, 6, 16, 18, 25] rfl (q9 (fun n env σ => ∃ (i8 : Nat), (n = q1.f3_Guard.length - i8) ∧ (env = [(2, .lst (a2.map zo)), (3, .lst (a3.map zA)), (4, .lst (a4.map qh)), (5, .int .i64 a5), (6, .lst (a6.map (D.int .i64))), (16, .ptr (qp q1)), (18, .lst (e7.map zo)), (25, .int .i64 (i8 : Int))]) ∧ (σ = []) ∧ (i8 ≤ q1.f3_Guard.length) ∧ (qb1 kk1 a2 e7 fuel a3 (q1.f3_Guard.drop i8) = some res)) _ ⟨0, rfl, rfl, rfl, jc _, hr⟩ ?_)
    rintro n _ _ ⟨i8, rfl, rfl, rfl, hi1, hr⟩ IH1
    rcases zb q1.f3_Guard i8 hi1 with ⟨ht1, hd1, he1⟩ | ⟨q_13, ht1, hd1, hq1, hlt1⟩
    ·
     rw [hd1, qb1] at hr
     refine qe (qe (qg 5 (qa 3 rfl (qz rfl (qa 1 rfl (qb (qk 86 false rfl ht1 (qA rfl (qQ rfl (qm [4, 5, 6, 16, 18] rfl ?_))))))))))
     exact HK1 _ _ ⟨rfl, rfl, hr⟩
    ·
     rw [hd1, qb1] at hr
     refine qe (qe (qg 5 (qa 3 rfl (qz rfl (qa 1 rfl (qb (qk 86 true rfl ht1 (qf 5 rfl (qg 11 (qa 6 rfl (qN hq1 rfl (qa 1 rfl ?_))))))))))))
     obtain ⟨r14, h14, hr⟩ := za hr
     refine qs rfl qfF (qfE fuel _ _ _ _ h14) ?_
     obtain ⟨r15, h15, hr⟩ := za hr
     refine qs rfl qlB (qlL fuel _ _ _ _ h15) (qa 1 rfl (qb ?_))
     refine zh 99 rfl hr (fun h99_15 hr => ?_) (fun h99_15 hr => ?_)
     ·
      refine qf 3 rfl ?_
      cases hr
      refine qbQ Tryz.func59 _ (.cons (zd rfl (Wk.full _)) (.cons (zd rfl (Wk.refl _)) .nil)) ?_
      rfl
     ·
      refine qf 3 rfl (qg 3 (qa 1 rfl (qaj rfl (qa 1 rfl (qb (qm [2, 3, 4, 5, 6, 16, 18, 25] rfl ?_))))))
      exact IH1 _ _ _ (by omega) ⟨(i8 + 1), rfl, rfl, rfl, (by omega), hr⟩
  ·
   refine qvH [(1, .lst (a1.map zr)), (2, .lst (a2.map zo)), (3, .lst (a3.map zA)), (4, .lst (a4.map qh)), (5, .int .i64 a5), (6, .lst (a6.map (D.int .i64))), (16, .ptr (qp q1)), (17, .lst (r3.map zX)), (18, .lst ([].map zo)), (19, .int .i64 ((0 : Nat) : Int))] (sc rfl (sc rfl (sc rfl (sc rfl (sc rfl (sc rfl (sc rfl (sc rfl (Sub.cons rfl (Wk.full _) (sbr rfl)))))))))) (q9 (fun n env σ => ∃ (e5 : List (Int × T)) (i6 : Nat), (n = r3.length - i6) ∧ (env = [(1, .lst (a1.map zr)), (2, .lst (a2.map zo)), (3, .lst (a3.map zA)), (4, .lst (a4.map qh)), (5, .int .i64 a5), (6, .lst (a6.map (D.int .i64))), (16, .ptr (qp q1)), (17, .lst (r3.map zX)), (18, .lst (e5.map zo)), (19, .int .i64 (i6 : Int))]) ∧ (σ = []) ∧ (i6 ≤ r3.length) ∧ (qb0 kk0 fuel a6 a1 (r3.drop i6) e5 i6 = some res)) _ ⟨[], 0, rfl, rfl, rfl, jc _, hr⟩ ?_)
   rintro n _ _ ⟨e5, i6, rfl, rfl, rfl, hi0, hr⟩ IH0
   rcases zb r3 i6 hi0 with ⟨ht0, hd0, he0⟩ | ⟨q_17, ht0, hd0, hq0, hlt0⟩
   ·
    rw [hd0, qb0] at hr
    refine qe (qe (qg 4 (qa 2 rfl (qz rfl (qa 1 rfl (qb (qk 41 false rfl ht0 (qA rfl (qQ rfl (qm [2, 3, 4, 5, 6, 16, 18] rfl ?_))))))))))
    exact HK0 _ _ ⟨e5, rfl, rfl, hr⟩
   ·
    rw [hd0, qb0] at hr
    refine qe (qe (qg 4 (qa 2 rfl (qz rfl (qa 1 rfl (qb (qk 41 true rfl ht0 (qf 7 rfl ?_))))))))
    obtain ⟨kk2, hkk2, hr⟩ := exK (fun k => qbY k i6 a6 ((i6 : Int) - 0 : Int).toNat 0) hr
    refine qyO 19 rfl fun hla2 => ?_
    refine qx (fun env σ => env = [(1, .lst (a1.map zr)), (2, .lst (a2.map zo)), (3, .lst (a3.map zA)), (4, .lst (a4.map qh)), (5, .int .i64 a5), (6, .lst (a6.map (D.int .i64))), (16, .ptr (qp q1)), (17, .lst (r3.map zX)), (18, .lst (e5.map zo)), (19, .int .i64 (i6 : Int))] ∧ σ = [] ∧ kk2 = some res) ?_ (fun HK2 => ?_)
    ·
     rintro _ _ ⟨rfl, rfl, hr⟩
     rw [hkk2] at hr
     refine qe (zg 12 1310720 (qa 3 rfl ?_))
     obtain ⟨q_19, h19, hr⟩ := za hr
     refine qN h19 rfl (qa 1 rfl ?_)
     obtain ⟨r20, h20, hr⟩ := za hr
     refine qs rfl qhS (qhP _ _ _ h20) (qa 3 rfl (ew rfl (qaJ rfl qe9) ?_))
     rintro _ _ ⟨b21_20, rfl, rfl⟩
     refine qcr rfl (pf0 _) (qa 1 rfl (qb (qaR 21 b21_20 rfl (pf0 _) (qf 3 rfl ?_))))
     refine zh 68 rfl hr (fun h68_21 hr => ?_) (fun h68_21 hr => ?_)
     ·
      refine qf 3 rfl ?_
      cases hr
      refine qbQ Tryz.func59 _ (.cons (zd rfl (Wk.full _)) (.cons (zd rfl (Wk.refl _)) .nil)) ?_
      rfl
     ·
      refine qf 3 rfl (qei 12 0 (qa 3 rfl (qN hq0 rfl (qa 2 rfl ?_))))
      obtain ⟨r23, h23, hr⟩ := za hr
      refine qs rfl qk1 (qkI fuel _ _ _ _ h23) (qa 5 rfl (qb (qf 3 rfl ?_)))
      refine zh 80 rfl hr (fun h80_23 hr => ?_) (fun h80_23 hr => ?_)
      ·
       refine qf 3 rfl ?_
       cases hr
       refine qbQ Tryz.func59 _ (.cons (zd rfl (Wk.full _)) (.cons (zd rfl (Wk.refl _)) .nil)) ?_
       rfl
      ·
       refine qf 4 rfl (qg 3 (qa 1 rfl (qaj rfl (qa 1 rfl (qb (qm [1, 2, 3, 4, 5, 6, 16, 17, 18, 19] rfl ?_))))))
       exact IH0 _ _ _ (by omega) ⟨r23.1, (i6 + 1), rfl, rfl, rfl, (by omega), hr⟩
    ·
     refine qm [1, 2, 3, 4, 5, 6, 16, 17, 18, 19, 20] rfl (q9 (fun n env σ => ∃ (k18 : Int) (m2 : Nat), (m2 = n) ∧ (env = [(1, .lst (a1.map zr)), (2, .lst (a2.map zo)), (3, .lst (a3.map zA)), (4, .lst (a4.map qh)), (5, .int .i64 a5), (6, .lst (a6.map (D.int .i64))), (16, .ptr (qp q1)), (17, .lst (r3.map zX)), (18, .lst (e5.map zo)), (19, .int .i64 (i6 : Int)), (20, .int .i64 k18)]) ∧ (σ = []) ∧ (m2 = ((i6 : Int) - k18 : Int).toNat) ∧ (qbY kk2 i6 a6 m2 k18 = some res)) _ ⟨0, _, rfl, rfl, rfl, rfl, hr⟩ ?_)
     rintro n _ _ ⟨k18, m2, rfl, rfl, rfl, hi2, hr⟩ IH2
     refine qyO 20 rfl fun hb2 => ?_
     rcases zbc k18 (i6 : Int) m2 hi2 with ⟨hm2, ht2⟩ | ⟨m2', hm2, ht2, hi2', hlt2⟩
     ·
      rw [hm2, qbY] at hr
      refine qf 3 rfl (qk 46 false rfl ht2 (qA rfl (qQ rfl (qm [1, 2, 3, 4, 5, 6, 16, 17, 18, 19] rfl ?_))))
      exact HK2 _ _ ⟨rfl, rfl, hr⟩
     ·
      rw [hm2, qbY] at hr
      refine qf 3 rfl (qyO 19 rfl fun hbN19 => (qk 46 true rfl ht2 (qf 5 rfl (qei 9 0 (qa 2 rfl ?_)))))
      obtain ⟨q_25, h25, hr⟩ := za hr
      refine qN h25 rfl (qa 3 rfl ?_)
      obtain ⟨q26, h26, hr⟩ := za hr
      refine qN h26 rfl (qa 2 rfl (qb ?_))
      refine zh 57 rfl hr (fun h57_26 hr => ?_) (fun h57_26 hr => ?_)
      ·
       refine qf 3 rfl ?_
       cases hr
       refine qbQ Tryz.func59 _ (.cons (zd rfl (Wk.full _)) (.cons (zd rfl (Wk.refl _)) .nil)) ?_
       rfl
      ·
       refine qf 3 rfl (qg 3 (qa 1 rfl (rd rfl (s_ar (r := k18 + 1) rfl rfl rfl rfl (by omega)) (qa 1 rfl (qb (qm [1, 2, 3, 4, 5, 6, 16, 17, 18, 19, 20] rfl ?_))))))
       exact IH2 _ _ _ (by omega) ⟨(k18 + 1), _, rfl, rfl, rfl, hi2', hr⟩
def qaz (k : ((List (List Int))) → Option ((List (List Int)))) (a2 : List (Int × T)) (fuel : Nat) (a4 : List qq) (a3 : List Gl) (a1 : List (Int × At)) (a0 : qn) (a5 : Int) : List (List Int) → (List (List Int)) → Option ((List (List Int)))
 | [], o9 =>
 (k o9)
 | q_13 :: rest, o9 =>
 ((qbP fuel a0 a1 a2 a3 a4 a5 q_13).bind fun r14 =>
 (bif r14.2 then
 ((zN 24 o9 [q_13]).bind fun l16 =>
 (qaz k a2 fuel a4 a3 a1 a0 a5 rest l16))
 else
 (qaz k a2 fuel a4 a3 a1 a0 a5 rest o9)))
def qac (k : ((List (List Int))) → Option ((List (List Int)))) (q_18 : At) (q_25 : List Int) : List (Int × At) → (List (List Int)) → Option ((List (List Int)))
 | [], l27 =>
 (k l27)
 | q_31 :: rest, l27 =>
 (bif (q_31.2.n.toList == q_18.n.toList) then
 (bif ((q_31.2.ts.length : Int) == (q_18.ts.length : Int)) then
 ((zN 8 [] q_25).bind fun l36 =>
 ((zN 8 l36 [q_31.1]).bind fun l38 =>
 ((zN 24 l27 [l38]).bind fun l40 =>
 (qac k q_18 q_25 rest l40))))
 else
 (qac k q_18 q_25 rest l27))
 else
 (qac k q_18 q_25 rest l27))
def qay (k : ((List (List Int))) → Option ((List (List Int)))) (a1 : List (Int × At)) (q_18 : At) : List (List Int) → (List (List Int)) → Option ((List (List Int)))
 | [], l21 =>
 (k l21)
 | q_25 :: rest, l21 =>
 (qac (fun l30 =>
 (qay k a1 q_18 rest l30)) q_18 q_25 a1 l21)
def qaw (k : ((List (List Int))) → Option ((List (List Int)))) (a1 : List (Int × At)) : List At → (List (List Int)) → Option ((List (List Int)))
 | [], l4 =>
 (k l4)
 | q_18 :: rest, l4 =>
 (qay (fun l24 =>
 (qaw k a1 rest l24)) a1 q_18 l4 [])
def qdM (fuel : Nat) (a0 : qn) (a1 : List (Int × At)) (a2 : List (Int × T)) (a3 : List Gl) (a4 : List qq) (a5 : Int) : Option ((List (List Int))) :=
 ((zj a0.f1_Rules a5).bind fun q_2 =>
 ((qcP q_2).bind fun r3 =>
 (qaw (fun l6 =>
 (qaz (fun o12 =>
 some (o12)) a2 fuel a4 a3 a1 a0 a5 l6 [])) a1 r3 [[]])))
theorem qjt (fuel : Nat) (a0 : qn) (a1 : List (Int × At)) (a2 : List (Int × T)) (a3 : List Gl) (a4 : List qq) (a5 : Int) (res : List (List Int)) (hr : qdM fuel a0 a1 a2 a3 a4 a5 = some res) : zf Tryz.prog 25 [ql a0, .lst (a1.map zr), .lst (a2.map zo), .lst (a3.map zA), .lst (a4.map qh), .int .i64 a5] (.lst (res.map (fun (l : List Int) => D.lst (l.map (D.int .i64))))) := by
 unfold qdM at hr
 refine qY Tryz.func25 rfl fun K hK => (qe (zg 2 4 (rd rfl (qcK rfl rfl rfl) (ew rfl (qab 46 1 (.inl rfl)) ?_))))
 rintro _ _ ⟨u12_0, rfl, rfl⟩
 refine qb (qe (qg 7 (qa 3 rfl ?_)))
 obtain ⟨q_2, h2, hr⟩ := za hr
 refine qN h2 rfl (qa 1 rfl ?_)
 obtain ⟨r3, h3, hr⟩ := za hr
 refine qs rfl qfI (qfB _ _ h3) (qa 1 rfl (qb (qe (qg 2 (rd rfl (qeS (f := (fun (l : List Int) => D.lst (l.map (D.int .i64)))) [.const (.slice none 0 0)] [[]] rfl qiS rfl rfl (by decide) (by decide) (.cons rfl (Wk.full _) .nil) (fun _ => rfl) (fun _ => rfl)) (qa 1 rfl (qb (qf 3 rfl ?_))))))))
 obtain ⟨kk0, hkk0, hr⟩ := exK (fun k => qaw k a1 r3 [[]]) hr
 refine qcq 30 rfl (asl rfl) fun hla0 => ?_
 simp only [jb] at hla0
 refine qx (fun env σ => ∃ (l6 : List (List Int)), env = [(1, .lst (a1.map zr)), (2, .lst (a2.map zo)), (3, .lst (a3.map zA)), (4, .lst (a4.map qh)), (5, .int .i64 a5), (6, .ptr (ql a0)), (14, .lst (l6.map (fun (l : List Int) => D.lst (l.map (D.int .i64)))))] ∧ σ = [] ∧ kk0 l6 = some res) ?_ (fun HK0 => ?_)
 ·
  rintro _ _ ⟨l6, rfl, rfl, hr⟩
  rw [hkk0] at hr
  refine qe (zg 1 1 (ew rfl (qab 46 1 (.inl rfl)) ?_))
  rintro _ _ ⟨u21_6, rfl, rfl⟩
  refine qb (qf 3 rfl ?_)
  obtain ⟨kk1, hkk1, hr⟩ := exK (fun k => qaz k a2 fuel a4 a3 a1 a0 a5 l6 []) hr
  refine qcq 14 rfl (asl rfl) fun hla1 => ?_
  simp only [jb] at hla1
  refine qx (fun env σ => ∃ (o12 : List (List Int)) (u11 : Value), env = [(21, .own u11 (o12.map (fun (l : List Int) => D.lst (l.map (D.int .i64)))))] ∧ σ = [.row u11 o12.length 46 1] ∧ kk1 o12 = some res) ?_ (fun HK1 => ?_)
  ·
   rintro _ _ ⟨o12, u11, rfl, rfl, hr⟩
   rw [hkk1] at hr
   refine qf 2 rfl ?_
   cases hr
   refine qbQ Tryz.func25 _ (.cons (zd rfl (Wk.own _ _)) .nil) ?_
   rfl
  ·
   refine qm [1, 2, 3, 4, 5, 6, 14, 21, 22] rfl (q9 (fun n env σ => ∃ (o9 : List (List Int)) (i10 : Nat) (u8 : Value), (n = l6.length - i10) ∧ (env = [(1, .lst (a1.map zr)), (2, .lst (a2.map zo)), (3, .lst (a3.map zA)), (4, .lst (a4.map qh)), (5, .int .i64 a5), (6, .ptr (ql a0)), (14, .lst (l6.map (fun (l : List Int) => D.lst (l.map (D.int .i64))))), (21, .own u8 (o9.map (fun (l : List Int) => D.lst (l.map (D.int .i64))))), (22, .int .i64 (i10 : Int))]) ∧ (σ = [.row u8 o9.length 46 1]) ∧ (i10 ≤ l6.length) ∧ (qaz kk1 a2 fuel a4 a3 a1 a0 a5 (l6.drop i10) o9 = some res)) _ ⟨[], 0, u21_6, rfl, rfl, rfl, jc _, hr⟩ ?_)
   rintro n _ _ ⟨o9, i10, u8, rfl, rfl, rfl, hi1, hr⟩ IH1
   rcases zb l6 i10 hi1 with ⟨ht1, hd1, he1⟩ | ⟨q_13, ht1, hd1, hq1, hlt1⟩
   ·
    rw [hd1, qaz] at hr
    refine qe (qe (qg 4 (qa 2 rfl (qz rfl (qa 1 rfl (qb (qk 96 false rfl ht1 (qA rfl (qQ rfl (qm [21] rfl ?_))))))))))
    exact HK1 _ _ ⟨o9, u8, rfl, rfl, hr⟩
   ·
    rw [hd1, qaz] at hr
    refine qe (qe (qg 4 (qa 2 rfl (qz rfl (qa 1 rfl (qb (qk 96 true rfl ht1 (qf 5 rfl (qei 16 0 (qa 8 rfl (qN hq1 rfl (qa 1 rfl ?_))))))))))))
    obtain ⟨r14, h14, hr⟩ := za hr
    refine qs rfl qh2 (qh4 fuel _ _ _ _ _ _ _ _ h14) (qa 5 rfl (qb (qf 2 rfl ?_)))
    refine zh 113 rfl hr (fun h113_14 hr => ?_) (fun h113_14 hr => ?_)
    ·
     refine qO rfl (zg 8 4096 (qa 3 rfl (qN hq1 rfl (qa 1 rfl (rd rfl (qeS (f := (fun (l : List Int) => D.lst (l.map (D.int .i64)))) [.tmp 118] [q_13] rfl qiS rfl rfl (by decide) (by decide) (.oc rfl .nil) (fun _ => rfl) (fun _ => rfl)) ?_)))))
     obtain ⟨l16, h16, hr⟩ := za hr
     refine ew rfl (qaK (f := (fun (l : List Int) => D.lst (l.map (D.int .i64)))) o9 [q_13] rfl qiS rfl rfl (asl rfl) (pf0 _) rfl (fun _ => rfl) h16) ?_
     rintro _ _ ⟨u120_16, rfl, rfl⟩
     refine qa 1 rfl (qb (qaa (qg 3 (qa 1 rfl (qaj rfl (qa 1 rfl (qb (qm [1, 2, 3, 4, 5, 6, 14, 21, 22] rfl ?_))))))))
     exact IH1 _ _ _ (by omega) ⟨l16, (i10 + 1), u120_16, rfl, rfl, rfl, (by omega), hr⟩
    ·
     refine qf 3 rfl (qg 3 (qa 1 rfl (qaj rfl (qa 1 rfl (qb (qm [1, 2, 3, 4, 5, 6, 14, 21, 22] rfl ?_))))))
     exact IH1 _ _ _ (by omega) ⟨o9, (i10 + 1), u8, rfl, rfl, rfl, (by omega), hr⟩
 ·
  refine qvH [(1, .lst (a1.map zr)), (2, .lst (a2.map zo)), (3, .lst (a3.map zA)), (4, .lst (a4.map qh)), (5, .int .i64 a5), (6, .ptr (ql a0)), (13, .lst (r3.map zX)), (14, .lst ([[]].map (fun (l : List Int) => D.lst (l.map (D.int .i64))))), (15, .int .i64 ((0 : Nat) : Int))] (sc rfl (sc rfl (sc rfl (sc rfl (sc rfl (sc rfl (sc rfl (Sub.cons rfl (Wk.full _) (sbr rfl))))))))) (qcA [] _ (pf0 _) (q9 (fun n env σ => ∃ (l4 : List (List Int)) (i5 : Nat), (n = r3.length - i5) ∧ (env = [(1, .lst (a1.map zr)), (2, .lst (a2.map zo)), (3, .lst (a3.map zA)), (4, .lst (a4.map qh)), (5, .int .i64 a5), (6, .ptr (ql a0)), (13, .lst (r3.map zX)), (14, .lst (l4.map (fun (l : List Int) => D.lst (l.map (D.int .i64))))), (15, .int .i64 (i5 : Int))]) ∧ (σ = []) ∧ (i5 ≤ r3.length) ∧ (qaw kk0 a1 (r3.drop i5) l4 = some res)) _ ⟨[[]], 0, rfl, rfl, rfl, jc _, hr⟩ ?_))
  rintro n _ _ ⟨l4, i5, rfl, rfl, rfl, hi0, hr⟩ IH0
  rcases zb r3 i5 hi0 with ⟨ht0, hd0, he0⟩ | ⟨q_18, ht0, hd0, hq0, hlt0⟩
  ·
   rw [hd0, qaw] at hr
   refine qe (qe (qg 4 (qa 2 rfl (qz rfl (qa 1 rfl (qb (qk 35 false rfl ht0 (qA rfl (qQ rfl (qm [1, 2, 3, 4, 5, 6, 14] rfl ?_))))))))))
   exact HK0 _ _ ⟨l4, rfl, rfl, hr⟩
  ·
   rw [hd0, qaw] at hr
   refine qe (qe (qg 4 (qa 2 rfl (qz rfl (qa 1 rfl (qb (qk 35 true rfl ht0 (qf 5 rfl (zg 1 1 (ew rfl (qab 46 1 (.inl rfl)) ?_))))))))))
   rintro _ _ ⟨u16_18, rfl, rfl⟩
   refine qb (qf 3 rfl ?_)
   obtain ⟨kk2, hkk2, hr⟩ := exK (fun k => qay k a1 q_18 l4 []) hr
   refine qcq 14 rfl (asl rfl) fun hla2 => ?_
   simp only [jb] at hla2
   refine qx (fun env σ => ∃ (l24 : List (List Int)) (u23 : Value), env = [(1, .lst (a1.map zr)), (2, .lst (a2.map zo)), (3, .lst (a3.map zA)), (4, .lst (a4.map qh)), (5, .int .i64 a5), (6, .ptr (ql a0)), (13, .lst (r3.map zX)), (15, .int .i64 (i5 : Int)), (16, .own u23 (l24.map (fun (l : List Int) => D.lst (l.map (D.int .i64)))))] ∧ σ = [.row u23 l24.length 46 1] ∧ kk2 l24 = some res) ?_ (fun HK2 => ?_)
   ·
    rintro _ _ ⟨l24, u23, rfl, rfl, hr⟩
    rw [hkk2] at hr
    refine qf 2 rfl (qg 3 (qa 1 rfl (qaj rfl (qa 1 rfl (qb (qvH [(1, .lst (a1.map zr)), (2, .lst (a2.map zo)), (3, .lst (a3.map zA)), (4, .lst (a4.map qh)), (5, .int .i64 a5), (6, .ptr (ql a0)), (13, .lst (r3.map zX)), (14, .lst (l24.map (fun (l : List Int) => D.lst (l.map (D.int .i64))))), (15, .int .i64 ((i5 + 1 : Nat) : Int))] (sc rfl (sc rfl (sc rfl (sc rfl (sc rfl (sc rfl (sc rfl (Sub.cons rfl (Wk.own _ _) (sbr rfl))))))))) (qcA [] _ (pf0 _) ?_)))))))
    exact IH0 _ _ _ (by omega) ⟨l24, (i5 + 1), rfl, rfl, rfl, (by omega), hr⟩
   ·
    refine qm [1, 2, 3, 4, 5, 6, 13, 14, 15, 16, 17] rfl (q9 (fun n env σ => ∃ (l21 : List (List Int)) (k22 : Nat) (u20 : Value), (n = l4.length - k22) ∧ (env = [(1, .lst (a1.map zr)), (2, .lst (a2.map zo)), (3, .lst (a3.map zA)), (4, .lst (a4.map qh)), (5, .int .i64 a5), (6, .ptr (ql a0)), (13, .lst (r3.map zX)), (14, .lst (l4.map (fun (l : List Int) => D.lst (l.map (D.int .i64))))), (15, .int .i64 (i5 : Int)), (16, .own u20 (l21.map (fun (l : List Int) => D.lst (l.map (D.int .i64))))), (17, .int .i64 (k22 : Int))]) ∧ (σ = [.row u20 l21.length 46 1]) ∧ (k22 ≤ l4.length) ∧ (qay kk2 a1 q_18 (l4.drop k22) l21 = some res)) _ ⟨[], 0, u16_18, rfl, rfl, rfl, jc _, hr⟩ ?_)
    rintro n _ _ ⟨l21, k22, u20, rfl, rfl, rfl, hi2, hr⟩ IH2
    rcases zb l4 k22 hi2 with ⟨ht2, hd2, he2⟩ | ⟨q_25, ht2, hd2, hq2, hlt2⟩
    ·
     rw [hd2, qay] at hr
     refine qe (qe (qg 4 (qa 2 rfl (qz rfl (qa 1 rfl (qb (qk 41 false rfl ht2 (qA rfl (qQ rfl (qm [1, 2, 3, 4, 5, 6, 13, 15, 16] rfl ?_))))))))))
     exact HK2 _ _ ⟨l21, u20, rfl, rfl, hr⟩
    ·
     rw [hd2, qay] at hr
     refine qe (qe (qg 4 (qa 2 rfl (qz rfl (qa 1 rfl (qb (qk 41 true rfl ht2 (qf 6 rfl ?_))))))))
     obtain ⟨kk3, hkk3, hr⟩ := exK (fun k => qac k q_18 q_25 a1 l21) hr
     refine qcq 1 rfl (asl rfl) fun hla3 => ?_
     simp only [jb] at hla3
     refine qx (fun env σ => ∃ (l30 : List (List Int)) (u29 : Value), env = [(1, .lst (a1.map zr)), (2, .lst (a2.map zo)), (3, .lst (a3.map zA)), (4, .lst (a4.map qh)), (5, .int .i64 a5), (6, .ptr (ql a0)), (13, .lst (r3.map zX)), (14, .lst (l4.map (fun (l : List Int) => D.lst (l.map (D.int .i64))))), (15, .int .i64 (i5 : Int)), (16, .own u29 (l30.map (fun (l : List Int) => D.lst (l.map (D.int .i64))))), (17, .int .i64 (k22 : Int))] ∧ σ = [.row u29 l30.length 46 1] ∧ kk3 l30 = some res) ?_ (fun HK3 => ?_)
     ·
      rintro _ _ ⟨l30, u29, rfl, rfl, hr⟩
      rw [hkk3] at hr
      refine qaa (qg 3 (qa 1 rfl (qaj rfl (qa 1 rfl (qb (qm [1, 2, 3, 4, 5, 6, 13, 14, 15, 16, 17] rfl ?_))))))
      exact IH2 _ _ _ (by omega) ⟨l30, (k22 + 1), u29, rfl, rfl, rfl, (by omega), hr⟩
     ·
      refine qm [1, 2, 3, 4, 5, 6, 13, 14, 15, 17, 16, 18] rfl (q9 (fun n env σ => ∃ (l27 : List (List Int)) (j28 : Nat) (u26 : Value), (n = a1.length - j28) ∧ (env = [(1, .lst (a1.map zr)), (2, .lst (a2.map zo)), (3, .lst (a3.map zA)), (4, .lst (a4.map qh)), (5, .int .i64 a5), (6, .ptr (ql a0)), (13, .lst (r3.map zX)), (14, .lst (l4.map (fun (l : List Int) => D.lst (l.map (D.int .i64))))), (15, .int .i64 (i5 : Int)), (17, .int .i64 (k22 : Int)), (16, .own u26 (l27.map (fun (l : List Int) => D.lst (l.map (D.int .i64))))), (18, .int .i64 (j28 : Int))]) ∧ (σ = [.row u26 l27.length 46 1]) ∧ (j28 ≤ a1.length) ∧ (qac kk3 q_18 q_25 (a1.drop j28) l27 = some res)) _ ⟨l21, 0, u20, rfl, rfl, rfl, jc _, hr⟩ ?_)
      rintro n _ _ ⟨l27, j28, u26, rfl, rfl, rfl, hi3, hr⟩ IH3
      rcases zb a1 j28 hi3 with ⟨ht3, hd3, he3⟩ | ⟨q_31, ht3, hd3, hq3, hlt3⟩
      ·
       rw [hd3, qac] at hr
       refine qe (qe (qg 4 (qa 2 rfl (qz rfl (qa 1 rfl (qb (qk 47 false rfl ht3 (qA rfl (qQ rfl (qm [1, 2, 3, 4, 5, 6, 13, 14, 15, 16, 17] rfl ?_))))))))))
       exact HK3 _ _ ⟨l27, u26, rfl, rfl, hr⟩
      ·
       rw [hd3, qac] at hr
       refine qe (qe (qg 4 (qa 2 rfl (qz rfl (qa 1 rfl (qb (qk 47 true rfl ht3 (qf 5 rfl (zg 7 5120 (qa 2 rfl (qN hq3 rfl (qa 2 rfl (ew rfl (qaJ rfl qe9) ?_)))))))))))))
       rintro _ _ ⟨b19_31, rfl, rfl⟩
       refine qcr rfl (pf0 _) (qb (qaR 19 b19_31 rfl (pf0 _) (qe (qei 20 0 (qa 4 rfl (qN hq0 rfl (qa 2 rfl (rd rfl (qgv rfl rfl rfl rfl) (qa 1 rfl ?_)))))))))
       refine zq 63 rfl hr (fun h63_32 hr => ?_) (fun h63_32 hr => ?_)
       ·
        refine qa 2 rfl (qz rfl (qa 2 rfl (qN hq0 rfl (qa 2 rfl (qz rfl (qa 2 rfl (qb ?_)))))))
        refine zh 74 rfl hr (fun h74_33 hr => ?_) (fun h74_33 hr => ?_)
        ·
         refine qO rfl (qe (zg 1 1 (ew rfl (qab 3 1 (.inl rfl)) ?_)))
         rintro _ _ ⟨u20_34, rfl, rfl⟩
         refine qb (qe (zg 7 1024 (qa 3 rfl (qN hq2 rfl (qa 1 rfl ?_)))))
         obtain ⟨l36, h36, hr⟩ := za hr
         refine ew rfl (qaK (f := (D.int .i64)) [] q_25 rfl qc7 rfl rfl (asl rfl) (pf0 _) rfl (fun _ => rfl) h36) ?_
         rintro _ _ ⟨u80_36, rfl, rfl⟩
         refine qa 1 rfl (qb (zg 12 1114112 (qa 4 rfl (qN hq3 rfl (qa 2 rfl (rd rfl (qeS (f := (D.int .i64)) [.tmp 87] [q_31.1] rfl qc7 rfl rfl (by decide) (by decide) (.oc rfl .nil) (fun _ => rfl) (fun _ => rfl)) ?_))))))
         obtain ⟨l38, h38, hr⟩ := za hr
         refine ew rfl (qaK (f := (D.int .i64)) l36 [q_31.1] rfl qc7 rfl rfl (asl rfl) (pf0 _) rfl (fun _ => rfl) h38) ?_
         rintro _ _ ⟨u89_38, rfl, rfl⟩
         refine rd rfl (qeS (f := (fun (l : List Int) => D.lst (l.map (D.int .i64)))) [.tmp 89] [l38] rfl qiS rfl rfl (by decide) (by decide) (.cons rfl (Wk.own _ _) .nil) (fun _ => rfl) (fun _ => rfl)) ?_
         obtain ⟨l40, h40, hr⟩ := za hr
         refine ew rfl (qaK (f := (fun (l : List Int) => D.lst (l.map (D.int .i64)))) l27 [l38] rfl qiS rfl rfl (asl rfl) (pf1 _ _ _) rfl (fun _ => rfl) h40) ?_
         rintro _ _ ⟨u91_40, rfl, rfl⟩
         refine qa 1 rfl (qb (qaa (qg 3 (qa 1 rfl (qaj rfl (qa 1 rfl (qb (qm [1, 2, 3, 4, 5, 6, 13, 14, 15, 17, 16, 18] rfl (qcA [_] _ (pf0 _) ?_)))))))))
         exact IH3 _ _ _ (by omega) ⟨l40, (j28 + 1), u91_40, rfl, rfl, rfl, (by omega), hr⟩
        ·
         refine qf 3 rfl (qg 3 (qa 1 rfl (qaj rfl (qa 1 rfl (qb (qm [1, 2, 3, 4, 5, 6, 13, 14, 15, 17, 16, 18] rfl ?_))))))
         exact IH3 _ _ _ (by omega) ⟨l27, (j28 + 1), u26, rfl, rfl, rfl, (by omega), hr⟩
       ·
        refine qa 11 rfl (qb (qf 3 rfl (qg 3 (qa 1 rfl (qaj rfl (qa 1 rfl (qb (qm [1, 2, 3, 4, 5, 6, 13, 14, 15, 17, 16, 18] rfl ?_))))))))
        exact IH3 _ _ _ (by omega) ⟨l27, (j28 + 1), u26, rfl, rfl, rfl, (by omega), hr⟩
def qbA (k : List qE → Option (List qE)) (i20 : Nat) : List (List Int) → List qE → Option (List qE)
 | [], o26 =>
 (k o26)
 | q_30 :: rest, o26 =>
 ((zN 48 o26 [(⟨3, 0, (i20 : Int), q_30⟩ : qE)]).bind fun l31 =>
 (qbA k i20 rest l31))
def qbt (k : List qE → Option (List qE)) (fuel : Nat) (a0 : qn) (a1 : qw) : List qD → List qE → Nat → Option (List qE)
 | [], o19, i20 =>
 (k o19)
 | q_23 :: rest, o19, i20 =>
 ((qdM fuel a0 a1.f1_Store a1.f2_Binds a1.f4_Known a1.f3_Fired (i20 : Int)).bind fun r24 =>
 (qbA (fun o29 =>
 (qbt k fuel a0 a1 rest o29 (i20 + 1))) i20 r24 o19))
def qaV (k : List qE → Option (List qE)) : List Gl → List qE → Nat → Option (List qE)
 | [], o14, i15 =>
 (k o14)
 | q_33 :: rest, o14, i15 =>
 (bif (q_33.op == (0 : Int)) then
 ((zN 48 o14 [(⟨2, (i15 : Int), 0, []⟩ : qE)]).bind fun l35 =>
 (qaV k rest l35 (i15 + 1)))
 else
 (qaV k rest o14 (i15 + 1)))
def qaX (k : List qE → Option (List qE)) : List Gl → List qE → Nat → Option (List qE)
 | [], o9, i10 =>
 (k o9)
 | q_37 :: rest, o9, i10 =>
 (bif (q_37.op != (0 : Int)) then
 ((zN 48 o9 [(⟨1, (i10 : Int), 0, []⟩ : qE)]).bind fun l39 =>
 (qaX k rest l39 (i10 + 1)))
 else
 (qaX k rest o9 (i10 + 1)))
def qdx (fuel : Nat) (a0 : qn) (a1 : qw) : Option (List qE) :=
 ((qcS fuel a0 a1).bind fun r2 =>
 (bif (!r2) then
 some ([])
 else
 (bif a1.f7_Failed then
 some ([])
 else
 (qaX (fun o12 =>
 (qaV (fun o17 =>
 (qbt (fun o22 =>
 some (o22)) fuel a0 a1 a0.f1_Rules o17 0)) a1.f0_Goals o12 0)) a1.f0_Goals [] 0))))
theorem qhl (fuel : Nat) (a0 : qn) (a1 : qw) (res : List qE) (hr : qdx fuel a0 a1 = some res) : zf Tryz.prog 9 [ql a0, qJ a1] (.lst (res.map qaL)) := by
 unfold qdx at hr
 refine qY Tryz.func9 rfl fun K hK => (qe (zg 3 16 (rd rfl (qcK rfl rfl rfl) (rd rfl (qcK rfl rfl rfl) (ew rfl (qab 48 4 (.inl rfl)) ?_)))))
 rintro _ _ ⟨u4_0, rfl, rfl⟩
 refine qb (qe (qe (qg 8 (qa 2 rfl ?_))))
 obtain ⟨r2, h2, hr⟩ := za hr
 refine qs rfl qfC (qfG fuel _ _ _ h2) (qa 2 rfl ?_)
 refine zq 15 rfl hr (fun h15_2 hr => ?_) (fun h15_2 hr => ?_)
 ·
  refine qa 3 rfl (qb (qO rfl (qe (zg 1 1 (ew rfl (qab 48 4 (.inl rfl)) ?_)))))
  rintro _ _ ⟨u4_3, rfl, rfl⟩
  refine qb ?_
  cases hr
  refine qbQ Tryz.func9 _ (.cons (zd rfl (Wk.own _ _)) .nil) ?_
  rfl
 ·
  refine qa 3 rfl (qb ?_)
  refine zh 18 rfl hr (fun h18_4 hr => ?_) (fun h18_4 hr => ?_)
  ·
   refine qO rfl (qe (zg 1 1 (ew rfl (qab 48 4 (.inl rfl)) ?_)))
   rintro _ _ ⟨u4_5, rfl, rfl⟩
   refine qb ?_
   cases hr
   refine qbQ Tryz.func9 _ (.cons (zd rfl (Wk.own _ _)) .nil) ?_
   rfl
  ·
   refine qf 3 rfl (zg 1 1 (ew rfl (qab 48 4 (.inl rfl)) ?_))
   rintro _ _ ⟨u5_6, rfl, rfl⟩
   refine qb (qf 3 rfl ?_)
   obtain ⟨kk0, hkk0, hr⟩ := exK (fun k => qaX k a1.f0_Goals [] 0) hr
   refine qzY 1 [0] (l := a1.f0_Goals.map zA) rfl rfl (asl rfl) fun hla0 => ?_
   simp only [jb] at hla0
   refine qx (fun env σ => ∃ (o12 : List qE) (u11 : Value), env = [(2, .ptr (ql a0)), (3, .ptr (qJ a1)), (5, .own u11 (o12.map qaL))] ∧ σ = [.row u11 o12.length 48 4] ∧ kk0 o12 = some res) ?_ (fun HK0 => ?_)
   ·
    rintro _ _ ⟨o12, u11, rfl, rfl, hr⟩
    rw [hkk0] at hr
    refine qf 3 rfl ?_
    obtain ⟨kk1, hkk1, hr⟩ := exK (fun k => qaV k a1.f0_Goals o12 0) hr
    refine ql3 3 [0] (l := a1.f0_Goals.map zA) rfl rfl (asl rfl) fun hla1 => ?_
    simp only [jb] at hla1
    refine qx (fun env σ => ∃ (o17 : List qE) (u16 : Value), env = [(2, .ptr (ql a0)), (3, .ptr (qJ a1)), (5, .own u16 (o17.map qaL))] ∧ σ = [.row u16 o17.length 48 4] ∧ kk1 o17 = some res) ?_ (fun HK1 => ?_)
    ·
     rintro _ _ ⟨o17, u16, rfl, rfl, hr⟩
     rw [hkk1] at hr
     refine qf 3 rfl ?_
     obtain ⟨kk2, hkk2, hr⟩ := exK (fun k => qbt k fuel a0 a1 a0.f1_Rules o17 0) hr
     refine ql3 2 [1] (l := a0.f1_Rules.map qp) rfl rfl (asl rfl) fun hla2 => ?_
     simp only [jb] at hla2
     refine qx (fun env σ => ∃ (o22 : List qE) (u21 : Value), env = [(5, .own u21 (o22.map qaL))] ∧ σ = [.row u21 o22.length 48 4] ∧ kk2 o22 = some res) ?_ (fun HK2 => ?_)
     ·
      rintro _ _ ⟨o22, u21, rfl, rfl, hr⟩
      rw [hkk2] at hr
      refine qf 2 rfl ?_
      cases hr
      refine qbQ Tryz.func9 _ (.cons (zd rfl (Wk.own _ _)) .nil) ?_
      rfl
     ·
      refine qm [2, 3, 5, 8] rfl (q9 (fun n env σ => ∃ (o19 : List qE) (i20 : Nat) (u18 : Value), (n = a0.f1_Rules.length - i20) ∧ (env = [(2, .ptr (ql a0)), (3, .ptr (qJ a1)), (5, .own u18 (o19.map qaL)), (8, .int .i64 (i20 : Int))]) ∧ (σ = [.row u18 o19.length 48 4]) ∧ (i20 ≤ a0.f1_Rules.length) ∧ (qbt kk2 fuel a0 a1 (a0.f1_Rules.drop i20) o19 i20 = some res)) _ ⟨o17, 0, u16, rfl, rfl, rfl, jc _, hr⟩ ?_)
      rintro n _ _ ⟨o19, i20, u18, rfl, rfl, rfl, hi2, hr⟩ IH2
      rcases zb a0.f1_Rules i20 hi2 with ⟨ht2, hd2, he2⟩ | ⟨q_23, ht2, hd2, hq2, hlt2⟩
      ·
       rw [hd2, qbt] at hr
       refine qe (qe (qg 5 (qa 3 rfl (qz rfl (qa 1 rfl (qb (qk 61 false rfl ht2 (qA rfl (qQ rfl (qm [5] rfl ?_))))))))))
       exact HK2 _ _ ⟨o19, u18, rfl, rfl, hr⟩
      ·
       rw [hd2, qbt] at hr
       refine qe (qe (qg 5 (qa 3 rfl (qz rfl (qa 1 rfl (qb (qk 61 true rfl ht2 (qf 5 rfl (qg 12 (qa 10 rfl ?_))))))))))
       obtain ⟨r24, h24, hr⟩ := za hr
       refine qs rfl qjq (qjt fuel _ _ _ _ _ _ _ h24) (qa 1 rfl (qb (qf 2 rfl ?_)))
       obtain ⟨kk3, hkk3, hr⟩ := exK (fun k => qbA k i20 r24 o19) hr
       refine qcq 74 rfl (asl rfl) fun hla3 => ?_
       simp only [jb] at hla3
       refine qx (fun env σ => ∃ (o29 : List qE) (u28 : Value), env = [(2, .ptr (ql a0)), (3, .ptr (qJ a1)), (5, .own u28 (o29.map qaL)), (8, .int .i64 (i20 : Int))] ∧ σ = [.row u28 o29.length 48 4] ∧ kk3 o29 = some res) ?_ (fun HK3 => ?_)
       ·
        rintro _ _ ⟨o29, u28, rfl, rfl, hr⟩
        rw [hkk3] at hr
        refine qaa (qg 3 (qa 1 rfl (qaj rfl (qa 1 rfl (qb (qm [2, 3, 5, 8] rfl ?_))))))
        exact IH2 _ _ _ (by omega) ⟨o29, (i20 + 1), u28, rfl, rfl, rfl, (by omega), hr⟩
       ·
        refine qm [2, 3, 8, 9, 5, 10] rfl (q9 (fun n env σ => ∃ (o26 : List qE) (k27 : Nat) (u25 : Value), (n = r24.length - k27) ∧ (env = [(2, .ptr (ql a0)), (3, .ptr (qJ a1)), (8, .int .i64 (i20 : Int)), (9, .lst (r24.map (fun (l : List Int) => D.lst (l.map (D.int .i64))))), (5, .own u25 (o26.map qaL)), (10, .int .i64 (k27 : Int))]) ∧ (σ = [.row u25 o26.length 48 4]) ∧ (k27 ≤ r24.length) ∧ (qbA kk3 i20 (r24.drop k27) o26 = some res)) _ ⟨o19, 0, u18, rfl, rfl, rfl, jc _, hr⟩ ?_)
        rintro n _ _ ⟨o26, k27, u25, rfl, rfl, rfl, hi3, hr⟩ IH3
        rcases zb r24 k27 hi3 with ⟨ht3, hd3, he3⟩ | ⟨q_30, ht3, hd3, hq3, hlt3⟩
        ·
         rw [hd3, qbA] at hr
         refine qe (qe (qg 4 (qa 2 rfl (qz rfl (qa 1 rfl (qb (qk 78 false rfl ht3 (qA rfl (qQ rfl (qm [2, 3, 5, 8] rfl ?_))))))))))
         exact HK3 _ _ ⟨o26, u25, rfl, rfl, hr⟩
        ·
         rw [hd3, qbA] at hr
         refine qe (qe (qg 4 (qa 2 rfl (qz rfl (qa 1 rfl (qb (qk 78 true rfl ht3 (qf 4 rfl (zg 10 65536 (qa 4 rfl (qN hq3 rfl (qa 1 rfl (rd rfl (qbl rfl qmh (.oc rfl (.oc rfl (.oc rfl .nil))) (.cons rfl rfl rfl (.cons rfl rfl rfl (.cons rfl rfl rfl (.nil _))))) ?_)))))))))))))
         refine rd rfl (qeS (f := qaL) [.tmp 87] [(⟨3, 0, (i20 : Int), q_30⟩ : qE)] rfl qf1 rfl rfl (by decide) (by decide) (.oc rfl .nil) qe1 (fun _ => rfl)) ?_
         obtain ⟨l31, h31, hr⟩ := za hr
         refine ew rfl (qaK (f := qaL) o26 [(⟨3, 0, (i20 : Int), q_30⟩ : qE)] rfl qf1 rfl rfl (asl rfl) (pf0 _) rfl qe1 h31) ?_
         rintro _ _ ⟨u89_31, rfl, rfl⟩
         refine qa 1 rfl (qb (qaa (qg 3 (qa 1 rfl (qaj rfl (qa 1 rfl (qb (qm [2, 3, 8, 9, 5, 10] rfl ?_))))))))
         exact IH3 _ _ _ (by omega) ⟨l31, (k27 + 1), u89_31, rfl, rfl, rfl, (by omega), hr⟩
    ·
     refine qm [2, 3, 5, 7] rfl (q9 (fun n env σ => ∃ (o14 : List qE) (i15 : Nat) (u13 : Value), (n = a1.f0_Goals.length - i15) ∧ (env = [(2, .ptr (ql a0)), (3, .ptr (qJ a1)), (5, .own u13 (o14.map qaL)), (7, .int .i64 (i15 : Int))]) ∧ (σ = [.row u13 o14.length 48 4]) ∧ (i15 ≤ a1.f0_Goals.length) ∧ (qaV kk1 (a1.f0_Goals.drop i15) o14 i15 = some res)) _ ⟨o12, 0, u11, rfl, rfl, rfl, jc _, hr⟩ ?_)
     rintro n _ _ ⟨o14, i15, u13, rfl, rfl, rfl, hi1, hr⟩ IH1
     rcases zb a1.f0_Goals i15 hi1 with ⟨ht1, hd1, he1⟩ | ⟨q_33, ht1, hd1, hq1, hlt1⟩
     ·
      rw [hd1, qaV] at hr
      refine qe (qe (qg 5 (qa 3 rfl (qz rfl (qa 1 rfl (qb (qk 42 false rfl ht1 (qA rfl (qQ rfl (qm [2, 3, 5] rfl ?_))))))))))
      exact HK1 _ _ ⟨o14, u13, rfl, rfl, hr⟩
     ·
      rw [hd1, qaV] at hr
      refine qe (qe (qg 5 (qa 3 rfl (qz rfl (qa 1 rfl (qb (qk 42 true rfl ht1 (qf 5 rfl (qg 7 (qa 3 rfl (qN hq1 rfl (qa 3 rfl (qb ?_)))))))))))))
      refine zh 51 rfl hr (fun h51_33 hr => ?_) (fun h51_33 hr => ?_)
      ·
       refine qO rfl (zg 6 256 (qa 2 rfl (rd rfl (qbl rfl qmh (.oc rfl (.oc rfl .nil)) (.cons rfl rfl rfl (.cons rfl rfl rfl (.nil _)))) (rd rfl (qeS (f := qaL) [.tmp 54] [(⟨2, (i15 : Int), 0, []⟩ : qE)] rfl qf1 rfl rfl (by decide) (by decide) (.oc rfl .nil) qe1 (fun _ => rfl)) ?_))))
       obtain ⟨l35, h35, hr⟩ := za hr
       refine ew rfl (qaK (f := qaL) o14 [(⟨2, (i15 : Int), 0, []⟩ : qE)] rfl qf1 rfl rfl (asl rfl) (pf0 _) rfl qe1 h35) ?_
       rintro _ _ ⟨u56_35, rfl, rfl⟩
       refine qa 1 rfl (qb (qaa (qg 3 (qa 1 rfl (qaj rfl (qa 1 rfl (qb (qm [2, 3, 5, 7] rfl ?_))))))))
       exact IH1 _ _ _ (by omega) ⟨l35, (i15 + 1), u56_35, rfl, rfl, rfl, (by omega), hr⟩
      ·
       refine qf 3 rfl (qg 3 (qa 1 rfl (qaj rfl (qa 1 rfl (qb (qm [2, 3, 5, 7] rfl ?_))))))
       exact IH1 _ _ _ (by omega) ⟨o14, (i15 + 1), u13, rfl, rfl, rfl, (by omega), hr⟩
   ·
    refine qm [2, 3, 5, 6] rfl (qcA [_] _ (pf0 _) (q9 (fun n env σ => ∃ (o9 : List qE) (i10 : Nat) (u8 : Value), (n = a1.f0_Goals.length - i10) ∧ (env = [(2, .ptr (ql a0)), (3, .ptr (qJ a1)), (5, .own u8 (o9.map qaL)), (6, .int .i64 (i10 : Int))]) ∧ (σ = [.row u8 o9.length 48 4]) ∧ (i10 ≤ a1.f0_Goals.length) ∧ (qaX kk0 (a1.f0_Goals.drop i10) o9 i10 = some res)) _ ⟨[], 0, u5_6, rfl, rfl, rfl, jc _, hr⟩ ?_))
    rintro n _ _ ⟨o9, i10, u8, rfl, rfl, rfl, hi0, hr⟩ IH0
    rcases zb a1.f0_Goals i10 hi0 with ⟨ht0, hd0, he0⟩ | ⟨q_37, ht0, hd0, hq0, hlt0⟩
    ·
     rw [hd0, qaX] at hr
     refine qe (qe (qg 5 (qa 3 rfl (qz rfl (qa 1 rfl (qb (qk 23 false rfl ht0 (qA rfl (qQ rfl (qm [2, 3, 5] rfl ?_))))))))))
     exact HK0 _ _ ⟨o9, u8, rfl, rfl, hr⟩
    ·
     rw [hd0, qaX] at hr
     refine qe (qe (qg 5 (qa 3 rfl (qz rfl (qa 1 rfl (qb (qk 23 true rfl ht0 (qf 5 rfl (qg 7 (qa 3 rfl (qN hq0 rfl (qa 3 rfl (qb ?_)))))))))))))
     refine zh 32 rfl hr (fun h32_37 hr => ?_) (fun h32_37 hr => ?_)
     ·
      refine qO rfl (zg 6 256 (qa 2 rfl (rd rfl (qbl rfl qmh (.oc rfl (.oc rfl .nil)) (.cons rfl rfl rfl (.cons rfl rfl rfl (.nil _)))) (rd rfl (qeS (f := qaL) [.tmp 35] [(⟨1, (i10 : Int), 0, []⟩ : qE)] rfl qf1 rfl rfl (by decide) (by decide) (.oc rfl .nil) qe1 (fun _ => rfl)) ?_))))
      obtain ⟨l39, h39, hr⟩ := za hr
      refine ew rfl (qaK (f := qaL) o9 [(⟨1, (i10 : Int), 0, []⟩ : qE)] rfl qf1 rfl rfl (asl rfl) (pf0 _) rfl qe1 h39) ?_
      rintro _ _ ⟨u37_39, rfl, rfl⟩
      refine qa 1 rfl (qb (qaa (qg 3 (qa 1 rfl (qaj rfl (qa 1 rfl (qb (qm [2, 3, 5, 6] rfl ?_))))))))
      exact IH0 _ _ _ (by omega) ⟨l39, (i10 + 1), u37_39, rfl, rfl, rfl, (by omega), hr⟩
     ·
      refine qf 3 rfl (qg 3 (qa 1 rfl (qaj rfl (qa 1 rfl (qb (qm [2, 3, 5, 6] rfl ?_))))))
      exact IH0 _ _ _ (by omega) ⟨o9, (i10 + 1), u8, rfl, rfl, rfl, (by omega), hr⟩
def qbM (k : Option Bool) (a1 : List Int) : List Int → Nat → Option Bool
 | [], i2 =>
 k
 | q_3 :: rest, i2 =>
 ((zj a1 (i2 : Int)).bind fun q_4 =>
 (bif (q_3 != q_4) then
 some (false)
 else
 (qbM k a1 rest (i2 + 1))))
def qe6 (a0 : List Int) (a1 : List Int) : Option Bool :=
 (bif ((a0.length : Int) != (a1.length : Int)) then
 some (false)
 else
 (qbM (some (true)) a1 a0 0))
theorem qk5 (a0 : List Int) (a1 : List Int) (res : Bool) (hr : qe6 a0 a1 = some res) : zf Tryz.prog 60 [.lst (a0.map (D.int .i64)), .lst (a1.map (D.int .i64))] (.bool res) := by
 unfold qe6 at hr
 refine qY Tryz.func60 rfl fun K hK => (qf 4 rfl (qg 5 (qa 1 rfl (qz rfl (qa 1 rfl (qz rfl (qa 1 rfl (qb ?_))))))))
 refine zh 10 rfl hr (fun h10_0 hr => ?_) (fun h10_0 hr => ?_)
 ·
  refine qf 3 rfl ?_
  cases hr
  refine qu Tryz.func60 rfl ?_
  rfl
 ·
  refine qf 5 rfl ?_
  obtain ⟨kk0, hkk0, hr⟩ := exK (fun k => qbM k a1 a0 0) hr
  refine qcq 0 rfl (asl rfl) fun hla0 => ?_
  simp only [jb] at hla0
  refine qx (fun env σ => env = [] ∧ σ = [] ∧ kk0 = some res) ?_ (fun HK0 => ?_)
  ·
   rintro _ _ ⟨rfl, rfl, hr⟩
   rw [hkk0] at hr
   refine qf 2 rfl ?_
   cases hr
   refine qu Tryz.func60 rfl ?_
   rfl
  ·
   refine qm [0, 1, 5] rfl (q9 (fun n env σ => ∃ (i2 : Nat), (n = a0.length - i2) ∧ (env = [(0, .lst (a0.map (D.int .i64))), (1, .lst (a1.map (D.int .i64))), (5, .int .i64 (i2 : Int))]) ∧ (σ = []) ∧ (i2 ≤ a0.length) ∧ (qbM kk0 a1 (a0.drop i2) i2 = some res)) _ ⟨0, rfl, rfl, rfl, jc _, hr⟩ ?_)
   rintro n _ _ ⟨i2, rfl, rfl, rfl, hi0, hr⟩ IH0
   rcases zb a0 i2 hi0 with ⟨ht0, hd0, he0⟩ | ⟨q_3, ht0, hd0, hq0, hlt0⟩
   ·
    rw [hd0, qbM] at hr
    refine qe (qe (qg 4 (qa 2 rfl (qz rfl (qa 1 rfl (qb (qk 14 false rfl ht0 (qA rfl (qQ rfl (qm [] rfl ?_))))))))))
    exact HK0 _ _ ⟨rfl, rfl, hr⟩
   ·
    rw [hd0, qbM] at hr
    refine qe (qe (qg 4 (qa 2 rfl (qz rfl (qa 1 rfl (qb (qk 14 true rfl ht0 (qf 5 rfl (qei 9 0 (qa 2 rfl (qN hq0 rfl (qa 3 rfl ?_))))))))))))
    obtain ⟨q_4, h4, hr⟩ := za hr
    refine qN h4 rfl (qa 2 rfl (qb ?_))
    refine zh 25 rfl hr (fun h25_4 hr => ?_) (fun h25_4 hr => ?_)
    ·
     refine qf 3 rfl ?_
     cases hr
     refine qu Tryz.func60 rfl ?_
     rfl
    ·
     refine qf 3 rfl (qg 3 (qa 1 rfl (qaj rfl (qa 1 rfl (qb (qm [0, 1, 5] rfl ?_))))))
     exact IH0 _ _ _ (by omega) ⟨(i2 + 1), rfl, rfl, rfl, (by omega), hr⟩
def qdA (a0 : qE) (a1 : qE) : Option Bool :=
 (bif (a0.f0_Kind == a1.f0_Kind) then
 (bif (a0.f1_Goal == a1.f1_Goal) then
 (bif (a0.f2_Rule == a1.f2_Rule) then
 ((qe6 a0.f3_IDs a1.f3_IDs).bind fun r4 =>
 some (r4))
 else
 some (false))
 else
 some (false))
 else
 some (false))
theorem qi4 (a0 : qE) (a1 : qE) (res : Bool) (hr : qdA a0 a1 = some res) : zf Tryz.prog 26 [qaL a0, qaL a1] (.bool res) := by
 unfold qdA at hr
 refine qY Tryz.func26 rfl fun K hK => (qe (qg 3 (rd rfl (qcK rfl rfl rfl) (rd rfl (qcK rfl rfl rfl) (qa 1 rfl (qb (qe (qg 27 (qa 6 rfl ?_)))))))))
 refine zq 10 rfl hr (fun h10_0 hr => ?_) (fun h10_0 hr => ?_)
 ·
  refine qa 7 rfl ?_
  refine zq 17 rfl hr (fun h17_1 hr => ?_) (fun h17_1 hr => ?_)
  ·
   refine qa 7 rfl ?_
   refine zq 24 rfl hr (fun h24_2 hr => ?_) (fun h24_2 hr => ?_)
   ·
    refine qa 4 rfl ?_
    obtain ⟨r4, h4, hr⟩ := za hr
    refine qs rfl qkH (qk5 _ _ _ h4) (qa 2 rfl (qb ?_))
    cases hr
    refine qu Tryz.func26 rfl ?_
    rfl
   ·
    refine qa 7 rfl (qb ?_)
    cases hr
    refine qu Tryz.func26 rfl ?_
    rfl
  ·
   refine qa 14 rfl (qb ?_)
   cases hr
   refine qu Tryz.func26 rfl ?_
   rfl
 ·
  refine qa 21 rfl (qb ?_)
  cases hr
  refine qu Tryz.func26 rfl ?_
  rfl
def qdw (fuel : Nat) (a0 : List (Int × T)) (a1 : T) (a2 : T) : Option Bool :=
 ((qdu fuel a0).bind fun r1 =>
 (bif r1 then
 ((qjz a1).bind fun r3 =>
 (bif r3 then
 ((qjz a2).bind fun r5 =>
 some (r5))
 else
 some (false)))
 else
 some (false)))
theorem qhn (fuel : Nat) (a0 : List (Int × T)) (a1 : T) (a2 : T) (res : Bool) (hr : qdw fuel a0 a1 a2 = some res) : zf Tryz.prog 124 [.lst (a0.map zo), zi a1, zi a2] (.bool res) := by
 unfold qdw at hr
 refine qY Tryz.func124 rfl fun K hK => (qe (qg 3 (rd rfl (qcK rfl rfl rfl) (rd rfl (qcK rfl rfl rfl) (qa 1 rfl (qb (qe (qg 11 (qa 1 rfl ?_)))))))))
 obtain ⟨r1, h1, hr⟩ := za hr
 refine qs rfl qhk (qho fuel _ _ h1) (qa 1 rfl ?_)
 refine zq 9 rfl hr (fun h9_1 hr => ?_) (fun h9_1 hr => ?_)
 ·
  refine qa 1 rfl ?_
  obtain ⟨r3, h3, hr⟩ := za hr
  refine qs rfl qdt (qdm _ _ h3) (qa 2 rfl ?_)
  refine zq 13 rfl hr (fun h13_3 hr => ?_) (fun h13_3 hr => ?_)
  ·
   refine qa 1 rfl ?_
   obtain ⟨r5, h5, hr⟩ := za hr
   refine qs rfl qdt (qdm _ _ h5) (qa 2 rfl (qb ?_))
   cases hr
   refine qu Tryz.func124 rfl ?_
   rfl
  ·
   refine qa 4 rfl (qb ?_)
   cases hr
   refine qu Tryz.func124 rfl ?_
   rfl
 ·
  refine qa 8 rfl (qb ?_)
  cases hr
  refine qu Tryz.func124 rfl ?_
  rfl
def qbJ (k : List T → List T → Option ((List (Int × T)) × Int)) : List (Int × T) → List T → List T → Option ((List (Int × T)) × Int)
 | [], l4, m5 =>
 (k l4 m5)
 | q_12 :: rest, l4, m5 =>
 ((zN 56 l4 [(T.mk 1 q_12.1 ⟨#[]⟩ [])]).bind fun l13 =>
 ((zN 56 m5 [q_12.2]).bind fun l15 =>
 (qbJ k rest l13 l15)))
def qem (fuel : Nat) (a0 : List (Int × T)) (a1 : T) (a2 : T) : Option ((List (Int × T)) × Int) :=
 (qbJ (fun l8 m10 =>
 ((qaD fuel l8 m10).bind fun r11 =>
 some (r11.1, r11.2))) a0 [a1] [a2])
theorem qk9 (fuel : Nat) (a0 : List (Int × T)) (a1 : T) (a2 : T) (res : (List (Int × T)) × Int) (hr : qem fuel a0 a1 a2 = some res) : zf Tryz.prog 125 [.lst (a0.map zo), zi a1, zi a2] (.tup [.lst (res.1.map zo), .int .i64 res.2]) := by
 unfold qem at hr
 refine qY Tryz.func125 rfl fun K hK => (qe (qg 4 (rd rfl (qcK rfl rfl rfl) (rd rfl (qcK rfl rfl rfl) (qa 2 rfl (qb (qe ?_)))))))
 refine qBT (by kernel_rfl) (by kernel_rfl) [(0, .d), (2, .d)] [(1, .x), (4, .d), (3, .w), (5, .d)] [(3, .x), (1, .w), (4, .d), (5, .d)] (by kernel_rfl) (fun env σ => ∃ (u14_r1_0 : Value) (u12_r1_0 : Value), Sub [(0, .lst (a0.map zo)), (8, .own u12_r1_0 ([a1].map zi)), (9, .own u14_r1_0 ([a2].map zi))] env ∧ σ.Perm [.row u14_r1_0 [a2].length 71 4, .row u12_r1_0 [a1].length 71 4]) ?_ ?_
 ·
  refine qa 2 rfl ?_
  refine qb ⟨?_, ?_⟩
  ·
   refine r_x rfl rfl rfl (qnH (f := zi) [.tmp 11] [a1] rfl qam rfl rfl (by decide) (by decide) (.oc rfl .nil) qcl (fun _ => rfl)) ?_
   rintro _ _ ⟨u12_r1_0, rfl, rfl⟩
   refine qa 1 rfl (ew rfl (qnH (f := zi) [.tmp 13] [a2] rfl qam rfl rfl (by decide) (by decide) (.oc rfl .nil) qcl (fun _ => rfl)) ?_)
   rintro _ _ ⟨u14_r1_0, rfl, rfl⟩
   refine qa 1 rfl (qb ?_)
   exact ⟨u14_r1_0, u12_r1_0, (sbr rfl), (pf0 _)⟩
  ·
   refine r_x rfl rfl rfl (qnH (f := zi) [.tmp 13] [a2] rfl qam rfl rfl (by decide) (by decide) (.oc rfl .nil) qcl (fun _ => rfl)) ?_
   rintro _ _ ⟨u14_r1_0, rfl, rfl⟩
   refine ew rfl (qnH (f := zi) [.tmp 11] [a1] rfl qam rfl rfl (by decide) (by decide) (.oc rfl .nil) qcl (fun _ => rfl)) ?_
   rintro _ _ ⟨u12_r1_0, rfl, rfl⟩
   refine qa 2 rfl (qb ?_)
   exact ⟨u14_r1_0, u12_r1_0, (sbr rfl), (pS [0, 1] _)⟩
 ·
  rintro _ _ ⟨u14_r1_0, u12_r1_0, hs, hp⟩
  refine qoo hs hp (qf 3 rfl ?_)
  obtain ⟨kk0, hkk0, hr⟩ := exK (fun k => qbJ k a0 [a1] [a2]) hr
  refine qcq 0 rfl (asl rfl) fun hla0 => ?_
  simp only [jb] at hla0
  refine qx (fun env σ => ∃ (l8 : List T) (m10 : List T) (u7 : Value) (u9 : Value), env = [(8, .own u7 (l8.map zi)), (9, .own u9 (m10.map zi))] ∧ σ = [.row u7 l8.length 71 4, .row u9 m10.length 71 4] ∧ kk0 l8 m10 = some res) ?_ (fun HK0 => ?_)
  ·
   rintro _ _ ⟨l8, m10, u7, u9, rfl, rfl, hr⟩
   rw [hkk0] at hr
   refine qe (qg 7 (qa 2 rfl ?_))
   obtain ⟨r11, h11, hr⟩ := za hr
   refine rd rfl (qhd rfl qh8 (.cons rfl (Wk.own _ _) (.cons rfl (Wk.own _ _) .nil)) (qhZ fuel _ _ _ h11)) (qa 4 rfl (qb ?_))
   cases hr
   refine qu Tryz.func125 rfl ?_
   rfl
  ·
   refine qm [0, 8, 9, 10] rfl (qcA [_, _] _ (pS [0, 1] _) (q9 (fun n env σ => ∃ (l4 : List T) (m5 : List T) (i6 : Nat) (u2 : Value) (u3 : Value), (n = a0.length - i6) ∧ (env = [(0, .lst (a0.map zo)), (8, .own u2 (l4.map zi)), (9, .own u3 (m5.map zi)), (10, .int .i64 (i6 : Int))]) ∧ (σ = [.row u2 l4.length 71 4, .row u3 m5.length 71 4]) ∧ (i6 ≤ a0.length) ∧ (qbJ kk0 (a0.drop i6) l4 m5 = some res)) _ ⟨[a1], [a2], 0, u12_r1_0, u14_r1_0, rfl, rfl, rfl, jc _, hr⟩ ?_))
   rintro n _ _ ⟨l4, m5, i6, u2, u3, rfl, rfl, rfl, hi0, hr⟩ IH0
   rcases zb a0 i6 hi0 with ⟨ht0, hd0, he0⟩ | ⟨q_12, ht0, hd0, hq0, hlt0⟩
   ·
    rw [hd0, qbJ] at hr
    refine qe (qe (qg 4 (qa 2 rfl (qz rfl (qa 1 rfl (qb (qk 18 false rfl ht0 (qA rfl (qQ rfl (qm [8, 9] rfl ?_))))))))))
    exact HK0 _ _ ⟨l4, m5, u2, u3, rfl, rfl, hr⟩
   ·
    rw [hd0, qbJ] at hr
    refine qe (qe (qg 4 (qa 2 rfl (qz rfl (qa 1 rfl (qb (qk 18 true rfl ht0 (qf 5 rfl (zg 10 65536 (qa 3 rfl (qN hq0 rfl (qa 2 rfl (rd rfl (qbl rfl qeB (.oc rfl (.oc rfl .nil)) (.cons rfl rfl rfl (.cons rfl rfl rfl (.nil _)))) ?_)))))))))))))
    refine rd rfl (qeS (f := zi) [.tmp 27] [(T.mk 1 q_12.1 ⟨#[]⟩ [])] rfl qam rfl rfl (by decide) (by decide) (.cons rfl (Wk.ofEq (by show _ = D.agg (fsT _); rw [qdQ] <;> rfl)) .nil) qcl (fun _ => rfl)) ?_
    obtain ⟨l13, h13, hr⟩ := za hr
    refine ew rfl (qaK (f := zi) l4 [(T.mk 1 q_12.1 ⟨#[]⟩ [])] rfl qam rfl rfl (asl rfl) (pf0 _) rfl qcl h13) ?_
    rintro _ _ ⟨u29_13, rfl, rfl⟩
    refine qa 1 rfl (qb (zg 9 16384 (qa 3 rfl (qN hq0 rfl (qa 2 rfl (rd rfl (qeS (f := zi) [.tmp 35] [q_12.2] rfl qam rfl rfl (by decide) (by decide) (.oc rfl .nil) qcl (fun _ => rfl)) ?_))))))
    obtain ⟨l15, h15, hr⟩ := za hr
    refine ew rfl (qaK (f := zi) m5 [q_12.2] rfl qam rfl rfl (asl rfl) (pf1 _ _ _) rfl qcl h15) ?_
    rintro _ _ ⟨u37_15, rfl, rfl⟩
    refine qa 1 rfl (qb (qaa (qg 3 (qa 1 rfl (qaj rfl (qa 1 rfl (qb (qm [0, 8, 9, 10] rfl (qcA [_, _] _ (pS [0, 1] _) ?_)))))))))
    exact IH0 _ _ _ (by omega) ⟨l13, l15, (i6 + 1), u29_13, u37_15, rfl, rfl, rfl, (by omega), hr⟩
def qaY (k : List Int → Option (List Int)) (a0 : List (Int × T)) : List (Int × T) → List Int → Option (List Int)
 | [], o4 =>
 (k o4)
 | q_8 :: rest, o4 =>
 ((qcG a0 q_8.1).bind fun r9 =>
 (bif (!r9.2) then
 ((zN 8 o4 [q_8.1]).bind fun l12 =>
 (qaY k a0 rest l12))
 else
 (qaY k a0 rest o4)))
def qdo (a0 : List (Int × T)) (a1 : List (Int × T)) : Option (List Int) :=
 (qaY (fun o7 =>
 some (o7)) a0 a1 [])
theorem qkv (a0 : List (Int × T)) (a1 : List (Int × T)) (res : List Int) (hr : qdo a0 a1 = some res) : zf Tryz.prog 126 [.lst (a0.map zo), .lst (a1.map zo)] (.lst (res.map (D.int .i64))) := by
 unfold qdo at hr
 refine qY Tryz.func126 rfl fun K hK => (qe (zg 1 1 (ew rfl (qab 3 1 (.inl rfl)) ?_)))
 rintro _ _ ⟨u4_0, rfl, rfl⟩
 refine qb (qe (zg 1 1 (ew rfl (qab 3 1 (.inl rfl)) ?_)))
 rintro _ _ ⟨u5_1, rfl, rfl⟩
 refine qb (qf 3 rfl ?_)
 obtain ⟨kk0, hkk0, hr⟩ := exK (fun k => qaY k a0 a1 []) hr
 refine qcq 1 rfl (asl rfl) fun hla0 => ?_
 simp only [jb] at hla0
 refine qx (fun env σ => ∃ (o7 : List Int) (u6 : Value), env = [(5, .own u6 (o7.map (D.int .i64)))] ∧ σ = [.row u6 o7.length 3 1] ∧ kk0 o7 = some res) ?_ (fun HK0 => ?_)
 ·
  rintro _ _ ⟨o7, u6, rfl, rfl, hr⟩
  rw [hkk0] at hr
  refine qf 2 rfl ?_
  cases hr
  refine qbQ Tryz.func126 _ (.cons (zd rfl (Wk.own _ _)) .nil) ?_
  rfl
 ·
  refine qm [0, 1, 5, 6] rfl (qcA [_] _ (pf0 _) (q9 (fun n env σ => ∃ (o4 : List Int) (i5 : Nat) (u3 : Value), (n = a1.length - i5) ∧ (env = [(0, .lst (a0.map zo)), (1, .lst (a1.map zo)), (5, .own u3 (o4.map (D.int .i64))), (6, .int .i64 (i5 : Int))]) ∧ (σ = [.row u3 o4.length 3 1]) ∧ (i5 ≤ a1.length) ∧ (qaY kk0 a0 (a1.drop i5) o4 = some res)) _ ⟨[], 0, u5_1, rfl, rfl, rfl, jc _, hr⟩ ?_))
  rintro n _ _ ⟨o4, i5, u3, rfl, rfl, rfl, hi0, hr⟩ IH0
  rcases zb a1 i5 hi0 with ⟨ht0, hd0, he0⟩ | ⟨q_8, ht0, hd0, hq0, hlt0⟩
  ·
   rw [hd0, qaY] at hr
   refine qe (qe (qg 4 (qa 2 rfl (qz rfl (qa 1 rfl (qb (qk 12 false rfl ht0 (qA rfl (qQ rfl (qm [5] rfl ?_))))))))))
   exact HK0 _ _ ⟨o4, u3, rfl, rfl, hr⟩
  ·
   rw [hd0, qaY] at hr
   refine qe (qe (qg 4 (qa 2 rfl (qz rfl (qa 1 rfl (qb (qk 12 true rfl ht0 (qf 5 rfl (zg 13 5242880 (qa 3 rfl (qN hq0 rfl (qa 2 rfl ?_))))))))))))
   obtain ⟨r9, h9, hr⟩ := za hr
   refine qs rfl qeJ (qeD _ _ _ h9) (qa 3 rfl (ew rfl (qaJ rfl qc0) ?_))
   rintro _ _ ⟨b7_9, rfl, rfl⟩
   refine qcr rfl (pf0 _) (qa 1 rfl (qb (qaR 7 b7_9 rfl (pf0 _) (qf 2 rfl ?_))))
   refine zh 26 rfl hr (fun h26_10 hr => ?_) (fun h26_10 hr => ?_)
   ·
    refine qO rfl (zg 9 16384 (qa 3 rfl (qN hq0 rfl (qa 2 rfl (rd rfl (qeS (f := (D.int .i64)) [.tmp 32] [q_8.1] rfl qc7 rfl rfl (by decide) (by decide) (.oc rfl .nil) (fun _ => rfl) (fun _ => rfl)) ?_)))))
    obtain ⟨l12, h12, hr⟩ := za hr
    refine ew rfl (qaK (f := (D.int .i64)) o4 [q_8.1] rfl qc7 rfl rfl (asl rfl) (pf0 _) rfl (fun _ => rfl) h12) ?_
    rintro _ _ ⟨u34_12, rfl, rfl⟩
    refine qa 1 rfl (qb (qaa (qg 3 (qa 1 rfl (qaj rfl (qa 1 rfl (qb (qm [0, 1, 5, 6] rfl ?_))))))))
    exact IH0 _ _ _ (by omega) ⟨l12, (i5 + 1), u34_12, rfl, rfl, rfl, (by omega), hr⟩
   ·
    refine qf 3 rfl (qg 3 (qa 1 rfl (qaj rfl (qa 1 rfl (qb (qm [0, 1, 5, 6] rfl ?_))))))
    exact IH0 _ _ _ (by omega) ⟨o4, (i5 + 1), u3, rfl, rfl, rfl, (by omega), hr⟩
def qcF (fuel : Nat) (a0 : List (Int × T)) (a1 : T) (a2 : T) : Option ((List (Int × T)) × (List Int) × Int) :=
 ((qdw fuel a0 a1 a2).bind fun r1 =>
 (bif (!r1) then
 some ([], [], 2)
 else
 ((qem fuel a0 a1 a2).bind fun r3 =>
 (bif (r3.2 != (0 : Int)) then
 some ([], [], r3.2)
 else
 ((qdo a0 r3.1).bind fun r5 =>
 some (r3.1, r5, 0))))))
theorem qhT (fuel : Nat) (a0 : List (Int × T)) (a1 : T) (a2 : T) (res : (List (Int × T)) × (List Int) × Int) (hr : qcF fuel a0 a1 a2 = some res) : zf Tryz.prog 94 [.lst (a0.map zo), zi a1, zi a2] (.tup [.lst (res.1.map zo), .lst (res.2.1.map (D.int .i64)), .int .i64 res.2.2]) := by
 unfold qcF at hr
 refine qY Tryz.func94 rfl fun K hK => (qe (qg 5 (rd rfl (qcK rfl rfl rfl) (rd rfl (qcK rfl rfl rfl) (qa 3 rfl (qb (qe (qe (qg 5 (qa 3 rfl ?_))))))))))
 obtain ⟨r1, h1, hr⟩ := za hr
 refine qs rfl qhq (qhn fuel _ _ _ _ h1) (qa 1 rfl (qb ?_))
 refine zh 15 rfl hr (fun h15_1 hr => ?_) (fun h15_1 hr => ?_)
 ·
  refine qf 3 rfl ?_
  cases hr
  refine qbQ Tryz.func94 _ (.cons (zd rfl (Wk.full _)) (.cons (zd rfl (Wk.full _)) (.cons (zd rfl (Wk.refl _)) .nil))) ?_
  rfl
 ·
  refine qf 3 rfl (qg 9 (qa 3 rfl ?_))
  obtain ⟨r3, h3, hr⟩ := za hr
  refine qs rfl qkZ (qk9 fuel _ _ _ _ h3) (qa 5 rfl (qb (qf 3 rfl ?_)))
  refine zh 24 rfl hr (fun h24_3 hr => ?_) (fun h24_3 hr => ?_)
  ·
   refine qf 3 rfl ?_
   cases hr
   refine qbQ Tryz.func94 _ (.cons (zd rfl (Wk.full _)) (.cons (zd rfl (Wk.full _)) (.cons (zd rfl (Wk.refl _)) .nil))) ?_
   rfl
  ·
   refine qf 3 rfl (qg 7 (qa 3 rfl ?_))
   obtain ⟨r5, h5, hr⟩ := za hr
   refine qs rfl qjZ (qkv _ _ _ h5) (qa 3 rfl (qb ?_))
   cases hr
   refine qu Tryz.func94 rfl ?_
   rfl
def qdS (fuel : Nat) (a0 : List (Int × T)) (a1 : T) (a2 : T) : Option ((List (Int × T)) × (List Int) × Int) :=
 ((qdw fuel a0 a1 a2).bind fun r1 =>
 (bif (!r1) then
 some ([], [], 2)
 else
 ((qfL fuel a0 a2).bind fun r3 =>
 ((qcC fuel r3).bind fun r4 =>
 (bif (r4.2 != (0 : Int)) then
 some ([], [], r4.2)
 else
 ((qcF fuel a0 a1 (T.mk 0 r4.1 ⟨#[]⟩ [])).bind fun r6 =>
 some (r6.1, r6.2.1, r6.2.2)))))))
theorem qjR (fuel : Nat) (a0 : List (Int × T)) (a1 : T) (a2 : T) (res : (List (Int × T)) × (List Int) × Int) (hr : qdS fuel a0 a1 a2 = some res) : zf Tryz.prog 95 [.lst (a0.map zo), zi a1, zi a2] (.tup [.lst (res.1.map zo), .lst (res.2.1.map (D.int .i64)), .int .i64 res.2.2]) := by
 unfold qdS at hr
 refine qY Tryz.func95 rfl fun K hK => (qe (qg 5 (rd rfl (qcK rfl rfl rfl) (rd rfl (qcK rfl rfl rfl) (qa 3 rfl (qb (qe (qe (qg 5 (qa 3 rfl ?_))))))))))
 obtain ⟨r1, h1, hr⟩ := za hr
 refine qs rfl qhq (qhn fuel _ _ _ _ h1) (qa 1 rfl (qb ?_))
 refine zh 15 rfl hr (fun h15_1 hr => ?_) (fun h15_1 hr => ?_)
 ·
  refine qf 3 rfl ?_
  cases hr
  refine qbQ Tryz.func95 _ (.cons (zd rfl (Wk.full _)) (.cons (zd rfl (Wk.full _)) (.cons (zd rfl (Wk.refl _)) .nil))) ?_
  rfl
 ·
  refine qf 3 rfl (qg 9 (qa 2 rfl ?_))
  obtain ⟨r3, h3, hr⟩ := za hr
  refine qs rfl qhs (qkx fuel _ _ _ h3) ?_
  obtain ⟨r4, h4, hr⟩ := za hr
  refine qs rfl qel (qe3 fuel _ _ h4) (qa 5 rfl (qb (qf 3 rfl ?_)))
  refine zh 24 rfl hr (fun h24_4 hr => ?_) (fun h24_4 hr => ?_)
  ·
   refine qf 3 rfl ?_
   cases hr
   refine qbQ Tryz.func95 _ (.cons (zd rfl (Wk.full _)) (.cons (zd rfl (Wk.full _)) (.cons (zd rfl (Wk.refl _)) .nil))) ?_
   rfl
  ·
   refine qf 3 rfl (qg 11 (qa 3 rfl (rd rfl (qbl rfl qeB (.oc rfl .nil) (.cons rfl rfl rfl (.nil _))) ?_)))
   obtain ⟨r6, h6, hr⟩ := za hr
   refine qs rfl qhQ (qhT fuel _ _ _ _ h6) (qa 6 rfl (qb ?_))
   cases hr
   refine qu Tryz.func95 rfl ?_
   rfl
def qd9 (fuel : Nat) (a0 : List (Int × T)) (a1 : Gl) : Option ((List (Int × T)) × (List Int) × Int) :=
 (bif (a1.op == (1 : Int)) then
 some (a0, [], 0)
 else
 (bif (a1.op == (2 : Int)) then
 some ([], [], 13)
 else
 (bif (a1.op == (3 : Int)) then
 ((zj a1.ts 0).bind fun q_4 =>
 ((zj a1.ts 1).bind fun q_5 =>
 ((qcF fuel a0 q_4 q_5).bind fun r6 =>
 some (r6.1, r6.2.1, r6.2.2))))
 else
 ((zj a1.ts 0).bind fun q_7 =>
 ((zj a1.ts 1).bind fun q_8 =>
 ((qdS fuel a0 q_7 q_8).bind fun r9 =>
 (bif (r9.2.2 == (0 : Int)) then
 some (r9.1, r9.2.1, r9.2.2)
 else
 (bif (r9.2.2 == (6 : Int)) then
 some (r9.1, r9.2.1, r9.2.2)
 else
 some ([], [], 13)))))))))
theorem qkj (fuel : Nat) (a0 : List (Int × T)) (a1 : Gl) (res : (List (Int × T)) × (List Int) × Int) (hr : qd9 fuel a0 a1 = some res) : zf Tryz.prog 61 [.lst (a0.map zo), zA a1] (.tup [.lst (res.1.map zo), .lst (res.2.1.map (D.int .i64)), .int .i64 res.2.2]) := by
 unfold qd9 at hr
 refine qY Tryz.func61 rfl fun K hK => (qe (qg 4 (rd rfl (qcK rfl rfl rfl) (qa 3 rfl (qb (qf 3 rfl ?_))))))
 refine zh 12 rfl hr (fun h12_0 hr => ?_) (fun h12_0 hr => ?_)
 ·
  refine qf 3 rfl ?_
  cases hr
  refine qbQ Tryz.func61 _ (.cons (zd rfl (Wk.refl _)) (.cons (zd rfl (Wk.full _)) (.cons (zd rfl (Wk.refl _)) .nil))) ?_
  rfl
 ·
  refine qf 5 rfl ?_
  refine zh 16 rfl hr (fun h16_1 hr => ?_) (fun h16_1 hr => ?_)
  ·
   refine qf 3 rfl ?_
   cases hr
   refine qbQ Tryz.func61 _ (.cons (zd rfl (Wk.full _)) (.cons (zd rfl (Wk.full _)) (.cons (zd rfl (Wk.refl _)) .nil))) ?_
   rfl
  ·
   refine qf 5 rfl ?_
   refine zh 19 rfl hr (fun h19_2 hr => ?_) (fun h19_2 hr => ?_)
   ·
    refine qO rfl (qe (qei 16 0 (qa 3 rfl ?_)))
    obtain ⟨q_4, h4, hr⟩ := za hr
    refine qN h4 rfl (qa 3 rfl ?_)
    obtain ⟨q_5, h5, hr⟩ := za hr
    refine qN h5 rfl (qa 1 rfl ?_)
    obtain ⟨r6, h6, hr⟩ := za hr
    refine qs rfl qhQ (qhT fuel _ _ _ _ h6) (qa 6 rfl (qb ?_))
    cases hr
    refine qu Tryz.func61 rfl ?_
    rfl
   ·
    refine qf 3 rfl (qei 17 0 (qa 3 rfl ?_))
    obtain ⟨q_7, h7, hr⟩ := za hr
    refine qN h7 rfl (qa 3 rfl ?_)
    obtain ⟨q_8, h8, hr⟩ := za hr
    refine qN h8 rfl (qa 1 rfl ?_)
    obtain ⟨r9, h9, hr⟩ := za hr
    refine qs rfl qjE (qjR fuel _ _ _ _ h9) (qa 7 rfl (qb (qe (qe (qg 6 (qa 3 rfl ?_))))))
    refine zq 49 rfl hr (fun h49_9 hr => ?_) (fun h49_9 hr => ?_)
    ·
     refine qa 3 rfl (qb (qf 3 rfl ?_))
     cases hr
     refine qu Tryz.func61 rfl ?_
     rfl
    ·
     refine qa 3 rfl (qb ?_)
     refine zh 52 rfl hr (fun h52_10 hr => ?_) (fun h52_10 hr => ?_)
     ·
      refine qf 3 rfl ?_
      cases hr
      refine qu Tryz.func61 rfl ?_
      rfl
     ·
      refine qf 4 rfl ?_
      cases hr
      refine qbQ Tryz.func61 _ (.cons (zd rfl (Wk.full _)) (.cons (zd rfl (Wk.full _)) (.cons (zd rfl (Wk.refl _)) .nil))) ?_
      rfl
def qax (k : List Gl → Option (List Gl)) (a1 : Int) : List Gl → List Gl → Nat → Option (List Gl)
 | [], o4, i5 =>
 (k o4)
 | q_8 :: rest, o4, i5 =>
 (bif ((i5 : Int) != a1) then
 ((zN 48 o4 [q_8]).bind fun l10 =>
 (qax k a1 rest l10 (i5 + 1)))
 else
 (qax k a1 rest o4 (i5 + 1)))
def qdL (a0 : List Gl) (a1 : Int) : Option (List Gl) :=
 (qax (fun o7 =>
 some (o7)) a1 a0 [] 0)
theorem qgJ (a0 : List Gl) (a1 : Int) (res : List Gl) (hr : qdL a0 a1 = some res) : zf Tryz.prog 30 [.lst (a0.map zA), .int .i64 a1] (.lst (res.map zA)) := by
 unfold qdL at hr
 refine qY Tryz.func30 rfl fun K hK => (qe (zg 1 1 (ew rfl (qab 41 3 (.inl rfl)) ?_)))
 rintro _ _ ⟨u4_0, rfl, rfl⟩
 refine qb (qe (zg 1 1 (ew rfl (qab 41 3 (.inl rfl)) ?_)))
 rintro _ _ ⟨u5_1, rfl, rfl⟩
 refine qb (qf 3 rfl ?_)
 obtain ⟨kk0, hkk0, hr⟩ := exK (fun k => qax k a1 a0 [] 0) hr
 refine qcq 0 rfl (asl rfl) fun hla0 => ?_
 simp only [jb] at hla0
 refine qx (fun env σ => ∃ (o7 : List Gl) (u6 : Value), env = [(5, .own u6 (o7.map zA))] ∧ σ = [.row u6 o7.length 41 3] ∧ kk0 o7 = some res) ?_ (fun HK0 => ?_)
 ·
  rintro _ _ ⟨o7, u6, rfl, rfl, hr⟩
  rw [hkk0] at hr
  refine qf 2 rfl ?_
  cases hr
  refine qbQ Tryz.func30 _ (.cons (zd rfl (Wk.own _ _)) .nil) ?_
  rfl
 ·
  refine qm [0, 1, 5, 6] rfl (qcA [_] _ (pf0 _) (q9 (fun n env σ => ∃ (o4 : List Gl) (i5 : Nat) (u3 : Value), (n = a0.length - i5) ∧ (env = [(0, .lst (a0.map zA)), (1, .int .i64 a1), (5, .own u3 (o4.map zA)), (6, .int .i64 (i5 : Int))]) ∧ (σ = [.row u3 o4.length 41 3]) ∧ (i5 ≤ a0.length) ∧ (qax kk0 a1 (a0.drop i5) o4 i5 = some res)) _ ⟨[], 0, u5_1, rfl, rfl, rfl, jc _, hr⟩ ?_))
  rintro n _ _ ⟨o4, i5, u3, rfl, rfl, rfl, hi0, hr⟩ IH0
  rcases zb a0 i5 hi0 with ⟨ht0, hd0, he0⟩ | ⟨q_8, ht0, hd0, hq0, hlt0⟩
  ·
   rw [hd0, qax] at hr
   refine qe (qe (qg 4 (qa 2 rfl (qz rfl (qa 1 rfl (qb (qk 10 false rfl ht0 (qA rfl (qQ rfl (qm [5] rfl ?_))))))))))
   exact HK0 _ _ ⟨o4, u3, rfl, rfl, hr⟩
  ·
   rw [hd0, qax] at hr
   refine qe (qe (qg 4 (qa 2 rfl (qz rfl (qa 1 rfl (qb (qk 10 true rfl ht0 (qf 6 rfl ?_))))))))
   refine zh 15 rfl hr (fun h15_8 hr => ?_) (fun h15_8 hr => ?_)
   ·
    refine qO rfl (zg 8 4096 (qa 3 rfl (qN hq0 rfl (qa 1 rfl (rd rfl (qeS (f := zA) [.tmp 20] [q_8] rfl qc3 rfl rfl (by decide) (by decide) (.oc rfl .nil) qgW (fun _ => rfl)) ?_)))))
    obtain ⟨l10, h10, hr⟩ := za hr
    refine ew rfl (qaK (f := zA) o4 [q_8] rfl qc3 rfl rfl (asl rfl) (pf0 _) rfl qgW h10) ?_
    rintro _ _ ⟨u22_10, rfl, rfl⟩
    refine qa 1 rfl (qb (qaa (qg 3 (qa 1 rfl (qaj rfl (qa 1 rfl (qb (qm [0, 1, 5, 6] rfl ?_))))))))
    exact IH0 _ _ _ (by omega) ⟨l10, (i5 + 1), u22_10, rfl, rfl, rfl, (by omega), hr⟩
   ·
    refine qf 3 rfl (qg 3 (qa 1 rfl (qaj rfl (qa 1 rfl (qb (qm [0, 1, 5, 6] rfl ?_))))))
    exact IH0 _ _ _ (by omega) ⟨o4, (i5 + 1), u3, rfl, rfl, rfl, (by omega), hr⟩
def qbC (k : List Gl → Option ((List Gl) × Bool)) (a0 : List (Int × T)) (fuel : Nat) : List Gl → List Gl → Option ((List Gl) × Bool)
 | [], o4 =>
 (k o4)
 | q_8 :: rest, o4 =>
 ((qch fuel a0 q_8).bind fun r9 =>
 ((qiQ r9).bind fun r11 =>
 (bif (!r11) then
 some ([], false)
 else
 ((zN 48 o4 [r9]).bind fun l14 =>
 (qbC k a0 fuel rest l14)))))
def qdp (fuel : Nat) (a0 : List (Int × T)) (a1 : List Gl) : Option ((List Gl) × Bool) :=
 (qbC (fun o7 =>
 some (o7, true)) a0 fuel a1 [])
theorem qhp (fuel : Nat) (a0 : List (Int × T)) (a1 : List Gl) (res : (List Gl) × Bool) (hr : qdp fuel a0 a1 = some res) : zf Tryz.prog 62 [.lst (a0.map zo), .lst (a1.map zA)] (.tup [.lst (res.1.map zA), .bool res.2]) := by
 unfold qdp at hr
 refine qY Tryz.func62 rfl fun K hK => (qe (zg 2 1 (ew rfl (qab 41 3 (.inl rfl)) ?_)))
 rintro _ _ ⟨u4_0, rfl, rfl⟩
 refine qa 1 rfl (qb (qe (zg 1 1 (ew rfl (qab 41 3 (.inl rfl)) ?_))))
 rintro _ _ ⟨u6_1, rfl, rfl⟩
 refine qb (qf 3 rfl ?_)
 obtain ⟨kk0, hkk0, hr⟩ := exK (fun k => qbC k a0 fuel a1 []) hr
 refine qcq 1 rfl (asl rfl) fun hla0 => ?_
 simp only [jb] at hla0
 refine qx (fun env σ => ∃ (o7 : List Gl) (u6 : Value), env = [(6, .own u6 (o7.map zA))] ∧ σ = [.row u6 o7.length 41 3] ∧ kk0 o7 = some res) ?_ (fun HK0 => ?_)
 ·
  rintro _ _ ⟨o7, u6, rfl, rfl, hr⟩
  rw [hkk0] at hr
  refine qf 2 rfl ?_
  cases hr
  refine qbQ Tryz.func62 _ (.cons (zd rfl (Wk.own _ _)) (.cons (zd rfl (Wk.refl _)) .nil)) ?_
  rfl
 ·
  refine qm [0, 1, 6, 7] rfl (qcA [_] _ (pf0 _) (q9 (fun n env σ => ∃ (o4 : List Gl) (i5 : Nat) (u3 : Value), (n = a1.length - i5) ∧ (env = [(0, .lst (a0.map zo)), (1, .lst (a1.map zA)), (6, .own u3 (o4.map zA)), (7, .int .i64 (i5 : Int))]) ∧ (σ = [.row u3 o4.length 41 3]) ∧ (i5 ≤ a1.length) ∧ (qbC kk0 a0 fuel (a1.drop i5) o4 = some res)) _ ⟨[], 0, u6_1, rfl, rfl, rfl, jc _, hr⟩ ?_))
  rintro n _ _ ⟨o4, i5, u3, rfl, rfl, rfl, hi0, hr⟩ IH0
  rcases zb a1 i5 hi0 with ⟨ht0, hd0, he0⟩ | ⟨q_8, ht0, hd0, hq0, hlt0⟩
  ·
   rw [hd0, qbC] at hr
   refine qe (qe (qg 4 (qa 2 rfl (qz rfl (qa 1 rfl (qb (qk 12 false rfl ht0 (qA rfl (qQ rfl (qm [6] rfl ?_))))))))))
   exact HK0 _ _ ⟨o4, u3, rfl, rfl, hr⟩
  ·
   rw [hd0, qbC] at hr
   refine qe (qe (qg 4 (qa 2 rfl (qz rfl (qa 1 rfl (qb (qk 12 true rfl ht0 (qf 5 rfl (zg 8 20480 (qa 3 rfl (qN hq0 rfl (qa 1 rfl ?_))))))))))))
   obtain ⟨r9, h9, hr⟩ := za hr
   refine qs rfl qe2 (qe5 fuel _ _ _ h9) (ew rfl (qaJ rfl qgo) ?_)
   rintro _ _ ⟨b8_9, rfl, rfl⟩
   refine qcr rfl (pf0 _) (qb (qaR 8 b8_9 rfl (pf0 _) (qe (qe (qg 3 (qa 1 rfl ?_))))))
   obtain ⟨r11, h11, hr⟩ := za hr
   refine qs rfl qci (qcd _ _ h11) (qa 1 rfl (qb ?_))
   refine zh 23 rfl hr (fun h23_11 hr => ?_) (fun h23_11 hr => ?_)
   ·
    refine qO rfl (qe (zg 2 1 (ew rfl (qab 41 3 (.inl rfl)) ?_)))
    rintro _ _ ⟨u4_12, rfl, rfl⟩
    refine qa 1 rfl (qb ?_)
    cases hr
    refine qbQ Tryz.func62 _ (.cons (zd rfl (Wk.own _ _)) (.cons (zd rfl (Wk.refl _)) .nil)) ?_
    rfl
   ·
    refine qA rfl (ql1 (zg 5 64 (qa 2 rfl (rd rfl (qeS (f := zA) [.tmp 25] [r9] rfl qc3 rfl rfl (by decide) (by decide) (.oc rfl .nil) qgW (fun _ => rfl)) ?_))))
    obtain ⟨l14, h14, hr⟩ := za hr
    refine ew rfl (qaK (f := zA) o4 [r9] rfl qc3 rfl rfl (asl rfl) (pf0 _) rfl qgW h14) ?_
    rintro _ _ ⟨u27_14, rfl, rfl⟩
    refine qa 1 rfl (qb (qaa (qg 3 (qa 1 rfl (qaj rfl (qa 1 rfl (qb (qm [0, 1, 6, 7] rfl ?_))))))))
    exact IH0 _ _ _ (by omega) ⟨l14, (i5 + 1), u27_14, rfl, rfl, rfl, (by omega), hr⟩
def qdg (fuel : Nat) (a0 : List (Int × T)) (a1 : At) : Option At :=
 ((qa5 fuel a0 a1.ts).bind fun r2 =>
 some ((⟨a1.n, r2⟩ : At)))
theorem qiN (fuel : Nat) (a0 : List (Int × T)) (a1 : At) (res : At) (hr : qdg fuel a0 a1 = some res) : zf Tryz.prog 97 [.lst (a0.map zo), zX a1] (zX res) := by
 unfold qdg at hr
 refine qY Tryz.func97 rfl fun K hK => (qe (zg 2 4 (rd rfl (qcK rfl rfl rfl) (ew rfl (qaJ rfl qe9) ?_))))
 rintro _ _ ⟨b4_0, rfl, rfl⟩
 refine qb (qe (qei 8 16384 (qa 5 rfl ?_)))
 obtain ⟨r2, h2, hr⟩ := za hr
 refine qs rfl qeZ (qdW fuel _ _ _ h2) (rd rfl (qbl rfl qfw (.oc rfl (.oc rfl .nil)) (.cons rfl rfl rfl (.cons rfl rfl rfl (.nil _)))) (qcr rfl (pf0 _) (qb ?_)))
 cases hr
 refine qbQ Tryz.func97 _ (.cons (zy rfl (.head _) (by exact qlg) rfl (Wk.refl _)) .nil) ?_
 rfl
def qby (k : ((List (Int × At))) → Option ((List (Int × At)))) (a1 : List (Int × T)) (fuel : Nat) : List (Int × At) → (List (Int × At)) → Option ((List (Int × At)))
 | [], o4 =>
 (k o4)
 | q_8 :: rest, o4 =>
 ((qdg fuel a1 q_8.2).bind fun r9 =>
 ((zN 48 o4 [(q_8.1, r9)]).bind fun l10 =>
 (qby k a1 fuel rest l10)))
def qd6 (fuel : Nat) (a0 : List (Int × At)) (a1 : List (Int × T)) : Option ((List (Int × At))) :=
 (qby (fun o7 =>
 some (o7)) a1 fuel a0 [])
theorem qks (fuel : Nat) (a0 : List (Int × At)) (a1 : List (Int × T)) (res : List (Int × At)) (hr : qd6 fuel a0 a1 = some res) : zf Tryz.prog 63 [.lst (a0.map zr), .lst (a1.map zo)] (.lst (res.map zr)) := by
 unfold qd6 at hr
 refine qY Tryz.func63 rfl fun K hK => (qe (zg 1 1 (ew rfl (qab 85 3 (.inl rfl)) ?_)))
 rintro _ _ ⟨u4_0, rfl, rfl⟩
 refine qb (qe (zg 1 1 (ew rfl (qab 85 3 (.inl rfl)) ?_)))
 rintro _ _ ⟨u5_1, rfl, rfl⟩
 refine qb (qf 3 rfl ?_)
 obtain ⟨kk0, hkk0, hr⟩ := exK (fun k => qby k a1 fuel a0 []) hr
 refine qcq 0 rfl (asl rfl) fun hla0 => ?_
 simp only [jb] at hla0
 refine qx (fun env σ => ∃ (o7 : List (Int × At)) (u6 : Value), env = [(5, .own u6 (o7.map zr))] ∧ σ = [.row u6 o7.length 85 3] ∧ kk0 o7 = some res) ?_ (fun HK0 => ?_)
 ·
  rintro _ _ ⟨o7, u6, rfl, rfl, hr⟩
  rw [hkk0] at hr
  refine qf 2 rfl ?_
  cases hr
  refine qbQ Tryz.func63 _ (.cons (zd rfl (Wk.own _ _)) .nil) ?_
  rfl
 ·
  refine qm [0, 1, 5, 6] rfl (qcA [_] _ (pf0 _) (q9 (fun n env σ => ∃ (o4 : List (Int × At)) (i5 : Nat) (u3 : Value), (n = a0.length - i5) ∧ (env = [(0, .lst (a0.map zr)), (1, .lst (a1.map zo)), (5, .own u3 (o4.map zr)), (6, .int .i64 (i5 : Int))]) ∧ (σ = [.row u3 o4.length 85 3]) ∧ (i5 ≤ a0.length) ∧ (qby kk0 a1 fuel (a0.drop i5) o4 = some res)) _ ⟨[], 0, u5_1, rfl, rfl, rfl, jc _, hr⟩ ?_))
  rintro n _ _ ⟨o4, i5, u3, rfl, rfl, rfl, hi0, hr⟩ IH0
  rcases zb a0 i5 hi0 with ⟨ht0, hd0, he0⟩ | ⟨q_8, ht0, hd0, hq0, hlt0⟩
  ·
   rw [hd0, qby] at hr
   refine qe (qe (qg 4 (qa 2 rfl (qz rfl (qa 1 rfl (qb (qk 10 false rfl ht0 (qA rfl (qQ rfl (qm [5] rfl ?_))))))))))
   exact HK0 _ _ ⟨o4, u3, rfl, rfl, hr⟩
  ·
   rw [hd0, qby] at hr
   refine qe (qe (qg 4 (qa 2 rfl (qz rfl (qa 1 rfl (qb (qk 10 true rfl ht0 (qf 4 rfl (qei 17 1073741824 (qa 3 rfl (qN hq0 rfl (qa 5 rfl (qN hq0 rfl ?_)))))))))))))
   refine qa 2 rfl ?_
   obtain ⟨r9, h9, hr⟩ := za hr
   refine qs rfl qiP (qiN fuel _ _ _ h9) (rd rfl (qbl rfl qoq (.oc rfl (.oc rfl .nil)) (.cons rfl rfl rfl (.cons rfl (qhY _) rfl (.nil _)))) (rd rfl (qeS (f := zr) [.tmp 26] [(q_8.1, r9)] rfl qdJ rfl rfl (by decide) (by decide) (.oc rfl .nil) qf2 (fun _ => rfl)) ?_))
   obtain ⟨l10, h10, hr⟩ := za hr
   refine ew rfl (qaK (f := zr) o4 [(q_8.1, r9)] rfl qdJ rfl rfl (asl rfl) (pf0 _) rfl qf2 h10) ?_
   rintro _ _ ⟨u28_10, rfl, rfl⟩
   refine qa 1 rfl (qb (qaa (qg 3 (qa 1 rfl (qaj rfl (qa 1 rfl (qb (qm [0, 1, 5, 6] rfl ?_))))))))
   exact IH0 _ _ _ (by omega) ⟨l10, (i5 + 1), u28_10, rfl, rfl, rfl, (by omega), hr⟩
def qed (fuel : Nat) (a0 : qw) (a1 : Int) : Option (qw × Int) :=
 ((zj a0.f0_Goals a1).bind fun q_3 =>
 ((qd9 fuel a0.f2_Binds q_3).bind fun r4 =>
 (bif (r4.2.2 == (6 : Int)) then
 some ((⟨[], [], [], [], [], 0, 0, false⟩ : qw), 6)
 else
 ((qdL a0.f0_Goals a1).bind fun r6 =>
 (bif (r4.2.2 != (0 : Int)) then
 some ((⟨r6, a0.f1_Store, a0.f2_Binds, a0.f3_Fired, a0.f4_Known, a0.f5_Next, a0.f6_Fresh, true⟩ : qw), 0)
 else
 ((qdp fuel r4.1 r6).bind fun r8 =>
 ((qdp fuel r4.1 a0.f4_Known).bind fun r9 =>
 ((qd6 fuel a0.f1_Store r4.1).bind fun r10 =>
 (bif (!r8.2) then
 some ((⟨[], [], [], [], [], 0, 0, false⟩ : qw), 6)
 else
 (bif (!r9.2) then
 some ((⟨[], [], [], [], [], 0, 0, false⟩ : qw), 6)
 else
 ((qcQ r10).bind fun r13 =>
 (bif (!r13) then
 some ((⟨[], [], [], [], [], 0, 0, false⟩ : qw), 6)
 else
 some ((⟨r8.1, r10, r4.1, a0.f3_Fired, r9.1, a0.f5_Next, a0.f6_Fresh, a0.f7_Failed⟩ : qw), 0)))))))))))))
theorem qj2 (fuel : Nat) (a0 : qw) (a1 : Int) (res : qw × Int) (hr : qed fuel a0 a1 = some res) : zf Tryz.prog 27 [qJ a0, .int .i64 a1] (.tup [qJ res.1, .int .i64 res.2]) := by
 unfold qed at hr
 refine qY Tryz.func27 rfl fun K hK => (qe (zg 3 5 (ew rfl (qmD rfl rfl rfl) ?_)))
 rintro _ _ ⟨b2_0, rfl, rfl⟩
 refine ew rfl (qaJ rfl qjy) ?_
 rintro _ _ ⟨b4_1, rfl, rfl⟩
 refine qa 1 rfl (qb (qe (qei 15 136 (rd rfl (qr rfl qim rfl) (qcD 1 rfl (rd rfl (qr rfl qdD rfl) (qcD 1 rfl (qa 1 rfl ?_))))))))
 obtain ⟨q_3, h3, hr⟩ := za hr
 refine qN h3 rfl (qa 1 rfl ?_)
 obtain ⟨r4, h4, hr⟩ := za hr
 refine qs rfl qkp (qkj fuel _ _ _ h4) (qa 7 rfl (qb (qf 3 rfl ?_)))
 refine zh 27 rfl hr (fun h27_4 hr => ?_) (fun h27_4 hr => ?_)
 ·
  refine qO rfl (qe (zg 3 4 (rd rfl (qbl rfl qeu .nil (.nil _)) (qcr rfl (pf0 _) (qa 1 rfl (qb ?_))))))
  cases hr
  refine qbQ Tryz.func27 _ (.cons (zy rfl (.head _) (by exact qcM) rfl (Wk.refl _)) (.cons (zd rfl (Wk.refl _)) .nil)) ?_
  rfl
 ·
  refine qf 3 rfl (zg 6 1032 (rd rfl (qr rfl qdD rfl) (qcD 1 rfl (qa 1 rfl ?_))))
  obtain ⟨r6, h6, hr⟩ := za hr
  refine qs rfl qgN (qgJ _ _ _ h6) (rd rfl (qr rfl qdD rfl) (qgZ rfl rfl rfl (qeM _ rfl rfl rfl (Wk.refl _) (pf1 _ _ _) rfl rfl (by exact qgF) rfl rfl rfl) (qb (qf 3 rfl ?_))))
  refine zh 35 rfl hr (fun h35_6 hr => ?_) (fun h35_6 hr => ?_)
  ·
   refine qO rfl (qe (zg 2 4 (rd rfl (qr rfl qjF rfl) (qgZ rfl rfl rfl (qeM _ rfl rfl rfl (Wk.refl _) (pf0 _) rfl rfl (by exact qxJ) rfl rfl rfl) (qb (qe (zg 3 6 (qcD 0 rfl (qcr rfl (pf1 _ _ _) (qa 1 rfl (qb ?_)))))))))))
   cases hr
   refine qbQ Tryz.func27 _ (.cons (zy rfl (.head _) (by exact qcM) rfl (Wk.refl _)) (.cons (zd rfl (Wk.refl _)) .nil)) ?_
   rfl
  ·
   refine qf 3 rfl (zg 9 32 (qa 1 rfl (rd rfl (qr rfl qdD rfl) (qcD 0 rfl ?_))))
   obtain ⟨r8, h8, hr⟩ := za hr
   refine qs rfl qhm (qhp fuel _ _ _ h8) (qa 5 rfl (qb (qe (zg 9 32 (qa 1 rfl (rd rfl (qr rfl qil rfl) (qcD 0 rfl ?_)))))))
   obtain ⟨r9, h9, hr⟩ := za hr
   refine qs rfl qhm (qhp fuel _ _ _ h9) (qa 5 rfl (qb (qe (zg 5 8 (rd rfl (qr rfl qe8 rfl) (qcD 0 rfl (qa 1 rfl ?_)))))))
   obtain ⟨r10, h10, hr⟩ := za hr
   refine qs rfl qj9 (qks fuel _ _ _ h10) (qa 1 rfl (qb (qe (qe (qg 11 (qa 3 rfl ?_))))))
   refine zq 58 rfl hr (fun h58_10 hr => ?_) (fun h58_10 hr => ?_)
   ·
    refine qa 8 rfl (qb (qO rfl (qe (zg 3 4 (rd rfl (qbl rfl qeu .nil (.nil _)) (qcr rfl (pf1 _ _ _) (qa 1 rfl (qb ?_))))))))
    cases hr
    refine qbQ Tryz.func27 _ (.cons (zy rfl (.head _) (by exact qcM) rfl (Wk.refl _)) (.cons (zd rfl (Wk.refl _)) .nil)) ?_
    rfl
   ·
    refine qa 4 rfl ?_
    refine zq 62 rfl hr (fun h62_11 hr => ?_) (fun h62_11 hr => ?_)
    ·
     refine qa 4 rfl (qb (qO rfl (qe (zg 3 4 (rd rfl (qbl rfl qeu .nil (.nil _)) (qcr rfl (pf1 _ _ _) (qa 1 rfl (qb ?_))))))))
     cases hr
     refine qbQ Tryz.func27 _ (.cons (zy rfl (.head _) (by exact qcM) rfl (Wk.refl _)) (.cons (zd rfl (Wk.refl _)) .nil)) ?_
     rfl
    ·
     refine qa 1 rfl ?_
     obtain ⟨r13, h13, hr⟩ := za hr
     refine qs rfl qfD (qfK _ _ h13) (qa 2 rfl (qb ?_))
     refine zh 66 rfl hr (fun h66_13 hr => ?_) (fun h66_13 hr => ?_)
     ·
      refine qO rfl (qe (zg 3 4 (rd rfl (qbl rfl qeu .nil (.nil _)) (qcr rfl (pf1 _ _ _) (qa 1 rfl (qb ?_))))))
      cases hr
      refine qbQ Tryz.func27 _ (.cons (zy rfl (.head _) (by exact qcM) rfl (Wk.refl _)) (.cons (zd rfl (Wk.refl _)) .nil)) ?_
      rfl
     ·
      refine qf 3 rfl (zg 3 16 (qa 1 rfl (rd rfl (qr rfl qdD rfl) (qgZ rfl rfl rfl (qeM _ rfl rfl rfl (Wk.refl _) (pf0 _) rfl rfl (by exact qgF) rfl rfl rfl) (qb (qe (zg 3 16 (qa 1 rfl (rd rfl (qr rfl qil rfl) (qgZ rfl rfl rfl (qeM _ rfl rfl rfl (Wk.refl _) (pf0 _) rfl rfl (by exact qgF) rfl rfl rfl) (qb (qe (zg 3 16 ?_)))))))))))))
      refine qa 1 rfl (rd rfl (qr rfl qe8 rfl) (qgZ rfl rfl rfl (qeM _ rfl rfl rfl (Wk.refl _) (pf0 _) rfl rfl (by exact qiK) rfl rfl rfl) (qb (qe (zg 3 16 (qa 1 rfl (rd rfl (qr rfl qim rfl) (qgZ rfl rfl rfl (qeM _ rfl rfl rfl (Wk.refl _) (pf0 _) rfl rfl (by exact qnn) rfl rfl rfl) (qb (qe (zg 3 6 (qcD 0 rfl (qcr rfl (pf1 _ _ _) ?_)))))))))))))
      refine qa 1 rfl (qb ?_)
      cases hr
      refine qbQ Tryz.func27 _ (.cons (zy rfl (.head _) (by exact qcM) rfl (Wk.refl _)) (.cons (zd rfl (Wk.refl _)) .nil)) ?_
      rfl
def qbd (k : Option ((List (Int × At)) × Bool)) (a1 : Int) (a0 : List (Int × At)) : List (Int × At) → Nat → Option ((List (Int × At)) × Bool)
 | [], i1 =>
 k
 | q_2 :: rest, i1 =>
 (bif (q_2.1 == a1) then
 ((yt a0 0 (i1 : Int)).bind fun l5 =>
 ((zN 48 [] l5).bind fun l6 =>
 ((yt a0 ((i1 + 1 : Nat) : Int) (a0.length : Int)).bind fun l8 =>
 ((zN 48 l6 l8).bind fun l9 =>
 some (l9, true)))))
 else
 (qbd k a1 a0 rest (i1 + 1)))
def qeG (a0 : List (Int × At)) (a1 : Int) : Option ((List (Int × At)) × Bool) :=
 (qbd (some (a0, false)) a1 a0 a0 0)
theorem qjU (a0 : List (Int × At)) (a1 : Int) (res : (List (Int × At)) × Bool) (hr : qeG a0 a1 = some res) : zf Tryz.prog 98 [.lst (a0.map zr), .int .i64 a1] (.tup [.lst (res.1.map zr), .bool res.2]) := by
 unfold qeG at hr
 refine qY Tryz.func98 rfl fun K hK => (qf 5 rfl ?_)
 obtain ⟨kk0, hkk0, hr⟩ := exK (fun k => qbd k a1 a0 a0 0) hr
 refine qcq 0 rfl (asl rfl) fun hla0 => ?_
 simp only [jb] at hla0
 refine qx (fun env σ => env = [(0, .lst (a0.map zr))] ∧ σ = [] ∧ kk0 = some res) ?_ (fun HK0 => ?_)
 ·
  rintro _ _ ⟨rfl, rfl, hr⟩
  rw [hkk0] at hr
  refine qf 2 rfl ?_
  cases hr
  refine qu Tryz.func98 rfl ?_
  rfl
 ·
  refine qm [0, 1, 6] rfl (q9 (fun n env σ => ∃ (i1 : Nat), (n = a0.length - i1) ∧ (env = [(0, .lst (a0.map zr)), (1, .int .i64 a1), (6, .int .i64 (i1 : Int))]) ∧ (σ = []) ∧ (i1 ≤ a0.length) ∧ (qbd kk0 a1 a0 (a0.drop i1) i1 = some res)) _ ⟨0, rfl, rfl, rfl, jc _, hr⟩ ?_)
  rintro n _ _ ⟨i1, rfl, rfl, rfl, hi0, hr⟩ IH0
  rcases zb a0 i1 hi0 with ⟨ht0, hd0, he0⟩ | ⟨q_2, ht0, hd0, hq0, hlt0⟩
  ·
   rw [hd0, qbd] at hr
   refine qe (qe (qg 4 (qa 2 rfl (qz rfl (qa 1 rfl (qb (qk 11 false rfl ht0 (qA rfl (qQ rfl (qm [0] rfl ?_))))))))))
   exact HK0 _ _ ⟨rfl, rfl, hr⟩
  ·
   rw [hd0, qbd] at hr
   refine qe (qe (qg 4 (qa 2 rfl (qz rfl (qa 1 rfl (qb (qk 11 true rfl ht0 (qf 5 rfl (qg 7 (qa 2 rfl (qN hq0 rfl (qa 4 rfl (qb ?_)))))))))))))
   refine zh 20 rfl hr (fun h20_2 hr => ?_) (fun h20_2 hr => ?_)
   ·
    refine qO rfl (qe (zg 1 1 (ew rfl (qab 85 3 (.inl rfl)) ?_)))
    rintro _ _ ⟨u7_3, rfl, rfl⟩
    refine qb (qe (zg 6 256 (qa 3 rfl ?_)))
    obtain ⟨l5, h5, hr⟩ := za hr
    refine rd rfl (qnv (f := zr) a0 0 (i1 : Int) rfl qdJ rfl (asl rfl) qmf (qma rfl) qf2 h5) ?_
    obtain ⟨l6, h6, hr⟩ := za hr
    refine ew rfl (qaK (f := zr) [] l5 rfl qdJ rfl rfl (asl rfl) (pf0 _) rfl qf2 h6) ?_
    rintro _ _ ⟨u25_6, rfl, rfl⟩
    refine qa 1 rfl (qb (qe (zg 8 1024 (qa 3 rfl (qaj rfl ?_)))))
    obtain ⟨l8, h8, hr⟩ := za hr
    refine rd rfl (qnv (f := zr) a0 ((i1 + 1 : Nat) : Int) (a0.length : Int) rfl qdJ rfl (asl rfl) (qox rfl) qoX qf2 h8) ?_
    obtain ⟨l9, h9, hr⟩ := za hr
    refine ew rfl (qaK (f := zr) l6 l8 rfl qdJ rfl rfl (asl rfl) (pf0 _) rfl qf2 h9) ?_
    rintro _ _ ⟨u31_9, rfl, rfl⟩
    refine qa 2 rfl (qb ?_)
    cases hr
    refine qbQ Tryz.func98 _ (.cons (zd rfl (Wk.own _ _)) (.cons (zd rfl (Wk.refl _)) .nil)) ?_
    rfl
   ·
    refine qf 3 rfl (qg 3 (qa 1 rfl (qaj rfl (qa 1 rfl (qb (qm [0, 1, 6] rfl ?_))))))
    exact IH0 _ _ _ (by omega) ⟨(i1 + 1), rfl, rfl, rfl, (by omega), hr⟩
def qaZ (k : Bool → Option (List qq)) (a1 : List Int) : List Int → Bool → Option (List qq)
 | [], a10 =>
 (k a10)
 | q_17 :: rest, a10 =>
 (bif a10 then
 ((qfb a1 q_17).bind fun r19 =>
 (qaZ k a1 rest r19))
 else
 (qaZ k a1 rest false))
def qaT (k : List qq → Option (List qq)) (a1 : List Int) : List qq → List qq → Option (List qq)
 | [], o4 =>
 (k o4)
 | q_8 :: rest, o4 =>
 (qaZ (fun a13 =>
 (bif a13 then
 ((zN 32 o4 [q_8]).bind fun l15 =>
 (qaT k a1 rest l15))
 else
 (qaT k a1 rest o4))) a1 q_8.f1_IDs true)
def qd3 (a0 : List qq) (a1 : List Int) : Option (List qq) :=
 (qaT (fun o7 =>
 some (o7)) a1 a0 [])
theorem qkg (a0 : List qq) (a1 : List Int) (res : List qq) (hr : qd3 a0 a1 = some res) : zf Tryz.prog 99 [.lst (a0.map qh), .lst (a1.map (D.int .i64))] (.lst (res.map qh)) := by
 unfold qd3 at hr
 refine qY Tryz.func99 rfl fun K hK => (qe (zg 1 1 (ew rfl (qab 94 2 (.inl rfl)) ?_)))
 rintro _ _ ⟨u4_0, rfl, rfl⟩
 refine qb (qe (zg 1 1 (ew rfl (qab 94 2 (.inl rfl)) ?_)))
 rintro _ _ ⟨u5_1, rfl, rfl⟩
 refine qb (qf 3 rfl ?_)
 obtain ⟨kk0, hkk0, hr⟩ := exK (fun k => qaT k a1 a0 []) hr
 refine qcq 0 rfl (asl rfl) fun hla0 => ?_
 simp only [jb] at hla0
 refine qx (fun env σ => ∃ (o7 : List qq) (u6 : Value), env = [(5, .own u6 (o7.map qh))] ∧ σ = [.row u6 o7.length 94 2] ∧ kk0 o7 = some res) ?_ (fun HK0 => ?_)
 ·
  rintro _ _ ⟨o7, u6, rfl, rfl, hr⟩
  rw [hkk0] at hr
  refine qf 2 rfl ?_
  cases hr
  refine qbQ Tryz.func99 _ (.cons (zd rfl (Wk.own _ _)) .nil) ?_
  rfl
 ·
  refine qm [0, 1, 5, 6] rfl (qcA [_] _ (pf0 _) (q9 (fun n env σ => ∃ (o4 : List qq) (i5 : Nat) (u3 : Value), (n = a0.length - i5) ∧ (env = [(0, .lst (a0.map qh)), (1, .lst (a1.map (D.int .i64))), (5, .own u3 (o4.map qh)), (6, .int .i64 (i5 : Int))]) ∧ (σ = [.row u3 o4.length 94 2]) ∧ (i5 ≤ a0.length) ∧ (qaT kk0 a1 (a0.drop i5) o4 = some res)) _ ⟨[], 0, u5_1, rfl, rfl, rfl, jc _, hr⟩ ?_))
  rintro n _ _ ⟨o4, i5, u3, rfl, rfl, rfl, hi0, hr⟩ IH0
  rcases zb a0 i5 hi0 with ⟨ht0, hd0, he0⟩ | ⟨q_8, ht0, hd0, hq0, hlt0⟩
  ·
   rw [hd0, qaT] at hr
   refine qe (qe (qg 4 (qa 2 rfl (qz rfl (qa 1 rfl (qb (qk 12 false rfl ht0 (qA rfl (qQ rfl (qm [5] rfl ?_))))))))))
   exact HK0 _ _ ⟨o4, u3, rfl, rfl, hr⟩
  ·
   rw [hd0, qaT] at hr
   refine qe (qe (qg 4 (qa 2 rfl (qz rfl (qa 1 rfl (qb (qk 12 true rfl ht0 (qf 9 rfl ?_))))))))
   obtain ⟨kk1, hkk1, hr⟩ := exK (fun k => qaZ k a1 q_8.f1_IDs true) hr
   refine qBQ 0 (l := q_8.f1_IDs.map (D.int .i64)) rfl (.sub (.el .refl (asl rfl) (jF (qeK hq0))) [1] rfl) (asl rfl) fun hla1 => ?_
   simp only [jb] at hla1
   refine qx (fun env σ => ∃ (a13 : Bool) (u12 : Value), env = [(0, .lst (a0.map qh)), (1, .lst (a1.map (D.int .i64))), (5, .own u12 (o4.map qh)), (6, .int .i64 (i5 : Int)), (7, .bool a13)] ∧ σ = [.row u12 o4.length 94 2] ∧ kk1 a13 = some res) ?_ (fun HK1 => ?_)
   ·
    rintro _ _ ⟨a13, u12, rfl, rfl, hr⟩
    rw [hkk1] at hr
    refine qf 2 rfl ?_
    refine zh 38 rfl hr (fun h38_13 hr => ?_) (fun h38_13 hr => ?_)
    ·
     refine qO rfl (zg 8 4096 (qa 3 rfl (qN hq0 rfl (qa 1 rfl (rd rfl (qeS (f := qh) [.tmp 43] [q_8] rfl qeH rfl rfl (by decide) (by decide) (.oc rfl .nil) qeq (fun _ => rfl)) ?_)))))
     obtain ⟨l15, h15, hr⟩ := za hr
     refine ew rfl (qaK (f := qh) o4 [q_8] rfl qeH rfl rfl (asl rfl) (pf0 _) rfl qeq h15) ?_
     rintro _ _ ⟨u45_15, rfl, rfl⟩
     refine qa 1 rfl (qb (qaa (qg 3 (qa 1 rfl (qaj rfl (qa 1 rfl (qb (qm [0, 1, 5, 6] rfl ?_))))))))
     exact IH0 _ _ _ (by omega) ⟨l15, (i5 + 1), u45_15, rfl, rfl, rfl, (by omega), hr⟩
    ·
     refine qf 3 rfl (qg 3 (qa 1 rfl (qaj rfl (qa 1 rfl (qb (qm [0, 1, 5, 6] rfl ?_))))))
     exact IH0 _ _ _ (by omega) ⟨o4, (i5 + 1), u12, rfl, rfl, rfl, (by omega), hr⟩
   ·
    refine qm [0, 1, 5, 6, 7, 8] rfl (q9 (fun n env σ => ∃ (a10 : Bool) (k11 : Nat) (u9 : Value), (n = q_8.f1_IDs.length - k11) ∧ (env = [(0, .lst (a0.map qh)), (1, .lst (a1.map (D.int .i64))), (5, .own u9 (o4.map qh)), (6, .int .i64 (i5 : Int)), (7, .bool a10), (8, .int .i64 (k11 : Int))]) ∧ (σ = [.row u9 o4.length 94 2]) ∧ (k11 ≤ q_8.f1_IDs.length) ∧ (qaZ kk1 a1 (q_8.f1_IDs.drop k11) a10 = some res)) _ ⟨true, 0, u3, rfl, rfl, rfl, jc _, hr⟩ ?_)
    rintro n _ _ ⟨a10, k11, u9, rfl, rfl, rfl, hi1, hr⟩ IH1
    rcases zb q_8.f1_IDs k11 hi1 with ⟨ht1, hd1, he1⟩ | ⟨q_17, ht1, hd1, hq1, hlt1⟩
    ·
     rw [hd1, qaZ] at hr
     refine qe (qe (qg 8 (qa 3 rfl (qN hq0 rfl (qa 2 rfl (qz rfl (qa 1 rfl (qb (qk 22 false rfl ht1 (qA rfl (qQ rfl (qm [0, 1, 5, 6, 7] rfl ?_))))))))))))
     exact HK1 _ _ ⟨a10, u9, rfl, rfl, hr⟩
    ·
     rw [hd1, qaZ] at hr
     refine qe (qe (qg 8 (qa 3 rfl (qN hq0 rfl (qa 2 rfl (qz rfl (qa 1 rfl (qb (qk 22 true rfl ht1 (qf 4 rfl (qg 14 (qa 2 rfl ?_))))))))))))
     refine zq 26 rfl hr (fun h26_17 hr => ?_) (fun h26_17 hr => ?_)
     ·
      refine qa 3 rfl (qN hq0 rfl (qa 3 rfl (qN hq1 rfl (qa 1 rfl ?_))))
      obtain ⟨r19, h19, hr⟩ := za hr
      refine qs rfl qh5 (qh0 _ _ _ h19) (qa 2 rfl (qb (qaa (qg 3 (qa 1 rfl (qaj rfl (qa 1 rfl (qb (qm [0, 1, 5, 6, 7, 8] rfl ?_)))))))))
      exact IH1 _ _ _ (by omega) ⟨r19, (k11 + 1), u9, rfl, rfl, rfl, (by omega), hr⟩
     ·
      refine qa 12 rfl (qb (qaa (qg 3 (qa 1 rfl (qaj rfl (qa 1 rfl (qb (qm [0, 1, 5, 6, 7, 8] rfl ?_))))))))
      exact IH1 _ _ _ (by omega) ⟨false, (k11 + 1), u9, rfl, rfl, rfl, (by omega), hr⟩
def qb5 (k : Int → Option ((List qq) × Int)) (a1 : qq) : List qq → Nat → Option ((List qq) × Int)
 | [], k13 =>
 (k (k13 : Int))
 | q_24 :: rest, k13 =>
 ((qcz q_24 a1).bind fun r25 =>
 (bif (decide (r25 < (0 : Int))) then
 (qb5 k a1 rest (k13 + 1))
 else
 (k (k13 : Int))))
def qez (a0 : List qq) (a1 : qq) : Option ((List qq) × Int) :=
 ((qdr a0).bind fun r2 =>
 (bif (!r2) then
 some ([], 2)
 else
 ((qdl a1).bind fun r5 =>
 (bif (!r5) then
 some ([], 2)
 else
 ((qdc a0 a1).bind fun r8 =>
 (bif r8 then
 some ([], 8)
 else
 (bif (decide ((a0.length : Int) ≥ (5000 : Int))) then
 some ([], 6)
 else
 (qb5 (fun k14 =>
 ((yt a0 0 k14).bind fun l16 =>
 ((zN 32 [] l16).bind fun l17 =>
 ((zN 32 l17 [a1]).bind fun l19 =>
 ((yt a0 k14 (a0.length : Int)).bind fun l21 =>
 ((zN 32 l19 l21).bind fun l22 =>
 some (l22, 0))))))) a1 a0 0))))))))
theorem qls (a0 : List qq) (a1 : qq) (res : (List qq) × Int) (hr : qez a0 a1 = some res) : zf Tryz.prog 100 [.lst (a0.map qh), qh a1] (.tup [.lst (res.1.map qh), .int .i64 res.2]) := by
 unfold qez at hr
 refine qY Tryz.func100 rfl fun K hK => (qe (zg 3 4 (rd rfl (qcK rfl rfl rfl) (ew rfl (qab 94 2 (.inl rfl)) ?_))))
 rintro _ _ ⟨u4_0, rfl, rfl⟩
 refine qa 1 rfl (qb (qf 3 rfl (qg 9 (qa 1 rfl ?_))))
 obtain ⟨r2, h2, hr⟩ := za hr
 refine qs rfl qhz (qhj _ _ h2) (qa 2 rfl ?_)
 refine zq 12 rfl hr (fun h12_2 hr => ?_) (fun h12_2 hr => ?_)
 ·
  refine qa 5 rfl (qb (qO rfl (qe (zg 2 1 (ew rfl (qab 94 2 (.inl rfl)) ?_)))))
  rintro _ _ ⟨u4_3, rfl, rfl⟩
  refine qa 1 rfl (qb ?_)
  cases hr
  refine qbQ Tryz.func100 _ (.cons (zd rfl (Wk.own _ _)) (.cons (zd rfl (Wk.refl _)) .nil)) ?_
  rfl
 ·
  refine qa 1 rfl ?_
  obtain ⟨r5, h5, hr⟩ := za hr
  refine qs rfl qhB (qhC _ _ h5) (qa 3 rfl (qb ?_))
  refine zh 8 rfl hr (fun h8_5 hr => ?_) (fun h8_5 hr => ?_)
  ·
   refine qO rfl (qe (zg 2 1 (ew rfl (qab 94 2 (.inl rfl)) ?_)))
   rintro _ _ ⟨u4_6, rfl, rfl⟩
   refine qa 1 rfl (qb ?_)
   cases hr
   refine qbQ Tryz.func100 _ (.cons (zd rfl (Wk.own _ _)) (.cons (zd rfl (Wk.refl _)) .nil)) ?_
   rfl
  ·
   refine qA rfl (qe (qg 4 (qa 2 rfl ?_)))
   obtain ⟨r8, h8, hr⟩ := za hr
   refine qs rfl qh1 (qh6 _ _ _ h8) (qa 1 rfl (qb ?_))
   refine zh 17 rfl hr (fun h17_8 hr => ?_) (fun h17_8 hr => ?_)
   ·
    refine qO rfl (qe (zg 2 1 (ew rfl (qab 94 2 (.inl rfl)) ?_)))
    rintro _ _ ⟨u4_9, rfl, rfl⟩
    refine qa 1 rfl (qb ?_)
    cases hr
    refine qbQ Tryz.func100 _ (.cons (zd rfl (Wk.own _ _)) (.cons (zd rfl (Wk.refl _)) .nil)) ?_
    rfl
   ·
    refine qA rfl (qe (qg 4 (qa 1 rfl (qz rfl (qa 2 rfl (qb ?_))))))
    refine zh 21 rfl hr (fun h21_10 hr => ?_) (fun h21_10 hr => ?_)
    ·
     refine qO rfl (qe (zg 2 1 (ew rfl (qab 94 2 (.inl rfl)) ?_)))
     rintro _ _ ⟨u4_11, rfl, rfl⟩
     refine qa 1 rfl (qb ?_)
     cases hr
     refine qbQ Tryz.func100 _ (.cons (zd rfl (Wk.own _ _)) (.cons (zd rfl (Wk.refl _)) .nil)) ?_
     rfl
    ·
     refine qf 6 rfl ?_
     obtain ⟨kk0, hkk0, hr⟩ := exK (fun k => qb5 k a1 a0 0) hr
     refine qcq 0 rfl (asl rfl) fun hla0 => ?_
     simp only [jb] at hla0
     refine qx (fun env σ => ∃ (k14 : Int), env = [(0, .lst (a0.map qh)), (3, .ptr (qh a1)), (6, .int .i64 k14)] ∧ σ = [] ∧ kk0 k14 = some res) ?_ (fun HK0 => ?_)
     ·
      rintro _ _ ⟨k14, rfl, rfl, hr⟩
      rw [hkk0] at hr
      refine qe (zg 6 257 (ew rfl (qoA rfl qeH rfl) ?_))
      rintro _ _ ⟨u40_14, rfl, rfl⟩
      refine qa 2 rfl ?_
      obtain ⟨l16, h16, hr⟩ := za hr
      refine rd rfl (qnv (f := qh) a0 0 k14 rfl qeH rfl (asl rfl) qmf (qma rfl) qeq h16) ?_
      obtain ⟨l17, h17, hr⟩ := za hr
      refine ew rfl (qaK (f := qh) [] l16 rfl qeH rfl rfl (asl rfl) (pf0 _) rfl qeq h17) ?_
      rintro _ _ ⟨u44_17, rfl, rfl⟩
      refine qa 1 rfl (qb (qe (zg 5 64 (qa 2 rfl (rd rfl (qeS (f := qh) [.tmp 46] [a1] rfl qeH rfl rfl (by decide) (by decide) (.oc rfl .nil) qeq (fun _ => rfl)) ?_)))))
      obtain ⟨l19, h19, hr⟩ := za hr
      refine ew rfl (qaK (f := qh) l17 [a1] rfl qeH rfl rfl (asl rfl) (pf0 _) rfl qeq h19) ?_
      rintro _ _ ⟨u48_19, rfl, rfl⟩
      refine qa 1 rfl (qb (qe (zg 6 256 (qa 3 rfl ?_))))
      obtain ⟨l21, h21, hr⟩ := za hr
      refine rd rfl (qnv (f := qh) a0 k14 (a0.length : Int) rfl qeH rfl (asl rfl) (qox rfl) qoX qeq h21) ?_
      obtain ⟨l22, h22, hr⟩ := za hr
      refine ew rfl (qaK (f := qh) l19 l21 rfl qeH rfl rfl (asl rfl) (pf0 _) rfl qeq h22) ?_
      rintro _ _ ⟨u53_22, rfl, rfl⟩
      refine qa 1 rfl (qb (qf 2 rfl ?_))
      cases hr
      refine qbQ Tryz.func100 _ (.cons (zd rfl (Wk.own _ _)) (.cons (zd rfl (Wk.refl _)) .nil)) ?_
      rfl
     ·
      refine qm [0, 3, 6] rfl (qcA [] _ (pf0 _) (q9 (fun n env σ => ∃ (k13 : Nat), (n = a0.length - k13) ∧ (env = [(0, .lst (a0.map qh)), (3, .ptr (qh a1)), (6, .int .i64 (k13 : Int))]) ∧ (σ = []) ∧ (k13 ≤ a0.length) ∧ (qb5 kk0 a1 (a0.drop k13) k13 = some res)) _ ⟨0, rfl, rfl, rfl, jc _, hr⟩ ?_))
      rintro n _ _ ⟨k13, rfl, rfl, rfl, hi0, hr⟩ IH0
      rcases zb a0 k13 hi0 with ⟨ht0, hd0, he0⟩ | ⟨q_24, ht0, hd0, hq0, hlt0⟩
      ·
       rw [hd0, qb5] at hr
       refine qe (qe (qei 13 0 (qa 2 rfl (qz rfl (qa 2 rfl (qiz 29 false rfl ht0 (qa 8 rfl (qb (qA rfl (qQ rfl (qm [0, 3, 6] rfl ?_)))))))))))
       exact HK0 _ _ ⟨(k13 : Int), rfl, rfl, hr⟩
      ·
       rw [hd0, qb5] at hr
       refine qe (qe (qei 13 0 (qa 2 rfl (qz rfl (qa 2 rfl (qiz 29 true rfl ht0 (qa 2 rfl (qN hq0 rfl (qa 2 rfl ?_)))))))))
       obtain ⟨r25, h25, hr⟩ := za hr
       refine qs rfl qfh (qfk _ _ _ h25) (qa 2 rfl (qb ?_))
       refine zh 37 rfl hr (fun h37_25 hr => ?_) (fun h37_25 hr => ?_)
       ·
        refine qf 3 rfl (qg 3 (qa 1 rfl (qaj rfl (qa 1 rfl (qb (qaa (qm [0, 3, 6] rfl ?_)))))))
        exact IH0 _ _ _ (by omega) ⟨(k13 + 1), rfl, rfl, rfl, (by omega), hr⟩
       ·
        refine qA rfl (qQ rfl (qm [0, 3, 6] rfl ?_))
        exact HK0 _ _ ⟨(k13 : Int), rfl, rfl, hr⟩
def qaA (k : List Gl → Option ((List (Int × At)) × (List qq) × (List Gl) × Int)) (a3 : List (Int × T)) (a4 : Int) (fuel : Nat) : List Gl → List Gl → Option ((List (Int × At)) × (List qq) × (List Gl) × Int)
 | [], b19 =>
 (k b19)
 | q_23 :: rest, b19 =>
 ((qcm fuel a3 a4 q_23).bind fun r24 =>
 ((qiQ r24).bind fun r26 =>
 (bif (!r26) then
 some ([], [], [], 6)
 else
 ((zN 48 b19 [r24]).bind fun l29 =>
 (qaA k a3 a4 fuel rest l29)))))
def qdY (k : List qq → Option ((List (Int × At)) × (List qq) × (List Gl) × Int)) (a6 : List Int) (q_2 : qD) (r15 : List qq) (a5 : Int) : Option ((List (Int × At)) × (List qq) × (List Gl) × Int) :=
 ((qaP q_2).bind fun r31 =>
 (bif r31 then
 ((qez r15 (⟨a5, a6⟩ : qq)).bind fun r33 =>
 (bif (r33.2 != (0 : Int)) then
 some ([], [], [], 6)
 else
 (k r33.1)))
 else
 (k r15)))
def qa1 (k : List Int → Option ((List (Int × At)) × (List qq) × (List Gl) × Int)) : List (Int × At) → List Int → Option ((List (Int × At)) × (List qq) × (List Gl) × Int)
 | [], l11 =>
 (k l11)
 | q_36 :: rest, l11 =>
 ((zN 8 l11 [q_36.1]).bind fun l37 =>
 (qa1 k rest l37))
def qa0 (k : ((List (Int × At))) → Option ((List (Int × At)) × (List qq) × (List Gl) × Int)) (a6 : List Int) : Nat → (List (Int × At)) → Int → Option ((List (Int × At)) × (List qq) × (List Gl) × Int)
 | 0, l6, i7 =>
 (k l6)
 | rest + 1, l6, i7 =>
 ((zj a6 i7).bind fun q_39 =>
 ((qeG l6 q_39).bind fun r40 =>
 (qa0 k a6 rest r40.1 (i7 + 1))))
def qdN (fuel : Nat) (a0 : qn) (a1 : List (Int × At)) (a2 : List qq) (a3 : List (Int × T)) (a4 : Int) (a5 : Int) (a6 : List Int) : Option ((List (Int × At)) × (List qq) × (List Gl) × Int) :=
 ((zj a0.f1_Rules a5).bind fun q_2 =>
 (bif (decide ((wr (a4 + q_2.f5_Vars)) > (1048576 : Int))) then
 some ([], [], [], 6)
 else
 (qa0 (fun l8 =>
 (qa1 (fun l14 =>
 ((qd3 a2 l14).bind fun r15 =>
 (qdY (fun h16 =>
 (qaA (fun b22 =>
 some (l8, h16, b22, 0)) a3 a4 fuel q_2.f4_Body [])) a6 q_2 r15 a5))) l8 [])) a6 ((a6.length : Int) - (q_2.f1_Keep.length : Int) : Int).toNat a1 (q_2.f1_Keep.length : Int))))
theorem qjn (fuel : Nat) (a0 : qn) (a1 : List (Int × At)) (a2 : List qq) (a3 : List (Int × T)) (a4 : Int) (a5 : Int) (a6 : List Int) (res : (List (Int × At)) × (List qq) × (List Gl) × Int) (hr : qdN fuel a0 a1 a2 a3 a4 a5 a6 = some res) : zf Tryz.prog 64 [ql a0, .lst (a1.map zr), .lst (a2.map qh), .lst (a3.map zo), .int .i64 a4, .int .i64 a5, .lst (a6.map (D.int .i64))] (.tup [.lst (res.1.map zr), .lst (res.2.1.map qh), .lst (res.2.2.1.map zA), .int .i64 res.2.2.2]) := by
 unfold qdN at hr
 refine qY Tryz.func64 rfl fun K hK => (qe (zg 5 64 (rd rfl (qcK rfl rfl rfl) (qa 2 rfl (ew rfl (qab 41 3 (.inl rfl)) ?_)))))
 rintro _ _ ⟨u16_0, rfl, rfl⟩
 refine qa 1 rfl (qb (qe (zg 7 5120 (qa 3 rfl ?_))))
 obtain ⟨q_2, h2, hr⟩ := za hr
 refine qN h2 rfl (qa 1 rfl (ew rfl (qaJ rfl qgt) ?_))
 rintro _ _ ⟨b18_2, rfl, rfl⟩
 refine qcr rfl (pf0 _) (qb (qaR 18 b18_2 rfl (pf0 _) (qe (qe (qg 5 (qa 3 rfl (rd rfl (qeF rfl rfl rfl rfl) (qa 1 rfl (qb ?_)))))))))
 refine zh 36 rfl hr (fun h36_3 hr => ?_) (fun h36_3 hr => ?_)
 ·
  refine qO rfl (qe (zg 4 16 (qa 2 rfl (ew rfl (qab 41 3 (.inl rfl)) ?_))))
  rintro _ _ ⟨u16_4, rfl, rfl⟩
  refine qa 1 rfl (qb ?_)
  cases hr
  refine qbQ Tryz.func64 _ (.cons (zd rfl (Wk.full _)) (.cons (zd rfl (Wk.full _)) (.cons (zd rfl (Wk.own _ _)) (.cons (zd rfl (Wk.refl _)) .nil)))) ?_
  rfl
 ·
  refine qf 4 rfl (qg 4 (qa 2 rfl (qz rfl (qa 1 rfl (qb ?_)))))
  obtain ⟨kk0, hkk0, hr⟩ := exK (fun k => qa0 k a6 ((a6.length : Int) - (q_2.f1_Keep.length : Int) : Int).toNat a1 (q_2.f1_Keep.length : Int)) hr
  refine qx (fun env σ => ∃ (l8 : List (Int × At)), env = [(1, .lst (l8.map zr)), (2, .lst (a2.map qh)), (3, .lst (a3.map zo)), (4, .int .i64 a4), (5, .int .i64 a5), (6, .lst (a6.map (D.int .i64))), (18, .ptr (qp q_2))] ∧ σ = [] ∧ kk0 l8 = some res) ?_ (fun HK0 => ?_)
  ·
   rintro _ _ ⟨l8, rfl, rfl, hr⟩
   rw [hkk0] at hr
   refine qe (zg 1 1 (ew rfl (qab 3 1 (.inl rfl)) ?_))
   rintro _ _ ⟨u20_8, rfl, rfl⟩
   refine qb (qf 3 rfl ?_)
   obtain ⟨kk1, hkk1, hr⟩ := exK (fun k => qa1 k l8 []) hr
   refine qcq 1 rfl (asl rfl) fun hla1 => ?_
   simp only [jb] at hla1
   refine qx (fun env σ => ∃ (l14 : List Int) (u13 : Value), env = [(1, .lst (l8.map zr)), (2, .lst (a2.map qh)), (3, .lst (a3.map zo)), (4, .int .i64 a4), (5, .int .i64 a5), (6, .lst (a6.map (D.int .i64))), (18, .ptr (qp q_2)), (20, .own u13 (l14.map (D.int .i64)))] ∧ σ = [.row u13 l14.length 3 1] ∧ kk1 l14 = some res) ?_ (fun HK1 => ?_)
   ·
    rintro _ _ ⟨l14, u13, rfl, rfl, hr⟩
    rw [hkk1] at hr
    refine qe (qg 4 (qa 2 rfl ?_))
    obtain ⟨r15, h15, hr⟩ := za hr
    refine rd rfl (qhd rfl qke (.oc rfl (.cons rfl (Wk.own _ _) .nil)) (qkg _ _ _ h15)) (qa 1 rfl (qb ?_))
    obtain ⟨kkJ0, hkkJ0, hr⟩ := exK (fun k => qdY k a6 q_2 r15 a5) hr
    refine qtU (fun env σ => ∃ (h16 : List qq), env = [(1, .lst (l8.map zr)), (2, .lst (h16.map qh)), (3, .lst (a3.map zo)), (4, .int .i64 a4), (18, .ptr (qp q_2))] ∧ σ = [] ∧ kkJ0 h16 = some res) ?_ (fun HKJ0 => ?_)
    ·
     rintro _ _ ⟨h16, rfl, rfl, hr⟩
     rw [hkkJ0] at hr
     refine qe (zg 1 1 (ew rfl (qab 41 3 (.inl rfl)) ?_))
     rintro _ _ ⟨u24_16, rfl, rfl⟩
     refine qb (qf 3 rfl ?_)
     obtain ⟨kk2, hkk2, hr⟩ := exK (fun k => qaA k a3 a4 fuel q_2.f4_Body []) hr
     refine ql3 18 [4] (l := q_2.f4_Body.map zA) rfl rfl (asl rfl) fun hla2 => ?_
     simp only [jb] at hla2
     refine qx (fun env σ => ∃ (b22 : List Gl) (u21 : Value), env = [(1, .lst (l8.map zr)), (2, .lst (h16.map qh)), (24, .own u21 (b22.map zA))] ∧ σ = [.row u21 b22.length 41 3] ∧ kk2 b22 = some res) ?_ (fun HK2 => ?_)
     ·
      rintro _ _ ⟨b22, u21, rfl, rfl, hr⟩
      rw [hkk2] at hr
      refine qf 2 rfl ?_
      cases hr
      refine qbQ Tryz.func64 _ (.cons (zd rfl (Wk.refl _)) (.cons (zd rfl (Wk.refl _)) (.cons (zd rfl (Wk.own _ _)) (.cons (zd rfl (Wk.refl _)) .nil)))) ?_
      rfl
     ·
      refine qm [1, 2, 3, 4, 18, 24, 25] rfl (q9 (fun n env σ => ∃ (b19 : List Gl) (i20 : Nat) (u18 : Value), (n = q_2.f4_Body.length - i20) ∧ (env = [(1, .lst (l8.map zr)), (2, .lst (h16.map qh)), (3, .lst (a3.map zo)), (4, .int .i64 a4), (18, .ptr (qp q_2)), (24, .own u18 (b19.map zA)), (25, .int .i64 (i20 : Int))]) ∧ (σ = [.row u18 b19.length 41 3]) ∧ (i20 ≤ q_2.f4_Body.length) ∧ (qaA kk2 a3 a4 fuel (q_2.f4_Body.drop i20) b19 = some res)) _ ⟨[], 0, u24_16, rfl, rfl, rfl, jc _, hr⟩ ?_)
      rintro n _ _ ⟨b19, i20, u18, rfl, rfl, rfl, hi2, hr⟩ IH2
      rcases zb q_2.f4_Body i20 hi2 with ⟨ht2, hd2, he2⟩ | ⟨q_23, ht2, hd2, hq2, hlt2⟩
      ·
       rw [hd2, qaA] at hr
       refine qe (qe (qg 5 (qa 3 rfl (qz rfl (qa 1 rfl (qb (qk 89 false rfl ht2 (qA rfl (qQ rfl (qm [1, 2, 24] rfl ?_))))))))))
       exact HK2 _ _ ⟨b19, u18, rfl, rfl, hr⟩
      ·
       rw [hd2, qaA] at hr
       refine qe (qe (qg 5 (qa 3 rfl (qz rfl (qa 1 rfl (qb (qk 89 true rfl ht2 (qf 5 rfl (zg 10 327680 (qa 5 rfl (qN hq2 rfl (qa 1 rfl ?_))))))))))))
       obtain ⟨r24, h24, hr⟩ := za hr
       refine qs rfl qfF (qfE fuel _ _ _ _ h24) (ew rfl (qaJ rfl qgo) ?_)
       rintro _ _ ⟨b26_24, rfl, rfl⟩
       refine qcr rfl (pf0 _) (qb (qaR 26 b26_24 rfl (pf0 _) (qe (qe (qg 3 (qa 1 rfl ?_))))))
       obtain ⟨r26, h26, hr⟩ := za hr
       refine qs rfl qci (qcd _ _ h26) (qa 1 rfl (qb ?_))
       refine zh 102 rfl hr (fun h102_26 hr => ?_) (fun h102_26 hr => ?_)
       ·
        refine qO rfl (qe (zg 4 16 (qa 2 rfl (ew rfl (qab 41 3 (.inl rfl)) ?_))))
        rintro _ _ ⟨u16_27, rfl, rfl⟩
        refine qa 1 rfl (qb ?_)
        cases hr
        refine qbQ Tryz.func64 _ (.cons (zd rfl (Wk.full _)) (.cons (zd rfl (Wk.full _)) (.cons (zd rfl (Wk.own _ _)) (.cons (zd rfl (Wk.refl _)) .nil)))) ?_
        rfl
       ·
        refine qA rfl (ql1 (zg 5 64 (qa 2 rfl (rd rfl (qeS (f := zA) [.tmp 104] [r24] rfl qc3 rfl rfl (by decide) (by decide) (.oc rfl .nil) qgW (fun _ => rfl)) ?_))))
        obtain ⟨l29, h29, hr⟩ := za hr
        refine ew rfl (qaK (f := zA) b19 [r24] rfl qc3 rfl rfl (asl rfl) (pf0 _) rfl qgW h29) ?_
        rintro _ _ ⟨u106_29, rfl, rfl⟩
        refine qa 1 rfl (qb (qaa (qg 3 (qa 1 rfl (qaj rfl (qa 1 rfl (qb (qm [1, 2, 3, 4, 18, 24, 25] rfl ?_))))))))
        exact IH2 _ _ _ (by omega) ⟨l29, (i20 + 1), u106_29, rfl, rfl, rfl, (by omega), hr⟩
    ·
     unfold qdY at hr
     refine qe (qg 2 (qa 1 rfl ?_))
     obtain ⟨r31, h31, hr⟩ := za hr
     refine qs rfl qeO (qeP _ _ h31) (qb ?_)
     refine zh 73 rfl hr (fun h73_31 hr => ?_) (fun h73_31 hr => ?_)
     ·
      refine qO rfl (qe (qg 10 (qa 3 rfl (rd rfl (qbl rfl qoi (.oc rfl (.oc rfl .nil)) (.cons rfl rfl rfl (.cons rfl rfl rfl (.nil _)))) ?_))))
      obtain ⟨r33, h33, hr⟩ := za hr
      refine qs rfl qlr (qls _ _ _ h33) (qa 5 rfl (qb (qf 3 rfl ?_)))
      refine zh 83 rfl hr (fun h83_33 hr => ?_) (fun h83_33 hr => ?_)
      ·
       refine qO rfl (qe (zg 4 16 (qa 2 rfl (ew rfl (qab 41 3 (.inl rfl)) ?_))))
       rintro _ _ ⟨u16_34, rfl, rfl⟩
       refine qa 1 rfl (qb ?_)
       cases hr
       refine qbQ Tryz.func64 _ (.cons (zd rfl (Wk.full _)) (.cons (zd rfl (Wk.full _)) (.cons (zd rfl (Wk.own _ _)) (.cons (zd rfl (Wk.refl _)) .nil)))) ?_
       rfl
      ·
       refine qf 3 rfl (qm [1, 2, 3, 4, 18] rfl (qcA [] _ (pf0 _) ?_))
       exact HKJ0 _ _ ⟨r33.1, rfl, rfl, hr⟩
     ·
      refine qA rfl (ql1 (qm [1, 2, 3, 4, 18] rfl (qcA [] _ (pf0 _) ?_)))
      exact HKJ0 _ _ ⟨r15, rfl, rfl, hr⟩
   ·
    refine qm [1, 2, 3, 4, 5, 6, 18, 20, 21] rfl (q9 (fun n env σ => ∃ (l11 : List Int) (i12 : Nat) (u10 : Value), (n = l8.length - i12) ∧ (env = [(1, .lst (l8.map zr)), (2, .lst (a2.map qh)), (3, .lst (a3.map zo)), (4, .int .i64 a4), (5, .int .i64 a5), (6, .lst (a6.map (D.int .i64))), (18, .ptr (qp q_2)), (20, .own u10 (l11.map (D.int .i64))), (21, .int .i64 (i12 : Int))]) ∧ (σ = [.row u10 l11.length 3 1]) ∧ (i12 ≤ l8.length) ∧ (qa1 kk1 (l8.drop i12) l11 = some res)) _ ⟨[], 0, u20_8, rfl, rfl, rfl, jc _, hr⟩ ?_)
    rintro n _ _ ⟨l11, i12, u10, rfl, rfl, rfl, hi1, hr⟩ IH1
    rcases zb l8 i12 hi1 with ⟨ht1, hd1, he1⟩ | ⟨q_36, ht1, hd1, hq1, hlt1⟩
    ·
     rw [hd1, qa1] at hr
     refine qe (qe (qg 4 (qa 2 rfl (qz rfl (qa 1 rfl (qb (qk 58 false rfl ht1 (qA rfl (qQ rfl (qm [1, 2, 3, 4, 5, 6, 18, 20] rfl ?_))))))))))
     exact HK1 _ _ ⟨l11, u10, rfl, rfl, hr⟩
    ·
     rw [hd1, qa1] at hr
     refine qe (qe (qg 4 (qa 2 rfl (qz rfl (qa 1 rfl (qb (qk 58 true rfl ht1 (qf 4 rfl (zg 9 16384 (qa 3 rfl (qN hq1 rfl (qa 2 rfl (rd rfl (qeS (f := (D.int .i64)) [.tmp 66] [q_36.1] rfl qc7 rfl rfl (by decide) (by decide) (.oc rfl .nil) (fun _ => rfl) (fun _ => rfl)) ?_)))))))))))))
     obtain ⟨l37, h37, hr⟩ := za hr
     refine ew rfl (qaK (f := (D.int .i64)) l11 [q_36.1] rfl qc7 rfl rfl (asl rfl) (pf0 _) rfl (fun _ => rfl) h37) ?_
     rintro _ _ ⟨u68_37, rfl, rfl⟩
     refine qa 1 rfl (qb (qaa (qg 3 (qa 1 rfl (qaj rfl (qa 1 rfl (qb (qm [1, 2, 3, 4, 5, 6, 18, 20, 21] rfl ?_))))))))
     exact IH1 _ _ _ (by omega) ⟨l37, (i12 + 1), u68_37, rfl, rfl, rfl, (by omega), hr⟩
  ·
   refine qm [2, 3, 4, 5, 6, 18, 1, 19] rfl (qcA [] _ (pf0 _) (q9 (fun n env σ => ∃ (l6 : List (Int × At)) (i7 : Int) (m0 : Nat), (m0 = n) ∧ (env = [(2, .lst (a2.map qh)), (3, .lst (a3.map zo)), (4, .int .i64 a4), (5, .int .i64 a5), (6, .lst (a6.map (D.int .i64))), (18, .ptr (qp q_2)), (1, .lst (l6.map zr)), (19, .int .i64 i7)]) ∧ (σ = []) ∧ (m0 = ((a6.length : Int) - i7 : Int).toNat) ∧ (qa0 kk0 a6 m0 l6 i7 = some res)) _ ⟨a1, (q_2.f1_Keep.length : Int), _, rfl, rfl, rfl, rfl, hr⟩ ?_))
   rintro n _ _ ⟨l6, i7, m0, rfl, rfl, rfl, hi0, hr⟩ IH0
   refine qyO 19 rfl fun hb0 => (qcq 6 rfl (asl rfl) fun hla0 => ?_)
   simp only [jb] at hla0
   rcases zbc i7 (a6.length : Int) m0 hi0 with ⟨hm0, ht0⟩ | ⟨m0', hm0, ht0, hi0', hlt0⟩
   ·
    rw [hm0, qa0] at hr
    refine qe (qe (qg 4 (qa 2 rfl (qz rfl (qa 1 rfl (qb (qk 43 false rfl ht0 (qA rfl (qQ rfl (qm [1, 2, 3, 4, 5, 6, 18] rfl ?_))))))))))
    exact HK0 _ _ ⟨l6, rfl, rfl, hr⟩
   ·
    rw [hm0, qa0] at hr
    refine qe (qe (qg 4 (qa 2 rfl (qz rfl (qa 1 rfl (qb (qk 43 true rfl ht0 (qf 4 rfl (qg 10 (qa 3 rfl ?_))))))))))
    obtain ⟨q_39, h39, hr⟩ := za hr
    refine qN h39 rfl (qa 1 rfl ?_)
    obtain ⟨r40, h40, hr⟩ := za hr
    refine qs rfl qjJ (qjU _ _ _ h40) (qa 4 rfl (qb (qaa (qg 3 (qa 1 rfl (rd rfl (s_ar (r := i7 + 1) rfl rfl rfl rfl (by omega)) (qa 1 rfl (qb (qm [2, 3, 4, 5, 6, 18, 1, 19] rfl ?_)))))))))
    exact IH0 _ _ _ (by omega) ⟨r40.1, (i7 + 1), _, rfl, rfl, rfl, hi0', hr⟩
def qd8 (fuel : Nat) (a0 : qn) (a1 : qw) (a2 : Int) (a3 : List Int) : Option (qw × Int) :=
 ((qbP fuel a0 a1.f1_Store a1.f2_Binds a1.f4_Known a1.f3_Fired a2 a3).bind fun r3 =>
 ((qdN fuel a0 a1.f1_Store a1.f3_Fired r3.1 a1.f6_Fresh a2 a3).bind fun r4 =>
 (bif (r4.2.2.2 != (0 : Int)) then
 some ((⟨[], [], [], [], [], 0, 0, false⟩ : qw), 6)
 else
 (bif (decide ((wr ((a1.f0_Goals.length : Int) + (r4.2.2.1.length : Int))) > (1000 : Int))) then
 some ((⟨[], [], [], [], [], 0, 0, false⟩ : qw), 6)
 else
 ((zN 48 [] a1.f0_Goals).bind fun l8 =>
 ((zN 48 l8 r4.2.2.1).bind fun l10 =>
 ((zj a0.f1_Rules a2).bind fun q_12 =>
 some ((⟨l10, r4.1, a1.f2_Binds, r4.2.1, a1.f4_Known, a1.f5_Next, (wr (a1.f6_Fresh + q_12.f5_Vars)), a1.f7_Failed⟩ : qw), 0))))))))
theorem qj8 (fuel : Nat) (a0 : qn) (a1 : qw) (a2 : Int) (a3 : List Int) (res : qw × Int) (hr : qd8 fuel a0 a1 a2 a3 = some res) : zf Tryz.prog 28 [ql a0, qJ a1, .int .i64 a2, .lst (a3.map (D.int .i64))] (.tup [qJ res.1, .int .i64 res.2]) := by
 unfold qd8 at hr
 refine qY Tryz.func28 rfl fun K hK => (qe (zg 4 20 (rd rfl (qcK rfl rfl rfl) (ew rfl (qmD rfl rfl rfl) ?_))))
 rintro _ _ ⟨b5_0, rfl, rfl⟩
 refine ew rfl (qaJ rfl qjy) ?_
 rintro _ _ ⟨b8_1, rfl, rfl⟩
 refine qa 1 rfl (qb (qe (zg 17 139808 (qa 1 rfl (rd rfl (qr rfl qe8 rfl) (qcD 1 rfl (rd rfl (qr rfl qim rfl) (qcD 1 rfl (rd rfl (qr rfl qil rfl) (qcD 1 rfl (rd rfl (qr rfl qik rfl) (qcD 1 rfl (qa 2 rfl ?_)))))))))))))
 obtain ⟨r3, h3, hr⟩ := za hr
 refine qs rfl qh2 (qh4 fuel _ _ _ _ _ _ _ _ h3) (qa 5 rfl (qb (qe (zg 20 33312 (qa 1 rfl (rd rfl (qr rfl qe8 rfl) (qcD 1 rfl (rd rfl (qr rfl qik rfl) (qcD 1 rfl (qa 1 rfl (rd rfl (qr rfl qii rfl) (qcD 1 rfl (qa 2 rfl ?_)))))))))))))
 obtain ⟨r4, h4, hr⟩ := za hr
 refine qs rfl qjm (qjn fuel _ _ _ _ _ _ _ _ h4) (qa 9 rfl (qb (qe (qe (zg 11 512 (qa 3 rfl ?_))))))
 refine zq 50 rfl hr (fun h50_4 hr => ?_) (fun h50_4 hr => ?_)
 ·
  refine qa 8 rfl (qb (qO rfl (qe (zg 3 4 (rd rfl (qbl rfl qeu .nil (.nil _)) (qcr rfl (pf0 _) (qa 1 rfl (qb ?_))))))))
  cases hr
  refine qbQ Tryz.func28 _ (.cons (zy rfl (.head _) (by exact qcM) rfl (Wk.refl _)) (.cons (zd rfl (Wk.refl _)) .nil)) ?_
  rfl
 ·
  refine rd rfl (qr rfl qdD rfl) (qcD 1 rfl (qz rfl (qa 1 rfl (qz rfl (rd rfl (qeF rfl rfl rfl rfl) (qa 2 rfl (qb ?_)))))))
  refine zh 58 rfl hr (fun h58_5 hr => ?_) (fun h58_5 hr => ?_)
  ·
   refine qO rfl (qe (zg 3 4 (rd rfl (qbl rfl qeu .nil (.nil _)) (qcr rfl (pf0 _) (qa 1 rfl (qb ?_))))))
   cases hr
   refine qbQ Tryz.func28 _ (.cons (zy rfl (.head _) (by exact qcM) rfl (Wk.refl _)) (.cons (zd rfl (Wk.refl _)) .nil)) ?_
   rfl
  ·
   refine qf 3 rfl (zg 3 16 (qa 1 rfl (rd rfl (qr rfl qe8 rfl) (qgZ rfl rfl rfl (qeM _ rfl rfl rfl (Wk.refl _) (pf1 _ _ _) rfl rfl (by exact qiK) rfl rfl rfl) (qb (qe (zg 3 16 (qa 1 rfl (rd rfl (qr rfl qik rfl) (qgZ rfl rfl rfl (qeM _ rfl rfl rfl (Wk.refl _) (pf0 _) rfl rfl (by exact qmt) rfl rfl rfl) (qb (qe (zg 1 1 ?_)))))))))))))
   refine ew rfl (qab 41 3 (.inl rfl)) ?_
   rintro _ _ ⟨u16_6, rfl, rfl⟩
   refine qb (qe (zg 5 96 (qa 1 rfl (rd rfl (qr rfl qdD rfl) (qcD 1 rfl ?_)))))
   obtain ⟨l8, h8, hr⟩ := za hr
   refine ew rfl (qaK (f := zA) [] a1.f0_Goals rfl qc3 rfl rfl (asl rfl) (pf0 _) rfl qgW h8) ?_
   rintro _ _ ⟨u67_8, rfl, rfl⟩
   refine qa 1 rfl (qb (qe (zg 5 272 (qa 2 rfl ?_))))
   obtain ⟨l10, h10, hr⟩ := za hr
   refine ew rfl (qaK (f := zA) l8 r4.2.2.1 rfl qc3 rfl rfl (asl rfl) (pf0 _) rfl qgW h10) ?_
   rintro _ _ ⟨u70_10, rfl, rfl⟩
   refine rd rfl (qr rfl qdD rfl) (qgZ rfl rfl rfl (qeM _ rfl rfl rfl (Wk.own _ _) (pf1 _ _ _) rfl rfl (by exact qgF) rfl rfl rfl) (qb (qe (qei 11 1048584 (rd rfl (qr rfl qii rfl) (qcD 0 rfl (qa 3 rfl ?_)))))))
   obtain ⟨q_12, h12, hr⟩ := za hr
   refine qN h12 rfl (qa 2 rfl (rd rfl (qeF rfl rfl rfl rfl) (rd rfl (qr rfl qii rfl) (qgZ rfl rfl rfl (qeM _ rfl rfl rfl (Wk.refl _) (pf0 _) rfl rfl (by exact qgQ) rfl rfl rfl) (qb (qe (zg 3 6 (qcD 0 rfl (qcr rfl (pf2 _ _ _ _) (qa 1 rfl (qb ?_)))))))))))
   cases hr
   refine qbQ Tryz.func28 _ (.cons (zy rfl (.head _) (by exact qcM) rfl (Wk.refl _)) (.cons (zd rfl (Wk.refl _)) .nil)) ?_
   rfl
def qb3 (k : Option ((List (Int × At)) × Int)) (a1 : (Int × At)) : List (Int × At) → Option ((List (Int × At)) × Int)
 | [] =>
 k
 | q_29 :: rest =>
 (bif (q_29.1 == a1.1) then
 some ([], 8)
 else
 (qb3 k a1 rest))
def qey (a0 : List (Int × At)) (a1 : (Int × At)) : Option ((List (Int × At)) × Int) :=
 ((qcQ a0).bind fun r2 =>
 (bif (!r2) then
 some ([], 2)
 else
 ((qih a1.2).bind fun r5 =>
 (bif (!r5) then
 some ([], 2)
 else
 (bif (decide (a1.1 < (1 : Int))) then
 some ([], 2)
 else
 (qb3 ((bif (decide ((a0.length : Int) > (0 : Int))) then
 ((zj a0 (wr ((a0.length : Int) - (1 : Int)))).bind fun q_12 =>
 (bif (decide (a1.1 < q_12.1)) then
 some ([], 2)
 else
 (bif (decide ((a0.length : Int) ≥ (500 : Int))) then
 some ([], 6)
 else
 ((zN 48 [] a0).bind fun l18 =>
 ((zN 48 l18 [a1]).bind fun l20 =>
 some (l20, 0))))))
 else
 (bif (decide ((a0.length : Int) ≥ (500 : Int))) then
 some ([], 6)
 else
 ((zN 48 [] a0).bind fun l25 =>
 ((zN 48 l25 [a1]).bind fun l27 =>
 some (l27, 0)))))) a1 a0))))))
end
end Go.Proofs.YtlfcjfiecoapoaaGreat
