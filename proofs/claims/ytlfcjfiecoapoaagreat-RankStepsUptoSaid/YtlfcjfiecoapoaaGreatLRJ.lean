/-
 Texts of the seat, merged.
-/
import Derived.Test.YtlfcjfiecoapoaaGreatLRI
set_option linter.unusedVariables false
set_option linter.unusedSimpArgs false
set_option linter.unnecessarySimpa false
set_option linter.all false
set_option maxHeartbeats 8000000
namespace Go.Proofs.YtlfcjfiecoapoaaGreat
set_option maxRecDepth 100000
open Go.RowKit
structure qj where
 f0_Name : ByteArray
 f1_Const : Int
 f2_Factors : (List Int)
def qB (x : qj) : D := .agg [.str x.f0_Name, .int .i64 x.f1_Const, .lst (x.f2_Factors.map (D.int .i64))]
theorem qgB (x : qj) : sz (qB x) = 3 := by
 simp only [qB, sz, szs]
theorem qmL : zbI Tryz.prog 4 (.bool false) := ⟨.bool false, by kernel_rfl, fun _ _ => by simp only [Rep]⟩
theorem qmy : zV Tryz.prog 102 [.int .i64 0, .nilm] := .mk rfl (by kernel_rfl) Tryz.underlying102 (by kernel_rfl)
theorem qB0 : zbI Tryz.prog 3 (.int .i64 0) := ⟨.int .i64 0, by kernel_rfl, fun _ _ => by simp only [Rep]; exact ⟨trivial, rfl⟩⟩
noncomputable def qbZ (k : Option Bool) : List qj → Option Bool
 | [] =>
 k
 | q_3 :: rest =>
 (bif (decide ((q_3.f2_Factors.length : Int) > (10 : Int))) then
 some (false)
 else
 (qbZ k rest))
noncomputable def qex (a0 : List qj) : Option Bool :=
 (bif (decide ((a0.length : Int) > (20 : Int))) then
 some (false)
 else
 (qbZ (some (true)) a0))
theorem qln (a0 : List qj) (res : Bool) (hr : qex a0 = some res) : zf Tryz.prog 4 [.lst (a0.map qB)] (.bool res) := by
 unfold qex at hr
 refine qY Tryz.func4 rfl fun K hK => (qf 4 rfl (qg 3 (qa 1 rfl (qz rfl (qa 1 rfl (qb ?_))))))
 refine zh 6 rfl hr (fun h6_0 hr => ?_) (fun h6_0 hr => ?_)
 ·
  refine qf 3 rfl ?_
  cases hr
  refine qu Tryz.func4 rfl ?_
  rfl
 ·
  refine qf 4 rfl (qg 3 (qa 1 rfl (qz rfl (qa 1 rfl (qb ?_)))))
  obtain ⟨kk0, hkk0, hr⟩ := exK (fun k => qbZ k a0) hr
  refine qcq 0 rfl (asl rfl) fun hla0 => ?_
  simp only [jb] at hla0
  refine qx (fun env σ => env = [] ∧ σ = [] ∧ kk0 = some res) ?_ (fun HK0 => ?_)
  ·
   rintro _ _ ⟨rfl, rfl, hr⟩
   rw [hkk0] at hr
   refine qf 2 rfl ?_
   cases hr
   refine qu Tryz.func4 rfl ?_
   rfl
  ·
   refine qm [0, 8, 9] rfl (q9 (fun n env σ => ∃ (i2 : Nat), (n = a0.length - i2) ∧ (env = [(0, .lst (a0.map qB)), (8, .int .i64 (a0.length : Int)), (9, .int .i64 (i2 : Int))]) ∧ (σ = []) ∧ (i2 ≤ a0.length) ∧ (qbZ kk0 (a0.drop i2) = some res)) _ ⟨0, rfl, rfl, rfl, jc _, hr⟩ ?_)
   rintro n _ _ ⟨i2, rfl, rfl, rfl, hi0, hr⟩ IH0
   rcases zb a0 i2 hi0 with ⟨ht0, hd0, he0⟩ | ⟨q_3, ht0, hd0, hq0, hlt0⟩
   ·
    rw [hd0, qbZ] at hr
    refine qf 3 rfl (qk 10 false rfl ht0 (qA rfl (qQ rfl (qm [] rfl ?_))))
    exact HK0 _ _ ⟨rfl, rfl, hr⟩
   ·
    rw [hd0, qbZ] at hr
    refine qf 3 rfl (qk 10 true rfl ht0 (qf 7 rfl (qg 7 (qa 2 rfl (qN hq0 rfl (qa 2 rfl (qz rfl (qa 1 rfl (qb ?_)))))))))
    refine zh 18 rfl hr (fun h18_3 hr => ?_) (fun h18_3 hr => ?_)
    ·
     refine qf 3 rfl ?_
     cases hr
     refine qu Tryz.func4 rfl ?_
     rfl
    ·
     refine qf 3 rfl (qg 2 (qaj rfl (qa 1 rfl (qb (qm [0, 8, 9] rfl ?_)))))
     exact IH0 _ _ _ (by omega) ⟨(i2 + 1), rfl, rfl, rfl, (by omega), hr⟩
noncomputable def qbO (k : Option Bool) : List T → Int → Option Bool
 | [], n2 =>
 k
 | q_4 :: rest, n2 =>
 ((qmg q_4).bind fun r5 =>
 (bif (decide ((wr (n2 + r5)) > (60 : Int))) then
 some (false)
 else
 (qbO k rest (wr (n2 + r5)))))
noncomputable def qc1 (a0 : List T) : Option Bool :=
 (bif (decide ((a0.length : Int) > (8 : Int))) then
 some (false)
 else
 (qbO (some (true)) a0 0))
theorem qf8 (a0 : List T) (res : Bool) (hr : qc1 a0 = some res) : zf Tryz.prog 33 [.lst (a0.map zi)] (.bool res) := by
 unfold qc1 at hr
 refine qY Tryz.func33 rfl fun K hK => (qf 4 rfl (qg 3 (qa 1 rfl (qz rfl (qa 1 rfl (qb ?_))))))
 refine zh 7 rfl hr (fun h7_0 hr => ?_) (fun h7_0 hr => ?_)
 ·
  refine qf 3 rfl ?_
  cases hr
  refine qu Tryz.func33 rfl ?_
  rfl
 ·
  refine qf 7 rfl ?_
  obtain ⟨kk0, hkk0, hr⟩ := exK (fun k => qbO k a0 0) hr
  refine qcq 0 rfl (asl rfl) fun hla0 => ?_
  simp only [jb] at hla0
  refine qx (fun env σ => env = [] ∧ σ = [] ∧ kk0 = some res) ?_ (fun HK0 => ?_)
  ·
   rintro _ _ ⟨rfl, rfl, hr⟩
   rw [hkk0] at hr
   refine qf 2 rfl ?_
   cases hr
   refine qu Tryz.func33 rfl ?_
   rfl
  ·
   refine qm [0, 3, 4] rfl (q9 (fun n env σ => ∃ (n2 : Int) (i3 : Nat), (n = a0.length - i3) ∧ (env = [(0, .lst (a0.map zi)), (3, .int .i64 n2), (4, .int .i64 (i3 : Int))]) ∧ (σ = []) ∧ (i3 ≤ a0.length) ∧ (qbO kk0 (a0.drop i3) n2 = some res)) _ ⟨0, 0, rfl, rfl, rfl, jc _, hr⟩ ?_)
   rintro n _ _ ⟨n2, i3, rfl, rfl, rfl, hi0, hr⟩ IH0
   rcases zb a0 i3 hi0 with ⟨ht0, hd0, he0⟩ | ⟨q_4, ht0, hd0, hq0, hlt0⟩
   ·
    rw [hd0, qbO] at hr
    refine qe (qe (qg 4 (qa 2 rfl (qz rfl (qa 1 rfl (qb (qk 11 false rfl ht0 (qA rfl (qQ rfl (qm [] rfl ?_))))))))))
    exact HK0 _ _ ⟨rfl, rfl, hr⟩
   ·
    rw [hd0, qbO] at hr
    refine qe (qe (qg 4 (qa 2 rfl (qz rfl (qa 1 rfl (qb (qk 11 true rfl ht0 (qf 5 rfl (qg 8 (qa 3 rfl (qN hq0 rfl (qa 1 rfl ?_))))))))))))
    obtain ⟨r5, h5, hr⟩ := za hr
    refine qs rfl qf5 (qfY _ _ h5) (rd rfl (qeF rfl rfl rfl rfl) (qa 1 rfl (qb (qf 2 rfl ?_))))
    refine zh 22 rfl hr (fun h22_5 hr => ?_) (fun h22_5 hr => ?_)
    ·
     refine qf 3 rfl ?_
     cases hr
     refine qu Tryz.func33 rfl ?_
     rfl
    ·
     refine qf 3 rfl (qg 3 (qa 1 rfl (qaj rfl (qa 1 rfl (qb (qm [0, 3, 4] rfl ?_))))))
     exact IH0 _ _ _ (by omega) ⟨(wr (n2 + r5)), (i3 + 1), rfl, rfl, rfl, (by omega), hr⟩
noncomputable def qb7 (k : Option Bool) : List At → Option Bool
 | [] =>
 k
 | q_2 :: rest =>
 ((qc1 q_2.ts).bind fun r3 =>
 (bif (!r3) then
 some (false)
 else
 (qb7 k rest)))
noncomputable def qdn (a0 : List At) : Option Bool :=
 (qb7 (some (true)) a0)
theorem qhx (a0 : List At) (res : Bool) (hr : qdn a0 = some res) : zf Tryz.prog 32 [.lst (a0.map zX)] (.bool res) := by
 unfold qdn at hr
 refine qY Tryz.func32 rfl fun K hK => (qf 5 rfl ?_)
 obtain ⟨kk0, hkk0, hr⟩ := exK (fun k => qb7 k a0) hr
 refine qcq 0 rfl (asl rfl) fun hla0 => ?_
 simp only [jb] at hla0
 refine qx (fun env σ => env = [] ∧ σ = [] ∧ kk0 = some res) ?_ (fun HK0 => ?_)
 ·
  rintro _ _ ⟨rfl, rfl, hr⟩
  rw [hkk0] at hr
  refine qf 2 rfl ?_
  cases hr
  refine qu Tryz.func32 rfl ?_
  rfl
 ·
  refine qm [0, 3] rfl (q9 (fun n env σ => ∃ (i1 : Nat), (n = a0.length - i1) ∧ (env = [(0, .lst (a0.map zX)), (3, .int .i64 (i1 : Int))]) ∧ (σ = []) ∧ (i1 ≤ a0.length) ∧ (qb7 kk0 (a0.drop i1) = some res)) _ ⟨0, rfl, rfl, rfl, jc _, hr⟩ ?_)
  rintro n _ _ ⟨i1, rfl, rfl, rfl, hi0, hr⟩ IH0
  rcases zb a0 i1 hi0 with ⟨ht0, hd0, he0⟩ | ⟨q_2, ht0, hd0, hq0, hlt0⟩
  ·
   rw [hd0, qb7] at hr
   refine qe (qe (qg 4 (qa 2 rfl (qz rfl (qa 1 rfl (qb (qk 7 false rfl ht0 (qA rfl (qQ rfl (qm [] rfl ?_))))))))))
   exact HK0 _ _ ⟨rfl, rfl, hr⟩
  ·
   rw [hd0, qb7] at hr
   refine qe (qe (qg 4 (qa 2 rfl (qz rfl (qa 1 rfl (qb (qk 7 true rfl ht0 (qf 5 rfl (qg 7 (qa 2 rfl (qN hq0 rfl (qa 2 rfl ?_))))))))))))
   obtain ⟨r3, h3, hr⟩ := za hr
   refine qs rfl qf7 (qf8 _ _ h3) (qa 1 rfl (qb ?_))
   refine zh 16 rfl hr (fun h16_3 hr => ?_) (fun h16_3 hr => ?_)
   ·
    refine qf 3 rfl ?_
    cases hr
    refine qu Tryz.func32 rfl ?_
    rfl
   ·
    refine qf 3 rfl (qg 3 (qa 1 rfl (qaj rfl (qa 1 rfl (qb (qm [0, 3] rfl ?_))))))
    exact IH0 _ _ _ (by omega) ⟨(i1 + 1), rfl, rfl, rfl, (by omega), hr⟩
noncomputable def qbr (k : Option Bool) : List Gl → Option Bool
 | [] =>
 k
 | q_3 :: rest =>
 ((qc1 q_3.ts).bind fun r4 =>
 (bif (!r4) then
 some (false)
 else
 (qbr k rest)))
noncomputable def qcs (a0 : List Gl) (a1 : Int) : Option Bool :=
 (bif (decide ((a0.length : Int) > a1)) then
 some (false)
 else
 (qbr (some (true)) a0))
theorem qeX (a0 : List Gl) (a1 : Int) (res : Bool) (hr : qcs a0 a1 = some res) : zf Tryz.prog 13 [.lst (a0.map zA), .int .i64 a1] (.bool res) := by
 unfold qcs at hr
 refine qY Tryz.func13 rfl fun K hK => (qf 4 rfl (qg 4 (qa 1 rfl (qz rfl (qa 2 rfl (qb ?_))))))
 refine zh 9 rfl hr (fun h9_0 hr => ?_) (fun h9_0 hr => ?_)
 ·
  refine qf 3 rfl ?_
  cases hr
  refine qu Tryz.func13 rfl ?_
  rfl
 ·
  refine qf 5 rfl ?_
  obtain ⟨kk0, hkk0, hr⟩ := exK (fun k => qbr k a0) hr
  refine qcq 0 rfl (asl rfl) fun hla0 => ?_
  simp only [jb] at hla0
  refine qx (fun env σ => env = [] ∧ σ = [] ∧ kk0 = some res) ?_ (fun HK0 => ?_)
  ·
   rintro _ _ ⟨rfl, rfl, hr⟩
   rw [hkk0] at hr
   refine qf 2 rfl ?_
   cases hr
   refine qu Tryz.func13 rfl ?_
   rfl
  ·
   refine qm [0, 5] rfl (q9 (fun n env σ => ∃ (i2 : Nat), (n = a0.length - i2) ∧ (env = [(0, .lst (a0.map zA)), (5, .int .i64 (i2 : Int))]) ∧ (σ = []) ∧ (i2 ≤ a0.length) ∧ (qbr kk0 (a0.drop i2) = some res)) _ ⟨0, rfl, rfl, rfl, jc _, hr⟩ ?_)
   rintro n _ _ ⟨i2, rfl, rfl, rfl, hi0, hr⟩ IH0
   rcases zb a0 i2 hi0 with ⟨ht0, hd0, he0⟩ | ⟨q_3, ht0, hd0, hq0, hlt0⟩
   ·
    rw [hd0, qbr] at hr
    refine qe (qe (qg 4 (qa 2 rfl (qz rfl (qa 1 rfl (qb (qk 13 false rfl ht0 (qA rfl (qQ rfl (qm [] rfl ?_))))))))))
    exact HK0 _ _ ⟨rfl, rfl, hr⟩
   ·
    rw [hd0, qbr] at hr
    refine qe (qe (qg 4 (qa 2 rfl (qz rfl (qa 1 rfl (qb (qk 13 true rfl ht0 (qf 5 rfl (qg 7 (qa 2 rfl (qN hq0 rfl (qa 2 rfl ?_))))))))))))
    obtain ⟨r4, h4, hr⟩ := za hr
    refine qs rfl qf7 (qf8 _ _ h4) (qa 1 rfl (qb ?_))
    refine zh 22 rfl hr (fun h22_4 hr => ?_) (fun h22_4 hr => ?_)
    ·
     refine qf 3 rfl ?_
     cases hr
     refine qu Tryz.func13 rfl ?_
     rfl
    ·
     refine qf 3 rfl (qg 3 (qa 1 rfl (qaj rfl (qa 1 rfl (qb (qm [0, 5] rfl ?_))))))
     exact IH0 _ _ _ (by omega) ⟨(i2 + 1), rfl, rfl, rfl, (by omega), hr⟩
noncomputable def qaQ (k : Option Bool) : List qD → Option Bool
 | [] =>
 k
 | q_4 :: rest =>
 (bif (decide ((q_4.f1_Keep.length : Int) > (3 : Int))) then
 some (false)
 else
 (bif (decide ((q_4.f2_Remove.length : Int) > (3 : Int))) then
 some (false)
 else
 (bif (decide ((wr ((q_4.f1_Keep.length : Int) + (q_4.f2_Remove.length : Int))) > (3 : Int))) then
 some (false)
 else
 (bif (decide ((q_4.f3_Guard.length : Int) > (6 : Int))) then
 some (false)
 else
 (bif (decide ((q_4.f4_Body.length : Int) > (6 : Int))) then
 some (false)
 else
 ((qdn q_4.f1_Keep).bind fun r11 =>
 (bif (!r11) then
 some (false)
 else
 ((qdn q_4.f2_Remove).bind fun r13 =>
 (bif (!r13) then
 some (false)
 else
 ((qcs q_4.f3_Guard 6).bind fun r15 =>
 (bif (!r15) then
 some (false)
 else
 ((qcs q_4.f4_Body 6).bind fun r17 =>
 (bif (!r17) then
 some (false)
 else
 (qaQ k rest))))))))))))))
noncomputable def qdz (a0 : qn) : Option Bool :=
 (bif (decide ((a0.f0_Decls.length : Int) > (12 : Int))) then
 some (false)
 else
 (bif (decide ((a0.f1_Rules.length : Int) > (8 : Int))) then
 some (false)
 else
 (qaQ (some (true)) a0.f1_Rules)))
theorem qiV (a0 : qn) (res : Bool) (hr : qdz a0 = some res) : zf Tryz.prog 12 [ql a0] (.bool res) := by
 unfold qdz at hr
 refine qY Tryz.func12 rfl fun K hK => (qe (qg 2 (rd rfl (qcK rfl rfl rfl) (qa 1 rfl (qb (qe (qe (qg 10 (qa 2 rfl (qz rfl (qa 2 rfl ?_)))))))))))
 refine zq 9 rfl hr (fun h9_0 hr => ?_) (fun h9_0 hr => ?_)
 ·
  refine qa 5 rfl (qb (qf 3 rfl ?_))
  cases hr
  refine qu Tryz.func12 rfl ?_
  rfl
 ·
  refine qa 2 rfl (qz rfl (qa 2 rfl (qb ?_)))
  refine zh 14 rfl hr (fun h14_1 hr => ?_) (fun h14_1 hr => ?_)
  ·
   refine qf 3 rfl ?_
   cases hr
   refine qu Tryz.func12 rfl ?_
   rfl
  ·
   refine qf 5 rfl ?_
   obtain ⟨kk0, hkk0, hr⟩ := exK (fun k => qaQ k a0.f1_Rules) hr
   refine qcq 11 rfl (asl rfl) fun hla0 => ?_
   simp only [jb] at hla0
   refine qx (fun env σ => env = [] ∧ σ = [] ∧ kk0 = some res) ?_ (fun HK0 => ?_)
   ·
    rintro _ _ ⟨rfl, rfl, hr⟩
    rw [hkk0] at hr
    refine qf 2 rfl ?_
    cases hr
    refine qu Tryz.func12 rfl ?_
    rfl
   ·
    refine qm [1, 3] rfl (q9 (fun n env σ => ∃ (i3 : Nat), (n = a0.f1_Rules.length - i3) ∧ (env = [(1, .ptr (ql a0)), (3, .int .i64 (i3 : Int))]) ∧ (σ = []) ∧ (i3 ≤ a0.f1_Rules.length) ∧ (qaQ kk0 (a0.f1_Rules.drop i3) = some res)) _ ⟨0, rfl, rfl, rfl, jc _, hr⟩ ?_)
    rintro n _ _ ⟨i3, rfl, rfl, rfl, hi0, hr⟩ IH0
    rcases zb a0.f1_Rules i3 hi0 with ⟨ht0, hd0, he0⟩ | ⟨q_4, ht0, hd0, hq0, hlt0⟩
    ·
     rw [hd0, qaQ] at hr
     refine qe (qe (qg 5 (qa 3 rfl (qz rfl (qa 1 rfl (qb (qk 19 false rfl ht0 (qA rfl (qQ rfl (qm [] rfl ?_))))))))))
     exact HK0 _ _ ⟨rfl, rfl, hr⟩
    ·
     rw [hd0, qaQ] at hr
     refine qe (qe (qg 5 (qa 3 rfl (qz rfl (qa 1 rfl (qb (qk 19 true rfl ht0 (qf 5 rfl (zg 7 5120 (qa 3 rfl (qN hq0 rfl (qa 1 rfl (ew rfl (qaJ rfl qgt) ?_)))))))))))))
     rintro _ _ ⟨b4_4, rfl, rfl⟩
     refine qcr rfl (pf0 _) (qb (qaR 4 b4_4 rfl (pf0 _) (qe (qe (qg 32 (qa 2 rfl (qz rfl (qa 2 rfl ?_))))))))
     refine zq 31 rfl hr (fun h31_5 hr => ?_) (fun h31_5 hr => ?_)
     ·
      refine qa 27 rfl (qb (qf 3 rfl ?_))
      cases hr
      refine qu Tryz.func12 rfl ?_
      rfl
     ·
      refine qa 2 rfl (qz rfl (qa 3 rfl ?_))
      refine zq 37 rfl hr (fun h37_6 hr => ?_) (fun h37_6 hr => ?_)
      ·
       refine qa 21 rfl (qb (qf 3 rfl ?_))
       cases hr
       refine qu Tryz.func12 rfl ?_
       rfl
      ·
       refine qa 2 rfl (qz rfl (qa 2 rfl (qz rfl (rd rfl (qeF rfl rfl rfl rfl) (qa 3 rfl ?_)))))
       refine zq 47 rfl hr (fun h47_7 hr => ?_) (fun h47_7 hr => ?_)
       ·
        refine qa 11 rfl (qb (qf 3 rfl ?_))
        cases hr
        refine qu Tryz.func12 rfl ?_
        rfl
       ·
        refine qa 2 rfl (qz rfl (qa 3 rfl ?_))
        refine zq 53 rfl hr (fun h53_8 hr => ?_) (fun h53_8 hr => ?_)
        ·
         refine qa 5 rfl (qb (qf 3 rfl ?_))
         cases hr
         refine qu Tryz.func12 rfl ?_
         rfl
        ·
         refine qa 2 rfl (qz rfl (qa 2 rfl (qb ?_)))
         refine zh 58 rfl hr (fun h58_9 hr => ?_) (fun h58_9 hr => ?_)
         ·
          refine qf 3 rfl ?_
          cases hr
          refine qu Tryz.func12 rfl ?_
          rfl
         ·
          refine qf 3 rfl (qg 22 (qa 2 rfl ?_))
          obtain ⟨r11, h11, hr⟩ := za hr
          refine qs rfl qhi (qhx _ _ h11) (qa 2 rfl ?_)
          refine zq 63 rfl hr (fun h63_11 hr => ?_) (fun h63_11 hr => ?_)
          ·
           refine qa 17 rfl (qb (qf 3 rfl ?_))
           cases hr
           refine qu Tryz.func12 rfl ?_
           rfl
          ·
           refine qa 2 rfl ?_
           obtain ⟨r13, h13, hr⟩ := za hr
           refine qs rfl qhi (qhx _ _ h13) (qa 3 rfl ?_)
           refine zq 69 rfl hr (fun h69_13 hr => ?_) (fun h69_13 hr => ?_)
           ·
            refine qa 11 rfl (qb (qf 3 rfl ?_))
            cases hr
            refine qu Tryz.func12 rfl ?_
            rfl
           ·
            refine qa 2 rfl ?_
            obtain ⟨r15, h15, hr⟩ := za hr
            refine qs rfl qeY (qeX _ _ _ h15) (qa 3 rfl ?_)
            refine zq 75 rfl hr (fun h75_15 hr => ?_) (fun h75_15 hr => ?_)
            ·
             refine qa 5 rfl (qb (qf 3 rfl ?_))
             cases hr
             refine qu Tryz.func12 rfl ?_
             rfl
            ·
             refine qa 2 rfl ?_
             obtain ⟨r17, h17, hr⟩ := za hr
             refine qs rfl qeY (qeX _ _ _ h17) (qa 2 rfl (qb ?_))
             refine zh 80 rfl hr (fun h80_17 hr => ?_) (fun h80_17 hr => ?_)
             ·
              refine qf 3 rfl ?_
              cases hr
              refine qu Tryz.func12 rfl ?_
              rfl
             ·
              refine qf 3 rfl (qg 3 (qa 1 rfl (qaj rfl (qa 1 rfl (qb (qm [1, 3] rfl ?_))))))
              exact IH0 _ _ _ (by omega) ⟨(i3 + 1), rfl, rfl, rfl, (by omega), hr⟩
noncomputable def qap (k : Option Bool) : List qq → Option Bool
 | [] =>
 k
 | q_7 :: rest =>
 (bif (decide ((q_7.f1_IDs.length : Int) > (8 : Int))) then
 some (false)
 else
 (qap k rest))
noncomputable def qaW (k : Option Bool) : List (Int × T) → Option Bool
 | [] =>
 k
 | q_9 :: rest =>
 ((qmg q_9.2).bind fun r10 =>
 (bif (decide (r10 > (60 : Int))) then
 some (false)
 else
 (qaW k rest)))
noncomputable def qbp (k : Option Bool) : List (Int × At) → Option Bool
 | [] =>
 k
 | q_12 :: rest =>
 ((qc1 q_12.2.ts).bind fun r13 =>
 (bif (!r13) then
 some (false)
 else
 (qbp k rest)))
noncomputable def qd2 (a0 : List (Int × At)) (a1 : List (Int × T)) (a2 : List qq) : Option Bool :=
 (bif (decide ((a0.length : Int) > (9 : Int))) then
 some (false)
 else
 (bif (decide ((a1.length : Int) > (20 : Int))) then
 some (false)
 else
 (bif (decide ((a2.length : Int) > (30 : Int))) then
 some (false)
 else
 (qbp ((qaW ((qap (some (true)) a2)) a1)) a0))))
theorem qku (a0 : List (Int × At)) (a1 : List (Int × T)) (a2 : List qq) (res : Bool) (hr : qd2 a0 a1 a2 = some res) : zf Tryz.prog 14 [.lst (a0.map zr), .lst (a1.map zo), .lst (a2.map qh)] (.bool res) := by
 unfold qd2 at hr
 refine qY Tryz.func14 rfl fun K hK => (qf 4 rfl (qg 13 (qa 1 rfl (qz rfl (qa 2 rfl ?_)))))
 refine zq 13 rfl hr (fun h13_0 hr => ?_) (fun h13_0 hr => ?_)
 ·
  refine qa 9 rfl (qb (qf 3 rfl ?_))
  cases hr
  refine qu Tryz.func14 rfl ?_
  rfl
 ·
  refine qa 1 rfl (qz rfl (qa 3 rfl ?_))
  refine zq 18 rfl hr (fun h18_1 hr => ?_) (fun h18_1 hr => ?_)
  ·
   refine qa 4 rfl (qb (qf 3 rfl ?_))
   cases hr
   refine qu Tryz.func14 rfl ?_
   rfl
  ·
   refine qa 1 rfl (qz rfl (qa 2 rfl (qb ?_)))
   refine zh 22 rfl hr (fun h22_2 hr => ?_) (fun h22_2 hr => ?_)
   ·
    refine qf 3 rfl ?_
    cases hr
    refine qu Tryz.func14 rfl ?_
    rfl
   ·
    refine qf 5 rfl ?_
    obtain ⟨kk0, hkk0, hr⟩ := exK (fun k => qbp k a0) hr
    refine qcq 0 rfl (asl rfl) fun hla0 => ?_
    simp only [jb] at hla0
    refine qx (fun env σ => env = [(1, .lst (a1.map zo)), (2, .lst (a2.map qh))] ∧ σ = [] ∧ kk0 = some res) ?_ (fun HK0 => ?_)
    ·
     rintro _ _ ⟨rfl, rfl, hr⟩
     rw [hkk0] at hr
     refine qf 3 rfl ?_
     obtain ⟨kk1, hkk1, hr⟩ := exK (fun k => qaW k a1) hr
     refine qcq 1 rfl (asl rfl) fun hla1 => ?_
     simp only [jb] at hla1
     refine qx (fun env σ => env = [(2, .lst (a2.map qh))] ∧ σ = [] ∧ kk1 = some res) ?_ (fun HK1 => ?_)
     ·
      rintro _ _ ⟨rfl, rfl, hr⟩
      rw [hkk1] at hr
      refine qf 3 rfl ?_
      obtain ⟨kk2, hkk2, hr⟩ := exK (fun k => qap k a2) hr
      refine qcq 2 rfl (asl rfl) fun hla2 => ?_
      simp only [jb] at hla2
      refine qx (fun env σ => env = [] ∧ σ = [] ∧ kk2 = some res) ?_ (fun HK2 => ?_)
      ·
       rintro _ _ ⟨rfl, rfl, hr⟩
       rw [hkk2] at hr
       refine qf 2 rfl ?_
       cases hr
       refine qu Tryz.func14 rfl ?_
       rfl
      ·
       refine qm [2, 9] rfl (q9 (fun n env σ => ∃ (i6 : Nat), (n = a2.length - i6) ∧ (env = [(2, .lst (a2.map qh)), (9, .int .i64 (i6 : Int))]) ∧ (σ = []) ∧ (i6 ≤ a2.length) ∧ (qap kk2 (a2.drop i6) = some res)) _ ⟨0, rfl, rfl, rfl, jc _, hr⟩ ?_)
       rintro n _ _ ⟨i6, rfl, rfl, rfl, hi2, hr⟩ IH2
       rcases zb a2 i6 hi2 with ⟨ht2, hd2, he2⟩ | ⟨q_7, ht2, hd2, hq2, hlt2⟩
       ·
        rw [hd2, qap] at hr
        refine qe (qe (qg 4 (qa 2 rfl (qz rfl (qa 1 rfl (qb (qk 53 false rfl ht2 (qA rfl (qQ rfl (qm [] rfl ?_))))))))))
        exact HK2 _ _ ⟨rfl, rfl, hr⟩
       ·
        rw [hd2, qap] at hr
        refine qe (qe (qg 4 (qa 2 rfl (qz rfl (qa 1 rfl (qb (qk 53 true rfl ht2 (qf 5 rfl (qg 7 (qa 2 rfl (qN hq2 rfl (qa 2 rfl (qz rfl ?_)))))))))))))
        refine qa 1 rfl (qb ?_)
        refine zh 62 rfl hr (fun h62_7 hr => ?_) (fun h62_7 hr => ?_)
        ·
         refine qf 3 rfl ?_
         cases hr
         refine qu Tryz.func14 rfl ?_
         rfl
        ·
         refine qf 3 rfl (qg 3 (qa 1 rfl (qaj rfl (qa 1 rfl (qb (qm [2, 9] rfl ?_))))))
         exact IH2 _ _ _ (by omega) ⟨(i6 + 1), rfl, rfl, rfl, (by omega), hr⟩
     ·
      refine qm [1, 2, 8] rfl (q9 (fun n env σ => ∃ (i5 : Nat), (n = a1.length - i5) ∧ (env = [(1, .lst (a1.map zo)), (2, .lst (a2.map qh)), (8, .int .i64 (i5 : Int))]) ∧ (σ = []) ∧ (i5 ≤ a1.length) ∧ (qaW kk1 (a1.drop i5) = some res)) _ ⟨0, rfl, rfl, rfl, jc _, hr⟩ ?_)
      rintro n _ _ ⟨i5, rfl, rfl, rfl, hi1, hr⟩ IH1
      rcases zb a1 i5 hi1 with ⟨ht1, hd1, he1⟩ | ⟨q_9, ht1, hd1, hq1, hlt1⟩
      ·
       rw [hd1, qaW] at hr
       refine qe (qe (qg 4 (qa 2 rfl (qz rfl (qa 1 rfl (qb (qk 40 false rfl ht1 (qA rfl (qQ rfl (qm [2] rfl ?_))))))))))
       exact HK1 _ _ ⟨rfl, rfl, hr⟩
      ·
       rw [hd1, qaW] at hr
       refine qe (qe (qg 4 (qa 2 rfl (qz rfl (qa 1 rfl (qb (qk 40 true rfl ht1 (qf 5 rfl (qg 7 (qa 2 rfl (qN hq1 rfl (qa 2 rfl ?_))))))))))))
       obtain ⟨r10, h10, hr⟩ := za hr
       refine qs rfl qf5 (qfY _ _ h10) (qa 1 rfl (qb ?_))
       refine zh 49 rfl hr (fun h49_10 hr => ?_) (fun h49_10 hr => ?_)
       ·
        refine qf 3 rfl ?_
        cases hr
        refine qu Tryz.func14 rfl ?_
        rfl
       ·
        refine qf 3 rfl (qg 3 (qa 1 rfl (qaj rfl (qa 1 rfl (qb (qm [1, 2, 8] rfl ?_))))))
        exact IH1 _ _ _ (by omega) ⟨(i5 + 1), rfl, rfl, rfl, (by omega), hr⟩
    ·
     refine qm [0, 1, 2, 7] rfl (q9 (fun n env σ => ∃ (i4 : Nat), (n = a0.length - i4) ∧ (env = [(0, .lst (a0.map zr)), (1, .lst (a1.map zo)), (2, .lst (a2.map qh)), (7, .int .i64 (i4 : Int))]) ∧ (σ = []) ∧ (i4 ≤ a0.length) ∧ (qbp kk0 (a0.drop i4) = some res)) _ ⟨0, rfl, rfl, rfl, jc _, hr⟩ ?_)
     rintro n _ _ ⟨i4, rfl, rfl, rfl, hi0, hr⟩ IH0
     rcases zb a0 i4 hi0 with ⟨ht0, hd0, he0⟩ | ⟨q_12, ht0, hd0, hq0, hlt0⟩
     ·
      rw [hd0, qbp] at hr
      refine qe (qe (qg 4 (qa 2 rfl (qz rfl (qa 1 rfl (qb (qk 26 false rfl ht0 (qA rfl (qQ rfl (qm [1, 2] rfl ?_))))))))))
      exact HK0 _ _ ⟨rfl, rfl, hr⟩
     ·
      rw [hd0, qbp] at hr
      refine qe (qe (qg 4 (qa 2 rfl (qz rfl (qa 1 rfl (qb (qk 26 true rfl ht0 (qf 5 rfl (qg 8 (qa 2 rfl (qN hq0 rfl (qa 3 rfl ?_))))))))))))
      obtain ⟨r13, h13, hr⟩ := za hr
      refine qs rfl qf7 (qf8 _ _ h13) (qa 1 rfl (qb ?_))
      refine zh 36 rfl hr (fun h36_13 hr => ?_) (fun h36_13 hr => ?_)
      ·
       refine qf 3 rfl ?_
       cases hr
       refine qu Tryz.func14 rfl ?_
       rfl
      ·
       refine qf 3 rfl (qg 3 (qa 1 rfl (qaj rfl (qa 1 rfl (qb (qm [0, 1, 2, 7] rfl ?_))))))
       exact IH0 _ _ _ (by omega) ⟨(i4 + 1), rfl, rfl, rfl, (by omega), hr⟩
noncomputable def qeb (a0 : qn) (a1 : qw) : Option Bool :=
 ((qdz a0).bind fun r1 =>
 (bif r1 then
 ((qcs a1.f0_Goals 10).bind fun r3 =>
 (bif r3 then
 ((qcs a1.f4_Known 6).bind fun r5 =>
 (bif r5 then
 ((qd2 a1.f1_Store a1.f2_Binds a1.f3_Fired).bind fun r7 =>
 some (r7))
 else
 some (false)))
 else
 some (false)))
 else
 some (false)))
theorem qkr (a0 : qn) (a1 : qw) (res : Bool) (hr : qeb a0 a1 = some res) : zf Tryz.prog 5 [ql a0, qJ a1] (.bool res) := by
 unfold qeb at hr
 refine qY Tryz.func5 rfl fun K hK => (qe (qg 3 (rd rfl (qcK rfl rfl rfl) (rd rfl (qcK rfl rfl rfl) (qa 1 rfl (qb (qe (qg 22 (qa 1 rfl ?_)))))))))
 obtain ⟨r1, h1, hr⟩ := za hr
 refine qs rfl qjh (qiV _ _ h1) (qa 1 rfl ?_)
 refine zq 7 rfl hr (fun h7_1 hr => ?_) (fun h7_1 hr => ?_)
 ·
  refine qa 2 rfl ?_
  obtain ⟨r3, h3, hr⟩ := za hr
  refine qs rfl qeY (qeX _ _ _ h3) (qa 2 rfl ?_)
  refine zq 12 rfl hr (fun h12_3 hr => ?_) (fun h12_3 hr => ?_)
  ·
   refine qa 2 rfl ?_
   obtain ⟨r5, h5, hr⟩ := za hr
   refine qs rfl qeY (qeX _ _ _ h5) (qa 2 rfl ?_)
   refine zq 17 rfl hr (fun h17_5 hr => ?_) (fun h17_5 hr => ?_)
   ·
    refine qa 6 rfl ?_
    obtain ⟨r7, h7, hr⟩ := za hr
    refine qs rfl qky (qku _ _ _ _ h7) (qa 2 rfl (qb ?_))
    cases hr
    refine qu Tryz.func5 rfl ?_
    rfl
   ·
    refine qa 9 rfl (qb ?_)
    cases hr
    refine qu Tryz.func5 rfl ?_
    rfl
  ·
   refine qa 14 rfl (qb ?_)
   cases hr
   refine qu Tryz.func5 rfl ?_
   rfl
 ·
  refine qa 19 rfl (qb ?_)
  cases hr
  refine qu Tryz.func5 rfl ?_
  rfl
noncomputable def qfQ (a0 : Int) : Option Bool :=
 (bif (decide (a0 < (0 : Int))) then
 some (true)
 else
 some ((decide (a0 > (1048576 : Int)))))
theorem qlM (a0 : Int) (res : Bool) (hr : qfQ a0 = some res) : zf Tryz.prog 67 [.int .i64 a0] (.bool res) := by
 unfold qfQ at hr
 refine qY Tryz.func67 rfl fun K hK => (qf 3 rfl (qg 7 (qa 3 rfl ?_)))
 refine zq 5 rfl hr (fun h5_0 hr => ?_) (fun h5_0 hr => ?_)
 ·
  refine qa 4 rfl (qb ?_)
  cases hr
  refine qu Tryz.func67 rfl ?_
  rfl
 ·
  refine qa 4 rfl (qb ?_)
  cases hr
  refine qu Tryz.func67 rfl ?_
  rfl
noncomputable def qbX (k : Option Int) : List Int → Nat → Option Int
 | [], i1 =>
 k
 | q_2 :: rest, i1 =>
 ((qfQ q_2).bind fun r3 =>
 (bif r3 then
 some ((i1 : Int))
 else
 (qbX k rest (i1 + 1))))
noncomputable def qfd (a0 : List Int) : Option Int :=
 (qbX (some ((-1))) a0 0)
theorem qlm (a0 : List Int) (res : Int) (hr : qfd a0 = some res) : zf Tryz.prog 101 [.lst (a0.map (D.int .i64)), .clo (.func 67) [] []] (.int .i64 res) := by
 unfold qfd at hr
 refine qY Tryz.func101 rfl fun K hK => (qf 4 rfl (qg 3 (qa 1 rfl (qz rfl (qa 1 rfl (qb ?_))))))
 obtain ⟨kk0, hkk0, hr⟩ := exK (fun k => qbX k a0 0) hr
 refine qcq 0 rfl (asl rfl) fun hla0 => ?_
 simp only [jb] at hla0
 refine qx (fun env σ => env = [] ∧ σ = [] ∧ kk0 = some res) ?_ (fun HK0 => ?_)
 ·
  rintro _ _ ⟨rfl, rfl, hr⟩
  rw [hkk0] at hr
  refine qf 2 rfl ?_
  cases hr
  refine qu Tryz.func101 rfl ?_
  rfl
 ·
  refine qm [0, 1, 7, 8] rfl (q9 (fun n env σ => ∃ (i1 : Nat), (n = a0.length - i1) ∧ (env = [(0, .lst (a0.map (D.int .i64))), (1, .clo (.func 67) [] []), (7, .int .i64 (a0.length : Int)), (8, .int .i64 (i1 : Int))]) ∧ (σ = []) ∧ (i1 ≤ a0.length) ∧ (qbX kk0 (a0.drop i1) i1 = some res)) _ ⟨0, rfl, rfl, rfl, jc _, hr⟩ ?_)
  rintro n _ _ ⟨i1, rfl, rfl, rfl, hi0, hr⟩ IH0
  rcases zb a0 i1 hi0 with ⟨ht0, hd0, he0⟩ | ⟨q_2, ht0, hd0, hq0, hlt0⟩
  ·
   rw [hd0, qbX] at hr
   refine qf 3 rfl (qk 9 false rfl ht0 (qA rfl (qQ rfl (qm [] rfl ?_))))
   exact HK0 _ _ ⟨rfl, rfl, hr⟩
  ·
   rw [hd0, qbX] at hr
   refine qf 3 rfl (qk 9 true rfl ht0 (qf 7 rfl (qg 6 (qa 3 rfl (qN hq0 rfl (qa 1 rfl ?_))))))
   obtain ⟨r3, h3, hr⟩ := za hr
   refine rd rfl (qqX rfl rfl qlG (.oc rfl .nil) rfl (qlM _ _ h3)) (qb ?_)
   refine zh 16 rfl hr (fun h16_3 hr => ?_) (fun h16_3 hr => ?_)
   ·
    refine qf 3 rfl ?_
    cases hr
    refine qu Tryz.func101 rfl ?_
    rfl
   ·
    refine qf 3 rfl (qg 2 (qaj rfl (qa 1 rfl (qb (qm [0, 1, 7, 8] rfl ?_)))))
    exact IH0 _ _ _ (by omega) ⟨(i1 + 1), rfl, rfl, rfl, (by omega), hr⟩
noncomputable def qeC (a0 : List Int) : Option Bool :=
 ((qfd a0).bind fun r1 =>
 some ((decide (r1 ≥ (0 : Int)))))
theorem qjN (a0 : List Int) (res : Bool) (hr : qeC a0 = some res) : zf Tryz.prog 68 [.lst (a0.map (D.int .i64)), .clo (.func 67) [] []] (.bool res) := by
 unfold qeC at hr
 refine qY Tryz.func68 rfl fun K hK => (qf 3 rfl (qg 5 (qa 2 rfl ?_)))
 obtain ⟨r1, h1, hr⟩ := za hr
 refine qs rfl qi7 (qlm _ _ h1) (qa 2 rfl (qb ?_))
 cases hr
 refine qu Tryz.func68 rfl ?_
 rfl
noncomputable def qfU (a0 : qj) : Option Bool :=
 ((qfQ a0.f1_Const).bind fun r1 =>
 (bif (!r1) then
 (bif (decide ((a0.f2_Factors.length : Int) ≤ (6 : Int))) then
 ((qeC a0.f2_Factors).bind fun r4 =>
 some ((!r4)))
 else
 some (false))
 else
 some (false)))
theorem qlj (a0 : qj) (res : Bool) (hr : qfU a0 = some res) : zf Tryz.prog 35 [qB a0] (.bool res) := by
 unfold qfU at hr
 refine qY Tryz.func35 rfl fun K hK => (qe (qg 2 (rd rfl (qcK rfl rfl rfl) (qa 1 rfl (qb (qf 3 rfl (qg 19 (qa 3 rfl ?_))))))))
 obtain ⟨r1, h1, hr⟩ := za hr
 refine rd rfl (qqX rfl rfl qlG (.oc rfl .nil) rfl (qlM _ _ h1)) (qa 2 rfl ?_)
 refine zq 9 rfl hr (fun h9_1 hr => ?_) (fun h9_1 hr => ?_)
 ·
  refine qa 2 rfl (qz rfl (qa 3 rfl ?_))
  refine zq 15 rfl hr (fun h15_2 hr => ?_) (fun h15_2 hr => ?_)
  ·
   refine qa 3 rfl ?_
   obtain ⟨r4, h4, hr⟩ := za hr
   refine qs rfl qiv (qjN _ _ h4) (qa 3 rfl (qb ?_))
   cases hr
   refine qu Tryz.func35 rfl ?_
   rfl
  ·
   refine qa 7 rfl (qb ?_)
   cases hr
   refine qu Tryz.func35 rfl ?_
   rfl
 ·
  refine qa 13 rfl (qb ?_)
  cases hr
  refine qu Tryz.func35 rfl ?_
  rfl
noncomputable def qet (k : Option Bool) : List qj → Option Bool
 | [] =>
 k
 | q_2 :: rest =>
 ((qfU q_2).bind fun r4 =>
 (bif (!r4) then
 some (false)
 else
 (qet k rest)))
noncomputable def qf6 (a0 : List qj) : Option Bool :=
 (qet (some (true)) a0)
theorem qmk (a0 : List qj) (res : Bool) (hr : qf6 a0 = some res) : zf Tryz.prog 15 [.lst (a0.map qB)] (.bool res) := by
 unfold qf6 at hr
 refine qY Tryz.func15 rfl fun K hK => (qf 4 rfl (qg 3 (qa 1 rfl (qz rfl (qa 1 rfl (qb ?_))))))
 obtain ⟨kk0, hkk0, hr⟩ := exK (fun k => qet k a0) hr
 refine qcq 0 rfl (asl rfl) fun hla0 => ?_
 simp only [jb] at hla0
 refine qx (fun env σ => env = [] ∧ σ = [] ∧ kk0 = some res) ?_ (fun HK0 => ?_)
 ·
  rintro _ _ ⟨rfl, rfl, hr⟩
  rw [hkk0] at hr
  refine qf 2 rfl ?_
  cases hr
  refine qu Tryz.func15 rfl ?_
  rfl
 ·
  refine qm [5, 6, 7] rfl (q9 (fun n env σ => ∃ (i1 : Nat), (n = a0.length - i1) ∧ (env = [(5, .lst (a0.map qB)), (6, .int .i64 (a0.length : Int)), (7, .int .i64 (i1 : Int))]) ∧ (σ = []) ∧ (i1 ≤ a0.length) ∧ (qet kk0 (a0.drop i1) = some res)) _ ⟨0, rfl, rfl, rfl, jc _, hr⟩ ?_)
  rintro n _ _ ⟨i1, rfl, rfl, rfl, hi0, hr⟩ IH0
  rcases zb a0 i1 hi0 with ⟨ht0, hd0, he0⟩ | ⟨q_2, ht0, hd0, hq0, hlt0⟩
  ·
   rw [hd0, qet] at hr
   refine qf 3 rfl (qk 8 false rfl ht0 (qA rfl (qQ rfl (qm [] rfl ?_))))
   exact HK0 _ _ ⟨rfl, rfl, hr⟩
  ·
   rw [hd0, qet] at hr
   refine qf 3 rfl (qk 8 true rfl ht0 (qf 5 rfl (zg 4 80 (qN hq0 rfl (qa 1 rfl (ew rfl (qaJ rfl qfZ) ?_))))))
   rintro _ _ ⟨b4_2, rfl, rfl⟩
   refine qcr rfl (pf0 _) (qb (qaR 4 b4_2 rfl (pf0 _) (qe (qg 3 (qa 1 rfl ?_)))))
   obtain ⟨r4, h4, hr⟩ := za hr
   refine qs rfl qkJ (qlj _ _ h4) (qa 1 rfl (qb ?_))
   refine zh 13 rfl hr (fun h13_4 hr => ?_) (fun h13_4 hr => ?_)
   ·
    refine qf 3 rfl ?_
    cases hr
    refine qu Tryz.func15 rfl ?_
    rfl
   ·
    refine qf 3 rfl (qg 2 (qaj rfl (qa 1 rfl (qb (qm [5, 6, 7] rfl ?_)))))
    exact IH0 _ _ _ (by omega) ⟨(i1 + 1), rfl, rfl, rfl, (by omega), hr⟩
noncomputable def qg8 (a0 : qj) (t1_a1 : ByteArray) (t2_a2 : Int) : Option Bool :=
 (bif (a0.f0_Name.toList == t1_a1.toList) then
 some (((a0.f2_Factors.length : Int) == t2_a2))
 else
 some (false))
theorem qpJ (a0 : qj) (t1_a1 : ByteArray) (t2_a2 : Int) (res : Bool) (hr : qg8 a0 t1_a1 t2_a2 = some res) : zf Tryz.prog 37 [qB a0, .ptr (.str t1_a1), .ptr (.int .i64 t2_a2)] (.bool res) := by
 unfold qg8 at hr
 refine qY Tryz.func37 rfl fun K hK => (qe (qg 2 (rd rfl (qcK rfl rfl rfl) (qa 1 rfl (qb (qe (qg 12 (qa 3 rfl (rd rfl (qgv rfl rfl rfl rfl) (qa 1 rfl ?_))))))))))
 refine zq 9 rfl hr (fun h9_0 hr => ?_) (fun h9_0 hr => ?_)
 ·
  refine qa 2 rfl (qz rfl (qa 4 rfl (qb ?_)))
  cases hr
  refine qu Tryz.func37 rfl ?_
  rfl
 ·
  refine qa 7 rfl (qb ?_)
  cases hr
  refine qu Tryz.func37 rfl ?_
  rfl
noncomputable def qbm (k : Option Int) (f_a1_c0 : ByteArray) (f_a1_c1 : Int) : List qj → Nat → Option Int
 | [], i1 =>
 k
 | q_2 :: rest, i1 =>
 ((qg8 q_2 f_a1_c0 f_a1_c1).bind fun r3 =>
 (bif r3 then
 some ((i1 : Int))
 else
 (qbm k f_a1_c0 f_a1_c1 rest (i1 + 1))))
noncomputable def qfe (a0 : List qj) (f_a1_c0 : ByteArray) (f_a1_c1 : Int) : Option Int :=
 (qbm (some ((-1))) f_a1_c0 f_a1_c1 a0 0)
theorem qlx (a0 : List qj) (f_a1_c0 : ByteArray) (f_a1_c1 : Int) (res : Int) (hr : qfe a0 f_a1_c0 f_a1_c1 = some res) : zf Tryz.prog 36 [.lst (a0.map qB), .clo (.func 37) [] [.ptr (.str f_a1_c0), .ptr (.int .i64 f_a1_c1)]] (.int .i64 res) := by
 unfold qfe at hr
 refine qY Tryz.func36 rfl fun K hK => (qf 4 rfl (qg 3 (qa 1 rfl (qz rfl (qa 1 rfl (qb ?_))))))
 obtain ⟨kk0, hkk0, hr⟩ := exK (fun k => qbm k f_a1_c0 f_a1_c1 a0 0) hr
 refine qcq 0 rfl (asl rfl) fun hla0 => ?_
 simp only [jb] at hla0
 refine qx (fun env σ => env = [] ∧ σ = [] ∧ kk0 = some res) ?_ (fun HK0 => ?_)
 ·
  rintro _ _ ⟨rfl, rfl, hr⟩
  rw [hkk0] at hr
  refine qf 2 rfl ?_
  cases hr
  refine qu Tryz.func36 rfl ?_
  rfl
 ·
  refine qm [0, 1, 7, 8] rfl (q9 (fun n env σ => ∃ (i1 : Nat), (n = a0.length - i1) ∧ (env = [(0, .lst (a0.map qB)), (1, .clo (.func 37) [] [.ptr (.str f_a1_c0), .ptr (.int .i64 f_a1_c1)]), (7, .int .i64 (a0.length : Int)), (8, .int .i64 (i1 : Int))]) ∧ (σ = []) ∧ (i1 ≤ a0.length) ∧ (qbm kk0 f_a1_c0 f_a1_c1 (a0.drop i1) i1 = some res)) _ ⟨0, rfl, rfl, rfl, jc _, hr⟩ ?_)
  rintro n _ _ ⟨i1, rfl, rfl, rfl, hi0, hr⟩ IH0
  rcases zb a0 i1 hi0 with ⟨ht0, hd0, he0⟩ | ⟨q_2, ht0, hd0, hq0, hlt0⟩
  ·
   rw [hd0, qbm] at hr
   refine qf 3 rfl (qk 9 false rfl ht0 (qA rfl (qQ rfl (qm [] rfl ?_))))
   exact HK0 _ _ ⟨rfl, rfl, hr⟩
  ·
   rw [hd0, qbm] at hr
   refine qf 3 rfl (qk 9 true rfl ht0 (qf 7 rfl (qg 6 (qa 3 rfl (qN hq0 rfl (qa 1 rfl ?_))))))
   obtain ⟨r3, h3, hr⟩ := za hr
   refine rd rfl (qqX rfl rfl qpC (.oc rfl .nil) rfl (qpJ _ _ _ _ h3)) (qb ?_)
   refine zh 16 rfl hr (fun h16_3 hr => ?_) (fun h16_3 hr => ?_)
   ·
    refine qf 3 rfl ?_
    cases hr
    refine qu Tryz.func36 rfl ?_
    rfl
   ·
    refine qf 3 rfl (qg 2 (qaj rfl (qa 1 rfl (qb (qm [0, 1, 7, 8] rfl ?_)))))
    exact IH0 _ _ _ (by omega) ⟨(i1 + 1), rfl, rfl, rfl, (by omega), hr⟩
noncomputable def qeR (a0 : List qj) (a1 : ByteArray) (a2 : Int) : Option (qj × Bool) :=
 ((qfe a0 a1 a2).bind fun r2 =>
 (bif (decide (r2 < (0 : Int))) then
 some ((⟨⟨#[]⟩, 0, []⟩ : qj), false)
 else
 ((zj a0 r2).bind fun q_4 =>
 some (q_4, true))))
theorem qjx (a0 : List qj) (a1 : ByteArray) (a2 : Int) (res : qj × Bool) (hr : qeR a0 a1 a2 = some res) : zf Tryz.prog 16 [.lst (a0.map qB), .str a1, .int .i64 a2] (.tup [qB res.1, .bool res.2]) := by
 unfold qeR at hr
 refine qY Tryz.func16 rfl fun K hK => (qe (zg 4 16 (rd rfl (qcK rfl rfl rfl) (rd rfl (qcK rfl rfl rfl) (ew rfl (qaJ rfl qfZ) ?_)))))
 rintro _ _ ⟨b6_0, rfl, rfl⟩
 refine qa 1 rfl (qb (qe (qg 4 (qa 1 rfl (rd rfl (qvv rfl rfl rfl) ?_)))))
 obtain ⟨r2, h2, hr⟩ := za hr
 refine qs rfl qgY (qlx _ _ _ _ h2) (qa 1 rfl (qb (qf 3 rfl ?_)))
 refine zh 13 rfl hr (fun h13_2 hr => ?_) (fun h13_2 hr => ?_)
 ·
  refine qO rfl (qe (zg 3 4 (rd rfl (qbl rfl qkV .nil (.nil _)) (qcr rfl (pf0 _) (qa 1 rfl (qb ?_))))))
  cases hr
  refine qbQ Tryz.func16 _ (.cons (zy rfl (.head _) (by exact qiT) rfl (Wk.refl _)) (.cons (zd rfl (Wk.refl _)) .nil)) ?_
  rfl
 ·
  refine qf 3 rfl (zg 6 256 (qa 2 rfl ?_))
  obtain ⟨q_4, h4, hr⟩ := za hr
  refine qN h4 rfl (qa 1 rfl (qcr rfl (pf0 _) (qa 1 rfl (qb ?_))))
  cases hr
  refine qbQ Tryz.func16 _ (.cons (zy rfl (.head _) (by exact qiT) (qgB _) (Wk.refl _)) (.cons (zd rfl (Wk.refl _)) .nil)) ?_
  rfl
noncomputable def qg7 (a0 : qD) : Option Int :=
 some ((wr ((a0.f1_Keep.length : Int) + (a0.f2_Remove.length : Int))))
theorem qpK (a0 : qD) (res : Int) (hr : qg7 a0 = some res) : zf Tryz.prog 102 [qp a0] (.int .i64 res) := by
 unfold qg7 at hr
 refine qY Tryz.func102 rfl fun K hK => (qe (qg 2 (rd rfl (qcK rfl rfl rfl) (qa 1 rfl (qb (qe (qg 8 (qa 2 rfl (qz rfl (qa 2 rfl (qz rfl (rd rfl (qeF rfl rfl rfl rfl) (qa 1 rfl ?_)))))))))))))
 refine qb ?_
 cases hr
 refine qu Tryz.func102 rfl ?_
 rfl
noncomputable def qgb (a0 : qD) : Option (List At) :=
 ((qg7 a0).bind fun r2 =>
 ((zac 40 r2).bind fun c3 =>
 ((zN 40 [] a0.f1_Keep).bind fun l5 =>
 ((zN 40 l5 a0.f2_Remove).bind fun l7 =>
 some (l7)))))
theorem qpV (a0 : qD) (res : List At) (hr : qgb a0 = some res) : zf Tryz.prog 69 [qp a0] (.lst (res.map zX)) := by
 unfold qgb at hr
 refine qY Tryz.func69 rfl fun K hK => (qe (zg 2 4 (rd rfl (qcK rfl rfl rfl) (ew rfl (qab 73 2 (.inl rfl)) ?_))))
 rintro _ _ ⟨u2_0, rfl, rfl⟩
 refine qb (qe (zg 4 16 (qa 1 rfl ?_)))
 obtain ⟨r2, h2, hr⟩ := za hr
 refine qs rfl qo7 (qpK _ _ h2) ?_
 obtain ⟨c3, h3, hr⟩ := za hr
 refine ew rfl (qAw (f := zX) rfl qdX rfl rfl h3) ?_
 rintro _ _ ⟨u6_3, rfl, rfl⟩
 refine qa 1 rfl (qb (qe (zg 5 64 (qa 3 rfl ?_))))
 obtain ⟨l5, h5, hr⟩ := za hr
 refine ew rfl (qaK (f := zX) [] a0.f1_Keep rfl qdX rfl rfl (asl rfl) (pf0 _) rfl qhY h5) ?_
 rintro _ _ ⟨u10_5, rfl, rfl⟩
 refine qa 1 rfl (qb (qe (zg 5 64 (qa 3 rfl ?_))))
 obtain ⟨l7, h7, hr⟩ := za hr
 refine ew rfl (qaK (f := zX) l5 a0.f2_Remove rfl qdX rfl rfl (asl rfl) (pf0 _) rfl qhY h7) ?_
 rintro _ _ ⟨u14_7, rfl, rfl⟩
 refine qa 1 rfl (qb ?_)
 cases hr
 refine qbQ Tryz.func69 _ (.cons (zd rfl (Wk.own _ _)) .nil) ?_
 rfl
noncomputable def qX (k : ((List (Int × Bool))) → Option ((List (Int × Bool)) × (List (Int × Bool)))) (m6 : List (Int × Bool)) : List Gl → (List (Int × Bool)) → Option ((List (Int × Bool)) × (List (Int × Bool)))
 | [], m8 =>
 (k m8)
 | q_10 :: rest, m8 =>
 (bif (q_10.op == (4 : Int)) then
 (bif (decide ((q_10.ts.length : Int) > (0 : Int))) then
 ((zj q_10.ts 0).bind fun q_14 =>
 (bif (q_14.k == (1 : Int)) then
 (bif (!((zp m6 q_14.i).getD false)) then
 ((zab m8 q_14.i true).bind fun m17 =>
 (qX k m6 rest m17))
 else
 (qX k m6 rest m8))
 else
 (qX k m6 rest m8)))
 else
 (qX k m6 rest m8))
 else
 (qX k m6 rest m8))
noncomputable def qcu (k : ((List (Int × Bool))) → Option ((List (Int × Bool)) × (List (Int × Bool)))) : List Int → (List (Int × Bool)) → Option ((List (Int × Bool)) × (List (Int × Bool)))
 | [], m22 =>
 (k m22)
 | q_24 :: rest, m22 =>
 ((zab m22 q_24 true).bind fun m25 =>
 (qcu k rest m25))
noncomputable def qcc (k : ((List (Int × Bool))) → Option ((List (Int × Bool)) × (List (Int × Bool)))) : List At → (List (Int × Bool)) → Option ((List (Int × Bool)) × (List (Int × Bool)))
 | [], m5 =>
 (k m5)
 | q_18 :: rest, m5 =>
 ((qh9 q_18).bind fun r20 =>
 (qcu (fun m23 =>
 (qcc k rest m23)) r20 m5))
noncomputable def qeA (a0 : qD) : Option ((List (Int × Bool)) × (List (Int × Bool))) :=
 ((qgb a0).bind fun r3 =>
 (qcc (fun m6 =>
 (qX (fun m9 =>
 some (m6, m9)) m6 a0.f4_Body [])) r3 []))
theorem qmR (a0 : qD) (res : (List (Int × Bool)) × (List (Int × Bool))) (hr : qeA a0 = some res) : Spec Tryz.prog 38 [qp a0] [] (fun d σ => ∃ (n_o0 : Nat) (n_o1 : Nat), d = .tup [.map n_o0, .map n_o1] ∧ σ = [.map n_o0 (zu (D.int .i64) D.bool res.1), .map n_o1 (zu (D.int .i64) D.bool res.2)]) := by
 unfold qeA at hr
 refine qY Tryz.func38 rfl fun K hK => (qe (qg 3 (rd rfl (qcK rfl rfl rfl) (qa 2 rfl (qb (qe (zg 4 5 (ew rfl (qoJ (α := Int) (β := Bool) (key := (D.int .i64)) (g := D.bool) rfl) ?_))))))))
 rintro _ _ ⟨m10_0, rfl, rfl⟩
 refine ew rfl (qoJ (α := Int) (β := Bool) (key := (D.int .i64)) (g := D.bool) rfl) ?_
 rintro _ _ ⟨m11_1, rfl, rfl⟩
 refine qa 2 rfl (qb (qe (qe (qg 4 (qa 1 rfl ?_)))))
 obtain ⟨r3, h3, hr⟩ := za hr
 refine qs rfl qo6 (qpV _ _ h3) (qz rfl (qa 1 rfl (qb ?_)))
 obtain ⟨kk0, hkk0, hr⟩ := exK (fun k => qcc k r3 []) hr
 refine qcq 13 rfl (asl rfl) fun hla0 => ?_
 simp only [jb] at hla0
 refine qx (fun env σ => ∃ (m6 : List (Int × Bool)), env = [(1, .ptr (qp a0)), (2, .map m10_0), (3, .map m11_1)] ∧ σ = [.map m10_0 (zu (D.int .i64) D.bool m6), .map m11_1 (zu (D.int .i64) D.bool ([] : (List (Int × Bool))))] ∧ kk0 m6 = some res) ?_ (fun HK0 => ?_)
 ·
  rintro _ _ ⟨m6, rfl, rfl, hr⟩
  rw [hkk0] at hr
  refine qe (qe (qg 4 (qa 2 rfl (qz rfl (qa 1 rfl (qb ?_))))))
  obtain ⟨kk1, hkk1, hr⟩ := exK (fun k => qX k m6 a0.f4_Body []) hr
  refine qcq 31 rfl (asl rfl) fun hla1 => ?_
  simp only [jb] at hla1
  refine qx (fun env σ => ∃ (m9 : List (Int × Bool)), env = [(2, .map m10_0), (3, .map m11_1)] ∧ σ = [.map m10_0 (zu (D.int .i64) D.bool m6), .map m11_1 (zu (D.int .i64) D.bool m9)] ∧ kk1 m9 = some res) ?_ (fun HK1 => ?_)
  ·
   rintro _ _ ⟨m9, rfl, rfl, hr⟩
   rw [hkk1] at hr
   refine qf 2 rfl ?_
   cases hr
   refine qu Tryz.func38 rfl ?_
   exact ⟨m10_0, m11_1, rfl, rfl⟩
  ·
   refine qm [2, 3, 31, 32, 33] rfl (q9 (fun n env σ => ∃ (i7 : Nat) (m8 : List (Int × Bool)), (n = a0.f4_Body.length - i7) ∧ (env = [(2, .map m10_0), (3, .map m11_1), (31, .lst (a0.f4_Body.map zA)), (32, .int .i64 (a0.f4_Body.length : Int)), (33, .int .i64 (i7 : Int))]) ∧ (σ = [.map m10_0 (zu (D.int .i64) D.bool m6), .map m11_1 (zu (D.int .i64) D.bool m8)]) ∧ (i7 ≤ a0.f4_Body.length) ∧ (qX kk1 m6 (a0.f4_Body.drop i7) m8 = some res)) _ ⟨0, [], rfl, rfl, rfl, jc _, hr⟩ ?_)
   rintro n _ _ ⟨i7, m8, rfl, rfl, rfl, hi1, hr⟩ IH1
   rcases zb a0.f4_Body i7 hi1 with ⟨ht1, hd1, he1⟩ | ⟨q_10, ht1, hd1, hq1, hlt1⟩
   ·
    rw [hd1, qX] at hr
    refine qf 3 rfl (qk 34 false rfl ht1 (qA rfl (qQ rfl (qm [2, 3] rfl ?_))))
    exact HK1 _ _ ⟨m8, rfl, rfl, hr⟩
   ·
    rw [hd1, qX] at hr
    refine qf 3 rfl (qk 34 true rfl ht1 (qf 5 rfl (zg 4 80 (qN hq1 rfl (qa 1 rfl (ew rfl (qaJ rfl qgo) ?_))))))
    rintro _ _ ⟨b9_10, rfl, rfl⟩
    refine qcr rfl (pf0 _) (qb (qaR 9 b9_10 rfl (pf0 _) (qe (zg 27 562949953421312 (qa 4 rfl ?_)))))
    refine zq 40 rfl hr (fun h40_11 hr => ?_) (fun h40_11 hr => ?_)
    ·
     refine qa 2 rfl (qz rfl (qa 3 rfl ?_))
     refine zq 46 rfl hr (fun h46_12 hr => ?_) (fun h46_12 hr => ?_)
     ·
      refine qa 2 rfl ?_
      obtain ⟨q_14, h14, hr⟩ := za hr
      refine qN h14 rfl (rd rfl (qK rfl qcg rfl (qfr _) (qfs _) rfl) (qa 4 rfl ?_))
      refine zq 54 rfl hr (fun h54_14 hr => ?_) (fun h54_14 hr => ?_)
      ·
       refine qa 3 rfl (qN h14 rfl (rd rfl (qK rfl qcp rfl (qfy _) (qfz _) rfl) (qa 1 rfl (r_r rfl rfl rfl (qiZ (key := (D.int .i64)) (g := D.bool) m6 q_14.i false rfl Tryz.underlying97 (yI Tryz.underlying3) qmL rfl rfl (.head _)) (qa 2 rfl (qb ?_))))))
       refine zh 63 rfl hr (fun h63_15 hr => ?_) (fun h63_15 hr => ?_)
       ·
        refine qO rfl (zg 7 4096 (qa 3 rfl (qN h14 rfl (rd rfl (qK rfl qcp rfl (qfy _) (qfz _) rfl) (qa 1 rfl ?_)))))
        obtain ⟨m17, h17, hr⟩ := za hr
        refine qgZ rfl rfl rfl (qmi (key := (D.int .i64)) (g := D.bool) m8 q_14.i true rfl Tryz.underlying97 (yI Tryz.underlying3) rfl rfl rfl (Wk.refl _) (pf1 _ _ _) h17) (qb (qaa (qg 2 (qaj rfl (qa 1 rfl (qb (qm [2, 3, 31, 32, 33] rfl (qcA [_, _] _ (pS [0, 1] _) ?_))))))))
        exact IH1 _ _ _ (by omega) ⟨(i7 + 1), m17, rfl, rfl, rfl, (by omega), hr⟩
       ·
        refine qf 3 rfl (qg 2 (qaj rfl (qa 1 rfl (qb (qm [2, 3, 31, 32, 33] rfl ?_)))))
        exact IH1 _ _ _ (by omega) ⟨(i7 + 1), m8, rfl, rfl, rfl, (by omega), hr⟩
      ·
       refine qa 9 rfl (qb (qf 3 rfl (qg 2 (qaj rfl (qa 1 rfl (qb (qm [2, 3, 31, 32, 33] rfl ?_)))))))
       exact IH1 _ _ _ (by omega) ⟨(i7 + 1), m8, rfl, rfl, rfl, (by omega), hr⟩
     ·
      refine qa 17 rfl (qb (qf 3 rfl (qg 2 (qaj rfl (qa 1 rfl (qb (qm [2, 3, 31, 32, 33] rfl ?_)))))))
      exact IH1 _ _ _ (by omega) ⟨(i7 + 1), m8, rfl, rfl, rfl, (by omega), hr⟩
    ·
     refine qa 23 rfl (qb (qf 3 rfl (qg 2 (qaj rfl (qa 1 rfl (qb (qm [2, 3, 31, 32, 33] rfl ?_)))))))
     exact IH1 _ _ _ (by omega) ⟨(i7 + 1), m8, rfl, rfl, rfl, (by omega), hr⟩
 ·
  refine qm [1, 2, 3, 13, 14, 15] rfl (qcA [_, _] _ (pS [0, 1] _) (q9 (fun n env σ => ∃ (i4 : Nat) (m5 : List (Int × Bool)), (n = r3.length - i4) ∧ (env = [(1, .ptr (qp a0)), (2, .map m10_0), (3, .map m11_1), (13, .lst (r3.map zX)), (14, .int .i64 (r3.length : Int)), (15, .int .i64 (i4 : Int))]) ∧ (σ = [.map m10_0 (zu (D.int .i64) D.bool m5), .map m11_1 (zu (D.int .i64) D.bool ([] : (List (Int × Bool))))]) ∧ (i4 ≤ r3.length) ∧ (qcc kk0 (r3.drop i4) m5 = some res)) _ ⟨0, [], rfl, rfl, rfl, jc _, hr⟩ ?_))
  rintro n _ _ ⟨i4, m5, rfl, rfl, rfl, hi0, hr⟩ IH0
  rcases zb r3 i4 hi0 with ⟨ht0, hd0, he0⟩ | ⟨q_18, ht0, hd0, hq0, hlt0⟩
  ·
   rw [hd0, qcc] at hr
   refine qf 3 rfl (qk 16 false rfl ht0 (qA rfl (qQ rfl (qm [1, 2, 3] rfl ?_))))
   exact HK0 _ _ ⟨m5, rfl, rfl, hr⟩
  ·
   rw [hd0, qcc] at hr
   refine qf 3 rfl (qk 16 true rfl ht0 (qf 5 rfl (zg 4 80 (qN hq0 rfl (qa 1 rfl (ew rfl (qaJ rfl qe9) ?_))))))
   rintro _ _ ⟨b5_18, rfl, rfl⟩
   refine qcr rfl (pf0 _) (qb (qaR 5 b5_18 rfl (pf0 _) (qe (qg 4 (qa 1 rfl ?_)))))
   obtain ⟨r20, h20, hr⟩ := za hr
   refine qs rfl qhc (qha _ _ h20) (qz rfl (qa 1 rfl (qb ?_)))
   obtain ⟨kk2, hkk2, hr⟩ := exK (fun k => qcu k r20 m5) hr
   refine qcq 20 rfl (asl rfl) fun hla2 => ?_
   simp only [jb] at hla2
   refine qx (fun env σ => ∃ (m23 : List (Int × Bool)), env = [(1, .ptr (qp a0)), (2, .map m10_0), (3, .map m11_1), (13, .lst (r3.map zX)), (14, .int .i64 (r3.length : Int)), (15, .int .i64 (i4 : Int))] ∧ σ = [.map m10_0 (zu (D.int .i64) D.bool m23), .map m11_1 (zu (D.int .i64) D.bool ([] : (List (Int × Bool))))] ∧ kk2 m23 = some res) ?_ (fun HK2 => ?_)
   ·
    rintro _ _ ⟨m23, rfl, rfl, hr⟩
    rw [hkk2] at hr
    refine qaa (qg 2 (qaj rfl (qa 1 rfl (qb (qm [1, 2, 3, 13, 14, 15] rfl ?_)))))
    exact IH0 _ _ _ (by omega) ⟨(i4 + 1), m23, rfl, rfl, rfl, (by omega), hr⟩
   ·
    refine qm [1, 2, 3, 13, 14, 15, 20, 21, 22] rfl (q9 (fun n env σ => ∃ (i21 : Nat) (m22 : List (Int × Bool)), (n = r20.length - i21) ∧ (env = [(1, .ptr (qp a0)), (2, .map m10_0), (3, .map m11_1), (13, .lst (r3.map zX)), (14, .int .i64 (r3.length : Int)), (15, .int .i64 (i4 : Int)), (20, .lst (r20.map (D.int .i64))), (21, .int .i64 (r20.length : Int)), (22, .int .i64 (i21 : Int))]) ∧ (σ = [.map m10_0 (zu (D.int .i64) D.bool m22), .map m11_1 (zu (D.int .i64) D.bool ([] : (List (Int × Bool))))]) ∧ (i21 ≤ r20.length) ∧ (qcu kk2 (r20.drop i21) m22 = some res)) _ ⟨0, m5, rfl, rfl, rfl, jc _, hr⟩ ?_)
    rintro n _ _ ⟨i21, m22, rfl, rfl, rfl, hi2, hr⟩ IH2
    rcases zb r20 i21 hi2 with ⟨ht2, hd2, he2⟩ | ⟨q_24, ht2, hd2, hq2, hlt2⟩
    ·
     rw [hd2, qcu] at hr
     refine qf 3 rfl (qk 23 false rfl ht2 (qA rfl (qQ rfl (qm [1, 2, 3, 13, 14, 15] rfl ?_))))
     exact HK2 _ _ ⟨m22, rfl, rfl, hr⟩
    ·
     rw [hd2, qcu] at hr
     refine qf 3 rfl (qk 23 true rfl ht2 (qf 5 rfl (qg 3 (qN hq2 rfl (qa 2 rfl (qb (zg 3 16 (qa 2 rfl ?_))))))))
     obtain ⟨m25, h25, hr⟩ := za hr
     refine qgZ rfl rfl rfl (qmi (key := (D.int .i64)) (g := D.bool) m22 q_24 true rfl Tryz.underlying97 (yI Tryz.underlying3) rfl rfl rfl (Wk.refl _) (pf0 _) h25) (qb (qaa (qg 2 (qaj rfl (qa 1 rfl (qb (qm [1, 2, 3, 13, 14, 15, 20, 21, 22] rfl ?_)))))))
     exact IH2 _ _ _ (by omega) ⟨(i21 + 1), m25, rfl, rfl, rfl, (by omega), hr⟩
noncomputable def qaM (k : Int → ((List (Int × Int))) → Option (Int × (List (Int × Int)))) (rec : T → Int → Int → (List (Int × Int)) → Option (Int × (List (Int × Int)))) (a2 : Int) : List T → Int → (List (Int × Int)) → Option (Int × (List (Int × Int)))
 | [], f4, m5 =>
 (k f4 m5)
 | q_8 :: rest, f4, m5 =>
 ((rec q_8 a2 f4 m5).bind fun r10 =>
 (qaM k rec a2 rest r10.1 r10.2))
noncomputable def qal : Nat → T → Int → Int → (List (Int × Int)) → Option (Int × (List (Int × Int)))
 | 0, _, _, _, _ => none
 | fuel + 1, a1, a2, c_0_0, s1 =>
  (fun (rec : T → Int → Int → (List (Int × Int)) → Option (Int × (List (Int × Int)))) =>
   (bif (a1.k == (1 : Int)) then
   ((zab s1 a1.i (wr (((zp s1 a1.i).getD 0) + a2))).bind fun m2 =>
   some (c_0_0, m2))
   else
   (qaM (fun f6 m7 =>
   some (f6, m7)) rec a2 a1.ar (wr (c_0_0 + a2)) s1))) (qal fuel)
theorem qll (fuel : Nat) (rec : T → Int → Int → (List (Int × Int)) → Option (Int × (List (Int × Int)))) (IHR : ∀ (a1 : T) (a2 : Int) (c_0_0 : Int) (s1 : List (Int × Int)) (b_o0 : Nat) (m_o1 : Nat) (res : Int × (List (Int × Int))), rec a1 a2 c_0_0 s1 = some res → Spec Tryz.prog 70 [.ref b_o0 0 [], zi a1, .int .i64 a2] [.cell b_o0 (.agg [.int .i64 c_0_0, .map m_o1]), .map m_o1 (zu (D.int .i64) (D.int .i64) s1)] (fun d σ => d = .tup [] ∧ σ = [.cell b_o0 (.agg [.int .i64 res.1, .map m_o1]), .map m_o1 (zu (D.int .i64) (D.int .i64) res.2)])) (a1 : T) (a2 : Int) (c_0_0 : Int) (s1 : List (Int × Int)) (b_o0 : Nat) (m_o1 : Nat) (res : Int × (List (Int × Int)))
 (hr : (bif (a1.k == (1 : Int)) then
((zab s1 a1.i (wr (((zp s1 a1.i).getD 0) + a2))).bind fun m2 =>
some (c_0_0, m2))
else
(qaM (fun f6 m7 =>
some (f6, m7)) rec a2 a1.ar (wr (c_0_0 + a2)) s1)) = some res) : Spec Tryz.prog 70 [.ref b_o0 0 [], zi a1, .int .i64 a2] [.cell b_o0 (.agg [.int .i64 c_0_0, .map m_o1]), .map m_o1 (zu (D.int .i64) (D.int .i64) s1)] (fun d σ => d = .tup [] ∧ σ = [.cell b_o0 (.agg [.int .i64 res.1, .map m_o1]), .map m_o1 (zu (D.int .i64) (D.int .i64) res.2)]) := by
 refine qY Tryz.func70 rfl fun K hK => (qe (qg 1 (rd rfl (qcK rfl rfl rfl) (qb (qe (qe (qg 3 (rd rfl (qK rfl qcg rfl (qfr _) (qfs _) rfl) (qa 2 rfl (qb ?_))))))))))
 refine zh 10 rfl hr (fun h10_0 hr => ?_) (fun h10_0 hr => ?_)
 ·
  refine qO rfl (qe (qei 10 270464 (qa 1 rfl (rd rfl (qP rfl rfl) (rd rfl (qr rfl qjY rfl) (qcD 0 rfl (rd rfl (qK rfl qcp rfl (qfy _) (qfz _) rfl) (qa 1 rfl (r_r rfl rfl rfl (qiZ (key := (D.int .i64)) (g := (D.int .i64)) s1 a1.i 0 rfl Tryz.underlying100 (yI Tryz.underlying3) qB0 rfl rfl (.tail _ (.head _))) (qa 1 rfl (rd rfl (qeF rfl rfl rfl rfl) ?_)))))))))))
  obtain ⟨m2, h2, hr⟩ := za hr
  refine qgZ rfl rfl rfl (qmi (key := (D.int .i64)) (g := (D.int .i64)) s1 a1.i (wr (((zp s1 a1.i).getD 0) + a2)) rfl Tryz.underlying100 (yI Tryz.underlying3) rfl rfl rfl (Wk.refl _) (pf1 _ _ _) h2) (qb (qcA [_, _] _ (pS [0, 1] _) ?_))
  cases hr
  refine qu Tryz.func70 rfl ?_
  exact ⟨rfl, rfl⟩
 ·
  refine qf 3 rfl (zg 9 65664 (qa 1 rfl (rd rfl (qP rfl rfl) (rd rfl (qr rfl qgc rfl) (qcD 0 rfl (qa 1 rfl (rd rfl (qeF rfl rfl rfl rfl) (rd rfl (qP rfl rfl) (rd rfl (qr rfl qgc rfl) (qgZ rfl rfl rfl (qeM _ rfl rfl rfl (Wk.refl _) (pf0 _) rfl rfl (by exact qgQ) rfl rfl rfl) (qb (qe (qg 4 ?_)))))))))))))
  refine rd rfl (qK rfl qcf rfl (qgi _) (qgf _) rfl) (qa 1 rfl (qz rfl (qa 1 rfl (qb ?_))))
  obtain ⟨kk0, hkk0, hr⟩ := exK (fun k => qaM k rec a2 a1.ar (wr (c_0_0 + a2)) s1) hr
  refine qcq 29 rfl (asl rfl) fun hla0 => ?_
  simp only [jb] at hla0
  refine qx (fun env σ => ∃ (f6 : Int) (m7 : List (Int × Int)), env = [] ∧ σ = [.cell b_o0 (.agg [.int .i64 f6, .map m_o1]), .map m_o1 (zu (D.int .i64) (D.int .i64) m7)] ∧ kk0 f6 m7 = some res) ?_ (fun HK0 => ?_)
  ·
   rintro _ _ ⟨f6, m7, rfl, rfl, hr⟩
   rw [hkk0] at hr
   cases hr
   refine qCi Tryz.func70 _ .nil ?_
   exact ⟨rfl, rfl⟩
  ·
   refine qm [0, 2, 29, 30, 31] rfl (q9 (fun n env σ => ∃ (i3 : Nat) (f4 : Int) (m5 : List (Int × Int)), (n = a1.ar.length - i3) ∧ (env = [(0, .ref b_o0 0 []), (2, .int .i64 a2), (29, .lst (a1.ar.map zi)), (30, .int .i64 (a1.ar.length : Int)), (31, .int .i64 (i3 : Int))]) ∧ (σ = [.cell b_o0 (.agg [.int .i64 f4, .map m_o1]), .map m_o1 (zu (D.int .i64) (D.int .i64) m5)]) ∧ (i3 ≤ a1.ar.length) ∧ (qaM kk0 rec a2 (a1.ar.drop i3) f4 m5 = some res)) _ ⟨0, (wr (c_0_0 + a2)), s1, rfl, rfl, rfl, jc _, hr⟩ ?_)
   rintro n _ _ ⟨i3, f4, m5, rfl, rfl, rfl, hi0, hr⟩ IH0
   rcases zb a1.ar i3 hi0 with ⟨ht0, hd0, he0⟩ | ⟨q_8, ht0, hd0, hq0, hlt0⟩
   ·
    rw [hd0, qaM] at hr
    refine qf 3 rfl (qk 32 false rfl ht0 (qA rfl (qQ rfl (qm [] rfl ?_))))
    exact HK0 _ _ ⟨f4, m5, rfl, rfl, hr⟩
   ·
    rw [hd0, qaM] at hr
    refine qf 3 rfl (qk 32 true rfl ht0 (qf 5 rfl (zg 4 80 (qN hq0 rfl (qa 1 rfl (ew rfl (qaJ rfl qc0) ?_))))))
    rintro _ _ ⟨b7_8, rfl, rfl⟩
    refine qcr rfl (pf0 _) (qb (qaR 7 b7_8 rfl (pf0 _) (zg 4 64 (qa 3 rfl ?_))))
    obtain ⟨r10, h10, hr⟩ := za hr
    refine ew rfl (qiq _ rfl qjA (.oc rfl (.oc rfl (.oc rfl .nil))) (by exact (pf0 _)) (IHR _ _ _ _ _ _ _ h10)) ?_
    rintro _ _ ⟨_, ⟨rfl, rfl⟩, rfl⟩
    refine zaq ((.cell b_o0 (.agg [.int .i64 r10.1, .map m_o1])) :: (.map m_o1 (zu (D.int .i64) (D.int .i64) r10.2)) :: _) rfl (qb (qaa (qg 2 (qaj rfl (qa 1 rfl (qb (qm [0, 2, 29, 30, 31] rfl ?_)))))))
    exact IH0 _ _ _ (by omega) ⟨(i3 + 1), r10.1, r10.2, rfl, rfl, rfl, (by omega), hr⟩
theorem qir : ∀ (fuel : Nat) (a1 : T) (a2 : Int) (c_0_0 : Int) (s1 : List (Int × Int)) (b_o0 : Nat) (m_o1 : Nat) (res : Int × (List (Int × Int))), qal fuel a1 a2 c_0_0 s1 = some res → Spec Tryz.prog 70 [.ref b_o0 0 [], zi a1, .int .i64 a2] [.cell b_o0 (.agg [.int .i64 c_0_0, .map m_o1]), .map m_o1 (zu (D.int .i64) (D.int .i64) s1)] (fun d σ => d = .tup [] ∧ σ = [.cell b_o0 (.agg [.int .i64 res.1, .map m_o1]), .map m_o1 (zu (D.int .i64) (D.int .i64) res.2)])
 | 0, _, _, _, _, _, _, _, h => by cases h
 | fuel + 1, a1, a2, c_0_0, s1, b_o0, m_o1, res, h => qll fuel (qal fuel) (qir fuel) a1 a2 c_0_0 s1 b_o0 m_o1 res h
noncomputable def qbw (k : Int → ((List (Int × Int))) → Option (Bool × Int × (List (Int × Int)))) (fuel : Nat) (r1 : qj × Bool) (a3 : Int) : List T → Nat → Int → (List (Int × Int)) → Option (Bool × Int × (List (Int × Int)))
 | [], i8, f9, m10 =>
 (k f9 m10)
 | q_13 :: rest, i8, f9, m10 =>
 ((zj r1.1.f2_Factors (i8 : Int)).bind fun q_15 =>
 ((qal fuel q_13 (wr (a3 * q_15)) f9 m10).bind fun r16 =>
 (qbw k fuel r1 a3 rest (i8 + 1) r16.1 r16.2)))
noncomputable def qcv (fuel : Nat) (a1 : List qj) (a2 : At) (a3 : Int) (c_0_0 : Int) (s1 : List (Int × Int)) : Option (Bool × Int × (List (Int × Int))) :=
 ((qeR a1 a2.n (a2.ts.length : Int)).bind fun r1 =>
 (bif (!r1.2) then
 some (false, c_0_0, s1)
 else
 ((qfU r1.1).bind fun r4 =>
 (bif (!r4) then
 some (false, c_0_0, s1)
 else
 ((qih a2).bind fun r6 =>
 (bif (!r6) then
 some (false, c_0_0, s1)
 else
 (qbw (fun f11 m12 =>
 some (true, f11, m12)) fuel r1 a3 a2.ts 0 (wr (c_0_0 + (wr (a3 * r1.1.f1_Const)))) s1)))))))
theorem qgV (fuel : Nat) (a1 : List qj) (a2 : At) (a3 : Int) (c_0_0 : Int) (s1 : List (Int × Int)) (b_o0 : Nat) (m_o1 : Nat) (res : Bool × Int × (List (Int × Int))) (hr : qcv fuel a1 a2 a3 c_0_0 s1 = some res) : Spec Tryz.prog 39 [.ref b_o0 0 [], .lst (a1.map qB), zX a2, .int .i64 a3] [.cell b_o0 (.agg [.int .i64 c_0_0, .map m_o1]), .map m_o1 (zu (D.int .i64) (D.int .i64) s1)] (fun d σ => d = .bool res.1 ∧ σ = [.cell b_o0 (.agg [.int .i64 res.2.1, .map m_o1]), .map m_o1 (zu (D.int .i64) (D.int .i64) res.2.2)]) := by
 unfold qcv at hr
 refine qY Tryz.func39 rfl fun K hK => (qe (qg 2 (rd rfl (qcK rfl rfl rfl) (qa 1 rfl (qb (qe (zg 13 5242880 (qa 5 rfl (qz rfl ?_)))))))))
 obtain ⟨r1, h1, hr⟩ := za hr
 refine qs rfl qjw (qjx _ _ _ _ h1) (qa 3 rfl (ew rfl (qaJ rfl qfZ) ?_))
 rintro _ _ ⟨b9_1, rfl, rfl⟩
 refine qcr rfl (pf0 _) (qa 1 rfl (qb (qaR 9 b9_1 rfl (pf0 _) (qe (qe (qg 12 (qa 3 rfl ?_)))))))
 refine zq 25 rfl hr (fun h25_2 hr => ?_) (fun h25_2 hr => ?_)
 ·
  refine qa 9 rfl (qb (qf 3 rfl ?_))
  cases hr
  refine qu Tryz.func39 rfl ?_
  exact ⟨rfl, rfl⟩
 ·
  refine qa 1 rfl ?_
  obtain ⟨r4, h4, hr⟩ := za hr
  refine qs rfl qkJ (qlj _ _ h4) (qa 3 rfl ?_)
  refine zq 30 rfl hr (fun h30_4 hr => ?_) (fun h30_4 hr => ?_)
  ·
   refine qa 4 rfl (qb (qf 3 rfl ?_))
   cases hr
   refine qu Tryz.func39 rfl ?_
   exact ⟨rfl, rfl⟩
  ·
   refine qa 1 rfl ?_
   obtain ⟨r6, h6, hr⟩ := za hr
   refine qs rfl qie (qid _ _ h6) (qa 2 rfl (qb ?_))
   refine zh 34 rfl hr (fun h34_6 hr => ?_) (fun h34_6 hr => ?_)
   ·
    refine qf 3 rfl ?_
    cases hr
    refine qu Tryz.func39 rfl ?_
    exact ⟨rfl, rfl⟩
   ·
    refine qf 3 rfl (qei 12 4194432 (qa 1 rfl (rd rfl (qP rfl rfl) (rd rfl (qr rfl qgc rfl) (qcD 0 rfl (qa 3 rfl (rd rfl (qeF rfl rfl rfl rfl) (rd rfl (qeF rfl rfl rfl rfl) (rd rfl (qP rfl rfl) (rd rfl (qr rfl qgc rfl) (qgZ rfl rfl rfl (qeM _ rfl rfl rfl (Wk.refl _) (pf0 _) rfl rfl (by exact qgQ) rfl rfl rfl) (qb (qe ?_)))))))))))))
    refine qe (qg 4 (qa 2 rfl (qz rfl (qa 1 rfl (qb ?_)))))
    obtain ⟨kk0, hkk0, hr⟩ := exK (fun k => qbw k fuel r1 a3 a2.ts 0 (wr (c_0_0 + (wr (a3 * r1.1.f1_Const)))) s1) hr
    refine qcq 18 rfl (asl rfl) fun hla0 => ?_
    simp only [jb] at hla0
    refine qx (fun env σ => ∃ (f11 : Int) (m12 : List (Int × Int)), env = [] ∧ σ = [.cell b_o0 (.agg [.int .i64 f11, .map m_o1]), .map m_o1 (zu (D.int .i64) (D.int .i64) m12)] ∧ kk0 f11 m12 = some res) ?_ (fun HK0 => ?_)
    ·
     rintro _ _ ⟨f11, m12, rfl, rfl, hr⟩
     rw [hkk0] at hr
     refine qf 2 rfl ?_
     cases hr
     refine qu Tryz.func39 rfl ?_
     exact ⟨rfl, rfl⟩
    ·
     refine qm [0, 3, 9, 47, 48, 49] rfl (q9 (fun n env σ => ∃ (i8 : Nat) (f9 : Int) (m10 : List (Int × Int)), (n = a2.ts.length - i8) ∧ (env = [(0, .ref b_o0 0 []), (3, .int .i64 a3), (9, .ptr (qB r1.1)), (47, .lst (a2.ts.map zi)), (48, .int .i64 (a2.ts.length : Int)), (49, .int .i64 (i8 : Int))]) ∧ (σ = [.cell b_o0 (.agg [.int .i64 f9, .map m_o1]), .map m_o1 (zu (D.int .i64) (D.int .i64) m10)]) ∧ (i8 ≤ a2.ts.length) ∧ (qbw kk0 fuel r1 a3 (a2.ts.drop i8) i8 f9 m10 = some res)) _ ⟨0, (wr (c_0_0 + (wr (a3 * r1.1.f1_Const)))), s1, rfl, rfl, rfl, jc _, hr⟩ ?_)
     rintro n _ _ ⟨i8, f9, m10, rfl, rfl, rfl, hi0, hr⟩ IH0
     rcases zb a2.ts i8 hi0 with ⟨ht0, hd0, he0⟩ | ⟨q_13, ht0, hd0, hq0, hlt0⟩
     ·
      rw [hd0, qbw] at hr
      refine qf 3 rfl (qk 50 false rfl ht0 (qA rfl (qQ rfl (qm [] rfl ?_))))
      exact HK0 _ _ ⟨f9, m10, rfl, rfl, hr⟩
     ·
      rw [hd0, qbw] at hr
      refine qf 3 rfl (qk 50 true rfl ht0 (qf 5 rfl (zg 6 1088 (qa 1 rfl (qN hq0 rfl (qa 1 rfl (ew rfl (qaJ rfl qc0) ?_)))))))
      rintro _ _ ⟨b12_13, rfl, rfl⟩
      refine qa 1 rfl (qcr rfl (pf0 _) (qb (qaR 12 b12_13 rfl (pf0 _) (qei 10 262144 (qa 6 rfl ?_)))))
      obtain ⟨q_15, h15, hr⟩ := za hr
      refine qN h15 rfl (qa 1 rfl (rd rfl (qeF rfl rfl rfl rfl) ?_))
      obtain ⟨r16, h16, hr⟩ := za hr
      refine ew rfl (qiq _ rfl qjA (.oc rfl (.oc rfl (.oc rfl .nil))) (by exact (pf0 _)) (qir fuel _ _ _ _ _ _ _ h16)) ?_
      rintro _ _ ⟨_, ⟨rfl, rfl⟩, rfl⟩
      refine zaq ((.cell b_o0 (.agg [.int .i64 r16.1, .map m_o1])) :: (.map m_o1 (zu (D.int .i64) (D.int .i64) r16.2)) :: _) rfl (qb (qaa (qg 2 (qaj rfl (qa 1 rfl (qb (qm [0, 3, 9, 47, 48, 49] rfl ?_)))))))
      exact IH0 _ _ _ (by omega) ⟨(i8 + 1), r16.1, r16.2, rfl, rfl, rfl, (by omega), hr⟩
noncomputable def qcL (k : Int → Option Bool) (r1 : (List (Int × Bool)) × (List (Int × Bool))) (l17 : Int) : Option Bool :=
 (k l17)
noncomputable def qdb (k : Int → Option Bool) (r1 : (List (Int × Bool)) × (List (Int × Bool))) (q20 : Int × Int) (l17 : Int) : Option ((Bool) ⊕ (Int)) :=
 (bif (decide (q20.2 < (0 : Int))) then
 (bif (!((zp r1.2 q20.1).getD false)) then
 (Option.map Sum.inl (some (false)))
 else
 some (.inr ((wr (l17 + q20.2)))))
 else
 some (.inr ((wr (l17 + q20.2)))))
noncomputable def qcN (k : Int → Option Bool) (r1 : (List (Int × Bool)) × (List (Int × Bool))) (l : List (Int × Int)) (l17 : Int) : Option Bool :=
 zap (fun l' => zP (fun q (v : Int) => qdb k r1 q v) (fun v => qcL k r1 v) l' (l17)) l
noncomputable def qbT (k : Option Bool) (r1 : (List (Int × Bool)) × (List (Int × Bool))) : List Int → Option Bool
 | [] =>
 k
 | q_34 :: rest =>
 (bif (!((zp r1.1 q_34).getD false)) then
 (bif (!((zp r1.2 q_34).getD false)) then
 some (false)
 else
 (qbT k r1 rest))
 else
 (qbT k r1 rest))
noncomputable def qdP (k : Option Bool) (r1 : (List (Int × Bool)) × (List (Int × Bool))) : List Int → Option Bool
 | [] =>
 k
 | q_43 :: rest =>
 (bif (!((zp r1.1 q_43).getD false)) then
 (bif (!((zp r1.2 q_43).getD false)) then
 some (false)
 else
 (qdP k r1 rest))
 else
 (qdP k r1 rest))
noncomputable def qao (k : Int → ((List (Int × Int))) → Option Bool) (fuel : Nat) (r1 : (List (Int × Bool)) × (List (Int × Bool))) (a1 : qD) (a0 : List qj) : List Gl → Int → (List (Int × Int)) → Option Bool
 | [], c12, m13 =>
 (k c12 m13)
 | q_23 :: rest, c12, m13 =>
 (bif (q_23.op == (3 : Int)) then
 some (false)
 else
 (bif (q_23.op == (0 : Int)) then
 (bif ((a1.f2_Remove.length : Int) == (0 : Int)) then
 some (false)
 else
 (bif (q_23.op != (0 : Int)) then
 (qao k fuel r1 a1 a0 rest c12 m13)
 else
 ((qh9 (⟨q_23.n, q_23.ts⟩ : At)).bind fun r30 =>
 (qbT (((qcv fuel a0 (⟨q_23.n, q_23.ts⟩ : At) (-1) c12 m13).bind fun r32 =>
 (bif (!r32.1) then
 some (false)
 else
 (qao k fuel r1 a1 a0 rest r32.2.1 r32.2.2)))) r1 r30))))
 else
 (bif (q_23.op != (0 : Int)) then
 (qao k fuel r1 a1 a0 rest c12 m13)
 else
 ((qh9 (⟨q_23.n, q_23.ts⟩ : At)).bind fun r39 =>
 (qdP (((qcv fuel a0 (⟨q_23.n, q_23.ts⟩ : At) (-1) c12 m13).bind fun r41 =>
 (bif (!r41.1) then
 some (false)
 else
 (qao k fuel r1 a1 a0 rest r41.2.1 r41.2.2)))) r1 r39)))))
noncomputable def qbS (k : Int → ((List (Int × Int))) → Option Bool) (fuel : Nat) (a0 : List qj) : List At → Int → (List (Int × Int)) → Option Bool
 | [], c7, m8 =>
 (k c7 m8)
 | q_46 :: rest, c7, m8 =>
 ((qcv fuel a0 q_46 1 c7 m8).bind fun r48 =>
 (bif (!r48.1) then
 some (false)
 else
 (qbS k fuel a0 rest r48.2.1 r48.2.2)))
noncomputable def qck (fuel : Nat) (a0 : List qj) (a1 : qD) : Option Bool :=
 ((qeA a1).bind fun r1 =>
 (qbS (fun c9 m10 =>
 (qao (fun c14 m15 =>
 (qcN (fun l18 =>
 (bif (decide (l18 ≥ (1 : Int))) then
 some (true)
 else
 some (((a1.f2_Remove.length : Int) == (0 : Int))))) r1 m15 c14)) fuel r1 a1 a0 a1.f4_Body c9 m10)) fuel a0 a1.f2_Remove 0 []))
theorem qgH (fuel : Nat) (a0 : List qj) (a1 : qD) (res : Bool) (hr : qck fuel a0 a1 = some res) : zf Tryz.prog 17 [.lst (a0.map qB), qp a1] (.bool res) := by
 unfold qck at hr
 refine qY Tryz.func17 rfl fun K hK => (qe (qg 2 (rd rfl (qcK rfl rfl rfl) (qa 1 rfl (qb (qe (zg 7 4 (qa 1 rfl ?_))))))))
 obtain ⟨r1, h1, hr⟩ := za hr
 refine ew rfl (qiq _ rfl qmM (.oc rfl .nil) (by exact (List.Perm.refl _)) (qmR _ _ h1)) ?_
 rintro _ _ ⟨_, ⟨m20_1, m20_2, rfl, rfl⟩, rfl⟩
 refine zaq ((.map m20_1 (zu (D.int .i64) D.bool r1.1)) :: (.map m20_2 (zu (D.int .i64) D.bool r1.2)) :: _) rfl (qa 5 rfl (qb (qe (zg 4 81 (ew rfl (qoJ (α := Int) (β := Int) (key := (D.int .i64)) (g := (D.int .i64)) rfl) ?_)))))
 rintro _ _ ⟨m23_3, rfl, rfl⟩
 refine rd rfl (qbl rfl qmy (.oc rfl .nil) (.cons rfl rfl rfl (.nil _))) (ew rfl (qaJ rfl (yn.agg qmy)) ?_)
 rintro _ _ ⟨b7_4, rfl, rfl⟩
 refine qcr rfl (pf0 _) (qb (qe (qe (qg 4 (qa 2 rfl (qz rfl (qa 1 rfl (qb ?_))))))))
 obtain ⟨kk0, hkk0, hr⟩ := exK (fun k => qbS k fuel a0 a1.f2_Remove 0 []) hr
 refine qcq 26 rfl (asl rfl) fun hla0 => ?_
 simp only [jb] at hla0
 refine qx (fun env σ => ∃ (c9 : Int) (m10 : List (Int × Int)), env = [(0, .lst (a0.map qB)), (3, .ptr (qp a1)), (5, .map m20_1), (6, .map m20_2), (7, .ref b7_4 0 [])] ∧ σ = [.map m20_1 (zu (D.int .i64) D.bool r1.1), .map m20_2 (zu (D.int .i64) D.bool r1.2), .cell b7_4 (.agg [.int .i64 c9, .map m23_3]), .map m23_3 (zu (D.int .i64) (D.int .i64) m10)] ∧ kk0 c9 m10 = some res) ?_ (fun HK0 => ?_)
 ·
  rintro _ _ ⟨c9, m10, rfl, rfl, hr⟩
  rw [hkk0] at hr
  refine qe (qe (qg 4 (qa 2 rfl (qz rfl (qa 1 rfl (qb ?_))))))
  obtain ⟨kk1, hkk1, hr⟩ := exK (fun k => qao k fuel r1 a1 a0 a1.f4_Body c9 m10) hr
  refine qcq 38 rfl (asl rfl) fun hla1 => ?_
  simp only [jb] at hla1
  refine qx (fun env σ => ∃ (c14 : Int) (m15 : List (Int × Int)), env = [(3, .ptr (qp a1)), (6, .map m20_2), (7, .ref b7_4 0 [])] ∧ σ = [.map m20_2 (zu (D.int .i64) D.bool r1.2), .cell b7_4 (.agg [.int .i64 c14, .map m23_3]), .map m23_3 (zu (D.int .i64) (D.int .i64) m15)] ∧ kk1 c14 m15 = some res) ?_ (fun HK1 => ?_)
  ·
   rintro _ _ ⟨c14, m15, rfl, rfl, hr⟩
   rw [hkk1] at hr
   refine qe (zg 3 8 (rd rfl (qr rfl qgc rfl) (qcD 1 rfl (qa 1 rfl (qb (qe (qe (zg 3 24 (rd rfl (qr rfl qjY rfl) (qcD 1 rfl (ew rfl (qAv (key := (D.int .i64)) (g := (D.int .i64)) (l := m15) rfl Tryz.underlying100 rfl (pf2 _ _ _ _)) ?_)))))))))))
   rintro _ _ ⟨b93_15, es_b93_15, cl_b93_15, rfl, rfl, hes_b93_15⟩
   refine qb ?_
   obtain ⟨kk2, hkk2, hr⟩ := exK (fun k => qcN k r1 m15 c14) hr
   refine qx (fun env σ => ∃ (l18 : Int), env = [(3, .ptr (qp a1)), (15, .int .i64 l18)] ∧ σ = [] ∧ kk2 l18 = some res) ?_ (fun HK2 => ?_)
   ·
    rintro _ _ ⟨l18, rfl, rfl, hr⟩
    rw [hkk2] at hr
    refine qe (qg 9 (qa 3 rfl ?_))
    refine zq 112 rfl hr (fun h112_18 hr => ?_) (fun h112_18 hr => ?_)
    ·
     refine qa 6 rfl (qb ?_)
     cases hr
     refine qu Tryz.func17 rfl ?_
     rfl
    ·
     refine qa 2 rfl (qz rfl (qa 3 rfl (qb ?_)))
     cases hr
     refine qu Tryz.func17 rfl ?_
     rfl
   ·
    refine qm [3, 6, 93, 15] rfl (qcA [_, _, _] _ (pS [1, 1, 2] _) (q9 (fun n env σ => ∃ (l17 : Int) (seen2 : Array Nat) (last2 : Nat), (n = (zav es_b93_15 seen2 m15).length) ∧ (env = [(3, .ptr (qp a1)), (6, .map m20_2), (93, .ref b93_15 0 []), (15, .int .i64 l17)]) ∧ (σ = [.map m20_2 (zu (D.int .i64) D.bool r1.2), .iter b93_15 m23_3 cl_b93_15 seen2 last2, .mapE m23_3 (zu (D.int .i64) (D.int .i64) m15) es_b93_15 cl_b93_15]) ∧ (cl_b93_15 ≤ last2) ∧ (∀ l', l'.Perm (zav es_b93_15 seen2 m15) → zP (fun q (v : Int) => qdb kk2 r1 q v) (fun v => qcL kk2 r1 v) l' (l17) = some res)) _ ⟨c14, #[], cl_b93_15, rfl, rfl, rfl, jk _, fun l hl => qv2 hr l (by rw [qtC hes_b93_15] at hl; exact hl)⟩ ?_))
    rintro n _ _ ⟨l17, seen2, last2, rfl, rfl, rfl, hi2, hr⟩ IH2
    refine qe (zg 2 1 (ew rfl (qBr rfl rfl (pS [2, 2] _) hi2) ?_))
    rintro _ _ (⟨hrem2, rfl, rfl⟩ | ⟨q20, e_q_20, hp_q_20, hc_q_20, rfl, rfl⟩)
    ·
     have hr : qcL kk2 r1 l17 = some res := mapEnd hrem2 hr
     unfold qcL at hr
     refine qa 1 rfl (qb (qf 3 rfl (qm [3, 15] rfl (qcA [] _ (pf0 _) ?_))))
     exact HK2 _ _ ⟨l17, rfl, rfl, hr⟩
    ·
     obtain ⟨z2, hr, hz2⟩ := zbR hp_q_20 hr
     have hr : qdb kk2 r1 q20 l17 = some z2 := hr
     unfold qdb at hr
     refine qa 1 rfl (qb (qf 5 rfl (zg 5 2 (r_r rfl rfl rfl (qA7 (key := (D.int .i64)) (g := (D.int .i64)) rfl rfl (.head _) (.tail _ (.head _)) hc_q_20) (qa 4 rfl (qb (qe (qe (zg 8 2048 (qa 3 rfl ?_))))))))))
     refine zq 101 rfl hr (fun h101_20 hr => ?_) (fun h101_20 hr => ?_)
     ·
      refine qa 2 rfl (r_r rfl rfl rfl (qiZ (key := (D.int .i64)) (g := D.bool) r1.2 q20.1 false rfl Tryz.underlying97 (yI Tryz.underlying3) qmL rfl rfl (.tail _ (.tail _ (.head _)))) (qa 2 rfl (qb ?_)))
      refine zh 106 rfl hr (fun h106_21 hr => ?_) (fun h106_21 hr => ?_)
      ·
       refine qf 3 rfl (qvt (pf0 _) ?_)
       have hr := mapOut hz2 hr
       cases hr
       refine qu Tryz.func17 rfl ?_
       rfl
      ·
       refine qA rfl (ql1 (qg 4 (qa 2 rfl (rd rfl (qeF rfl rfl rfl rfl) (qa 1 rfl (qb (qaa (qm [3, 6, 93, 15] rfl (qcA [_, _, _] _ (pS [1, 1, 2] _) ?_)))))))))
       exact IH2 _ _ _ (by have := (hp_q_20).length_eq; simp only [jg] at this; omega) ⟨(wr (l17 + q20.2)), _, _, rfl, rfl, rfl, jk _, zbd hz2 hr⟩
     ·
      refine qa 5 rfl (qb (qA rfl (ql1 (qg 4 (qa 2 rfl (rd rfl (qeF rfl rfl rfl rfl) (qa 1 rfl (qb (qaa (qm [3, 6, 93, 15] rfl (qcA [_, _, _] _ (pS [1, 1, 2] _) ?_)))))))))))
      exact IH2 _ _ _ (by have := (hp_q_20).length_eq; simp only [jg] at this; omega) ⟨(wr (l17 + q20.2)), _, _, rfl, rfl, rfl, jk _, zbd hz2 hr⟩
  ·
   refine qm [0, 3, 5, 6, 7, 38, 39, 40] rfl (q9 (fun n env σ => ∃ (i11 : Nat) (c12 : Int) (m13 : List (Int × Int)), (n = a1.f4_Body.length - i11) ∧ (env = [(0, .lst (a0.map qB)), (3, .ptr (qp a1)), (5, .map m20_1), (6, .map m20_2), (7, .ref b7_4 0 []), (38, .lst (a1.f4_Body.map zA)), (39, .int .i64 (a1.f4_Body.length : Int)), (40, .int .i64 (i11 : Int))]) ∧ (σ = [.map m20_1 (zu (D.int .i64) D.bool r1.1), .map m20_2 (zu (D.int .i64) D.bool r1.2), .cell b7_4 (.agg [.int .i64 c12, .map m23_3]), .map m23_3 (zu (D.int .i64) (D.int .i64) m13)]) ∧ (i11 ≤ a1.f4_Body.length) ∧ (qao kk1 fuel r1 a1 a0 (a1.f4_Body.drop i11) c12 m13 = some res)) _ ⟨0, c9, m10, rfl, rfl, rfl, jc _, hr⟩ ?_)
   rintro n _ _ ⟨i11, c12, m13, rfl, rfl, rfl, hi1, hr⟩ IH1
   rcases zb a1.f4_Body i11 hi1 with ⟨ht1, hd1, he1⟩ | ⟨q_23, ht1, hd1, hq1, hlt1⟩
   ·
    rw [hd1, qao] at hr
    refine qf 3 rfl (qk 41 false rfl ht1 (qA rfl (qQ rfl (qm [3, 6, 7] rfl (qcA [_, _, _] _ (pS [3, 3, 3] _) ?_)))))
    exact HK1 _ _ ⟨c12, m13, rfl, rfl, hr⟩
   ·
    rw [hd1, qao] at hr
    refine qf 3 rfl (qk 41 true rfl ht1 (qf 5 rfl (zg 4 80 (qN hq1 rfl (qa 1 rfl (ew rfl (qaJ rfl qgo) ?_))))))
    rintro _ _ ⟨b11_23, rfl, rfl⟩
    refine qcr rfl (pf0 _) (qb (qaR 11 b11_23 rfl (pf0 _) (qf 5 rfl ?_)))
    refine zh 44 rfl hr (fun h44_24 hr => ?_) (fun h44_24 hr => ?_)
    ·
     refine qf 5 rfl ?_
     cases hr
     refine qu Tryz.func17 rfl ?_
     rfl
    ·
     refine qA rfl (qg 10 (qa 4 rfl ?_))
     refine zq 51 rfl hr (fun h51_25 hr => ?_) (fun h51_25 hr => ?_)
     ·
      refine qa 2 rfl (qz rfl (qa 3 rfl (qb ?_)))
      refine zh 44 rfl hr (fun h44_26 hr => ?_) (fun h44_26 hr => ?_)
      ·
       refine qf 3 rfl ?_
       cases hr
       refine qu Tryz.func17 rfl ?_
       rfl
      ·
       refine qf 3 rfl ?_
       refine zh 57 rfl hr (fun h57_27 hr => ?_) (fun h57_27 hr => ?_)
       ·
        refine qO rfl (qQ rfl (qg 2 (qaj rfl (qa 1 rfl (qb (qm [0, 3, 5, 6, 7, 38, 39, 40] rfl ?_))))))
        exact IH1 _ _ _ (by omega) ⟨(i11 + 1), c12, m13, rfl, rfl, rfl, (by omega), hr⟩
       ·
        refine qf 4 rfl (zg 7 5120 (qa 4 rfl (rd rfl (qbl rfl qfw (.oc rfl (.oc rfl .nil)) (.cons rfl rfl rfl (.cons rfl rfl rfl (.nil _)))) (ew rfl (qaJ rfl qe9) ?_))))
        rintro _ _ ⟨b12_28, rfl, rfl⟩
        refine qcr rfl (pf0 _) (qb (qaR 12 b12_28 rfl (pf0 _) (qe (qe (qg 4 (qa 1 rfl ?_))))))
        obtain ⟨r30, h30, hr⟩ := za hr
        refine qs rfl qhc (qha _ _ h30) (qz rfl (qa 1 rfl (qb ?_)))
        obtain ⟨kk3, hkk3, hr⟩ := exK (fun k => qbT k r1 r30) hr
        refine qcq 67 rfl (asl rfl) fun hla3 => ?_
        simp only [jb] at hla3
        refine qx (fun env σ => env = [(0, .lst (a0.map qB)), (3, .ptr (qp a1)), (5, .map m20_1), (6, .map m20_2), (7, .ref b7_4 0 []), (12, .ptr (.agg [.str q_23.n, .lst (q_23.ts.map zi)])), (38, .lst (a1.f4_Body.map zA)), (39, .int .i64 (a1.f4_Body.length : Int)), (40, .int .i64 (i11 : Int))] ∧ σ = [.map m20_1 (zu (D.int .i64) D.bool r1.1), .map m20_2 (zu (D.int .i64) D.bool r1.2), .cell b7_4 (.agg [.int .i64 c12, .map m23_3]), .map m23_3 (zu (D.int .i64) (D.int .i64) m13)] ∧ kk3 = some res) ?_ (fun HK3 => ?_)
        ·
         rintro _ _ ⟨rfl, rfl, hr⟩
         rw [hkk3] at hr
         refine qe (zg 4 16 (qa 2 rfl ?_))
         obtain ⟨r32, h32, hr⟩ := za hr
         refine ew rfl (qiq _ rfl qif (.oc rfl (.oc rfl (.oc rfl (.oc rfl .nil)))) (by exact (pS [3, 3] _)) (qgV fuel _ _ _ _ _ _ _ _ h32)) ?_
         rintro _ _ ⟨_, ⟨rfl, rfl⟩, rfl⟩
         refine zaq ((.cell b7_4 (.agg [.int .i64 r32.2.1, .map m23_3])) :: (.map m23_3 (zu (D.int .i64) (D.int .i64) r32.2.2)) :: _) rfl (qa 1 rfl (qb ?_))
         refine zh 87 rfl hr (fun h87_32 hr => ?_) (fun h87_32 hr => ?_)
         ·
          refine qf 3 rfl ?_
          cases hr
          refine qu Tryz.func17 rfl ?_
          rfl
         ·
          refine qf 3 rfl (qg 2 (qaj rfl (qa 1 rfl (qb (qm [0, 3, 5, 6, 7, 38, 39, 40] rfl (qcA [_, _, _, _] _ (pS [1, 1, 3, 3] _) ?_))))))
          exact IH1 _ _ _ (by omega) ⟨(i11 + 1), r32.2.1, r32.2.2, rfl, rfl, rfl, (by omega), hr⟩
        ·
         refine qm [0, 3, 5, 6, 7, 12, 38, 39, 40, 67, 68, 69] rfl (q9 (fun n env σ => ∃ (i31 : Nat), (n = r30.length - i31) ∧ (env = [(0, .lst (a0.map qB)), (3, .ptr (qp a1)), (5, .map m20_1), (6, .map m20_2), (7, .ref b7_4 0 []), (12, .ptr (.agg [.str q_23.n, .lst (q_23.ts.map zi)])), (38, .lst (a1.f4_Body.map zA)), (39, .int .i64 (a1.f4_Body.length : Int)), (40, .int .i64 (i11 : Int)), (67, .lst (r30.map (D.int .i64))), (68, .int .i64 (r30.length : Int)), (69, .int .i64 (i31 : Int))]) ∧ (σ = [.map m20_1 (zu (D.int .i64) D.bool r1.1), .map m20_2 (zu (D.int .i64) D.bool r1.2), .cell b7_4 (.agg [.int .i64 c12, .map m23_3]), .map m23_3 (zu (D.int .i64) (D.int .i64) m13)]) ∧ (i31 ≤ r30.length) ∧ (qbT kk3 r1 (r30.drop i31) = some res)) _ ⟨0, rfl, rfl, rfl, jc _, hr⟩ ?_)
         rintro n _ _ ⟨i31, rfl, rfl, rfl, hi3, hr⟩ IH3
         rcases zb r30 i31 hi3 with ⟨ht3, hd3, he3⟩ | ⟨q_34, ht3, hd3, hq3, hlt3⟩
         ·
          rw [hd3, qbT] at hr
          refine qf 3 rfl (qk 70 false rfl ht3 (qA rfl (qQ rfl (qm [0, 3, 5, 6, 7, 12, 38, 39, 40] rfl ?_))))
          exact HK3 _ _ ⟨rfl, rfl, hr⟩
         ·
          rw [hd3, qbT] at hr
          refine qf 3 rfl (qk 70 true rfl ht3 (qf 5 rfl (qg 3 (qN hq3 rfl (qa 2 rfl (qb (qe (zg 10 32800 (qa 2 rfl (r_r rfl rfl rfl (qiZ (key := (D.int .i64)) (g := D.bool) r1.1 q_34 false rfl Tryz.underlying97 (yI Tryz.underlying3) qmL rfl rfl (.head _)) (qa 2 rfl ?_)))))))))))
          refine zq 77 rfl hr (fun h77_34 hr => ?_) (fun h77_34 hr => ?_)
          ·
           refine qa 2 rfl (r_r rfl rfl rfl (qiZ (key := (D.int .i64)) (g := D.bool) r1.2 q_34 false rfl Tryz.underlying97 (yI Tryz.underlying3) qmL rfl rfl (.tail _ (.head _))) (qa 2 rfl (qb ?_)))
           refine zh 82 rfl hr (fun h82_35 hr => ?_) (fun h82_35 hr => ?_)
           ·
            refine qf 3 rfl ?_
            cases hr
            refine qu Tryz.func17 rfl ?_
            rfl
           ·
            refine qf 3 rfl (qg 2 (qaj rfl (qa 1 rfl (qb (qm [0, 3, 5, 6, 7, 12, 38, 39, 40, 67, 68, 69] rfl ?_)))))
            exact IH3 _ _ _ (by omega) ⟨(i31 + 1), rfl, rfl, rfl, (by omega), hr⟩
          ·
           refine qa 5 rfl (qb (qf 3 rfl (qg 2 (qaj rfl (qa 1 rfl (qb (qm [0, 3, 5, 6, 7, 12, 38, 39, 40, 67, 68, 69] rfl ?_)))))))
           exact IH3 _ _ _ (by omega) ⟨(i31 + 1), rfl, rfl, rfl, (by omega), hr⟩
     ·
      refine qa 6 rfl (qb (qf 3 rfl ?_))
      refine zh 57 rfl hr (fun h57_36 hr => ?_) (fun h57_36 hr => ?_)
      ·
       refine qO rfl (qQ rfl (qg 2 (qaj rfl (qa 1 rfl (qb (qm [0, 3, 5, 6, 7, 38, 39, 40] rfl ?_))))))
       exact IH1 _ _ _ (by omega) ⟨(i11 + 1), c12, m13, rfl, rfl, rfl, (by omega), hr⟩
      ·
       refine qf 4 rfl (zg 7 5120 (qa 4 rfl (rd rfl (qbl rfl qfw (.oc rfl (.oc rfl .nil)) (.cons rfl rfl rfl (.cons rfl rfl rfl (.nil _)))) (ew rfl (qaJ rfl qe9) ?_))))
       rintro _ _ ⟨b12_37, rfl, rfl⟩
       refine qcr rfl (pf0 _) (qb (qaR 12 b12_37 rfl (pf0 _) (qe (qe (qg 4 (qa 1 rfl ?_))))))
       obtain ⟨r39, h39, hr⟩ := za hr
       refine qs rfl qhc (qha _ _ h39) (qz rfl (qa 1 rfl (qb ?_)))
       obtain ⟨kk4, hkk4, hr⟩ := exK (fun k => qdP k r1 r39) hr
       refine qcq 67 rfl (asl rfl) fun hla4 => ?_
       simp only [jb] at hla4
       refine qx (fun env σ => env = [(0, .lst (a0.map qB)), (3, .ptr (qp a1)), (5, .map m20_1), (6, .map m20_2), (7, .ref b7_4 0 []), (12, .ptr (.agg [.str q_23.n, .lst (q_23.ts.map zi)])), (38, .lst (a1.f4_Body.map zA)), (39, .int .i64 (a1.f4_Body.length : Int)), (40, .int .i64 (i11 : Int))] ∧ σ = [.map m20_1 (zu (D.int .i64) D.bool r1.1), .map m20_2 (zu (D.int .i64) D.bool r1.2), .cell b7_4 (.agg [.int .i64 c12, .map m23_3]), .map m23_3 (zu (D.int .i64) (D.int .i64) m13)] ∧ kk4 = some res) ?_ (fun HK4 => ?_)
       ·
        rintro _ _ ⟨rfl, rfl, hr⟩
        rw [hkk4] at hr
        refine qe (zg 4 16 (qa 2 rfl ?_))
        obtain ⟨r41, h41, hr⟩ := za hr
        refine ew rfl (qiq _ rfl qif (.oc rfl (.oc rfl (.oc rfl (.oc rfl .nil)))) (by exact (pS [3, 3] _)) (qgV fuel _ _ _ _ _ _ _ _ h41)) ?_
        rintro _ _ ⟨_, ⟨rfl, rfl⟩, rfl⟩
        refine zaq ((.cell b7_4 (.agg [.int .i64 r41.2.1, .map m23_3])) :: (.map m23_3 (zu (D.int .i64) (D.int .i64) r41.2.2)) :: _) rfl (qa 1 rfl (qb ?_))
        refine zh 87 rfl hr (fun h87_41 hr => ?_) (fun h87_41 hr => ?_)
        ·
         refine qf 3 rfl ?_
         cases hr
         refine qu Tryz.func17 rfl ?_
         rfl
        ·
         refine qf 3 rfl (qg 2 (qaj rfl (qa 1 rfl (qb (qm [0, 3, 5, 6, 7, 38, 39, 40] rfl (qcA [_, _, _, _] _ (pS [1, 1, 3, 3] _) ?_))))))
         exact IH1 _ _ _ (by omega) ⟨(i11 + 1), r41.2.1, r41.2.2, rfl, rfl, rfl, (by omega), hr⟩
       ·
        refine qm [0, 3, 5, 6, 7, 12, 38, 39, 40, 67, 68, 69] rfl (q9 (fun n env σ => ∃ (i40 : Nat), (n = r39.length - i40) ∧ (env = [(0, .lst (a0.map qB)), (3, .ptr (qp a1)), (5, .map m20_1), (6, .map m20_2), (7, .ref b7_4 0 []), (12, .ptr (.agg [.str q_23.n, .lst (q_23.ts.map zi)])), (38, .lst (a1.f4_Body.map zA)), (39, .int .i64 (a1.f4_Body.length : Int)), (40, .int .i64 (i11 : Int)), (67, .lst (r39.map (D.int .i64))), (68, .int .i64 (r39.length : Int)), (69, .int .i64 (i40 : Int))]) ∧ (σ = [.map m20_1 (zu (D.int .i64) D.bool r1.1), .map m20_2 (zu (D.int .i64) D.bool r1.2), .cell b7_4 (.agg [.int .i64 c12, .map m23_3]), .map m23_3 (zu (D.int .i64) (D.int .i64) m13)]) ∧ (i40 ≤ r39.length) ∧ (qdP kk4 r1 (r39.drop i40) = some res)) _ ⟨0, rfl, rfl, rfl, jc _, hr⟩ ?_)
        rintro n _ _ ⟨i40, rfl, rfl, rfl, hi4, hr⟩ IH4
        rcases zb r39 i40 hi4 with ⟨ht4, hd4, he4⟩ | ⟨q_43, ht4, hd4, hq4, hlt4⟩
        ·
         rw [hd4, qdP] at hr
         refine qf 3 rfl (qk 70 false rfl ht4 (qA rfl (qQ rfl (qm [0, 3, 5, 6, 7, 12, 38, 39, 40] rfl ?_))))
         exact HK4 _ _ ⟨rfl, rfl, hr⟩
        ·
         rw [hd4, qdP] at hr
         refine qf 3 rfl (qk 70 true rfl ht4 (qf 5 rfl (qg 3 (qN hq4 rfl (qa 2 rfl (qb (qe (zg 10 32800 (qa 2 rfl (r_r rfl rfl rfl (qiZ (key := (D.int .i64)) (g := D.bool) r1.1 q_43 false rfl Tryz.underlying97 (yI Tryz.underlying3) qmL rfl rfl (.head _)) (qa 2 rfl ?_)))))))))))
         refine zq 77 rfl hr (fun h77_43 hr => ?_) (fun h77_43 hr => ?_)
         ·
          refine qa 2 rfl (r_r rfl rfl rfl (qiZ (key := (D.int .i64)) (g := D.bool) r1.2 q_43 false rfl Tryz.underlying97 (yI Tryz.underlying3) qmL rfl rfl (.tail _ (.head _))) (qa 2 rfl (qb ?_)))
          refine zh 82 rfl hr (fun h82_44 hr => ?_) (fun h82_44 hr => ?_)
          ·
           refine qf 3 rfl ?_
           cases hr
           refine qu Tryz.func17 rfl ?_
           rfl
          ·
           refine qf 3 rfl (qg 2 (qaj rfl (qa 1 rfl (qb (qm [0, 3, 5, 6, 7, 12, 38, 39, 40, 67, 68, 69] rfl ?_)))))
           exact IH4 _ _ _ (by omega) ⟨(i40 + 1), rfl, rfl, rfl, (by omega), hr⟩
         ·
          refine qa 5 rfl (qb (qf 3 rfl (qg 2 (qaj rfl (qa 1 rfl (qb (qm [0, 3, 5, 6, 7, 12, 38, 39, 40, 67, 68, 69] rfl ?_)))))))
          exact IH4 _ _ _ (by omega) ⟨(i40 + 1), rfl, rfl, rfl, (by omega), hr⟩
 ·
  refine qm [0, 3, 5, 6, 7, 26, 27, 28] rfl (qcA [_, _, _, _] _ (pS [1, 1, 3, 3] _) (q9 (fun n env σ => ∃ (i6 : Nat) (c7 : Int) (m8 : List (Int × Int)), (n = a1.f2_Remove.length - i6) ∧ (env = [(0, .lst (a0.map qB)), (3, .ptr (qp a1)), (5, .map m20_1), (6, .map m20_2), (7, .ref b7_4 0 []), (26, .lst (a1.f2_Remove.map zX)), (27, .int .i64 (a1.f2_Remove.length : Int)), (28, .int .i64 (i6 : Int))]) ∧ (σ = [.map m20_1 (zu (D.int .i64) D.bool r1.1), .map m20_2 (zu (D.int .i64) D.bool r1.2), .cell b7_4 (.agg [.int .i64 c7, .map m23_3]), .map m23_3 (zu (D.int .i64) (D.int .i64) m8)]) ∧ (i6 ≤ a1.f2_Remove.length) ∧ (qbS kk0 fuel a0 (a1.f2_Remove.drop i6) c7 m8 = some res)) _ ⟨0, 0, [], rfl, rfl, rfl, jc _, hr⟩ ?_))
  rintro n _ _ ⟨i6, c7, m8, rfl, rfl, rfl, hi0, hr⟩ IH0
  rcases zb a1.f2_Remove i6 hi0 with ⟨ht0, hd0, he0⟩ | ⟨q_46, ht0, hd0, hq0, hlt0⟩
  ·
   rw [hd0, qbS] at hr
   refine qf 3 rfl (qk 29 false rfl ht0 (qA rfl (qQ rfl (qm [0, 3, 5, 6, 7] rfl ?_))))
   exact HK0 _ _ ⟨c7, m8, rfl, rfl, hr⟩
  ·
   rw [hd0, qbS] at hr
   refine qf 3 rfl (qk 29 true rfl ht0 (qf 5 rfl (zg 4 80 (qN hq0 rfl (qa 1 rfl (ew rfl (qaJ rfl qe9) ?_))))))
   rintro _ _ ⟨b9_46, rfl, rfl⟩
   refine qcr rfl (pf0 _) (qb (qaR 9 b9_46 rfl (pf0 _) (qe (zg 4 16 (qa 2 rfl ?_)))))
   obtain ⟨r48, h48, hr⟩ := za hr
   refine ew rfl (qiq _ rfl qif (.oc rfl (.oc rfl (.oc rfl (.oc rfl .nil)))) (by exact (pS [3, 3] _)) (qgV fuel _ _ _ _ _ _ _ _ h48)) ?_
   rintro _ _ ⟨_, ⟨rfl, rfl⟩, rfl⟩
   refine zaq ((.cell b7_4 (.agg [.int .i64 r48.2.1, .map m23_3])) :: (.map m23_3 (zu (D.int .i64) (D.int .i64) r48.2.2)) :: _) rfl (qa 1 rfl (qb ?_))
   refine zh 35 rfl hr (fun h35_48 hr => ?_) (fun h35_48 hr => ?_)
   ·
    refine qf 3 rfl ?_
    cases hr
    refine qu Tryz.func17 rfl ?_
    rfl
   ·
    refine qf 3 rfl (qg 2 (qaj rfl (qa 1 rfl (qb (qm [0, 3, 5, 6, 7, 26, 27, 28] rfl (qcA [_, _, _, _] _ (pS [1, 1, 3, 3] _) ?_))))))
    exact IH0 _ _ _ (by omega) ⟨(i6 + 1), r48.2.1, r48.2.2, rfl, rfl, rfl, (by omega), hr⟩
noncomputable def qc6 (k : Option Int) (fuel : Nat) (a1 : List qj) : List qD → Option Int
 | [] =>
 k
 | q_5 :: rest =>
 ((qck fuel a1 q_5).bind fun r7 =>
 (bif (!r7) then
 some (19)
 else
 (qc6 k fuel a1 rest)))
noncomputable def qdE (k : Option Int) (a1 : List qj) : List qbG → Option Int
 | [] =>
 k
 | q_9 :: rest =>
 ((qeR a1 q_9.f0_Name q_9.f1_Arity).bind fun r11 =>
 (bif (!r11.2) then
 some (13)
 else
 (qdE k a1 rest)))
noncomputable def qfq (fuel : Nat) (a0 : qn) (a1 : List qj) : Option Int :=
 ((qf6 a1).bind fun r1 =>
 (bif (!r1) then
 some (2)
 else
 (qdE ((qc6 (some (0)) fuel a1 a0.f1_Rules)) a1 a0.f0_Decls)))
theorem qk3 (fuel : Nat) (a0 : qn) (a1 : List qj) (res : Int) (hr : qfq fuel a0 a1 = some res) : zf Tryz.prog 6 [ql a0, .lst (a1.map qB)] (.int .i64 res) := by
 unfold qfq at hr
 refine qY Tryz.func6 rfl fun K hK => (qe (qg 2 (rd rfl (qcK rfl rfl rfl) (qa 1 rfl (qb (qe (qe (qg 3 (qa 1 rfl ?_)))))))))
 obtain ⟨r1, h1, hr⟩ := za hr
 refine qs rfl qmC (qmk _ _ h1) (qa 1 rfl (qb ?_))
 refine zh 13 rfl hr (fun h13_1 hr => ?_) (fun h13_1 hr => ?_)
 ·
  refine qf 3 rfl ?_
  cases hr
  refine qu Tryz.func6 rfl ?_
  rfl
 ·
  refine qf 4 rfl (qg 4 (qa 2 rfl (qz rfl (qa 1 rfl (qb ?_)))))
  obtain ⟨kk0, hkk0, hr⟩ := exK (fun k => qdE k a1 a0.f0_Decls) hr
  refine qcq 15 rfl (asl rfl) fun hla0 => ?_
  simp only [jb] at hla0
  refine qx (fun env σ => env = [(1, .lst (a1.map qB)), (2, .ptr (ql a0))] ∧ σ = [] ∧ kk0 = some res) ?_ (fun HK0 => ?_)
  ·
   rintro _ _ ⟨rfl, rfl, hr⟩
   rw [hkk0] at hr
   refine qe (qe (qg 4 (qa 2 rfl (qz rfl (qa 1 rfl (qb ?_))))))
   obtain ⟨kk1, hkk1, hr⟩ := exK (fun k => qc6 k fuel a1 a0.f1_Rules) hr
   refine qcq 34 rfl (asl rfl) fun hla1 => ?_
   simp only [jb] at hla1
   refine qx (fun env σ => env = [] ∧ σ = [] ∧ kk1 = some res) ?_ (fun HK1 => ?_)
   ·
    rintro _ _ ⟨rfl, rfl, hr⟩
    rw [hkk1] at hr
    refine qf 2 rfl ?_
    cases hr
    refine qu Tryz.func6 rfl ?_
    rfl
   ·
    refine qm [1, 34, 35, 36] rfl (q9 (fun n env σ => ∃ (i4 : Nat), (n = a0.f1_Rules.length - i4) ∧ (env = [(1, .lst (a1.map qB)), (34, .lst (a0.f1_Rules.map qp)), (35, .int .i64 (a0.f1_Rules.length : Int)), (36, .int .i64 (i4 : Int))]) ∧ (σ = []) ∧ (i4 ≤ a0.f1_Rules.length) ∧ (qc6 kk1 fuel a1 (a0.f1_Rules.drop i4) = some res)) _ ⟨0, rfl, rfl, rfl, jc _, hr⟩ ?_)
    rintro n _ _ ⟨i4, rfl, rfl, rfl, hi1, hr⟩ IH1
    rcases zb a0.f1_Rules i4 hi1 with ⟨ht1, hd1, he1⟩ | ⟨q_5, ht1, hd1, hq1, hlt1⟩
    ·
     rw [hd1, qc6] at hr
     refine qf 3 rfl (qk 37 false rfl ht1 (qA rfl (qQ rfl (qm [] rfl ?_))))
     exact HK1 _ _ ⟨rfl, rfl, hr⟩
    ·
     rw [hd1, qc6] at hr
     refine qf 3 rfl (qk 37 true rfl ht1 (qf 5 rfl (zg 4 80 (qN hq1 rfl (qa 1 rfl (ew rfl (qaJ rfl qgt) ?_))))))
     rintro _ _ ⟨b10_5, rfl, rfl⟩
     refine qcr rfl (pf0 _) (qb (qaR 10 b10_5 rfl (pf0 _) (qe (qg 4 (qa 2 rfl ?_)))))
     obtain ⟨r7, h7, hr⟩ := za hr
     refine qs rfl qgy (qgH fuel _ _ _ h7) (qa 1 rfl (qb ?_))
     refine zh 43 rfl hr (fun h43_7 hr => ?_) (fun h43_7 hr => ?_)
     ·
      refine qf 3 rfl ?_
      cases hr
      refine qu Tryz.func6 rfl ?_
      rfl
     ·
      refine qf 3 rfl (qg 2 (qaj rfl (qa 1 rfl (qb (qm [1, 34, 35, 36] rfl ?_)))))
      exact IH1 _ _ _ (by omega) ⟨(i4 + 1), rfl, rfl, rfl, (by omega), hr⟩
  ·
   refine qm [1, 2, 15, 16, 17] rfl (q9 (fun n env σ => ∃ (i3 : Nat), (n = a0.f0_Decls.length - i3) ∧ (env = [(1, .lst (a1.map qB)), (2, .ptr (ql a0)), (15, .lst (a0.f0_Decls.map qaf)), (16, .int .i64 (a0.f0_Decls.length : Int)), (17, .int .i64 (i3 : Int))]) ∧ (σ = []) ∧ (i3 ≤ a0.f0_Decls.length) ∧ (qdE kk0 a1 (a0.f0_Decls.drop i3) = some res)) _ ⟨0, rfl, rfl, rfl, jc _, hr⟩ ?_)
   rintro n _ _ ⟨i3, rfl, rfl, rfl, hi0, hr⟩ IH0
   rcases zb a0.f0_Decls i3 hi0 with ⟨ht0, hd0, he0⟩ | ⟨q_9, ht0, hd0, hq0, hlt0⟩
   ·
    rw [hd0, qdE] at hr
    refine qf 3 rfl (qk 18 false rfl ht0 (qA rfl (qQ rfl (qm [1, 2] rfl ?_))))
    exact HK0 _ _ ⟨rfl, rfl, hr⟩
   ·
    rw [hd0, qdE] at hr
    refine qf 3 rfl (qk 18 true rfl ht0 (qf 5 rfl (zg 4 80 (qN hq0 rfl (qa 1 rfl (ew rfl (qaJ rfl qon) ?_))))))
    rintro _ _ ⟨b6_9, rfl, rfl⟩
    refine qcr rfl (pf0 _) (qb (qaR 6 b6_9 rfl (pf0 _) (qe (zg 12 1310720 (qa 5 rfl ?_)))))
    obtain ⟨r11, h11, hr⟩ := za hr
    refine qs rfl qjw (qjx _ _ _ _ h11) (qa 3 rfl (ew rfl (qaJ rfl qfZ) ?_))
    rintro _ _ ⟨b7_11, rfl, rfl⟩
    refine qcr rfl (pf0 _) (qa 1 rfl (qb (qaR 7 b7_11 rfl (pf0 _) (qf 2 rfl ?_))))
    refine zh 31 rfl hr (fun h31_12 hr => ?_) (fun h31_12 hr => ?_)
    ·
     refine qf 3 rfl ?_
     cases hr
     refine qu Tryz.func6 rfl ?_
     rfl
    ·
     refine qf 3 rfl (qg 2 (qaj rfl (qa 1 rfl (qb (qm [1, 2, 15, 16, 17] rfl ?_)))))
     exact IH0 _ _ _ (by omega) ⟨(i3 + 1), rfl, rfl, rfl, (by omega), hr⟩
noncomputable def qe4 (k : Int → Option (Int × Bool)) (r1 : qj × Bool) : List T → Int → Nat → Option (Int × Bool)
 | [], n10, i11 =>
 (k n10)
 | q_13 :: rest, n10, i11 =>
 ((zj r1.1.f2_Factors (i11 : Int)).bind fun q_15 =>
 ((qmg q_13).bind fun r16 =>
 (qe4 k r1 rest (wr (n10 + (wr (q_15 * r16)))) (i11 + 1))))
noncomputable def qgz (a0 : List qj) (a1 : At) : Option (Int × Bool) :=
 ((qeR a0 a1.n (a1.ts.length : Int)).bind fun r1 =>
 (bif (!r1.2) then
 some (0, false)
 else
 ((qfU r1.1).bind fun r4 =>
 (bif (!r4) then
 some (0, false)
 else
 ((qih a1).bind fun r6 =>
 (bif (!r6) then
 some (0, false)
 else
 ((qh9 a1).bind fun r8 =>
 (bif (decide ((r8.length : Int) > (0 : Int))) then
 some (0, false)
 else
 (qe4 (fun n12 =>
 some (n12, true)) r1 a1.ts r1.1.f1_Const 0)))))))))
theorem qmS (a0 : List qj) (a1 : At) (res : Int × Bool) (hr : qgz a0 a1 = some res) : zf Tryz.prog 23 [.lst (a0.map qB), zX a1] (.tup [.int .i64 res.1, .bool res.2]) := by
 unfold qgz at hr
 refine qY Tryz.func23 rfl fun K hK => (qe (qg 3 (rd rfl (qcK rfl rfl rfl) (qa 2 rfl (qb (qe (zg 13 5242880 (qa 5 rfl (qz rfl ?_)))))))))
 obtain ⟨r1, h1, hr⟩ := za hr
 refine qs rfl qjw (qjx _ _ _ _ h1) (qa 3 rfl (ew rfl (qaJ rfl qfZ) ?_))
 rintro _ _ ⟨b6_1, rfl, rfl⟩
 refine qcr rfl (pf0 _) (qa 1 rfl (qb (qaR 6 b6_1 rfl (pf0 _) (qe (qe (qg 18 (qa 3 rfl ?_)))))))
 refine zq 23 rfl hr (fun h23_2 hr => ?_) (fun h23_2 hr => ?_)
 ·
  refine qa 15 rfl (qb (qf 3 rfl ?_))
  cases hr
  refine qu Tryz.func23 rfl ?_
  rfl
 ·
  refine qa 1 rfl ?_
  obtain ⟨r4, h4, hr⟩ := za hr
  refine qs rfl qkJ (qlj _ _ h4) (qa 3 rfl ?_)
  refine zq 28 rfl hr (fun h28_4 hr => ?_) (fun h28_4 hr => ?_)
  ·
   refine qa 10 rfl (qb (qf 3 rfl ?_))
   cases hr
   refine qu Tryz.func23 rfl ?_
   rfl
  ·
   refine qa 1 rfl ?_
   obtain ⟨r6, h6, hr⟩ := za hr
   refine qs rfl qie (qid _ _ h6) (qa 3 rfl ?_)
   refine zq 33 rfl hr (fun h33_6 hr => ?_) (fun h33_6 hr => ?_)
   ·
    refine qa 5 rfl (qb (qf 3 rfl ?_))
    cases hr
    refine qu Tryz.func23 rfl ?_
    rfl
   ·
    refine qa 1 rfl ?_
    obtain ⟨r8, h8, hr⟩ := za hr
    refine qs rfl qhc (qha _ _ h8) (qz rfl (qa 2 rfl (qb ?_)))
    refine zh 38 rfl hr (fun h38_8 hr => ?_) (fun h38_8 hr => ?_)
    ·
     refine qf 3 rfl ?_
     cases hr
     refine qu Tryz.func23 rfl ?_
     rfl
    ·
     refine qf 6 rfl (qg 4 (qa 2 rfl (qz rfl (qa 1 rfl (qb ?_)))))
     obtain ⟨kk0, hkk0, hr⟩ := exK (fun k => qe4 k r1 a1.ts r1.1.f1_Const 0) hr
     refine qcq 16 rfl (asl rfl) fun hla0 => ?_
     simp only [jb] at hla0
     refine qx (fun env σ => ∃ (n12 : Int), env = [(8, .int .i64 n12)] ∧ σ = [] ∧ kk0 n12 = some res) ?_ (fun HK0 => ?_)
     ·
      rintro _ _ ⟨n12, rfl, rfl, hr⟩
      rw [hkk0] at hr
      refine qf 2 rfl ?_
      cases hr
      refine qu Tryz.func23 rfl ?_
      rfl
     ·
      refine qm [6, 42, 43, 8, 44] rfl (q9 (fun n env σ => ∃ (n10 : Int) (i11 : Nat), (n = a1.ts.length - i11) ∧ (env = [(6, .ptr (qB r1.1)), (42, .lst (a1.ts.map zi)), (43, .int .i64 (a1.ts.length : Int)), (8, .int .i64 n10), (44, .int .i64 (i11 : Int))]) ∧ (σ = []) ∧ (i11 ≤ a1.ts.length) ∧ (qe4 kk0 r1 (a1.ts.drop i11) n10 i11 = some res)) _ ⟨r1.1.f1_Const, 0, rfl, rfl, rfl, jc _, hr⟩ ?_)
      rintro n _ _ ⟨n10, i11, rfl, rfl, rfl, hi0, hr⟩ IH0
      rcases zb a1.ts i11 hi0 with ⟨ht0, hd0, he0⟩ | ⟨q_13, ht0, hd0, hq0, hlt0⟩
      ·
       rw [hd0, qe4] at hr
       refine qf 3 rfl (qk 45 false rfl ht0 (qA rfl (qQ rfl (qm [8] rfl ?_))))
       exact HK0 _ _ ⟨n10, rfl, rfl, hr⟩
      ·
       rw [hd0, qe4] at hr
       refine qf 3 rfl (qk 45 true rfl ht0 (qf 5 rfl (zg 6 1088 (qa 1 rfl (qN hq0 rfl (qa 1 rfl (ew rfl (qaJ rfl qc0) ?_)))))))
       rintro _ _ ⟨b10_13, rfl, rfl⟩
       refine qa 1 rfl (qcr rfl (pf0 _) (qb (qaR 10 b10_13 rfl (pf0 _) (qei 11 0 (qa 4 rfl ?_)))))
       obtain ⟨q_15, h15, hr⟩ := za hr
       refine qN h15 rfl (qa 2 rfl ?_)
       obtain ⟨r16, h16, hr⟩ := za hr
       refine qs rfl qr8 (qsF _ _ h16) (rd rfl (qeF rfl rfl rfl rfl) (rd rfl (qeF rfl rfl rfl rfl) (qa 1 rfl (qb (qaa (qg 2 (qaj rfl (qa 1 rfl (qb (qm [6, 42, 43, 8, 44] rfl ?_))))))))))
       exact IH0 _ _ _ (by omega) ⟨(wr (n10 + (wr (q_15 * r16)))), (i11 + 1), rfl, rfl, rfl, (by omega), hr⟩
noncomputable def qd0 (k : Int → Option (Int × Int)) (a0 : List qj) : List At → Int → Option (Int × Int)
 | [], a3 =>
 (k a3)
 | q_6 :: rest, a3 =>
 ((qgz a0 q_6).bind fun r8 =>
 (bif r8.2 then
 (qd0 k a0 rest (wr (a3 + r8.1)))
 else
 ((qeR a0 q_6.n (q_6.ts.length : Int)).bind fun r10 =>
 ((qih q_6).bind fun r12 =>
 (bif (!r12) then
 some (0, 2)
 else
 (bif (!r10.2) then
 some (0, 13)
 else
 some (0, 17)))))))
noncomputable def qgC (a0 : List qj) (a1 : List At) : Option (Int × Int) :=
 ((qf6 a0).bind fun r1 =>
 (bif (!r1) then
 some (0, 2)
 else
 (qd0 (fun a5 =>
 some (a5, 0)) a0 a1 0)))
theorem qqY (a0 : List qj) (a1 : List At) (res : Int × Int) (hr : qgC a0 a1 = some res) : zf Tryz.prog 24 [.lst (a0.map qB), .lst (a1.map zX)] (.tup [.int .i64 res.1, .int .i64 res.2]) := by
 unfold qgC at hr
 refine qY Tryz.func24 rfl fun K hK => (qf 4 rfl (qg 3 (qa 1 rfl ?_)))
 obtain ⟨r1, h1, hr⟩ := za hr
 refine qs rfl qmC (qmk _ _ h1) (qa 1 rfl (qb ?_))
 refine zh 15 rfl hr (fun h15_1 hr => ?_) (fun h15_1 hr => ?_)
 ·
  refine qf 3 rfl ?_
  cases hr
  refine qu Tryz.func24 rfl ?_
  rfl
 ·
  refine qf 6 rfl (qg 3 (qa 1 rfl (qz rfl (qa 1 rfl (qb ?_)))))
  obtain ⟨kk0, hkk0, hr⟩ := exK (fun k => qd0 k a0 a1 0) hr
  refine qcq 1 rfl (asl rfl) fun hla0 => ?_
  simp only [jb] at hla0
  refine qx (fun env σ => ∃ (a5 : Int), env = [(6, .int .i64 a5)] ∧ σ = [] ∧ kk0 a5 = some res) ?_ (fun HK0 => ?_)
  ·
   rintro _ _ ⟨a5, rfl, rfl, hr⟩
   rw [hkk0] at hr
   refine qf 2 rfl ?_
   cases hr
   refine qu Tryz.func24 rfl ?_
   rfl
  ·
   refine qm [0, 16, 17, 6, 18] rfl (q9 (fun n env σ => ∃ (a3 : Int) (i4 : Nat), (n = a1.length - i4) ∧ (env = [(0, .lst (a0.map qB)), (16, .lst (a1.map zX)), (17, .int .i64 (a1.length : Int)), (6, .int .i64 a3), (18, .int .i64 (i4 : Int))]) ∧ (σ = []) ∧ (i4 ≤ a1.length) ∧ (qd0 kk0 a0 (a1.drop i4) a3 = some res)) _ ⟨0, 0, rfl, rfl, rfl, jc _, hr⟩ ?_)
   rintro n _ _ ⟨a3, i4, rfl, rfl, rfl, hi0, hr⟩ IH0
   rcases zb a1 i4 hi0 with ⟨ht0, hd0, he0⟩ | ⟨q_6, ht0, hd0, hq0, hlt0⟩
   ·
    rw [hd0, qd0] at hr
    refine qf 3 rfl (qk 19 false rfl ht0 (qA rfl (qQ rfl (qm [6] rfl ?_))))
    exact HK0 _ _ ⟨a3, rfl, rfl, hr⟩
   ·
    rw [hd0, qd0] at hr
    refine qf 3 rfl (qk 19 true rfl ht0 (qf 5 rfl (zg 4 80 (qN hq0 rfl (qa 1 rfl (ew rfl (qaJ rfl qe9) ?_))))))
    rintro _ _ ⟨b8_6, rfl, rfl⟩
    refine qcr rfl (pf0 _) (qb (qaR 8 b8_6 rfl (pf0 _) (qe (qg 8 (qa 2 rfl ?_)))))
    obtain ⟨r8, h8, hr⟩ := za hr
    refine qs rfl qm7 (qmS _ _ _ h8) (qa 5 rfl (qb (qf 3 rfl ?_)))
    refine zh 28 rfl hr (fun h28_8 hr => ?_) (fun h28_8 hr => ?_)
    ·
     refine qO rfl (qe (qg 4 (qa 2 rfl (rd rfl (qeF rfl rfl rfl rfl) (qa 1 rfl (qb (qQ rfl (qg 2 (qaj rfl (qa 1 rfl (qb (qm [0, 16, 17, 6, 18] rfl ?_))))))))))))
     exact IH0 _ _ _ (by omega) ⟨(wr (a3 + r8.1)), (i4 + 1), rfl, rfl, rfl, (by omega), hr⟩
    ·
     refine qf 3 rfl (zg 13 5242880 (qa 5 rfl (qz rfl ?_)))
     obtain ⟨r10, h10, hr⟩ := za hr
     refine qs rfl qjw (qjx _ _ _ _ h10) (qa 3 rfl (ew rfl (qaJ rfl qfZ) ?_))
     rintro _ _ ⟨b11_10, rfl, rfl⟩
     refine qcr rfl (pf0 _) (qa 1 rfl (qb (qaR 11 b11_10 rfl (pf0 _) (qf 3 rfl (qg 4 (qa 1 rfl ?_))))))
     obtain ⟨r12, h12, hr⟩ := za hr
     refine qs rfl qie (qid _ _ h12) (qa 2 rfl (qb ?_))
     refine zh 42 rfl hr (fun h42_12 hr => ?_) (fun h42_12 hr => ?_)
     ·
      refine qf 3 rfl ?_
      cases hr
      refine qu Tryz.func24 rfl ?_
      rfl
     ·
      refine qf 3 rfl ?_
      refine zh 46 rfl hr (fun h46_13 hr => ?_) (fun h46_13 hr => ?_)
      ·
       refine qf 3 rfl ?_
       cases hr
       refine qu Tryz.func24 rfl ?_
       rfl
      ·
       refine qf 5 rfl ?_
       cases hr
       refine qu Tryz.func24 rfl ?_
       rfl
noncomputable def qaN (fuel : Nat) : Option Bool :=
 ((qgz [(⟨⟨#[112]⟩, 0, [1]⟩ : qj)] (⟨⟨#[112]⟩, [(T.mk 2 0 ⟨#[102]⟩ [(T.mk 0 7 ⟨#[]⟩ [])])]⟩ : At)).bind fun r8 =>
 ((zj [(⟨⟨#[112]⟩, [(T.mk 2 0 ⟨#[102]⟩ [(T.mk 1 0 ⟨#[]⟩ [])])]⟩ : At)] 0).bind fun q_9 =>
 ((qgz [(⟨⟨#[112]⟩, 0, [1]⟩ : qj)] q_9).bind fun r10 =>
 ((qgC [(⟨⟨#[112]⟩, 0, [1]⟩ : qj)] [(⟨⟨#[112]⟩, [(T.mk 2 0 ⟨#[102]⟩ [(T.mk 1 0 ⟨#[]⟩ [])])]⟩ : At)]).bind fun r11 =>
 (bif (r8.1 == (2 : Int)) then
 (bif r8.2 then
 (bif (!r10.2) then
 (bif (r11.2 == (17 : Int)) then
 ((qck fuel [(⟨⟨#[112]⟩, 0, [1]⟩ : qj)] (⟨⟨#[]⟩, [], [(⟨⟨#[112]⟩, [(T.mk 2 0 ⟨#[102]⟩ [(T.mk 1 0 ⟨#[]⟩ [])])]⟩ : At)], [], [(⟨0, ⟨#[112]⟩, [(T.mk 1 0 ⟨#[]⟩ [])]⟩ : Gl)], 1⟩ : qD)).bind fun r16 =>
 (bif r16 then
 ((qck fuel [(⟨⟨#[112]⟩, 0, [1]⟩ : qj)] (⟨⟨#[]⟩, [], [(⟨⟨#[112]⟩, [(T.mk 1 0 ⟨#[]⟩ [])]⟩ : At)], [], [(⟨0, ⟨#[112]⟩, [(T.mk 2 0 ⟨#[102]⟩ [(T.mk 1 0 ⟨#[]⟩ [])])]⟩ : Gl)], 1⟩ : qD)).bind fun r18 =>
 (bif (!r18) then
 ((qck fuel [(⟨⟨#[112]⟩, 0, [1]⟩ : qj)] (⟨⟨#[]⟩, [], [(⟨⟨#[112]⟩, [(T.mk 2 0 ⟨#[102]⟩ [(T.mk 1 0 ⟨#[]⟩ [])])]⟩ : At)], [], [(⟨0, ⟨#[112]⟩, [(T.mk 1 1 ⟨#[]⟩ [])]⟩ : Gl)], 2⟩ : qD)).bind fun r20 =>
 (bif (!r20) then
 ((qfq fuel (⟨[(⟨⟨#[112]⟩, 1⟩ : qbG)], [(⟨⟨#[]⟩, [], [(⟨⟨#[112]⟩, [(T.mk 2 0 ⟨#[102]⟩ [(T.mk 1 0 ⟨#[]⟩ [])])]⟩ : At)], [], [(⟨0, ⟨#[112]⟩, [(T.mk 1 0 ⟨#[]⟩ [])]⟩ : Gl)], 1⟩ : qD)]⟩ : qn) [(⟨⟨#[112]⟩, 0, [1]⟩ : qj)]).bind fun r22 =>
 (bif (r22 == (0 : Int)) then
 ((qfq fuel (⟨[], [(⟨⟨#[]⟩, [], [(⟨⟨#[112]⟩, [(T.mk 1 0 ⟨#[]⟩ [])]⟩ : At)], [], [(⟨0, ⟨#[112]⟩, [(T.mk 2 0 ⟨#[102]⟩ [(T.mk 1 0 ⟨#[]⟩ [])])]⟩ : Gl)], 1⟩ : qD)]⟩ : qn) [(⟨⟨#[112]⟩, 0, [1]⟩ : qj)]).bind fun r24 =>
 some ((r24 == (19 : Int))))
 else
 some (false)))
 else
 some (false)))
 else
 some (false)))
 else
 some (false)))
 else
 some (false))
 else
 some (false))
 else
 some (false))
 else
 some (false))))))
theorem qds (fuel : Nat) (res : Bool) (hr : qaN fuel = some res) : zf Tryz.prog 8 [] (.bool res) := by
 unfold qaN at hr
 refine qY Tryz.func8 rfl fun K hK => (qf 3 rfl (zg 6 1360 (rd rfl (qbl rfl qeB (.oc rfl .nil) (.cons rfl rfl rfl (.nil _))) (rd rfl (qbl rfl qeB (.oc rfl (.oc rfl .nil)) (.cons rfl rfl rfl (.cons rfl rfl rfl (.nil _)))) (ew rfl (qaJ rfl qc0) ?_)))))
 rintro _ _ ⟨b1_0, rfl, rfl⟩
 refine ew rfl (qaJ rfl qc0) ?_
 rintro _ _ ⟨b2_1, rfl, rfl⟩
 refine qcr rfl (pf1 _ _ _) (qcr rfl (pf1 _ _ _) (qb (qaR 1 b1_0 rfl (pf1 _ _ _) (qaR 2 b2_1 rfl (pf0 _) (qe (zg 5 320 (qa 1 rfl (rd rfl (qeS (f := zi) [.tmp 17] [(T.mk 1 0 ⟨#[]⟩ [])] rfl qam rfl rfl (by decide) (by decide) (.cons rfl (Wk.ofEq (by show _ = D.agg (fsT _); rw [qdQ] <;> rfl)) .nil) qcl (fun _ => rfl)) (rd rfl (qbl rfl qeB (.oc rfl (.oc rfl (.cons rfl (Wk.full _) .nil))) (.cons rfl rfl rfl (.cons rfl rfl rfl (.cons rfl rfl rfl (.nil _))))) (ew rfl (qaJ rfl qc0) ?_))))))))))
 rintro _ _ ⟨b3_2, rfl, rfl⟩
 refine qcr rfl (pf0 _) (qb (qaR 3 b3_2 rfl (pf0 _) (qe (zg 4 80 (rd rfl (qeS (f := (D.int .i64)) [.const (.int .i64 (1))] [1] rfl qc7 rfl rfl (by decide) (by decide) (.oc rfl .nil) (fun _ => rfl) (fun _ => rfl)) (rd rfl (qbl rfl qkV (.oc rfl (.cons rfl (Wk.full _) .nil)) (.cons rfl rfl rfl (.cons rfl rfl rfl (.nil _)))) (ew rfl (qaJ rfl qfZ) ?_)))))))
 rintro _ _ ⟨b4_3, rfl, rfl⟩
 refine qcr rfl (pf0 _) (qb (qaR 4 b4_3 rfl (pf0 _) (qe (zg 11 1310720 (qa 1 rfl (rd rfl (qeS (f := zi) [.tmp 22] [(T.mk 2 0 ⟨#[102]⟩ [(T.mk 1 0 ⟨#[]⟩ [])])] rfl qam rfl rfl (by decide) (by decide) (.cons rfl (Wk.ofEq (by show _ = D.agg (fsT _); rw [qdQ] <;> rfl)) .nil) qcl (fun _ => rfl)) (rd rfl (qbl rfl qfw (.oc rfl (.cons rfl (Wk.full _) .nil)) (.cons rfl rfl rfl (.cons rfl rfl rfl (.nil _)))) (rd rfl (qeS (f := zX) [.tmp 24] [(⟨⟨#[112]⟩, [(T.mk 2 0 ⟨#[102]⟩ [(T.mk 1 0 ⟨#[]⟩ [])])]⟩ : At)] rfl qdX rfl rfl (by decide) (by decide) (.oc rfl .nil) qhY (fun _ => rfl)) (qa 1 rfl (rd rfl (qeS (f := zi) [.tmp 26] [(T.mk 1 0 ⟨#[]⟩ [])] rfl qam rfl rfl (by decide) (by decide) (.cons rfl (Wk.ofEq (by show _ = D.agg (fsT _); rw [qdQ] <;> rfl)) .nil) qcl (fun _ => rfl)) (rd rfl (qbl rfl qic (.oc rfl (.cons rfl (Wk.full _) .nil)) (.cons rfl rfl rfl (.cons rfl rfl rfl (.nil _)))) (rd rfl (qeS (f := zA) [.tmp 28] [(⟨0, ⟨#[112]⟩, [(T.mk 1 0 ⟨#[]⟩ [])]⟩ : Gl)] rfl qc3 rfl rfl (by decide) (by decide) (.oc rfl .nil) qgW (fun _ => rfl)) (rd rfl (qbl rfl qkG (.cons rfl (Wk.full _) (.cons rfl (Wk.full _) (.oc rfl .nil))) (.cons rfl rfl rfl (.cons rfl rfl rfl (.cons rfl rfl rfl (.nil _))))) ?_)))))))))))))
 refine ew rfl (qaJ rfl qgt) ?_
 rintro _ _ ⟨b5_4, rfl, rfl⟩
 refine qcr rfl (pf0 _) (qb (qaR 5 b5_4 rfl (pf0 _) (qe (zg 11 1310720 (qa 1 rfl (rd rfl (qeS (f := zi) [.tmp 31] [(T.mk 1 0 ⟨#[]⟩ [])] rfl qam rfl rfl (by decide) (by decide) (.cons rfl (Wk.ofEq (by show _ = D.agg (fsT _); rw [qdQ] <;> rfl)) .nil) qcl (fun _ => rfl)) (rd rfl (qbl rfl qfw (.oc rfl (.cons rfl (Wk.full _) .nil)) (.cons rfl rfl rfl (.cons rfl rfl rfl (.nil _)))) (rd rfl (qeS (f := zX) [.tmp 33] [(⟨⟨#[112]⟩, [(T.mk 1 0 ⟨#[]⟩ [])]⟩ : At)] rfl qdX rfl rfl (by decide) (by decide) (.oc rfl .nil) qhY (fun _ => rfl)) (qa 1 rfl (rd rfl (qeS (f := zi) [.tmp 35] [(T.mk 2 0 ⟨#[102]⟩ [(T.mk 1 0 ⟨#[]⟩ [])])] rfl qam rfl rfl (by decide) (by decide) (.cons rfl (Wk.ofEq (by show _ = D.agg (fsT _); rw [qdQ] <;> rfl)) .nil) qcl (fun _ => rfl)) (rd rfl (qbl rfl qic (.oc rfl (.cons rfl (Wk.full _) .nil)) (.cons rfl rfl rfl (.cons rfl rfl rfl (.nil _)))) (rd rfl (qeS (f := zA) [.tmp 37] [(⟨0, ⟨#[112]⟩, [(T.mk 2 0 ⟨#[102]⟩ [(T.mk 1 0 ⟨#[]⟩ [])])]⟩ : Gl)] rfl qc3 rfl rfl (by decide) (by decide) (.oc rfl .nil) qgW (fun _ => rfl)) (rd rfl (qbl rfl qkG (.cons rfl (Wk.full _) (.cons rfl (Wk.full _) (.oc rfl .nil))) (.cons rfl rfl rfl (.cons rfl rfl rfl (.cons rfl rfl rfl (.nil _))))) ?_)))))))))))))
 refine ew rfl (qaJ rfl qgt) ?_
 rintro _ _ ⟨b6_5, rfl, rfl⟩
 refine qcr rfl (pf0 _) (qb (qaR 6 b6_5 rfl (pf0 _) (qe (zg 11 1310720 (qa 1 rfl (rd rfl (qeS (f := zi) [.tmp 40] [(T.mk 2 0 ⟨#[102]⟩ [(T.mk 1 0 ⟨#[]⟩ [])])] rfl qam rfl rfl (by decide) (by decide) (.cons rfl (Wk.ofEq (by show _ = D.agg (fsT _); rw [qdQ] <;> rfl)) .nil) qcl (fun _ => rfl)) (rd rfl (qbl rfl qfw (.oc rfl (.cons rfl (Wk.full _) .nil)) (.cons rfl rfl rfl (.cons rfl rfl rfl (.nil _)))) (rd rfl (qeS (f := zX) [.tmp 42] [(⟨⟨#[112]⟩, [(T.mk 2 0 ⟨#[102]⟩ [(T.mk 1 0 ⟨#[]⟩ [])])]⟩ : At)] rfl qdX rfl rfl (by decide) (by decide) (.oc rfl .nil) qhY (fun _ => rfl)) (qa 1 rfl (rd rfl (qeS (f := zi) [.tmp 44] [(T.mk 1 1 ⟨#[]⟩ [])] rfl qam rfl rfl (by decide) (by decide) (.cons rfl (Wk.ofEq (by show _ = D.agg (fsT _); rw [qdQ] <;> rfl)) .nil) qcl (fun _ => rfl)) (rd rfl (qbl rfl qic (.oc rfl (.cons rfl (Wk.full _) .nil)) (.cons rfl rfl rfl (.cons rfl rfl rfl (.nil _)))) (rd rfl (qeS (f := zA) [.tmp 46] [(⟨0, ⟨#[112]⟩, [(T.mk 1 1 ⟨#[]⟩ [])]⟩ : Gl)] rfl qc3 rfl rfl (by decide) (by decide) (.oc rfl .nil) qgW (fun _ => rfl)) (rd rfl (qbl rfl qkG (.cons rfl (Wk.full _) (.cons rfl (Wk.full _) (.oc rfl .nil))) (.cons rfl rfl rfl (.cons rfl rfl rfl (.cons rfl rfl rfl (.nil _))))) ?_)))))))))))))
 refine ew rfl (qaJ rfl qgt) ?_
 rintro _ _ ⟨b7_6, rfl, rfl⟩
 refine qcr rfl (pf0 _) (qb (qaR 7 b7_6 rfl (pf0 _) (qe (qg 3 (qa 1 rfl (rd rfl (qeS (f := qB) [.tmp 49] [(⟨⟨#[112]⟩, 0, [1]⟩ : qj)] rfl qmw rfl rfl (by decide) (by decide) (.oc rfl .nil) qgB (fun _ => rfl)) (qa 1 rfl (qb (qe (qg 12 (qa 1 rfl (rd rfl (qbl rfl qeB (.oc rfl .nil) (.cons rfl rfl rfl (.nil _))) (rd rfl (qeS (f := zi) [.tmp 53] [(T.mk 0 7 ⟨#[]⟩ [])] rfl qam rfl rfl (by decide) (by decide) (.cons rfl (Wk.ofEq (by show _ = D.agg (fsT _); rw [qdQ] <;> rfl)) .nil) qcl (fun _ => rfl)) ?_)))))))))))))
 refine rd rfl (qbl rfl qeB (.oc rfl (.oc rfl (.cons rfl (Wk.full _) .nil))) (.cons rfl rfl rfl (.cons rfl rfl rfl (.cons rfl rfl rfl (.nil _))))) (rd rfl (qeS (f := zi) [.tmp 55] [(T.mk 2 0 ⟨#[102]⟩ [(T.mk 0 7 ⟨#[]⟩ [])])] rfl qam rfl rfl (by decide) (by decide) (.cons rfl (Wk.ofEq (by show _ = D.agg (fsT _); rw [qdQ] <;> rfl)) .nil) qcl (fun _ => rfl)) (rd rfl (qbl rfl qfw (.oc rfl (.cons rfl (Wk.full _) .nil)) (.cons rfl rfl rfl (.cons rfl rfl rfl (.nil _)))) ?_))
 obtain ⟨r8, h8, hr⟩ := za hr
 refine rd rfl (by exact qhd rfl qm7 (.cons rfl (Wk.full _) (.oc rfl .nil)) (qmS _ _ _ h8)) ?_
 refine qa 5 rfl (qb (qe (qg 11 (qa 3 rfl ?_))))
 obtain ⟨q_9, h9, hr⟩ := za hr
 refine qN h9 rfl (qa 1 rfl ?_)
 obtain ⟨r10, h10, hr⟩ := za hr
 refine rd rfl (by exact qhd rfl qm7 (.cons rfl (Wk.full _) (.oc rfl .nil)) (qmS _ _ _ h10)) ?_
 refine qa 5 rfl (qb (qe (qg 9 (qa 3 rfl ?_))))
 obtain ⟨r11, h11, hr⟩ := za hr
 refine rd rfl (by exact qhd rfl qrS (.cons rfl (Wk.full _) (.oc rfl .nil)) (qqY _ _ _ h11)) ?_
 refine qa 5 rfl (qb (qe (qg 49 (qa 3 rfl ?_))))
 refine zq 79 rfl hr (fun h79_11 hr => ?_) (fun h79_11 hr => ?_)
 ·
  refine qa 3 rfl ?_
  refine zq 82 rfl hr (fun h82_12 hr => ?_) (fun h82_12 hr => ?_)
  ·
   refine qa 4 rfl ?_
   refine zq 86 rfl hr (fun h86_13 hr => ?_) (fun h86_13 hr => ?_)
   ·
    refine qa 4 rfl ?_
    refine zq 90 rfl hr (fun h90_14 hr => ?_) (fun h90_14 hr => ?_)
    ·
     refine qa 2 rfl ?_
     obtain ⟨r16, h16, hr⟩ := za hr
     refine rd rfl (by exact qhd rfl qgy (.cons rfl (Wk.full _) (.oc rfl .nil)) (qgH fuel _ _ _ h16)) ?_
     refine qa 2 rfl ?_
     refine zq 95 rfl hr (fun h95_16 hr => ?_) (fun h95_16 hr => ?_)
     ·
      refine qa 2 rfl ?_
      obtain ⟨r18, h18, hr⟩ := za hr
      refine rd rfl (by exact qhd rfl qgy (.cons rfl (Wk.full _) (.oc rfl .nil)) (qgH fuel _ _ _ h18)) ?_
      refine qa 3 rfl ?_
      refine zq 101 rfl hr (fun h101_18 hr => ?_) (fun h101_18 hr => ?_)
      ·
       refine qa 2 rfl ?_
       obtain ⟨r20, h20, hr⟩ := za hr
       refine rd rfl (by exact qhd rfl qgy (.cons rfl (Wk.full _) (.oc rfl .nil)) (qgH fuel _ _ _ h20)) ?_
       refine qa 3 rfl ?_
       refine zq 107 rfl hr (fun h107_20 hr => ?_) (fun h107_20 hr => ?_)
       ·
        refine rd rfl (qbl rfl qn6 (.oc rfl (.oc rfl .nil)) (.cons rfl rfl rfl (.cons rfl rfl rfl (.nil _)))) (rd rfl (qeS (f := qaf) [.tmp 108] [(⟨⟨#[112]⟩, 1⟩ : qbG)] rfl qkX rfl rfl (by decide) (by decide) (.oc rfl .nil) qhW (fun _ => rfl)) (qa 1 rfl (rd rfl (qeS (f := qp) [.tmp 110] [(⟨⟨#[]⟩, [], [(⟨⟨#[112]⟩, [(T.mk 2 0 ⟨#[102]⟩ [(T.mk 1 0 ⟨#[]⟩ [])])]⟩ : At)], [], [(⟨0, ⟨#[112]⟩, [(T.mk 1 0 ⟨#[]⟩ [])]⟩ : Gl)], 1⟩ : qD)] rfl qld rfl rfl (by decide) (by decide) (.oc rfl .nil) qhX (fun _ => rfl)) (rd rfl (qbl rfl ql2 (.cons rfl (Wk.full _) (.cons rfl (Wk.full _) .nil)) (.cons rfl rfl rfl (.cons rfl rfl rfl (.nil _)))) (qa 1 rfl ?_)))))
        obtain ⟨r22, h22, hr⟩ := za hr
        refine rd rfl (by exact qhd rfl qkE (.oc rfl (.cons rfl (Wk.full _) .nil)) (qk3 fuel _ _ _ h22)) ?_
        refine qa 3 rfl ?_
        refine zq 117 rfl hr (fun h117_22 hr => ?_) (fun h117_22 hr => ?_)
        ·
         refine qa 1 rfl (rd rfl (qeS (f := qp) [.tmp 118] [(⟨⟨#[]⟩, [], [(⟨⟨#[112]⟩, [(T.mk 1 0 ⟨#[]⟩ [])]⟩ : At)], [], [(⟨0, ⟨#[112]⟩, [(T.mk 2 0 ⟨#[102]⟩ [(T.mk 1 0 ⟨#[]⟩ [])])]⟩ : Gl)], 1⟩ : qD)] rfl qld rfl rfl (by decide) (by decide) (.oc rfl .nil) qhX (fun _ => rfl)) (rd rfl (qbl rfl ql2 (.cons rfl (Wk.full _) .nil) (.cons rfl rfl rfl (.nil _))) (qa 1 rfl ?_)))
         obtain ⟨r24, h24, hr⟩ := za hr
         refine rd rfl (by exact qhd rfl qkE (.oc rfl (.cons rfl (Wk.full _) .nil)) (qk3 fuel _ _ _ h24)) ?_
         refine qa 3 rfl (qb ?_)
         cases hr
         refine qu Tryz.func8 rfl ?_
         rfl
        ·
         refine qa 8 rfl (qb ?_)
         cases hr
         refine qu Tryz.func8 rfl ?_
         rfl
       ·
        refine qa 18 rfl (qb ?_)
        cases hr
        refine qu Tryz.func8 rfl ?_
        rfl
      ·
       refine qa 24 rfl (qb ?_)
       cases hr
       refine qu Tryz.func8 rfl ?_
       rfl
     ·
      refine qa 30 rfl (qb ?_)
      cases hr
      refine qu Tryz.func8 rfl ?_
      rfl
    ·
     refine qa 35 rfl (qb ?_)
     cases hr
     refine qu Tryz.func8 rfl ?_
     rfl
   ·
    refine qa 39 rfl (qb ?_)
    cases hr
    refine qu Tryz.func8 rfl ?_
    rfl
  ·
   refine qa 43 rfl (qb ?_)
   cases hr
   refine qu Tryz.func8 rfl ?_
   rfl
 ·
  refine qa 46 rfl (qb ?_)
  cases hr
  refine qu Tryz.func8 rfl ?_
  rfl
noncomputable def qbN (k : Option (qj × Bool)) (a2 : Int) (a1 : ByteArray) : List qj → Option (qj × Bool)
 | [] =>
 k
 | q_3 :: rest =>
 (bif (q_3.f0_Name.toList == a1.toList) then
 (bif ((q_3.f2_Factors.length : Int) == a2) then
 some (q_3, true)
 else
 (qbN k a2 a1 rest))
 else
 (qbN k a2 a1 rest))
noncomputable def qer (a0 : List qj) (a1 : ByteArray) (a2 : Int) : Option (qj × Bool) :=
 (qbN (some ((⟨⟨#[]⟩, 0, []⟩ : qj), false)) a2 a1 a0)
theorem qk7 (a0 : List qj) (a1 : ByteArray) (a2 : Int) (res : qj × Bool) (hr : qer a0 a1 a2 = some res) : zf Tryz.prog 65 [.lst (a0.map qB), .str a1, .int .i64 a2] (.tup [qB res.1, .bool res.2]) := by
 unfold qer at hr
 refine qY Tryz.func65 rfl fun K hK => (qe (zg 2 1 (ew rfl (qaJ rfl qfZ) ?_)))
 rintro _ _ ⟨b6_0, rfl, rfl⟩
 refine qa 1 rfl (qb (qf 3 rfl ?_))
 obtain ⟨kk0, hkk0, hr⟩ := exK (fun k => qbN k a2 a1 a0) hr
 refine qcq 0 rfl (asl rfl) fun hla0 => ?_
 simp only [jb] at hla0
 refine qx (fun env σ => env = [(6, .ref b6_0 0 [])] ∧ σ = [.cell b6_0 (.agg [.str ⟨#[]⟩, .int .i64 0, .lst ([].map (D.int .i64))])] ∧ kk0 = some res) ?_ (fun HK0 => ?_)
 ·
  rintro _ _ ⟨rfl, rfl, hr⟩
  rw [hkk0] at hr
  refine qe (zg 3 4 (rd rfl (qbl rfl qkV .nil (.nil _)) (qcr rfl (pf0 _) (qa 1 rfl (qb ?_)))))
  cases hr
  refine qbQ Tryz.func65 _ (.cons (zy rfl (.head _) (by exact qiT) rfl (Wk.refl _)) (.cons (zd rfl (Wk.refl _)) .nil)) ?_
  rfl
 ·
  refine qm [0, 1, 2, 6, 8] rfl (q9 (fun n env σ => ∃ (i2 : Nat), (n = a0.length - i2) ∧ (env = [(0, .lst (a0.map qB)), (1, .str a1), (2, .int .i64 a2), (6, .ref b6_0 0 []), (8, .int .i64 (i2 : Int))]) ∧ (σ = [.cell b6_0 (.agg [.str ⟨#[]⟩, .int .i64 0, .lst ([].map (D.int .i64))])]) ∧ (i2 ≤ a0.length) ∧ (qbN kk0 a2 a1 (a0.drop i2) = some res)) _ ⟨0, rfl, rfl, rfl, jc _, hr⟩ ?_)
  rintro n _ _ ⟨i2, rfl, rfl, rfl, hi0, hr⟩ IH0
  rcases zb a0 i2 hi0 with ⟨ht0, hd0, he0⟩ | ⟨q_3, ht0, hd0, hq0, hlt0⟩
  ·
   rw [hd0, qbN] at hr
   refine qe (qe (qg 4 (qa 2 rfl (qz rfl (qa 1 rfl (qb (qk 12 false rfl ht0 (qA rfl (qQ rfl (qm [6] rfl ?_))))))))))
   exact HK0 _ _ ⟨rfl, rfl, hr⟩
  ·
   rw [hd0, qbN] at hr
   refine qe (qe (qg 4 (qa 2 rfl (qz rfl (qa 1 rfl (qb (qk 12 true rfl ht0 (qf 5 rfl (qg 17 (qa 2 rfl (qN hq0 rfl (qa 3 rfl (rd rfl (qgv rfl rfl rfl rfl) ?_)))))))))))))
   refine qa 1 rfl ?_
   refine zq 22 rfl hr (fun h22_3 hr => ?_) (fun h22_3 hr => ?_)
   ·
    refine qa 2 rfl (qN hq0 rfl (qa 2 rfl (qz rfl (qa 3 rfl (qb ?_)))))
    refine zh 31 rfl hr (fun h31_4 hr => ?_) (fun h31_4 hr => ?_)
    ·
     refine qO rfl (qe (zg 6 256 (qa 2 rfl (qN hq0 rfl (qa 1 rfl (qcr rfl (pf0 _) (qa 1 rfl (qb ?_))))))))
     cases hr
     refine qbQ Tryz.func65 _ (.cons (zy rfl (.head _) (by exact qiT) (qgB _) (Wk.refl _)) (.cons (zd rfl (Wk.refl _)) .nil)) ?_
     rfl
    ·
     refine qf 3 rfl (qg 3 (qa 1 rfl (qaj rfl (qa 1 rfl (qb (qm [0, 1, 2, 6, 8] rfl ?_))))))
     exact IH0 _ _ _ (by omega) ⟨(i2 + 1), rfl, rfl, rfl, (by omega), hr⟩
   ·
    refine qa 9 rfl (qb (qf 3 rfl (qg 3 (qa 1 rfl (qaj rfl (qa 1 rfl (qb (qm [0, 1, 2, 6, 8] rfl ?_))))))))
    exact IH0 _ _ _ (by omega) ⟨(i2 + 1), rfl, rfl, rfl, (by omega), hr⟩
noncomputable def qaC (k : Int → Option Int) (a2 : List T) : List Int → Int → Nat → Option Int
 | [], n3, i4 =>
 (k n3)
 | q_6 :: rest, n3, i4 =>
 ((zj a2 (i4 : Int)).bind fun q_7 =>
 ((qmg q_7).bind fun r8 =>
 (qaC k a2 rest (wr (n3 + (wr (q_6 * r8)))) (i4 + 1))))
noncomputable def qcy (a0 : List qj) (a1 : ByteArray) (a2 : List T) : Option Int :=
 ((qer a0 a1 (a2.length : Int)).bind fun r1 =>
 (qaC (fun n5 =>
 some (n5)) a2 r1.1.f2_Factors r1.1.f1_Const 0))
theorem qgR (a0 : List qj) (a1 : ByteArray) (a2 : List T) (res : Int) (hr : qcy a0 a1 a2 = some res) : zf Tryz.prog 31 [.lst (a0.map qB), .str a1, .lst (a2.map zi)] (.int .i64 res) := by
 unfold qcy at hr
 refine qY Tryz.func31 rfl fun K hK => (qf 3 rfl (zg 11 327680 (qa 3 rfl (qz rfl ?_))))
 obtain ⟨r1, h1, hr⟩ := za hr
 refine qs rfl qkQ (qk7 _ _ _ _ h1) (qa 3 rfl (ew rfl (qaJ rfl qfZ) ?_))
 rintro _ _ ⟨b7_1, rfl, rfl⟩
 refine qcr rfl (pf0 _) (qa 1 rfl (qb (qaR 7 b7_1 rfl (pf0 _) (qf 5 rfl ?_))))
 obtain ⟨kk0, hkk0, hr⟩ := exK (fun k => qaC k a2 r1.1.f2_Factors r1.1.f1_Const 0) hr
 refine qzY 17 [2] (l := r1.1.f2_Factors.map (D.int .i64)) rfl rfl (asl rfl) fun hla0 => ?_
 simp only [jb] at hla0
 refine qx (fun env σ => ∃ (n5 : Int), env = [(9, .int .i64 n5)] ∧ σ = [] ∧ kk0 n5 = some res) ?_ (fun HK0 => ?_)
 ·
  rintro _ _ ⟨n5, rfl, rfl, hr⟩
  rw [hkk0] at hr
  refine qf 2 rfl ?_
  cases hr
  refine qu Tryz.func31 rfl ?_
  rfl
 ·
  refine qm [2, 7, 9, 10] rfl (q9 (fun n env σ => ∃ (n3 : Int) (i4 : Nat), (n = r1.1.f2_Factors.length - i4) ∧ (env = [(2, .lst (a2.map zi)), (7, .ptr (qB r1.1)), (9, .int .i64 n3), (10, .int .i64 (i4 : Int))]) ∧ (σ = []) ∧ (i4 ≤ r1.1.f2_Factors.length) ∧ (qaC kk0 a2 (r1.1.f2_Factors.drop i4) n3 i4 = some res)) _ ⟨r1.1.f1_Const, 0, rfl, rfl, rfl, jc _, hr⟩ ?_)
  rintro n _ _ ⟨n3, i4, rfl, rfl, rfl, hi0, hr⟩ IH0
  rcases zb r1.1.f2_Factors i4 hi0 with ⟨ht0, hd0, he0⟩ | ⟨q_6, ht0, hd0, hq0, hlt0⟩
  ·
   rw [hd0, qaC] at hr
   refine qe (qe (qg 5 (qa 3 rfl (qz rfl (qa 1 rfl (qb (qk 25 false rfl ht0 (qA rfl (qQ rfl (qm [9] rfl ?_))))))))))
   exact HK0 _ _ ⟨n3, rfl, rfl, hr⟩
  ·
   rw [hd0, qaC] at hr
   refine qe (qe (qg 5 (qa 3 rfl (qz rfl (qa 1 rfl (qb (qk 25 true rfl ht0 (qf 4 rfl (qei 14 0 (qa 4 rfl (qN hq0 rfl (qa 3 rfl ?_))))))))))))
   obtain ⟨q_7, h7, hr⟩ := za hr
   refine qN h7 rfl (qa 1 rfl ?_)
   obtain ⟨r8, h8, hr⟩ := za hr
   refine qs rfl qf5 (qfY _ _ h8) (rd rfl (qeF rfl rfl rfl rfl) (rd rfl (qeF rfl rfl rfl rfl) (qa 1 rfl (qb (qaa (qg 3 (qa 1 rfl (qaj rfl (qa 1 rfl (qb (qm [2, 7, 9, 10] rfl ?_)))))))))))
   exact IH0 _ _ _ (by omega) ⟨(wr (n3 + (wr (q_6 * r8)))), (i4 + 1), rfl, rfl, rfl, (by omega), hr⟩
noncomputable def qau (k : Int → Option Int) (a0 : List qj) : List Gl → Int → Option Int
 | [], n4 =>
 (k n4)
 | q_7 :: rest, n4 =>
 (bif (q_7.op == (0 : Int)) then
 ((qcy a0 q_7.n q_7.ts).bind fun r9 =>
 (qau k a0 rest (wr (n4 + r9))))
 else
 (qau k a0 rest n4))
noncomputable def qa6 (k : Int → Option Int) (a0 : List qj) : List (Int × At) → Int → Option Int
 | [], n1 =>
 (k n1)
 | q_10 :: rest, n1 =>
 ((qcy a0 q_10.2.n q_10.2.ts).bind fun r11 =>
 (qa6 k a0 rest (wr (n1 + r11))))
noncomputable def qcY (a0 : List qj) (a1 : qw) : Option Int :=
 (qa6 (fun n3 =>
 (qau (fun n6 =>
 some (n6)) a0 a1.f0_Goals n3)) a0 a1.f1_Store 0)
theorem qgS (a0 : List qj) (a1 : qw) (res : Int) (hr : qcY a0 a1 = some res) : zf Tryz.prog 11 [.lst (a0.map qB), qJ a1] (.int .i64 res) := by
 unfold qcY at hr
 refine qY Tryz.func11 rfl fun K hK => (qe (qg 2 (rd rfl (qcK rfl rfl rfl) (qa 1 rfl (qb (qf 4 rfl (qg 4 (qa 2 rfl (qz rfl (qa 1 rfl (qb ?_)))))))))))
 obtain ⟨kk0, hkk0, hr⟩ := exK (fun k => qa6 k a0 a1.f1_Store 0) hr
 refine qcq 9 rfl (asl rfl) fun hla0 => ?_
 simp only [jb] at hla0
 refine qx (fun env σ => ∃ (n3 : Int), env = [(0, .lst (a0.map qB)), (3, .ptr (qJ a1)), (5, .int .i64 n3)] ∧ σ = [] ∧ kk0 n3 = some res) ?_ (fun HK0 => ?_)
 ·
  rintro _ _ ⟨n3, rfl, rfl, hr⟩
  rw [hkk0] at hr
  refine qe (qe (qg 4 (qa 2 rfl (qz rfl (qa 1 rfl (qb ?_))))))
  obtain ⟨kk1, hkk1, hr⟩ := exK (fun k => qau k a0 a1.f0_Goals n3) hr
  refine qcq 34 rfl (asl rfl) fun hla1 => ?_
  simp only [jb] at hla1
  refine qx (fun env σ => ∃ (n6 : Int), env = [(5, .int .i64 n6)] ∧ σ = [] ∧ kk1 n6 = some res) ?_ (fun HK1 => ?_)
  ·
   rintro _ _ ⟨n6, rfl, rfl, hr⟩
   rw [hkk1] at hr
   refine qf 2 rfl ?_
   cases hr
   refine qu Tryz.func11 rfl ?_
   rfl
  ·
   refine qm [0, 3, 35, 5, 36] rfl (q9 (fun n env σ => ∃ (n4 : Int) (i5 : Nat), (n = a1.f0_Goals.length - i5) ∧ (env = [(0, .lst (a0.map qB)), (3, .ptr (qJ a1)), (35, .int .i64 (a1.f0_Goals.length : Int)), (5, .int .i64 n4), (36, .int .i64 (i5 : Int))]) ∧ (σ = []) ∧ (i5 ≤ a1.f0_Goals.length) ∧ (qau kk1 a0 (a1.f0_Goals.drop i5) n4 = some res)) _ ⟨n3, 0, rfl, rfl, rfl, jc _, hr⟩ ?_)
   rintro n _ _ ⟨n4, i5, rfl, rfl, rfl, hi1, hr⟩ IH1
   rcases zb a1.f0_Goals i5 hi1 with ⟨ht1, hd1, he1⟩ | ⟨q_7, ht1, hd1, hq1, hlt1⟩
   ·
    rw [hd1, qau] at hr
    refine qf 3 rfl (qk 37 false rfl ht1 (qA rfl (qQ rfl (qm [5] rfl ?_))))
    exact HK1 _ _ ⟨n4, rfl, rfl, hr⟩
   ·
    rw [hd1, qau] at hr
    refine qf 3 rfl (qk 37 true rfl ht1 (qf 7 rfl (qg 7 (qa 3 rfl (qN hq1 rfl (qa 3 rfl (qb ?_)))))))
    refine zh 45 rfl hr (fun h45_7 hr => ?_) (fun h45_7 hr => ?_)
    ·
     refine qO rfl (qei 17 0 (qa 5 rfl (qN hq1 rfl (qa 5 rfl (qN hq1 rfl (qa 2 rfl ?_))))))
     obtain ⟨r9, h9, hr⟩ := za hr
     refine qs rfl qgO (qgR _ _ _ _ h9) (rd rfl (qeF rfl rfl rfl rfl) (qa 1 rfl (qb (qaa (qg 2 (qaj rfl (qa 1 rfl (qb (qm [0, 3, 35, 5, 36] rfl ?_)))))))))
     exact IH1 _ _ _ (by omega) ⟨(wr (n4 + r9)), (i5 + 1), rfl, rfl, rfl, (by omega), hr⟩
    ·
     refine qf 3 rfl (qg 2 (qaj rfl (qa 1 rfl (qb (qm [0, 3, 35, 5, 36] rfl ?_)))))
     exact IH1 _ _ _ (by omega) ⟨n4, (i5 + 1), rfl, rfl, rfl, (by omega), hr⟩
 ·
  refine qm [0, 3, 10, 5, 11] rfl (q9 (fun n env σ => ∃ (n1 : Int) (i2 : Nat), (n = a1.f1_Store.length - i2) ∧ (env = [(0, .lst (a0.map qB)), (3, .ptr (qJ a1)), (10, .int .i64 (a1.f1_Store.length : Int)), (5, .int .i64 n1), (11, .int .i64 (i2 : Int))]) ∧ (σ = []) ∧ (i2 ≤ a1.f1_Store.length) ∧ (qa6 kk0 a0 (a1.f1_Store.drop i2) n1 = some res)) _ ⟨0, 0, rfl, rfl, rfl, jc _, hr⟩ ?_)
  rintro n _ _ ⟨n1, i2, rfl, rfl, rfl, hi0, hr⟩ IH0
  rcases zb a1.f1_Store i2 hi0 with ⟨ht0, hd0, he0⟩ | ⟨q_10, ht0, hd0, hq0, hlt0⟩
  ·
   rw [hd0, qa6] at hr
   refine qf 3 rfl (qk 12 false rfl ht0 (qA rfl (qQ rfl (qm [0, 3, 5] rfl ?_))))
   exact HK0 _ _ ⟨n1, rfl, rfl, hr⟩
  ·
   rw [hd0, qa6] at hr
   refine qf 3 rfl (qk 12 true rfl ht0 (qf 6 rfl (qei 19 0 (qa 5 rfl (qN hq0 rfl (qa 6 rfl (qN hq0 rfl (qa 3 rfl ?_))))))))
   obtain ⟨r11, h11, hr⟩ := za hr
   refine qs rfl qgO (qgR _ _ _ _ h11) (rd rfl (qeF rfl rfl rfl rfl) (qa 1 rfl (qb (qaa (qg 2 (qaj rfl (qa 1 rfl (qb (qm [0, 3, 10, 5, 11] rfl ?_)))))))))
   exact IH0 _ _ _ (by omega) ⟨(wr (n1 + r11)), (i2 + 1), rfl, rfl, rfl, (by omega), hr⟩
noncomputable def qW (k : Option Bool) (fuel : Nat) (a0 : qn) (a1 : List qj) (a2 : qw) : List qE → Nat → Option Bool
 | [], i15 =>
 k
 | q_17 :: rest, i15 =>
 (bif (decide ((i15 : Int) > (12 : Int))) then
 k
 else
 ((qeN fuel a0 a2 q_17).bind fun r19 =>
 (bif (r19.2 != (0 : Int)) then
 (qW k fuel a0 a1 a2 rest (i15 + 1))
 else
 (bif r19.1.f7_Failed then
 (qW k fuel a0 a1 a2 rest (i15 + 1))
 else
 ((qcY a1 a2).bind fun r23 =>
 ((qcY a1 r19.1).bind fun r24 =>
 (bif (q_17.f0_Kind == (3 : Int)) then
 ((zj a0.f1_Rules q_17.f2_Rule).bind fun q26 =>
 (bif (decide ((q26.f2_Remove.length : Int) > (0 : Int))) then
 (bif (decide (r24 ≥ r23)) then
 some (false)
 else
 (qW k fuel a0 a1 a2 rest (i15 + 1)))
 else
 (bif (r23 != r24) then
 some (false)
 else
 (qW k fuel a0 a1 a2 rest (i15 + 1)))))
 else
 (bif (r23 != r24) then
 some (false)
 else
 (qW k fuel a0 a1 a2 rest (i15 + 1))))))))))
noncomputable def qaG (k : Option Bool) (fuel : Nat) : List Gl → Option Bool
 | [] =>
 k
 | q_31 :: rest =>
 (bif (q_31.op == (3 : Int)) then
 ((qaN fuel).bind fun r33 =>
 some (r33))
 else
 (qaG k fuel rest))
noncomputable def qdf (fuel : Nat) (a0 : qn) (a1 : List qj) (a2 : qw) : Option Bool :=
 ((qex a1).bind fun r1 =>
 (bif (!r1) then
 ((qaN fuel).bind fun r3 =>
 some (r3))
 else
 ((qeb a0 a2).bind fun r4 =>
 (bif (!r4) then
 ((qaN fuel).bind fun r6 =>
 some (r6))
 else
 ((qfq fuel a0 a1).bind fun r7 =>
 (bif (r7 != (0 : Int)) then
 ((qaN fuel).bind fun r9 =>
 some (r9))
 else
 ((qcS fuel a0 a2).bind fun r10 =>
 (bif (!r10) then
 ((qaN fuel).bind fun r12 =>
 some (r12))
 else
 (qaG (((qdx fuel a0 a2).bind fun r14 =>
 (qW (((qaN fuel).bind fun r16 =>
 some (r16))) fuel a0 a1 a2 r14 0))) fuel a2.f0_Goals)))))))))
theorem qiL (fuel : Nat) (a0 : qn) (a1 : List qj) (a2 : qw) (res : Bool) (hr : qdf fuel a0 a1 a2 = some res) : zf Tryz.prog 3 [ql a0, .lst (a1.map qB), qJ a2] (.bool res) := by
 unfold qdf at hr
 refine qY Tryz.func3 rfl fun K hK => (qe (qg 3 (rd rfl (qcK rfl rfl rfl) (rd rfl (qcK rfl rfl rfl) (qa 1 rfl (qb (qe (qe (qg 21 (qa 1 rfl ?_))))))))))
 obtain ⟨r1, h1, hr⟩ := za hr
 refine qs rfl qlp (qln _ _ h1) (qa 2 rfl ?_)
 refine zq 17 rfl hr (fun h17_1 hr => ?_) (fun h17_1 hr => ?_)
 ·
  refine qa 17 rfl (qb (qO rfl (qe (qg 2 ?_))))
  obtain ⟨r3, h3, hr⟩ := za hr
  refine qs rfl qdv (qds fuel _ h3) (qa 1 rfl (qb ?_))
  cases hr
  refine qu Tryz.func3 rfl ?_
  rfl
 ·
  refine qa 2 rfl ?_
  obtain ⟨r4, h4, hr⟩ := za hr
  refine qs rfl qkm (qkr _ _ _ h4) (qa 3 rfl ?_)
  refine zq 23 rfl hr (fun h23_4 hr => ?_) (fun h23_4 hr => ?_)
  ·
   refine qa 11 rfl (qb (qO rfl (qe (qg 2 ?_))))
   obtain ⟨r6, h6, hr⟩ := za hr
   refine qs rfl qdv (qds fuel _ h6) (qa 1 rfl (qb ?_))
   cases hr
   refine qu Tryz.func3 rfl ?_
   rfl
  ·
   refine qa 2 rfl ?_
   obtain ⟨r7, h7, hr⟩ := za hr
   refine qs rfl qkE (qk3 fuel _ _ _ h7) (qa 3 rfl ?_)
   refine zq 29 rfl hr (fun h29_7 hr => ?_) (fun h29_7 hr => ?_)
   ·
    refine qa 5 rfl (qb (qO rfl (qe (qg 2 ?_))))
    obtain ⟨r9, h9, hr⟩ := za hr
    refine qs rfl qdv (qds fuel _ h9) (qa 1 rfl (qb ?_))
    cases hr
    refine qu Tryz.func3 rfl ?_
    rfl
   ·
    refine qa 2 rfl ?_
    obtain ⟨r10, h10, hr⟩ := za hr
    refine qs rfl qfC (qfG fuel _ _ _ h10) (qa 2 rfl (qb ?_))
    refine zh 34 rfl hr (fun h34_10 hr => ?_) (fun h34_10 hr => ?_)
    ·
     refine qO rfl (qe (qg 2 ?_))
     obtain ⟨r12, h12, hr⟩ := za hr
     refine qs rfl qdv (qds fuel _ h12) (qa 1 rfl (qb ?_))
     cases hr
     refine qu Tryz.func3 rfl ?_
     rfl
    ·
     refine qf 4 rfl (qg 4 (qa 2 rfl (qz rfl (qa 1 rfl (qb ?_)))))
     obtain ⟨kk0, hkk0, hr⟩ := exK (fun k => qaG k fuel a2.f0_Goals) hr
     refine qcq 37 rfl (asl rfl) fun hla0 => ?_
     simp only [jb] at hla0
     refine qx (fun env σ => env = [(1, .lst (a1.map qB)), (3, .ptr (ql a0)), (5, .ptr (qJ a2))] ∧ σ = [] ∧ kk0 = some res) ?_ (fun HK0 => ?_)
     ·
      rintro _ _ ⟨rfl, rfl, hr⟩
      rw [hkk0] at hr
      refine qe (qg 4 (qa 2 rfl ?_))
      obtain ⟨r14, h14, hr⟩ := za hr
      refine qs rfl qhA (qhl fuel _ _ _ h14) (qa 1 rfl (qb (qe (qe (qg 3 (qa 1 rfl (qz rfl (qa 1 rfl (qb ?_)))))))))
      obtain ⟨kk1, hkk1, hr⟩ := exK (fun k => qW k fuel a0 a1 a2 r14 0) hr
      refine qcq 53 rfl (asl rfl) fun hla1 => ?_
      simp only [jb] at hla1
      refine qx (fun env σ => env = [] ∧ σ = [] ∧ kk1 = some res) ?_ (fun HK1 => ?_)
      ·
       rintro _ _ ⟨rfl, rfl, hr⟩
       rw [hkk1] at hr
       refine qe (qg 2 ?_)
       obtain ⟨r16, h16, hr⟩ := za hr
       refine qs rfl qdv (qds fuel _ h16) (qa 1 rfl (qb ?_))
       cases hr
       refine qu Tryz.func3 rfl ?_
       rfl
      ·
       refine qm [1, 3, 5, 8, 55, 56] rfl (q9 (fun n env σ => ∃ (i15 : Nat), (n = r14.length - i15) ∧ (env = [(1, .lst (a1.map qB)), (3, .ptr (ql a0)), (5, .ptr (qJ a2)), (8, .lst (r14.map qaL)), (55, .int .i64 (r14.length : Int)), (56, .int .i64 (i15 : Int))]) ∧ (σ = []) ∧ (i15 ≤ r14.length) ∧ (qW kk1 fuel a0 a1 a2 (r14.drop i15) i15 = some res)) _ ⟨0, rfl, rfl, rfl, jc _, hr⟩ ?_)
       rintro n _ _ ⟨i15, rfl, rfl, rfl, hi1, hr⟩ IH1
       rcases zb r14 i15 hi1 with ⟨ht1, hd1, he1⟩ | ⟨q_17, ht1, hd1, hq1, hlt1⟩
       ·
        rw [hd1, qW] at hr
        refine qf 3 rfl (qk 57 false rfl ht1 (qA rfl (qQ rfl (qm [] rfl ?_))))
        exact HK1 _ _ ⟨rfl, rfl, hr⟩
       ·
        rw [hd1, qW] at hr
        refine qf 3 rfl (qk 57 true rfl ht1 (qf 9 rfl ?_))
        refine zh 60 rfl hr (fun h60_17 hr => ?_) (fun h60_17 hr => ?_)
        ·
         refine qO rfl (qQ rfl (qm [] rfl ?_))
         exact HK1 _ _ ⟨rfl, rfl, hr⟩
        ·
         refine qf 3 rfl (qei 13 5242880 (qa 4 rfl (qN hq1 rfl (qa 1 rfl ?_))))
         obtain ⟨r19, h19, hr⟩ := za hr
         refine qs rfl qlH (qlO fuel _ _ _ _ h19) (qa 3 rfl (ew rfl (qaJ rfl qjy) ?_))
         rintro _ _ ⟨b10_19, rfl, rfl⟩
         refine qcr rfl (pf0 _) (qa 1 rfl (qb (qaR 10 b10_19 rfl (pf0 _) (qe (qe (qg 6 (qa 3 rfl ?_)))))))
         refine zq 73 rfl hr (fun h73_20 hr => ?_) (fun h73_20 hr => ?_)
         ·
          refine qa 3 rfl (qb (qO rfl (qQ rfl (qg 2 (qaj rfl (qa 1 rfl (qb (qm [1, 3, 5, 8, 55, 56] rfl ?_))))))))
          exact IH1 _ _ _ (by omega) ⟨(i15 + 1), rfl, rfl, rfl, (by omega), hr⟩
         ·
          refine qa 3 rfl (qb ?_)
          refine zh 76 rfl hr (fun h76_21 hr => ?_) (fun h76_21 hr => ?_)
          ·
           refine qO rfl (qQ rfl (qg 2 (qaj rfl (qa 1 rfl (qb (qm [1, 3, 5, 8, 55, 56] rfl ?_))))))
           exact IH1 _ _ _ (by omega) ⟨(i15 + 1), rfl, rfl, rfl, (by omega), hr⟩
          ·
           refine qf 3 rfl (qei 8 0 (qa 2 rfl ?_))
           obtain ⟨r23, h23, hr⟩ := za hr
           refine qs rfl qgM (qgS _ _ _ h23) (qa 2 rfl ?_)
           obtain ⟨r24, h24, hr⟩ := za hr
           refine qs rfl qgM (qgS _ _ _ h24) (qa 2 rfl (qb (qe (qei 20 0 (qa 2 rfl (qN hq1 rfl (qa 4 rfl ?_)))))))
           refine zq 89 rfl hr (fun h89_24 hr => ?_) (fun h89_24 hr => ?_)
           ·
            refine qa 4 rfl (qN hq1 rfl (qa 2 rfl ?_))
            obtain ⟨q26, h26, hr⟩ := za hr
            refine qN h26 rfl (qa 2 rfl (qz rfl (qa 2 rfl (qb ?_))))
            refine zh 102 rfl hr (fun h102_26 hr => ?_) (fun h102_26 hr => ?_)
            ·
             refine qf 3 rfl ?_
             refine zh 105 rfl hr (fun h105_27 hr => ?_) (fun h105_27 hr => ?_)
             ·
              refine qf 3 rfl ?_
              cases hr
              refine qu Tryz.func3 rfl ?_
              rfl
             ·
              refine qf 3 rfl (qg 2 (qaj rfl (qa 1 rfl (qb (qm [1, 3, 5, 8, 55, 56] rfl ?_)))))
              exact IH1 _ _ _ (by omega) ⟨(i15 + 1), rfl, rfl, rfl, (by omega), hr⟩
            ·
             refine qf 3 rfl ?_
             refine zh 108 rfl hr (fun h108_28 hr => ?_) (fun h108_28 hr => ?_)
             ·
              refine qf 3 rfl ?_
              cases hr
              refine qu Tryz.func3 rfl ?_
              rfl
             ·
              refine qf 3 rfl (qg 2 (qaj rfl (qa 1 rfl (qb (qm [1, 3, 5, 8, 55, 56] rfl ?_)))))
              exact IH1 _ _ _ (by omega) ⟨(i15 + 1), rfl, rfl, rfl, (by omega), hr⟩
           ·
            refine qa 13 rfl (qb (qf 3 rfl ?_))
            refine zh 108 rfl hr (fun h108_29 hr => ?_) (fun h108_29 hr => ?_)
            ·
             refine qf 3 rfl ?_
             cases hr
             refine qu Tryz.func3 rfl ?_
             rfl
            ·
             refine qf 3 rfl (qg 2 (qaj rfl (qa 1 rfl (qb (qm [1, 3, 5, 8, 55, 56] rfl ?_)))))
             exact IH1 _ _ _ (by omega) ⟨(i15 + 1), rfl, rfl, rfl, (by omega), hr⟩
     ·
      refine qm [1, 3, 5, 38, 39] rfl (q9 (fun n env σ => ∃ (i13 : Nat), (n = a2.f0_Goals.length - i13) ∧ (env = [(1, .lst (a1.map qB)), (3, .ptr (ql a0)), (5, .ptr (qJ a2)), (38, .int .i64 (a2.f0_Goals.length : Int)), (39, .int .i64 (i13 : Int))]) ∧ (σ = []) ∧ (i13 ≤ a2.f0_Goals.length) ∧ (qaG kk0 fuel (a2.f0_Goals.drop i13) = some res)) _ ⟨0, rfl, rfl, rfl, jc _, hr⟩ ?_)
      rintro n _ _ ⟨i13, rfl, rfl, rfl, hi0, hr⟩ IH0
      rcases zb a2.f0_Goals i13 hi0 with ⟨ht0, hd0, he0⟩ | ⟨q_31, ht0, hd0, hq0, hlt0⟩
      ·
       rw [hd0, qaG] at hr
       refine qf 3 rfl (qk 40 false rfl ht0 (qA rfl (qQ rfl (qm [1, 3, 5] rfl ?_))))
       exact HK0 _ _ ⟨rfl, rfl, hr⟩
      ·
       rw [hd0, qaG] at hr
       refine qf 3 rfl (qk 40 true rfl ht0 (qf 7 rfl (qg 7 (qa 3 rfl (qN hq0 rfl (qa 3 rfl (qb ?_)))))))
       refine zh 48 rfl hr (fun h48_31 hr => ?_) (fun h48_31 hr => ?_)
       ·
        refine qO rfl (qe (qg 2 ?_))
        obtain ⟨r33, h33, hr⟩ := za hr
        refine qs rfl qdv (qds fuel _ h33) (qa 1 rfl (qb ?_))
        cases hr
        refine qu Tryz.func3 rfl ?_
        rfl
       ·
        refine qf 3 rfl (qg 2 (qaj rfl (qa 1 rfl (qb (qm [1, 3, 5, 38, 39] rfl ?_)))))
        exact IH0 _ _ _ (by omega) ⟨(i13 + 1), rfl, rfl, rfl, (by omega), hr⟩
end Go.Proofs.YtlfcjfiecoapoaaGreat
namespace Go.Proofs.YtlfcjfiecoapoaaGreat
set_option maxRecDepth 100000
open Go.ChangeShapes Go.WideShapes Go.ChangeAt Go.RowKit
mutual
def zS : D → Nat
 | .str s => s.size + 1
 | .agg l => zC l + 1
 | .lst l => zC l + 1
 | _ => 1
def zC : List D → Nat
 | [] => 0
 | d :: l => zS d + zC l
end
def OpB (N : Nat) (t : TypeId) (n : Nat) (S : D → Prop) : Prop := ∀ (H : Type) (enc : TypeId × Value → H) (W : World) (base : Nat) (sp : Nat → Bool) (hd : Bool) (fuel : Nat) (cs : List Value) (x : DataW H × List MemPlace), fuel < N →
 DataW.trod enc Tryz.prog W base sp hd fuel t cs = some x → ∃ d v, S d ∧ d.plain = true ∧ sz d = n ∧ Rep (live W) W d v ∧ cs = v.cells.toList ∧ zS d ≤ Rows.uptoBulk x.1
theorem OpB.to {N : Nat} {t : TypeId} {n : Nat} {S S' : D → Prop} (h : OpB N t n S) (k : ∀ d, S d → S' d) : OpB N t n S' := fun H enc W base sp hd fuel cs x hN hx => by
 obtain ⟨d, v, h1, h2⟩ := h H enc W base sp hd fuel cs x hN hx
 exact ⟨d, v, k d h1, h2⟩
theorem OpB.less {N M : Nat} {t : TypeId} {n : Nat} {S : D → Prop} (h : OpB N t n S) (hM : M ≤ N) : OpB M t n S := fun H enc W base sp hd fuel cs x hN hx => h H enc W base sp hd fuel cs x (by omega) hx
theorem qzA {H : Type} (d : DataW H) : 1 ≤ Rows.uptoBulk d := by
 cases d with
 | lit l => cases l <;> simp [Rows.uptoBulk]
 | nil => simp [Rows.uptoBulk]
 | ptr d => simp [Rows.uptoBulk]
 | slice elems spare => simp [Rows.uptoBulk]
 | agg parts => simp [Rows.uptoBulk]
 | iface t d => simp [Rows.uptoBulk]
 | map entries => simp [Rows.uptoBulk]
 | held h => simp [Rows.uptoBulk]
theorem qiD {N : Nat} {t : TypeId} (ht : (Tryz.prog).underlying t = some (.int .i64)) : OpB N t 1 fun d => ∃ n, d = .int .i64 n := fun H enc W base sp hd fuel cs x _ hx => by
 obtain ⟨d, v, ⟨n, rfl⟩, h2, h3, h4, h5⟩ := qBA ht H enc W base sp hd fuel cs x hx
 exact ⟨_, v, ⟨n, rfl⟩, h2, h3, h4, h5, by simp only [zS]; exact qzA _⟩
theorem qmW {N : Nat} {t : TypeId} (ht : (Tryz.prog).underlying t = some .string) : OpB N t 1 fun d => ∃ s, d = .str s := fun H enc W base sp hd fuel cs x _ hx => by
 obtain ⟨s, rfl, hxe, w0⟩ := DataW.trod_string ht hx
 refine ⟨.str s, .string s, ⟨s, rfl⟩, rfl, rfl, ?_, by simp [Value.cells], ?_⟩
 · simp only [Rep]
   exact ⟨trivial, by unfold maxLen at w0; omega⟩
 · rw [hxe]
   simp only [zS, Rows.uptoBulk]
   exact jk _
def OpsB (N : Nat) : List Field → List (D → Prop) → Prop
 | [], [] => True
 | f :: fs, S :: ss => OpB N f.type ((Tryz.prog).cellsOf f.type) S ∧ OpsB N fs ss
 | _, _ => False
theorem qni {H : Type} {enc : TypeId × Value → H} {W : World} {base : Nat} {sp : Nat → Bool} {hd : Bool} {N n : Nat} (hn : n < N) {cs : List Value} :
 ∀ (fs : List Field) (ss : List (D → Prop)) (o : Nat) (xs : List (DataW H × List MemPlace)), OpsB N fs ss → tight Tryz.prog o fs = true → o + total Tryz.prog fs = cs.length → xs.length = fs.length →
  (∀ (i : Nat) (f : Field), fs[i]? = some f → DataW.trod enc Tryz.prog W base sp hd n f.type ((cs.drop f.offset).take ((Tryz.prog).cellsOf f.type)) = xs[i]?) →
  ∃ ds, Fits ss ds ∧ (∀ d ∈ ds, d.plain = true) ∧ szs ds = total Tryz.prog fs ∧ zx (live W) W ds (cs.drop o) ∧ zC ds ≤ Rows.uptoBulkAll (xs.map (·.1))
 | [], [], o, xs, _, _, hl, _, _ => ⟨[], trivial, by simp, rfl, by simp only [total] at hl; rw [j2 (by omega)]; exact zx.nil _ _, by simp [zC]⟩
 | f :: fs, S :: ss, o, x :: xs, hop, ht, hl, hlen, hx => by
  simp only [tight, jj, beq_iff_eq] at ht
  simp only [total] at hl
  obtain ⟨ds, h1, h2, h3, h4, h5⟩ := qni hn fs ss (o + (Tryz.prog).cellsOf f.type) xs hop.2 ht.2 (by omega) (by simpa using hlen) fun i g hg => hx (i + 1) g hg
  have h6 := hx 0 f rfl
  rw [ht.1] at h6
  obtain ⟨d, v, g1, g2, g3, g4, g5, g6⟩ := hop.1 H enc W base sp hd n _ x hn h6
  refine ⟨d :: ds, ⟨g1, h1⟩, ?_, by simp only [szs, total, g3, h3], ?_, ?_⟩
  · intro e he
    rcases jh.1 he with rfl | he
    · exact g2
    · exact h2 e he
  · have := zx.cons g4 h4
    rw [← g5, ← List.drop_drop, j7] at this
    exact this
  · simp only [zC, jl, Rows.uptoBulkAll]
    omega
 | _ :: _, _ :: _, _, [], _, _, _, h, _ => by simp at h
 | [], _ :: _, _, _, h, _, _, _, _ => h.elim
 | _ :: _, [], _, _, h, _, _, _, _ => h.elim
theorem qfJ {N : Nat} {t : TypeId} {fs : Array Field} {n : Nat} (ht : (Tryz.prog).underlying t = some (.struct fs)) (ss : List (D → Prop)) (hs : OpsB N fs.toList ss) (h1 : tight Tryz.prog 0 fs.toList = true) (h2 : total Tryz.prog fs.toList = n) (h3 : (Tryz.prog).cellsOf t = n) :
 OpB (N + 1) t n fun d => ∃ ds, d = .agg ds ∧ Fits ss ds := fun H enc W base sp hd fuel cs x hN hx => by
 obtain ⟨xs, m, hm, hxe, hl, hlen, hf⟩ := DataW.trod_struct ht hx
 obtain ⟨ds, g1, g2, g3, g4, g5⟩ := qni (enc := enc) (W := W) (base := base) (sp := sp) (hd := hd) (N := N) (n := m) (by omega) (cs := cs) fs.toList ss 0 xs hs h1 (by omega) (by simpa using hlen) fun i f hi => hf i f (by simpa using hi)
 refine ⟨.agg ds, .agg cs.toArray, ⟨ds, rfl, g1⟩, rfl, by simp only [sz]; omega, ?_, by simp [Value.cells], ?_⟩
 · simp only [Rep]
   rw [vd] at g4
   exact ⟨cs, rfl, g4, qoC g4 g2⟩
 · rw [hxe]
   simp only [zS, Rows.uptoBulk]
   omega
theorem zaO {n : Nat} {hn : 0 < n} {S : D → Prop} {w : World} {ad : Addr} (Q : Nat → D → Prop) : ∀ (len : Nat), (∀ i, i < len → ∃ a cs, Q i a ∧ (layD n hn S).C w a cs ∧ ∀ j, j < n → w.cell? (ad.add (i * n + j)) = cs[j]?) → ∃ l xs, l.length = len ∧ (∀ i d, l[i]? = some d → Q i d) ∧ (layD n hn S).Ls w l xs ∧ ∀ j u, xs[j]? = some u → w.cell? (ad.add j) = some u
 | 0, _ => ⟨[], [], rfl, by simp, Lay.Ls.nil w, by simp⟩
 | len + 1, h => by
  obtain ⟨l, xs, h1, h0, h2, h3⟩ := zaO (hn := hn) (S := S) (w := w) (ad := ad) Q len fun i hi => h i (by omega)
  obtain ⟨a, cs, h7, h4, h5⟩ := h len (by omega)
  refine ⟨l ++ [a], xs ++ cs, by simp [h1], fun i d hd => ?_, Lay.Ls.app h2 (Lay.Ls.single h4), fun j u hu => ?_⟩
  · by_cases hi : i < l.length
    · rw [jT hi] at hd
      exact h0 i d hd
    · rw [vn (by omega)] at hd
      have hlt := (jr.1 hd).1
      simp at hlt
      have hi' : i = len := by omega
      subst hi'
      rw [h1, Nat.sub_self] at hd
      injection hd with hd
      subst hd
      exact h7
  · have hx := Lay.Ls.len h2
    have hx : xs.length = l.length * n := hx
    by_cases hj : j < xs.length
    · rw [jT hj] at hu
      exact h3 j u hu
    · rw [vn (by omega)] at hu
      have hlt := (jr.1 hu).1
      rw [(layD n hn S).len h4] at hlt
      have h6 := h5 (j - xs.length) hlt
      rw [hu] at h6
      rw [← h6, hx, h1]
      rw [hx, h1] at hj
      congr 2
      omega
theorem quA {H : Type} : ∀ (l : List D) (es : List (DataW H)), l.length = es.length → (∀ (i : Nat) (d : D), l[i]? = some d → ∃ e : DataW H, es[i]? = some e ∧ zS d ≤ Rows.uptoBulk e) → zC l ≤ Rows.uptoBulkAll es
 | [], es, _, _ => by simp [zC]
 | d :: l, [], h, _ => by simp at h
 | d :: l, e :: es, h, hp => by
  obtain ⟨e', h1, h2⟩ := hp 0 d rfl
  have h1 : e = e' := by simpa using h1
  subst h1
  have := quA l es (by simpa using h) fun i x hx => by simpa using hp (i + 1) x (by simpa using hx)
  simp only [zC, Rows.uptoBulkAll]
  omega
theorem qxR {N : Nat} {t e : TypeId} {n : Nat} {S : D → Prop} (ht : (Tryz.prog).underlying t = some (.slice e)) (hn : (Tryz.prog).cellsOf e = n) (hp : 0 < n) (he : OpB N e n S) : OpB (N + 1) t 1 fun d => ∃ l, d = .lst l ∧ ∀ x ∈ l, S x := fun H enc W base sp hd fuel cs x hN hx => by
 rcases DataW.trod_slice ht hx with ⟨rfl, hxe⟩ | ⟨a, len, cap, elems, rest, m, hf, rfl, hxe, _, hl, hm, hlen, hel, _, _⟩
 · refine ⟨.lst [], .slice none 0 0, ⟨[], rfl, by simp⟩, rfl, rfl, ?_, by simp [Value.cells], by rw [hxe]; simp [zS, zC, Rows.uptoBulk]⟩
   simp only [Rep]
   exact ⟨none, 0, [], rfl, by simp, by omega, .inl rfl, zx.nil _ _, by simp⟩
 · obtain ⟨l, xs, h1, h0, h2, h3⟩ := zaO (hn := hp) (S := S) (w := W) (ad := a) (fun i d => ∃ y, elems[i]? = some y ∧ zS d ≤ Rows.uptoBulk y.1) len fun i hi => by
    have g1 := hel i hi
    rw [jq (by omega), hn] at g1
    obtain ⟨cs', g2, g3⟩ := ve.1 g1
    obtain ⟨d, v, k1, k2, k3, k4, k5, k6⟩ := he H enc W base sp hd m cs' _ (by omega) g3
    obtain ⟨_, g5, g6⟩ := World.cells?_some g2
    refine ⟨d, cs', ⟨_, jq (by omega), k6⟩, ⟨k1, k2, k3, v, k4, k5⟩, fun j hj => ?_⟩
    rw [← qua]
    exact g6 j hj
   obtain ⟨h6, h7⟩ := qwO h2
   refine ⟨.lst l, .slice (some a) l.length cap, ⟨l, rfl, fun d hd => (h6 d hd).1⟩, rfl, rfl, ?_, by rw [h1]; simp [Value.cells], ?_⟩
   · simp only [Rep]
     exact ⟨some a, cap, xs, rfl, by omega, by unfold maxLen at hm; omega, qA6 (.inr ⟨a, rfl, h3⟩), h7, qoC h7 fun d hd => (h6 d hd).2⟩
   · rw [hxe]
     simp only [zS, Rows.uptoBulk]
     have := quA l (elems.map (·.1)) (by simp [h1, hlen]) fun i d hd => by
      obtain ⟨y, y1, y2⟩ := h0 i d hd
      exact ⟨y.1, by simp [y1], y2⟩
     omega
theorem qhL {α : Type} {f : α → D} {N : Nat} {t e : TypeId} {n : Nat} (ht : (Tryz.prog).underlying t = some (.slice e)) (hn : (Tryz.prog).cellsOf e = n) (hp : 0 < n) (he : OpB N e n fun d => ∃ a, d = f a) : OpB (N + 1) t 1 fun d => ∃ av : List α, d = .lst (av.map f) :=
 (qxR ht hn hp he).to fun d ⟨l, hl, h⟩ => by
  obtain ⟨av, rfl⟩ := quP h
  exact ⟨av, hl⟩
theorem qqM : ∀ N, OpB N 71 4 fun d => ∃ t, d = zi t
 | 0 => fun H enc W base sp hd fuel cs x hN => by omega
 | N + 1 => (qfJ (N := N) Tryz.underlying71 [fun d => ∃ n, d = .int .i64 n, fun d => ∃ n, d = .int .i64 n, fun d => ∃ s, d = .str s, fun d => ∃ l : List T, d = .lst (l.map zi)] ⟨qiD Tryz.underlying3, qiD Tryz.underlying3, qmW Tryz.underlying9, (qhL Tryz.underlying39 qp5 (by omega) (qqM N)).less (by omega), trivial⟩ (by kernel_rfl) (by kernel_rfl) (by kernel_rfl)).to fun d ⟨ds, hd, h⟩ => by
  match ds, h with
  | [_, _, _, _], ⟨⟨k, rfl⟩, ⟨i, rfl⟩, ⟨s, rfl⟩, ⟨l, rfl⟩, _⟩ => exact ⟨.mk k i s l, by rw [hd, zi, qdQ]; rfl⟩
theorem qr1 (N : Nat) : OpB N 39 1 fun d => ∃ l : List T, d = .lst (l.map zi) := (qhL Tryz.underlying39 qp5 (by omega) (qqM N)).less (by omega)
theorem quK (N : Nat) : OpB N 73 2 fun d => ∃ a, d = zX a :=
 ((qfJ (N := N) Tryz.underlying73 [fun d => ∃ s, d = .str s, fun d => ∃ l : List T, d = .lst (l.map zi)] ⟨qmW Tryz.underlying9, qr1 N, trivial⟩ (by kernel_rfl) (by kernel_rfl) (by kernel_rfl)).less (by omega)).to fun d ⟨ds, hd, h⟩ => by
  match ds, h with
  | [_, _], ⟨⟨s, rfl⟩, ⟨l, rfl⟩, _⟩ => exact ⟨⟨s, l⟩, hd⟩
theorem qsl (N : Nat) : OpB N 50 1 fun d => ∃ l : List At, d = .lst (l.map zX) := (qhL Tryz.underlying50 (by kernel_rfl) (by omega) (quK N)).less (by omega)
theorem qyT (N : Nat) : OpB N 41 3 fun d => ∃ g, d = zA g :=
 ((qfJ (N := N) Tryz.underlying41 [fun d => ∃ n, d = .int .i64 n, fun d => ∃ s, d = .str s, fun d => ∃ l : List T, d = .lst (l.map zi)] ⟨qiD Tryz.underlying3, qmW Tryz.underlying9, qr1 N, trivial⟩ (by kernel_rfl) (by kernel_rfl) qp0).less (by omega)).to fun d ⟨ds, hd, h⟩ => by
  match ds, h with
  | [_, _, _], ⟨⟨n, rfl⟩, ⟨s, rfl⟩, ⟨l, rfl⟩, _⟩ => exact ⟨⟨n, s, l⟩, hd⟩
theorem qmB (N : Nat) : OpB N 27 1 fun d => ∃ l : List Gl, d = .lst (l.map zA) := (qhL Tryz.underlying27 qp0 (by omega) (qyT N)).less (by omega)
theorem qyI (N : Nat) : OpB N 52 6 fun d => ∃ r, d = qp r :=
 ((qfJ (N := N) Tryz.underlying52 [fun d => ∃ s, d = .str s, fun d => ∃ l : List At, d = .lst (l.map zX), fun d => ∃ l : List At, d = .lst (l.map zX), fun d => ∃ l : List Gl, d = .lst (l.map zA), fun d => ∃ l : List Gl, d = .lst (l.map zA), fun d => ∃ n, d = .int .i64 n] ⟨qmW Tryz.underlying9, qsl N, qsl N, qmB N, qmB N, qiD Tryz.underlying3, trivial⟩ (by kernel_rfl) (by kernel_rfl) (by kernel_rfl)).less (by omega)).to fun d ⟨ds, hd, h⟩ => by
  match ds, h with
  | [_, _, _, _, _, _], ⟨⟨s, rfl⟩, ⟨a, rfl⟩, ⟨b, rfl⟩, ⟨c, rfl⟩, ⟨e, rfl⟩, ⟨n, rfl⟩, _⟩ => exact ⟨⟨s, a, b, c, e, n⟩, hd⟩
theorem qv3 (N : Nat) : OpB N 23 1 fun d => ∃ l : List qD, d = .lst (l.map qp) := (qhL Tryz.underlying23 (by kernel_rfl) (by omega) (qyI N)).less (by omega)
theorem qy4 (N : Nat) : OpB N 60 2 fun d => ∃ q, d = qaf q :=
 ((qfJ (N := N) Tryz.underlying60 [fun d => ∃ s, d = .str s, fun d => ∃ n, d = .int .i64 n] ⟨qmW Tryz.underlying9, qiD Tryz.underlying3, trivial⟩ (by kernel_rfl) (by kernel_rfl) (by kernel_rfl)).less (by omega)).to fun d ⟨ds, hd, h⟩ => by
  match ds, h with
  | [_, _], ⟨⟨s, rfl⟩, ⟨n, rfl⟩, _⟩ => exact ⟨⟨s, n⟩, hd⟩
theorem qv1 (N : Nat) : OpB N 22 1 fun d => ∃ l : List qbG, d = .lst (l.map qaf) := (qhL Tryz.underlying22 (by kernel_rfl) (by omega) (qy4 N)).less (by omega)
theorem qto (N : Nat) : OpB N 25 2 fun d => ∃ q, d = ql q :=
 ((qfJ (N := N) Tryz.underlying25 [fun d => ∃ l : List qbG, d = .lst (l.map qaf), fun d => ∃ l : List qD, d = .lst (l.map qp)] ⟨qv1 N, qv3 N, trivial⟩ (by kernel_rfl) (by kernel_rfl) (by kernel_rfl)).less (by omega)).to fun d ⟨ds, hd, h⟩ => by
  match ds, h with
  | [_, _], ⟨⟨s, rfl⟩, ⟨n, rfl⟩, _⟩ => exact ⟨⟨s, n⟩, hd⟩
/-! ### what the bulk bounds -/
mutual
theorem qyc : ∀ t : T, wt t ≤ zS (zi t)
 | .mk k i s ar => by
  have := qnI ar
  rw [zi, qdQ]
  simp only [zS, zC, wt, T.ar]
  omega
theorem qnI : ∀ l : List T, wtL l ≤ zC (l.map zi)
 | [] => by simp [wtL]
 | t :: l => by
  have h1 := qyc t
  have h2 := qnI l
  simp only [wtL, jl, zC]
  omega
end
theorem qhb {α : Type} {f : α → D} {a : α} : ∀ {l : List α}, a ∈ l → zS (f a) ≤ zC (l.map f)
 | b :: l, h => by
  simp only [jl, zC]
  rcases jh.1 h with rfl | h
  · omega
  · have := qhb (f := f) h; omega
theorem qs4 {a : At} (h : zS (zX a) ≤ 1048576) : wtL a.ts ≤ 1048576 := by
 have := qnI a.ts
 simp only [zX, zS, zC] at h
 omega
theorem qrn {g : Gl} (h : zS (zA g) ≤ 1048576) : wtL g.ts ≤ 1048576 := by
 have := qnI g.ts
 simp only [zA, zS, zC] at h
 omega
theorem qsr {p : qn} (h : zS (ql p) ≤ 1048576) : ∀ r ∈ p.f1_Rules, (∀ a ∈ r.f1_Keep, wtL a.ts ≤ 1048576) ∧ (∀ a ∈ r.f2_Remove, wtL a.ts ≤ 1048576) ∧ (∀ g ∈ r.f3_Guard, wtL g.ts ≤ 1048576) ∧ ∀ g ∈ r.f4_Body, wtL g.ts ≤ 1048576 := fun r hr => by
 simp only [ql, zS, zC] at h
 have h1 := qhb (f := qp) hr
 simp only [qp, zS, zC] at h1
 refine ⟨fun a ha => ?_, fun a ha => ?_, fun a ha => ?_, fun a ha => ?_⟩
 · have := qhb (f := zX) ha
   exact qs4 (by omega)
 · have := qhb (f := zX) ha
   exact qs4 (by omega)
 · have := qhb (f := zA) ha
   exact qrn (by omega)
 · have := qhb (f := zA) ha
   exact qrn (by omega)
/-! ### a law's arguments -/
structure zbp where
 t : TypeId
 n : Nat
 S : D → Prop
 op : ∀ N, OpB N t n S
 cl : Cl t S
def zbq : zbp := ⟨_, _, _, qto, (qsk Tryz.underlying25).to fun _ ⟨_, h⟩ => ⟨_, h⟩⟩
theorem qqg {H : Type} {enc : TypeId × Value → H} {W : World} {base b : Nat} {sp : Nat → Bool} {hd : Bool} : ∀ (av : List zbp) (vs : List Value) (ds : List (DataW H)) (ps : List MemPlace),
 DataW.TrodAll enc Tryz.prog W base sp hd (av.map zbp.t) vs ds ps → (∀ (j : Nat) t v, (av.map zbp.t)[j]? = some t → vs[j]? = some v → Value.okWide Tryz.prog W .any b t v) → ∃ es, Fits (av.map zbp.S) es ∧ zG (live W) W es vs ∧ zC es ≤ Rows.uptoBulkAll ds
 | [], vs, ds, ps, h, _ => by
  obtain ⟨rfl, rfl, _⟩ := trodAll_nil h
  exact ⟨[], trivial, zG.nil _ _, by simp [zC]⟩
 | a :: av, vs, ds, ps, h, hv => by
  obtain ⟨v, vs', d, ds', p, q, rfl, rfl, rfl, ⟨fuel, h1⟩, h2⟩ := trodAll_cons h
  obtain ⟨es, g1, g2, g3⟩ := qqg av vs' ds' q h2 fun j t u ht hu => hv (j + 1) t u ht hu
  obtain ⟨e, u, k1, k2, k3, k4, k5, k6⟩ := a.op (fuel + 1) H enc W base sp hd fuel _ _ (by omega) h1
  have e1 := a.cl W b v (hv 0 a.t v rfl rfl) e k1
  have e2 := k4.back
  rw [← k5] at e2
  rw [← e2] at e1
  subst e1
  refine ⟨e :: es, ⟨k1, g1⟩, zG.cons k4 g2, ?_⟩
  simp only [zC, Rows.uptoBulkAll]
  have k6 : zS e ≤ Rows.uptoBulk d := k6
  omega
def zba (k : FuncId) (F : Func) : Prop := ∀ (H : Type) (enc : TypeId × Value → H) (W : World) (base : Nat) (args : Array Value) (ds : List (DataW H)) (p : List MemPlace),
 (∀ (j : Nat) t v, F.params[j]? = some t → args[j]? = some v → Value.okWide Tryz.prog W .any base t v) → DataW.TrodAll enc Tryz.prog W 0 (fun _ => true) true F.params.toList args.toList ds p → Rows.uptoSmall H ds = true →
 Calls Tryz.prog k args W (Ret W (Is (.bool true)))
theorem qv6 {k : FuncId} {F : Func} (av : List zbp) (hp : F.params.toList = av.map zbp.t) (hg : ∀ es, Fits (av.map zbp.S) es → zC es ≤ 1048576 → zf Tryz.prog k es (.bool true)) : zba k F := by
 intro H enc W base args ds p hval hA hk
 rw [hp] at hA
 obtain ⟨es, h1, h2, h3⟩ := qqg (b := base) av args.toList ds p hA fun j t v ht hv => hval j t v (by rw [← vp, hp]; exact ht) (by simpa using hv)
 have hk' : Rows.uptoBulkAll ds ≤ 1048576 := of_decide_eq_true hk
 have hI : Inv (ctx W (live W) []) (live W) [] W := ⟨by simp, by simp [yP], by simp [yP], fun a ha => ha, zU.refl _ _, fun a ha => .inl ha, rfl, rfl, rfl, jk _, fun b _ _ => rfl⟩
 refine (hg es h1 (vu h3 hk') W (live W) args.toList hI h2).mono ?_
 rintro e w' (⟨v, d, σ, q, rfl, rfl, hr, hi⟩ | ⟨_, _, _, _, _, hx, _⟩)
 rotate_left
 · exact hx.elim
 simp only [Rep] at hr
 subst hr
 exact Ret.mk rfl ⟨hi.os, hi.tape, hi.output, hi.size, fun b hb => hi.block b hb (by simp [ctx, yP])⟩
theorem qrT {k : FuncId} {F : Func} (h : zba k F) {s : ChangeSpec} (hv : s.vars = [])
 (hts0 : (F.params.toList.all fun t => (Tryz.prog).readableRec t && decide (t < (Tryz.prog).types.size)) = true) (hres : F.resultTypes.toList = [4]) (hrs : F.resultTypes.size = 1)
 (hsp : ∀ (H : Type) (ds : List (DataW H)), ds.length = F.params.toList.length → s.fn H ds = { results := [.lit (.bool true)], args := ds })
 {H : Type} {enc : TypeId × Value → H} (W : World) (base : Nat) (args : Array Value) (ds gs : List (DataW H)) (before : List MemPlace)
 (hval : ∀ (j : Nat) t v, F.params[j]? = some t → args[j]? = some v → Value.okWide Tryz.prog W .any base t v)
 (hW : DataW.Whole enc Tryz.prog F.params.toList s.vars false W args.toList ds gs before) (hk : Rows.uptoSmall H (ds ++ gs) = true) :
 Calls Tryz.prog k args W fun e W' => ∃ v, e = .returned v ∧ s.post enc Tryz.prog F false true false false W args v W' := by
 have hts : ∀ t ∈ F.params.toList, (Tryz.prog).readableRec t = true ∧ t < (Tryz.prog).types.size := fun t ht => by
  have := jv.1 hts0 t ht
  simpa using this
 have hW' := hW
 obtain ⟨p, q, hA, hV, rfl, hfz, hnd⟩ := hW
 rw [hv] at hV
 obtain ⟨rfl, rfl⟩ := trodVars_none hV
 rw [jx] at hk
 refine (h H enc W base args ds p hval hA hk).mono ?_
 rintro e W' ⟨v, rfl, hvv, hb⟩
 have hvv : v = .bool true := hvv
 subst hvv
 have hlen := qoL hA
 have hspec := hsp H ds hlen
 refine ⟨_, rfl, ds, [], p ++ [], [], p, [], hW', ?_, ?_, ?_, ?_, fun h => by cases h⟩
 · rw [jx, hspec, hres, hrs]
   exact trodAll_cons_mk (shut_bool Tryz.underlying4 _) trodAll_mk0
 · rw [jx, hspec]
   exact qmm qCo hb hts (fun x hx => hW'.lt x (by simpa using hx)) hA
 · rw [jx, hspec, hv]; rfl
 · exact World.keptBut_mono (fun x hx => ⟨by simpa using hx, .inr (.inl (by simpa using hx))⟩) (Below.frame hb (fun x => x ∈ p))
end Go.Proofs.YtlfcjfiecoapoaaGreat
namespace Go.Proofs.YtlfcjfiecoapoaaGreat
set_option maxRecDepth 100000
open Go.RowKit
abbrev Nd := qd
theorem uT {a b : Int} (h : a = b) : (a == b) = true := by simpa using h
theorem uF {a b : Int} (h : a ≠ b) : (a == b) = false := by simpa using h
theorem qA8 {α : Type} {done ts : List α} {q : α} : zj (done ++ q :: ts) (done.length : Int) = some q := by
 rw [qdy]
 simp
theorem qCp {α : Type} {done ts : List α} {q x : α} : (done ++ q :: ts).set (done.length : Int).toNat x = (done ++ [x]) ++ ts := by
 rw [vG, List.set_append_right _ _ (jk _)]
 simp
theorem yw {α : Type} {l : List α} {i : Int} (h0 : 0 ≤ i) (h : i < l.length) : ∃ q, zj l i = some q ∧ q ∈ l := by
 have hn : i.toNat < l.length := by omega
 refine ⟨l[i.toNat], ?_, List.getElem_mem hn⟩
 unfold zj
 rw [if_pos h0]
 simp [hn]
theorem qg5 {α : Type} {b : Nat} (hb : b ≤ 100) {l : List α} {x : α} {n : Nat} (h : l.length + (n + 1) ≤ 10000000000) : zN b l [x] = some (l ++ [x]) := by
 refine qme ?_ (by simp; omega)
 have : (l.length + [x].length) * b ≤ 10000000000 * 100 := Nat.mul_le_mul (by simp; omega) hb
 omega
theorem qlZ {α : Type} {b : Nat} (hb : b ≤ 100) {l m : List α} (h : l.length + m.length ≤ 10000000000) : zN b l m = some (l ++ m) := by
 refine qme ?_ (by omega)
 have : (l.length + m.length) * b ≤ 10000000000 * 100 := Nat.mul_le_mul h hb
 omega
theorem qkf {α : Type} {l : List α} {i : Int} {q : α} (h : zj l i = some q) : 0 ≤ i ∧ i < l.length ∧ q ∈ l := by
 obtain ⟨h0, h1⟩ := qb6 h
 have := (jr.1 h1).1
 exact ⟨h0, by omega, List.mem_of_getElem? h1⟩
theorem qvI {α β : Type} {l : List α} {i : Int} {q : α} (f : α → β) (h : zj l i = some q) : zj (l.map f) i = some (f q) := by
 obtain ⟨h0, h1⟩ := qb6 h
 unfold zj
 rw [if_pos h0, List.getElem?_map, h1]
 rfl
theorem qz3 {α : Type} {l m : List α} {i : Int} {q : α} (h : zj l i = some q) : zj (l ++ m) i = some q := by
 obtain ⟨h0, h1⟩ := qb6 h
 have := (jr.1 h1).1
 unfold zj
 rw [if_pos h0, jT this, h1]
structure StG (g : List Nd) (c : List Int) : Prop where
 len : c.length = g.length
 cls : ∀ v ∈ c, 0 ≤ v ∧ v < g.length
 idem : ∀ v ∈ c, zj c v = some v
 kid : ∀ q ∈ g, ∀ k ∈ q.f3_Kids, 0 ≤ k ∧ k < g.length
/-! ### shape -/
theorem quQ (c : List Int) (cl : Int) : ∀ (l : List Nd) (i : Nat), i + l.length = c.length → ∃ r : Int, qG (some (-1)) c cl l i = some r ∧ (r = -1 ∨ (∃ q, (i : Int) ≤ r ∧ l[r.toNat - i]? = some q ∧ zj c r = some cl ∧ q.f0_Kind ≠ 1))
 | [], i, _ => ⟨-1, by rw [qG], .inl rfl⟩
 | q :: l, i, h => by
  rw [jg] at h
  obtain ⟨v, hv, _⟩ := yw (l := c) (i := (i : Int)) (by omega) (by omega)
  obtain ⟨r, e, hr⟩ := quQ c cl l (i + 1) (by omega)
  rw [qG, hv, ja]
  have next : ∃ r : Int, qG (some (-1)) c cl l (i + 1) = some r ∧ (r = -1 ∨ (∃ q', (i : Int) ≤ r ∧ (q :: l)[r.toNat - i]? = some q' ∧ zj c r = some cl ∧ q'.f0_Kind ≠ 1)) := by
   refine ⟨r, e, hr.imp id ?_⟩
   rintro ⟨q', h1, h2, h3, h4⟩
   refine ⟨q', by omega, ?_, h3, h4⟩
   rw [show r.toNat - i = (r.toNat - (i + 1)) + 1 by omega, vD]
   exact h2
  by_cases h1 : v = cl
  · rw [uT h1, cond_true]
    by_cases h2 : q.f0_Kind = 1
    · rw [show (q.f0_Kind != 1) = false by simp [h2], cond_false]
      exact next
    · rw [show (q.f0_Kind != 1) = true by simp [h2], cond_true]
      exact ⟨i, rfl, .inr ⟨q, vx _, by simp, by rw [hv, h1], h2⟩⟩
  · rw [uF h1, cond_false]
    exact next
theorem qip {g : List Nd} {c : List Int} (h : StG g c) (cl : Int) : ∃ r : Int, qI cl g c = some r ∧ (r = -1 ∨ ∃ q, zj g r = some q ∧ zj c r = some cl ∧ q.f0_Kind ≠ 1) := by
 obtain ⟨r, e, hr⟩ := quQ c cl g 0 (by have := h.len; omega)
 refine ⟨r, e, hr.imp id ?_⟩
 rintro ⟨q, h1, h2, h3, h4⟩
 refine ⟨q, ?_, h3, h4⟩
 unfold zj
 rw [if_pos (by omega)]
 simpa using h2
/-! ### joining -/
def mrg (y x v : Int) : Int := if v = y then x else v
theorem qra (k : List Nd → List Int → Option (Bool × List Nd × List Int)) (x y : Int) (g : List Nd) : ∀ (r done : List Int) (m : Nat), r.length < m → done.length + r.length ≤ 10000000000 → qV k x y m (done.length : Int) g (done ++ r) = k g (done ++ r.map (mrg y x))
 | [], done, m, hm, _ => by
  obtain ⟨m, rfl⟩ : ∃ n, m = n + 1 := ⟨m - 1, by omega⟩
  rw [qV, decide_eq_false (by simp), cond_false]
  rfl
 | v :: r, done, m, hm, hl => by
  rw [jg] at hm hl
  obtain ⟨m, rfl⟩ : ∃ n, m = n + 1 := ⟨m - 1, by omega⟩
  have e : wr ((done.length : Int) + 1) = ((done ++ [mrg y x v]).length : Int) := by
   rw [qhO (by omega), jf, jp]
   omega
  have ih := qra k x y g r (done ++ [mrg y x v]) m (by omega) (by rw [jf, jp]; omega)
  rw [ji, ji, vz, vz] at ih
  rw [qV, decide_eq_true (by simp; omega), cond_true, qA8, ja, e]
  by_cases h : v = y
  · have hm : mrg y x v = x := if_pos h
    rw [uT h, cond_true, qCp, ji, vz]
    rw [hm] at ih ⊢
    rw [ih, jl, hm]
  · have hm : mrg y x v = v := if_neg h
    rw [uF h, cond_false]
    rw [hm] at ih ⊢
    rw [ih, jl, hm]
def cnt (c : List Int) : Nat := (yj [] c).length
theorem qwV {c : List Int} {x : Int} : x ∈ yj [] c ↔ x ∈ c := by simp [qkM]
theorem qxr : ∀ {a b : List Int}, a.Nodup → (∀ x ∈ a, x ∈ b) → a.length ≤ b.length
 | [], _, _, _ => jc _
 | x :: a, b, hn, h => by
  obtain ⟨h1, h2⟩ := jO.1 hn
  have hx := h x (jd ..)
  have := qxr (b := b.erase x) h2 fun y hy => (List.mem_erase_of_ne (fun e : y = x => h1 (by rw [← e]; exact hy))).2 (h y (je _ hy))
  have hl := List.length_erase_of_mem hx
  have hp := vQ hx
  rw [jg]
  omega
theorem StG.merge {g : List Nd} {c : List Int} (h : StG g c) {x y : Int} (hx : x ∈ c) (hxy : x ≠ y) : StG g (c.map (mrg y x)) := by
 refine ⟨by rw [jb]; exact h.len, fun v hv => ?_, fun v hv => ?_, h.kid⟩
 · obtain ⟨u, hu, rfl⟩ := jA.1 hv
   unfold mrg
   split
   · exact h.cls x hx
   · exact h.cls u hu
 · obtain ⟨u, hu, rfl⟩ := jA.1 hv
   by_cases e : u = y
   · have hm : mrg y x u = x := if_pos e
     rw [hm, qvI (mrg y x) (h.idem x hx)]
     congr 1
     exact if_neg hxy
   · have hm : mrg y x u = u := if_neg e
     rw [hm, qvI (mrg y x) (h.idem u hu), hm]
theorem qBY (c : List Int) (f : Int → Int) (x y : Int) (hy : y ∈ c) (hx : x ∈ c) (hxy : x ≠ y) : cnt (c.map (mrg y x)) < cnt c := by
 have hn : (yj [] (c.map (mrg y x))).Nodup := qqf _ _ List.nodup_nil
 have hsub : ∀ v ∈ (yj [] (c.map (mrg y x))), v ∈ (yj [] c).erase y := fun v hv => by
  obtain ⟨u, hu, rfl⟩ := jA.1 (qwV.1 hv)
  have hne : mrg y x u ≠ y := by
   unfold mrg
   split
   · exact hxy
   · assumption
  refine (List.mem_erase_of_ne hne).2 (qwV.2 ?_)
  unfold mrg
  split
  · exact hx
  · exact hu
 have h1 := qxr hn hsub
 have hy' := qwV.2 hy
 have h2 := List.length_erase_of_mem hy'
 have h3 := vQ hy'
 unfold cnt
 omega
def Resp (g : List Nd) (E : Int → Int → Prop) : Prop := (∀ i, E i i) ∧ (∀ i j, E i j → E j i) ∧ (∀ i j k, E i j → E j k → E i k) ∧ ∀ i j p q, E i j → zj g i = some p → zj g j = some q → p.f0_Kind ≠ 1 → q.f0_Kind ≠ 1 → p.f0_Kind = q.f0_Kind ∧ p.f1_Int = q.f1_Int ∧ p.f2_Name = q.f2_Name ∧ p.f3_Kids.length = q.f3_Kids.length ∧ ∀ n a b, zj p.f3_Kids n = some a → zj q.f3_Kids n = some b → E a b
def za5 (c : List Int) (E : Int → Int → Prop) : Prop := ∀ i j v, zj c i = some v → zj c j = some v → E i j
def zbi (g : List Nd) (c : List Int) (a b : Int) (r : Option (Bool × List Nd × List Int)) : Prop := ∃ ok c', r = some (ok, g, c') ∧ StG g c' ∧ cnt c' ≤ cnt c ∧ ∀ E, Resp g E → za5 c E → E a b → ok = true ∧ za5 c' E
theorem qxA {rec : Int → Int → List Nd → List Int → Option (Bool × List Nd × List Int)} {g : List Nd} (q : Nd) (n : Nat) (hrec : ∀ (a b : Int) (c : List Int), StG g c → cnt c < n → 0 ≤ a → a < g.length → 0 ≤ b → b < g.length → zbi g c a b (rec a b g c)) :
 ∀ (l : List Int) (i : Nat) (c : List Int), StG g c → cnt c < n → i + l.length = q.f3_Kids.length → (∀ x ∈ l, 0 ≤ x ∧ x < g.length) → (∀ x ∈ q.f3_Kids, 0 ≤ x ∧ x < g.length) →
 ∃ ok c', qM (fun g31 g32 => some (true, g31, g32)) rec q l i g c = some (ok, g, c') ∧ StG g c' ∧ cnt c' ≤ cnt c ∧ ∀ E, Resp g E → za5 c E → (∀ (m : Nat) x y, l[m]? = some x → zj q.f3_Kids ((i + m : Nat) : Int) = some y → E x y) → ok = true ∧ za5 c' E
 | [], i, c, hs, _, _, _, _ => ⟨true, c, by rw [qM], hs, jk _, fun E _ hf _ => ⟨rfl, hf⟩⟩
 | x :: l, i, c, hs, hc, hl, hx, hq => by
  rw [jg] at hl
  obtain ⟨y, hy, hym⟩ := yw (l := q.f3_Kids) (i := (i : Int)) (by omega) (by omega)
  have h1 := hx x (jd ..)
  have h2 := hq y hym
  obtain ⟨ok, c', e, s', le', f'⟩ := hrec x y c hs hc h1.1 h1.2 h2.1 h2.2
  rw [qM, hy, ja, e, ja]
  dsimp only
  cases ok with
  | false =>
   rw [Bool.not_false, cond_true]
   refine ⟨false, c', rfl, s', le', fun E hE hF hm => ?_⟩
   have := (f' E hE hF (hm 0 x y rfl (by simpa using hy))).1
   cases this
  | true =>
   rw [jG, cond_false]
   obtain ⟨ok2, c2, e2, s2, le2, f2⟩ := qxA q n hrec l (i + 1) c' s' (by omega) (by omega) (fun z hz => hx z (je _ hz)) hq
   refine ⟨ok2, c2, e2, s2, by omega, fun E hE hF hm => ?_⟩
   refine f2 E hE (f' E hE hF (hm 0 x y rfl (by simpa using hy))).2 fun m u v hu hv => hm (m + 1) u v (by simpa using hu) ?_
   rw [show i + (m + 1) = i + 1 + m by omega]
   exact hv
theorem qny {g : List Nd} (hg : g.length ≤ 1000000000) : ∀ (fuel : Nat) (a b : Int) (c : List Int), StG g c → cnt c < fuel → g.length + cnt c + 1 < fuel → 0 ≤ a → a < g.length → 0 ≤ b → b < g.length → zbi g c a b (q8 fuel a b g c)
 | 0, _, _, _, _, h, _, _, _, _, _ => absurd h (vm _)
 | fuel + 1, a, b, c, hs, hf, hf2, ha, ha2, hb, hb2 => by
  have hlen := hs.len
  obtain ⟨x, ex, hx⟩ := yw (l := c) ha (by omega)
  obtain ⟨y, ey, hy⟩ := yw (l := c) hb (by omega)
  rw [q8]
  dsimp only
  rw [ex, ja, ey, ja]
  by_cases hxy : x = y
  · rw [uT hxy, cond_true]
    exact ⟨true, c, rfl, hs, jk _, fun E _ hF _ => ⟨rfl, hF⟩⟩
  rw [uF hxy, cond_false]
  obtain ⟨m, em, hm⟩ := qip hs x
  obtain ⟨n, en, hn⟩ := qip hs y
  have hs' := hs.merge hx hxy
  have hc := qBY c id x y hy hx hxy
  have hl := qra (fun g13 g14 => (bif (decide (m < (0 : Int))) then some (true, g13, g14) else (bif (decide (n < (0 : Int))) then some (true, g13, g14) else ((zj g13 m).bind fun q_18 => ((zj g13 n).bind fun q_19 => (bif (q_18.f0_Kind != q_19.f0_Kind) then some (false, g13, g14) else (bif (q_18.f1_Int != q_19.f1_Int) then some (false, g13, g14) else (bif (!(q_18.f2_Name.toList == q_19.f2_Name.toList)) then some (false, g13, g14) else (bif ((q_18.f3_Kids.length : Int) != (q_19.f3_Kids.length : Int)) then some (false, g13, g14) else (qM (fun g31 g32 => some (true, g31, g32)) (q8 fuel) q_19 q_18.f3_Kids 0 g13 g14)))))))))) x y g c [] fuel (by omega) (by simp; omega)
  rw [jo, jo] at hl
  rw [em, ja, en, ja]
  refine (congrArg (zbi g c a b) hl).mpr ?_
  have fit : ∀ E, Resp g E → za5 c E → E a b → za5 (c.map (mrg y x)) E := fun E hE hF hab i j v hi hj => by
   obtain ⟨i0, i1, _⟩ := qkf hi
   obtain ⟨j0, j1, _⟩ := qkf hj
   rw [jb] at i1 j1
   obtain ⟨p, ep, _⟩ := yw i0 i1
   obtain ⟨q, eq, _⟩ := yw j0 j1
   have e1 := qvI (mrg y x) ep
   have e2 := qvI (mrg y x) eq
   rw [hi] at e1
   rw [hj] at e2
   have e1 := Option.some.inj e1
   have e2 := Option.some.inj e2
   have toA : ∀ k w, zj c k = some w → w = x ∨ w = y → E k a := fun k w hk hw => by
    rcases hw with rfl | rfl
    · exact hF k a _ hk ex
    · exact hE.2.2.1 _ _ _ (hF k b _ hk ey) (hE.2.1 _ _ hab)
   unfold mrg at e1 e2
   by_cases hp : p = y
   · rw [if_pos hp] at e1
     have hq : q = x ∨ q = y := by
      by_cases hq : q = y
      · exact .inr hq
      · rw [if_neg hq] at e2
        exact .inl (e2.symm.trans e1)
     exact hE.2.2.1 _ _ _ (toA i p ep (.inr hp)) (hE.2.1 _ _ (toA j q eq hq))
   · rw [if_neg hp] at e1
     by_cases hq : q = y
     · rw [if_pos hq] at e2
       exact hE.2.2.1 _ _ _ (toA i p ep (.inl (e1.symm.trans e2))) (hE.2.1 _ _ (toA j q eq (.inr hq)))
     · rw [if_neg hq] at e2
       exact hF i j p ep (by rw [eq, ← e2, e1])
  have easy : zbi g c a b (some (true, g, c.map (mrg y x))) := ⟨true, _, rfl, hs', by omega, fun E hE hF hab => ⟨rfl, fit E hE hF hab⟩⟩
  rcases hm with rfl | ⟨p, hp, cp, kp⟩
  · rw [decide_eq_true (by omega), cond_true]
    exact easy
  have m0 := (qkf hp).1
  rw [decide_eq_false (by omega), cond_false]
  rcases hn with rfl | ⟨q, hq, cq, kq⟩
  · rw [decide_eq_true (by omega), cond_true]
    exact easy
  have n0 := (qkf hq).1
  rw [decide_eq_false (by omega), cond_false, hp, ja, hq, ja]
  have rel : ∀ E, Resp g E → za5 c E → E a b → E m n := fun E hE hF hab => hE.2.2.1 _ _ _ (hF m a x cp ex) (hE.2.2.1 _ _ _ hab (hF b n y ey cq))
  have bad : (∀ E, Resp g E → za5 c E → E a b → False) → zbi g c a b (some (false, g, c.map (mrg y x))) := fun h => ⟨false, _, rfl, hs', by omega, fun E hE hF hab => (h E hE hF hab).elim⟩
  by_cases e1 : p.f0_Kind = q.f0_Kind
  rotate_left
  · rw [show (p.f0_Kind != q.f0_Kind) = true by simpa using e1, cond_true]
    exact bad fun E hE hF hab => e1 (hE.2.2.2 m n p q (rel E hE hF hab) hp hq kp kq).1
  rw [show (p.f0_Kind != q.f0_Kind) = false by simpa using e1, cond_false]
  by_cases e2 : p.f1_Int = q.f1_Int
  rotate_left
  · rw [show (p.f1_Int != q.f1_Int) = true by simpa using e2, cond_true]
    exact bad fun E hE hF hab => e2 (hE.2.2.2 m n p q (rel E hE hF hab) hp hq kp kq).2.1
  rw [show (p.f1_Int != q.f1_Int) = false by simpa using e2, cond_false]
  by_cases e3 : p.f2_Name.toList = q.f2_Name.toList
  rotate_left
  · rw [show (!(p.f2_Name.toList == q.f2_Name.toList)) = true by simpa using e3, cond_true]
    exact bad fun E hE hF hab => e3 (by rw [(hE.2.2.2 m n p q (rel E hE hF hab) hp hq kp kq).2.2.1])
  rw [show (!(p.f2_Name.toList == q.f2_Name.toList)) = false by simpa using e3, cond_false]
  by_cases e4 : p.f3_Kids.length = q.f3_Kids.length
  rotate_left
  · rw [show ((p.f3_Kids.length : Int) != (q.f3_Kids.length : Int)) = true by simp; omega, cond_true]
    exact bad fun E hE hF hab => e4 (hE.2.2.2 m n p q (rel E hE hF hab) hp hq kp kq).2.2.2.1
  rw [show ((p.f3_Kids.length : Int) != (q.f3_Kids.length : Int)) = false by simp; omega, cond_false]
  obtain ⟨ok, c2, e5, s2, le2, f2⟩ := qxA (rec := q8 fuel) (g := g) q (cnt (c.map (mrg y x)) + 1) (fun a b c3 h1 h2 h3 h4 h5 h6 => qny hg fuel a b c3 h1 (by omega) (by omega) h3 h4 h5 h6) p.f3_Kids 0 (c.map (mrg y x)) hs' (by omega) (by omega) (hs.kid p (qkf hp).2.2) (hs.kid q (qkf hq).2.2)
  refine ⟨ok, c2, e5, s2, by omega, fun E hE hF hab => ?_⟩
  refine f2 E hE (fit E hE hF hab) fun k u v hu hv => ?_
  rw [jt] at hv
  exact (hE.2.2.2 m n p q (rel E hE hF hab) hp hq kp kq).2.2.2.2 k u v (by rw [qdy]; exact hu) hv
end Go.Proofs.YtlfcjfiecoapoaaGreat
