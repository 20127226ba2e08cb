/-
 Texts of the seat, merged.
-/
import Derived.Test.YtlfcjfiecoapoaaGreatLRC
set_option linter.unusedVariables false
set_option linter.unusedSimpArgs false
set_option linter.unnecessarySimpa false
set_option linter.all false
set_option maxHeartbeats 8000000
namespace Go.Proofs.YtlfcjfiecoapoaaGreat
noncomputable section
set_option maxRecDepth 100000
open Go.RowKit
def qb4 (k : Option Bool) (a1 : Int) : List Int → Option Bool
 | [] =>
 k
 | q_2 :: rest =>
 (bif (q_2 == a1) then
 some (true)
 else
 (qb4 k a1 rest))
def qfc (a0 : List Int) (a1 : Int) : Option Bool :=
 (qb4 (some (false)) a1 a0)
theorem qlo (a0 : List Int) (a1 : Int) (res : Bool) (hr : qfc a0 a1 = some res) : zf Tryz.prog 115 [.lst (a0.map (D.int .i64)), .int .i64 a1] (.bool res) := by
 unfold qfc at hr
 refine qY Tryz.func115 rfl fun K hK => (qf 5 rfl ?_)
 obtain ⟨kk0, hkk0, hr⟩ := exK (fun k => qb4 k a1 a0) hr
 refine qcq 0 rfl (asl rfl) fun hla0 => ?_
 simp only [jb] at hla0
 refine qx (fun env σ => env = [] ∧ σ = [] ∧ kk0 = some res) ?_ (fun HK0 => ?_)
 ·
  rintro _ _ ⟨rfl, rfl, hr⟩
  rw [hkk0] at hr
  refine qf 2 rfl ?_
  cases hr
  refine qu Tryz.func115 rfl ?_
  rfl
 ·
  refine qm [0, 1, 5] rfl (q9 (fun n env σ => ∃ (i1 : Nat), (n = a0.length - i1) ∧ (env = [(0, .lst (a0.map (D.int .i64))), (1, .int .i64 a1), (5, .int .i64 (i1 : Int))]) ∧ (σ = []) ∧ (i1 ≤ a0.length) ∧ (qb4 kk0 a1 (a0.drop i1) = some res)) _ ⟨0, rfl, rfl, rfl, jc _, hr⟩ ?_)
  rintro n _ _ ⟨i1, rfl, rfl, rfl, hi0, hr⟩ IH0
  rcases zb a0 i1 hi0 with ⟨ht0, hd0, he0⟩ | ⟨q_2, ht0, hd0, hq0, hlt0⟩
  ·
   rw [hd0, qb4] at hr
   refine qe (qe (qg 4 (qa 2 rfl (qz rfl (qa 1 rfl (qb (qk 9 false rfl ht0 (qA rfl (qQ rfl (qm [] rfl ?_))))))))))
   exact HK0 _ _ ⟨rfl, rfl, hr⟩
  ·
   rw [hd0, qb4] at hr
   refine qe (qe (qg 4 (qa 2 rfl (qz rfl (qa 1 rfl (qb (qk 9 true rfl ht0 (qf 5 rfl (qg 6 (qa 2 rfl (qN hq0 rfl (qa 3 rfl (qb ?_)))))))))))))
   refine zh 17 rfl hr (fun h17_2 hr => ?_) (fun h17_2 hr => ?_)
   ·
    refine qf 3 rfl ?_
    cases hr
    refine qu Tryz.func115 rfl ?_
    rfl
   ·
    refine qf 3 rfl (qg 3 (qa 1 rfl (qaj rfl (qa 1 rfl (qb (qm [0, 1, 5] rfl ?_))))))
    exact IH0 _ _ _ (by omega) ⟨(i1 + 1), rfl, rfl, rfl, (by omega), hr⟩
def qdI (a0 : T) : Option (List T) :=
 (bif (a0.k == (2 : Int)) then
 some (a0.ar)
 else
 some ([]))
theorem qle (a0 : T) (res : List T) (hr : qdI a0 = some res) : zf Tryz.prog 66 [zi a0] (.lst (res.map zi)) := by
 unfold qdI at hr
 refine qY Tryz.func66 rfl fun K hK => (qe (qg 2 (rd rfl (qcK rfl rfl rfl) (qa 1 rfl (qb (qe (qe (qg 3 (rd rfl (qK rfl qcg rfl (qfr _) (qfs _) rfl) (qa 2 rfl (qb ?_)))))))))))
 refine zh 5 rfl hr (fun h5_0 hr => ?_) (fun h5_0 hr => ?_)
 ·
  refine qO rfl (qe (qg 3 (rd rfl (qK rfl qcf rfl (qgi _) (qgf _) rfl) (qa 2 rfl (qb ?_)))))
  cases hr
  refine qu Tryz.func66 rfl ?_
  rfl
 ·
  refine qf 4 rfl ?_
  cases hr
  refine qbQ Tryz.func66 _ (.cons (zd rfl (Wk.full _)) .nil) ?_
  rfl
def qah (k : List Int → Option (List Int)) (rec : List Int → T → Option (List Int)) : List T → List Int → Option (List Int)
 | [], l6 =>
 (k l6)
 | q_10 :: rest, l6 =>
 ((rec l6 q_10).bind fun r11 =>
 (qah k rec rest r11))
def qcB (k : List Int → Option (List Int)) (a0 : List Int) (a1 : T) : Option (List Int) :=
 (bif (a1.k == (1 : Int)) then
 ((qfc a0 a1.i).bind fun r14 =>
 (bif (!r14) then
 ((zN 8 a0 [a1.i]).bind fun l16 =>
 (k l16))
 else
 (k a0)))
 else
 (k a0))
def qca : Nat → List Int → T → Option (List Int)
 | 0, _, _ => none
 | fuel + 1, a0, a1 =>
  (fun (rec : List Int → T → Option (List Int)) =>
   (qcB (fun l3 =>
   ((qdI a1).bind fun r4 =>
   (qah (fun l9 =>
   some (l9)) rec r4 l3))) a0 a1)) (qca fuel)
theorem qi8 (fuel : Nat) (rec : List Int → T → Option (List Int)) (IHR : ∀ (a0 : List Int) (a1 : T) (u_o0 : Value) (res : List Int), rec a0 a1 = some res → Spec Tryz.prog 86 [.own u_o0 (a0.map (D.int .i64)), zi a1] [.row u_o0 a0.length 3 1] (fun d σ => ∃ (u_o0' : Value), d = .own u_o0' (res.map (D.int .i64)) ∧ σ = [.row u_o0' res.length 3 1])) (a0 : List Int) (a1 : T) (u_o0 : Value) (res : List Int)
 (hr : (qcB (fun l3 =>
((qdI a1).bind fun r4 =>
(qah (fun l9 =>
some (l9)) rec r4 l3))) a0 a1) = some res) : Spec Tryz.prog 86 [.own u_o0 (a0.map (D.int .i64)), zi a1] [.row u_o0 a0.length 3 1] (fun d σ => ∃ (u_o0' : Value), d = .own u_o0' (res.map (D.int .i64)) ∧ σ = [.row u_o0' res.length 3 1]) := by
 refine qY Tryz.func86 rfl fun K hK => (qe (zg 2 4 (rd rfl (qcK rfl rfl rfl) (ew rfl (qab 3 1 (.inl rfl)) ?_))))
 rintro _ _ ⟨u4_0, rfl, rfl⟩
 refine qb ?_
 obtain ⟨kkJ0, hkkJ0, hr⟩ := exK (fun k => qcB k a0 a1) hr
 refine qtU (fun env σ => ∃ (l3 : List Int) (u2 : Value), env = [(0, .own u2 (l3.map (D.int .i64))), (3, .ptr (zi a1))] ∧ σ = [.row u2 l3.length 3 1] ∧ kkJ0 l3 = some res) ?_ (fun HKJ0 => ?_)
 ·
  rintro _ _ ⟨l3, u2, rfl, rfl, hr⟩
  rw [hkkJ0] at hr
  refine qe (qg 3 (qa 1 rfl ?_))
  obtain ⟨r4, h4, hr⟩ := za hr
  refine qs rfl qkL (qle _ _ h4) (qa 1 rfl (qb (qf 3 rfl ?_)))
  obtain ⟨kk0, hkk0, hr⟩ := exK (fun k => qah k rec r4 l3) hr
  refine qcq 23 rfl (asl rfl) fun hla0 => ?_
  simp only [jb] at hla0
  refine qx (fun env σ => ∃ (l9 : List Int) (u8 : Value), env = [(0, .own u8 (l9.map (D.int .i64)))] ∧ σ = [.row u8 l9.length 3 1] ∧ kk0 l9 = some res) ?_ (fun HK0 => ?_)
  ·
   rintro _ _ ⟨l9, u8, rfl, rfl, hr⟩
   rw [hkk0] at hr
   refine qf 2 rfl ?_
   cases hr
   refine qu Tryz.func86 rfl ?_
   exact ⟨u8, rfl, rfl⟩
  ·
   refine qm [5, 0, 6] rfl (q9 (fun n env σ => ∃ (l6 : List Int) (i7 : Nat) (u5 : Value), (n = r4.length - i7) ∧ (env = [(5, .lst (r4.map zi)), (0, .own u5 (l6.map (D.int .i64))), (6, .int .i64 (i7 : Int))]) ∧ (σ = [.row u5 l6.length 3 1]) ∧ (i7 ≤ r4.length) ∧ (qah kk0 rec (r4.drop i7) l6 = some res)) _ ⟨l3, 0, u2, rfl, rfl, rfl, jc _, hr⟩ ?_)
   rintro n _ _ ⟨l6, i7, u5, rfl, rfl, rfl, hi0, hr⟩ IH0
   rcases zb r4 i7 hi0 with ⟨ht0, hd0, he0⟩ | ⟨q_10, ht0, hd0, hq0, hlt0⟩
   ·
    rw [hd0, qah] at hr
    refine qe (qe (qg 4 (qa 2 rfl (qz rfl (qa 1 rfl (qb (qk 27 false rfl ht0 (qA rfl (qQ rfl (qm [0] rfl ?_))))))))))
    exact HK0 _ _ ⟨l6, u5, rfl, rfl, hr⟩
   ·
    rw [hd0, qah] at hr
    refine qe (qe (qg 4 (qa 2 rfl (qz rfl (qa 1 rfl (qb (qk 27 true rfl ht0 (qf 4 rfl (zg 7 1024 (qa 3 rfl (qN hq0 rfl (qa 1 rfl ?_))))))))))))
    obtain ⟨r11, h11, hr⟩ := za hr
    refine ew rfl (qiq _ rfl qfV (.oc rfl (.oc rfl .nil)) (by exact (pf0 _)) (IHR _ _ _ _ h11)) ?_
    rintro _ _ ⟨_, ⟨u35_11, rfl, rfl⟩, rfl⟩
    refine zaq ((.row u35_11 r11.length 3 1) :: _) rfl (qa 1 rfl (qb (qaa (qg 3 (qa 1 rfl (qaj rfl (qa 1 rfl (qb (qm [5, 0, 6] rfl ?_)))))))))
    exact IH0 _ _ _ (by omega) ⟨r11, (i7 + 1), u35_11, rfl, rfl, rfl, (by omega), hr⟩
 ·
  unfold qcB at hr
  refine qe (qg 10 (rd rfl (qK rfl qcg rfl (qfr _) (qfs _) rfl) (qa 3 rfl ?_)))
  refine zq 10 rfl hr (fun h10_12 hr => ?_) (fun h10_12 hr => ?_)
  ·
   refine qa 1 rfl (rd rfl (qK rfl qcp rfl (qfy _) (qfz _) rfl) (qa 1 rfl ?_))
   obtain ⟨r14, h14, hr⟩ := za hr
   refine rd rfl (qhd rfl qlq (.cons rfl (Wk.own _ _) (.oc rfl .nil)) (qlo _ _ _ h14)) (qa 2 rfl (qb ?_))
   refine zh 16 rfl hr (fun h16_14 hr => ?_) (fun h16_14 hr => ?_)
   ·
    refine qO rfl (zg 6 256 (qa 1 rfl (rd rfl (qK rfl qcp rfl (qfy _) (qfz _) rfl) (qa 1 rfl (rd rfl (qeS (f := (D.int .i64)) [.tmp 19] [a1.i] rfl qc7 rfl rfl (by decide) (by decide) (.oc rfl .nil) (fun _ => rfl) (fun _ => rfl)) ?_)))))
    obtain ⟨l16, h16, hr⟩ := za hr
    refine ew rfl (qaK (f := (D.int .i64)) a0 [a1.i] rfl qc7 rfl rfl (asl rfl) (pf1 _ _ _) rfl (fun _ => rfl) h16) ?_
    rintro _ _ ⟨u21_16, rfl, rfl⟩
    refine qa 1 rfl (qb (qm [0, 3] rfl (qcA [_] _ (pf0 _) ?_)))
    exact HKJ0 _ _ ⟨l16, u21_16, rfl, rfl, hr⟩
   ·
    refine qA rfl (ql1 (qm [0, 3] rfl (qcA [_] _ (pf1 _ _ _) ?_)))
    exact HKJ0 _ _ ⟨a0, u_o0, rfl, rfl, hr⟩
  ·
   refine qa 6 rfl (qb (qA rfl (ql1 (qm [0, 3] rfl (qcA [_] _ (pf1 _ _ _) ?_)))))
   exact HKJ0 _ _ ⟨a0, u_o0, rfl, rfl, hr⟩
theorem qfi : ∀ (fuel : Nat) (a0 : List Int) (a1 : T) (u_o0 : Value) (res : List Int), qca fuel a0 a1 = some res → Spec Tryz.prog 86 [.own u_o0 (a0.map (D.int .i64)), zi a1] [.row u_o0 a0.length 3 1] (fun d σ => ∃ (u_o0' : Value), d = .own u_o0' (res.map (D.int .i64)) ∧ σ = [.row u_o0' res.length 3 1])
 | 0, _, _, _, _, h => by cases h
 | fuel + 1, a0, a1, u_o0, res, h => qi8 fuel (qca fuel) (qfi fuel) a0 a1 u_o0 res h
def qc5 (fuel : Nat) (a0 : T) : Option (List Int) :=
 ((qca fuel [] a0).bind fun r1 =>
 some (r1))
theorem qf3 (fuel : Nat) (a0 : T) (res : List Int) (hr : qc5 fuel a0 = some res) : zf Tryz.prog 49 [zi a0] (.lst (res.map (D.int .i64))) := by
 unfold qc5 at hr
 refine qY Tryz.func49 rfl fun K hK => (qe (qg 2 (rd rfl (qcK rfl rfl rfl) (qa 1 rfl (qb (qe (qnL 3 1 (zg 3 4 (qa 1 rfl ?_)))))))))
 obtain ⟨r1, h1, hr⟩ := za hr
 refine ew rfl (qiq _ rfl qfV (.consN (.oc rfl .nil)) (by exact (pf0 _)) (qfi fuel _ _ _ _ h1)) ?_
 rintro _ _ ⟨_, ⟨u4_1, rfl, rfl⟩, rfl⟩
 refine zaq ((.row u4_1 r1.length 3 1) :: _) rfl (qa 1 rfl (qb ?_))
 cases hr
 refine qbQ Tryz.func49 _ (.cons (zd rfl (Wk.own _ _)) .nil) ?_
 rfl
def qbg (k : List Int → Option (List Int)) (fuel : Nat) : List T → List Int → Option (List Int)
 | [], o4 =>
 (k o4)
 | q_8 :: rest, o4 =>
 ((qca fuel o4 q_8).bind fun r9 =>
 (qbg k fuel rest r9))
def qbV (fuel : Nat) (a0 : List T) : Option (List Int) :=
 (qbg (fun o7 =>
 some (o7)) fuel a0 [])
theorem qeI (fuel : Nat) (a0 : List T) (res : List Int) (hr : qbV fuel a0 = some res) : zf Tryz.prog 85 [.lst (a0.map zi)] (.lst (res.map (D.int .i64))) := by
 unfold qbV at hr
 refine qY Tryz.func85 rfl fun K hK => (qe (zg 1 1 (ew rfl (qab 3 1 (.inl rfl)) ?_)))
 rintro _ _ ⟨u2_0, rfl, rfl⟩
 refine qb (qe (zg 1 1 (ew rfl (qab 3 1 (.inl rfl)) ?_)))
 rintro _ _ ⟨u3_1, rfl, rfl⟩
 refine qb (qf 3 rfl ?_)
 obtain ⟨kk0, hkk0, hr⟩ := exK (fun k => qbg k fuel a0 []) hr
 refine qcq 0 rfl (asl rfl) fun hla0 => ?_
 simp only [jb] at hla0
 refine qx (fun env σ => ∃ (o7 : List Int) (u6 : Value), env = [(3, .own u6 (o7.map (D.int .i64)))] ∧ σ = [.row u6 o7.length 3 1] ∧ kk0 o7 = some res) ?_ (fun HK0 => ?_)
 ·
  rintro _ _ ⟨o7, u6, rfl, rfl, hr⟩
  rw [hkk0] at hr
  refine qf 2 rfl ?_
  cases hr
  refine qbQ Tryz.func85 _ (.cons (zd rfl (Wk.own _ _)) .nil) ?_
  rfl
 ·
  refine qm [0, 3, 4] rfl (qcA [_] _ (pf0 _) (q9 (fun n env σ => ∃ (o4 : List Int) (i5 : Nat) (u3 : Value), (n = a0.length - i5) ∧ (env = [(0, .lst (a0.map zi)), (3, .own u3 (o4.map (D.int .i64))), (4, .int .i64 (i5 : Int))]) ∧ (σ = [.row u3 o4.length 3 1]) ∧ (i5 ≤ a0.length) ∧ (qbg kk0 fuel (a0.drop i5) o4 = some res)) _ ⟨[], 0, u3_1, rfl, rfl, rfl, jc _, hr⟩ ?_))
  rintro n _ _ ⟨o4, i5, u3, rfl, rfl, rfl, hi0, hr⟩ IH0
  rcases zb a0 i5 hi0 with ⟨ht0, hd0, he0⟩ | ⟨q_8, ht0, hd0, hq0, hlt0⟩
  ·
   rw [hd0, qbg] at hr
   refine qe (qe (qg 4 (qa 2 rfl (qz rfl (qa 1 rfl (qb (qk 8 false rfl ht0 (qA rfl (qQ rfl (qm [3] rfl ?_))))))))))
   exact HK0 _ _ ⟨o4, u3, rfl, rfl, hr⟩
  ·
   rw [hd0, qbg] at hr
   refine qe (qe (qg 4 (qa 2 rfl (qz rfl (qa 1 rfl (qb (qk 8 true rfl ht0 (qf 4 rfl (zg 7 1024 (qa 3 rfl (qN hq0 rfl (qa 1 rfl ?_))))))))))))
   obtain ⟨r9, h9, hr⟩ := za hr
   refine ew rfl (qiq _ rfl qfV (.oc rfl (.oc rfl .nil)) (by exact (pf0 _)) (qfi fuel _ _ _ _ h9)) ?_
   rintro _ _ ⟨_, ⟨u16_9, rfl, rfl⟩, rfl⟩
   refine zaq ((.row u16_9 r9.length 3 1) :: _) rfl (qa 1 rfl (qb (qaa (qg 3 (qa 1 rfl (qaj rfl (qa 1 rfl (qb (qm [0, 3, 4] rfl ?_)))))))))
   exact IH0 _ _ _ (by omega) ⟨r9, (i5 + 1), u16_9, rfl, rfl, rfl, (by omega), hr⟩
end
end Go.Proofs.YtlfcjfiecoapoaaGreat
