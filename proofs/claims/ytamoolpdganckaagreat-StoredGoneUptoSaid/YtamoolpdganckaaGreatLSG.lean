/-
 Texts of the seat, merged.
-/
import Derived.Test.YtamoolpdganckaaGreatLSF
set_option linter.unusedVariables false
set_option linter.unusedSimpArgs false
set_option linter.unnecessarySimpa false
set_option linter.all false
set_option maxHeartbeats 8000000
namespace Go.Proofs.YtamoolpdganckaaGreat
noncomputable section
set_option maxRecDepth 100000
open Go.RowKit
structure qn where
 fk : Gl
 fd : Int
 fq : Int
def qs (x : qn) : D := .agg [zB x.fk, .int .i64 x.fd, .int .i64 x.fq]
theorem qae (x : qn) : sz (qs x) = 5 := by
 simp only [qs, sz, szs, qcJ]
structure qd where
 fb : (List qn)
 fj : (List (Int × At))
 fu : (List (Int × T))
 fC : (List qi)
 fA : Int
 fz : Int
 fF : Bool
def qW (x : qd) : D := .agg [.lst (x.fb.map qs), .lst (x.fj.map zm), .lst (x.fu.map zq), .lst (x.fC.map qe), .int .i64 x.fA, .int .i64 x.fz, .bool x.fF]
theorem qdW (x : qd) : sz (qW x) = 7 := by
 simp only [qW, sz, szs]
structure qw where
 fa : Int
 fd : Int
 fq : Int
 fJ : Int
 fD : (List Int)
def qM (x : qw) : D := .agg [.int .i64 x.fa, .int .i64 x.fd, .int .i64 x.fq, .int .i64 x.fJ, .lst (x.fD.map (D.int .i64))]
theorem qcU (x : qw) : sz (qM x) = 5 := by
 simp only [qM, sz, szs]
structure qt where
 fy : Int
 fG : Int
 fI : Bool
def qbn (x : qt) : D := .agg [.int .i64 x.fy, .int .i64 x.fG, .bool x.fI]
theorem qd8 (x : qt) : sz (qbn x) = 3 := by
 simp only [qbn, sz, szs]
def qa4 (k : List qt → Option (List qt)) (i5 : Nat) (q_8 : qk) : Nat → List qt → Option (List qt)
 | 0, o10 =>
 (k o10)
 | k14 + 1, o10 =>
 ((zz 24 o10 [(⟨(i5 : Int), (k14 : Int), (decide ((k14 : Int) < (q_8.fg.length : Int)))⟩ : qt)]).bind fun l15 =>
 (qa4 k i5 q_8 k14 l15))
def qa7 (k : List qt → Option (List qt)) : List qk → List qt → Nat → Option (List qt)
 | [], o4, i5 =>
 (k o4)
 | q_8 :: rest, o4, i5 =>
 ((yS (wr ((wr ((q_8.fg.length : Int) + (q_8.ft.length : Int))) - (1 : Int)))).bind fun m17 =>
 (qa4 (fun o13 =>
 (qa7 k rest o13 (i5 + 1))) i5 q_8 m17 o4))
def qc2 (a0 : qc) : Option (List qt) :=
 (qa7 (fun o7 =>
 some (o7)) a0.fc [] 0)
theorem qim (a0 : qc) (a : List qt) (hr : qc2 a0 = some a) : zg Tryz.prog 70 [qf a0] (.lst (a.map qbn)) := by
 unfold qc2 at hr
 refine qC Tryz.func70 rfl fun K p q => (qaC (zf 2 4 (rd rfl (qcA rfl rfl rfl) (ew rfl (qL 94 3 (.inl rfl)) ?_))))
 rintro _ _ ⟨u2_0, rfl, rfl⟩
 refine st0 ?_
 refine zf 1 1 (ew rfl (qL 94 3 (.inl rfl)) ?_)
 rintro _ _ ⟨u3_1, rfl, rfl⟩
 refine st ?_
 obtain ⟨d, h, hr⟩ := exK (fun k => qa7 k a0.fc [] 0) hr
 refine qy4 0 [1] (l := a0.fc.map ql) rfl rfl (asl rfl) fun i => ?_
 simp only [jd] at i
 refine qz (fun env σ => ∃ (o7 : List qt) (u6 : Value), env = [(3, .own u6 (o7.map qbn))] ∧ σ = [.row u6 o7.length 94 3] ∧ d o7 = some a) ?_ (fun s => ?_)
 rintro _ _ ⟨o7, u6, rfl, rfl, hr⟩
 rw [h] at hr
 refine st ?_
 cases hr
 refine qbg Tryz.func70 _ (.cons (za rfl (Wk.own _ _)) .nil) ?_
 rfl
 refine qbc [1, 3, 4] rfl (qcz [_] _ (pf0 _) (qal (fun n env σ => ∃ (o4 : List qt) (i5 : Nat) (u3 : Value), n = a0.fc.length - i5 ∧ (env = [(1, .ptr (qf a0)), (3, .own u3 (o4.map qbn)), (4, .int .i64 (i5 : Int))]) ∧ (σ = [.row u3 o4.length 94 3]) ∧ (i5 ≤ a0.fc.length) ∧ (qa7 d (a0.fc.drop i5) o4 i5 = some a)) _ ⟨[], 0, u3_1, rfl, rfl, rfl, jf _, hr⟩ ?_))
 rintro n _ _ ⟨o4, i5, u3, rfl, rfl, rfl, j, hr⟩ t
 rcases zd a0.fc i5 j with ⟨m, c, u⟩ | ⟨q_8, m, c, v, w⟩
 rw [c, qa7] at hr
 exact fin hr
 rw [c, qa7] at hr
 refine st ?_
 refine qD ?_
 refine st ?_
 refine rd rfl (qe4 rfl rfl rfl rfl) (rd rfl (qe4 rfl rfl rfl rfl) ?_)
 refine st ?_
 obtain ⟨m17, h17, hr⟩ := zb hr
 have hm_17' := qk7 h17
 obtain ⟨e, o, hr⟩ := exK (fun k => qa4 k i5 q_8 m17 o4) hr
 refine qz (fun env σ => ∃ (o13 : List qt) (u12 : Value), env = [(1, .ptr (qf a0)), (3, .own u12 (o13.map qbn)), (4, .int .i64 (i5 : Int))] ∧ σ = [.row u12 o13.length 94 3] ∧ e o13 = some a) ?_ (fun x => ?_)
 rintro _ _ ⟨o13, u12, rfl, rfl, hr⟩
 rw [o] at hr
 exact fin hr
 refine qqK 6 (d' := .int .i64 ((m17 : Int) - 1)) rfl (congrArg (D.int .i64) hm_17') (qbc [1, 4, 5, 3, 6] rfl (qal (fun n env σ => ∃ (o10 : List qt) (k11 : Nat) (u9 : Value), (k11 = n) ∧ (env = [(1, .ptr (qf a0)), (4, .int .i64 (i5 : Int)), (5, .int .i64 (q_8.fg.length : Int)), (3, .own u9 (o10.map qbn)), (6, .int .i64 ((k11 : Int) - 1))]) ∧ (σ = [.row u9 o10.length 94 3]) ∧ (qa4 e i5 q_8 k11 o10 = some a)) _ ⟨o4, m17, u3, rfl, rfl, rfl, hr⟩ ?_))
 rintro n _ _ ⟨o10, k11, u9, rfl, rfl, rfl, hr⟩ y
 refine qoW 6 rfl fun z => ?_
 rcases yT k11 with ⟨b, g⟩ | ⟨k14, b, g⟩
 rw [b, qa4] at hr
 exact fin hr
 rw [b, qa4] at hr
 have g : decide ((k14 : Int) ≥ (0 : Int)) = true := decide_eq_true oa
 refine qqK 6 (d' := .int .i64 (k14 : Int)) rfl (by subst b; congr 1; omega) ?_
 refine st ?_
 refine qD (zf 10 65536 (qg 6 rfl (rd rfl (qbz rfl qnC (.oc rfl (.oc rfl (.oc rfl .nil))) (.cons rfl rfl rfl (.cons rfl rfl rfl (.cons rfl rfl rfl (.nil _))))) (rd rfl (qe2 (f := qbn) [.tmp 41] [(⟨(i5 : Int), (k14 : Int), (decide ((k14 : Int) < (q_8.fg.length : Int)))⟩ : qt)] rfl qgW rfl rfl od od (.oc rfl .nil) qd8 (fun _ => rfl)) ?_))))
 obtain ⟨l15, h15, hr⟩ := zb hr
 refine ew rfl (qau (f := qbn) o10 [(⟨(i5 : Int), (k14 : Int), (decide ((k14 : Int) < (q_8.fg.length : Int)))⟩ : qt)] rfl qgW rfl rfl (asl rfl) (pf0 _) rfl qd8 h15) ?_
 rintro _ _ ⟨u43_15, rfl, rfl⟩
 refine st ?_
 refine rd rfl (zbq (r := (k14 : Int) - 1) rfl rfl rfl rfl oa) ?_
 exact fin hr
def qdR (a0 : Gl) : Option Bool :=
 (bif (a0.op == (0 : Int)) then
 (bif (a0.n.toList == (⟨#[]⟩ : ByteArray).toList) then
 some (((a0.ts.length : Int) == (0 : Int)))
 else
 some (false))
 else
 some (false))
theorem qkO (a0 : Gl) (a : Bool) (hr : qdR a0 = some a) : zg Tryz.prog 73 [zB a0] (.bool a) := by
 unfold qdR at hr
 refine qC Tryz.func73 rfl fun K b c => ?_
 refine st ?_
 refine rd rfl (qcA rfl rfl rfl) ?_
 refine st ?_
 refine zt 6 rfl hr (fun _ hr => ?_) (fun _ hr => ?_)
 refine qg 2 rfl (rd rfl (qgC rfl rfl rfl rfl) (qg 2 rfl ?_))
 refine zt 11 rfl hr (fun _ hr => ?_) (fun _ hr => ?_)
 exact fin hr
 exact fin hr
 exact fin hr
def qam (k : Option Bool) (a1 : qd) (fuel : Nat) (a0 : qc) (r6 : List qt) : List qn → Option Bool
 | [] =>
 k
 | q_8 :: rest =>
 (bif (q_8.fd == (0 : Int)) then
 (bif (q_8.fq != (0 : Int)) then
 some (false)
 else
 ((qc6 a0 q_8.fk).bind fun r12 =>
 (bif (!r12) then
 some (false)
 else
 ((qdk fuel q_8.fk a1.fz a1.fu).bind fun r14 =>
 (bif (!r14) then
 some (false)
 else
 (qam k a1 fuel a0 r6 rest))))))
 else
 (bif (decide (q_8.fd < (1 : Int))) then
 some (false)
 else
 (bif (decide (q_8.fd ≥ a1.fA)) then
 some (false)
 else
 ((qdR q_8.fk).bind fun r18 =>
 (bif (!r18) then
 some (false)
 else
 (bif (decide (q_8.fq < ((-1) : Int))) then
 some (false)
 else
 (bif (decide (q_8.fq > (r6.length : Int))) then
 some (false)
 else
 (qam k a1 fuel a0 r6 rest))))))))
def qbU (fuel : Nat) (a0 : qc) (a1 : qd) : Option Bool :=
 ((qcj fuel a0).bind fun r1 =>
 (bif (r1.2 != (0 : Int)) then
 some (false)
 else
 (bif (decide ((a1.fb.length : Int) > (1000 : Int))) then
 some (false)
 else
 ((qcX fuel a0 a1.fj a1.fu a1.fC a1.fA a1.fz).bind fun r4 =>
 (bif (!r4) then
 some (false)
 else
 ((qc2 a0).bind fun r6 =>
 (qam (some (true)) a1 fuel a0 r6 a1.fb)))))))
theorem qf0 (fuel : Nat) (a0 : qc) (a1 : qd) (a : Bool) (hr : qbU fuel a0 a1 = some a) : zg Tryz.prog 32 [qf a0, qW a1] (.bool a) := by
 unfold qbU at hr
 refine qC Tryz.func32 rfl fun K i j => ?_
 refine st ?_
 refine rd rfl (qcA rfl rfl rfl) (rd rfl (qcA rfl rfl rfl) ?_)
 refine st ?_
 refine zk hr rfl qhG (qhS fuel _) (fun r1 h1 hr => ?_)
 refine st ?_
 refine zt 17 rfl hr (fun _ hr => ?_) (fun _ hr => ?_)
 exact fin hr
 refine st ?_
 refine zi 22 rfl hr (fun _ hr => ?_) (fun _ hr => ?_)
 exact fin hr
 refine st ?_
 refine zk hr rfl qkb (qkj fuel _ _ _ _ _ _) (fun r4 h4 hr => ?_)
 refine st ?_
 refine zi 35 rfl hr (fun _ hr => ?_) (fun _ hr => ?_)
 exact fin hr
 refine st ?_
 refine zk hr rfl qif (qim _) (fun r6 h6 hr => ?_)
 refine st ?_
 obtain ⟨c, d, hr⟩ := exK (fun k => qam k a1 fuel a0 r6 a1.fb) hr
 refine qc5 19 rfl (asl rfl) fun e => ?_
 simp only [jd] at e
 refine qz (fun env σ => env = [] ∧ σ = [] ∧ c = some a) ?_ (fun l => ?_)
 rintro _ _ ⟨rfl, rfl, hr⟩
 rw [d] at hr
 exact fin hr
 refine qbc [2, 3, 7, 8] rfl (qal (fun n env σ => ∃ (i7 : Nat), n = a1.fb.length - i7 ∧ (env = [(2, .ptr (qf a0)), (3, .ptr (qW a1)), (7, .int .i64 (r6.length : Int)), (8, .int .i64 (i7 : Int))]) ∧ (σ = []) ∧ (i7 ≤ a1.fb.length) ∧ (qam c a1 fuel a0 r6 (a1.fb.drop i7) = some a)) _ ⟨0, rfl, rfl, rfl, jf _, hr⟩ ?_)
 rintro n _ _ ⟨i7, rfl, rfl, rfl, g, hr⟩ m
 rcases zd a1.fb i7 g with ⟨h, b, o⟩ | ⟨q_8, h, b, p, q⟩
 rw [b, qam] at hr
 exact fin hr
 rw [b, qam] at hr
 refine st ?_
 refine qD (qaC (zf 7 5120 ?_))
 refine st ?_
 refine ew rfl (qbi rfl qj4) ?_
 rintro _ _ ⟨b9_8, rfl, rfl⟩
 refine z8 rfl (qgk _ rfl rfl rfl (Wk.refl _) (pf0 _) (by exact qd7) (qae _) (by first | rfl | simp [sz, szs, qdK, qcJ]) rfl) (qax (qbR 9 b9_8 rfl (pf0 _) ?_))
 refine st ?_
 refine zi 53 rfl hr (fun _ hr => ?_) (fun _ hr => ?_)
 refine st ?_
 refine zt 57 rfl hr (fun _ hr => ?_) (fun _ hr => ?_)
 exact fin hr
 refine qg 3 rfl ?_
 refine zk hr rfl qkP (qkA _ _) (fun r12 h12 hr => ?_)
 refine qg 3 rfl ?_
 refine zt 64 rfl hr (fun _ hr => ?_) (fun _ hr => ?_)
 exact fin hr
 refine qg 6 rfl ?_
 refine zk hr rfl qlf (qlB fuel _ _ _) (fun r14 h14 hr => ?_)
 refine st ?_
 refine zi 73 rfl hr (fun _ hr => ?_) (fun _ hr => ?_)
 exact fin hr
 exact fin hr
 refine st ?_
 refine zt 77 rfl hr (fun _ hr => ?_) (fun _ hr => ?_)
 exact fin hr
 refine qg 7 rfl ?_
 refine zt 84 rfl hr (fun _ hr => ?_) (fun _ hr => ?_)
 exact fin hr
 refine qg 2 rfl ?_
 refine zk hr rfl qk0 (qkO _) (fun r18 h18 hr => ?_)
 refine qg 3 rfl ?_
 refine zt 90 rfl hr (fun _ hr => ?_) (fun _ hr => ?_)
 exact fin hr
 refine qg 5 rfl ?_
 refine zt 95 rfl hr (fun _ hr => ?_) (fun _ hr => ?_)
 exact fin hr
 refine st ?_
 refine zi 100 rfl hr (fun _ hr => ?_) (fun _ hr => ?_)
 exact fin hr
 exact fin hr
def qaB (k : List qt → Option (List qt)) (a2 : Int) (a1 : ByteArray) (a0 : qc) : List qt → List qt → Option (List qt)
 | [], o5 =>
 (k o5)
 | q_9 :: rest, o5 =>
 ((zh a0.fc q_9.fy).bind fun q_10 =>
 ((qbS q_10).bind fun r11 =>
 ((zh r11 q_9.fG).bind fun q_12 =>
 (bif (q_12.n.toList == a1.toList) then
 (bif ((q_12.ts.length : Int) == a2) then
 ((zz 24 o5 [q_9]).bind fun l16 =>
 (qaB k a2 a1 a0 rest l16))
 else
 (qaB k a2 a1 a0 rest o5))
 else
 (qaB k a2 a1 a0 rest o5)))))
def qdY (a0 : qc) (a1 : ByteArray) (a2 : Int) : Option (List qt) :=
 ((qc2 a0).bind fun r3 =>
 (qaB (fun o8 =>
 some (o8)) a2 a1 a0 r3 []))
theorem qmq (a0 : qc) (a1 : ByteArray) (a2 : Int) (a : List qt) (hr : qdY a0 a1 a2 = some a) : zg Tryz.prog 110 [qf a0, .str a1, .int .i64 a2] (.lst (a.map qbn)) := by
 unfold qdY at hr
 refine qC Tryz.func110 rfl fun K i j => (qaC (zf 2 4 (rd rfl (qcA rfl rfl rfl) (ew rfl (qL 94 3 (.inl rfl)) ?_))))
 rintro _ _ ⟨u6_0, rfl, rfl⟩
 refine st0 ?_
 refine zf 1 1 (ew rfl (qL 94 3 (.inl rfl)) ?_)
 rintro _ _ ⟨u7_1, rfl, rfl⟩
 refine st ?_
 refine zk hr rfl qif (qim _) (fun r3 h3 hr => ?_)
 refine st ?_
 obtain ⟨c, d, hr⟩ := exK (fun k => qaB k a2 a1 a0 r3 []) hr
 refine qc5 12 rfl (asl rfl) fun e => ?_
 simp only [jd] at e
 refine qz (fun env σ => ∃ (o8 : List qt) (u7 : Value), env = [(7, .own u7 (o8.map qbn))] ∧ σ = [.row u7 o8.length 94 3] ∧ c o8 = some a) ?_ (fun l => ?_)
 rintro _ _ ⟨o8, u7, rfl, rfl, hr⟩
 rw [d] at hr
 refine st ?_
 cases hr
 refine qbg Tryz.func110 _ (.cons (za rfl (Wk.own _ _)) .nil) ?_
 rfl
 refine qbc [1, 2, 3, 8, 7, 9] rfl (qcz [_] _ (pf0 _) (qal (fun n env σ => ∃ (o5 : List qt) (i6 : Nat) (u4 : Value), n = r3.length - i6 ∧ (env = [(1, .str a1), (2, .int .i64 a2), (3, .ptr (qf a0)), (8, .lst (r3.map qbn)), (7, .own u4 (o5.map qbn)), (9, .int .i64 (i6 : Int))]) ∧ (σ = [.row u4 o5.length 94 3]) ∧ (i6 ≤ r3.length) ∧ (qaB c a2 a1 a0 (r3.drop i6) o5 = some a)) _ ⟨[], 0, u7_1, rfl, rfl, rfl, jf _, hr⟩ ?_))
 rintro n _ _ ⟨o5, i6, u4, rfl, rfl, rfl, g, hr⟩ m
 rcases zd r3 i6 g with ⟨h, b, o⟩ | ⟨q_9, h, b, p, q⟩
 rw [b, qaB] at hr
 exact fin hr
 rw [b, qaB] at hr
 refine st ?_
 refine qD (qaC (qea 19 85899345920 ?_))
 refine st ?_
 obtain ⟨q_10, h10, hr⟩ := zb hr
 refine st ?_
 refine zk hr rfl qfe (qfd _) (fun r11 h11 hr => ?_)
 refine st ?_
 obtain ⟨q_12, h12, hr⟩ := zb hr
 refine st ?_
 refine ew rfl (qbi rfl qfQ) ?_
 rintro _ _ ⟨b10_12, rfl, rfl⟩
 refine qcw rfl (pf0 _) (qax (qbR 10 b10_12 rfl (pf0 _) ?_))
 refine st ?_
 refine rd rfl (qgC rfl rfl rfl rfl) (qg 1 rfl ?_)
 refine zt 40 rfl hr (fun _ hr => ?_) (fun _ hr => ?_)
 refine st ?_
 refine zi 46 rfl hr (fun _ hr => ?_) (fun _ hr => ?_)
 refine qfh rfl (zf 8 4096 ?_)
 refine st ?_
 refine rd rfl (qe2 (f := qbn) [.tmp 51] [q_9] rfl qgW rfl rfl od od (.oc rfl .nil) qd8 (fun _ => rfl)) ?_
 obtain ⟨l16, h16, hr⟩ := zb hr
 refine ew rfl (qau (f := qbn) o5 [q_9] rfl qgW rfl rfl (asl rfl) (pf0 _) rfl qd8 h16) ?_
 rintro _ _ ⟨u53_16, rfl, rfl⟩
 exact fin hr
 exact fin hr
 exact fin hr
def qeI (a0 : List Int) (a1 : Int) (a2 : Int) : Option Bool :=
 (bif (decide (a1 < (a0.length : Int))) then
 ((zh a0 a1).bind fun q_2 =>
 some ((q_2 == a2)))
 else
 some (false))
theorem qls (a0 : List Int) (a1 : Int) (a2 : Int) (a : Bool) (hr : qeI a0 a1 a2 = some a) : zg Tryz.prog 138 [.lst (a0.map (D.int .i64)), .int .i64 a1, .int .i64 a2] (.bool a) := by
 unfold qeI at hr
 refine qC Tryz.func138 rfl fun K b c => ?_
 refine st ?_
 refine zt 11 rfl hr (fun _ hr => ?_) (fun _ hr => ?_)
 refine qg 2 rfl ?_
 obtain ⟨q_2, h2, hr⟩ := zb hr
 exact fin hr
 exact fin hr
def qaw (k : List qw → Option (List qw)) (a3 : qn) (k5 : Int) (a2 : qt) : List (List Int) → List qw → Option (List qw)
 | [], o7 =>
 (k o7)
 | q_11 :: rest, o7 =>
 ((qeI q_11 a2.fG a3.fd).bind fun r12 =>
 (bif r12 then
 ((zz 56 o7 [(⟨k5, a3.fd, a3.fq, a2.fy, q_11⟩ : qw)]).bind fun l14 =>
 (qaw k a3 k5 a2 rest l14))
 else
 (qaw k a3 k5 a2 rest o7)))
def qd9 (k : Int → Option (List qw)) (a2 : qt) : Option (List qw) :=
 (bif a2.fI then
 (k 5)
 else
 (k 4))
def qdZ (fuel : Nat) (a0 : qc) (a1 : qd) (a2 : qt) (a3 : qn) : Option (List qw) :=
 ((qcK fuel a0 a1.fj a1.fu [] a1.fC a2.fy).bind fun r3 =>
 (qd9 (fun k5 =>
 (qaw (fun o10 =>
 some (o10)) a3 k5 a2 r3 [])) a2))
theorem qjE (fuel : Nat) (a0 : qc) (a1 : qd) (a2 : qt) (a3 : qn) (a : List qw) (hr : qdZ fuel a0 a1 a2 a3 = some a) : Spec Tryz.prog 111 [qf a0, qW a1, qbn a2, qs a3] [] (fun d σ => ∃ (n_o0 : Value), d = .own n_o0 (a.map qM) ∧ σ = [.row n_o0 a.length 62 5]) := by
 unfold qdZ at hr
 refine qC Tryz.func111 rfl fun K j m => (qaC (zf 5 256 (rd rfl (qcA rfl rfl rfl) (rd rfl (qcA rfl rfl rfl) (rd rfl (qcA rfl rfl rfl) (rd rfl (qcA rfl rfl rfl) (ew rfl (qL 62 5 (.inl rfl)) ?_)))))))
 rintro _ _ ⟨u8_0, rfl, rfl⟩
 refine st0 ?_
 refine zf 1 1 (ew rfl (qL 62 5 (.inl rfl)) ?_)
 rintro _ _ ⟨u9_1, rfl, rfl⟩
 refine st ?_
 obtain ⟨r3, h3, hr⟩ := zb hr
 refine rd rfl (by exact qiv rfl qjO (.oc rfl (.oc rfl (.oc rfl (.cons rfl (Wk.full _) (.oc rfl (.oc rfl .nil)))))) (qjS fuel _ _ _ _ _ _ _ h3)) ?_
 refine qg 1 rfl (qax (qaC (zf 1 0 (qg 1 rfl (qax ?_)))))
 obtain ⟨kkJ0, hkkJ0, hr⟩ := exK (fun k => qd9 k a2) hr
 refine qpt (fun env σ => ∃ (k5 : Int) (u4 : Value), env = [(6, .ptr (qbn a2)), (7, .ptr (qs a3)), (9, .own u4 ([].map qM)), (10, .lst (r3.map (fun (l : List Int) => D.lst (l.map (D.int .i64))))), (11, .int .i64 k5)] ∧ σ = [.row u4 ([] : (List qw)).length 62 5] ∧ kkJ0 k5 = some a) ?_ (fun HKJ0 => ?_)
 rintro _ _ ⟨k5, u4, rfl, rfl, hr⟩
 rw [hkkJ0] at hr
 refine st ?_
 obtain ⟨c, e, hr⟩ := exK (fun k => qaw k a3 k5 a2 r3 []) hr
 refine qc5 10 rfl (asl rfl) fun g => ?_
 simp only [jd] at g
 refine qz (fun env σ => ∃ (o10 : List qw) (u9 : Value), env = [(9, .own u9 (o10.map qM))] ∧ σ = [.row u9 o10.length 62 5] ∧ c o10 = some a) ?_ (fun o => ?_)
 rintro _ _ ⟨o10, u9, rfl, rfl, hr⟩
 rw [e] at hr
 refine st ?_
 cases hr
 refine qiP Tryz.func111 rfl ?_
 exact ⟨u9, rfl, rfl⟩
 refine qbc [6, 7, 10, 11, 9, 12] rfl (qal (fun n env σ => ∃ (o7 : List qw) (i8 : Nat) (u6 : Value), n = r3.length - i8 ∧ (env = [(6, .ptr (qbn a2)), (7, .ptr (qs a3)), (10, .lst (r3.map (fun (l : List Int) => D.lst (l.map (D.int .i64))))), (11, .int .i64 k5), (9, .own u6 (o7.map qM)), (12, .int .i64 (i8 : Int))]) ∧ (σ = [.row u6 o7.length 62 5]) ∧ (i8 ≤ r3.length) ∧ (qaw c a3 k5 a2 (r3.drop i8) o7 = some a)) _ ⟨[], 0, u4, rfl, rfl, rfl, jf _, hr⟩ ?_)
 rintro n _ _ ⟨o7, i8, u6, rfl, rfl, rfl, h, hr⟩ p
 rcases zd r3 i8 h with ⟨i, b, q⟩ | ⟨q_11, i, b, r, s⟩
 rw [b, qaw] at hr
 exact fin hr
 rw [b, qaw] at hr
 refine st ?_
 refine qD (qaC (qea 9 0 ?_))
 refine st ?_
 refine zk hr rfl qlD (qls _ _ _) (fun r12 h12 hr => ?_)
 refine qax ?_
 refine zi 39 rfl hr (fun _ hr => ?_) (fun _ hr => ?_)
 refine qfh rfl (qea 16 268435456 ?_)
 refine st ?_
 refine rd rfl (qbz rfl qfI (.oc rfl (.oc rfl (.oc rfl (.oc rfl (.oc rfl .nil))))) (.cons rfl rfl rfl (.cons rfl rfl rfl (.cons rfl rfl rfl (.cons rfl rfl rfl (.cons rfl rfl rfl (.nil _))))))) (rd rfl (qe2 (f := qM) [.tmp 52] [(⟨k5, a3.fd, a3.fq, a2.fy, q_11⟩ : qw)] rfl qd0 rfl rfl od od (.oc rfl .nil) qcU (fun _ => rfl)) ?_)
 obtain ⟨l14, h14, hr⟩ := zb hr
 refine ew rfl (qau (f := qM) o7 [(⟨k5, a3.fd, a3.fq, a2.fy, q_11⟩ : qw)] rfl qd0 rfl rfl (asl rfl) (pf0 _) rfl qcU h14) ?_
 rintro _ _ ⟨u54_14, rfl, rfl⟩
 exact fin hr
 exact fin hr
 unfold qd9 at hr
 refine st ?_
 refine zi 24 rfl hr (fun _ hr => ?_) (fun _ hr => ?_)
 refine qfh rfl (zf 1 0 (qg 1 rfl (qax (qbc [6, 7, 9, 10, 11] rfl (qcz [_] _ (pf0 _) ?_)))))
 exact HKJ0 _ _ ⟨5, u9_1, rfl, rfl, hr⟩
 refine qf4 rfl (qjK (qbc [6, 7, 9, 10, 11] rfl (qcz [_] _ (pf0 _) ?_)))
 exact HKJ0 _ _ ⟨4, u9_1, rfl, rfl, hr⟩
def qbs (fuel : Nat) (a0 : qc) (a1 : qd) : Option (List qw) :=
 ((qbU fuel a0 a1).bind fun r2 =>
 (bif (!r2) then
 some ([])
 else
 (bif a1.fF then
 some ([])
 else
 (bif ((a1.fb.length : Int) == (0 : Int)) then
 some ([])
 else
 ((zh a1.fb (wr ((a1.fb.length : Int) - (1 : Int)))).bind fun q_9 =>
 (bif (q_9.fd == (0 : Int)) then
 (bif (q_9.fk.op != (0 : Int)) then
 some ([(⟨1, 0, 0, 0, []⟩ : qw)])
 else
 some ([(⟨2, a1.fA, 0, 0, []⟩ : qw)]))
 else
 ((qdm a1.fj q_9.fd).bind fun r13 =>
 (bif (!r13.2) then
 some ([(⟨7, q_9.fd, q_9.fq, 0, []⟩ : qw)])
 else
 (bif (decide (q_9.fq < (0 : Int))) then
 some ([(⟨3, q_9.fd, (-1), 0, []⟩ : qw)])
 else
 ((qdY a0 r13.1.n (r13.1.ts.length : Int)).bind fun r17 =>
 (bif (decide (q_9.fq ≥ (r17.length : Int))) then
 some ([(⟨7, q_9.fd, q_9.fq, 0, []⟩ : qw)])
 else
 ((zh r17 q_9.fq).bind fun q_19 =>
 ((qdZ fuel a0 a1 q_19 q_9).bind fun r20 =>
 (bif ((r20.length : Int) == (0 : Int)) then
 ((zz 56 r20 [(⟨6, q_9.fd, q_9.fq, 0, []⟩ : qw)]).bind fun l23 =>
 some (l23))
 else
 some (r20)))))))))))))))
theorem qhj (fuel : Nat) (a0 : qc) (a1 : qd) (res : List qw) (hr : qbs fuel a0 a1 = some res) : zg Tryz.prog 74 [qf a0, qW a1] (.lst (res.map qM)) := by
 unfold qbs at hr
 refine qC Tryz.func74 rfl fun K hK hF => (qaC (zf 3 16 (rd rfl (qcA rfl rfl rfl) (rd rfl (qcA rfl rfl rfl) (ew rfl (qL 62 5 (.inl rfl)) ?_)))))
 rintro _ _ ⟨u4_0, rfl, rfl⟩
 refine st ?_
 refine zk hr rfl qfY (qf0 fuel _ _) (fun r2 h2 hr => ?_)
 refine qg 2 rfl ?_
 refine zt 14 rfl hr (fun h14_2 hr => ?_) (fun h14_2 hr => ?_)
 refine st0 ?_
 refine zf 1 1 (ew rfl (qL 62 5 (.inl rfl)) ?_)
 rintro _ _ ⟨u4_3, rfl, rfl⟩
 refine qax ?_
 cases hr
 refine qbg Tryz.func74 _ (.cons (za rfl (Wk.own _ _)) .nil) ?_
 rfl
 refine qg 4 rfl ?_
 refine zt 18 rfl hr (fun h18_4 hr => ?_) (fun h18_4 hr => ?_)
 refine st0 ?_
 refine zf 1 1 (ew rfl (qL 62 5 (.inl rfl)) ?_)
 rintro _ _ ⟨u4_5, rfl, rfl⟩
 refine qax ?_
 cases hr
 refine qbg Tryz.func74 _ (.cons (za rfl (Wk.own _ _)) .nil) ?_
 rfl
 refine st ?_
 refine zi 23 rfl hr (fun h23_6 hr => ?_) (fun h23_6 hr => ?_)
 refine st0 ?_
 refine zf 1 1 (ew rfl (qL 62 5 (.inl rfl)) ?_)
 rintro _ _ ⟨u4_7, rfl, rfl⟩
 refine qax ?_
 cases hr
 refine qbg Tryz.func74 _ (.cons (za rfl (Wk.own _ _)) .nil) ?_
 rfl
 refine st0 ?_
 refine zf 10 327680 ?_
 refine st ?_
 refine rd rfl (qe4 rfl rfl rfl rfl) ?_
 obtain ⟨q_9, h9, hr⟩ := zb hr
 refine st ?_
 refine ew rfl (qbi rfl qj4) ?_
 rintro _ _ ⟨b5_9, rfl, rfl⟩
 refine z8 rfl (qgk _ rfl rfl rfl (Wk.refl _) (pf0 _) (by exact qd7) (qae _) (by first | rfl | simp [sz, szs, qdK, qcJ]) rfl) (qax (qbR 5 b5_9 rfl (pf0 _) ?_))
 refine st ?_
 refine zi 34 rfl hr (fun h34_10 hr => ?_) (fun h34_10 hr => ?_)
 refine st ?_
 refine zi 38 rfl hr (fun h38_11 hr => ?_) (fun h38_11 hr => ?_)
 refine st ?_
 refine rd rfl (qbz rfl qfI (.oc rfl .nil) (.cons rfl rfl rfl (.nil _))) (rd rfl (qe2 (f := qM) [.tmp 39] [(⟨1, 0, 0, 0, []⟩ : qw)] rfl qd0 rfl rfl od od (.oc rfl .nil) qcU (fun _ => rfl)) ?_)
 refine st ?_
 cases hr
 refine qbg Tryz.func74 _ (.cons (za rfl (Wk.full _)) .nil) ?_
 rfl
 refine st ?_
 refine rd rfl (qbz rfl qfI (.oc rfl (.oc rfl .nil)) (.cons rfl rfl rfl (.cons rfl rfl rfl (.nil _)))) (rd rfl (qe2 (f := qM) [.tmp 43] [(⟨2, a1.fA, 0, 0, []⟩ : qw)] rfl qd0 rfl rfl od od (.oc rfl .nil) qcU (fun _ => rfl)) ?_)
 refine st ?_
 cases hr
 refine qbg Tryz.func74 _ (.cons (za rfl (Wk.full _)) .nil) ?_
 rfl
 refine st0 ?_
 refine zf 11 327680 (qg 4 rfl ?_)
 refine zk hr rfl qgj (qgi _ _) (fun r13 h13 hr => ?_)
 refine qg 3 rfl (ew rfl (qbi rfl qfQ) ?_)
 rintro _ _ ⟨b6_13, rfl, rfl⟩
 refine qcw rfl (pf0 _) (qg 1 rfl (qax (qbR 6 b6_13 rfl (pf0 _) ?_)))
 refine st ?_
 refine zi 54 rfl hr (fun h54_14 hr => ?_) (fun h54_14 hr => ?_)
 refine st ?_
 refine rd rfl (qbz rfl qfI (.oc rfl (.oc rfl (.oc rfl .nil))) (.cons rfl rfl rfl (.cons rfl rfl rfl (.cons rfl rfl rfl (.nil _))))) (rd rfl (qe2 (f := qM) [.tmp 59] [(⟨7, q_9.fd, q_9.fq, 0, []⟩ : qw)] rfl qd0 rfl rfl od od (.oc rfl .nil) qcU (fun _ => rfl)) ?_)
 refine st ?_
 cases hr
 refine qbg Tryz.func74 _ (.cons (za rfl (Wk.full _)) .nil) ?_
 rfl
 refine st ?_
 refine zi 63 rfl hr (fun h63_15 hr => ?_) (fun h63_15 hr => ?_)
 refine st ?_
 refine rd rfl (qbz rfl qfI (.oc rfl (.oc rfl (.oc rfl .nil))) (.cons rfl rfl rfl (.cons rfl rfl rfl (.cons rfl rfl rfl (.nil _))))) (rd rfl (qe2 (f := qM) [.tmp 66] [(⟨3, q_9.fd, (-1), 0, []⟩ : qw)] rfl qd0 rfl rfl od od (.oc rfl .nil) qcU (fun _ => rfl)) ?_)
 refine st ?_
 cases hr
 refine qbg Tryz.func74 _ (.cons (za rfl (Wk.full _)) .nil) ?_
 rfl
 refine st ?_
 refine zk hr rfl qmg (qmq _ _ _) (fun r17 h17 hr => ?_)
 refine st ?_
 refine zi 79 rfl hr (fun h79_17 hr => ?_) (fun h79_17 hr => ?_)
 refine st ?_
 refine rd rfl (qbz rfl qfI (.oc rfl (.oc rfl (.oc rfl .nil))) (.cons rfl rfl rfl (.cons rfl rfl rfl (.cons rfl rfl rfl (.nil _))))) (rd rfl (qe2 (f := qM) [.tmp 84] [(⟨7, q_9.fd, q_9.fq, 0, []⟩ : qw)] rfl qd0 rfl rfl od od (.oc rfl .nil) qcU (fun _ => rfl)) ?_)
 refine st ?_
 cases hr
 refine qbg Tryz.func74 _ (.cons (za rfl (Wk.full _)) .nil) ?_
 rfl
 refine st ?_
 refine qea 10 65536 (qg 5 rfl ?_)
 obtain ⟨q_19, h19, hr⟩ := zb hr
 refine st ?_
 obtain ⟨r20, h20, hr⟩ := zb hr
 refine ew rfl (qiL _ rfl qkz (.oc rfl (.oc rfl (.oc rfl (.oc rfl .nil)))) (by exact (List.Perm.refl _)) (qjE fuel _ _ _ _ _ h20)) ?_
 rintro _ _ ⟨_, ⟨u94_20, rfl, rfl⟩, rfl⟩
 refine zav ((.row u94_20 r20.length 62 5) :: _) rfl ?_
 refine st ?_
 refine zi 97 rfl hr (fun h97_21 hr => ?_) (fun h97_21 hr => ?_)
 refine qfh rfl (zf 9 16384 (qg 5 rfl (rd rfl (qbz rfl qfI (.oc rfl (.oc rfl (.oc rfl .nil))) (.cons rfl rfl rfl (.cons rfl rfl rfl (.cons rfl rfl rfl (.nil _))))) (rd rfl (qe2 (f := qM) [.tmp 103] [(⟨6, q_9.fd, q_9.fq, 0, []⟩ : qw)] rfl qd0 rfl rfl od od (.oc rfl .nil) qcU (fun _ => rfl)) ?_))))
 obtain ⟨l23, h23, hr⟩ := zb hr
 refine ew rfl (qau (f := qM) r20 [(⟨6, q_9.fd, q_9.fq, 0, []⟩ : qw)] rfl qd0 rfl rfl (asl rfl) (pf0 _) rfl qcU h23) ?_
 rintro _ _ ⟨u105_23, rfl, rfl⟩
 refine st ?_
 cases hr
 refine qbg Tryz.func74 _ (.cons (za rfl (Wk.own _ _)) .nil) ?_
 rfl
 refine st ?_
 cases hr
 refine qbg Tryz.func74 _ (.cons (za rfl (Wk.own _ _)) .nil) ?_
 rfl
def qeL (fuel : Nat) (a0 : qc) (a1 : qd) : Option (qw × Bool) :=
 ((qbs fuel a0 a1).bind fun r2 =>
 (bif ((r2.length : Int) == (0 : Int)) then
 some ((⟨0, 0, 0, 0, []⟩ : qw), false)
 else
 ((zh r2 0).bind fun q_4 =>
 some (q_4, true))))
theorem qli (fuel : Nat) (a0 : qc) (a1 : qd) (res : qw × Bool) (hr : qeL fuel a0 a1 = some res) : zg Tryz.prog 33 [qf a0, qW a1] (.tup [qM res.1, .bool res.2]) := by
 unfold qeL at hr
 refine qC Tryz.func33 rfl fun K hK hF => (qaC (zf 4 16 (rd rfl (qcA rfl rfl rfl) (rd rfl (qcA rfl rfl rfl) (ew rfl (qbi rfl qoa) ?_)))))
 rintro _ _ ⟨b4_0, rfl, rfl⟩
 refine st ?_
 refine zk hr rfl qho (qhj fuel _ _) (fun r2 h2 hr => ?_)
 refine st ?_
 refine zi 12 rfl hr (fun h12_2 hr => ?_) (fun h12_2 hr => ?_)
 refine st0 ?_
 refine zf 3 4 (rd rfl (qbz rfl qfI .nil (.nil _)) (qcw rfl (pf0 _) ?_))
 refine st ?_
 cases hr
 refine qbg Tryz.func33 _ (.cons (zp rfl (.head _) (by exact qmf) rfl (Wk.refl _)) (.cons (za rfl (Wk.refl _)) .nil)) ?_
 rfl
 refine st0 ?_
 refine zf 5 64 (qg 1 rfl ?_)
 obtain ⟨q_4, h4, hr⟩ := zb hr
 refine st ?_
 refine qcw rfl (pf0 _) ?_
 refine st ?_
 cases hr
 refine qbg Tryz.func33 _ (.cons (zp rfl (.head _) (by exact qmf) (qcU _) (Wk.refl _)) (.cons (za rfl (Wk.refl _)) .nil)) ?_
 rfl
def qbd (k : Option Bool) (a1 : qw) : List Int → Nat → Option Bool
 | [], i6 =>
 k
 | q_7 :: rest, i6 =>
 ((zh a1.fD (i6 : Int)).bind fun q_8 =>
 (bif (q_7 != q_8) then
 some (false)
 else
 (qbd k a1 rest (i6 + 1))))
def qdH (a0 : qw) (a1 : qw) : Option Bool :=
 (bif (a0.fa != a1.fa) then
 some (false)
 else
 (bif (a0.fd != a1.fd) then
 some (false)
 else
 (bif (a0.fq != a1.fq) then
 some (false)
 else
 (bif (a0.fJ != a1.fJ) then
 some (false)
 else
 (bif ((a0.fD.length : Int) != (a1.fD.length : Int)) then
 some (false)
 else
 (qbd (some (true)) a1 a0.fD 0))))))
theorem qi2 (a0 : qw) (a1 : qw) (a : Bool) (hr : qdH a0 a1 = some a) : zg Tryz.prog 75 [qM a0, qM a1] (.bool a) := by
 unfold qdH at hr
 refine qC Tryz.func75 rfl fun K i j => ?_
 refine st ?_
 refine rd rfl (qcA rfl rfl rfl) (rd rfl (qcA rfl rfl rfl) ?_)
 refine st ?_
 refine zt 11 rfl hr (fun _ hr => ?_) (fun _ hr => ?_)
 exact fin hr
 refine qg 7 rfl ?_
 refine zt 18 rfl hr (fun _ hr => ?_) (fun _ hr => ?_)
 exact fin hr
 refine qg 7 rfl ?_
 refine zt 25 rfl hr (fun _ hr => ?_) (fun _ hr => ?_)
 exact fin hr
 refine qg 7 rfl ?_
 refine zt 32 rfl hr (fun _ hr => ?_) (fun _ hr => ?_)
 exact fin hr
 refine st ?_
 refine zi 40 rfl hr (fun _ hr => ?_) (fun _ hr => ?_)
 exact fin hr
 refine st ?_
 obtain ⟨c, d, hr⟩ := exK (fun k => qbd k a1 a0.fD 0) hr
 refine qc5 34 rfl (asl rfl) fun e => ?_
 simp only [jd] at e
 refine qz (fun env σ => env = [] ∧ σ = [] ∧ c = some a) ?_ (fun l => ?_)
 rintro _ _ ⟨rfl, rfl, hr⟩
 rw [d] at hr
 exact fin hr
 refine qbc [2, 3, 5] rfl (qal (fun n env σ => ∃ (i6 : Nat), n = a0.fD.length - i6 ∧ (env = [(2, .ptr (qM a0)), (3, .ptr (qM a1)), (5, .int .i64 (i6 : Int))]) ∧ (σ = []) ∧ (i6 ≤ a0.fD.length) ∧ (qbd c a1 (a0.fD.drop i6) i6 = some a)) _ ⟨0, rfl, rfl, rfl, jf _, hr⟩ ?_)
 rintro n _ _ ⟨i6, rfl, rfl, rfl, g, hr⟩ m
 rcases zd a0.fD i6 g with ⟨h, b, o⟩ | ⟨q_7, h, b, p, q⟩
 rw [b, qbd] at hr
 exact fin hr
 rw [b, qbd] at hr
 refine st ?_
 refine qD (qaC (qea 11 0 ?_))
 refine st ?_
 obtain ⟨q_8, h8, hr⟩ := zb hr
 refine st ?_
 refine zi 58 rfl hr (fun _ hr => ?_) (fun _ hr => ?_)
 exact fin hr
 exact fin hr
def qch (k : Option Bool) (a1 : Int) : List Int → Option Bool
 | [] =>
 k
 | q_2 :: rest =>
 (bif (q_2 == a1) then
 some (true)
 else
 (qch k a1 rest))
def qfN (a0 : List Int) (a1 : Int) : Option Bool :=
 (qch (some (false)) a1 a0)
theorem qiE (a0 : List Int) (a1 : Int) (a : Bool) (hr : qfN a0 a1 = some a) : zg Tryz.prog 143 [.lst (a0.map (D.int .i64)), .int .i64 a1] (.bool a) := by
 unfold qfN at hr
 refine qC Tryz.func143 rfl fun K i j => ?_
 refine st ?_
 obtain ⟨c, d, hr⟩ := exK (fun k => qch k a1 a0) hr
 refine qc5 0 rfl (asl rfl) fun e => ?_
 simp only [jd] at e
 refine qz (fun env σ => env = [] ∧ σ = [] ∧ c = some a) ?_ (fun l => ?_)
 rintro _ _ ⟨rfl, rfl, hr⟩
 rw [d] at hr
 exact fin hr
 refine qbc [0, 1, 5] rfl (qal (fun n env σ => ∃ (i1 : Nat), n = a0.length - i1 ∧ (env = [(0, .lst (a0.map (D.int .i64))), (1, .int .i64 a1), (5, .int .i64 (i1 : Int))]) ∧ (σ = []) ∧ (i1 ≤ a0.length) ∧ (qch c a1 (a0.drop i1) = some a)) _ ⟨0, rfl, rfl, rfl, jf _, hr⟩ ?_)
 rintro n _ _ ⟨i1, rfl, rfl, rfl, g, hr⟩ m
 rcases zd a0 i1 g with ⟨h, b, o⟩ | ⟨q_2, h, b, p, q⟩
 rw [b, qch] at hr
 exact fin hr
 rw [b, qch] at hr
 refine st ?_
 refine qD ?_
 refine st ?_
 refine zi 17 rfl hr (fun _ hr => ?_) (fun _ hr => ?_)
 exact fin hr
 exact fin hr
def qbm (k : Int → Option (List Int)) (q_8 : (Int × At)) : List Int → Nat → Option (List Int)
 | [], k19 =>
 (k (k19 : Int))
 | q_31 :: rest, k19 =>
 (bif (decide (q_31 < q_8.1)) then
 (qbm k q_8 rest (k19 + 1))
 else
 (k (k19 : Int)))
def qaW (k : Bool → Option (List Int)) (a1 : List Int) : List Int → Bool → Option (List Int)
 | [], h11 =>
 (k h11)
 | q_33 :: rest, h11 =>
 (bif h11 then
 (qaW k a1 rest true)
 else
 ((qfN a1 q_33).bind fun r35 =>
 (qaW k a1 rest r35)))
def qay (k : List Int → Option (List Int)) (fuel : Nat) (a1 : List Int) : List (Int × At) → List Int → Option (List Int)
 | [], o4 =>
 (k o4)
 | q_8 :: rest, o4 =>
 ((qcx fuel q_8.2).bind fun r9 =>
 (qaW (fun h14 =>
 (bif (!h14) then
 (qay k fuel a1 rest o4)
 else
 ((qfN o4 q_8.1).bind fun r16 =>
 (bif r16 then
 (qay k fuel a1 rest o4)
 else
 (qbm (fun k21 =>
 ((zS o4 0 k21).bind fun l23 =>
 ((zz 8 [] l23).bind fun l24 =>
 ((zz 8 l24 [q_8.1]).bind fun l26 =>
 ((zS o4 k21 (o4.length : Int)).bind fun l28 =>
 ((zz 8 l26 l28).bind fun l29 =>
 (qay k fuel a1 rest l29))))))) q_8 o4 0))))) a1 r9 false))
def qdV (fuel : Nat) (a0 : List (Int × At)) (a1 : List Int) : Option (List Int) :=
 (qay (fun o7 =>
 some (o7)) fuel a1 a0 [])
theorem qjr (fuel : Nat) (a0 : List (Int × At)) (a1 : List Int) (a : List Int) (hr : qdV fuel a0 a1 = some a) : zg Tryz.prog 115 [.lst (a0.map zm), .lst (a1.map (D.int .i64))] (.lst (a.map (D.int .i64))) := by
 unfold qdV at hr
 refine qC Tryz.func115 rfl fun K x y => (qaC (zf 1 1 (ew rfl (qL 3 1 (.inl rfl)) ?_)))
 rintro _ _ ⟨u4_0, rfl, rfl⟩
 refine st0 ?_
 refine zf 1 1 (ew rfl (qL 3 1 (.inl rfl)) ?_)
 rintro _ _ ⟨u5_1, rfl, rfl⟩
 refine st ?_
 obtain ⟨g, j, hr⟩ := exK (fun k => qay k fuel a1 a0 []) hr
 refine qc5 0 rfl (asl rfl) fun l => ?_
 simp only [jd] at l
 refine qz (fun env σ => ∃ (o7 : List Int) (u6 : Value), env = [(5, .own u6 (o7.map (D.int .i64)))] ∧ σ = [.row u6 o7.length 3 1] ∧ g o7 = some a) ?_ (fun z => ?_)
 rintro _ _ ⟨o7, u6, rfl, rfl, hr⟩
 rw [j] at hr
 refine st ?_
 cases hr
 refine qbg Tryz.func115 _ (.cons (za rfl (Wk.own _ _)) .nil) ?_
 rfl
 refine qbc [0, 1, 5, 6] rfl (qcz [_] _ (pf0 _) (qal (fun n env σ => ∃ (o4 : List Int) (i5 : Nat) (u3 : Value), n = a0.length - i5 ∧ (env = [(0, .lst (a0.map zm)), (1, .lst (a1.map (D.int .i64))), (5, .own u3 (o4.map (D.int .i64))), (6, .int .i64 (i5 : Int))]) ∧ (σ = [.row u3 o4.length 3 1]) ∧ (i5 ≤ a0.length) ∧ (qay g fuel a1 (a0.drop i5) o4 = some a)) _ ⟨[], 0, u5_1, rfl, rfl, rfl, jf _, hr⟩ ?_))
 rintro n _ _ ⟨o4, i5, u3, rfl, rfl, rfl, m, hr⟩ o
 rcases zd a0 i5 m with ⟨p, b, A⟩ | ⟨q_8, p, b, B, C⟩
 rw [b, qay] at hr
 exact fin hr
 rw [b, qay] at hr
 refine st ?_
 refine qD ?_
 refine st ?_
 refine zk hr rfl qgN (qgT fuel _) (fun r9 h9 hr => ?_)
 refine st ?_
 obtain ⟨h, q, hr⟩ := exK (fun k => qaW k a1 r9 false) hr
 refine qc5 23 rfl (asl rfl) fun r => ?_
 simp only [jd] at r
 refine qz (fun env σ => ∃ (h14 : Bool) (u13 : Value), env = [(0, .lst (a0.map zm)), (1, .lst (a1.map (D.int .i64))), (5, .own u13 (o4.map (D.int .i64))), (6, .int .i64 (i5 : Int)), (7, .bool h14)] ∧ σ = [.row u13 o4.length 3 1] ∧ h h14 = some a) ?_ (fun E => ?_)
 rintro _ _ ⟨h14, u13, rfl, rfl, hr⟩
 rw [q] at hr
 refine st ?_
 refine zt 41 rfl hr (fun _ hr => ?_) (fun _ hr => ?_)
 exact fin hr
 refine st ?_
 obtain ⟨r16, h16, hr⟩ := zb hr
 refine rd rfl (qiv rfl qiF (.cons rfl (Wk.own _ _) (.oc rfl .nil)) (qiE _ _ _ h16)) ?_
 refine st ?_
 refine zi 49 rfl hr (fun _ hr => ?_) (fun _ hr => ?_)
 exact fin hr
 refine st ?_
 obtain ⟨i, s, hr⟩ := exK (fun k => qbm k q_8 o4 0) hr
 refine qc5 5 rfl (asl rfl) fun t => ?_
 simp only [jd] at t
 refine qz (fun env σ => ∃ (k21 : Int) (u20 : Value), env = [(0, .lst (a0.map zm)), (1, .lst (a1.map (D.int .i64))), (5, .own u20 (o4.map (D.int .i64))), (6, .int .i64 (i5 : Int)), (10, .int .i64 k21)] ∧ σ = [.row u20 o4.length 3 1] ∧ i k21 = some a) ?_ (fun F => ?_)
 rintro _ _ ⟨k21, u20, rfl, rfl, hr⟩
 rw [s] at hr
 refine qaC (zf 1 1 (ew rfl (qL 3 1 (.inl rfl)) ?_))
 rintro _ _ ⟨u11_21, rfl, rfl⟩
 refine st0 ?_
 refine zf 6 256 (qg 3 rfl ?_)
 obtain ⟨l23, h23, hr⟩ := zb hr
 refine rd rfl (qiR (f := (D.int .i64)) o4 0 k21 rfl qcO rfl (asl rfl) qgm (qgq rfl) (fun _ => rfl) h23) ?_
 obtain ⟨l24, h24, hr⟩ := zb hr
 refine ew rfl (qau (f := (D.int .i64)) [] l23 rfl qcO rfl rfl (asl rfl) (pf0 _) rfl (fun _ => rfl) h24) ?_
 rintro _ _ ⟨u72_24, rfl, rfl⟩
 refine st0 ?_
 refine zf 9 16384 ?_
 refine st ?_
 refine rd rfl (qe2 (f := (D.int .i64)) [.tmp 78] [q_8.1] rfl qcO rfl rfl od od (.oc rfl .nil) (fun _ => rfl) (fun _ => rfl)) ?_
 obtain ⟨l26, h26, hr⟩ := zb hr
 refine ew rfl (qau (f := (D.int .i64)) l24 [q_8.1] rfl qcO rfl rfl (asl rfl) (pf0 _) rfl (fun _ => rfl) h26) ?_
 rintro _ _ ⟨u80_26, rfl, rfl⟩
 refine st0 ?_
 refine zf 6 256 (qg 3 rfl ?_)
 obtain ⟨l28, h28, hr⟩ := zb hr
 refine rd rfl (qiR (f := (D.int .i64)) o4 k21 (o4.length : Int) rfl qcO rfl (asl rfl) (qnD rfl) qnX (fun _ => rfl) h28) ?_
 obtain ⟨l29, h29, hr⟩ := zb hr
 refine ew rfl (qau (f := (D.int .i64)) l26 l28 rfl qcO rfl rfl (asl rfl) (pf0 _) rfl (fun _ => rfl) h29) ?_
 rintro _ _ ⟨u85_29, rfl, rfl⟩
 refine qg 1 rfl (qax (qfa (zf 3 0 (qg 1 rfl (qqp rfl (qg 1 rfl (qax (qbc [0, 1, 5, 6] rfl (qcz [_] _ (pf0 _) ?_)))))))))
 exact o _ _ _ oa ⟨l29, (i5 + 1), u85_29, rfl, rfl, rfl, oa, hr⟩
 refine qbc [0, 1, 5, 6, 10] rfl (qal (fun n env σ => ∃ (k19 : Nat) (u18 : Value), n = o4.length - k19 ∧ (env = [(0, .lst (a0.map zm)), (1, .lst (a1.map (D.int .i64))), (5, .own u18 (o4.map (D.int .i64))), (6, .int .i64 (i5 : Int)), (10, .int .i64 (k19 : Int))]) ∧ (σ = [.row u18 o4.length 3 1]) ∧ (k19 ≤ o4.length) ∧ (qbm i q_8 (o4.drop k19) k19 = some a)) _ ⟨0, u13, rfl, rfl, rfl, jf _, hr⟩ ?_)
 rintro n _ _ ⟨k19, u18, rfl, rfl, rfl, u, hr⟩ G
 rcases zd o4 k19 u with ⟨c, d, H⟩ | ⟨q_31, c, d, I, J⟩
 rw [d, qbm] at hr
 refine st ?_
 refine qea 16 0 (qg 2 rfl (qjP rfl (qg 2 rfl (qhW 54 false rfl c ?_))))
 exact fin hr
 rw [d, qbm] at hr
 refine st ?_
 refine qea 16 0 (qg 2 rfl (qjP rfl (qg 2 rfl (qhW 54 true rfl c ?_))))
 refine st ?_
 refine zi 65 rfl hr (fun _ hr => ?_) (fun _ hr => ?_)
 refine st ?_
 refine qD ?_
 exact fin hr
 exact fin hr
 refine qbc [0, 1, 5, 6, 8, 7, 9] rfl (qal (fun n env σ => ∃ (h11 : Bool) (k12 : Nat) (u10 : Value), n = r9.length - k12 ∧ (env = [(0, .lst (a0.map zm)), (1, .lst (a1.map (D.int .i64))), (5, .own u10 (o4.map (D.int .i64))), (6, .int .i64 (i5 : Int)), (8, .lst (r9.map (D.int .i64))), (7, .bool h11), (9, .int .i64 (k12 : Int))]) ∧ (σ = [.row u10 o4.length 3 1]) ∧ (k12 ≤ r9.length) ∧ (qaW h a1 (r9.drop k12) h11 = some a)) _ ⟨false, 0, u3, rfl, rfl, rfl, jf _, hr⟩ ?_)
 rintro n _ _ ⟨h11, k12, u10, rfl, rfl, rfl, v, hr⟩ L
 rcases zd r9 k12 v with ⟨w, e, M⟩ | ⟨q_33, w, e, N, O⟩
 rw [e, qaW] at hr
 exact fin hr
 rw [e, qaW] at hr
 refine st ?_
 refine qD ?_
 refine st ?_
 refine zt 31 rfl hr (fun _ hr => ?_) (fun _ hr => ?_)
 exact fin hr
 refine st ?_
 refine zk hr rfl qiF (qiE _ _) (fun r35 h35 hr => ?_)
 exact fin hr
def qbO (k : List qn → Option (qd × Int)) (r17 : List Int) : Nat → List qn → Option (qd × Int)
 | 0, s19 =>
 (k s19)
 | k24 + 1, s19 =>
 ((zh r17 (k24 : Int)).bind fun q_25 =>
 ((zz 64 s19 [(⟨(⟨0, ⟨#[]⟩, []⟩ : Gl), q_25, (-1)⟩ : qn)]).bind fun l26 =>
 (qbO k r17 k24 l26)))
def qa3 (k : List qn → Option (qd × Int)) (a0 : qd) (fuel : Nat) (r4 : (List (Int × T)) × (List Int) × Int) : Nat → List qn → Int → Option (qd × Int)
 | 0, s10, i11 =>
 (k s10)
 | rest + 1, s10, i11 =>
 ((zh a0.fb i11).bind fun q_29 =>
 (bif (q_29.fd == (0 : Int)) then
 ((qcr fuel r4.1 q_29.fk).bind fun r32 =>
 ((qhY r32).bind fun r33 =>
 (bif (!r33) then
 some ((⟨[], [], [], [], 0, 0, false⟩ : qd), 6)
 else
 ((zz 64 s10 [(⟨r32, q_29.fd, q_29.fq⟩ : qn)]).bind fun l35 =>
 (qa3 k a0 fuel r4 rest l35 (i11 + 1))))))
 else
 ((zz 64 s10 [q_29]).bind fun l37 =>
 (qa3 k a0 fuel r4 rest l37 (i11 + 1)))))
def qew (fuel : Nat) (a0 : qd) : Option (qd × Int) :=
 ((zh a0.fb (wr ((a0.fb.length : Int) - (1 : Int)))).bind fun q_3 =>
 ((qcF fuel a0.fu q_3.fk).bind fun r4 =>
 (bif (r4.2.2 == (6 : Int)) then
 some ((⟨[], [], [], [], 0, 0, false⟩ : qd), 6)
 else
 (bif (r4.2.2 != (0 : Int)) then
 ((zS a0.fb 0 (wr ((a0.fb.length : Int) - (1 : Int)))).bind fun l7 =>
 some ((⟨l7, a0.fj, a0.fu, a0.fC, a0.fA, a0.fz, true⟩ : qd), 0))
 else
 (qa3 (fun s13 =>
 ((qet fuel a0.fj r4.1).bind fun r14 =>
 ((qci r14).bind fun r15 =>
 (bif (!r15) then
 some ((⟨[], [], [], [], 0, 0, false⟩ : qd), 6)
 else
 ((qdV fuel a0.fj r4.2.1).bind fun r17 =>
 ((yS (wr ((r17.length : Int) - (1 : Int)))).bind fun m28 =>
 (qbO (fun s22 =>
 (bif (decide ((s22.length : Int) > (1000 : Int))) then
 some ((⟨[], [], [], [], 0, 0, false⟩ : qd), 6)
 else
 some ((⟨s22, r14, r4.1, a0.fC, a0.fA, a0.fz, a0.fF⟩ : qd), 0))) r17 m28 s13))))))) a0 fuel r4 ((wr ((a0.fb.length : Int) - (1 : Int))) - 0 : Int).toNat [] 0)))))
theorem qkM (fuel : Nat) (a0 : qd) (a : qd × Int) (hr : qew fuel a0 = some a) : zg Tryz.prog 76 [qW a0] (.tup [qW a.1, .int .i64 a.2]) := by
 unfold qew at hr
 refine qC Tryz.func76 rfl fun K p q => (qaC (zf 3 5 (ew rfl (qmx rfl rfl rfl) ?_)))
 rintro _ _ ⟨b1_0, rfl, rfl⟩
 refine ew rfl (qbi rfl qgl) ?_
 rintro _ _ ⟨b2_1, rfl, rfl⟩
 refine st0 ?_
 refine zf 5 8 (rd rfl (qh rfl qT rfl) (qb4 1 rfl (qjP rfl (rd rfl (qe4 rfl rfl rfl rfl) ?_))))
 refine st ?_
 refine qea 16 136 (rd rfl (qh rfl qh0 rfl) (qb4 1 rfl (rd rfl (qh rfl qT rfl) (qb4 1 rfl (qg 1 rfl ?_)))))
 obtain ⟨q_3, h3, hr⟩ := zb hr
 refine st ?_
 refine zk hr rfl qkG (qkH fuel _ _) (fun r4 h4 hr => ?_)
 refine st ?_
 refine zi 32 rfl hr (fun _ hr => ?_) (fun _ hr => ?_)
 refine st0 ?_
 refine zf 3 4 (rd rfl (qbz rfl qc4 .nil (.nil _)) (qcw rfl (pf0 _) ?_))
 refine st ?_
 cases hr
 refine qbg Tryz.func76 _ (.cons (zp rfl (.head _) (by exact qac) rfl (Wk.refl _)) (.cons (za rfl (Wk.refl _)) .nil)) ?_
 rfl
 refine st ?_
 refine zi 35 rfl hr (fun _ hr => ?_) (fun _ hr => ?_)
 refine st0 ?_
 refine zf 6 1032 (rd rfl (qh rfl qT rfl) (qb4 1 rfl (qg 1 rfl ?_)))
 obtain ⟨l7, h7, hr⟩ := zb hr
 refine rd rfl (qiR (f := qs) a0.fb 0 (wr ((a0.fb.length : Int) - (1 : Int))) rfl qbq rfl (asl rfl) qgm (qgq rfl) qae h7) (rd rfl (qh rfl qT rfl) (z8 rfl (qds _ rfl rfl rfl (Wk.refl _) (pf1 _ _ _) rfl rfl (by exact qdv) rfl rfl rfl) ?_))
 refine st0 ?_
 refine zf 2 4 (rd rfl (qh rfl qjq rfl) (z8 rfl (qds _ rfl rfl rfl (Wk.refl _) (pf0 _) rfl rfl (by exact qyg) rfl rfl rfl) ?_))
 refine st0 ?_
 refine zf 3 6 (qb4 0 rfl (qcw rfl (pf1 _ _ _) ?_))
 refine st ?_
 cases hr
 refine qbg Tryz.func76 _ (.cons (zp rfl (.head _) (by exact qac) rfl (Wk.refl _)) (.cons (za rfl (Wk.refl _)) .nil)) ?_
 rfl
 refine st0 ?_
 refine zf 1 1 (ew rfl (qL 90 5 (.inl rfl)) ?_)
 rintro _ _ ⟨u8_7, rfl, rfl⟩
 refine st ?_
 obtain ⟨d, i, hr⟩ := exK (fun k => qa3 k a0 fuel r4 ((wr ((a0.fb.length : Int) - (1 : Int))) - 0 : Int).toNat [] 0) hr
 refine qoW 17 rfl fun s => ?_
 refine qz (fun env σ => ∃ (s13 : List qn) (u12 : Value), env = [(1, .ref b1_0 0 []), (2, .ref b2_1 0 []), (5, .lst (r4.1.map zq)), (6, .lst (r4.2.1.map (D.int .i64))), (8, .own u12 (s13.map qs))] ∧ σ = [.cell b1_0 (qW a0), .cell b2_1 (.agg [.lst ([].map qs), .lst ([].map zm), .lst ([].map zq), .lst ([].map qe), .int .i64 0, .int .i64 0, .bool false]), .row u12 s13.length 90 5] ∧ d s13 = some a) ?_ (fun t => ?_)
 rintro _ _ ⟨s13, u12, rfl, rfl, hr⟩
 rw [i] at hr
 refine qaC (zf 5 8 (rd rfl (qh rfl qeM rfl) (qb4 0 rfl (qg 1 rfl ?_))))
 refine zk hr rfl qky (qkF fuel _ _) (fun r14 h14 hr => ?_)
 refine st ?_
 refine zk hr rfl qga (qf5 _) (fun r15 h15 hr => ?_)
 refine st ?_
 refine zi 76 rfl hr (fun _ hr => ?_) (fun _ hr => ?_)
 refine st0 ?_
 refine zf 3 4 (rd rfl (qbz rfl qc4 .nil (.nil _)) (qcw rfl (pf1 _ _ _) ?_))
 refine st ?_
 cases hr
 refine qbg Tryz.func76 _ (.cons (zp rfl (.head _) (by exact qac) rfl (Wk.refl _)) (.cons (za rfl (Wk.refl _)) .nil)) ?_
 rfl
 refine st0 ?_
 refine zf 5 8 (rd rfl (qh rfl qeM rfl) (qb4 0 rfl (qg 1 rfl ?_)))
 refine zk hr rfl qjy (qjr fuel _ _) (fun r17 h17 hr => ?_)
 refine st ?_
 refine rd rfl (qe4 rfl rfl rfl rfl) ?_
 refine st ?_
 obtain ⟨m28, h28, hr⟩ := zb hr
 have hm_28' := qk7 h28
 obtain ⟨e, j, hr⟩ := exK (fun k => qbO k r17 m28 s13) hr
 refine qz (fun env σ => ∃ (s22 : List qn) (u21 : Value), env = [(1, .ref b1_0 0 []), (2, .ref b2_1 0 []), (5, .lst (r4.1.map zq)), (8, .own u21 (s22.map qs)), (11, .lst (r14.map zm))] ∧ σ = [.cell b1_0 (qW a0), .cell b2_1 (.agg [.lst ([].map qs), .lst ([].map zm), .lst ([].map zq), .lst ([].map qe), .int .i64 0, .int .i64 0, .bool false]), .row u21 s22.length 90 5] ∧ e s22 = some a) ?_ (fun u => ?_)
 rintro _ _ ⟨s22, u21, rfl, rfl, hr⟩
 rw [j] at hr
 refine st ?_
 refine zi 99 rfl hr (fun _ hr => ?_) (fun _ hr => ?_)
 refine st0 ?_
 refine zf 3 4 (rd rfl (qbz rfl qc4 .nil (.nil _)) (qcw rfl (pf1 _ _ _) ?_))
 refine st ?_
 cases hr
 refine qbg Tryz.func76 _ (.cons (zp rfl (.head _) (by exact qac) rfl (Wk.refl _)) (.cons (za rfl (Wk.refl _)) .nil)) ?_
 rfl
 refine st0 ?_
 refine zf 3 16 (qg 1 rfl (rd rfl (qh rfl qT rfl) (z8 rfl (qds _ rfl rfl rfl (Wk.own _ _) (pf0 _) rfl rfl (by exact qdv) rfl rfl rfl) ?_)))
 refine st0 ?_
 refine zf 3 16 (qg 1 rfl (rd rfl (qh rfl qeM rfl) (z8 rfl (qds _ rfl rfl rfl (Wk.refl _) (pf0 _) rfl rfl (by exact qjb) rfl rfl rfl) ?_)))
 refine st0 ?_
 refine zf 3 16 (qg 1 rfl (rd rfl (qh rfl qh0 rfl) (z8 rfl (qds _ rfl rfl rfl (Wk.refl _) (pf0 _) rfl rfl (by exact qn1) rfl rfl rfl) ?_)))
 refine st0 ?_
 refine zf 3 6 (qb4 0 rfl (qcw rfl (pf1 _ _ _) ?_))
 refine st ?_
 cases hr
 refine qbg Tryz.func76 _ (.cons (zp rfl (.head _) (by exact qac) rfl (Wk.refl _)) (.cons (za rfl (Wk.refl _)) .nil)) ?_
 rfl
 refine qqK 13 (d' := .int .i64 ((m28 : Int) - 1)) rfl (congrArg (D.int .i64) hm_28') (qbc [1, 2, 5, 11, 12, 8, 13] rfl (qal (fun n env σ => ∃ (s19 : List qn) (i20 : Nat) (u18 : Value), (i20 = n) ∧ (env = [(1, .ref b1_0 0 []), (2, .ref b2_1 0 []), (5, .lst (r4.1.map zq)), (11, .lst (r14.map zm)), (12, .lst (r17.map (D.int .i64))), (8, .own u18 (s19.map qs)), (13, .int .i64 ((i20 : Int) - 1))]) ∧ (σ = [.cell b1_0 (qW a0), .cell b2_1 (.agg [.lst ([].map qs), .lst ([].map zm), .lst ([].map zq), .lst ([].map qe), .int .i64 0, .int .i64 0, .bool false]), .row u18 s19.length 90 5]) ∧ (qbO e r17 i20 s19 = some a)) _ ⟨s13, m28, u12, rfl, rfl, rfl, hr⟩ ?_))
 rintro n _ _ ⟨s19, i20, u18, rfl, rfl, rfl, hr⟩ l
 refine qoW 13 rfl fun v => ?_
 rcases yT i20 with ⟨b, g⟩ | ⟨k24, b, g⟩
 rw [b, qbO] at hr
 exact fin hr
 rw [b, qbO] at hr
 have g : decide ((k24 : Int) ≥ (0 : Int)) = true := decide_eq_true oa
 refine qqK 13 (d' := .int .i64 (k24 : Int)) rfl (by subst b; congr 1; omega) ?_
 refine st ?_
 refine qD (zf 9 16384 (qg 3 rfl ?_))
 obtain ⟨q_25, h25, hr⟩ := zb hr
 refine st ?_
 refine rd rfl (qbz rfl qiC (.oc rfl (.oc rfl .nil)) (.cons rfl rfl rfl (.cons rfl rfl rfl (.nil _)))) (rd rfl (qe2 (f := qs) [.tmp 94] [(⟨(⟨0, ⟨#[]⟩, []⟩ : Gl), q_25, (-1)⟩ : qn)] rfl qbq rfl rfl od od (.oc rfl .nil) qae (fun _ => rfl)) ?_)
 obtain ⟨l26, h26, hr⟩ := zb hr
 refine ew rfl (qau (f := qs) s19 [(⟨(⟨0, ⟨#[]⟩, []⟩ : Gl), q_25, (-1)⟩ : qn)] rfl qbq rfl rfl (asl rfl) (pf2 _ _ _ _) rfl qae h26) ?_
 rintro _ _ ⟨u96_26, rfl, rfl⟩
 refine st ?_
 refine rd rfl (zbq (r := (k24 : Int) - 1) rfl rfl rfl rfl oa) (qg 1 rfl (qax (qbc [1, 2, 5, 11, 12, 8, 13] rfl (qcz [_, _, _] _ (pS [0, 2, 2] _) ?_))))
 exact l _ _ _ oa ⟨l26, k24, u96_26, rfl, rfl, rfl, hr⟩
 refine qbc [1, 2, 4, 5, 6, 8, 9] rfl (qcz [_, _, _] _ (pS [0, 1, 2] _) (qal (fun n env σ => ∃ (s10 : List qn) (i11 : Int) (u9 : Value) (m0 : Nat), (m0 = n) ∧ (env = [(1, .ref b1_0 0 []), (2, .ref b2_1 0 []), (4, .int .i64 (wr ((a0.fb.length : Int) - (1 : Int)))), (5, .lst (r4.1.map zq)), (6, .lst (r4.2.1.map (D.int .i64))), (8, .own u9 (s10.map qs)), (9, .int .i64 i11)]) ∧ (σ = [.cell b1_0 (qW a0), .cell b2_1 (.agg [.lst ([].map qs), .lst ([].map zm), .lst ([].map zq), .lst ([].map qe), .int .i64 0, .int .i64 0, .bool false]), .row u9 s10.length 90 5]) ∧ (m0 = ((wr ((a0.fb.length : Int) - (1 : Int))) - i11 : Int).toNat) ∧ (qa3 d a0 fuel r4 m0 s10 i11 = some a)) _ ⟨[], 0, u8_7, _, rfl, rfl, rfl, rfl, hr⟩ ?_))
 rintro n _ _ ⟨s10, i11, u9, m0, rfl, rfl, rfl, m, hr⟩ h
 refine qoW 9 rfl fun w => ?_
 rcases zaU i11 (wr ((a0.fb.length : Int) - (1 : Int))) m0 m with ⟨c, o⟩ | ⟨m0', c, o, hi0', x⟩
 rw [c, qa3] at hr
 exact fin hr
 rw [c, qa3] at hr
 refine st ?_
 refine qD (qaC (zf 7 5128 (rd rfl (qh rfl qT rfl) (qb4 0 rfl (qg 1 rfl ?_)))))
 obtain ⟨q_29, h29, hr⟩ := zb hr
 refine st ?_
 refine ew rfl (qbi rfl qj4) ?_
 rintro _ _ ⟨b10_29, rfl, rfl⟩
 refine z8 rfl (qgk _ rfl rfl rfl (Wk.refl _) (pf0 _) (by exact qd7) (qae _) (by first | rfl | simp [sz, szs, qdK, qcJ]) rfl) ?_
 refine st0 ?_
 refine zf 3 8 (rd rfl (qh rfl qmK rfl) (er rfl (qd6 rfl rfl (.head _) rfl (by first | rfl | simp [yv, szs, sz, qdK, qen, qcJ]) (by exact qfp) rfl) ?_))
 refine st ?_
 refine zi 55 rfl hr (fun _ hr => ?_) (fun _ hr => ?_)
 refine st0 ?_
 refine zf 6 1056 (qg 1 rfl (rd rfl (qh rfl qgy rfl) (er rfl (qd6 rfl rfl (.head _) rfl (by first | rfl | simp [yv, szs, sz, qdK, qen, qcJ]) (by exact qit) (qcJ _)) ?_)))
 refine zk hr rfl qfn (qfk fuel _ _) (fun r32 h32 hr => ?_)
 refine rd rfl (qh rfl qgy rfl) (z8 rfl (qds _ rfl rfl rfl (Wk.refl _) (pf0 _) rfl (by first | rfl | simp [yv, szs, sz, qdK, qen, qcJ]) (by exact qit) (qcJ _) (qcJ _) rfl) ?_)
 refine st0 ?_
 refine zf 4 8 (rd rfl (qh rfl qgy rfl) (er rfl (qd6 rfl rfl (.head _) rfl (by first | rfl | simp [yv, szs, sz, qdK, qen, qcJ]) (by exact qit) (qcJ _)) ?_))
 obtain ⟨r33, h33, hr⟩ := zb hr
 refine qem rfl qco (qcm _ _ h33) ?_
 refine st ?_
 refine zi 64 rfl hr (fun _ hr => ?_) (fun _ hr => ?_)
 refine st0 ?_
 refine zf 3 4 (rd rfl (qbz rfl qc4 .nil (.nil _)) (qcw rfl (pf2 _ _ _ _) ?_))
 refine st ?_
 cases hr
 refine qbg Tryz.func76 _ (.cons (zp rfl (.head _) (by exact qac) rfl (Wk.refl _)) (.cons (za rfl (Wk.refl _)) .nil)) ?_
 rfl
 refine st0 ?_
 refine zf 5 72 (qg 1 rfl (er rfl (qd6 rfl rfl (.head _) rfl rfl (by exact qd7) (by first | rfl | simp [sz, szs, qdK, qcJ])) (rd rfl (qe2 (f := qs) [.tmp 67] [(⟨r32, q_29.fd, q_29.fq⟩ : qn)] rfl qbq rfl rfl od od (.oc rfl .nil) qae (fun _ => rfl)) ?_)))
 obtain ⟨l35, h35, hr⟩ := zb hr
 refine ew rfl (qau (f := qs) s10 [(⟨r32, q_29.fd, q_29.fq⟩ : qn)] rfl qbq rfl rfl (asl rfl) (pf3 _ _ _ _ _) rfl qae h35) ?_
 rintro _ _ ⟨u69_35, rfl, rfl⟩
 refine st ?_
 refine rd rfl (zbq (r := i11 + 1) rfl rfl rfl rfl (by have := qwl ((a0.fb.length : Int) - 1); omega)) (qg 1 rfl (qax (qbc [1, 2, 4, 5, 6, 8, 9] rfl (qcz [_, _, _] _ (pS [0, 3, 3] _) ?_))))
 exact h _ _ _ oa ⟨l35, (i11 + 1), u69_35, _, rfl, rfl, rfl, hi0', hr⟩
 refine st0 ?_
 refine zf 5 72 (qg 1 rfl (qb4 0 rfl (rd rfl (qe2 (f := qs) [.tmp 67] [q_29] rfl qbq rfl rfl od od (.oc rfl .nil) qae (fun _ => rfl)) ?_)))
 obtain ⟨l37, h37, hr⟩ := zb hr
 refine ew rfl (qau (f := qs) s10 [q_29] rfl qbq rfl rfl (asl rfl) (pf3 _ _ _ _ _) rfl qae h37) ?_
 rintro _ _ ⟨u69_37, rfl, rfl⟩
 refine st ?_
 refine rd rfl (zbq (r := i11 + 1) rfl rfl rfl rfl (by have := qwl ((a0.fb.length : Int) - 1); omega)) (qg 1 rfl (qax (qbc [1, 2, 4, 5, 6, 8, 9] rfl (qcz [_, _, _] _ (pS [0, 3, 3] _) ?_))))
 exact h _ _ _ oa ⟨l37, (i11 + 1), u69_37, _, rfl, rfl, rfl, hi0', hr⟩
def qaR (a0 : List qn) (a1 : qn) : Option (List qn) :=
 ((zz 64 [] a0).bind fun l3 =>
 ((zz 64 l3 [a1]).bind fun l5 =>
 some (l5)))
theorem qb7 (a0 : List qn) (a1 : qn) (res : List qn) (hr : qaR a0 a1 = some res) : zg Tryz.prog 79 [.lst (a0.map qs), qs a1] (.lst (res.map qs)) := by
 unfold qaR at hr
 refine qC Tryz.func79 rfl fun K hK hF => (qaC (zf 2 4 (rd rfl (qcA rfl rfl rfl) (ew rfl (qL 90 5 (.inl rfl)) ?_))))
 rintro _ _ ⟨u4_0, rfl, rfl⟩
 refine st0 ?_
 refine zf 1 1 (ew rfl (qL 90 5 (.inl rfl)) ?_)
 rintro _ _ ⟨u5_1, rfl, rfl⟩
 refine st0 ?_
 refine zf 4 16 (qg 2 rfl ?_)
 obtain ⟨l3, h3, hr⟩ := zb hr
 refine ew rfl (qau (f := qs) [] a0 rfl qbq rfl rfl (asl rfl) (pf0 _) rfl qae h3) ?_
 rintro _ _ ⟨u8_3, rfl, rfl⟩
 refine st0 ?_
 refine zf 5 64 (qg 2 rfl (rd rfl (qe2 (f := qs) [.tmp 10] [a1] rfl qbq rfl rfl od od (.oc rfl .nil) qae (fun _ => rfl)) ?_))
 obtain ⟨l5, h5, hr⟩ := zb hr
 refine ew rfl (qau (f := qs) l3 [a1] rfl qbq rfl rfl (asl rfl) (pf0 _) rfl qae h5) ?_
 rintro _ _ ⟨u12_5, rfl, rfl⟩
 refine st ?_
 cases hr
 refine qbg Tryz.func79 _ (.cons (za rfl (Wk.own _ _)) .nil) ?_
 rfl
def qbt (k : List qn → Option (qd × Int)) (r4 : (List (Int × At)) × (List qi) × (List Gl) × Int) : Nat → List qn → Option (qd × Int)
 | 0, s7 =>
 (k s7)
 | k12 + 1, s7 =>
 ((zh r4.2.2.1 (k12 : Int)).bind fun q_13 =>
 ((qaR s7 (⟨q_13, 0, 0⟩ : qn)).bind fun r14 =>
 (qbt k r4 k12 r14)))
def qeF (k : List qn → Option (qd × Int)) (a1 : qd) (a2 : qw) : Option (qd × Int) :=
 (bif (a2.fa == (4 : Int)) then
 ((zS a1.fb 0 (wr ((a1.fb.length : Int) - (1 : Int)))).bind fun l17 =>
 (k l17))
 else
 (k a1.fb))
def qdT (fuel : Nat) (a0 : qc) (a1 : qd) (a2 : qw) : Option (qd × Int) :=
 ((q7 fuel a0 a1.fj a1.fu [] a1.fC a2.fJ a2.fD).bind fun r3 =>
 ((qck fuel a0 a1.fj a1.fC r3.1 a1.fz a2.fJ a2.fD).bind fun r4 =>
 (bif (r4.2.2.2 != (0 : Int)) then
 some ((⟨[], [], [], [], 0, 0, false⟩ : qd), r4.2.2.2)
 else
 (qeF (fun s6 =>
 ((yS (wr ((r4.2.2.1.length : Int) - (1 : Int)))).bind fun m15 =>
 (qbt (fun s9 =>
 (bif (decide ((s9.length : Int) > (1000 : Int))) then
 some ((⟨[], [], [], [], 0, 0, false⟩ : qd), 6)
 else
 ((zh a0.fc a2.fJ).bind fun q_11 =>
 some ((⟨s9, r4.1, a1.fu, r4.2.1, a1.fA, (wr (a1.fz + q_11.fL)), a1.fF⟩ : qd), 0)))) r4 m15 s6))) a1 a2))))
theorem qhO (fuel : Nat) (a0 : qc) (a1 : qd) (a2 : qw) (a : qd × Int) (hr : qdT fuel a0 a1 a2 = some a) : zg Tryz.prog 77 [qf a0, qW a1, qM a2] (.tup [qW a.1, .int .i64 a.2]) := by
 unfold qdT at hr
 refine qC Tryz.func77 rfl fun K g h => (qaC (zf 5 68 (rd rfl (qcA rfl rfl rfl) (ew rfl (qmx rfl rfl rfl) ?_))))
 rintro _ _ ⟨b4_0, rfl, rfl⟩
 refine rd rfl (qcA rfl rfl rfl) (ew rfl (qbi rfl qgl) ?_)
 rintro _ _ ⟨b6_1, rfl, rfl⟩
 refine st0 ?_
 refine zf 17 8736 (qg 1 rfl (rd rfl (qh rfl qeM rfl) (qb4 1 rfl (rd rfl (qh rfl qh0 rfl) (qb4 1 rfl (rd rfl (qh rfl qh3 rfl) (qb4 1 rfl (qg 4 rfl ?_))))))))
 obtain ⟨r3, h3, hr⟩ := zb hr
 refine rd rfl (by exact qiv rfl qig (.oc rfl (.oc rfl (.oc rfl (.cons rfl (Wk.full _) (.oc rfl (.oc rfl (.oc rfl .nil))))))) (qip fuel _ _ _ _ _ _ _ _ h3)) ?_
 refine st0 ?_
 refine zf 22 33312 (qg 1 rfl (rd rfl (qh rfl qeM rfl) (qb4 1 rfl (rd rfl (qh rfl qh3 rfl) (qb4 1 rfl (qg 1 rfl (rd rfl (qh rfl qh1 rfl) (qb4 1 rfl (qg 4 rfl ?_)))))))))
 refine zk hr rfl qjQ (qjZ fuel _ _ _ _ _ _ _) (fun r4 h4 hr => ?_)
 refine st ?_
 refine zi 50 rfl hr (fun _ hr => ?_) (fun _ hr => ?_)
 refine st0 ?_
 refine zf 4 16 (rd rfl (qbz rfl qc4 .nil (.nil _)) (qg 1 rfl (qcw rfl (pf0 _) ?_)))
 refine st ?_
 cases hr
 refine qbg Tryz.func77 _ (.cons (zp rfl (.head _) (by exact qac) rfl (Wk.refl _)) (.cons (za rfl (Wk.refl _)) .nil)) ?_
 rfl
 refine st0 ?_
 refine zf 3 8 (rd rfl (qh rfl qT rfl) (qb4 1 rfl (qg 1 rfl (qax ?_))))
 obtain ⟨kkJ0, hkkJ0, hr⟩ := exK (fun k => qeF k a1 a2) hr
 refine qpt (fun env σ => ∃ (s6 : List qn), env = [(3, .ptr (qf a0)), (4, .ref b4_0 0 []), (5, .ptr (qM a2)), (6, .ref b6_1 0 []), (10, .lst (r4.1.map zm)), (11, .lst (r4.2.1.map qe)), (12, .lst (r4.2.2.1.map zB)), (14, .lst (s6.map qs))] ∧ σ = [.cell b4_0 (qW a1), .cell b6_1 (.agg [.lst ([].map qs), .lst ([].map zm), .lst ([].map zq), .lst ([].map qe), .int .i64 0, .int .i64 0, .bool false])] ∧ kkJ0 s6 = some a) ?_ (fun HKJ0 => ?_)
 rintro _ _ ⟨s6, rfl, rfl, hr⟩
 rw [hkkJ0] at hr
 refine st ?_
 refine rd rfl (qe4 rfl rfl rfl rfl) ?_
 refine st ?_
 obtain ⟨m15, h15, hr⟩ := zb hr
 have hm_15' := qk7 h15
 obtain ⟨c, e, hr⟩ := exK (fun k => qbt k r4 m15 s6) hr
 refine qz (fun env σ => ∃ (s9 : List qn), env = [(3, .ptr (qf a0)), (4, .ref b4_0 0 []), (5, .ptr (qM a2)), (6, .ref b6_1 0 []), (10, .lst (r4.1.map zm)), (11, .lst (r4.2.1.map qe)), (14, .lst (s9.map qs))] ∧ σ = [.cell b4_0 (qW a1), .cell b6_1 (.agg [.lst ([].map qs), .lst ([].map zm), .lst ([].map zq), .lst ([].map qe), .int .i64 0, .int .i64 0, .bool false])] ∧ c s9 = some a) ?_ (fun i => ?_)
 rintro _ _ ⟨s9, rfl, rfl, hr⟩
 rw [e] at hr
 refine st ?_
 refine zi 79 rfl hr (fun _ hr => ?_) (fun _ hr => ?_)
 refine st0 ?_
 refine zf 3 4 (rd rfl (qbz rfl qc4 .nil (.nil _)) (qcw rfl (pf1 _ _ _) ?_))
 refine st ?_
 cases hr
 refine qbg Tryz.func77 _ (.cons (zp rfl (.head _) (by exact qac) rfl (Wk.refl _)) (.cons (za rfl (Wk.refl _)) .nil)) ?_
 rfl
 refine st0 ?_
 refine zf 3 16 (qg 1 rfl (rd rfl (qh rfl qT rfl) (z8 rfl (qds _ rfl rfl rfl (Wk.refl _) (pf0 _) rfl rfl (by exact qdv) rfl rfl rfl) ?_)))
 refine st0 ?_
 refine zf 3 16 (qg 1 rfl (rd rfl (qh rfl qeM rfl) (z8 rfl (qds _ rfl rfl rfl (Wk.refl _) (pf0 _) rfl rfl (by exact qjb) rfl rfl rfl) ?_)))
 refine st0 ?_
 refine zf 3 16 (qg 1 rfl (rd rfl (qh rfl qh3 rfl) (z8 rfl (qds _ rfl rfl rfl (Wk.refl _) (pf0 _) rfl rfl (by exact qnn) rfl rfl rfl) ?_)))
 refine st ?_
 refine qea 12 4194312 (rd rfl (qh rfl qh1 rfl) (qb4 0 rfl (qg 4 rfl ?_)))
 obtain ⟨q_11, h11, hr⟩ := zb hr
 refine st ?_
 refine rd rfl (qe4 rfl rfl rfl rfl) (rd rfl (qh rfl qh1 rfl) (z8 rfl (qds _ rfl rfl rfl (Wk.refl _) (pf0 _) rfl rfl (by exact qfp) rfl rfl rfl) ?_))
 refine st0 ?_
 refine zf 3 6 (qb4 0 rfl (qcw rfl (pf1 _ _ _) ?_))
 refine st ?_
 cases hr
 refine qbg Tryz.func77 _ (.cons (zp rfl (.head _) (by exact qac) rfl (Wk.refl _)) (.cons (za rfl (Wk.refl _)) .nil)) ?_
 rfl
 refine qqK 15 (d' := .int .i64 ((m15 : Int) - 1)) rfl (congrArg (D.int .i64) hm_15') (qbc [3, 4, 5, 6, 10, 11, 12, 14, 15] rfl (qal (fun n env σ => ∃ (s7 : List qn) (i8 : Nat), (i8 = n) ∧ (env = [(3, .ptr (qf a0)), (4, .ref b4_0 0 []), (5, .ptr (qM a2)), (6, .ref b6_1 0 []), (10, .lst (r4.1.map zm)), (11, .lst (r4.2.1.map qe)), (12, .lst (r4.2.2.1.map zB)), (14, .lst (s7.map qs)), (15, .int .i64 ((i8 : Int) - 1))]) ∧ (σ = [.cell b4_0 (qW a1), .cell b6_1 (.agg [.lst ([].map qs), .lst ([].map zm), .lst ([].map zq), .lst ([].map qe), .int .i64 0, .int .i64 0, .bool false])]) ∧ (qbt c r4 i8 s7 = some a)) _ ⟨s6, m15, rfl, rfl, rfl, hr⟩ ?_))
 rintro n _ _ ⟨s7, i8, rfl, rfl, rfl, hr⟩ j
 refine qoW 15 rfl fun l => ?_
 rcases yT i8 with ⟨b, d⟩ | ⟨k12, b, d⟩
 rw [b, qbt] at hr
 exact fin hr
 rw [b, qbt] at hr
 have d : decide ((k12 : Int) ≥ (0 : Int)) = true := decide_eq_true oa
 refine qqK 15 (d' := .int .i64 (k12 : Int)) rfl (by subst b; congr 1; omega) ?_
 refine st ?_
 refine qD ?_
 refine st ?_
 obtain ⟨q_13, h13, hr⟩ := zb hr
 refine st ?_
 refine rd rfl (qbz rfl qiC (.oc rfl .nil) (.cons rfl (qcJ _) rfl (.nil _))) ?_
 refine zk hr rfl qcb (qb7 _ _) (fun r14 h14 hr => ?_)
 refine st ?_
 refine rd rfl (zbq (r := (k12 : Int) - 1) rfl rfl rfl rfl oa) ?_
 exact fin hr
 unfold qeF at hr
 refine st ?_
 refine zi 57 rfl hr (fun _ hr => ?_) (fun _ hr => ?_)
 refine st ?_
 refine rd rfl (qe4 rfl rfl rfl rfl) ?_
 obtain ⟨l17, h17, hr⟩ := zb hr
 refine rd rfl (qiR (f := qs) a1.fb 0 (wr ((a1.fb.length : Int) - (1 : Int))) rfl qbq rfl (asl rfl) qgm (qgq rfl) qae h17) (qg 1 rfl (qax (qbc [3, 4, 5, 6, 10, 11, 12, 14] rfl (qcz [_, _] _ (pS [0, 1] _) ?_))))
 exact HKJ0 _ _ ⟨l17, rfl, rfl, hr⟩
 refine qf4 rfl (qjK (qbc [3, 4, 5, 6, 10, 11, 12, 14] rfl (qcz [_, _] _ (pS [0, 1] _) ?_)))
 exact HKJ0 _ _ ⟨a1.fb, rfl, rfl, hr⟩
def qbC (k : Bool → Option (qd × Int)) (a2 : qw) : List qw → Bool → Option (qd × Int)
 | [], f8 =>
 (k f8)
 | q_48 :: rest, f8 =>
 ((qdH q_48 a2).bind fun r49 =>
 (bif r49 then
 (qbC k a2 rest true)
 else
 (qbC k a2 rest f8)))
def qe6 (fuel : Nat) (a0 : qc) (a1 : qd) (a2 : qw) : Option (qd × Int) :=
 ((qbU fuel a0 a1).bind fun r3 =>
 (bif (!r3) then
 some ((⟨[], [], [], [], 0, 0, false⟩ : qd), 2)
 else
 (bif a1.fF then
 some ((⟨[], [], [], [], 0, 0, false⟩ : qd), 14)
 else
 (bif ((a1.fb.length : Int) == (0 : Int)) then
 some ((⟨[], [], [], [], 0, 0, false⟩ : qd), 14)
 else
 ((qbs fuel a0 a1).bind fun r7 =>
 (qbC (fun f10 =>
 (bif (!f10) then
 some ((⟨[], [], [], [], 0, 0, false⟩ : qd), 18)
 else
 ((zh a1.fb (wr ((a1.fb.length : Int) - (1 : Int)))).bind fun q_12 =>
 (bif (a2.fa == (1 : Int)) then
 ((qew fuel a1).bind fun r15 =>
 some (r15.1, r15.2))
 else
 (bif (a2.fa == (4 : Int)) then
 ((qdT fuel a0 a1 a2).bind fun r17 =>
 some (r17.1, r17.2))
 else
 (bif (a2.fa == (5 : Int)) then
 ((qdT fuel a0 a1 a2).bind fun r19 =>
 some (r19.1, r19.2))
 else
 (bif (a2.fa == (7 : Int)) then
 ((zS a1.fb 0 (wr ((a1.fb.length : Int) - (1 : Int)))).bind fun l21 =>
 some ((⟨l21, a1.fj, a1.fu, a1.fC, a1.fA, a1.fz, a1.fF⟩ : qd), 0))
 else
 (bif (a2.fa == (2 : Int)) then
 ((qc3 a1.fj (a1.fA, (⟨q_12.fk.n, q_12.fk.ts⟩ : At))).bind fun r23 =>
 (bif (r23.2 != (0 : Int)) then
 some ((⟨[], [], [], [], 0, 0, false⟩ : qd), 6)
 else
 (bif (a1.fA == (2147483648 : Int)) then
 some ((⟨[], [], [], [], 0, 0, false⟩ : qd), 6)
 else
 (bif (a2.fa == (3 : Int)) then
 (bif (a2.fa == (6 : Int)) then
 ((zS a1.fb 0 (wr ((a1.fb.length : Int) - (1 : Int)))).bind fun l28 =>
 ((qaR l28 (⟨(⟨0, ⟨#[]⟩, []⟩ : Gl), a2.fd, (wr ((0 : Int) + (1 : Int)))⟩ : qn)).bind fun r29 =>
 some ((⟨r29, r23.1, a1.fu, a1.fC, (wr (a1.fA + (1 : Int))), a1.fz, a1.fF⟩ : qd), 0)))
 else
 ((zS a1.fb 0 (wr ((a1.fb.length : Int) - (1 : Int)))).bind fun l30 =>
 ((qaR l30 (⟨(⟨0, ⟨#[]⟩, []⟩ : Gl), a2.fd, 0⟩ : qn)).bind fun r31 =>
 some ((⟨r31, r23.1, a1.fu, a1.fC, (wr (a1.fA + (1 : Int))), a1.fz, a1.fF⟩ : qd), 0))))
 else
 (bif (a2.fa == (6 : Int)) then
 ((zS a1.fb 0 (wr ((a1.fb.length : Int) - (1 : Int)))).bind fun l33 =>
 ((qaR l33 (⟨(⟨0, ⟨#[]⟩, []⟩ : Gl), a2.fd, (wr ((0 : Int) + (1 : Int)))⟩ : qn)).bind fun r34 =>
 some ((⟨r34, r23.1, a1.fu, a1.fC, (wr (a1.fA + (1 : Int))), a1.fz, a1.fF⟩ : qd), 0)))
 else
 ((zS a1.fb 0 (wr ((a1.fb.length : Int) - (1 : Int)))).bind fun l35 =>
 ((qaR l35 (⟨(⟨0, ⟨#[]⟩, []⟩ : Gl), a2.fd, 0⟩ : qn)).bind fun r36 =>
 some ((⟨r36, r23.1, a1.fu, a1.fC, (wr (a1.fA + (1 : Int))), a1.fz, a1.fF⟩ : qd), 0))))))))
 else
 (bif (a2.fa == (3 : Int)) then
 (bif (a2.fa == (6 : Int)) then
 ((zS a1.fb 0 (wr ((a1.fb.length : Int) - (1 : Int)))).bind fun l39 =>
 ((qaR l39 (⟨q_12.fk, q_12.fd, (wr ((0 : Int) + (1 : Int)))⟩ : qn)).bind fun r40 =>
 some ((⟨r40, a1.fj, a1.fu, a1.fC, a1.fA, a1.fz, a1.fF⟩ : qd), 0)))
 else
 ((zS a1.fb 0 (wr ((a1.fb.length : Int) - (1 : Int)))).bind fun l41 =>
 ((qaR l41 (⟨q_12.fk, q_12.fd, 0⟩ : qn)).bind fun r42 =>
 some ((⟨r42, a1.fj, a1.fu, a1.fC, a1.fA, a1.fz, a1.fF⟩ : qd), 0))))
 else
 (bif (a2.fa == (6 : Int)) then
 ((zS a1.fb 0 (wr ((a1.fb.length : Int) - (1 : Int)))).bind fun l44 =>
 ((qaR l44 (⟨q_12.fk, q_12.fd, (wr (q_12.fq + (1 : Int)))⟩ : qn)).bind fun r45 =>
 some ((⟨r45, a1.fj, a1.fu, a1.fC, a1.fA, a1.fz, a1.fF⟩ : qd), 0)))
 else
 ((zS a1.fb 0 (wr ((a1.fb.length : Int) - (1 : Int)))).bind fun l46 =>
 ((qaR l46 q_12).bind fun r47 =>
 some ((⟨r47, a1.fj, a1.fu, a1.fC, a1.fA, a1.fz, a1.fF⟩ : qd), 0))))))))))))) a2 r7 false))))))
theorem qmp (fuel : Nat) (a0 : qc) (a1 : qd) (a2 : qw) (a : qd × Int) (hr : qe6 fuel a0 a1 a2 = some a) : zg Tryz.prog 34 [qf a0, qW a1, qM a2] (.tup [qW a.1, .int .i64 a.2]) := by
 unfold qe6 at hr
 refine qC Tryz.func34 rfl fun K i j => (qaC (zf 5 68 (rd rfl (qcA rfl rfl rfl) (ew rfl (qmx rfl rfl rfl) ?_))))
 rintro _ _ ⟨b4_0, rfl, rfl⟩
 refine rd rfl (qcA rfl rfl rfl) (ew rfl (qbi rfl qgl) ?_)
 rintro _ _ ⟨b6_1, rfl, rfl⟩
 refine st0 ?_
 refine zf 4 8 (qg 1 rfl (qb4 1 rfl ?_))
 refine zk hr rfl qfY (qf0 fuel _ _) (fun r3 h3 hr => ?_)
 refine st ?_
 refine zi 18 rfl hr (fun _ hr => ?_) (fun _ hr => ?_)
 refine st0 ?_
 refine zf 3 4 (rd rfl (qbz rfl qc4 .nil (.nil _)) (qcw rfl (pf0 _) ?_))
 refine st ?_
 cases hr
 refine qbg Tryz.func34 _ (.cons (zp rfl (.head _) (by exact qac) rfl (Wk.refl _)) (.cons (za rfl (Wk.refl _)) .nil)) ?_
 rfl
 refine st0 ?_
 refine zf 8 520 (rd rfl (qh rfl qjq rfl) (qb4 1 rfl (qg 1 rfl ?_)))
 refine zt 22 rfl hr (fun _ hr => ?_) (fun _ hr => ?_)
 refine st0 ?_
 refine zf 3 4 (rd rfl (qbz rfl qc4 .nil (.nil _)) (qcw rfl (pf0 _) ?_))
 refine st ?_
 cases hr
 refine qbg Tryz.func34 _ (.cons (zp rfl (.head _) (by exact qac) rfl (Wk.refl _)) (.cons (za rfl (Wk.refl _)) .nil)) ?_
 rfl
 refine rd rfl (qh rfl qT rfl) (qb4 1 rfl ?_)
 refine st ?_
 refine zi 27 rfl hr (fun _ hr => ?_) (fun _ hr => ?_)
 refine st0 ?_
 refine zf 3 4 (rd rfl (qbz rfl qc4 .nil (.nil _)) (qcw rfl (pf0 _) ?_))
 refine st ?_
 cases hr
 refine qbg Tryz.func34 _ (.cons (zp rfl (.head _) (by exact qac) rfl (Wk.refl _)) (.cons (za rfl (Wk.refl _)) .nil)) ?_
 rfl
 refine st0 ?_
 refine zf 4 8 (qg 1 rfl (qb4 1 rfl ?_))
 refine zk hr rfl qho (qhj fuel _ _) (fun r7 h7 hr => ?_)
 refine st ?_
 obtain ⟨c, d, hr⟩ := exK (fun k => qbC k a2 r7 false) hr
 refine qc5 31 rfl (asl rfl) fun e => ?_
 simp only [jd] at e
 refine qz (fun env σ => ∃ (f10 : Bool), env = [(3, .ptr (qf a0)), (4, .ref b4_0 0 []), (5, .ptr (qM a2)), (6, .ref b6_1 0 []), (9, .bool f10)] ∧ σ = [.cell b4_0 (qW a1), .cell b6_1 (.agg [.lst ([].map qs), .lst ([].map zm), .lst ([].map zq), .lst ([].map qe), .int .i64 0, .int .i64 0, .bool false])] ∧ c f10 = some a) ?_ (fun l => ?_)
 rintro _ _ ⟨f10, rfl, rfl, hr⟩
 rw [d] at hr
 refine st ?_
 refine zi 45 rfl hr (fun _ hr => ?_) (fun _ hr => ?_)
 refine st0 ?_
 refine zf 3 4 (rd rfl (qbz rfl qc4 .nil (.nil _)) (qcw rfl (pf1 _ _ _) ?_))
 refine st ?_
 cases hr
 refine qbg Tryz.func34 _ (.cons (zp rfl (.head _) (by exact qac) rfl (Wk.refl _)) (.cons (za rfl (Wk.refl _)) .nil)) ?_
 rfl
 refine st0 ?_
 refine zf 5 8 (rd rfl (qh rfl qT rfl) (qb4 0 rfl (qjP rfl (rd rfl (qe4 rfl rfl rfl rfl) ?_))))
 refine st0 ?_
 refine zf 7 5128 (rd rfl (qh rfl qT rfl) (qb4 0 rfl (qg 1 rfl ?_)))
 obtain ⟨q_12, h12, hr⟩ := zb hr
 refine st ?_
 refine ew rfl (qbi rfl qj4) ?_
 rintro _ _ ⟨b12_12, rfl, rfl⟩
 refine z8 rfl (qgk _ rfl rfl rfl (Wk.refl _) (pf0 _) (by exact qd7) (qae _) (by first | rfl | simp [sz, szs, qdK, qcJ]) rfl) ?_
 refine st ?_
 refine zi 58 rfl hr (fun _ hr => ?_) (fun _ hr => ?_)
 refine st0 ?_
 refine zf 6 258 (qb4 1 rfl ?_)
 refine zk hr rfl qkI (qkM fuel _) (fun r15 h15 hr => ?_)
 refine qg 2 rfl (qcw rfl (pf2 _ _ _ _) ?_)
 refine st ?_
 cases hr
 refine qbg Tryz.func34 _ (.cons (zp rfl (.head _) (by exact qac) (qdW _) (Wk.refl _)) (.cons (za rfl (Wk.refl _)) .nil)) ?_
 rfl
 refine st ?_
 refine zt 66 rfl hr (fun _ hr => ?_) (fun _ hr => ?_)
 refine st0 ?_
 refine zf 8 4104 (qg 1 rfl (qb4 1 rfl (qg 1 rfl ?_)))
 refine zk hr rfl qhB (qhO fuel _ _ _) (fun r17 h17 hr => ?_)
 refine qg 2 rfl (qcw rfl (pf2 _ _ _ _) ?_)
 refine st ?_
 cases hr
 refine qbg Tryz.func34 _ (.cons (zp rfl (.head _) (by exact qac) (qdW _) (Wk.refl _)) (.cons (za rfl (Wk.refl _)) .nil)) ?_
 rfl
 refine st ?_
 refine zi 70 rfl hr (fun _ hr => ?_) (fun _ hr => ?_)
 refine st0 ?_
 refine zf 8 4104 (qg 1 rfl (qb4 1 rfl (qg 1 rfl ?_)))
 refine zk hr rfl qhB (qhO fuel _ _ _) (fun r19 h19 hr => ?_)
 refine qg 2 rfl (qcw rfl (pf2 _ _ _ _) ?_)
 refine st ?_
 cases hr
 refine qbg Tryz.func34 _ (.cons (zp rfl (.head _) (by exact qac) (qdW _) (Wk.refl _)) (.cons (za rfl (Wk.refl _)) .nil)) ?_
 rfl
 refine st ?_
 refine zi 79 rfl hr (fun _ hr => ?_) (fun _ hr => ?_)
 refine st0 ?_
 refine zf 6 1032 (rd rfl (qh rfl qT rfl) (qb4 1 rfl (qg 1 rfl ?_)))
 obtain ⟨l21, h21, hr⟩ := zb hr
 refine rd rfl (qiR (f := qs) a1.fb 0 (wr ((a1.fb.length : Int) - (1 : Int))) rfl qbq rfl (asl rfl) qgm (qgq rfl) qae h21) (rd rfl (qh rfl qT rfl) (z8 rfl (qds _ rfl rfl rfl (Wk.refl _) (pf1 _ _ _) rfl rfl (by exact qdv) rfl rfl rfl) ?_))
 refine st0 ?_
 refine zf 3 6 (qb4 0 rfl (qcw rfl (pf2 _ _ _ _) ?_))
 refine st ?_
 cases hr
 refine qbg Tryz.func34 _ (.cons (zp rfl (.head _) (by exact qac) rfl (Wk.refl _)) (.cons (za rfl (Wk.refl _)) .nil)) ?_
 rfl
 refine st ?_
 refine zi 88 rfl hr (fun _ hr => ?_) (fun _ hr => ?_)
 refine st0 ?_
 refine zf 18 532616 (rd rfl (qh rfl qeM rfl) (qb4 1 rfl (rd rfl (qh rfl qgP rfl) (qb4 1 rfl (rd rfl (qh rfl qgy rfl) (rd rfl (qh rfl qnb rfl) (er rfl (qd6 rfl rfl (.head _) rfl (by first | rfl | simp [yv, szs, sz, qdK, qen, qcJ]) (by exact qm4) rfl) (rd rfl (qh rfl qgy rfl) (rd rfl (qh rfl qnc rfl) (er rfl (qd6 rfl rfl (.head _) rfl (by first | rfl | simp [yv, szs, sz, qdK, qen, qcJ]) (by exact qh5) rfl) (rd rfl (qbz rfl qjH (.oc rfl (.oc rfl .nil)) (.cons rfl rfl rfl (.cons rfl rfl rfl (.nil _)))) (rd rfl (qbz rfl qoY (.oc rfl (.oc rfl .nil)) (.cons rfl rfl rfl (.cons rfl rfl rfl (.nil _)))) ?_))))))))))))
 refine zk hr rfl ql3 (ql0 _ _) (fun r23 h23 hr => ?_)
 refine st0 ?_
 refine zf 7 512 (qg 3 rfl ?_)
 refine zt 107 rfl hr (fun _ hr => ?_) (fun _ hr => ?_)
 refine st0 ?_
 refine zf 3 4 (rd rfl (qbz rfl qc4 .nil (.nil _)) (qcw rfl (pf2 _ _ _ _) ?_))
 refine st ?_
 cases hr
 refine qbg Tryz.func34 _ (.cons (zp rfl (.head _) (by exact qac) rfl (Wk.refl _)) (.cons (za rfl (Wk.refl _)) .nil)) ?_
 rfl
 refine rd rfl (qh rfl qgP rfl) (qb4 1 rfl ?_)
 refine st ?_
 refine zi 111 rfl hr (fun _ hr => ?_) (fun _ hr => ?_)
 refine st0 ?_
 refine zf 3 4 (rd rfl (qbz rfl qc4 .nil (.nil _)) (qcw rfl (pf2 _ _ _ _) ?_))
 refine st ?_
 cases hr
 refine qbg Tryz.func34 _ (.cons (zp rfl (.head _) (by exact qac) rfl (Wk.refl _)) (.cons (za rfl (Wk.refl _)) .nil)) ?_
 rfl
 refine st0 ?_
 refine zf 3 16 (qg 1 rfl (rd rfl (qh rfl qeM rfl) (z8 rfl (qds _ rfl rfl rfl (Wk.refl _) (pf1 _ _ _) rfl rfl (by exact qjb) rfl rfl rfl) ?_)))
 refine st0 ?_
 refine zf 5 264 (rd rfl (qh rfl qgP rfl) (qb4 0 rfl (rd rfl (qe4 rfl rfl rfl rfl) (rd rfl (qh rfl qgP rfl) (z8 rfl (qds _ rfl rfl rfl (Wk.refl _) (pf0 _) rfl rfl (by exact qfp) rfl rfl rfl) (qax (zf 4 64 (qg 2 rfl (rd rfl (qbz rfl qiC (.oc rfl .nil) (.cons rfl rfl rfl (.nil _))) (z8 rfl (qgk _ rfl rfl rfl (Wk.refl _) (pf1 _ _ _) (by exact qd7) (by first | rfl | simp [sz, szs, qdK, qcJ]) (qae _) rfl) ?_))))))))))
 refine st ?_
 refine zi 124 rfl hr (fun _ hr => ?_) (fun _ hr => ?_)
 refine qfh rfl (zf 2 4 (rd rfl (qh rfl qeh rfl) (z8 rfl (qds _ rfl rfl rfl (Wk.refl _) (pf0 _) rfl (by first | rfl | simp [yv, szs, sz, qdK, qen, qcJ]) (by exact qfp) rfl rfl rfl) ?_)))
 refine st ?_
 refine zi 128 rfl hr (fun _ hr => ?_) (fun _ hr => ?_)
 refine qfh rfl (zf 5 264 (rd rfl (qh rfl qeh rfl) (er rfl (qd6 rfl rfl (.head _) rfl (by first | rfl | simp [yv, szs, sz, qdK, qen, qcJ]) (by exact qfp) rfl) (rd rfl (qe4 rfl rfl rfl rfl) (rd rfl (qh rfl qeh rfl) (z8 rfl (qds _ rfl rfl rfl (Wk.refl _) (pf0 _) rfl (by first | rfl | simp [yv, szs, sz, qdK, qen, qcJ]) (by exact qfp) rfl rfl rfl) ?_))))))
 refine st ?_
 refine qea 8 16904 (rd rfl (qh rfl qT rfl) (qb4 1 rfl (qg 1 rfl ?_)))
 obtain ⟨l28, h28, hr⟩ := zb hr
 refine rd rfl (qiR (f := qs) a1.fb 0 (wr ((a1.fb.length : Int) - (1 : Int))) rfl qbq rfl (asl rfl) qgm (qgq rfl) qae h28) (er rfl (qd6 rfl rfl (.head _) rfl rfl (by exact qd7) (by first | rfl | simp [sz, szs, qdK, qcJ])) ?_)
 refine zk hr rfl qcb (qb7 _ _) (fun r29 h29 hr => ?_)
 refine rd rfl (qh rfl qT rfl) (z8 rfl (qds _ rfl rfl rfl (Wk.refl _) (pf1 _ _ _) rfl rfl (by exact qdv) rfl rfl rfl) ?_)
 refine st0 ?_
 refine zf 3 6 (qb4 0 rfl (qcw rfl (pf2 _ _ _ _) ?_))
 refine st ?_
 cases hr
 refine qbg Tryz.func34 _ (.cons (zp rfl (.head _) (by exact qac) rfl (Wk.refl _)) (.cons (za rfl (Wk.refl _)) .nil)) ?_
 rfl
 refine st ?_
 refine qea 8 16904 (rd rfl (qh rfl qT rfl) (qb4 1 rfl (qg 1 rfl ?_)))
 obtain ⟨l30, h30, hr⟩ := zb hr
 refine rd rfl (qiR (f := qs) a1.fb 0 (wr ((a1.fb.length : Int) - (1 : Int))) rfl qbq rfl (asl rfl) qgm (qgq rfl) qae h30) (er rfl (qd6 rfl rfl (.head _) rfl rfl (by exact qd7) (by first | rfl | simp [sz, szs, qdK, qcJ])) ?_)
 refine zk hr rfl qcb (qb7 _ _) (fun r31 h31 hr => ?_)
 refine rd rfl (qh rfl qT rfl) (z8 rfl (qds _ rfl rfl rfl (Wk.refl _) (pf1 _ _ _) rfl rfl (by exact qdv) rfl rfl rfl) ?_)
 refine st0 ?_
 refine zf 3 6 (qb4 0 rfl (qcw rfl (pf2 _ _ _ _) ?_))
 refine st ?_
 cases hr
 refine qbg Tryz.func34 _ (.cons (zp rfl (.head _) (by exact qac) rfl (Wk.refl _)) (.cons (za rfl (Wk.refl _)) .nil)) ?_
 rfl
 refine st ?_
 refine zi 128 rfl hr (fun _ hr => ?_) (fun _ hr => ?_)
 refine qfh rfl (zf 5 264 (rd rfl (qh rfl qeh rfl) (er rfl (qd6 rfl rfl (.head _) rfl (by first | rfl | simp [yv, szs, sz, qdK, qen, qcJ]) (by exact qfp) rfl) (rd rfl (qe4 rfl rfl rfl rfl) (rd rfl (qh rfl qeh rfl) (z8 rfl (qds _ rfl rfl rfl (Wk.refl _) (pf0 _) rfl (by first | rfl | simp [yv, szs, sz, qdK, qen, qcJ]) (by exact qfp) rfl rfl rfl) ?_))))))
 refine st ?_
 refine qea 8 16904 (rd rfl (qh rfl qT rfl) (qb4 1 rfl (qg 1 rfl ?_)))
 obtain ⟨l33, h33, hr⟩ := zb hr
 refine rd rfl (qiR (f := qs) a1.fb 0 (wr ((a1.fb.length : Int) - (1 : Int))) rfl qbq rfl (asl rfl) qgm (qgq rfl) qae h33) (er rfl (qd6 rfl rfl (.head _) rfl rfl (by exact qd7) (by first | rfl | simp [sz, szs, qdK, qcJ])) ?_)
 refine zk hr rfl qcb (qb7 _ _) (fun r34 h34 hr => ?_)
 refine rd rfl (qh rfl qT rfl) (z8 rfl (qds _ rfl rfl rfl (Wk.refl _) (pf1 _ _ _) rfl rfl (by exact qdv) rfl rfl rfl) ?_)
 refine st0 ?_
 refine zf 3 6 (qb4 0 rfl (qcw rfl (pf2 _ _ _ _) ?_))
 refine st ?_
 cases hr
 refine qbg Tryz.func34 _ (.cons (zp rfl (.head _) (by exact qac) rfl (Wk.refl _)) (.cons (za rfl (Wk.refl _)) .nil)) ?_
 rfl
 refine st ?_
 refine qea 8 16904 (rd rfl (qh rfl qT rfl) (qb4 1 rfl (qg 1 rfl ?_)))
 obtain ⟨l35, h35, hr⟩ := zb hr
 refine rd rfl (qiR (f := qs) a1.fb 0 (wr ((a1.fb.length : Int) - (1 : Int))) rfl qbq rfl (asl rfl) qgm (qgq rfl) qae h35) (er rfl (qd6 rfl rfl (.head _) rfl rfl (by exact qd7) (by first | rfl | simp [sz, szs, qdK, qcJ])) ?_)
 refine zk hr rfl qcb (qb7 _ _) (fun r36 h36 hr => ?_)
 refine rd rfl (qh rfl qT rfl) (z8 rfl (qds _ rfl rfl rfl (Wk.refl _) (pf1 _ _ _) rfl rfl (by exact qdv) rfl rfl rfl) ?_)
 refine st0 ?_
 refine zf 3 6 (qb4 0 rfl (qcw rfl (pf2 _ _ _ _) ?_))
 refine st ?_
 cases hr
 refine qbg Tryz.func34 _ (.cons (zp rfl (.head _) (by exact qac) rfl (Wk.refl _)) (.cons (za rfl (Wk.refl _)) .nil)) ?_
 rfl
 refine st ?_
 refine zi 124 rfl hr (fun _ hr => ?_) (fun _ hr => ?_)
 refine qfh rfl (zf 2 4 (rd rfl (qh rfl qeh rfl) (z8 rfl (qds _ rfl rfl rfl (Wk.refl _) (pf0 _) rfl (by first | rfl | simp [yv, szs, sz, qdK, qen, qcJ]) (by exact qfp) rfl rfl rfl) ?_)))
 refine st ?_
 refine zi 128 rfl hr (fun _ hr => ?_) (fun _ hr => ?_)
 refine qfh rfl (zf 5 264 (rd rfl (qh rfl qeh rfl) (er rfl (qd6 rfl rfl (.head _) rfl (by first | rfl | simp [yv, szs, sz, qdK, qen, qcJ]) (by exact qfp) rfl) (rd rfl (qe4 rfl rfl rfl rfl) (rd rfl (qh rfl qeh rfl) (z8 rfl (qds _ rfl rfl rfl (Wk.refl _) (pf0 _) rfl (by first | rfl | simp [yv, szs, sz, qdK, qen, qcJ]) (by exact qfp) rfl rfl rfl) ?_))))))
 refine st ?_
 refine qea 8 16904 (rd rfl (qh rfl qT rfl) (qb4 1 rfl (qg 1 rfl ?_)))
 obtain ⟨l39, h39, hr⟩ := zb hr
 refine rd rfl (qiR (f := qs) a1.fb 0 (wr ((a1.fb.length : Int) - (1 : Int))) rfl qbq rfl (asl rfl) qgm (qgq rfl) qae h39) (er rfl (qd6 rfl rfl (.head _) rfl rfl (by exact qd7) (by first | rfl | simp [sz, szs, qdK, qcJ])) ?_)
 refine zk hr rfl qcb (qb7 _ _) (fun r40 h40 hr => ?_)
 refine rd rfl (qh rfl qT rfl) (z8 rfl (qds _ rfl rfl rfl (Wk.refl _) (pf1 _ _ _) rfl rfl (by exact qdv) rfl rfl rfl) ?_)
 refine st0 ?_
 refine zf 3 6 (qb4 0 rfl (qcw rfl (pf2 _ _ _ _) ?_))
 refine st ?_
 cases hr
 refine qbg Tryz.func34 _ (.cons (zp rfl (.head _) (by exact qac) rfl (Wk.refl _)) (.cons (za rfl (Wk.refl _)) .nil)) ?_
 rfl
 refine st ?_
 refine qea 8 16904 (rd rfl (qh rfl qT rfl) (qb4 1 rfl (qg 1 rfl ?_)))
 obtain ⟨l41, h41, hr⟩ := zb hr
 refine rd rfl (qiR (f := qs) a1.fb 0 (wr ((a1.fb.length : Int) - (1 : Int))) rfl qbq rfl (asl rfl) qgm (qgq rfl) qae h41) (er rfl (qd6 rfl rfl (.head _) rfl rfl (by exact qd7) (by first | rfl | simp [sz, szs, qdK, qcJ])) ?_)
 refine zk hr rfl qcb (qb7 _ _) (fun r42 h42 hr => ?_)
 refine rd rfl (qh rfl qT rfl) (z8 rfl (qds _ rfl rfl rfl (Wk.refl _) (pf1 _ _ _) rfl rfl (by exact qdv) rfl rfl rfl) ?_)
 refine st0 ?_
 refine zf 3 6 (qb4 0 rfl (qcw rfl (pf2 _ _ _ _) ?_))
 refine st ?_
 cases hr
 refine qbg Tryz.func34 _ (.cons (zp rfl (.head _) (by exact qac) rfl (Wk.refl _)) (.cons (za rfl (Wk.refl _)) .nil)) ?_
 rfl
 refine st ?_
 refine zi 128 rfl hr (fun _ hr => ?_) (fun _ hr => ?_)
 refine qfh rfl (zf 5 264 (rd rfl (qh rfl qeh rfl) (er rfl (qd6 rfl rfl (.head _) rfl (by first | rfl | simp [yv, szs, sz, qdK, qen, qcJ]) (by exact qfp) rfl) (rd rfl (qe4 rfl rfl rfl rfl) (rd rfl (qh rfl qeh rfl) (z8 rfl (qds _ rfl rfl rfl (Wk.refl _) (pf0 _) rfl (by first | rfl | simp [yv, szs, sz, qdK, qen, qcJ]) (by exact qfp) rfl rfl rfl) ?_))))))
 refine st ?_
 refine qea 8 16904 (rd rfl (qh rfl qT rfl) (qb4 1 rfl (qg 1 rfl ?_)))
 obtain ⟨l44, h44, hr⟩ := zb hr
 refine rd rfl (qiR (f := qs) a1.fb 0 (wr ((a1.fb.length : Int) - (1 : Int))) rfl qbq rfl (asl rfl) qgm (qgq rfl) qae h44) (er rfl (qd6 rfl rfl (.head _) rfl rfl (by exact qd7) (by first | rfl | simp [sz, szs, qdK, qcJ])) ?_)
 refine zk hr rfl qcb (qb7 _ _) (fun r45 h45 hr => ?_)
 refine rd rfl (qh rfl qT rfl) (z8 rfl (qds _ rfl rfl rfl (Wk.refl _) (pf1 _ _ _) rfl rfl (by exact qdv) rfl rfl rfl) ?_)
 refine st0 ?_
 refine zf 3 6 (qb4 0 rfl (qcw rfl (pf2 _ _ _ _) ?_))
 refine st ?_
 cases hr
 refine qbg Tryz.func34 _ (.cons (zp rfl (.head _) (by exact qac) rfl (Wk.refl _)) (.cons (za rfl (Wk.refl _)) .nil)) ?_
 rfl
 refine st ?_
 refine qea 8 16904 (rd rfl (qh rfl qT rfl) (qb4 1 rfl (qg 1 rfl ?_)))
 obtain ⟨l46, h46, hr⟩ := zb hr
 refine rd rfl (qiR (f := qs) a1.fb 0 (wr ((a1.fb.length : Int) - (1 : Int))) rfl qbq rfl (asl rfl) qgm (qgq rfl) qae h46) (qb4 0 rfl ?_)
 refine zk hr rfl qcb (qb7 _ _) (fun r47 h47 hr => ?_)
 refine rd rfl (qh rfl qT rfl) (z8 rfl (qds _ rfl rfl rfl (Wk.refl _) (pf1 _ _ _) rfl rfl (by exact qdv) rfl rfl rfl) ?_)
 refine st0 ?_
 refine zf 3 6 (qb4 0 rfl (qcw rfl (pf2 _ _ _ _) ?_))
 refine st ?_
 cases hr
 refine qbg Tryz.func34 _ (.cons (zp rfl (.head _) (by exact qac) rfl (Wk.refl _)) (.cons (za rfl (Wk.refl _)) .nil)) ?_
 rfl
 refine qbc [3, 4, 5, 6, 8, 9, 10] rfl (qcz [_, _] _ (pS [0, 1] _) (qal (fun n env σ => ∃ (f8 : Bool) (i9 : Nat), n = r7.length - i9 ∧ (env = [(3, .ptr (qf a0)), (4, .ref b4_0 0 []), (5, .ptr (qM a2)), (6, .ref b6_1 0 []), (8, .lst (r7.map qM)), (9, .bool f8), (10, .int .i64 (i9 : Int))]) ∧ (σ = [.cell b4_0 (qW a1), .cell b6_1 (.agg [.lst ([].map qs), .lst ([].map zm), .lst ([].map zq), .lst ([].map qe), .int .i64 0, .int .i64 0, .bool false])]) ∧ (i9 ≤ r7.length) ∧ (qbC c a2 (r7.drop i9) f8 = some a)) _ ⟨false, 0, rfl, rfl, rfl, jf _, hr⟩ ?_))
 rintro n _ _ ⟨f8, i9, rfl, rfl, rfl, g, hr⟩ m
 rcases zd r7 i9 g with ⟨h, b, o⟩ | ⟨q_48, h, b, p, q⟩
 rw [b, qbC] at hr
 exact fin hr
 rw [b, qbC] at hr
 refine st ?_
 refine qD (qaC (qea 6 0 ?_))
 refine st ?_
 refine zk hr rfl qje (qi2 _ _) (fun r49 h49 hr => ?_)
 refine qax ?_
 refine zi 43 rfl hr (fun _ hr => ?_) (fun _ hr => ?_)
 exact fin hr
 exact fin hr
def qcV (fuel : Nat) (a2 : Int) (a0 : qc) : Nat → List qw → qd → Option (qd × (List qw) × Int)
 | 0, o11, c12 =>
 none
 | rest + 1, o11, c12 =>
 ((qeL fuel a0 c12).bind fun r13 =>
 (bif (!r13.2) then
 some (c12, o11, 0)
 else
 (bif (decide ((o11.length : Int) ≥ a2)) then
 some (c12, o11, 15)
 else
 ((qe6 fuel a0 c12 r13.1).bind fun r17 =>
 (bif (r17.2 != (0 : Int)) then
 some (c12, o11, r17.2)
 else
 ((zz 56 o11 [r13.1]).bind fun l20 =>
 (qcV fuel a2 a0 rest l20 r17.1)))))))
def qeR (fuel : Nat) (a0 : qc) (a1 : qd) (a2 : Int) : Option (qd × (List qw) × Int) :=
 ((qbU fuel a0 a1).bind fun r4 =>
 (bif (!r4) then
 some ((⟨[], [], [], [], 0, 0, false⟩ : qd), [], 2)
 else
 (bif (decide (a2 < (0 : Int))) then
 some ((⟨[], [], [], [], 0, 0, false⟩ : qd), [], 2)
 else
 (qcV fuel a2 a0 fuel [] a1))))
theorem qlW (fuel : Nat) (a0 : qc) (a1 : qd) (a2 : Int) (res : qd × (List qw) × Int) (hr : qeR fuel a0 a1 a2 = some res) : zg Tryz.prog 10 [qf a0, qW a1, .int .i64 a2] (.tup [qW res.1, .lst (res.2.1.map qM), .int .i64 res.2.2]) := by
 unfold qeR at hr
 refine qC Tryz.func10 rfl fun K hK hF => (qaC (zf 5 84 (rd rfl (qcA rfl rfl rfl) (ew rfl (qmx rfl rfl rfl) ?_))))
 rintro _ _ ⟨b4_0, rfl, rfl⟩
 refine ew rfl (qbi rfl qgl) ?_
 rintro _ _ ⟨b6_1, rfl, rfl⟩
 refine ew rfl (qL 62 5 (.inl rfl)) ?_
 rintro _ _ ⟨u7_2, rfl, rfl⟩
 refine st0 ?_
 refine zf 8 8 (qg 1 rfl (qb4 2 rfl ?_))
 refine zk hr rfl qfY (qf0 fuel _ _) (fun r4 h4 hr => ?_)
 refine qg 2 rfl ?_
 refine zt 18 rfl hr (fun h18_4 hr => ?_) (fun h18_4 hr => ?_)
 refine st0 ?_
 refine zf 4 20 (rd rfl (qbz rfl qc4 .nil (.nil _)) (qcw rfl (pf1 _ _ _) (ew rfl (qL 62 5 (.inl rfl)) ?_)))
 rintro _ _ ⟨u7_5, rfl, rfl⟩
 refine st ?_
 cases hr
 refine qbg Tryz.func10 _ (.cons (zp rfl (.tail _ (.head _)) (by exact qac) rfl (Wk.refl _)) (.cons (za rfl (Wk.own _ _)) (.cons (za rfl (Wk.refl _)) .nil))) ?_
 rfl
 refine st ?_
 refine zi 21 rfl hr (fun h21_6 hr => ?_) (fun h21_6 hr => ?_)
 refine st0 ?_
 refine zf 4 20 (rd rfl (qbz rfl qc4 .nil (.nil _)) (qcw rfl (pf1 _ _ _) (ew rfl (qL 62 5 (.inl rfl)) ?_)))
 rintro _ _ ⟨u7_7, rfl, rfl⟩
 refine st ?_
 cases hr
 refine qbg Tryz.func10 _ (.cons (zp rfl (.tail _ (.head _)) (by exact qac) rfl (Wk.refl _)) (.cons (za rfl (Wk.own _ _)) (.cons (za rfl (Wk.refl _)) .nil))) ?_
 rfl
 refine st0 ?_
 refine zf 1 1 (ew rfl (qL 62 5 (.inl rfl)) ?_)
 rintro _ _ ⟨u9_8, rfl, rfl⟩
 refine qax (qD (qbc [2, 3, 4, 6, 9] rfl (qcz [_, _, _] _ (pS [0, 2, 3] _) (qal (fun n env σ => ∃ (o11 : List qw) (c12 : qd) (u10 : Value) (n0 : Nat), (n0 = n) ∧ (env = [(2, .int .i64 a2), (3, .ptr (qf a0)), (4, .ref b4_0 0 []), (6, .ref b6_1 0 []), (9, .own u10 (o11.map qM))]) ∧ (σ = [.cell b4_0 (qW c12), .cell b6_1 (.agg [.lst ([].map qs), .lst ([].map zm), .lst ([].map zq), .lst ([].map qe), .int .i64 0, .int .i64 0, .bool false]), .row u10 o11.length 62 5]) ∧ (qcV fuel a2 a0 n0 o11 c12 = some res)) _ ⟨[], a1, u9_8, _, rfl, rfl, rfl, hr⟩ ?_))))
 rintro n _ _ ⟨o11, c12, u10, n0, rfl, rfl, rfl, hr⟩ IH0
 cases n0 with
 | zero => rw [qcV] at hr; cases hr
 | succ n0 =>
  rw [qcV] at hr
  refine qD (qaC (zf 9 20488 (qg 1 rfl (qb4 0 rfl ?_))))
  refine zk hr rfl qlr (qli fuel _ _) (fun r13 h13 hr => ?_)
  refine qg 3 rfl (ew rfl (qbi rfl qoa) ?_)
  rintro _ _ ⟨b10_13, rfl, rfl⟩
  refine qcw rfl (pf0 _) (qg 1 rfl (qax (qbR 10 b10_13 rfl (pf0 _) ?_)))
  refine st ?_
  refine zi 30 rfl hr (fun h30_14 hr => ?_) (fun h30_14 hr => ?_)
  refine st0 ?_
  refine zf 5 18 (qb4 0 rfl (qg 1 rfl (qcw rfl (pf1 _ _ _) ?_)))
  refine st ?_
  cases hr
  refine qbg Tryz.func10 _ (.cons (zp rfl (.head _) (by exact qac) (qdW _) (Wk.refl _)) (.cons (za rfl (Wk.own _ _)) (.cons (za rfl (Wk.refl _)) .nil))) ?_
  rfl
  refine st ?_
  refine zi 36 rfl hr (fun h36_15 hr => ?_) (fun h36_15 hr => ?_)
  refine st0 ?_
  refine zf 5 18 (qb4 0 rfl (qg 1 rfl (qcw rfl (pf1 _ _ _) ?_)))
  refine st ?_
  cases hr
  refine qbg Tryz.func10 _ (.cons (zp rfl (.head _) (by exact qac) (qdW _) (Wk.refl _)) (.cons (za rfl (Wk.own _ _)) (.cons (za rfl (Wk.refl _)) .nil))) ?_
  rfl
  refine st0 ?_
  refine zf 10 81928 (qg 1 rfl (qb4 0 rfl (qg 1 rfl ?_)))
  refine zk hr rfl qmd (qmp fuel _ _ _) (fun r17 h17 hr => ?_)
  refine qg 3 rfl (ew rfl (qbi rfl qgl) ?_)
  rintro _ _ ⟨b12_17, rfl, rfl⟩
  refine qcw rfl (pf0 _) (qg 1 rfl (qax (qbR 12 b12_17 rfl (pf0 _) ?_)))
  refine st ?_
  refine zi 47 rfl hr (fun h47_18 hr => ?_) (fun h47_18 hr => ?_)
  refine st0 ?_
  refine zf 6 66 (qb4 0 rfl (qg 2 rfl (qcw rfl (pf1 _ _ _) ?_)))
  refine st ?_
  cases hr
  refine qbg Tryz.func10 _ (.cons (zp rfl (.head _) (by exact qac) (qdW _) (Wk.refl _)) (.cons (za rfl (Wk.own _ _)) (.cons (za rfl (Wk.refl _)) .nil))) ?_
  rfl
  refine st0 ?_
  refine zf 2 4 (qg 1 rfl (z8 rfl (qgk _ rfl rfl rfl (Wk.refl _) (pf0 _) (by exact qac) (qdW _) (qdW _) rfl) (qax (zf 5 64 (qg 2 rfl (rd rfl (qe2 (f := qM) [.tmp 53] [r13.1] rfl qd0 rfl rfl od od (.oc rfl .nil) qcU (fun _ => rfl)) ?_))))))
  obtain ⟨l20, h20, hr⟩ := zb hr
  refine ew rfl (qau (f := qM) o11 [r13.1] rfl qd0 rfl rfl (asl rfl) (pf2 _ _ _ _) rfl qcU h20) ?_
  rintro _ _ ⟨u55_20, rfl, rfl⟩
  refine qg 1 rfl (qax (qfa (qbc [2, 3, 4, 6, 9] rfl (qcz [_, _, _] _ (pS [0, 2, 2] _) ?_))))
  exact IH0 _ _ _ oa ⟨l20, r17.1, u55_20, _, rfl, rfl, rfl, hr⟩
def qbM (k : List qn → Option (qd)) (a0 : List Gl) : Nat → List qn → Option (qd)
 | 0, s5 =>
 (k s5)
 | k9 + 1, s5 =>
 ((zh a0 (k9 : Int)).bind fun q_10 =>
 ((zz 64 s5 [(⟨q_10, 0, 0⟩ : qn)]).bind fun l11 =>
 (qbM k a0 k9 l11)))
def qeB (k : Int → Option (qd)) (a1 : Int) : Option (qd) :=
 (bif (decide (a1 < (0 : Int))) then
 (k 0)
 else
 (k a1))
def qer (a0 : List Gl) (a1 : Int) : Option (qd) :=
 (qeB (fun v2 =>
 ((yS (wr ((a0.length : Int) - (1 : Int)))).bind fun m13 =>
 (qbM (fun s8 =>
 some ((⟨s8, [], [], [], 1, v2, false⟩ : qd))) a0 m13 []))) a1)
theorem qk8 (a0 : List Gl) (a1 : Int) (a : qd) (hr : qer a0 a1 = some a) : zg Tryz.prog 11 [.lst (a0.map zB), .int .i64 a1] (qW a) := by
 unfold qer at hr
 refine qC Tryz.func11 rfl fun K h i => (qaC (zf 1 1 (ew rfl (qbi rfl qgl) ?_)))
 rintro _ _ ⟨b4_0, rfl, rfl⟩
 refine qax ?_
 obtain ⟨kkJ0, hkkJ0, hr⟩ := exK (fun k => qeB k a1) hr
 refine qpt (fun env σ => ∃ (v2 : Int), env = [(0, .lst (a0.map zB)), (1, .int .i64 v2), (4, .ref b4_0 0 [])] ∧ σ = [.cell b4_0 (.agg [.lst ([].map qs), .lst ([].map zm), .lst ([].map zq), .lst ([].map qe), .int .i64 0, .int .i64 0, .bool false])] ∧ kkJ0 v2 = some a) ?_ (fun HKJ0 => ?_)
 rintro _ _ ⟨v2, rfl, rfl, hr⟩
 rw [hkkJ0] at hr
 refine qaC (zf 1 1 (ew rfl (qL 90 5 (.inl rfl)) ?_))
 rintro _ _ ⟨u5_2, rfl, rfl⟩
 refine st ?_
 refine rd rfl (qe4 rfl rfl rfl rfl) ?_
 refine st ?_
 obtain ⟨m13, h13, hr⟩ := zb hr
 have hm_13' := qk7 h13
 obtain ⟨c, e, hr⟩ := exK (fun k => qbM k a0 m13 []) hr
 refine qz (fun env σ => ∃ (s8 : List qn) (u7 : Value), env = [(1, .int .i64 v2), (4, .ref b4_0 0 []), (5, .own u7 (s8.map qs))] ∧ σ = [.cell b4_0 (.agg [.lst ([].map qs), .lst ([].map zm), .lst ([].map zq), .lst ([].map qe), .int .i64 0, .int .i64 0, .bool false]), .row u7 s8.length 90 5] ∧ c s8 = some a) ?_ (fun j => ?_)
 rintro _ _ ⟨s8, u7, rfl, rfl, hr⟩
 rw [e] at hr
 refine qaC (zf 4 64 (qg 2 rfl (rd rfl (qbz rfl qc4 (.cons rfl (Wk.own _ _) (.oc rfl (.oc rfl .nil))) (.cons rfl rfl rfl (.cons rfl rfl rfl (.cons rfl rfl rfl (.nil _))))) (qcw rfl (pf0 _) (qax ?_)))))
 cases hr
 refine qbg Tryz.func11 _ (.cons (zp rfl (.head _) (by exact qac) rfl (Wk.refl _)) .nil) ?_
 rfl
 refine qqK 6 (d' := .int .i64 ((m13 : Int) - 1)) rfl (congrArg (D.int .i64) hm_13') (qbc [0, 1, 4, 5, 6] rfl (qcz [_, _] _ (pS [0, 1] _) (qal (fun n env σ => ∃ (s5 : List qn) (i6 : Nat) (u4 : Value), (i6 = n) ∧ (env = [(0, .lst (a0.map zB)), (1, .int .i64 v2), (4, .ref b4_0 0 []), (5, .own u4 (s5.map qs)), (6, .int .i64 ((i6 : Int) - 1))]) ∧ (σ = [.cell b4_0 (.agg [.lst ([].map qs), .lst ([].map zm), .lst ([].map zq), .lst ([].map qe), .int .i64 0, .int .i64 0, .bool false]), .row u4 s5.length 90 5]) ∧ (qbM c a0 i6 s5 = some a)) _ ⟨[], m13, u5_2, rfl, rfl, rfl, hr⟩ ?_)))
 rintro n _ _ ⟨s5, i6, u4, rfl, rfl, rfl, hr⟩ g
 refine qoW 6 rfl fun l => ?_
 rcases yT i6 with ⟨b, d⟩ | ⟨k9, b, d⟩
 rw [b, qbM] at hr
 exact fin hr
 rw [b, qbM] at hr
 have d : decide ((k9 : Int) ≥ (0 : Int)) = true := decide_eq_true oa
 refine qqK 6 (d' := .int .i64 (k9 : Int)) rfl (by subst b; congr 1; omega) ?_
 refine st ?_
 refine qD (zf 9 16384 (qg 3 rfl ?_))
 obtain ⟨q_10, h10, hr⟩ := zb hr
 refine st ?_
 refine rd rfl (qbz rfl qiC (.oc rfl .nil) (.cons rfl (qcJ _) rfl (.nil _))) (rd rfl (qe2 (f := qs) [.tmp 21] [(⟨q_10, 0, 0⟩ : qn)] rfl qbq rfl rfl od od (.oc rfl .nil) qae (fun _ => rfl)) ?_)
 obtain ⟨l11, h11, hr⟩ := zb hr
 refine ew rfl (qau (f := qs) s5 [(⟨q_10, 0, 0⟩ : qn)] rfl qbq rfl rfl (asl rfl) (pf1 _ _ _) rfl qae h11) ?_
 rintro _ _ ⟨u23_11, rfl, rfl⟩
 refine st ?_
 refine rd rfl (zbq (r := (k9 : Int) - 1) rfl rfl rfl rfl oa) (qg 1 rfl (qax (qbc [0, 1, 4, 5, 6] rfl (qcz [_, _] _ (pS [0, 1] _) ?_))))
 exact g _ _ _ oa ⟨l11, k9, u23_11, rfl, rfl, rfl, hr⟩
 unfold qeB at hr
 refine st ?_
 refine zi 8 rfl hr (fun _ hr => ?_) (fun _ hr => ?_)
 exact fin hr
 exact fin hr
def qaX (k : Option Int) (a2 : Int) : List Int → Option Int
 | [] =>
 k
 | q_12 :: rest =>
 (bif (decide (q_12 ≥ a2)) then
 some (17)
 else
 (qaX k a2 rest))
def qa0 (k : Option Int) (fuel : Nat) (a2 : Int) : List Gl → Option Int
 | [] =>
 k
 | q_9 :: rest =>
 ((qbJ fuel q_9).bind fun r10 =>
 (qaX ((qa0 k fuel a2 rest)) a2 r10))
def qaY (k : Option Int) : List Gl → Option Int
 | [] =>
 k
 | q_14 :: rest =>
 ((qcq q_14.op).bind fun r15 =>
 (bif r15 then
 some (10)
 else
 (qaY k rest)))
def qaZ (k : Option Int) : List Gl → Option Int
 | [] =>
 k
 | q_17 :: rest =>
 ((qhY q_17).bind fun r18 =>
 (bif (!r18) then
 some (2)
 else
 (qaZ k rest)))
def qdt (fuel : Nat) (a0 : List qaS) (a1 : List Gl) (a2 : Int) : Option Int :=
 (bif (decide ((a1.length : Int) > (40 : Int))) then
 some (6)
 else
 (bif (decide (a2 < (0 : Int))) then
 some (6)
 else
 (bif (decide (a2 > (100 : Int))) then
 some (6)
 else
 (qaZ (((qes a0 a1).bind fun r5 =>
 (bif (r5 != (0 : Int)) then
 some (r5)
 else
 (qaY ((qa0 (some (0)) fuel a2 a1)) a1)))) a1))))
theorem qiN (fuel : Nat) (a0 : List qaS) (a1 : List Gl) (a2 : Int) (a : Int) (hr : qdt fuel a0 a1 a2 = some a) : zg Tryz.prog 8 [.lst (a0.map qad), .lst (a1.map zB), .int .i64 a2] (.int .i64 a) := by
 unfold qdt at hr
 refine qC Tryz.func8 rfl fun K C E => ?_
 refine st ?_
 refine zt 16 rfl hr (fun _ hr => ?_) (fun _ hr => ?_)
 exact fin hr
 refine qg 4 rfl ?_
 refine zt 20 rfl hr (fun _ hr => ?_) (fun _ hr => ?_)
 exact fin hr
 refine st ?_
 refine zi 23 rfl hr (fun _ hr => ?_) (fun _ hr => ?_)
 exact fin hr
 refine st ?_
 obtain ⟨g, l, hr⟩ := exK (fun k => qaZ k a1) hr
 refine qc5 1 rfl (asl rfl) fun m => ?_
 simp only [jd] at m
 refine qz (fun env σ => env = [(0, .lst (a0.map qad)), (1, .lst (a1.map zB)), (2, .int .i64 a2)] ∧ σ = [] ∧ g = some a) ?_ (fun F => ?_)
 rintro _ _ ⟨rfl, rfl, hr⟩
 rw [l] at hr
 refine st ?_
 refine zk hr rfl qhR (qhE _ _) (fun r5 h5 hr => ?_)
 refine st ?_
 refine zi 40 rfl hr (fun _ hr => ?_) (fun _ hr => ?_)
 exact fin hr
 refine st ?_
 obtain ⟨h, o, hr⟩ := exK (fun k => qaY k a1) hr
 refine qc5 1 rfl (asl rfl) fun p => ?_
 simp only [jd] at p
 refine qz (fun env σ => env = [(1, .lst (a1.map zB)), (2, .int .i64 a2)] ∧ σ = [] ∧ h = some a) ?_ (fun G => ?_)
 rintro _ _ ⟨rfl, rfl, hr⟩
 rw [o] at hr
 refine st ?_
 obtain ⟨i, q, hr⟩ := exK (fun k => qa0 k fuel a2 a1) hr
 refine qc5 1 rfl (asl rfl) fun r => ?_
 simp only [jd] at r
 refine qz (fun env σ => env = [] ∧ σ = [] ∧ i = some a) ?_ (fun H => ?_)
 rintro _ _ ⟨rfl, rfl, hr⟩
 rw [q] at hr
 exact fin hr
 refine qbc [1, 2, 10] rfl (qal (fun n env σ => ∃ (i8 : Nat), n = a1.length - i8 ∧ (env = [(1, .lst (a1.map zB)), (2, .int .i64 a2), (10, .int .i64 (i8 : Int))]) ∧ (σ = []) ∧ (i8 ≤ a1.length) ∧ (qa0 i fuel a2 (a1.drop i8) = some a)) _ ⟨0, rfl, rfl, rfl, jf _, hr⟩ ?_)
 rintro n _ _ ⟨i8, rfl, rfl, rfl, s, hr⟩ I
 rcases zd a1 i8 s with ⟨t, b, J⟩ | ⟨q_9, t, b, L, M⟩
 rw [b, qa0] at hr
 exact fin hr
 rw [b, qa0] at hr
 refine st ?_
 refine qD ?_
 refine st ?_
 refine zk hr rfl qfs (qfr fuel _) (fun r10 h10 hr => ?_)
 refine st ?_
 obtain ⟨j, u, hr⟩ := exK (fun k => qaX k a2 r10) hr
 refine qc5 64 rfl (asl rfl) fun v => ?_
 simp only [jd] at v
 refine qz (fun env σ => env = [(1, .lst (a1.map zB)), (2, .int .i64 a2), (10, .int .i64 (i8 : Int))] ∧ σ = [] ∧ j = some a) ?_ (fun N => ?_)
 rintro _ _ ⟨rfl, rfl, hr⟩
 rw [u] at hr
 exact fin hr
 refine qbc [1, 2, 10, 11, 12] rfl (qal (fun n env σ => ∃ (k11 : Nat), n = r10.length - k11 ∧ (env = [(1, .lst (a1.map zB)), (2, .int .i64 a2), (10, .int .i64 (i8 : Int)), (11, .lst (r10.map (D.int .i64))), (12, .int .i64 (k11 : Int))]) ∧ (σ = []) ∧ (k11 ≤ r10.length) ∧ (qaX j a2 (r10.drop k11) = some a)) _ ⟨0, rfl, rfl, rfl, jf _, hr⟩ ?_)
 rintro n _ _ ⟨k11, rfl, rfl, rfl, w, hr⟩ O
 rcases zd r10 k11 w with ⟨x, c, P⟩ | ⟨q_12, x, c, Q, R⟩
 rw [c, qaX] at hr
 exact fin hr
 rw [c, qaX] at hr
 refine st ?_
 refine qD ?_
 refine st ?_
 refine zi 76 rfl hr (fun _ hr => ?_) (fun _ hr => ?_)
 exact fin hr
 exact fin hr
 refine qbc [1, 2, 9] rfl (qal (fun n env σ => ∃ (i7 : Nat), n = a1.length - i7 ∧ (env = [(1, .lst (a1.map zB)), (2, .int .i64 a2), (9, .int .i64 (i7 : Int))]) ∧ (σ = []) ∧ (i7 ≤ a1.length) ∧ (qaY h (a1.drop i7) = some a)) _ ⟨0, rfl, rfl, rfl, jf _, hr⟩ ?_)
 rintro n _ _ ⟨i7, rfl, rfl, rfl, y, hr⟩ S
 rcases zd a1 i7 y with ⟨z, d, T⟩ | ⟨q_14, z, d, U, V⟩
 rw [d, qaY] at hr
 exact fin hr
 rw [d, qaY] at hr
 refine st ?_
 refine qD ?_
 refine st ?_
 refine zk hr rfl qgh (qgp _) (fun r15 h15 hr => ?_)
 refine qax ?_
 refine zi 53 rfl hr (fun _ hr => ?_) (fun _ hr => ?_)
 exact fin hr
 exact fin hr
 refine qbc [0, 1, 2, 7] rfl (qal (fun n env σ => ∃ (i4 : Nat), n = a1.length - i4 ∧ (env = [(0, .lst (a0.map qad)), (1, .lst (a1.map zB)), (2, .int .i64 a2), (7, .int .i64 (i4 : Int))]) ∧ (σ = []) ∧ (i4 ≤ a1.length) ∧ (qaZ g (a1.drop i4) = some a)) _ ⟨0, rfl, rfl, rfl, jf _, hr⟩ ?_)
 rintro n _ _ ⟨i4, rfl, rfl, rfl, A, hr⟩ W
 rcases zd a1 i4 A with ⟨B, e, X⟩ | ⟨q_17, B, e, Y, Z⟩
 rw [e, qaZ] at hr
 exact fin hr
 rw [e, qaZ] at hr
 refine st ?_
 refine qD ?_
 refine st ?_
 obtain ⟨r18, h18, hr⟩ := zb hr
 refine qem rfl qco (qcm _ _ h18) ?_
 refine st ?_
 refine zi 35 rfl hr (fun _ hr => ?_) (fun _ hr => ?_)
 exact fin hr
 exact fin hr
def qaU (k : Option Bool) : List T → Int → Option Bool
 | [], n2 =>
 k
 | q_4 :: rest, n2 =>
 ((quN q_4).bind fun r5 =>
 (bif (decide ((wr (n2 + r5)) > (60 : Int))) then
 some (false)
 else
 (qaU k rest (wr (n2 + r5)))))
def qdj (a0 : List T) : Option Bool :=
 (bif (decide ((a0.length : Int) > (8 : Int))) then
 some (false)
 else
 (qaU (some (true)) a0 0))
theorem qh9 (a0 : List T) (a : Bool) (hr : qdj a0 = some a) : zg Tryz.prog 21 [.lst (a0.map zl)] (.bool a) := by
 unfold qdj at hr
 refine qC Tryz.func21 rfl fun K i j => ?_
 refine st ?_
 refine zi 7 rfl hr (fun _ hr => ?_) (fun _ hr => ?_)
 exact fin hr
 refine st ?_
 obtain ⟨c, d, hr⟩ := exK (fun k => qaU k a0 0) hr
 refine qc5 0 rfl (asl rfl) fun e => ?_
 simp only [jd] at e
 refine qz (fun env σ => env = [] ∧ σ = [] ∧ c = some a) ?_ (fun l => ?_)
 rintro _ _ ⟨rfl, rfl, hr⟩
 rw [d] at hr
 exact fin hr
 refine qbc [0, 3, 4] rfl (qal (fun n env σ => ∃ (n2 : Int) (i3 : Nat), n = a0.length - i3 ∧ (env = [(0, .lst (a0.map zl)), (3, .int .i64 n2), (4, .int .i64 (i3 : Int))]) ∧ (σ = []) ∧ (i3 ≤ a0.length) ∧ (qaU c (a0.drop i3) n2 = some a)) _ ⟨0, 0, rfl, rfl, rfl, jf _, hr⟩ ?_)
 rintro n _ _ ⟨n2, i3, rfl, rfl, rfl, g, hr⟩ m
 rcases zd a0 i3 g with ⟨h, b, o⟩ | ⟨q_4, h, b, p, q⟩
 rw [b, qaU] at hr
 exact fin hr
 rw [b, qaU] at hr
 refine st ?_
 refine qD ?_
 refine st ?_
 obtain ⟨r5, h5, hr⟩ := zb hr
 refine qem rfl qlI (qle _ _ h5) (rd rfl (qe4 rfl rfl rfl rfl) ?_)
 refine st ?_
 refine zi 22 rfl hr (fun _ hr => ?_) (fun _ hr => ?_)
 exact fin hr
 exact fin hr
def qce (k : Option Bool) : List At → Option Bool
 | [] =>
 k
 | q_2 :: rest =>
 ((qdj q_2.ts).bind fun r3 =>
 (bif (!r3) then
 some (false)
 else
 (qce k rest)))
def qdN (a0 : List At) : Option Bool :=
 (qce (some (true)) a0)
theorem qht (a0 : List At) (a : Bool) (hr : qdN a0 = some a) : zg Tryz.prog 20 [.lst (a0.map zU)] (.bool a) := by
 unfold qdN at hr
 refine qC Tryz.func20 rfl fun K i j => ?_
 refine st ?_
 obtain ⟨c, d, hr⟩ := exK (fun k => qce k a0) hr
 refine qc5 0 rfl (asl rfl) fun e => ?_
 simp only [jd] at e
 refine qz (fun env σ => env = [] ∧ σ = [] ∧ c = some a) ?_ (fun l => ?_)
 rintro _ _ ⟨rfl, rfl, hr⟩
 rw [d] at hr
 exact fin hr
 refine qbc [0, 3] rfl (qal (fun n env σ => ∃ (i1 : Nat), n = a0.length - i1 ∧ (env = [(0, .lst (a0.map zU)), (3, .int .i64 (i1 : Int))]) ∧ (σ = []) ∧ (i1 ≤ a0.length) ∧ (qce c (a0.drop i1) = some a)) _ ⟨0, rfl, rfl, rfl, jf _, hr⟩ ?_)
 rintro n _ _ ⟨i1, rfl, rfl, rfl, g, hr⟩ m
 rcases zd a0 i1 g with ⟨h, b, o⟩ | ⟨q_2, h, b, p, q⟩
 rw [b, qce] at hr
 exact fin hr
 rw [b, qce] at hr
 refine st ?_
 refine qD ?_
 refine st ?_
 refine zk hr rfl qh2 (qh9 _) (fun r3 h3 hr => ?_)
 refine st ?_
 refine zi 16 rfl hr (fun _ hr => ?_) (fun _ hr => ?_)
 exact fin hr
 exact fin hr
def qaE (k : Option Bool) : List Gl → Option Bool
 | [] =>
 k
 | q_3 :: rest =>
 ((qdj q_3.ts).bind fun r4 =>
 (bif (!r4) then
 some (false)
 else
 (qaE k rest)))
def qcg (a0 : List Gl) (a1 : Int) : Option Bool :=
 (bif (decide ((a0.length : Int) > a1)) then
 some (false)
 else
 (qaE (some (true)) a0))
theorem qf7 (a0 : List Gl) (a1 : Int) (a : Bool) (hr : qcg a0 a1 = some a) : zg Tryz.prog 7 [.lst (a0.map zB), .int .i64 a1] (.bool a) := by
 unfold qcg at hr
 refine qC Tryz.func7 rfl fun K i j => ?_
 refine st ?_
 refine zi 9 rfl hr (fun _ hr => ?_) (fun _ hr => ?_)
 exact fin hr
 refine st ?_
 obtain ⟨c, d, hr⟩ := exK (fun k => qaE k a0) hr
 refine qc5 0 rfl (asl rfl) fun e => ?_
 simp only [jd] at e
 refine qz (fun env σ => env = [] ∧ σ = [] ∧ c = some a) ?_ (fun l => ?_)
 rintro _ _ ⟨rfl, rfl, hr⟩
 rw [d] at hr
 exact fin hr
 refine qbc [0, 5] rfl (qal (fun n env σ => ∃ (i2 : Nat), n = a0.length - i2 ∧ (env = [(0, .lst (a0.map zB)), (5, .int .i64 (i2 : Int))]) ∧ (σ = []) ∧ (i2 ≤ a0.length) ∧ (qaE c (a0.drop i2) = some a)) _ ⟨0, rfl, rfl, rfl, jf _, hr⟩ ?_)
 rintro n _ _ ⟨i2, rfl, rfl, rfl, g, hr⟩ m
 rcases zd a0 i2 g with ⟨h, b, o⟩ | ⟨q_3, h, b, p, q⟩
 rw [b, qaE] at hr
 exact fin hr
 rw [b, qaE] at hr
 refine st ?_
 refine qD ?_
 refine st ?_
 refine zk hr rfl qh2 (qh9 _) (fun r4 h4 hr => ?_)
 refine st ?_
 refine zi 22 rfl hr (fun _ hr => ?_) (fun _ hr => ?_)
 exact fin hr
 exact fin hr
def qbl (k : Option Bool) : List qk → Option Bool
 | [] =>
 k
 | q_4 :: rest =>
 (bif (decide ((q_4.fg.length : Int) > (3 : Int))) then
 some (false)
 else
 (bif (decide ((q_4.ft.length : Int) > (3 : Int))) then
 some (false)
 else
 (bif (decide ((wr ((q_4.fg.length : Int) + (q_4.ft.length : Int))) > (3 : Int))) then
 some (false)
 else
 (bif (decide ((q_4.fx.length : Int) > (6 : Int))) then
 some (false)
 else
 (bif (decide ((q_4.fp.length : Int) > (6 : Int))) then
 some (false)
 else
 ((qdN q_4.fg).bind fun r11 =>
 (bif (!r11) then
 some (false)
 else
 ((qdN q_4.ft).bind fun r13 =>
 (bif (!r13) then
 some (false)
 else
 ((qcg q_4.fx 6).bind fun r15 =>
 (bif (!r15) then
 some (false)
 else
 ((qcg q_4.fp 6).bind fun r17 =>
 (bif (!r17) then
 some (false)
 else
 (qbl k rest))))))))))))))
def qdX (a0 : qc) : Option Bool :=
 (bif (decide ((a0.fH.length : Int) > (12 : Int))) then
 some (false)
 else
 (bif (decide ((a0.fc.length : Int) > (8 : Int))) then
 some (false)
 else
 (qbl (some (true)) a0.fc)))
theorem qjw (a0 : qc) (a : Bool) (hr : qdX a0 = some a) : zg Tryz.prog 6 [qf a0] (.bool a) := by
 unfold qdX at hr
 refine qC Tryz.func6 rfl fun K i j => ?_
 refine st ?_
 refine rd rfl (qcA rfl rfl rfl) ?_
 refine st ?_
 refine zt 9 rfl hr (fun _ hr => ?_) (fun _ hr => ?_)
 exact fin hr
 refine st ?_
 refine zi 14 rfl hr (fun _ hr => ?_) (fun _ hr => ?_)
 exact fin hr
 refine st ?_
 obtain ⟨c, d, hr⟩ := exK (fun k => qbl k a0.fc) hr
 refine qc5 11 rfl (asl rfl) fun e => ?_
 simp only [jd] at e
 refine qz (fun env σ => env = [] ∧ σ = [] ∧ c = some a) ?_ (fun l => ?_)
 rintro _ _ ⟨rfl, rfl, hr⟩
 rw [d] at hr
 exact fin hr
 refine qbc [1, 3] rfl (qal (fun n env σ => ∃ (i3 : Nat), n = a0.fc.length - i3 ∧ (env = [(1, .ptr (qf a0)), (3, .int .i64 (i3 : Int))]) ∧ (σ = []) ∧ (i3 ≤ a0.fc.length) ∧ (qbl c (a0.fc.drop i3) = some a)) _ ⟨0, rfl, rfl, rfl, jf _, hr⟩ ?_)
 rintro n _ _ ⟨i3, rfl, rfl, rfl, g, hr⟩ m
 rcases zd a0.fc i3 g with ⟨h, b, o⟩ | ⟨q_4, h, b, q, r⟩
 rw [b, qbl] at hr
 exact fin hr
 rw [b, qbl] at hr
 refine st ?_
 refine qD (qaC (zf 7 5120 ?_))
 refine st ?_
 refine ew rfl (qbi rfl qgX) ?_
 rintro _ _ ⟨b4_4, rfl, rfl⟩
 refine qcw rfl (pf0 _) (qax (qbR 4 b4_4 rfl (pf0 _) ?_))
 refine st ?_
 refine zt 31 rfl hr (fun _ hr => ?_) (fun _ hr => ?_)
 exact fin hr
 refine st ?_
 refine zt 37 rfl hr (fun _ hr => ?_) (fun _ hr => ?_)
 exact fin hr
 refine st ?_
 refine rd rfl (qe4 rfl rfl rfl rfl) (qg 3 rfl ?_)
 refine zt 47 rfl hr (fun _ hr => ?_) (fun _ hr => ?_)
 exact fin hr
 refine st ?_
 refine zt 53 rfl hr (fun _ hr => ?_) (fun _ hr => ?_)
 exact fin hr
 refine st ?_
 refine zi 58 rfl hr (fun _ hr => ?_) (fun _ hr => ?_)
 exact fin hr
 refine st ?_
 refine zk hr rfl qhx (qht _) (fun r11 h11 hr => ?_)
 refine qg 2 rfl ?_
 refine zt 63 rfl hr (fun _ hr => ?_) (fun _ hr => ?_)
 exact fin hr
 refine qg 2 rfl ?_
 refine zk hr rfl qhx (qht _) (fun r13 h13 hr => ?_)
 refine qg 3 rfl ?_
 refine zt 69 rfl hr (fun _ hr => ?_) (fun _ hr => ?_)
 exact fin hr
 refine qg 2 rfl ?_
 refine zk hr rfl qf9 (qf7 _ _) (fun r15 h15 hr => ?_)
 refine qg 3 rfl ?_
 refine zt 75 rfl hr (fun _ hr => ?_) (fun _ hr => ?_)
 exact fin hr
 refine qg 2 rfl ?_
 refine zk hr rfl qf9 (qf7 _ _) (fun r17 h17 hr => ?_)
 refine st ?_
 refine zi 80 rfl hr (fun _ hr => ?_) (fun _ hr => ?_)
 exact fin hr
 exact fin hr
section
variable {P : Program} {f : FuncId} {fn : Func} {K : Ctx} {R : D → St → Prop} {k : List Item} {env : Env} {σ τ : St} {p : Addr → Prop} {w : World}
theorem qsF {o o' : Ob} {b : Nat} {x : Obj} (x' : Obj) (h : Inv K p (o :: σ) w) (hb : o.blk = some b) (hb' : o'.blk = some b) (hx : w.heap[b]? = some x) (hc : x.isCells = false)
 (ho : (w.putObj b x').heap[b]? = some x' → zT p w p (w.putObj b x') → zbm p (w.putObj b x') o') : Inv K p (o' :: σ) (w.putObj b x') ∧ zT p w p (w.putObj b x') := by
 have hne : ∀ a, p a → a.block ≠ b := fun a ha e => by
  obtain ⟨v, hv⟩ := h.pub a ha
  obtain ⟨y, hy, hyc⟩ := cells_of_cell hv
  rw [e, hx] at hy
  injection hy with hy
  rw [hy, hyc] at hc
  cases hc
 have hg : zT p w p (w.putObj b x') := fun a ha => ⟨ha, qiJ (World.putObj_heap_other (hne a ha))⟩
 have hat : (w.putObj b x').heap[b]? = some x' := World.putObj_heap_same (jD.1 hx).1
 refine ⟨h.write hb hb' hg (fun a ha => .inl ha) (ho hat hg) (fun a ha => ?_) rfl rfl rfl og (fun j hj => World.putObj_heap_other hj), hg⟩
 obtain ⟨v, hv⟩ := h.pub a ha
 exact ⟨v, (hg a ha).2.trans hv⟩
def zb4 (P : Program) (l : Nat) (ds : List D) (σ : St) (R : D → St → Prop) : Prop :=
 ∀ (w : World) (p : Addr → Prop) (vs : List Value), Inv (ctx w p σ) p σ w → zC p w ds vs →
  ∃ g tmps assign body, (Instr.yield l vs.toArray).run P w = .ok (.round l g tmps assign body) w ∧
   ∀ (c : Frame) (cs : List Frame), ∃ v w', Left (ctx w p σ) R (.returned v) w' ∧ Steps P (lone (Frame.round l g tmps assign body .normal) (c :: cs) w) (lone (c.finish v) cs w')
theorem zbI {f : FuncId} {ds : List D} {R R' : D → St → Prop} (h : Spec P f ds σ R) (hR : ∀ d σ', R d σ' → R' d σ') : Spec P f ds σ R' := fun w p vs hi hv => (h w p vs hi hv).mono fun e w' hl => by
 rcases hl with ⟨v, d, σ', q, rfl, h1, h2, h3⟩ | ⟨v, d, σ', q, rfl, h1, h2⟩
 exact .inl ⟨v, d, σ', q, rfl, hR d σ' h1, h2, h3⟩
 exact .inr ⟨v, d, σ', q, rfl, h1, h2⟩
theorem zah {α : Type} (a b c : α) : [a, b, c].Perm [c, a, b] := vU (l₁ := [a, b]) (l₂ := [c])
theorem qCs {o : Oper} {ρ : Operand → Option D} {l : Nat} {x : Operand} {args : Array Operand} {ats : Array TypeId} {σ1 : St} (τ : St) {ds : List D} (ho : o.op = .call { callee := .value x, args := args, argTypes := ats }) (hx : ρ x = some (.clo (.yield l) [] [])) (hO : zal ρ args.toList ds) (hσ : σ.Perm (σ1 ++ τ)) (hS : zb4 P l ds σ1 R) : zaF P o ρ σ fun d σ' => ∃ σ1', R d σ1' ∧ σ' = σ1' ++ τ := fun rd K p a w hi h => by
 have hv := hO.rep (p := p) (w := w) (a := a) fun y hy => h y (by rw [ho]; simp only [Op.operands, Call.operands]; exact vF.2 (.inr (by simpa using hy)))
 have h1 := h x (by rw [ho]; simp [Op.operands, Call.operands]) _ hx
 simp only [Rep] at h1
 obtain ⟨fv, cv, h1, h2, h3⟩ := h1
 simp only [zC] at h2 h3
 subst h2 h3
 obtain ⟨g, tmps, assign, body, hy, hR⟩ := hS w p _ ((hi.perm hσ).enter) hv
 refine ⟨fun f _ => qq1 _ f, ?_⟩
 have hrun : (o.semAt (fw rd).round a.eval).run P w = .ok (.round l g tmps assign body) w := by
  rw [Oper.semAt_eq _ _ _ fun c hc => by rw [ho] at hc; cases hc]
  unfold execOp
  rw [ho]
  simp only [resolve, h1, Deferred.ofValue, Sem.run_bind, Sem.run_pure, Result.andThen_ok, invoke]
  rw [show (#[] ++ args.map a.eval : Array Value) = (args.toList.map a.eval).toArray by apply j3.1; simp]
  exact hy
 rw [hrun]
 refine ⟨fun h => ?_, qq1 _ _, fun c cs _ => ?_⟩
 cases rd <;> cases h
 obtain ⟨v, w', hL, hs⟩ := hR c cs
 refine ⟨.returned v, w', ?_, qq9 hs⟩
 obtain ⟨v1, hv1, v', d, σ', p', q1, q2, q3, q4, q5⟩ := qtv (a := a) (dst := o.dst) hi hσ hL
 injection hv1 with hv1
 subst hv1
 exact ⟨v', d, σ', p', q1, q2, q3, q4, q5⟩
def zaD : Env → List Tmp → List D → Env
 | env, t :: ts, d :: ds => zaD ((t, d) :: env) ts ds
 | env, _, _ => env
theorem qrp : ∀ (ts : List Tmp) (ds : List D) (vs : List Value) (env : Env) (tm : Array Value), zC p w ds vs → ts.length = ds.length → (∀ t ∈ ts, t < tm.size) → zL p w env { tmps := tm, defers := [] } →
 zL p w (zaD env ts ds) { tmps := (ts.zip vs).foldl (fun tmps (t, a) => tmps.setIfInBounds t a) tm, defers := [] } ∧ ((ts.zip vs).foldl (fun tmps (t, a) => tmps.setIfInBounds t a) tm).size = tm.size
 | [], [], _, env, tm, _, _, _, h => ⟨by simpa [zaD] using h, by simp⟩
 | t :: ts, d :: ds, vs, env, tm, hv, hl, ht, h => by
  simp only [zC] at hv
  obtain ⟨v, rest, rfl, h1, h2⟩ := hv
  simp only [zaD, List.zip_cons_cons, vh]
  have h3 : zL p w ((t, d) :: env) { tmps := tm.setIfInBounds t v, defers := [] } := h.put (dst := some t) h1 (fun t' e => by injection e with e; subst e; exact ht t (jc ..))
  obtain ⟨h4, h5⟩ := qrp ts ds rest _ _ h2 (by simpa using hl) (fun t' ht' => by simpa using ht t' (je _ ht')) h3
  exact ⟨h4, by rw [h5]; simp⟩
 | [], _ :: _, _, _, _, _, hl, _, _ => by cases hl
 | _ :: _, [], _, _, _, _, hl, _, _ => by cases hl
theorem qB2 {l : Nat} {e0 : Env} {L : Loop} {ds : List D} {fnL : Func} (hps : L.params.toList.length = ds.length) (hfn : P.funcs[L.fn]? = some fnL) (hsz : fnL.ntmps ≤ L.tmps.size) (hlt : L.params.toList.all (fun t => decide (t < fnL.ntmps)) = true)
 (h : ∀ K, (K.F0 = fun b => b ∈ yM (.loop l e0 L :: σ)) → zj ⟨some l, [], [], .normal⟩ P L.fn fnL K R [.code L.assign, .beginRound, .code L.body] (zaD e0 L.params.toList ds) (.loop l e0 L :: σ)) : zb4 P l ds (.loop l e0 L :: σ) R := fun w p vs hi hv => by
 obtain ⟨hL, hE⟩ := hi.ok _ (jc ..)
 have hlen : vs.length = ds.length := by
  clear h hps hi hL hE
  induction ds generalizing vs with
  | nil => simp only [zC] at hv; subst hv; rfl
  | cons d ds ih =>
   simp only [zC] at hv
   obtain ⟨v, rest, rfl, _, h2⟩ := hv
   simp [ih rest h2]
 refine ⟨L.fn, _, L.assign, L.body, run_yield hL (by simpa [hlen] using hps.symm), fun c cs => ?_⟩
 obtain ⟨h1, h2⟩ := qrp (p := p) (w := w) L.params.toList ds vs e0 L.tmps hv hps (fun t ht => vg (by simpa using jB.1 hlt t ht) hsz) hE
 let b : Frame := { (default : Frame) with fn := L.fn, kind := .normal, roundOf := some l }
 have hz : (L.params.zip vs.toArray).foldl (fun tmps (t, a) => tmps.setIfInBounds t a) L.tmps = (L.params.toList.zip vs).foldl (fun tmps (t, a) => tmps.setIfInBounds t a) L.tmps := by
  rw [← Array.foldl_toList]; simp
 rw [hz]
 have hb0 : Frame.round l L.fn ((L.params.toList.zip vs).foldl (fun tmps (t, a) => tmps.setIfInBounds t a) L.tmps) L.assign L.body .normal = b.atR { tmps := (L.params.toList.zip vs).foldl (fun tmps (t, a) => tmps.setIfInBounds t a) L.tmps, defers := [] } [.code L.assign, .beginRound, .code L.body] := by
  simp [Frame.round, Frame.atR, b]
 rw [hb0]
 exact h (ctx w p _) rfl p _ w hi h1 (by rw [h2]; exact hsz) rfl b (c :: cs) rfl rfl rfl hfn c cs rfl
theorem qB3 {l : Nat} {ms : List Nat} {e0 : Env} {L : Loop} (hr : L.state = .ready) (hσ : σ.Perm (.loop l e0 L :: τ)) (h : zj ⟨some l, ms, [], .normal⟩ P f fn K R k env (.loop l e0 { L with state := .busy } :: τ)) : zj ⟨some l, ms, [], .normal⟩ P f fn K R (.beginRound :: k) env σ := fun p a w hi hre hn hd b cs hb hk hro hf => by
 have hi := hi.perm hσ
 obtain ⟨hL, hE⟩ := hi.ok _ (jc ..)
 obtain ⟨h1, hg⟩ := qsF (o' := .loop l e0 { L with state := .busy }) (.loop { L with state := .busy }) hi rfl rfl hL rfl fun h hg => ⟨h, fun t d ht => (hE t d ht).grow hg⟩
 exact .of_steps (.one (stepR_beginRound hro (run_beginRound hL hr))) (h p a _ h1 (hre.grow hg) hn hd b cs hb hk hro hf)
theorem qy0 {l : Nat} {ms : List Nat} {e0 : Env} {L : Loop} (hσ : σ.Perm (.loop l e0 L :: τ)) (h : R (.bool true) (.loop l e0 { L with state := .ready, pending := none } :: τ)) : zj ⟨some l, ms, [], .normal⟩ P f fn K R [] env σ := fun p a w hi hre hn hd b cs hb hk hro hf c cs' hc => by
 subst hc
 have hi := hi.perm hσ
 obtain ⟨hL, hE⟩ := hi.ok _ (jc ..)
 obtain ⟨h1, hg⟩ := qsF (o' := .loop l e0 { L with state := .ready, pending := none }) (.loop { L with state := .ready, pending := none }) hi rfl rfl hL rfl fun h hg => ⟨h, fun t d ht => (hE t d ht).grow hg⟩
 exact ⟨.bool true, _, .inl ⟨_, _, _, p, rfl, h, by simp only [Rep], h1⟩, .one (stepR_round_end hro hk (run_endRound none hL))⟩
def zbl (f : FuncId) (tmps : Array Value) (ps : Array Tmp) (assign body : Code) (D : Nat) : Loop := { state := .ready, pending := none, fn := f, tmps, params := ps, assign, body, defers := D }
def mark (D : Nat) : Ob := .aux D (.deferred (some []))
theorem quv {g : Operand} {ps : Array Tmp} {assign body : Code} {gf : FuncId} {cap : List D} {ms : List Nat} (J : Option Code → St → Prop) {σ1 : St} (τ : St) (hg : ev env g = some (.clo (.func gf) [] cap)) (ho : zam g = true) (hc : callee P gf) (hσ : σ.Perm (σ1 ++ τ))
 (hS : ∀ (l D : Nat) (tmps : Array Value), fn.ntmps ≤ tmps.size → Spec P gf (.clo (.yield l) [] [] :: cap) (.loop l env (zbl f tmps ps assign body D) :: σ1) fun _ σ' => ∃ st jump σ1', st ≠ .busy ∧ σ' = .loop l env { zbl f tmps ps assign body D with state := st, pending := jump } :: σ1' ∧ J jump σ1')
 (hk : ∀ D jump σ1', J jump σ1' → zj ⟨none, D :: ms, [], .normal⟩ P f fn K R ((jump.map Item.code).toList ++ k) env (mark D :: (σ1' ++ τ))) : zj ⟨none, ms, [], .normal⟩ P f fn K R (.code (.rangeFunc g ps assign body) :: k) env σ := fun p a w hi hre hn hd b cs hb hkd hro hf => by
 have hgv := qBb hre hg ho
 simp only [Rep] at hgv
 obtain ⟨fs, lb, hgv, hfs, hlb⟩ := hgv
 simp only [zC] at hfs
 subst hfs
 obtain ⟨W1, hW1⟩ : ∃ W1, (w.alloc (.deferred (some []))).alloc (.loop (zbl f a.tmps ps assign body w.heap.size)) = W1 := ⟨_, rfl⟩
 have hL1 : W1.heap[w.heap.size + 1]? = some (.loop (zbl f a.tmps ps assign body w.heap.size)) := by
  rw [← hW1]; have := World.alloc_heap_new (w.alloc (.deferred (some []))) (.loop (zbl f a.tmps ps assign body w.heap.size)); rwa [World.size_alloc] at this
 have hK1 : W1.heap[w.heap.size]? = some (.deferred (some [])) := by
  rw [← hW1]; exact (Below.heap_alloc _ _ _ og).trans (World.alloc_heap_new w _)
 have hgr : zT p w p W1 := by
  rw [← hW1]; exact (qfq hi.pub _).tr (qfq (hi.alloc _).pub _)
 have hi1 : Inv K p σ W1 := by rw [← hW1]; exact (hi.alloc _).alloc _
 have hnew : ∀ x, x ∈ yM σ → x < w.heap.size := fun x hx => hi.lt hx
 have hi2 : Inv K p (mark w.heap.size :: σ) W1 := hi1.more (o := mark w.heap.size) hK1 fun x hx => by
  simp only [mark, Ob.blk, Option.some.injEq] at hx
  subst hx
  exact ⟨.inl hi.size, fun h => absurd (hnew _ h) (Nat.lt_irrefl _)⟩
 have hi3 : Inv K p (.loop (w.heap.size + 1) env (zbl f a.tmps ps assign body w.heap.size) :: mark w.heap.size :: σ) W1 := hi2.more ⟨hL1, fun t d ht => (hre t d ht).grow hgr⟩ fun x hx => by
  simp only [Ob.blk, Option.some.injEq] at hx
  subst hx
  refine ⟨.inl (Nat.le_succ_of_le hi.size), fun h => ?_⟩
  simp only [yM, vt, mark, Ob.blk] at h
  rcases jh.1 h with h | h
  · omega
  · exact absurd (hnew _ h) oa
 have hp3 : (.loop (w.heap.size + 1) env (zbl f a.tmps ps assign body w.heap.size) :: mark w.heap.size :: σ : St).Perm ((.loop (w.heap.size + 1) env (zbl f a.tmps ps assign body w.heap.size) :: σ1) ++ (mark w.heap.size :: τ)) := by
  refine List.Perm.cons _ ?_
  refine (List.Perm.cons _ hσ).trans ?_
  exact (List.perm_middle (l₁ := σ1) (l₂ := τ) (a := mark w.heap.size)).symm
 have hcall := hS (w.heap.size + 1) w.heap.size a.tmps hn W1 p (.func (.yield (w.heap.size + 1)) #[] #[] :: lb) ((hi3.perm hp3).enter) (by
  simp only [zC]
  exact ⟨_, _, rfl, by simp only [Rep]; exact ⟨[], [], rfl, zC.nil _ _, zC.nil _ _⟩, hlb.grow hgr⟩)
 obtain ⟨e, w', fr, hL, hcomes, hfn, hleave⟩ := hcall (b.atR { a with defers := { target := .collected w.heap.size, args := #[] } :: a.defers } (.inRangeFunc (w.heap.size + 1) :: k) :: cs)
 obtain ⟨v, d, σ', p', rfl, ⟨st, jump, σ1', hst, rfl, hJ⟩, hv, hi'⟩ := hL.resolve_right fun ⟨_, _, _, _, _, h, _⟩ => h
 have hstep := stepR_rangeFunc (P := P) (b := b) (a := a) (k := k) (cs := cs) (w := w) (g := g) (ps := ps) (assign := assign) (body := body) (l := w.heap.size + 1) (mark := [{ target := .collected w.heap.size, args := #[] }]) (w₁ := W1) (w₁' := W1) (w₂ := W1) (d := { target := .fn (.func gf) lb.toArray, args := #[.func (.yield (w.heap.size + 1)) #[] #[]] }) (f := gf) (args := (.func (.yield (w.heap.size + 1)) #[] #[] :: lb).toArray)
  (by rw [← hW1, hro, hb]; exact run_enterLoop_outer _ _ _ _ _)
  (by simp only [resolve, hgv]; simp [go_sem])
  (by
   simp only [invoke]
   rw [qmm hc]
   congr 2
   apply j3.1
   simp)
 have hi4 := (hi3.perm hp3).leave hi'
 obtain ⟨hL4, hE4⟩ := hi4.ok _ (jc ..)
 obtain ⟨h5, hg5⟩ := qsF (o' := .aux (w.heap.size + 1) (.loop { zbl f a.tmps ps assign body w.heap.size with state := .exhausted, pending := jump })) (.loop { zbl f a.tmps ps assign body w.heap.size with state := .exhausted, pending := jump }) hi4 rfl rfl hL4 rfl fun h _ => h
 have hend := stepR_endRangeFunc (P := P) (b := b) (a := { a with defers := { target := .collected w.heap.size, args := #[] } :: a.defers }) (k := k) (cs := cs) (w := w') (run_endLoop hL4 hst)
 refine .of_steps (w1 := w'.putObj (w.heap.size + 1) (.loop { zbl f a.tmps ps assign body w.heap.size with state := .exhausted, pending := jump })) (fr1 := b.atR { a with defers := { target := .collected w.heap.size, args := #[] } :: a.defers } ((jump.map Item.code).toList ++ k)) ?_ (hk w.heap.size jump σ1' hJ p' { a with defers := { target := .collected w.heap.size, args := #[] } :: a.defers } _ ?_ ?_ hn ?_ b cs hb hkd hro hf)
 · refine (Steps.one hstep).trans (Steps.trans hcomes ((Steps.one (step_leave_returned hleave)).trans ?_))
   rw [finish_atR_inRangeFunc]
   exact Steps.one hend
 · have := h5.tail
   refine this.perm ?_
   exact List.perm_middle (l₁ := σ1') (l₂ := τ) (a := mark w.heap.size)
 · exact (((hre.grow hgr).grow hi'.gr).grow hg5 : zL p' _ env a)
 · show _ :: a.defers = _
   rw [hd]; rfl
theorem qtx : ∀ (ms : List Nat) (w : World) (fr : Frame) (cs : List Frame), Inv K p (ms.map mark ++ τ) w → fr.mode ≠ .run → fr.defers = ms.map (fun D => { target := .collected D, args := #[] }) →
 ∃ w', Steps P (lone fr cs w) (lone { fr with defers := [] } cs w') ∧ Inv K p τ w' ∧ zT p w p w'
 | [], w, fr, cs, hi, hm, hd => ⟨w, by rw [show ({ fr with defers := [] } : Frame) = fr by rw [← (show fr.defers = [] from hd)]]; exact .refl _ _, hi, zT.refl p w⟩
 | D :: ms, w, fr, cs, hi, hm, hd => by
  have hD : w.heap[D]? = some (.deferred (some [])) := hi.ok (mark D) og
  obtain ⟨h1, hg⟩ := qsF (o := mark D) (o' := .aux D (.deferred none)) (.deferred none) hi rfl rfl hD rfl fun h _ => h
  have hs := step_collected (P := P) (cs := cs) (fr := fr) (d := { target := .collected D, args := #[] }) hm hd rfl (run_takeDeferred hD)
  obtain ⟨w', h2, h3, h4⟩ := qtx ms _ { fr with defers := [] ++ ms.map (fun D => { target := .collected D, args := #[] }) } cs h1.tail hm rfl
  exact ⟨w', (Steps.one hs).trans h2, h3, hg.tr h4⟩
theorem qDN {ms : List Nat} (ds : List D) (hσ : σ.Perm (ms.map mark ++ τ)) (hds : zak P env τ fn.results.toList ds) (hR : R (yL ds) τ) : zj ⟨none, ms, [], .normal⟩ P f fn K R (.code .ret :: k) env σ := fun p a w hi hr hn hd b cs hb hk hro hf => by
 obtain ⟨w', h1, h2, h3⟩ := qtx (P := P) ms w { b.atR a (.code .ret :: k) with mode := .returning } cs (hi.perm hσ) og hd
 refine .of_steps ((Steps.one (stepR_ret hro)).trans h1) ?_
 have hr' : zL p w' env { tmps := a.tmps, defers := [] } := hr.grow h3
 obtain ⟨e, q1, q2, q3⟩ := qui (R := R) (a := { tmps := a.tmps, defers := [] }) h2 hr' rfl hf hds hR b hb hk (.code .ret :: k)
 refine ⟨e, w', { b.atR { tmps := a.tmps, defers := [] } (.code .ret :: k) with mode := .returning }, q1, ?_, hb, q2⟩
 cases e with
 | returned v => exact Steps.refl _ _
 | panicked c => exact Steps.refl _ _
 | outgrown => exact absurd rfl q3
end
def qiA (a0 : qk) : Option Int :=
 some ((wr ((a0.fg.length : Int) + (a0.ft.length : Int))))
theorem qqI (a0 : qk) (a : Int) (hr : qiA a0 = some a) : zg Tryz.prog 97 [ql a0] (.int .i64 a) := by
 unfold qiA at hr
 refine qC Tryz.func97 rfl fun K b c => ?_
 refine st ?_
 refine rd rfl (qcA rfl rfl rfl) ?_
 refine st ?_
 refine rd rfl (qe4 rfl rfl rfl rfl) ?_
 exact fin hr
def qfU (a0 : qk) : Option (List At) :=
 ((qiA a0).bind fun r2 =>
 ((zap 40 r2).bind fun c3 =>
 ((zz 40 [] a0.fg).bind fun l5 =>
 ((zz 40 l5 a0.ft).bind fun l7 =>
 some (l7)))))
theorem qko (a0 : qk) (res : List At) (hr : qfU a0 = some res) : zg Tryz.prog 63 [ql a0] (.lst (res.map zU)) := by
 unfold qfU at hr
 refine qC Tryz.func63 rfl fun K hK hF => (qaC (zf 2 4 (rd rfl (qcA rfl rfl rfl) (ew rfl (qL 48 2 (.inl rfl)) ?_))))
 rintro _ _ ⟨u2_0, rfl, rfl⟩
 refine st0 ?_
 refine zf 4 16 (qg 1 rfl ?_)
 refine zk hr rfl qqS (qqI _) (fun r2 h2 hr => ?_)
 obtain ⟨c3, h3, hr⟩ := zb hr
 refine ew rfl (qBP (f := zU) rfl qd5 rfl rfl h3) ?_
 rintro _ _ ⟨u6_3, rfl, rfl⟩
 refine st0 ?_
 refine zf 5 64 (qg 3 rfl ?_)
 obtain ⟨l5, h5, hr⟩ := zb hr
 refine ew rfl (qau (f := zU) [] a0.fg rfl qd5 rfl rfl (asl rfl) (pf0 _) rfl qen h5) ?_
 rintro _ _ ⟨u10_5, rfl, rfl⟩
 refine st0 ?_
 refine zf 5 64 (qg 3 rfl ?_)
 obtain ⟨l7, h7, hr⟩ := zb hr
 refine ew rfl (qau (f := zU) l5 a0.ft rfl qd5 rfl rfl (asl rfl) (pf0 _) rfl qen h7) ?_
 rintro _ _ ⟨u14_7, rfl, rfl⟩
 refine st ?_
 cases hr
 refine qbg Tryz.func63 _ (.cons (za rfl (Wk.own _ _)) .nil) ?_
 rfl
def yQ (k : List (qt × At) → Option (List (qt × At))) (i : Nat) (q : qk) (hs : List At) : Nat → List (qt × At) → Option (List (qt × At))
 | 0, tr => k tr
 | m + 1, tr => (zh hs (m : Int)).bind fun h => bif decide (tr.length < 1000000000) then yQ k i q hs m (tr ++ [(⟨(i : Int), (m : Int), decide ((m : Int) < (q.fg.length : Int))⟩, h)]) else none
def yW (k : List (qt × At) → Option (List (qt × At))) : List qk → List (qt × At) → Nat → Option (List (qt × At))
 | [], tr, _ => k tr
 | q :: rest, tr, i => (qfU q).bind fun hs => (yS (wr ((hs.length : Int) - 1))).bind fun m => yQ (fun tr => yW k rest tr (i + 1)) i q hs m tr
def zbC (p : qc) : Option (List (qt × At)) := yW some p.fc [] 0
theorem qBV (p : qc) (l : Nat) (Y : List (qt × At) → St → Prop)
 (hY : ∀ tr x σ, tr.length < 1000000000 → Y tr σ → zb4 Tryz.prog l [qbn x.1, zU x.2] σ fun d σ' => d = .bool true ∧ Y (tr ++ [x]) σ')
 (res : List (qt × At)) (hr : zbC p = some res) (σ0 : St) (h0 : Y [] σ0) : Spec Tryz.prog 151 [.clo (.yield l) [] [], .ptr (qf p)] σ0 fun _ σ => Y res σ := by
 unfold zbC at hr
 refine qoP [(0, .clo (.yield l) [] []), (1, .ptr (qf p))] Tryz.func151 rfl rfl fun K hK => (qaC (gr [.d, .d, .d, .d] (rd rfl (qH rfl qlQ rfl rfl rfl rfl) (rd rfl (qj1 rfl rfl (by exact qns) rfl) (rd rfl (qyA (f := ql) p.fc rfl qid rfl (asl rfl)) (rf rfl (qax ?_)))))))
 obtain ⟨kk0, hkk0, hr⟩ := exK (fun k => yW k p.fc [] 0) hr
 refine qy4 8 [] (l := p.fc.map ql) rfl rfl (asl rfl) fun hla0 => ?_
 simp only [jd] at hla0
 refine qz (fun env σ => ∃ tr, env = [] ∧ Y tr σ ∧ kk0 tr = some res) ?_ (fun HK0 => ?_)
 ·
  rintro _ σ ⟨tr, rfl, hσ, hr⟩
  rw [hkk0] at hr
  cases hr
  refine qDH Tryz.func151 _ .nil ?_
  exact hσ
 ·
  refine qmD [(0, .clo (.yield l) [] []), (8, .lst (p.fc.map ql)), (9, .int .i64 (p.fc.length : Int)), (10, .int .i64 ((0 : Nat) : Int))] (sc rfl (sc rfl (sc rfl (sc rfl (Sub.nil _))))) (qal (fun n env σ => ∃ (tr : List (qt × At)) (i : Nat), n = p.fc.length - i ∧ (env = [(0, .clo (.yield l) [] []), (8, .lst (p.fc.map ql)), (9, .int .i64 (p.fc.length : Int)), (10, .int .i64 (i : Int))]) ∧ Y tr σ ∧ i ≤ p.fc.length ∧ yW kk0 (p.fc.drop i) tr i = some res) (p.fc.length - 0) ⟨[], 0, rfl, rfl, h0, jf _, hr⟩ ?_)
  rintro n _ σ ⟨tr, i, rfl, rfl, hσ, hi0, hr⟩ IH0
  rcases zd p.fc i hi0 with ⟨ht0, hd0, he0⟩ | ⟨q, ht0, hd0, hq0, hlt0⟩
  ·
   rw [hd0, yW] at hr
   refine qaC (gr [.d] (rd rfl (qt8 rfl rfl rfl rfl) (qax (qaC (qp0 11 false rfl ht0 (qf4 rfl (qmL rfl (qmD [] (Sub.nil _) ?_))))))))
   exact HK0 _ _ ⟨tr, rfl, hσ, hr⟩
  ·
   rw [hd0, yW] at hr
   refine qaC (gr [.d] (rd rfl (qt8 rfl rfl rfl rfl) (qax (qaC (qp0 11 true rfl ht0 (qfh rfl (qjK (qaC (qD (qaC (gr [.d, .d, .d, .w, .d, .w] (rf rfl (rd rfl (qur (f := ql) p.fc rfl qid rfl (asl rfl) rfl hq0 qek rfl) ?_)))))))))))))
   refine rd rfl (qj1 rfl rfl (by exact qlg) (qek _)) (ew rfl (qbi rfl qgX) ?_)
   rintro _ _ ⟨b4, rfl, rfl⟩
   refine rc rfl (z8 rfl (qgk _ rfl rfl rfl (Wk.refl _) (pf0 _) (by exact qlg) (qek _) rfl rfl) (qax (qbR 4 b4 rfl (pf0 _) ?_)))
   obtain ⟨hs, hhs, hr⟩ := zb hr
   obtain ⟨m0, hm0, hr⟩ := zb hr
   have hm0' := qk7 hm0
   refine qaC (gr [.d, .d, .d] (rd rfl (qj1 rfl rfl (by exact qlg) (qek _)) (rd rfl (qiv rfl qkp (.oc rfl .nil) (qko _ _ hhs)) (rc rfl (qax (qaC (gr [.d, .d, .d, .d] (rf rfl (rd rfl (qyA (f := zU) hs rfl qd5 rfl (asl rfl)) (rd rfl (qe4 rfl rfl rfl rfl) (rc rfl (qax ?_))))))))))))
   obtain ⟨kk1, hkk1, hr⟩ := exK (fun k => yQ k i q hs m0 tr) hr
   refine qz (fun env σ => ∃ tr, env = [(0, .clo (.yield l) [] []), (8, .lst (p.fc.map ql)), (9, .int .i64 (p.fc.length : Int)), (10, .int .i64 (i : Int))] ∧ Y tr σ ∧ kk1 tr = some res) ?_ (fun HK1 => ?_)
   ·
    rintro _ σ ⟨tr, rfl, hσ, hr⟩
    rw [hkk1] at hr
    refine qfa (gr [.d, .d] (rd rfl (zbq (r := ((i + 1 : Nat) : Int)) rfl rfl rfl (by simp [iar]) oa) (rf rfl (qax (qmD [(0, .clo (.yield l) [] []), (8, .lst (p.fc.map ql)), (9, .int .i64 (p.fc.length : Int)), (10, .int .i64 ((i + 1 : Nat) : Int))] (sc rfl (sc rfl (sc rfl (sc rfl (Sub.nil _))))) ?_)))))
    exact IH0 _ _ _ oa ⟨tr, i + 1, rfl, rfl, hσ, by omega, hr⟩
   ·
    refine qqK 6 (d' := .int .i64 ((m0 : Int) - 1)) rfl (congrArg (D.int .i64) hm0') (qmD [(0, .clo (.yield l) [] []), (3, .int .i64 (i : Int)), (4, .ptr (ql q)), (5, .lst (hs.map zU)), (8, .lst (p.fc.map ql)), (9, .int .i64 (p.fc.length : Int)), (10, .int .i64 (i : Int)), (6, .int .i64 ((m0 : Int) - 1))] (sc rfl (sc rfl (sc rfl (sc rfl (sc rfl (sc rfl (sc rfl (sc rfl (Sub.nil _))))))))) (qal (fun n env σ => ∃ (tr : List (qt × At)) (m : Nat), (m = n) ∧ (env = [(0, .clo (.yield l) [] []), (3, .int .i64 (i : Int)), (4, .ptr (ql q)), (5, .lst (hs.map zU)), (8, .lst (p.fc.map ql)), (9, .int .i64 (p.fc.length : Int)), (10, .int .i64 (i : Int)), (6, .int .i64 ((m : Int) - 1))]) ∧ Y tr σ ∧ yQ kk1 i q hs m tr = some res) m0 ⟨tr, m0, rfl, rfl, hσ, hr⟩ ?_))
    clear hr hσ
    rintro n _ σ ⟨tr, m, rfl, rfl, hσ, hr⟩ IH1
    refine qoW 6 rfl fun hb1 => ?_
    rcases yT m with ⟨hm1, ht1⟩ | ⟨m', hm1, ht1⟩
    ·
     rw [hm1, yQ] at hr
     refine qaC (qaC (gr [.d, .d] (rf rfl (rd rfl (qt8 rfl rfl rfl rfl) (qax (qp0 21 false rfl ht1 (qf4 rfl (qmL rfl (qmD [(0, .clo (.yield l) [] []), (8, .lst (p.fc.map ql)), (9, .int .i64 (p.fc.length : Int)), (10, .int .i64 (i : Int))] (sc rfl (sc rfl (sc rfl (sc rfl (Sub.nil _))))) ?_)))))))))
     exact HK1 _ _ ⟨tr, rfl, hσ, hr⟩
    ·
     rw [hm1, yQ] at hr
     have ht1 : decide ((m' : Int) ≥ (0 : Int)) = true := decide_eq_true oa
     refine qqK 6 (d' := .int .i64 (m' : Int)) rfl (by subst hm1; congr 1; omega) ?_
     obtain ⟨h, hh, hr⟩ := zb hr
     obtain ⟨hlen, hr⟩ : tr.length < 1000000000 ∧ yQ kk1 i q hs m' (tr ++ [(⟨(i : Int), (m' : Int), decide ((m' : Int) < (q.fg.length : Int))⟩, h)]) = some res := by
      by_cases hlt : tr.length < 1000000000
      rw [decide_eq_true hlt] at hr; exact ⟨hlt, hr⟩
      rw [decide_eq_false hlt] at hr; cases hr
     refine qaC (qaC (gr [.d, .d] (rf rfl (rd rfl (qt8 rfl rfl rfl rfl) (qax (qp0 21 true rfl ht1 (qfh rfl (qjK (qaC (qD (qaC (ga [(0, .d), (1, .d), (2, .d), (3, .d), (4, .d), (5, .d), (6, .d), (7, .d), (8, .d), (9, .d), (10, .d), (11, .d), (12, .d), (13, .w), (14, .d)] (rf rfl ?_)))))))))))))
     refine rf rfl (rf rfl (rf rfl (rd rfl (qH rfl qmZ rfl rfl rfl rfl) (rd rfl (qj1 rfl rfl (by exact qnr) rfl) (rd rfl (qyA (f := zU) q.fg rfl qd5 rfl (asl rfl)) (rd rfl (qt8 rfl rfl rfl rfl) (rd rfl (qbz rfl qnC (.oc rfl (.oc rfl (.oc rfl .nil))) (.cons rfl rfl rfl (.cons rfl rfl rfl (.cons rfl rfl rfl (.nil _))))) (rf rfl (rf rfl (rd rfl (qur (f := zU) hs rfl qd5 rfl (asl rfl) rfl hh qen rfl) (rd rfl (qj1 rfl rfl (by exact qix) (qen _)) (r_y rfl rfl rfl (qCs (σ1 := σ) [] rfl rfl (.oc rfl (.oc rfl .nil)) og (hY tr (⟨(i : Int), (m' : Int), decide ((m' : Int) < (q.fg.length : Int))⟩, h) σ hlen hσ)) ?_))))))))))))
     rintro _ _ ⟨σ2, ⟨rfl, hσ2⟩, rfl⟩
     rw [jv]
     refine rd rfl (qDe rfl rfl) (qax (qf4 rfl (qjK (qfa (gr [.d, .d, .d] (rf rfl (rd rfl (zbq (r := (m' : Int) - 1) rfl rfl rfl rfl oa) (rc rfl (qax (qmD [(0, .clo (.yield l) [] []), (3, .int .i64 (i : Int)), (4, .ptr (ql q)), (5, .lst (hs.map zU)), (8, .lst (p.fc.map ql)), (9, .int .i64 (p.fc.length : Int)), (10, .int .i64 (i : Int)), (6, .int .i64 ((m' : Int) - 1))] (sc rfl (sc rfl (sc rfl (sc rfl (sc rfl (sc rfl (sc rfl (sc rfl (Sub.nil _))))))))) ?_))))))))))
     exact IH1 _ _ _ oa ⟨_, m', rfl, rfl, hσ2, hr⟩
theorem qrM (p : qc) : zg Tryz.prog 118 [qf p] (.clo (.func 151) [] [.ptr (qf p)]) := by
 refine qoP [(0, qf p)] Tryz.func118 rfl rfl fun K hK => (qaC (gr [.d, .d] (rd rfl (qcA rfl rfl rfl) (rc rfl (qax (qaC (gr [.d, .d] (rd rfl (qrf rfl rfl rfl) (rc rfl (qax (qbg Tryz.func118 _ (.cons (za rfl (Wk.refl _)) .nil) ?_)))))))))))
 rfl
def zan (name : ByteArray) (arity : Int) (x : qt × At) : Bool := x.2.n.toList == name.toList && ((x.2.ts.length : Int) == arity)
def qpa (p : qc) (name : ByteArray) (arity : Int) : Option (List qt) := (zbC p).bind fun tr => bif decide (tr.length < 1000000000) then some ((tr.filter (zan name arity)).map (·.1)) else none
def OfS (b7 : Nat) (name : ByteArray) (arity : Int) (tr : List (qt × At)) (σ : St) : Prop :=
 ∃ u, σ = [.cell b7 (.own u (((tr.filter (zan name arity)).map (·.1)).map qbn)), .row u ((tr.filter (zan name arity)).map (·.1)).length 94 3]
theorem quu (p : qc) (name : ByteArray) (arity : Int) (res : List qt) (h : qpa p name arity = some res) : zg Tryz.prog 80 [qf p, .str name, .int .i64 arity] (.lst (res.map qbn)) := by
 unfold qpa at h
 obtain ⟨tr, htr, h⟩ := zb h
 obtain ⟨hlen, rfl⟩ : tr.length < 1000000000 ∧ (tr.filter (zan name arity)).map (·.1) = res := by
  by_cases hlt : tr.length < 1000000000
  rw [decide_eq_true hlt] at h; exact ⟨hlt, Option.some.inj h⟩
  rw [decide_eq_false hlt] at h; cases h
 refine qoP [(0, qf p), (1, .str name), (2, .int .i64 arity)] Tryz.func80 rfl rfl fun K hK => (qaC (gr [.d, .d, .d, .d] (rd rfl (qcA rfl rfl rfl) (rd rfl (qcA rfl rfl rfl) (rd rfl (qcA rfl rfl rfl) (rc rfl (qax (qaC (gr [.w] (ew rfl (qwz (el := 94) (s := 3) rfl qtL) ?_))))))))))
 rintro _ _ ⟨b7, u7, rfl, rfl⟩
 refine qax (qaC (qaC (gr [.d, .d] (rd rfl (qj1 rfl rfl (by exact qmM) (qhq _)) (rd rfl (qiv rfl qsv (.oc rfl .nil) (qrM p)) (qax (qD (qmD [(4, .ptr (.str name)), (5, .ptr (.int .i64 arity)), (7, .ref b7 0 []), (11, .clo (.func 151) [] [.ptr (qf p)])] (sc rfl (sc rfl (sc rfl (sc rfl (Sub.nil _))))) ?_))))))))
 refine quv (fun j σ => j = none ∧ OfS b7 name arity tr σ) [] rfl rfl qpf (by simp; exact List.Perm.refl _) (fun l D tmps hsz => ?_) ?_
 -- the iterator
 refine zbI (qBV p l (fun tr σ => ∃ σ1, σ = .loop l [(4, .ptr (.str name)), (5, .ptr (.int .i64 arity)), (7, .ref b7 0 []), (11, .clo (.func 151) [] [.ptr (qf p)])] (zbl 80 tmps _ _ _ D) :: σ1 ∧ OfS b7 name arity tr σ1) (fun tr x σ hl hσ => ?_) tr htr _ ⟨_, rfl, u7, rfl⟩) ?_
 obtain ⟨σ1, rfl, u, rfl⟩ := hσ
 refine qB2 rfl Tryz.func80 hsz ob fun K hK => (qmD [(13, zU x.2), (12, qbn x.1), (4, .ptr (.str name)), (5, .ptr (.int .i64 arity)), (7, .ref b7 0 [])] (sc rfl (sc rfl (sc rfl (sc rfl (sc rfl (Sub.nil _)))))) (qaC (qzc ob [(0, .w), (1, .w)] rfl (ew rfl (qbi rfl qrk) ?_))))
 rintro _ _ ⟨b8, rfl, rfl⟩
 refine z8 rfl (qgk _ rfl rfl rfl (Wk.refl _) (pf0 _) (by exact qnW) (qd8 _) rfl rfl) (qax (qbR 8 b8 rfl (pf0 _) (qzc ob [(0, .w), (1, .w)] rfl (ew rfl (qbi rfl qfQ) ?_))))
 rintro _ _ ⟨b9, rfl, rfl⟩
 refine z8 rfl (qgk _ rfl rfl rfl (Wk.refl _) (pf0 _) (by exact qix) (qen _) rfl rfl) (qax (qbR 9 b9 rfl (pf0 _) ?_))
 refine qB3 rfl (pf0 _) ?_
 refine qD (qaC (qzc ob [(0, .d), (1, .d), (2, .d), (3, .d), (4, .d), (5, .d), (6, .d), (7, .d), (8, .d), (9, .d), (10, .d)] rfl (rd rfl (qH rfl qm6 rfl rfl rfl rfl) (rd rfl (qj1 rfl rfl (by exact qm4) rfl) (rd rfl (qj1 rfl rfl (by exact qm4) rfl) (rd rfl (qgC rfl rfl rfl rfl) (rf rfl ?_)))))))
 refine qsp 18 rfl (fun h18 => ?_) (fun h18 => ?_)
 refine rd rfl (qH rfl qnt rfl rfl rfl rfl) ?_
 refine rd rfl (qj1 rfl rfl (by exact qh5) rfl) (rd rfl (qyA (f := zl) x.2.ts rfl qba rfl (asl rfl)) (rd rfl (qj1 rfl rfl (by exact qfp) rfl) (rd rfl (qt8 rfl rfl rfl rfl) (rd rfl (qyo rfl rfl rfl) (qax ?_)))))
 refine qsr 24 rfl (fun h24 => ?_) (fun h24 => ?_)
 have hx : zan name arity x = true := by
  unfold zan
  rw [jm]
  exact ⟨h18, h24⟩
 refine qfh rfl ?_
 have hsz2 : (tr.filter (zan name arity)).length < 1000000000 := Nat.lt_of_le_of_lt (vm _ _) hl
 obtain ⟨l2, hl2, hl3⟩ : ∃ l2, zz 24 ((tr.filter (zan name arity)).map (·.1)) [x.1] = some l2 ∧ l2 = ((tr ++ [x]).filter (zan name arity)).map (·.1) := ⟨_, by unfold zz; exact if_pos ⟨by simp; omega, by simp; omega⟩, by simp [Ja, hx]⟩
 refine qzc ob [(0, .r), (1, .d), (2, .d), (3, .w), (4, .w)] rfl (er rfl (qd6 rfl rfl (.tail _ (.head _)) rfl rfl (by exact qj0) rfl) (rd rfl (qj1 rfl rfl (by exact qnW) (qd8 _)) (rd rfl (qe2 (f := qbn) [.tmp 26] [x.1] rfl qgW rfl rfl od od (.oc rfl .nil) qd8 (fun _ => rfl)) (ew rfl (qau (f := qbn) (by_ := 24) (r := l2) ((tr.filter (zan name arity)).map (·.1)) [x.1] rfl qgW rfl rfl (asl rfl) (zah _ _ _) rfl qd8 (by exact hl2)) ?_))))
 rintro _ _ ⟨u2, rfl, rfl⟩
 refine z8 rfl (qgk _ rfl rfl rfl (Wk.refl _) (zah _ _ _) (by exact qj0) rfl rfl rfl) (qax (qfa ?_))
 refine qy0 (zah _ _ _) ⟨rfl, _, rfl, u2, ?_⟩
 rw [← hl3]
 have hx : zan name arity x = false := by
  unfold zan
  rw [show ((x.2.ts.length : Int) == arity) = false from h24]
  exact Bool.and_false _
 refine qf4 rfl (qjK (qfa ?_))
 refine qy0 (pf0 _) ⟨rfl, _, rfl, u, ?_⟩
 simp [Ja, hx]
 have hx : zan name arity x = false := by
  unfold zan
  rw [show (x.2.n.toList == name.toList) = false from h18]
  rfl
 refine rh rfl (rh rfl (rh rfl (rh rfl (rh rfl (rd rfl (qzy rfl rfl rfl) (qax (qf4 rfl (qjK (qfa ?_)))))))))
 refine qy0 (pf0 _) ⟨rfl, _, rfl, u, ?_⟩
 simp [Ja, hx]
 rintro _ σ ⟨σ1, rfl, h1⟩
 exact ⟨.ready, none, σ1, by simp, rfl, rfl, h1⟩
 rintro D jump σ1 ⟨rfl, u, rfl⟩
 refine qfa (qaC (qzc ob [(0, .r), (1, .d)] rfl (er rfl (qd6 rfl rfl (.tail _ (.head _)) rfl rfl (by exact qj0) rfl) (rc rfl (qax ?_)))))
 refine qDN (ms := [D]) _ (pf0 _) (.cons (za rfl (Wk.own _ _)) .nil) ?_
 rfl
end
end Go.Proofs.YtamoolpdganckaaGreat
