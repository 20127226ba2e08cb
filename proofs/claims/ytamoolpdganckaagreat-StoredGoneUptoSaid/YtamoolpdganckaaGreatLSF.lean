/-
 Texts of the seat, merged.
-/
import Derived.Test.YtamoolpdganckaaGreatLSE
set_option linter.unusedVariables false
set_option linter.unusedSimpArgs false
set_option linter.unnecessarySimpa false
set_option linter.all false
set_option maxHeartbeats 8000000
namespace Go.Proofs.YtamoolpdganckaaGreat
noncomputable section
set_option maxRecDepth 100000
open Go.RowKit
theorem qke (fuel : Nat) (a0 : List (Int × T)) (a1 : T) (a2 : T) (a : (List (Int × T)) × (List Int) × Int) (hr : qcT fuel a0 a1 a2 = some a) : zg Tryz.prog 140 [.lst (a0.map zq), zl a1, zl a2] (.tup [.lst (a.1.map zq), .lst (a.2.1.map (D.int .i64)), .int .i64 a.2.2]) := by
 unfold qcT at hr
 refine qC Tryz.func140 rfl fun K b c => ?_
 refine st ?_
 refine rd rfl (qcA rfl rfl rfl) (rd rfl (qcA rfl rfl rfl) ?_)
 refine st ?_
 refine zk hr rfl qhJ (qhH fuel _ _ _) (fun r1 h1 hr => ?_)
 refine st ?_
 refine zi 15 rfl hr (fun _ hr => ?_) (fun _ hr => ?_)
 refine st ?_
 cases hr
 refine qbg Tryz.func140 _ (.cons (za rfl (Wk.full _)) (.cons (za rfl (Wk.full _)) (.cons (za rfl (Wk.refl _)) .nil))) ?_
 rfl
 refine st ?_
 refine zk hr rfl qhD (qkQ fuel _ _) (fun r3 h3 hr => ?_)
 refine zk hr rfl qeK (qfl fuel _) (fun r4 h4 hr => ?_)
 refine st ?_
 refine zi 24 rfl hr (fun _ hr => ?_) (fun _ hr => ?_)
 refine st ?_
 cases hr
 refine qbg Tryz.func140 _ (.cons (za rfl (Wk.full _)) (.cons (za rfl (Wk.full _)) (.cons (za rfl (Wk.refl _)) .nil))) ?_
 rfl
 refine st ?_
 refine rd rfl (qbz rfl qgd (.oc rfl .nil) (.cons rfl rfl rfl (.nil _))) ?_
 refine zk hr rfl qib (qh4 fuel _ _ _) (fun r6 h6 hr => ?_)
 exact fin hr
def qcF (fuel : Nat) (a0 : List (Int × T)) (a1 : Gl) : Option ((List (Int × T)) × (List Int) × Int) :=
 (bif (a1.op == (1 : Int)) then
 some (a0, [], 0)
 else
 (bif (a1.op == (2 : Int)) then
 some ([], [], 13)
 else
 (bif (a1.op == (3 : Int)) then
 ((zh a1.ts 0).bind fun q_4 =>
 ((zh a1.ts 1).bind fun q_5 =>
 ((qb8 fuel a0 q_4 q_5).bind fun r6 =>
 some (r6.1, r6.2.1, r6.2.2))))
 else
 ((zh a1.ts 0).bind fun q_7 =>
 ((zh a1.ts 1).bind fun q_8 =>
 ((qcT fuel a0 q_7 q_8).bind fun r9 =>
 (bif (r9.2.2 == (0 : Int)) then
 some (r9.1, r9.2.1, r9.2.2)
 else
 (bif (r9.2.2 == (6 : Int)) then
 some (r9.1, r9.2.1, r9.2.2)
 else
 some ([], [], 13)))))))))
theorem qkH (fuel : Nat) (a0 : List (Int × T)) (a1 : Gl) (a : (List (Int × T)) × (List Int) × Int) (hr : qcF fuel a0 a1 = some a) : zg Tryz.prog 112 [.lst (a0.map zq), zB a1] (.tup [.lst (a.1.map zq), .lst (a.2.1.map (D.int .i64)), .int .i64 a.2.2]) := by
 unfold qcF at hr
 refine qC Tryz.func112 rfl fun K b c => ?_
 refine st ?_
 refine rd rfl (qcA rfl rfl rfl) ?_
 refine st ?_
 refine zi 12 rfl hr (fun _ hr => ?_) (fun _ hr => ?_)
 refine st ?_
 cases hr
 refine qbg Tryz.func112 _ (.cons (za rfl (Wk.refl _)) (.cons (za rfl (Wk.full _)) (.cons (za rfl (Wk.refl _)) .nil))) ?_
 rfl
 refine st ?_
 refine zi 16 rfl hr (fun _ hr => ?_) (fun _ hr => ?_)
 refine st ?_
 cases hr
 refine qbg Tryz.func112 _ (.cons (za rfl (Wk.full _)) (.cons (za rfl (Wk.full _)) (.cons (za rfl (Wk.refl _)) .nil))) ?_
 rfl
 refine st ?_
 refine zi 19 rfl hr (fun _ hr => ?_) (fun _ hr => ?_)
 refine st ?_
 refine qea 16 0 (qg 3 rfl ?_)
 obtain ⟨q_4, h4, hr⟩ := zb hr
 refine st ?_
 obtain ⟨q_5, h5, hr⟩ := zb hr
 refine st ?_
 refine zk hr rfl qib (qh4 fuel _ _ _) (fun r6 h6 hr => ?_)
 exact fin hr
 refine st ?_
 refine qea 17 0 (qg 3 rfl ?_)
 obtain ⟨q_7, h7, hr⟩ := zb hr
 refine st ?_
 obtain ⟨q_8, h8, hr⟩ := zb hr
 refine st ?_
 refine zk hr rfl qkv (qke fuel _ _ _) (fun r9 h9 hr => ?_)
 refine st ?_
 refine zt 49 rfl hr (fun _ hr => ?_) (fun _ hr => ?_)
 exact fin hr
 refine st ?_
 refine zi 52 rfl hr (fun _ hr => ?_) (fun _ hr => ?_)
 exact fin hr
 refine st ?_
 cases hr
 refine qbg Tryz.func112 _ (.cons (za rfl (Wk.full _)) (.cons (za rfl (Wk.full _)) (.cons (za rfl (Wk.refl _)) .nil))) ?_
 rfl
def qdD (fuel : Nat) (a0 : List (Int × T)) (a1 : At) : Option At :=
 ((qbw fuel a0 a1.ts).bind fun r2 =>
 some ((⟨a1.n, r2⟩ : At)))
theorem qjc (fuel : Nat) (a0 : List (Int × T)) (a1 : At) (res : At) (hr : qdD fuel a0 a1 = some res) : zg Tryz.prog 142 [.lst (a0.map zq), zU a1] (zU res) := by
 unfold qdD at hr
 refine qC Tryz.func142 rfl fun K hK hF => (qaC (zf 2 4 (rd rfl (qcA rfl rfl rfl) (ew rfl (qbi rfl qfQ) ?_))))
 rintro _ _ ⟨b4_0, rfl, rfl⟩
 refine st ?_
 refine qea 8 16384 (qg 5 rfl ?_)
 refine zk hr rfl qfi (qel fuel _ _) (fun r2 h2 hr => ?_)
 refine rd rfl (qbz rfl qjH (.oc rfl (.oc rfl .nil)) (.cons rfl rfl rfl (.cons rfl rfl rfl (.nil _)))) (qcw rfl (pf0 _) (qax ?_))
 cases hr
 refine qbg Tryz.func142 _ (.cons (zp rfl (.head _) (by exact qix) rfl (Wk.refl _)) .nil) ?_
 rfl
def qbN (k : ((List (Int × At))) → Option ((List (Int × At)))) (a1 : List (Int × T)) (fuel : Nat) : List (Int × At) → (List (Int × At)) → Option ((List (Int × At)))
 | [], o4 =>
 (k o4)
 | q_8 :: rest, o4 =>
 ((qdD fuel a1 q_8.2).bind fun r9 =>
 ((zz 48 o4 [(q_8.1, r9)]).bind fun l10 =>
 (qbN k a1 fuel rest l10)))
def qet (fuel : Nat) (a0 : List (Int × At)) (a1 : List (Int × T)) : Option ((List (Int × At))) :=
 (qbN (fun o7 =>
 some (o7)) a1 fuel a0 [])
theorem qkF (fuel : Nat) (a0 : List (Int × At)) (a1 : List (Int × T)) (a : List (Int × At)) (hr : qet fuel a0 a1 = some a) : zg Tryz.prog 114 [.lst (a0.map zm), .lst (a1.map zq)] (.lst (a.map zm)) := by
 unfold qet at hr
 refine qC Tryz.func114 rfl fun K i j => (qaC (zf 1 1 (ew rfl (qL 50 3 (.inl rfl)) ?_)))
 rintro _ _ ⟨u4_0, rfl, rfl⟩
 refine st0 ?_
 refine zf 1 1 (ew rfl (qL 50 3 (.inl rfl)) ?_)
 rintro _ _ ⟨u5_1, rfl, rfl⟩
 refine st ?_
 obtain ⟨c, d, hr⟩ := exK (fun k => qbN k a1 fuel a0 []) hr
 refine qc5 0 rfl (asl rfl) fun e => ?_
 simp only [jd] at e
 refine qz (fun env σ => ∃ (o7 : List (Int × At)) (u6 : Value), env = [(5, .own u6 (o7.map zm))] ∧ σ = [.row u6 o7.length 50 3] ∧ c o7 = some a) ?_ (fun l => ?_)
 rintro _ _ ⟨o7, u6, rfl, rfl, hr⟩
 rw [d] at hr
 refine st ?_
 cases hr
 refine qbg Tryz.func114 _ (.cons (za rfl (Wk.own _ _)) .nil) ?_
 rfl
 refine qbc [0, 1, 5, 6] rfl (qcz [_] _ (pf0 _) (qal (fun n env σ => ∃ (o4 : List (Int × At)) (i5 : Nat) (u3 : Value), n = a0.length - i5 ∧ (env = [(0, .lst (a0.map zm)), (1, .lst (a1.map zq)), (5, .own u3 (o4.map zm)), (6, .int .i64 (i5 : Int))]) ∧ (σ = [.row u3 o4.length 50 3]) ∧ (i5 ≤ a0.length) ∧ (qbN c a1 fuel (a0.drop i5) o4 = some a)) _ ⟨[], 0, u5_1, rfl, rfl, rfl, jf _, hr⟩ ?_))
 rintro n _ _ ⟨o4, i5, u3, rfl, rfl, rfl, g, hr⟩ m
 rcases zd a0 i5 g with ⟨h, b, o⟩ | ⟨q_8, h, b, p, q⟩
 rw [b, qbN] at hr
 exact fin hr
 rw [b, qbN] at hr
 refine st ?_
 refine qD (qea 17 1073741824 ?_)
 refine st ?_
 refine zk hr rfl qi9 (qjc fuel _ _) (fun r9 h9 hr => ?_)
 refine rd rfl (qbz rfl qoY (.oc rfl (.oc rfl .nil)) (.cons rfl rfl rfl (.cons rfl (qen _) rfl (.nil _)))) (rd rfl (qe2 (f := zm) [.tmp 26] [(q_8.1, r9)] rfl qd3 rfl rfl od od (.oc rfl .nil) qgf (fun _ => rfl)) ?_)
 obtain ⟨l10, h10, hr⟩ := zb hr
 refine ew rfl (qau (f := zm) o4 [(q_8.1, r9)] rfl qd3 rfl rfl (asl rfl) (pf0 _) rfl qgf h10) ?_
 rintro _ _ ⟨u28_10, rfl, rfl⟩
 exact fin hr
def qbH (k : Option ((List (Int × At)) × Bool)) (a1 : Int) (a0 : List (Int × At)) : List (Int × At) → Nat → Option ((List (Int × At)) × Bool)
 | [], i1 =>
 k
 | q_2 :: rest, i1 =>
 (bif (q_2.1 == a1) then
 ((zS a0 0 (i1 : Int)).bind fun l5 =>
 ((zz 48 [] l5).bind fun l6 =>
 ((zS a0 ((i1 + 1 : Nat) : Int) (a0.length : Int)).bind fun l8 =>
 ((zz 48 l6 l8).bind fun l9 =>
 some (l9, true)))))
 else
 (qbH k a1 a0 rest (i1 + 1)))
def qeZ (a0 : List (Int × At)) (a1 : Int) : Option ((List (Int × At)) × Bool) :=
 (qbH (some (a0, false)) a1 a0 a0 0)
theorem qkf (a0 : List (Int × At)) (a1 : Int) (a : (List (Int × At)) × Bool) (hr : qeZ a0 a1 = some a) : zg Tryz.prog 148 [.lst (a0.map zm), .int .i64 a1] (.tup [.lst (a.1.map zm), .bool a.2]) := by
 unfold qeZ at hr
 refine qC Tryz.func148 rfl fun K i j => ?_
 refine st ?_
 obtain ⟨c, d, hr⟩ := exK (fun k => qbH k a1 a0 a0 0) hr
 refine qc5 0 rfl (asl rfl) fun e => ?_
 simp only [jd] at e
 refine qz (fun env σ => env = [(0, .lst (a0.map zm))] ∧ σ = [] ∧ c = some a) ?_ (fun l => ?_)
 rintro _ _ ⟨rfl, rfl, hr⟩
 rw [d] at hr
 exact fin hr
 refine qbc [0, 1, 6] rfl (qal (fun n env σ => ∃ (i1 : Nat), n = a0.length - i1 ∧ (env = [(0, .lst (a0.map zm)), (1, .int .i64 a1), (6, .int .i64 (i1 : Int))]) ∧ (σ = []) ∧ (i1 ≤ a0.length) ∧ (qbH c a1 a0 (a0.drop i1) i1 = some a)) _ ⟨0, rfl, rfl, rfl, jf _, hr⟩ ?_)
 rintro n _ _ ⟨i1, rfl, rfl, rfl, g, hr⟩ m
 rcases zd a0 i1 g with ⟨h, b, o⟩ | ⟨q_2, h, b, p, q⟩
 rw [b, qbH] at hr
 exact fin hr
 rw [b, qbH] at hr
 refine st ?_
 refine qD ?_
 refine st ?_
 refine zi 20 rfl hr (fun _ hr => ?_) (fun _ hr => ?_)
 refine st0 ?_
 refine zf 1 1 (ew rfl (qL 50 3 (.inl rfl)) ?_)
 rintro _ _ ⟨u7_3, rfl, rfl⟩
 refine st0 ?_
 refine zf 6 256 (qg 3 rfl ?_)
 obtain ⟨l5, h5, hr⟩ := zb hr
 refine rd rfl (qiR (f := zm) a0 0 (i1 : Int) rfl qd3 rfl (asl rfl) qgm (qgq rfl) qgf h5) ?_
 obtain ⟨l6, h6, hr⟩ := zb hr
 refine ew rfl (qau (f := zm) [] l5 rfl qd3 rfl rfl (asl rfl) (pf0 _) rfl qgf h6) ?_
 rintro _ _ ⟨u25_6, rfl, rfl⟩
 refine st0 ?_
 refine zf 8 1024 ?_
 refine st ?_
 obtain ⟨l8, h8, hr⟩ := zb hr
 refine rd rfl (qiR (f := zm) a0 ((i1 + 1 : Nat) : Int) (a0.length : Int) rfl qd3 rfl (asl rfl) (qnD rfl) qnX qgf h8) ?_
 obtain ⟨l9, h9, hr⟩ := zb hr
 refine ew rfl (qau (f := zm) l6 l8 rfl qd3 rfl rfl (asl rfl) (pf0 _) rfl qgf h9) ?_
 rintro _ _ ⟨u31_9, rfl, rfl⟩
 refine st ?_
 cases hr
 refine qbg Tryz.func148 _ (.cons (za rfl (Wk.own _ _)) (.cons (za rfl (Wk.refl _)) .nil)) ?_
 rfl
 exact fin hr
def qao (k : Bool → Option (List qi)) (a1 : List Int) : List Int → Bool → Option (List qi)
 | [], a10 =>
 (k a10)
 | q_17 :: rest, a10 =>
 (bif a10 then
 ((qeb a1 q_17).bind fun r19 =>
 (qao k a1 rest r19))
 else
 (qao k a1 rest false))
def qan (k : List qi → Option (List qi)) (a1 : List Int) : List qi → List qi → Option (List qi)
 | [], o4 =>
 (k o4)
 | q_8 :: rest, o4 =>
 (qao (fun a13 =>
 (bif a13 then
 ((zz 32 o4 [q_8]).bind fun l15 =>
 (qan k a1 rest l15))
 else
 (qan k a1 rest o4))) a1 q_8.fm true)
def qc8 (a0 : List qi) (a1 : List Int) : Option (List qi) :=
 (qan (fun o7 =>
 some (o7)) a1 a0 [])
theorem qkS (a0 : List qi) (a1 : List Int) (a : List qi) (hr : qc8 a0 a1 = some a) : zg Tryz.prog 149 [.lst (a0.map qe), .lst (a1.map (D.int .i64))] (.lst (a.map qe)) := by
 unfold qc8 at hr
 refine qC Tryz.func149 rfl fun K s t => (qaC (zf 1 1 (ew rfl (qL 168 2 (.inl rfl)) ?_)))
 rintro _ _ ⟨u4_0, rfl, rfl⟩
 refine st0 ?_
 refine zf 1 1 (ew rfl (qL 168 2 (.inl rfl)) ?_)
 rintro _ _ ⟨u5_1, rfl, rfl⟩
 refine st ?_
 obtain ⟨d, g, hr⟩ := exK (fun k => qan k a1 a0 []) hr
 refine qc5 0 rfl (asl rfl) fun h => ?_
 simp only [jd] at h
 refine qz (fun env σ => ∃ (o7 : List qi) (u6 : Value), env = [(5, .own u6 (o7.map qe))] ∧ σ = [.row u6 o7.length 168 2] ∧ d o7 = some a) ?_ (fun u => ?_)
 rintro _ _ ⟨o7, u6, rfl, rfl, hr⟩
 rw [g] at hr
 refine st ?_
 cases hr
 refine qbg Tryz.func149 _ (.cons (za rfl (Wk.own _ _)) .nil) ?_
 rfl
 refine qbc [0, 1, 5, 6] rfl (qcz [_] _ (pf0 _) (qal (fun n env σ => ∃ (o4 : List qi) (i5 : Nat) (u3 : Value), n = a0.length - i5 ∧ (env = [(0, .lst (a0.map qe)), (1, .lst (a1.map (D.int .i64))), (5, .own u3 (o4.map qe)), (6, .int .i64 (i5 : Int))]) ∧ (σ = [.row u3 o4.length 168 2]) ∧ (i5 ≤ a0.length) ∧ (qan d a1 (a0.drop i5) o4 = some a)) _ ⟨[], 0, u5_1, rfl, rfl, rfl, jf _, hr⟩ ?_))
 rintro n _ _ ⟨o4, i5, u3, rfl, rfl, rfl, i, hr⟩ v
 rcases zd a0 i5 i with ⟨j, b, w⟩ | ⟨q_8, j, b, m, x⟩
 rw [b, qan] at hr
 exact fin hr
 rw [b, qan] at hr
 refine st ?_
 refine qD ?_
 refine st ?_
 obtain ⟨e, o, hr⟩ := exK (fun k => qao k a1 q_8.fm true) hr
 refine qC3 0 (l := q_8.fm.map (D.int .i64)) rfl (.sub (.el .refl (asl rfl) (jI (qdB m))) [1] rfl) (asl rfl) fun p => ?_
 simp only [jd] at p
 refine qz (fun env σ => ∃ (a13 : Bool) (u12 : Value), env = [(0, .lst (a0.map qe)), (1, .lst (a1.map (D.int .i64))), (5, .own u12 (o4.map qe)), (6, .int .i64 (i5 : Int)), (7, .bool a13)] ∧ σ = [.row u12 o4.length 168 2] ∧ e a13 = some a) ?_ (fun y => ?_)
 rintro _ _ ⟨a13, u12, rfl, rfl, hr⟩
 rw [o] at hr
 refine st ?_
 refine zi 38 rfl hr (fun _ hr => ?_) (fun _ hr => ?_)
 refine qfh rfl (zf 8 4096 ?_)
 refine st ?_
 refine rd rfl (qe2 (f := qe) [.tmp 43] [q_8] rfl qeY rfl rfl od od (.oc rfl .nil) qeO (fun _ => rfl)) ?_
 obtain ⟨l15, h15, hr⟩ := zb hr
 refine ew rfl (qau (f := qe) o4 [q_8] rfl qeY rfl rfl (asl rfl) (pf0 _) rfl qeO h15) ?_
 rintro _ _ ⟨u45_15, rfl, rfl⟩
 exact fin hr
 exact fin hr
 refine qbc [0, 1, 5, 6, 7, 8] rfl (qal (fun n env σ => ∃ (a10 : Bool) (k11 : Nat) (u9 : Value), n = q_8.fm.length - k11 ∧ (env = [(0, .lst (a0.map qe)), (1, .lst (a1.map (D.int .i64))), (5, .own u9 (o4.map qe)), (6, .int .i64 (i5 : Int)), (7, .bool a10), (8, .int .i64 (k11 : Int))]) ∧ (σ = [.row u9 o4.length 168 2]) ∧ (k11 ≤ q_8.fm.length) ∧ (qao e a1 (q_8.fm.drop k11) a10 = some a)) _ ⟨true, 0, u3, rfl, rfl, rfl, jf _, hr⟩ ?_)
 rintro n _ _ ⟨a10, k11, u9, rfl, rfl, rfl, q, hr⟩ z
 rcases zd q_8.fm k11 q with ⟨r, c, A⟩ | ⟨q_17, r, c, B, C⟩
 rw [c, qao] at hr
 exact fin hr
 rw [c, qao] at hr
 refine st ?_
 refine qD ?_
 refine st ?_
 refine zt 26 rfl hr (fun _ hr => ?_) (fun _ hr => ?_)
 refine st ?_
 refine zk hr rfl qii (qil _ _) (fun r19 h19 hr => ?_)
 exact fin hr
 exact fin hr
def qa6 (k : Int → Option ((List qi) × Int)) (a1 : qi) : List qi → Nat → Option ((List qi) × Int)
 | [], k13 =>
 (k (k13 : Int))
 | q_24 :: rest, k13 =>
 ((qbW q_24 a1).bind fun r25 =>
 (bif (decide (r25 < (0 : Int))) then
 (qa6 k a1 rest (k13 + 1))
 else
 (k (k13 : Int))))
def qdz (a0 : List qi) (a1 : qi) : Option ((List qi) × Int) :=
 ((qcD a0).bind fun r2 =>
 (bif (!r2) then
 some ([], 2)
 else
 ((qda a1).bind fun r5 =>
 (bif (!r5) then
 some ([], 2)
 else
 ((qcC a0 a1).bind fun r8 =>
 (bif r8 then
 some ([], 8)
 else
 (bif (decide ((a0.length : Int) ≥ (5000 : Int))) then
 some ([], 6)
 else
 (qa6 (fun k14 =>
 ((zS a0 0 k14).bind fun l16 =>
 ((zz 32 [] l16).bind fun l17 =>
 ((zz 32 l17 [a1]).bind fun l19 =>
 ((zS a0 k14 (a0.length : Int)).bind fun l21 =>
 ((zz 32 l19 l21).bind fun l22 =>
 some (l22, 0))))))) a1 a0 0))))))))
theorem ql1 (a0 : List qi) (a1 : qi) (a : (List qi) × Int) (hr : qdz a0 a1 = some a) : zg Tryz.prog 150 [.lst (a0.map qe), qe a1] (.tup [.lst (a.1.map qe), .int .i64 a.2]) := by
 unfold qdz at hr
 refine qC Tryz.func150 rfl fun K i j => (qaC (zf 3 4 (rd rfl (qcA rfl rfl rfl) (ew rfl (qL 168 2 (.inl rfl)) ?_))))
 rintro _ _ ⟨u4_0, rfl, rfl⟩
 refine st ?_
 refine qD ?_
 refine st ?_
 refine zk hr rfl qhy (qhv _) (fun r2 h2 hr => ?_)
 refine qg 2 rfl ?_
 refine zt 12 rfl hr (fun _ hr => ?_) (fun _ hr => ?_)
 refine st0 ?_
 refine zf 2 1 (ew rfl (qL 168 2 (.inl rfl)) ?_)
 rintro _ _ ⟨u4_3, rfl, rfl⟩
 refine st ?_
 cases hr
 refine qbg Tryz.func150 _ (.cons (za rfl (Wk.own _ _)) (.cons (za rfl (Wk.refl _)) .nil)) ?_
 rfl
 refine qg 1 rfl ?_
 refine zk hr rfl qhN (qhK _) (fun r5 h5 hr => ?_)
 refine st ?_
 refine zi 8 rfl hr (fun _ hr => ?_) (fun _ hr => ?_)
 refine st0 ?_
 refine zf 2 1 (ew rfl (qL 168 2 (.inl rfl)) ?_)
 rintro _ _ ⟨u4_6, rfl, rfl⟩
 refine st ?_
 cases hr
 refine qbg Tryz.func150 _ (.cons (za rfl (Wk.own _ _)) (.cons (za rfl (Wk.refl _)) .nil)) ?_
 rfl
 refine st ?_
 refine zk hr rfl qih (qin _ _) (fun r8 h8 hr => ?_)
 refine st ?_
 refine zi 17 rfl hr (fun _ hr => ?_) (fun _ hr => ?_)
 refine st0 ?_
 refine zf 2 1 (ew rfl (qL 168 2 (.inl rfl)) ?_)
 rintro _ _ ⟨u4_9, rfl, rfl⟩
 refine st ?_
 cases hr
 refine qbg Tryz.func150 _ (.cons (za rfl (Wk.own _ _)) (.cons (za rfl (Wk.refl _)) .nil)) ?_
 rfl
 refine st ?_
 refine zi 21 rfl hr (fun _ hr => ?_) (fun _ hr => ?_)
 refine st0 ?_
 refine zf 2 1 (ew rfl (qL 168 2 (.inl rfl)) ?_)
 rintro _ _ ⟨u4_11, rfl, rfl⟩
 refine st ?_
 cases hr
 refine qbg Tryz.func150 _ (.cons (za rfl (Wk.own _ _)) (.cons (za rfl (Wk.refl _)) .nil)) ?_
 rfl
 refine st ?_
 obtain ⟨d, e, hr⟩ := exK (fun k => qa6 k a1 a0 0) hr
 refine qc5 0 rfl (asl rfl) fun g => ?_
 simp only [jd] at g
 refine qz (fun env σ => ∃ (k14 : Int), env = [(0, .lst (a0.map qe)), (3, .ptr (qe a1)), (6, .int .i64 k14)] ∧ σ = [] ∧ d k14 = some a) ?_ (fun l => ?_)
 rintro _ _ ⟨k14, rfl, rfl, hr⟩
 rw [e] at hr
 refine qaC (zf 6 257 (ew rfl (qnj rfl qeY rfl) ?_))
 rintro _ _ ⟨u40_14, rfl, rfl⟩
 refine qg 2 rfl ?_
 obtain ⟨l16, h16, hr⟩ := zb hr
 refine rd rfl (qiR (f := qe) a0 0 k14 rfl qeY rfl (asl rfl) qgm (qgq rfl) qeO h16) ?_
 obtain ⟨l17, h17, hr⟩ := zb hr
 refine ew rfl (qau (f := qe) [] l16 rfl qeY rfl rfl (asl rfl) (pf0 _) rfl qeO h17) ?_
 rintro _ _ ⟨u44_17, rfl, rfl⟩
 refine st0 ?_
 refine zf 5 64 (qg 2 rfl (rd rfl (qe2 (f := qe) [.tmp 46] [a1] rfl qeY rfl rfl od od (.oc rfl .nil) qeO (fun _ => rfl)) ?_))
 obtain ⟨l19, h19, hr⟩ := zb hr
 refine ew rfl (qau (f := qe) l17 [a1] rfl qeY rfl rfl (asl rfl) (pf0 _) rfl qeO h19) ?_
 rintro _ _ ⟨u48_19, rfl, rfl⟩
 refine st0 ?_
 refine zf 6 256 (qg 3 rfl ?_)
 obtain ⟨l21, h21, hr⟩ := zb hr
 refine rd rfl (qiR (f := qe) a0 k14 (a0.length : Int) rfl qeY rfl (asl rfl) (qnD rfl) qnX qeO h21) ?_
 obtain ⟨l22, h22, hr⟩ := zb hr
 refine ew rfl (qau (f := qe) l19 l21 rfl qeY rfl rfl (asl rfl) (pf0 _) rfl qeO h22) ?_
 rintro _ _ ⟨u53_22, rfl, rfl⟩
 refine st ?_
 cases hr
 refine qbg Tryz.func150 _ (.cons (za rfl (Wk.own _ _)) (.cons (za rfl (Wk.refl _)) .nil)) ?_
 rfl
 refine qbc [0, 3, 6] rfl (qcz [] _ (pf0 _) (qal (fun n env σ => ∃ (k13 : Nat), n = a0.length - k13 ∧ (env = [(0, .lst (a0.map qe)), (3, .ptr (qe a1)), (6, .int .i64 (k13 : Int))]) ∧ (σ = []) ∧ (k13 ≤ a0.length) ∧ (qa6 d a1 (a0.drop k13) k13 = some a)) _ ⟨0, rfl, rfl, rfl, jf _, hr⟩ ?_))
 rintro n _ _ ⟨k13, rfl, rfl, rfl, h, hr⟩ m
 rcases zd a0 k13 h with ⟨b, c, o⟩ | ⟨q_24, b, c, p, q⟩
 rw [c, qa6] at hr
 refine st ?_
 refine qea 13 0 (qg 2 rfl (qjP rfl (qg 2 rfl (qhW 29 false rfl b ?_))))
 exact fin hr
 rw [c, qa6] at hr
 refine st ?_
 refine qea 13 0 (qg 2 rfl (qjP rfl (qg 2 rfl (qhW 29 true rfl b ?_))))
 refine st ?_
 refine zk hr rfl qfF (qfz _ _) (fun r25 h25 hr => ?_)
 refine st ?_
 refine zi 37 rfl hr (fun _ hr => ?_) (fun _ hr => ?_)
 refine st ?_
 refine qD ?_
 exact fin hr
 exact fin hr
def qaJ (k : List Gl → Option ((List (Int × At)) × (List qi) × (List Gl) × Int)) (a3 : List (Int × T)) (a4 : Int) (fuel : Nat) : List Gl → List Gl → Option ((List (Int × At)) × (List qi) × (List Gl) × Int)
 | [], b19 =>
 (k b19)
 | q_23 :: rest, b19 =>
 ((qcv fuel a3 a4 q_23).bind fun r24 =>
 ((qhY r24).bind fun r26 =>
 (bif (!r26) then
 some ([], [], [], 6)
 else
 ((zz 48 b19 [r24]).bind fun l29 =>
 (qaJ k a3 a4 fuel rest l29)))))
def qdr (k : List qi → Option ((List (Int × At)) × (List qi) × (List Gl) × Int)) (a6 : List Int) (q_2 : qk) (r15 : List qi) (a5 : Int) : Option ((List (Int × At)) × (List qi) × (List Gl) × Int) :=
 ((qO q_2).bind fun r31 =>
 (bif r31 then
 ((qdz r15 (⟨a5, a6⟩ : qi)).bind fun r33 =>
 (bif (r33.2 != (0 : Int)) then
 some ([], [], [], 6)
 else
 (k r33.1)))
 else
 (k r15)))
def qah (k : List Int → Option ((List (Int × At)) × (List qi) × (List Gl) × Int)) : List (Int × At) → List Int → Option ((List (Int × At)) × (List qi) × (List Gl) × Int)
 | [], l11 =>
 (k l11)
 | q_36 :: rest, l11 =>
 ((zz 8 l11 [q_36.1]).bind fun l37 =>
 (qah k rest l37))
def qbv (k : ((List (Int × At))) → Option ((List (Int × At)) × (List qi) × (List Gl) × Int)) (a6 : List Int) : Nat → (List (Int × At)) → Int → Option ((List (Int × At)) × (List qi) × (List Gl) × Int)
 | 0, l6, i7 =>
 (k l6)
 | rest + 1, l6, i7 =>
 ((zh a6 i7).bind fun q_39 =>
 ((qeZ l6 q_39).bind fun r40 =>
 (qbv k a6 rest r40.1 (i7 + 1))))
def qck (fuel : Nat) (a0 : qc) (a1 : List (Int × At)) (a2 : List qi) (a3 : List (Int × T)) (a4 : Int) (a5 : Int) (a6 : List Int) : Option ((List (Int × At)) × (List qi) × (List Gl) × Int) :=
 ((zh a0.fc a5).bind fun q_2 =>
 (bif (decide ((wr (a4 + q_2.fL)) > (1048576 : Int))) then
 some ([], [], [], 6)
 else
 (qbv (fun l8 =>
 (qah (fun l14 =>
 ((qc8 a2 l14).bind fun r15 =>
 (qdr (fun h16 =>
 (qaJ (fun b22 =>
 some (l8, h16, b22, 0)) a3 a4 fuel q_2.fp [])) a6 q_2 r15 a5))) l8 [])) a6 ((a6.length : Int) - (q_2.fg.length : Int) : Int).toNat a1 (q_2.fg.length : Int))))
theorem qjZ (fuel : Nat) (a0 : qc) (a1 : List (Int × At)) (a2 : List qi) (a3 : List (Int × T)) (a4 : Int) (a5 : Int) (a6 : List Int) (a : (List (Int × At)) × (List qi) × (List Gl) × Int) (hr : qck fuel a0 a1 a2 a3 a4 a5 a6 = some a) : zg Tryz.prog 117 [qf a0, .lst (a1.map zm), .lst (a2.map qe), .lst (a3.map zq), .int .i64 a4, .int .i64 a5, .lst (a6.map (D.int .i64))] (.tup [.lst (a.1.map zm), .lst (a.2.1.map qe), .lst (a.2.2.1.map zB), .int .i64 a.2.2.2]) := by
 unfold qck at hr
 refine qC Tryz.func117 rfl fun K z A => (qaC (zf 5 64 (rd rfl (qcA rfl rfl rfl) (qg 2 rfl (ew rfl (qL 55 3 (.inl rfl)) ?_)))))
 rintro _ _ ⟨u16_0, rfl, rfl⟩
 refine st0 ?_
 refine zf 7 5120 (qg 3 rfl ?_)
 obtain ⟨q_2, h2, hr⟩ := zb hr
 refine st ?_
 refine ew rfl (qbi rfl qgX) ?_
 rintro _ _ ⟨b18_2, rfl, rfl⟩
 refine qcw rfl (pf0 _) (qax (qbR 18 b18_2 rfl (pf0 _) ?_))
 refine st ?_
 refine rd rfl (qe4 rfl rfl rfl rfl) ?_
 refine st ?_
 refine zi 36 rfl hr (fun _ hr => ?_) (fun _ hr => ?_)
 refine st0 ?_
 refine zf 4 16 (qg 2 rfl (ew rfl (qL 55 3 (.inl rfl)) ?_))
 rintro _ _ ⟨u16_4, rfl, rfl⟩
 refine st ?_
 cases hr
 refine qbg Tryz.func117 _ (.cons (za rfl (Wk.full _)) (.cons (za rfl (Wk.full _)) (.cons (za rfl (Wk.own _ _)) (.cons (za rfl (Wk.refl _)) .nil)))) ?_
 rfl
 refine st ?_
 obtain ⟨e, i, hr⟩ := exK (fun k => qbv k a6 ((a6.length : Int) - (q_2.fg.length : Int) : Int).toNat a1 (q_2.fg.length : Int)) hr
 refine qz (fun env σ => ∃ (l8 : List (Int × At)), env = [(1, .lst (l8.map zm)), (2, .lst (a2.map qe)), (3, .lst (a3.map zq)), (4, .int .i64 a4), (5, .int .i64 a5), (6, .lst (a6.map (D.int .i64))), (18, .ptr (ql q_2))] ∧ σ = [] ∧ e l8 = some a) ?_ (fun B => ?_)
 rintro _ _ ⟨l8, rfl, rfl, hr⟩
 rw [i] at hr
 refine qaC (zf 1 1 (ew rfl (qL 3 1 (.inl rfl)) ?_))
 rintro _ _ ⟨u20_8, rfl, rfl⟩
 refine st ?_
 obtain ⟨g, j, hr⟩ := exK (fun k => qah k l8 []) hr
 refine qc5 1 rfl (asl rfl) fun m => ?_
 simp only [jd] at m
 refine qz (fun env σ => ∃ (l14 : List Int) (u13 : Value), env = [(1, .lst (l8.map zm)), (2, .lst (a2.map qe)), (3, .lst (a3.map zq)), (4, .int .i64 a4), (5, .int .i64 a5), (6, .lst (a6.map (D.int .i64))), (18, .ptr (ql q_2)), (20, .own u13 (l14.map (D.int .i64)))] ∧ σ = [.row u13 l14.length 3 1] ∧ g l14 = some a) ?_ (fun C => ?_)
 rintro _ _ ⟨l14, u13, rfl, rfl, hr⟩
 rw [j] at hr
 refine st ?_
 obtain ⟨r15, h15, hr⟩ := zb hr
 refine rd rfl (qiv rfl qkR (.oc rfl (.cons rfl (Wk.own _ _) .nil)) (qkS _ _ _ h15)) (qg 1 rfl (qax ?_))
 obtain ⟨kkJ0, hkkJ0, hr⟩ := exK (fun k => qdr k a6 q_2 r15 a5) hr
 refine qpt (fun env σ => ∃ (h16 : List qi), env = [(1, .lst (l8.map zm)), (2, .lst (h16.map qe)), (3, .lst (a3.map zq)), (4, .int .i64 a4), (18, .ptr (ql q_2))] ∧ σ = [] ∧ kkJ0 h16 = some a) ?_ (fun HKJ0 => ?_)
 rintro _ _ ⟨h16, rfl, rfl, hr⟩
 rw [hkkJ0] at hr
 refine qaC (zf 1 1 (ew rfl (qL 55 3 (.inl rfl)) ?_))
 rintro _ _ ⟨u24_16, rfl, rfl⟩
 refine st ?_
 obtain ⟨h, o, hr⟩ := exK (fun k => qaJ k a3 a4 fuel q_2.fp []) hr
 refine qpE 18 [4] (l := q_2.fp.map zB) rfl rfl (asl rfl) fun p => ?_
 simp only [jd] at p
 refine qz (fun env σ => ∃ (b22 : List Gl) (u21 : Value), env = [(1, .lst (l8.map zm)), (2, .lst (h16.map qe)), (24, .own u21 (b22.map zB))] ∧ σ = [.row u21 b22.length 55 3] ∧ h b22 = some a) ?_ (fun E => ?_)
 rintro _ _ ⟨b22, u21, rfl, rfl, hr⟩
 rw [o] at hr
 refine st ?_
 cases hr
 refine qbg Tryz.func117 _ (.cons (za rfl (Wk.refl _)) (.cons (za rfl (Wk.refl _)) (.cons (za rfl (Wk.own _ _)) (.cons (za rfl (Wk.refl _)) .nil)))) ?_
 rfl
 refine qbc [1, 2, 3, 4, 18, 24, 25] rfl (qal (fun n env σ => ∃ (b19 : List Gl) (i20 : Nat) (u18 : Value), n = q_2.fp.length - i20 ∧ (env = [(1, .lst (l8.map zm)), (2, .lst (h16.map qe)), (3, .lst (a3.map zq)), (4, .int .i64 a4), (18, .ptr (ql q_2)), (24, .own u18 (b19.map zB)), (25, .int .i64 (i20 : Int))]) ∧ (σ = [.row u18 b19.length 55 3]) ∧ (i20 ≤ q_2.fp.length) ∧ (qaJ h a3 a4 fuel (q_2.fp.drop i20) b19 = some a)) _ ⟨[], 0, u24_16, rfl, rfl, rfl, jf _, hr⟩ ?_)
 rintro n _ _ ⟨b19, i20, u18, rfl, rfl, rfl, q, hr⟩ F
 rcases zd q_2.fp i20 q with ⟨s, b, G⟩ | ⟨q_23, s, b, H, I⟩
 rw [b, qaJ] at hr
 exact fin hr
 rw [b, qaJ] at hr
 refine st ?_
 refine qD (qaC (zf 10 327680 ?_))
 refine st ?_
 refine zk hr rfl qfZ (qf3 fuel _ _ _) (fun r24 h24 hr => ?_)
 refine ew rfl (qbi rfl qiw) ?_
 rintro _ _ ⟨b26_24, rfl, rfl⟩
 refine qcw rfl (pf0 _) (qax (qbR 26 b26_24 rfl (pf0 _) ?_))
 refine st ?_
 obtain ⟨r26, h26, hr⟩ := zb hr
 refine qem rfl qco (qcm _ _ h26) ?_
 refine st ?_
 refine zi 102 rfl hr (fun _ hr => ?_) (fun _ hr => ?_)
 refine st0 ?_
 refine zf 4 16 (qg 2 rfl (ew rfl (qL 55 3 (.inl rfl)) ?_))
 rintro _ _ ⟨u16_27, rfl, rfl⟩
 refine st ?_
 cases hr
 refine qbg Tryz.func117 _ (.cons (za rfl (Wk.full _)) (.cons (za rfl (Wk.full _)) (.cons (za rfl (Wk.own _ _)) (.cons (za rfl (Wk.refl _)) .nil)))) ?_
 rfl
 refine st0 ?_
 refine zf 5 64 (qg 2 rfl (rd rfl (qe2 (f := zB) [.tmp 104] [r24] rfl qfL rfl rfl od od (.oc rfl .nil) qcJ (fun _ => rfl)) ?_))
 obtain ⟨l29, h29, hr⟩ := zb hr
 refine ew rfl (qau (f := zB) b19 [r24] rfl qfL rfl rfl (asl rfl) (pf0 _) rfl qcJ h29) ?_
 rintro _ _ ⟨u106_29, rfl, rfl⟩
 exact fin hr
 unfold qdr at hr
 refine st ?_
 refine zk hr rfl qe5 (qe3 _) (fun r31 h31 hr => ?_)
 refine qax ?_
 refine zi 73 rfl hr (fun _ hr => ?_) (fun _ hr => ?_)
 refine st ?_
 refine rd rfl (qbz rfl qpZ (.oc rfl (.oc rfl .nil)) (.cons rfl rfl rfl (.cons rfl rfl rfl (.nil _)))) ?_
 refine zk hr rfl qma (ql1 _ _) (fun r33 h33 hr => ?_)
 refine st ?_
 refine zi 83 rfl hr (fun _ hr => ?_) (fun _ hr => ?_)
 refine st0 ?_
 refine zf 4 16 (qg 2 rfl (ew rfl (qL 55 3 (.inl rfl)) ?_))
 rintro _ _ ⟨u16_34, rfl, rfl⟩
 refine st ?_
 cases hr
 refine qbg Tryz.func117 _ (.cons (za rfl (Wk.full _)) (.cons (za rfl (Wk.full _)) (.cons (za rfl (Wk.own _ _)) (.cons (za rfl (Wk.refl _)) .nil)))) ?_
 rfl
 refine qf4 rfl (qjK (zf 2 0 (qg 2 rfl (qax (qbc [1, 2, 3, 4, 18] rfl (qcz [] _ (pf0 _) ?_))))))
 exact HKJ0 _ _ ⟨r33.1, rfl, rfl, hr⟩
 refine qf4 rfl (qjK (qbc [1, 2, 3, 4, 18] rfl (qcz [] _ (pf0 _) ?_)))
 exact HKJ0 _ _ ⟨r15, rfl, rfl, hr⟩
 refine qbc [1, 2, 3, 4, 5, 6, 18, 20, 21] rfl (qal (fun n env σ => ∃ (l11 : List Int) (i12 : Nat) (u10 : Value), n = l8.length - i12 ∧ (env = [(1, .lst (l8.map zm)), (2, .lst (a2.map qe)), (3, .lst (a3.map zq)), (4, .int .i64 a4), (5, .int .i64 a5), (6, .lst (a6.map (D.int .i64))), (18, .ptr (ql q_2)), (20, .own u10 (l11.map (D.int .i64))), (21, .int .i64 (i12 : Int))]) ∧ (σ = [.row u10 l11.length 3 1]) ∧ (i12 ≤ l8.length) ∧ (qah g (l8.drop i12) l11 = some a)) _ ⟨[], 0, u20_8, rfl, rfl, rfl, jf _, hr⟩ ?_)
 rintro n _ _ ⟨l11, i12, u10, rfl, rfl, rfl, t, hr⟩ J
 rcases zd l8 i12 t with ⟨u, c, L⟩ | ⟨q_36, u, c, M, N⟩
 rw [c, qah] at hr
 exact fin hr
 rw [c, qah] at hr
 refine st ?_
 refine qD (zf 9 16384 ?_)
 refine st ?_
 refine rd rfl (qe2 (f := (D.int .i64)) [.tmp 66] [q_36.1] rfl qcO rfl rfl od od (.oc rfl .nil) (fun _ => rfl) (fun _ => rfl)) ?_
 obtain ⟨l37, h37, hr⟩ := zb hr
 refine ew rfl (qau (f := (D.int .i64)) l11 [q_36.1] rfl qcO rfl rfl (asl rfl) (pf0 _) rfl (fun _ => rfl) h37) ?_
 rintro _ _ ⟨u68_37, rfl, rfl⟩
 exact fin hr
 refine qbc [2, 3, 4, 5, 6, 18, 1, 19] rfl (qcz [] _ (pf0 _) (qal (fun n env σ => ∃ (l6 : List (Int × At)) (i7 : Int) (m0 : Nat), (m0 = n) ∧ (env = [(2, .lst (a2.map qe)), (3, .lst (a3.map zq)), (4, .int .i64 a4), (5, .int .i64 a5), (6, .lst (a6.map (D.int .i64))), (18, .ptr (ql q_2)), (1, .lst (l6.map zm)), (19, .int .i64 i7)]) ∧ (σ = []) ∧ (m0 = ((a6.length : Int) - i7 : Int).toNat) ∧ (qbv e a6 m0 l6 i7 = some a)) _ ⟨a1, (q_2.fg.length : Int), _, rfl, rfl, rfl, rfl, hr⟩ ?_))
 rintro n _ _ ⟨l6, i7, m0, rfl, rfl, rfl, v, hr⟩ w
 refine qoW 19 rfl fun O => (qc5 6 rfl (asl rfl) fun x => ?_)
 simp only [jd] at x
 rcases zaU i7 (a6.length : Int) m0 v with ⟨d, y⟩ | ⟨m0', d, y, hi0', P⟩
 rw [d, qbv] at hr
 exact fin hr
 rw [d, qbv] at hr
 refine st ?_
 refine qD ?_
 refine st ?_
 obtain ⟨q_39, h39, hr⟩ := zb hr
 refine st ?_
 refine zk hr rfl qkd (qkf _ _) (fun r40 h40 hr => ?_)
 refine st ?_
 refine rd rfl (zbq (r := i7 + 1) rfl rfl rfl rfl oa) (qg 1 rfl (qax (qbc [2, 3, 4, 5, 6, 18, 1, 19] rfl ?_)))
 exact w _ _ _ oa ⟨r40.1, (i7 + 1), _, rfl, rfl, rfl, hi0', hr⟩
def qa8 (k : Option ((List (Int × At)) × Int)) (a1 : (Int × At)) : List (Int × At) → Option ((List (Int × At)) × Int)
 | [] =>
 k
 | q_29 :: rest =>
 (bif (q_29.1 == a1.1) then
 some ([], 8)
 else
 (qa8 k a1 rest))
def qc3 (a0 : List (Int × At)) (a1 : (Int × At)) : Option ((List (Int × At)) × Int) :=
 ((qci a0).bind fun r2 =>
 (bif (!r2) then
 some ([], 2)
 else
 ((qmC a1.2).bind fun r5 =>
 (bif (!r5) then
 some ([], 2)
 else
 (bif (decide (a1.1 < (1 : Int))) then
 some ([], 2)
 else
 (qa8 ((bif (decide ((a0.length : Int) > (0 : Int))) then
 ((zh a0 (wr ((a0.length : Int) - (1 : Int)))).bind fun q_12 =>
 (bif (decide (a1.1 < q_12.1)) then
 some ([], 2)
 else
 (bif (decide ((a0.length : Int) ≥ (500 : Int))) then
 some ([], 6)
 else
 ((zz 48 [] a0).bind fun l18 =>
 ((zz 48 l18 [a1]).bind fun l20 =>
 some (l20, 0))))))
 else
 (bif (decide ((a0.length : Int) ≥ (500 : Int))) then
 some ([], 6)
 else
 ((zz 48 [] a0).bind fun l25 =>
 ((zz 48 l25 [a1]).bind fun l27 =>
 some (l27, 0)))))) a1 a0))))))
theorem ql0 (a0 : List (Int × At)) (a1 : (Int × At)) (a : (List (Int × At)) × Int) (hr : qc3 a0 a1 = some a) : zg Tryz.prog 78 [.lst (a0.map zm), zm a1] (.tup [.lst (a.1.map zm), .int .i64 a.2]) := by
 unfold qc3 at hr
 refine qC Tryz.func78 rfl fun K i j => (qaC (zf 3 4 (rd rfl (qcA rfl rfl rfl) (ew rfl (qL 50 3 (.inl rfl)) ?_))))
 rintro _ _ ⟨u4_0, rfl, rfl⟩
 refine st ?_
 refine zk hr rfl qga (qf5 _) (fun r2 h2 hr => ?_)
 refine qg 2 rfl ?_
 refine zt 11 rfl hr (fun _ hr => ?_) (fun _ hr => ?_)
 refine st0 ?_
 refine zf 2 1 (ew rfl (qL 50 3 (.inl rfl)) ?_)
 rintro _ _ ⟨u4_3, rfl, rfl⟩
 refine st ?_
 cases hr
 refine qbg Tryz.func78 _ (.cons (za rfl (Wk.own _ _)) (.cons (za rfl (Wk.refl _)) .nil)) ?_
 rfl
 refine qg 2 rfl ?_
 obtain ⟨r5, h5, hr⟩ := zb hr
 refine qem rfl qey (qez _ _ h5) (qg 3 rfl ?_)
 refine zt 17 rfl hr (fun _ hr => ?_) (fun _ hr => ?_)
 refine st0 ?_
 refine zf 2 1 (ew rfl (qL 50 3 (.inl rfl)) ?_)
 rintro _ _ ⟨u4_6, rfl, rfl⟩
 refine st ?_
 cases hr
 refine qbg Tryz.func78 _ (.cons (za rfl (Wk.own _ _)) (.cons (za rfl (Wk.refl _)) .nil)) ?_
 rfl
 refine st ?_
 refine zi 21 rfl hr (fun _ hr => ?_) (fun _ hr => ?_)
 refine st0 ?_
 refine zf 2 1 (ew rfl (qL 50 3 (.inl rfl)) ?_)
 rintro _ _ ⟨u4_8, rfl, rfl⟩
 refine st ?_
 cases hr
 refine qbg Tryz.func78 _ (.cons (za rfl (Wk.own _ _)) (.cons (za rfl (Wk.refl _)) .nil)) ?_
 rfl
 refine st ?_
 obtain ⟨c, d, hr⟩ := exK (fun k => qa8 k a1 a0) hr
 refine qc5 0 rfl (asl rfl) fun e => ?_
 simp only [jd] at e
 refine qz (fun env σ => env = [(0, .lst (a0.map zm)), (3, .ptr (zm a1))] ∧ σ = [] ∧ c = some a) ?_ (fun l => ?_)
 rintro _ _ ⟨rfl, rfl, hr⟩
 rw [d] at hr
 refine st ?_
 refine qea 15 0 ?_
 refine st ?_
 refine zt 39 rfl hr (fun _ hr => ?_) (fun _ hr => ?_)
 refine st ?_
 refine rd rfl (qe4 rfl rfl rfl rfl) ?_
 obtain ⟨q_12, h12, hr⟩ := zb hr
 refine st ?_
 refine zi 50 rfl hr (fun _ hr => ?_) (fun _ hr => ?_)
 refine st0 ?_
 refine zf 2 1 (ew rfl (qL 50 3 (.inl rfl)) ?_)
 rintro _ _ ⟨u4_13, rfl, rfl⟩
 refine st ?_
 cases hr
 refine qbg Tryz.func78 _ (.cons (za rfl (Wk.own _ _)) (.cons (za rfl (Wk.refl _)) .nil)) ?_
 rfl
 refine st ?_
 refine zi 53 rfl hr (fun _ hr => ?_) (fun _ hr => ?_)
 refine st0 ?_
 refine zf 2 1 (ew rfl (qL 50 3 (.inl rfl)) ?_)
 rintro _ _ ⟨u4_15, rfl, rfl⟩
 refine st ?_
 cases hr
 refine qbg Tryz.func78 _ (.cons (za rfl (Wk.own _ _)) (.cons (za rfl (Wk.refl _)) .nil)) ?_
 rfl
 refine st0 ?_
 refine zf 1 1 (ew rfl (qL 50 3 (.inl rfl)) ?_)
 rintro _ _ ⟨u7_16, rfl, rfl⟩
 refine st0 ?_
 refine zf 4 16 (qg 2 rfl ?_)
 obtain ⟨l18, h18, hr⟩ := zb hr
 refine ew rfl (qau (f := zm) [] a0 rfl qd3 rfl rfl (asl rfl) (pf0 _) rfl qgf h18) ?_
 rintro _ _ ⟨u56_18, rfl, rfl⟩
 refine st0 ?_
 refine zf 6 64 (qg 2 rfl (rd rfl (qe2 (f := zm) [.tmp 58] [a1] rfl qd3 rfl rfl od od (.oc rfl .nil) qgf (fun _ => rfl)) ?_))
 obtain ⟨l20, h20, hr⟩ := zb hr
 refine ew rfl (qau (f := zm) l18 [a1] rfl qd3 rfl rfl (asl rfl) (pf0 _) rfl qgf h20) ?_
 rintro _ _ ⟨u60_20, rfl, rfl⟩
 refine st ?_
 cases hr
 refine qbg Tryz.func78 _ (.cons (za rfl (Wk.own _ _)) (.cons (za rfl (Wk.refl _)) .nil)) ?_
 rfl
 refine st ?_
 refine zi 53 rfl hr (fun _ hr => ?_) (fun _ hr => ?_)
 refine st0 ?_
 refine zf 2 1 (ew rfl (qL 50 3 (.inl rfl)) ?_)
 rintro _ _ ⟨u4_22, rfl, rfl⟩
 refine st ?_
 cases hr
 refine qbg Tryz.func78 _ (.cons (za rfl (Wk.own _ _)) (.cons (za rfl (Wk.refl _)) .nil)) ?_
 rfl
 refine st0 ?_
 refine zf 1 1 (ew rfl (qL 50 3 (.inl rfl)) ?_)
 rintro _ _ ⟨u7_23, rfl, rfl⟩
 refine st0 ?_
 refine zf 4 16 (qg 2 rfl ?_)
 obtain ⟨l25, h25, hr⟩ := zb hr
 refine ew rfl (qau (f := zm) [] a0 rfl qd3 rfl rfl (asl rfl) (pf0 _) rfl qgf h25) ?_
 rintro _ _ ⟨u56_25, rfl, rfl⟩
 refine st0 ?_
 refine zf 6 64 (qg 2 rfl (rd rfl (qe2 (f := zm) [.tmp 58] [a1] rfl qd3 rfl rfl od od (.oc rfl .nil) qgf (fun _ => rfl)) ?_))
 obtain ⟨l27, h27, hr⟩ := zb hr
 refine ew rfl (qau (f := zm) l25 [a1] rfl qd3 rfl rfl (asl rfl) (pf0 _) rfl qgf h27) ?_
 rintro _ _ ⟨u60_27, rfl, rfl⟩
 refine st ?_
 cases hr
 refine qbg Tryz.func78 _ (.cons (za rfl (Wk.own _ _)) (.cons (za rfl (Wk.refl _)) .nil)) ?_
 rfl
 refine qbc [0, 3, 6] rfl (qcz [] _ (pf0 _) (qal (fun n env σ => ∃ (i10 : Nat), n = a0.length - i10 ∧ (env = [(0, .lst (a0.map zm)), (3, .ptr (zm a1)), (6, .int .i64 (i10 : Int))]) ∧ (σ = []) ∧ (i10 ≤ a0.length) ∧ (qa8 c a1 (a0.drop i10) = some a)) _ ⟨0, rfl, rfl, rfl, jf _, hr⟩ ?_))
 rintro n _ _ ⟨i10, rfl, rfl, rfl, g, hr⟩ m
 rcases zd a0 i10 g with ⟨h, b, o⟩ | ⟨q_29, h, b, p, q⟩
 rw [b, qa8] at hr
 exact fin hr
 rw [b, qa8] at hr
 refine st ?_
 refine qD (qaC (qea 8 0 ?_))
 refine st ?_
 refine zi 35 rfl hr (fun _ hr => ?_) (fun _ hr => ?_)
 refine st0 ?_
 refine zf 2 1 (ew rfl (qL 50 3 (.inl rfl)) ?_)
 rintro _ _ ⟨u4_30, rfl, rfl⟩
 refine st ?_
 cases hr
 refine qbg Tryz.func78 _ (.cons (za rfl (Wk.own _ _)) (.cons (za rfl (Wk.refl _)) .nil)) ?_
 rfl
 exact fin hr
end
end Go.Proofs.YtamoolpdganckaaGreat
