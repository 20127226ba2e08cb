/-
 Texts of the seat, merged.
-/
import Derived.Test.YtamoolpdganckaaGreatLSD
set_option linter.unusedVariables false
set_option linter.unusedSimpArgs false
set_option linter.unnecessarySimpa false
set_option linter.all false
set_option maxHeartbeats 8000000
namespace Go.Proofs.YtamoolpdganckaaGreat
noncomputable section
set_option maxRecDepth 100000
open Go.RowKit
structure qaS where
 fK : ByteArray
 fN : Int
def qad (x : qaS) : D := .agg [.str x.fK, .int .i64 x.fN]
theorem qi6 (x : qaS) : sz (qad x) = 2 := by
 simp only [qad, sz, szs]
structure qk where
 fK : ByteArray
 fg : (List At)
 ft : (List At)
 fx : (List Gl)
 fp : (List Gl)
 fL : Int
def ql (x : qk) : D := .agg [.str x.fK, .lst (x.fg.map zU), .lst (x.ft.map zU), .lst (x.fx.map zB), .lst (x.fp.map zB), .int .i64 x.fL]
theorem qek (x : qk) : sz (ql x) = 6 := by
 simp only [ql, sz, szs]
structure qc where
 fH : (List qaS)
 fc : (List qk)
def qf (x : qc) : D := .agg [.lst (x.fH.map qad), .lst (x.fc.map ql)]
theorem qhq (x : qc) : sz (qf x) = 2 := by
 simp only [qf, sz, szs]
structure qi where
 fy : Int
 fm : (List Int)
def qe (x : qi) : D := .agg [.int .i64 x.fy, .lst (x.fm.map (D.int .i64))]
theorem qeO (x : qi) : sz (qe x) = 2 := by
 simp only [qe, sz, szs]
structure qju where
 fO : (List Gl)
 fj : (List (Int × At))
 fu : (List (Int × T))
 fC : (List qi)
 fP : (List Gl)
 fQ : Int
 fR : Int
 fS : Bool
def qR (k : Option Bool) (a2 : Int) (a1 : ByteArray) : List qaS → Option Bool
 | [] =>
 k
 | q_2 :: rest =>
 (bif (q_2.fK.toList == a1.toList) then
 (bif (q_2.fN == a2) then
 some (true)
 else
 (qR k a2 a1 rest))
 else
 (qR k a2 a1 rest))
def qbL (a0 : List qaS) (a1 : ByteArray) (a2 : Int) : Option Bool :=
 (qR (some (false)) a2 a1 a0)
theorem qeE (a0 : List qaS) (a1 : ByteArray) (a2 : Int) (a : Bool) (hr : qbL a0 a1 a2 = some a) : zg Tryz.prog 18 [.lst (a0.map qad), .str a1, .int .i64 a2] (.bool a) := by
 unfold qbL at hr
 refine qC Tryz.func18 rfl fun K i j => ?_
 refine st ?_
 obtain ⟨c, d, hr⟩ := exK (fun k => qR k a2 a1 a0) hr
 refine qc5 0 rfl (asl rfl) fun e => ?_
 simp only [jd] at e
 refine qz (fun env σ => env = [] ∧ σ = [] ∧ c = some a) ?_ (fun l => ?_)
 rintro _ _ ⟨rfl, rfl, hr⟩
 rw [d] at hr
 exact fin hr
 refine qbc [0, 1, 2, 7] rfl (qal (fun n env σ => ∃ (i1 : Nat), n = a0.length - i1 ∧ (env = [(0, .lst (a0.map qad)), (1, .str a1), (2, .int .i64 a2), (7, .int .i64 (i1 : Int))]) ∧ (σ = []) ∧ (i1 ≤ a0.length) ∧ (qR c a2 a1 (a0.drop i1) = some a)) _ ⟨0, rfl, rfl, rfl, jf _, hr⟩ ?_)
 rintro n _ _ ⟨i1, rfl, rfl, rfl, g, hr⟩ m
 rcases zd a0 i1 g with ⟨h, b, o⟩ | ⟨q_2, h, b, p, q⟩
 rw [b, qR] at hr
 exact fin hr
 rw [b, qR] at hr
 refine st ?_
 refine qD ?_
 refine st ?_
 refine rd rfl (qgC rfl rfl rfl rfl) (qg 1 rfl ?_)
 refine zt 21 rfl hr (fun _ hr => ?_) (fun _ hr => ?_)
 refine st ?_
 refine zi 29 rfl hr (fun _ hr => ?_) (fun _ hr => ?_)
 exact fin hr
 exact fin hr
 exact fin hr
def qcE (a0 : qk) : Option (List At) :=
 ((zz 40 [] a0.fg).bind fun l3 =>
 ((zz 40 l3 a0.ft).bind fun l5 =>
 some (l5)))
theorem qfc (a0 : qk) (res : List At) (hr : qcE a0 = some res) : zg Tryz.prog 54 [ql a0] (.lst (res.map zU)) := by
 unfold qcE at hr
 refine qC Tryz.func54 rfl fun K hK hF => (qaC (zf 2 4 (rd rfl (qcA rfl rfl rfl) (ew rfl (qL 48 2 (.inl rfl)) ?_))))
 rintro _ _ ⟨u2_0, rfl, rfl⟩
 refine st ?_
 refine ga [(1, .d), (2, .d), (4, .d), (5, .d), (0, .w), (3, .w), (6, .w), (7, .d)] (qg 4 rfl (ew rfl (qnj rfl qd5 rfl) ?_))
 rintro _ _ ⟨u3_1, rfl, rfl⟩
 obtain ⟨l3, h3, hr⟩ := zb hr
 refine ew rfl (qau (f := zU) [] a0.fg rfl qd5 rfl rfl (asl rfl) (pf0 _) rfl qen h3) ?_
 rintro _ _ ⟨u6_3, rfl, rfl⟩
 obtain ⟨l5, h5, hr⟩ := zb hr
 refine ew rfl (qau (f := zU) l3 a0.ft rfl qd5 rfl rfl (asl rfl) (pf0 _) rfl qen h5) ?_
 rintro _ _ ⟨u9_5, rfl, rfl⟩
 refine st ?_
 cases hr
 refine qbg Tryz.func54 _ (.cons (za rfl (Wk.own _ _)) .nil) ?_
 rfl
def qdc (a0 : qk) : Option (List Gl) :=
 ((zz 48 [] a0.fx).bind fun l3 =>
 ((zz 48 l3 a0.fp).bind fun l5 =>
 some (l5)))
theorem qf8 (a0 : qk) (res : List Gl) (hr : qdc a0 = some res) : zg Tryz.prog 55 [ql a0] (.lst (res.map zB)) := by
 unfold qdc at hr
 refine qC Tryz.func55 rfl fun K hK hF => (qaC (zf 2 4 (rd rfl (qcA rfl rfl rfl) (ew rfl (qL 55 3 (.inl rfl)) ?_))))
 rintro _ _ ⟨u2_0, rfl, rfl⟩
 refine st ?_
 refine ga [(1, .d), (2, .d), (4, .d), (5, .d), (0, .w), (3, .w), (6, .w), (7, .d)] (qg 4 rfl (ew rfl (qnj rfl qfL rfl) ?_))
 rintro _ _ ⟨u3_1, rfl, rfl⟩
 obtain ⟨l3, h3, hr⟩ := zb hr
 refine ew rfl (qau (f := zB) [] a0.fx rfl qfL rfl rfl (asl rfl) (pf0 _) rfl qcJ h3) ?_
 rintro _ _ ⟨u6_3, rfl, rfl⟩
 obtain ⟨l5, h5, hr⟩ := zb hr
 refine ew rfl (qau (f := zB) l3 a0.fp rfl qfL rfl rfl (asl rfl) (pf0 _) rfl qcJ h5) ?_
 rintro _ _ ⟨u9_5, rfl, rfl⟩
 refine st ?_
 cases hr
 refine qbg Tryz.func55 _ (.cons (za rfl (Wk.own _ _)) .nil) ?_
 rfl
def qaT (k : List T → Option (List Int)) : List Gl → List T → Option (List Int)
 | [], l10 =>
 (k l10)
 | q_15 :: rest, l10 =>
 ((zz 56 l10 q_15.ts).bind fun l16 =>
 (qaT k rest l16))
def qbZ (k : List T → Option (List Int)) : List At → List T → Option (List Int)
 | [], l4 =>
 (k l4)
 | q_18 :: rest, l4 =>
 ((zz 56 l4 q_18.ts).bind fun l19 =>
 (qbZ k rest l19))
def qdo (fuel : Nat) (a0 : qk) : Option (List Int) :=
 ((qcE a0).bind fun r2 =>
 (qbZ (fun l7 =>
 ((qdc a0).bind fun r8 =>
 (qaT (fun l13 =>
 ((qcd fuel l13).bind fun r14 =>
 some (r14))) r8 l7))) r2 []))
theorem qlb (fuel : Nat) (a0 : qk) (a : List Int) (hr : qdo fuel a0 = some a) : zg Tryz.prog 56 [ql a0] (.lst (a.map (D.int .i64))) := by
 unfold qdo at hr
 refine qC Tryz.func56 rfl fun K q r => ?_
 refine st ?_
 refine rd rfl (qcA rfl rfl rfl) ?_
 refine st0 ?_
 refine zf 1 1 (ew rfl (qL 78 4 (.inl rfl)) ?_)
 rintro _ _ ⟨u3_0, rfl, rfl⟩
 refine st ?_
 refine zk hr rfl qfb (qfc _) (fun r2 h2 hr => ?_)
 refine st ?_
 obtain ⟨d, g, hr⟩ := exK (fun k => qbZ k r2 []) hr
 refine qc5 9 rfl (asl rfl) fun h => ?_
 simp only [jd] at h
 refine qz (fun env σ => ∃ (l7 : List T) (u6 : Value), env = [(1, .ptr (ql a0)), (3, .own u6 (l7.map zl))] ∧ σ = [.row u6 l7.length 78 4] ∧ d l7 = some a) ?_ (fun s => ?_)
 rintro _ _ ⟨l7, u6, rfl, rfl, hr⟩
 rw [g] at hr
 refine st ?_
 refine zk hr rfl qf6 (qf8 _) (fun r8 h8 hr => ?_)
 refine st ?_
 obtain ⟨e, i, hr⟩ := exK (fun k => qaT k r8 l7) hr
 refine qc5 24 rfl (asl rfl) fun j => ?_
 simp only [jd] at j
 refine qz (fun env σ => ∃ (l13 : List T) (u12 : Value), env = [(3, .own u12 (l13.map zl))] ∧ σ = [.row u12 l13.length 78 4] ∧ e l13 = some a) ?_ (fun t => ?_)
 rintro _ _ ⟨l13, u12, rfl, rfl, hr⟩
 rw [i] at hr
 refine st ?_
 obtain ⟨r14, h14, hr⟩ := zb hr
 refine rd rfl (qiv rfl qeV (.cons rfl (Wk.own _ _) .nil) (qe1 fuel _ _ h14)) ?_
 exact fin hr
 refine qbc [6, 3, 7] rfl (qal (fun n env σ => ∃ (l10 : List T) (i11 : Nat) (u9 : Value), n = r8.length - i11 ∧ (env = [(6, .lst (r8.map zB)), (3, .own u9 (l10.map zl)), (7, .int .i64 (i11 : Int))]) ∧ (σ = [.row u9 l10.length 78 4]) ∧ (i11 ≤ r8.length) ∧ (qaT e (r8.drop i11) l10 = some a)) _ ⟨l7, 0, u6, rfl, rfl, rfl, jf _, hr⟩ ?_)
 rintro n _ _ ⟨l10, i11, u9, rfl, rfl, rfl, l, hr⟩ u
 rcases zd r8 i11 l with ⟨m, b, v⟩ | ⟨q_15, m, b, w, x⟩
 rw [b, qaT] at hr
 exact fin hr
 rw [b, qaT] at hr
 refine st ?_
 refine qD (zf 8 4096 ?_)
 refine st ?_
 obtain ⟨l16, h16, hr⟩ := zb hr
 refine ew rfl (qau (f := zl) l10 q_15.ts rfl qba rfl rfl (asl rfl) (pf0 _) rfl qcR h16) ?_
 rintro _ _ ⟨u37_16, rfl, rfl⟩
 exact fin hr
 refine qbc [1, 4, 3, 5] rfl (qal (fun n env σ => ∃ (l4 : List T) (i5 : Nat) (u3 : Value), n = r2.length - i5 ∧ (env = [(1, .ptr (ql a0)), (4, .lst (r2.map zU)), (3, .own u3 (l4.map zl)), (5, .int .i64 (i5 : Int))]) ∧ (σ = [.row u3 l4.length 78 4]) ∧ (i5 ≤ r2.length) ∧ (qbZ d (r2.drop i5) l4 = some a)) _ ⟨[], 0, u3_0, rfl, rfl, rfl, jf _, hr⟩ ?_)
 rintro n _ _ ⟨l4, i5, u3, rfl, rfl, rfl, o, hr⟩ y
 rcases zd r2 i5 o with ⟨p, c, z⟩ | ⟨q_18, p, c, A, B⟩
 rw [c, qbZ] at hr
 exact fin hr
 rw [c, qbZ] at hr
 refine st ?_
 refine qD (zf 8 4096 ?_)
 refine st ?_
 obtain ⟨l19, h19, hr⟩ := zb hr
 refine ew rfl (qau (f := zl) l4 q_18.ts rfl qba rfl rfl (asl rfl) (pf0 _) rfl qcR h19) ?_
 rintro _ _ ⟨u22_19, rfl, rfl⟩
 exact fin hr
def qZ (k : Int → Option Int) (a1 : ByteArray) : List qaS → Int → Option Int
 | [], e1 =>
 (k e1)
 | q_6 :: rest, e1 =>
 (bif (q_6.fK.toList == a1.toList) then
 (qZ k a1 rest 9)
 else
 (qZ k a1 rest e1))
def qdi (a0 : List qaS) (a1 : ByteArray) (a2 : Int) : Option Int :=
 (qZ (fun e3 =>
 ((qbL a0 a1 a2).bind fun r4 =>
 (bif r4 then
 some (0)
 else
 some (e3)))) a1 a0 7)
theorem qha (a0 : List qaS) (a1 : ByteArray) (a2 : Int) (a : Int) (hr : qdi a0 a1 a2 = some a) : zg Tryz.prog 61 [.lst (a0.map qad), .str a1, .int .i64 a2] (.int .i64 a) := by
 unfold qdi at hr
 refine qC Tryz.func61 rfl fun K i j => ?_
 refine st ?_
 obtain ⟨c, d, hr⟩ := exK (fun k => qZ k a1 a0 7) hr
 refine qc5 0 rfl (asl rfl) fun e => ?_
 simp only [jd] at e
 refine qz (fun env σ => ∃ (e3 : Int), env = [(0, .lst (a0.map qad)), (1, .str a1), (2, .int .i64 a2), (7, .int .i64 e3)] ∧ σ = [] ∧ c e3 = some a) ?_ (fun l => ?_)
 rintro _ _ ⟨e3, rfl, rfl, hr⟩
 rw [d] at hr
 refine st ?_
 refine zk hr rfl qeN (qeE _ _ _) (fun r4 h4 hr => ?_)
 refine qax ?_
 refine zi 25 rfl hr (fun _ hr => ?_) (fun _ hr => ?_)
 exact fin hr
 exact fin hr
 refine qbc [0, 1, 2, 7, 8] rfl (qal (fun n env σ => ∃ (e1 : Int) (i2 : Nat), n = a0.length - i2 ∧ (env = [(0, .lst (a0.map qad)), (1, .str a1), (2, .int .i64 a2), (7, .int .i64 e1), (8, .int .i64 (i2 : Int))]) ∧ (σ = []) ∧ (i2 ≤ a0.length) ∧ (qZ c a1 (a0.drop i2) e1 = some a)) _ ⟨7, 0, rfl, rfl, rfl, jf _, hr⟩ ?_)
 rintro n _ _ ⟨e1, i2, rfl, rfl, rfl, g, hr⟩ m
 rcases zd a0 i2 g with ⟨h, b, o⟩ | ⟨q_6, h, b, p, q⟩
 rw [b, qZ] at hr
 exact fin hr
 rw [b, qZ] at hr
 refine st ?_
 refine qD ?_
 refine st ?_
 refine rd rfl (qgC rfl rfl rfl rfl) (qax ?_)
 refine zi 21 rfl hr (fun _ hr => ?_) (fun _ hr => ?_)
 exact fin hr
 exact fin hr
def qak (k : Option Int) (a0 : List qaS) : List Gl → Option Int
 | [] =>
 k
 | q_2 :: rest =>
 (bif (q_2.op != (0 : Int)) then
 (qak k a0 rest)
 else
 ((qdi a0 q_2.n (q_2.ts.length : Int)).bind fun r4 =>
 (bif (r4 != (0 : Int)) then
 some (r4)
 else
 (qak k a0 rest))))
def qes (a0 : List qaS) (a1 : List Gl) : Option Int :=
 (qak (some (0)) a0 a1)
theorem qhE (a0 : List qaS) (a1 : List Gl) (a : Int) (hr : qes a0 a1 = some a) : zg Tryz.prog 23 [.lst (a0.map qad), .lst (a1.map zB)] (.int .i64 a) := by
 unfold qes at hr
 refine qC Tryz.func23 rfl fun K i j => ?_
 refine st ?_
 obtain ⟨c, d, hr⟩ := exK (fun k => qak k a0 a1) hr
 refine qc5 1 rfl (asl rfl) fun e => ?_
 simp only [jd] at e
 refine qz (fun env σ => env = [] ∧ σ = [] ∧ c = some a) ?_ (fun l => ?_)
 rintro _ _ ⟨rfl, rfl, hr⟩
 rw [d] at hr
 exact fin hr
 refine qbc [0, 1, 5] rfl (qal (fun n env σ => ∃ (i1 : Nat), n = a1.length - i1 ∧ (env = [(0, .lst (a0.map qad)), (1, .lst (a1.map zB)), (5, .int .i64 (i1 : Int))]) ∧ (σ = []) ∧ (i1 ≤ a1.length) ∧ (qak c a0 (a1.drop i1) = some a)) _ ⟨0, rfl, rfl, rfl, jf _, hr⟩ ?_)
 rintro n _ _ ⟨i1, rfl, rfl, rfl, g, hr⟩ m
 rcases zd a1 i1 g with ⟨h, b, o⟩ | ⟨q_2, h, b, p, q⟩
 rw [b, qak] at hr
 exact fin hr
 rw [b, qak] at hr
 refine st ?_
 refine qD ?_
 refine st ?_
 refine zi 18 rfl hr (fun _ hr => ?_) (fun _ hr => ?_)
 exact fin hr
 refine st ?_
 refine qea 14 0 ?_
 refine st ?_
 refine zk hr rfl qhc (qha _ _ _) (fun r4 h4 hr => ?_)
 refine st ?_
 refine zi 33 rfl hr (fun _ hr => ?_) (fun _ hr => ?_)
 exact fin hr
 exact fin hr
def qcq (a0 : Int) : Option Bool :=
 (bif (decide (a0 ≥ (5 : Int))) then
 some ((decide (a0 ≤ (12 : Int))))
 else
 some (false))
theorem qgp (a0 : Int) (a : Bool) (hr : qcq a0 = some a) : zg Tryz.prog 24 [.int .i64 a0] (.bool a) := by
 unfold qcq at hr
 refine qC Tryz.func24 rfl fun K b c => ?_
 refine st ?_
 refine zt 5 rfl hr (fun _ hr => ?_) (fun _ hr => ?_)
 exact fin hr
 exact fin hr
def qbk (k : List T → Option (List Int)) : List At → List T → Option (List Int)
 | [], l4 =>
 (k l4)
 | q_9 :: rest, l4 =>
 ((zz 56 l4 q_9.ts).bind fun l10 =>
 (qbk k rest l10))
def qdU (fuel : Nat) (a0 : qk) : Option (List Int) :=
 ((qcE a0).bind fun r2 =>
 (qbk (fun l7 =>
 ((qcd fuel l7).bind fun r8 =>
 some (r8))) r2 []))
theorem qjD (fuel : Nat) (a0 : qk) (a : List Int) (hr : qdU fuel a0 = some a) : zg Tryz.prog 92 [ql a0] (.lst (a.map (D.int .i64))) := by
 unfold qdU at hr
 refine qC Tryz.func92 rfl fun K i j => ?_
 refine st ?_
 refine rd rfl (qcA rfl rfl rfl) ?_
 refine st0 ?_
 refine zf 1 1 (ew rfl (qL 78 4 (.inl rfl)) ?_)
 rintro _ _ ⟨u3_0, rfl, rfl⟩
 refine st ?_
 refine zk hr rfl qfb (qfc _) (fun r2 h2 hr => ?_)
 refine st ?_
 obtain ⟨c, d, hr⟩ := exK (fun k => qbk k r2 []) hr
 refine qc5 7 rfl (asl rfl) fun e => ?_
 simp only [jd] at e
 refine qz (fun env σ => ∃ (l7 : List T) (u6 : Value), env = [(3, .own u6 (l7.map zl))] ∧ σ = [.row u6 l7.length 78 4] ∧ c l7 = some a) ?_ (fun l => ?_)
 rintro _ _ ⟨l7, u6, rfl, rfl, hr⟩
 rw [d] at hr
 refine st ?_
 obtain ⟨r8, h8, hr⟩ := zb hr
 refine rd rfl (qiv rfl qeV (.cons rfl (Wk.own _ _) .nil) (qe1 fuel _ _ h8)) ?_
 exact fin hr
 refine qbc [4, 3, 5] rfl (qal (fun n env σ => ∃ (l4 : List T) (i5 : Nat) (u3 : Value), n = r2.length - i5 ∧ (env = [(4, .lst (r2.map zU)), (3, .own u3 (l4.map zl)), (5, .int .i64 (i5 : Int))]) ∧ (σ = [.row u3 l4.length 78 4]) ∧ (i5 ≤ r2.length) ∧ (qbk c (r2.drop i5) l4 = some a)) _ ⟨[], 0, u3_0, rfl, rfl, rfl, jf _, hr⟩ ?_)
 rintro n _ _ ⟨l4, i5, u3, rfl, rfl, rfl, g, hr⟩ m
 rcases zd r2 i5 g with ⟨h, b, o⟩ | ⟨q_9, h, b, p, q⟩
 rw [b, qbk] at hr
 exact fin hr
 rw [b, qbk] at hr
 refine st ?_
 refine qD (zf 8 4096 ?_)
 refine st ?_
 obtain ⟨l10, h10, hr⟩ := zb hr
 refine ew rfl (qau (f := zl) l4 q_9.ts rfl qba rfl rfl (asl rfl) (pf0 _) rfl qcR h10) ?_
 rintro _ _ ⟨u20_10, rfl, rfl⟩
 exact fin hr
def qbJ (fuel : Nat) (a0 : Gl) : Option (List Int) :=
 ((qcd fuel a0.ts).bind fun r1 =>
 some (r1))
theorem qfr (fuel : Nat) (a0 : Gl) (a : List Int) (hr : qbJ fuel a0 = some a) : zg Tryz.prog 25 [zB a0] (.lst (a.map (D.int .i64))) := by
 unfold qbJ at hr
 refine qC Tryz.func25 rfl fun K b c => ?_
 refine st ?_
 refine rd rfl (qcA rfl rfl rfl) ?_
 refine st ?_
 refine zk hr rfl qeV (qe1 fuel _) (fun r1 h1 hr => ?_)
 exact fin hr
def qcf (k : Option Bool) (a1 : Int) : List Int → Option Bool
 | [] =>
 k
 | q_2 :: rest =>
 (bif (q_2 == a1) then
 some (true)
 else
 (qcf k a1 rest))
def qg0 (a0 : List Int) (a1 : Int) : Option Bool :=
 (qcf (some (false)) a1 a0)
theorem qms (a0 : List Int) (a1 : Int) (a : Bool) (hr : qg0 a0 a1 = some a) : zg Tryz.prog 93 [.lst (a0.map (D.int .i64)), .int .i64 a1] (.bool a) := by
 unfold qg0 at hr
 refine qC Tryz.func93 rfl fun K i j => ?_
 refine st ?_
 obtain ⟨c, d, hr⟩ := exK (fun k => qcf k a1 a0) hr
 refine qc5 0 rfl (asl rfl) fun e => ?_
 simp only [jd] at e
 refine qz (fun env σ => env = [] ∧ σ = [] ∧ c = some a) ?_ (fun l => ?_)
 rintro _ _ ⟨rfl, rfl, hr⟩
 rw [d] at hr
 exact fin hr
 refine qbc [0, 1, 5] rfl (qal (fun n env σ => ∃ (i1 : Nat), n = a0.length - i1 ∧ (env = [(0, .lst (a0.map (D.int .i64))), (1, .int .i64 a1), (5, .int .i64 (i1 : Int))]) ∧ (σ = []) ∧ (i1 ≤ a0.length) ∧ (qcf c a1 (a0.drop i1) = some a)) _ ⟨0, rfl, rfl, rfl, jf _, hr⟩ ?_)
 rintro n _ _ ⟨i1, rfl, rfl, rfl, g, hr⟩ m
 rcases zd a0 i1 g with ⟨h, b, o⟩ | ⟨q_2, h, b, p, q⟩
 rw [b, qcf] at hr
 exact fin hr
 rw [b, qcf] at hr
 refine st ?_
 refine qD ?_
 refine st ?_
 refine zi 17 rfl hr (fun _ hr => ?_) (fun _ hr => ?_)
 exact fin hr
 exact fin hr
def qby (k : Option Int) (r8 : List Int) : List Int → Option Int
 | [] =>
 k
 | q_13 :: rest =>
 ((qg0 r8 q_13).bind fun r14 =>
 (bif (!r14) then
 some (17)
 else
 (qby k r8 rest)))
def qbx (k : Option Int) (fuel : Nat) (r8 : List Int) : List Gl → Option Int
 | [] =>
 k
 | q_10 :: rest =>
 ((qbJ fuel q_10).bind fun r11 =>
 (qby ((qbx k fuel r8 rest)) r8 r11))
def qaN (k : Option Int) : List Gl → Option Int
 | [] =>
 k
 | q_16 :: rest =>
 ((qcq q_16.op).bind fun r17 =>
 (bif r17 then
 some (10)
 else
 (qaN k rest)))
def qX (k : Option Int) : List Gl → Option Int
 | [] =>
 k
 | q_19 :: rest =>
 ((qcq q_19.op).bind fun r20 =>
 (bif (!r20) then
 (bif (q_19.op != (1 : Int)) then
 some (10)
 else
 (qX k rest))
 else
 (qX k rest)))
def qai (k : Option Int) (a0 : List qaS) : List At → Option Int
 | [] =>
 k
 | q_23 :: rest =>
 ((qdi a0 q_23.n (q_23.ts.length : Int)).bind fun r24 =>
 (bif (r24 != (0 : Int)) then
 some (r24)
 else
 (qai k a0 rest)))
def qbY (fuel : Nat) (a0 : List qaS) (a1 : qk) : Option Int :=
 ((qcE a1).bind fun r1 =>
 (qai (((qdc a1).bind fun r3 =>
 ((qes a0 r3).bind fun r4 =>
 (bif (r4 != (0 : Int)) then
 some (r4)
 else
 (qX ((qaN (((qdU fuel a1).bind fun r8 =>
 (qbx (some (0)) fuel r8 a1.fx))) a1.fp)) a1.fx))))) a0 r1))
theorem qhe (fuel : Nat) (a0 : List qaS) (a1 : qk) (a : Int) (hr : qbY fuel a0 a1 = some a) : zg Tryz.prog 57 [.lst (a0.map qad), ql a1] (.int .i64 a) := by
 unfold qbY at hr
 refine qC Tryz.func57 rfl fun K L M => ?_
 refine st ?_
 refine rd rfl (qcA rfl rfl rfl) ?_
 refine st ?_
 refine zk hr rfl qfb (qfc _) (fun r1 h1 hr => ?_)
 refine st ?_
 obtain ⟨h, p, hr⟩ := exK (fun k => qai k a0 r1) hr
 refine qc5 16 rfl (asl rfl) fun q => ?_
 simp only [jd] at q
 refine qz (fun env σ => env = [(0, .lst (a0.map qad)), (3, .ptr (ql a1))] ∧ σ = [] ∧ h = some a) ?_ (fun N => ?_)
 rintro _ _ ⟨rfl, rfl, hr⟩
 rw [p] at hr
 refine st ?_
 refine zk hr rfl qf6 (qf8 _) (fun r3 h3 hr => ?_)
 refine zk hr rfl qhR (qhE _ _) (fun r4 h4 hr => ?_)
 refine st ?_
 refine zi 44 rfl hr (fun _ hr => ?_) (fun _ hr => ?_)
 exact fin hr
 refine st ?_
 obtain ⟨i, r, hr⟩ := exK (fun k => qX k a1.fx) hr
 refine qpE 3 [3] (l := a1.fx.map zB) rfl rfl (asl rfl) fun s => ?_
 simp only [jd] at s
 refine qz (fun env σ => env = [(3, .ptr (ql a1))] ∧ σ = [] ∧ i = some a) ?_ (fun O => ?_)
 rintro _ _ ⟨rfl, rfl, hr⟩
 rw [r] at hr
 refine st ?_
 obtain ⟨j, t, hr⟩ := exK (fun k => qaN k a1.fp) hr
 refine qpE 3 [4] (l := a1.fp.map zB) rfl rfl (asl rfl) fun u => ?_
 simp only [jd] at u
 refine qz (fun env σ => env = [(3, .ptr (ql a1))] ∧ σ = [] ∧ j = some a) ?_ (fun P => ?_)
 rintro _ _ ⟨rfl, rfl, hr⟩
 rw [t] at hr
 refine st ?_
 refine zk hr rfl qjp (qjD fuel _) (fun r8 h8 hr => ?_)
 refine st ?_
 obtain ⟨m, v, hr⟩ := exK (fun k => qbx k fuel r8 a1.fx) hr
 refine qpE 3 [3] (l := a1.fx.map zB) rfl rfl (asl rfl) fun w => ?_
 simp only [jd] at w
 refine qz (fun env σ => env = [] ∧ σ = [] ∧ m = some a) ?_ (fun Q => ?_)
 rintro _ _ ⟨rfl, rfl, hr⟩
 rw [v] at hr
 exact fin hr
 refine qbc [3, 11, 12] rfl (qal (fun n env σ => ∃ (i9 : Nat), n = a1.fx.length - i9 ∧ (env = [(3, .ptr (ql a1)), (11, .lst (r8.map (D.int .i64))), (12, .int .i64 (i9 : Int))]) ∧ (σ = []) ∧ (i9 ≤ a1.fx.length) ∧ (qbx m fuel r8 (a1.fx.drop i9) = some a)) _ ⟨0, rfl, rfl, rfl, jf _, hr⟩ ?_)
 rintro n _ _ ⟨i9, rfl, rfl, rfl, x, hr⟩ R
 rcases zd a1.fx i9 x with ⟨y, b, S⟩ | ⟨q_10, y, b, T, U⟩
 rw [b, qbx] at hr
 exact fin hr
 rw [b, qbx] at hr
 refine st ?_
 refine qD ?_
 refine st ?_
 refine zk hr rfl qfs (qfr fuel _) (fun r11 h11 hr => ?_)
 refine st ?_
 obtain ⟨o, z, hr⟩ := exK (fun k => qby k r8 r11) hr
 refine qc5 98 rfl (asl rfl) fun A => ?_
 simp only [jd] at A
 refine qz (fun env σ => env = [(3, .ptr (ql a1)), (11, .lst (r8.map (D.int .i64))), (12, .int .i64 (i9 : Int))] ∧ σ = [] ∧ o = some a) ?_ (fun V => ?_)
 rintro _ _ ⟨rfl, rfl, hr⟩
 rw [z] at hr
 exact fin hr
 refine qbc [3, 11, 12, 13, 14] rfl (qal (fun n env σ => ∃ (k12 : Nat), n = r11.length - k12 ∧ (env = [(3, .ptr (ql a1)), (11, .lst (r8.map (D.int .i64))), (12, .int .i64 (i9 : Int)), (13, .lst (r11.map (D.int .i64))), (14, .int .i64 (k12 : Int))]) ∧ (σ = []) ∧ (k12 ≤ r11.length) ∧ (qby o r8 (r11.drop k12) = some a)) _ ⟨0, rfl, rfl, rfl, jf _, hr⟩ ?_)
 rintro n _ _ ⟨k12, rfl, rfl, rfl, B, hr⟩ W
 rcases zd r11 k12 B with ⟨C, c, X⟩ | ⟨q_13, C, c, Y, Z⟩
 rw [c, qby] at hr
 exact fin hr
 rw [c, qby] at hr
 refine st ?_
 refine qD ?_
 refine st ?_
 refine zk hr rfl qmj (qms _ _) (fun r14 h14 hr => ?_)
 refine st ?_
 refine zi 111 rfl hr (fun _ hr => ?_) (fun _ hr => ?_)
 exact fin hr
 exact fin hr
 refine qbc [3, 10] rfl (qal (fun n env σ => ∃ (i7 : Nat), n = a1.fp.length - i7 ∧ (env = [(3, .ptr (ql a1)), (10, .int .i64 (i7 : Int))]) ∧ (σ = []) ∧ (i7 ≤ a1.fp.length) ∧ (qaN j (a1.fp.drop i7) = some a)) _ ⟨0, rfl, rfl, rfl, jf _, hr⟩ ?_)
 rintro n _ _ ⟨i7, rfl, rfl, rfl, E, hr⟩ a9
 rcases zd a1.fp i7 E with ⟨F, d, c4⟩ | ⟨q_16, F, d, c6, c7⟩
 rw [d, qaN] at hr
 exact fin hr
 rw [d, qaN] at hr
 refine st ?_
 refine qD ?_
 refine st ?_
 refine zk hr rfl qgh (qgp _) (fun r17 h17 hr => ?_)
 refine qax ?_
 refine zi 83 rfl hr (fun _ hr => ?_) (fun _ hr => ?_)
 exact fin hr
 exact fin hr
 refine qbc [3, 9] rfl (qal (fun n env σ => ∃ (i6 : Nat), n = a1.fx.length - i6 ∧ (env = [(3, .ptr (ql a1)), (9, .int .i64 (i6 : Int))]) ∧ (σ = []) ∧ (i6 ≤ a1.fx.length) ∧ (qX i (a1.fx.drop i6) = some a)) _ ⟨0, rfl, rfl, rfl, jf _, hr⟩ ?_)
 rintro n _ _ ⟨i6, rfl, rfl, rfl, G, hr⟩ c8
 rcases zd a1.fx i6 G with ⟨H, e, c9⟩ | ⟨q_19, H, e, d4, d5⟩
 rw [e, qX] at hr
 exact fin hr
 rw [e, qX] at hr
 refine st ?_
 refine qD ?_
 refine st ?_
 refine zk hr rfl qgh (qgp _) (fun r20 h20 hr => ?_)
 refine qg 2 rfl ?_
 refine zt 61 rfl hr (fun _ hr => ?_) (fun _ hr => ?_)
 refine st ?_
 refine zi 69 rfl hr (fun _ hr => ?_) (fun _ hr => ?_)
 exact fin hr
 exact fin hr
 exact fin hr
 refine qbc [0, 3, 5, 6] rfl (qal (fun n env σ => ∃ (i2 : Nat), n = r1.length - i2 ∧ (env = [(0, .lst (a0.map qad)), (3, .ptr (ql a1)), (5, .lst (r1.map zU)), (6, .int .i64 (i2 : Int))]) ∧ (σ = []) ∧ (i2 ≤ r1.length) ∧ (qai h a0 (r1.drop i2) = some a)) _ ⟨0, rfl, rfl, rfl, jf _, hr⟩ ?_)
 rintro n _ _ ⟨i2, rfl, rfl, rfl, I, hr⟩ d6
 rcases zd r1 i2 I with ⟨J, g, d7⟩ | ⟨q_23, J, g, d8, d9⟩
 rw [g, qai] at hr
 exact fin hr
 rw [g, qai] at hr
 refine st ?_
 refine qD (qaC (qea 14 0 ?_))
 refine st ?_
 refine zk hr rfl qhc (qha _ _ _) (fun r24 h24 hr => ?_)
 refine st ?_
 refine zi 37 rfl hr (fun _ hr => ?_) (fun _ hr => ?_)
 exact fin hr
 exact fin hr
def qY (k : Option Int) : List Int → Nat → Option Int
 | [], i10 =>
 k
 | q_17 :: rest, i10 =>
 (bif (q_17 != (i10 : Int)) then
 some (2)
 else
 (qY k rest (i10 + 1)))
def qbf (k : Option Int) : List Gl → Option Int
 | [] =>
 k
 | q_19 :: rest =>
 ((qhY q_19).bind fun r20 =>
 (bif (!r20) then
 some (2)
 else
 (qbf k rest)))
def qbe (k : Option Int) : List At → Option Int
 | [] =>
 k
 | q_22 :: rest =>
 ((qmC q_22).bind fun r23 =>
 (bif (!r23) then
 some (2)
 else
 (qbe k rest)))
def qcp (fuel : Nat) (a0 : List qaS) (a1 : qk) : Option Int :=
 ((qcE a1).bind fun r1 =>
 ((qdc a1).bind fun r2 =>
 (bif ((r1.length : Int) == (0 : Int)) then
 some (6)
 else
 (bif (decide ((r1.length : Int) > (4 : Int))) then
 some (6)
 else
 (bif (decide ((a1.fx.length : Int) > (12 : Int))) then
 some (6)
 else
 (bif (decide ((a1.fp.length : Int) > (12 : Int))) then
 some (6)
 else
 (qbe ((qbf (((qdo fuel a1).bind fun r9 =>
 (qY ((bif (a1.fL != (r9.length : Int)) then
 some (2)
 else
 (bif (!(a1.fK.toList == (⟨#[]⟩ : ByteArray).toList)) then
 ((qkK a1.fK).bind fun r13 =>
 (bif (!r13) then
 some (7)
 else
 ((qbY fuel a0 a1).bind fun r15 =>
 some (r15))))
 else
 ((qbY fuel a0 a1).bind fun r16 =>
 some (r16))))) r9 0))) r2)) r1)))))))
theorem qi0 (fuel : Nat) (a0 : List qaS) (a1 : qk) (a : Int) (hr : qcp fuel a0 a1 = some a) : zg Tryz.prog 19 [.lst (a0.map qad), ql a1] (.int .i64 a) := by
 unfold qcp at hr
 refine qC Tryz.func19 rfl fun K w x => ?_
 refine st ?_
 refine rd rfl (qcA rfl rfl rfl) ?_
 refine st ?_
 refine zk hr rfl qfb (qfc _) (fun r1 h1 hr => ?_)
 refine st ?_
 refine zk hr rfl qf6 (qf8 _) (fun r2 h2 hr => ?_)
 refine st ?_
 refine zt 18 rfl hr (fun _ hr => ?_) (fun _ hr => ?_)
 exact fin hr
 refine st ?_
 refine zt 23 rfl hr (fun _ hr => ?_) (fun _ hr => ?_)
 exact fin hr
 refine st ?_
 refine zt 29 rfl hr (fun _ hr => ?_) (fun _ hr => ?_)
 exact fin hr
 refine st ?_
 refine zi 34 rfl hr (fun _ hr => ?_) (fun _ hr => ?_)
 exact fin hr
 refine st ?_
 obtain ⟨e, i, hr⟩ := exK (fun k => qbe k r1) hr
 refine qc5 12 rfl (asl rfl) fun j => ?_
 simp only [jd] at j
 refine qz (fun env σ => env = [(0, .lst (a0.map qad)), (3, .ptr (ql a1)), (6, .lst (r2.map zB))] ∧ σ = [] ∧ e = some a) ?_ (fun y => ?_)
 rintro _ _ ⟨rfl, rfl, hr⟩
 rw [i] at hr
 refine st ?_
 obtain ⟨g, l, hr⟩ := exK (fun k => qbf k r2) hr
 refine qc5 6 rfl (asl rfl) fun m => ?_
 simp only [jd] at m
 refine qz (fun env σ => env = [(0, .lst (a0.map qad)), (3, .ptr (ql a1))] ∧ σ = [] ∧ g = some a) ?_ (fun z => ?_)
 rintro _ _ ⟨rfl, rfl, hr⟩
 rw [l] at hr
 refine st ?_
 refine zk hr rfl qlh (qlb fuel _) (fun r9 h9 hr => ?_)
 refine st ?_
 obtain ⟨h, o, hr⟩ := exK (fun k => qY k r9 0) hr
 refine qc5 60 rfl (asl rfl) fun p => ?_
 simp only [jd] at p
 refine qz (fun env σ => env = [(0, .lst (a0.map qad)), (3, .ptr (ql a1)), (9, .lst (r9.map (D.int .i64)))] ∧ σ = [] ∧ h = some a) ?_ (fun A => ?_)
 rintro _ _ ⟨rfl, rfl, hr⟩
 rw [o] at hr
 refine st ?_
 refine zi 77 rfl hr (fun _ hr => ?_) (fun _ hr => ?_)
 exact fin hr
 refine st ?_
 refine rd rfl (qgC rfl rfl rfl rfl) (qg 1 rfl ?_)
 refine zt 81 rfl hr (fun _ hr => ?_) (fun _ hr => ?_)
 refine qg 2 rfl ?_
 obtain ⟨r13, h13, hr⟩ := zb hr
 refine qem rfl qhI (qhL _ _ h13) ?_
 refine st ?_
 refine zi 86 rfl hr (fun _ hr => ?_) (fun _ hr => ?_)
 exact fin hr
 refine st ?_
 refine zk hr rfl qhf (qhe fuel _ _) (fun r15 h15 hr => ?_)
 exact fin hr
 refine st ?_
 refine zk hr rfl qhf (qhe fuel _ _) (fun r16 h16 hr => ?_)
 exact fin hr
 refine qbc [0, 3, 9, 10] rfl (qal (fun n env σ => ∃ (i10 : Nat), n = r9.length - i10 ∧ (env = [(0, .lst (a0.map qad)), (3, .ptr (ql a1)), (9, .lst (r9.map (D.int .i64))), (10, .int .i64 (i10 : Int))]) ∧ (σ = []) ∧ (i10 ≤ r9.length) ∧ (qY h (r9.drop i10) i10 = some a)) _ ⟨0, rfl, rfl, rfl, jf _, hr⟩ ?_)
 rintro n _ _ ⟨i10, rfl, rfl, rfl, q, hr⟩ B
 rcases zd r9 i10 q with ⟨r, b, C⟩ | ⟨q_17, r, b, E, F⟩
 rw [b, qY] at hr
 exact fin hr
 rw [b, qY] at hr
 refine st ?_
 refine qD ?_
 refine st ?_
 refine zi 72 rfl hr (fun _ hr => ?_) (fun _ hr => ?_)
 exact fin hr
 exact fin hr
 refine qbc [0, 3, 6, 8] rfl (qal (fun n env σ => ∃ (i8 : Nat), n = r2.length - i8 ∧ (env = [(0, .lst (a0.map qad)), (3, .ptr (ql a1)), (6, .lst (r2.map zB)), (8, .int .i64 (i8 : Int))]) ∧ (σ = []) ∧ (i8 ≤ r2.length) ∧ (qbf g (r2.drop i8) = some a)) _ ⟨0, rfl, rfl, rfl, jf _, hr⟩ ?_)
 rintro n _ _ ⟨i8, rfl, rfl, rfl, s, hr⟩ G
 rcases zd r2 i8 s with ⟨t, c, H⟩ | ⟨q_19, t, c, I, J⟩
 rw [c, qbf] at hr
 exact fin hr
 rw [c, qbf] at hr
 refine st ?_
 refine qD ?_
 refine st ?_
 obtain ⟨r20, h20, hr⟩ := zb hr
 refine qem rfl qco (qcm _ _ h20) ?_
 refine st ?_
 refine zi 58 rfl hr (fun _ hr => ?_) (fun _ hr => ?_)
 exact fin hr
 exact fin hr
 refine qbc [0, 3, 5, 6, 7] rfl (qal (fun n env σ => ∃ (i7 : Nat), n = r1.length - i7 ∧ (env = [(0, .lst (a0.map qad)), (3, .ptr (ql a1)), (5, .lst (r1.map zU)), (6, .lst (r2.map zB)), (7, .int .i64 (i7 : Int))]) ∧ (σ = []) ∧ (i7 ≤ r1.length) ∧ (qbe e (r1.drop i7) = some a)) _ ⟨0, rfl, rfl, rfl, jf _, hr⟩ ?_)
 rintro n _ _ ⟨i7, rfl, rfl, rfl, u, hr⟩ L
 rcases zd r1 i7 u with ⟨v, d, M⟩ | ⟨q_22, v, d, N, O⟩
 rw [d, qbe] at hr
 exact fin hr
 rw [d, qbe] at hr
 refine st ?_
 refine qD ?_
 refine st ?_
 obtain ⟨r23, h23, hr⟩ := zb hr
 refine qem rfl qey (qez _ _ h23) ?_
 refine st ?_
 refine zi 46 rfl hr (fun _ hr => ?_) (fun _ hr => ?_)
 exact fin hr
 exact fin hr
def qaH (k : Option (Int × Int)) (fuel : Nat) (a0 : qc) : List qk → Nat → Option (Int × Int)
 | [], i4 =>
 k
 | q_5 :: rest, i4 =>
 ((qcp fuel a0.fH q_5).bind fun r6 =>
 (bif (r6 != (0 : Int)) then
 some ((i4 : Int), r6)
 else
 (qaH k fuel a0 rest (i4 + 1))))
def qbP (k : Option (Int × Int)) (a0 : qc) : List qaS → Nat → Option (Int × Int)
 | [], i2 =>
 k
 | q_8 :: rest, i2 =>
 ((qkK q_8.fK).bind fun r10 =>
 (bif (!r10) then
 some ((-1), 7)
 else
 (bif (decide (q_8.fN < (0 : Int))) then
 some ((-1), 9)
 else
 (bif (decide (q_8.fN > (6 : Int))) then
 some ((-1), 9)
 else
 ((zS a0.fH 0 (i2 : Int)).bind fun l14 =>
 ((qbL l14 q_8.fK q_8.fN).bind fun r15 =>
 (bif r15 then
 some ((-1), 8)
 else
 (qbP k a0 rest (i2 + 1)))))))))
def qcj (fuel : Nat) (a0 : qc) : Option (Int × Int) :=
 (bif (decide ((a0.fH.length : Int) > (30 : Int))) then
 some ((-1), 6)
 else
 (qbP ((bif (decide ((a0.fc.length : Int) > (40 : Int))) then
 some ((-1), 6)
 else
 (qaH (some (0, 0)) fuel a0 a0.fc 0))) a0 a0.fH 0))
theorem qhS (fuel : Nat) (a0 : qc) (a : Int × Int) (hr : qcj fuel a0 = some a) : zg Tryz.prog 5 [qf a0] (.tup [.int .i64 a.1, .int .i64 a.2]) := by
 unfold qcj at hr
 refine qC Tryz.func5 rfl fun K q r => ?_
 refine st ?_
 refine rd rfl (qcA rfl rfl rfl) ?_
 refine st ?_
 refine zi 11 rfl hr (fun _ hr => ?_) (fun _ hr => ?_)
 exact fin hr
 refine st ?_
 obtain ⟨d, g, hr⟩ := exK (fun k => qbP k a0 a0.fH 0) hr
 refine qc5 9 rfl (asl rfl) fun h => ?_
 simp only [jd] at h
 refine qz (fun env σ => env = [(1, .ptr (qf a0))] ∧ σ = [] ∧ d = some a) ?_ (fun s => ?_)
 rintro _ _ ⟨rfl, rfl, hr⟩
 rw [g] at hr
 refine st ?_
 refine zi 51 rfl hr (fun _ hr => ?_) (fun _ hr => ?_)
 exact fin hr
 refine st ?_
 obtain ⟨e, i, hr⟩ := exK (fun k => qaH k fuel a0 a0.fc 0) hr
 refine qc5 49 rfl (asl rfl) fun j => ?_
 simp only [jd] at j
 refine qz (fun env σ => env = [] ∧ σ = [] ∧ e = some a) ?_ (fun t => ?_)
 rintro _ _ ⟨rfl, rfl, hr⟩
 rw [i] at hr
 exact fin hr
 refine qbc [1, 6] rfl (qal (fun n env σ => ∃ (i4 : Nat), n = a0.fc.length - i4 ∧ (env = [(1, .ptr (qf a0)), (6, .int .i64 (i4 : Int))]) ∧ (σ = []) ∧ (i4 ≤ a0.fc.length) ∧ (qaH e fuel a0 (a0.fc.drop i4) i4 = some a)) _ ⟨0, rfl, rfl, rfl, jf _, hr⟩ ?_)
 rintro n _ _ ⟨i4, rfl, rfl, rfl, l, hr⟩ u
 rcases zd a0.fc i4 l with ⟨m, b, v⟩ | ⟨q_5, m, b, w, x⟩
 rw [b, qaH] at hr
 exact fin hr
 rw [b, qaH] at hr
 refine st ?_
 refine qD (qaC (qea 9 0 ?_))
 refine st ?_
 refine zk hr rfl qi5 (qi0 fuel _ _) (fun r6 h6 hr => ?_)
 refine st ?_
 refine zi 68 rfl hr (fun _ hr => ?_) (fun _ hr => ?_)
 exact fin hr
 exact fin hr
 refine qbc [1, 4] rfl (qal (fun n env σ => ∃ (i2 : Nat), n = a0.fH.length - i2 ∧ (env = [(1, .ptr (qf a0)), (4, .int .i64 (i2 : Int))]) ∧ (σ = []) ∧ (i2 ≤ a0.fH.length) ∧ (qbP d a0 (a0.fH.drop i2) i2 = some a)) _ ⟨0, rfl, rfl, rfl, jf _, hr⟩ ?_)
 rintro n _ _ ⟨i2, rfl, rfl, rfl, o, hr⟩ y
 rcases zd a0.fH i2 o with ⟨p, c, z⟩ | ⟨q_8, p, c, A, B⟩
 rw [c, qbP] at hr
 exact fin hr
 rw [c, qbP] at hr
 refine st ?_
 refine qD (qaC (zf 7 5120 ?_))
 refine st ?_
 refine ew rfl (qbi rfl qua) ?_
 rintro _ _ ⟨b5_8, rfl, rfl⟩
 refine qcw rfl (pf0 _) (qax (qbR 5 b5_8 rfl (pf0 _) (qD ?_)))
 refine st ?_
 obtain ⟨r10, h10, hr⟩ := zb hr
 refine qem rfl qhI (qhL _ _ h10) ?_
 refine st ?_
 refine zi 24 rfl hr (fun _ hr => ?_) (fun _ hr => ?_)
 exact fin hr
 refine st ?_
 refine zt 33 rfl hr (fun _ hr => ?_) (fun _ hr => ?_)
 exact fin hr
 refine st ?_
 refine zi 29 rfl hr (fun _ hr => ?_) (fun _ hr => ?_)
 exact fin hr
 refine st ?_
 refine qea 10 0 (qg 3 rfl ?_)
 obtain ⟨l14, h14, hr⟩ := zb hr
 refine rd rfl (qiR (f := qad) a0.fH 0 (i2 : Int) rfl qni rfl (asl rfl) qgm (qgq rfl) qi6 h14) (qg 4 rfl ?_)
 refine zk hr rfl qeN (qeE _ _ _) (fun r15 h15 hr => ?_)
 refine st ?_
 refine zi 38 rfl hr (fun _ hr => ?_) (fun _ hr => ?_)
 exact fin hr
 exact fin hr
def qaa (k : Option Bool) (a0 : List (Int × At)) : List (Int × At) → Nat → Option Bool
 | [], i2 =>
 k
 | q_3 :: rest, i2 =>
 (bif (decide (q_3.1 < (1 : Int))) then
 some (false)
 else
 (bif (decide ((i2 : Int) > (0 : Int))) then
 ((zh a0 (wr ((i2 : Int) - (1 : Int)))).bind fun q_6 =>
 (bif (decide (q_6.1 ≥ q_3.1)) then
 some (false)
 else
 ((qmC q_3.2).bind fun r8 =>
 (bif (!r8) then
 some (false)
 else
 (qaa k a0 rest (i2 + 1))))))
 else
 ((qmC q_3.2).bind fun r10 =>
 (bif (!r10) then
 some (false)
 else
 (qaa k a0 rest (i2 + 1))))))
def qci (a0 : List (Int × At)) : Option Bool :=
 (bif (decide ((a0.length : Int) > (500 : Int))) then
 some (false)
 else
 (qaa (some (true)) a0 a0 0))
theorem qf5 (a0 : List (Int × At)) (a : Bool) (hr : qci a0 = some a) : zg Tryz.prog 102 [.lst (a0.map zm)] (.bool a) := by
 unfold qci at hr
 refine qC Tryz.func102 rfl fun K i j => ?_
 refine st ?_
 refine zi 6 rfl hr (fun _ hr => ?_) (fun _ hr => ?_)
 exact fin hr
 refine st ?_
 obtain ⟨c, d, hr⟩ := exK (fun k => qaa k a0 a0 0) hr
 refine qc5 0 rfl (asl rfl) fun e => ?_
 simp only [jd] at e
 refine qz (fun env σ => env = [] ∧ σ = [] ∧ c = some a) ?_ (fun l => ?_)
 rintro _ _ ⟨rfl, rfl, hr⟩
 rw [d] at hr
 exact fin hr
 refine qbc [0, 3] rfl (qal (fun n env σ => ∃ (i2 : Nat), n = a0.length - i2 ∧ (env = [(0, .lst (a0.map zm)), (3, .int .i64 (i2 : Int))]) ∧ (σ = []) ∧ (i2 ≤ a0.length) ∧ (qaa c a0 (a0.drop i2) i2 = some a)) _ ⟨0, rfl, rfl, rfl, jf _, hr⟩ ?_)
 rintro n _ _ ⟨i2, rfl, rfl, rfl, g, hr⟩ m
 rcases zd a0 i2 g with ⟨h, b, o⟩ | ⟨q_3, h, b, p, q⟩
 rw [b, qaa] at hr
 exact fin hr
 rw [b, qaa] at hr
 refine st ?_
 refine qD (qaC (qea 33 0 ?_))
 refine st ?_
 refine zt 19 rfl hr (fun _ hr => ?_) (fun _ hr => ?_)
 exact fin hr
 refine qg 3 rfl ?_
 refine zt 22 rfl hr (fun _ hr => ?_) (fun _ hr => ?_)
 refine qg 2 rfl (rd rfl (qe4 rfl rfl rfl rfl) ?_)
 obtain ⟨q_6, h6, hr⟩ := zb hr
 refine st ?_
 refine zt 37 rfl hr (fun _ hr => ?_) (fun _ hr => ?_)
 exact fin hr
 refine st ?_
 obtain ⟨r8, h8, hr⟩ := zb hr
 refine qem rfl qey (qez _ _ h8) ?_
 refine st ?_
 refine zi 45 rfl hr (fun _ hr => ?_) (fun _ hr => ?_)
 exact fin hr
 exact fin hr
 refine st ?_
 obtain ⟨r10, h10, hr⟩ := zb hr
 refine qem rfl qey (qez _ _ h10) ?_
 refine st ?_
 refine zi 45 rfl hr (fun _ hr => ?_) (fun _ hr => ?_)
 exact fin hr
 exact fin hr
def qbG (k : Option (T × Bool)) (a1 : Int) : List (Int × T) → Option (T × Bool)
 | [] =>
 k
 | q_3 :: rest =>
 (bif (q_3.1 == a1) then
 some (q_3.2, true)
 else
 (qbG k a1 rest))
def qcY (a0 : List (Int × T)) (a1 : Int) : Option (T × Bool) :=
 (qbG (some ((T.mk 0 0 ⟨#[]⟩ []), false)) a1 a0)
theorem qeU (a0 : List (Int × T)) (a1 : Int) (a : T × Bool) (hr : qcY a0 a1 = some a) : zg Tryz.prog 136 [.lst (a0.map zq), .int .i64 a1] (.tup [zl a.1, .bool a.2]) := by
 unfold qcY at hr
 refine qC Tryz.func136 rfl fun K j l => (qaC (zf 2 1 (ew rfl (qbi rfl qeH) ?_)))
 rintro _ _ ⟨b4_0, rfl, rfl⟩
 refine st ?_
 obtain ⟨c, d, hr⟩ := exK (fun k => qbG k a1 a0) hr
 refine qc5 0 rfl (asl rfl) fun e => ?_
 simp only [jd] at e
 refine qz (fun env σ => env = [(4, .ref b4_0 0 [])] ∧ σ = [.cell b4_0 (.agg [.int .i64 0, .int .i64 0, .str ⟨#[]⟩, .lst ([].map zl)])] ∧ c = some a) ?_ (fun m => ?_)
 rintro _ _ ⟨rfl, rfl, hr⟩
 rw [d] at hr
 refine qaC (zf 3 4 (rd rfl (qbz rfl qgd .nil (.nil _)) (qcw rfl (pf0 _) ?_)))
 refine st ?_
 cases hr
 refine qbg Tryz.func136 _ (.cons (zp rfl (.head _) (by exact qdy) rfl (Wk.refl _)) (.cons (za rfl (Wk.refl _)) .nil)) ?_
 first | rfl | (show _ = D.agg (fsT _); rw [qeS] <;> rfl) | simp [yL, zl, qeS, T.k, T.i, T.s, T.ar]
 refine qbc [0, 1, 4, 6] rfl (qal (fun n env σ => ∃ (i2 : Nat), n = a0.length - i2 ∧ (env = [(0, .lst (a0.map zq)), (1, .int .i64 a1), (4, .ref b4_0 0 []), (6, .int .i64 (i2 : Int))]) ∧ (σ = [.cell b4_0 (.agg [.int .i64 0, .int .i64 0, .str ⟨#[]⟩, .lst ([].map zl)])]) ∧ (i2 ≤ a0.length) ∧ (qbG c a1 (a0.drop i2) = some a)) _ ⟨0, rfl, rfl, rfl, jf _, hr⟩ ?_)
 rintro n _ _ ⟨i2, rfl, rfl, rfl, g, hr⟩ o
 rcases zd a0 i2 g with ⟨h, b, p⟩ | ⟨q_3, h, b, q, r⟩
 rw [b, qbG] at hr
 exact fin hr
 rw [b, qbG] at hr
 refine st ?_
 refine qD ?_
 refine st ?_
 refine zi 19 rfl hr (fun _ hr => ?_) (fun _ hr => ?_)
 refine st0 ?_
 refine zf 7 1024 ?_
 refine st ?_
 refine qcw rfl (pf0 _) ?_
 refine st ?_
 cases hr
 refine qbg Tryz.func136 _ (.cons (zp rfl (.head _) (by exact qdy) (qcR _) (Wk.refl _)) (.cons (za rfl (Wk.refl _)) .nil)) ?_
 rfl
 exact fin hr
def qaG (k : Option Bool) (a0 : List (Int × T)) : List Int → Option Bool
 | [] =>
 k
 | q_5 :: rest =>
 ((qcY a0 q_5).bind fun r6 =>
 (bif r6.2 then
 some (false)
 else
 (qaG k a0 rest)))
def qaD (k : Option Bool) (a0 : List (Int × T)) (fuel : Nat) : List (Int × T) → Option Bool
 | [] =>
 k
 | q_2 :: rest =>
 ((qdn fuel q_2.2).bind fun r3 =>
 (qaG ((qaD k a0 fuel rest)) a0 r3))
def qeq (fuel : Nat) (a0 : List (Int × T)) : Option Bool :=
 (qaD (some (true)) a0 fuel a0)
theorem qkN (fuel : Nat) (a0 : List (Int × T)) (a : Bool) (hr : qeq fuel a0 = some a) : zg Tryz.prog 133 [.lst (a0.map zq)] (.bool a) := by
 unfold qeq at hr
 refine qC Tryz.func133 rfl fun K q r => ?_
 refine st ?_
 obtain ⟨d, g, hr⟩ := exK (fun k => qaD k a0 fuel a0) hr
 refine qc5 0 rfl (asl rfl) fun h => ?_
 simp only [jd] at h
 refine qz (fun env σ => env = [] ∧ σ = [] ∧ d = some a) ?_ (fun s => ?_)
 rintro _ _ ⟨rfl, rfl, hr⟩
 rw [g] at hr
 exact fin hr
 refine qbc [0, 3] rfl (qal (fun n env σ => ∃ (i1 : Nat), n = a0.length - i1 ∧ (env = [(0, .lst (a0.map zq)), (3, .int .i64 (i1 : Int))]) ∧ (σ = []) ∧ (i1 ≤ a0.length) ∧ (qaD d a0 fuel (a0.drop i1) = some a)) _ ⟨0, rfl, rfl, rfl, jf _, hr⟩ ?_)
 rintro n _ _ ⟨i1, rfl, rfl, rfl, i, hr⟩ t
 rcases zd a0 i1 i with ⟨j, b, u⟩ | ⟨q_2, j, b, v, w⟩
 rw [b, qaD] at hr
 exact fin hr
 rw [b, qaD] at hr
 refine st ?_
 refine qD ?_
 refine st ?_
 refine zk hr rfl qgv (qgt fuel _) (fun r3 h3 hr => ?_)
 refine st ?_
 obtain ⟨e, l, hr⟩ := exK (fun k => qaG k a0 r3) hr
 refine qc5 19 rfl (asl rfl) fun m => ?_
 simp only [jd] at m
 refine qz (fun env σ => env = [(0, .lst (a0.map zq)), (3, .int .i64 (i1 : Int))] ∧ σ = [] ∧ e = some a) ?_ (fun x => ?_)
 rintro _ _ ⟨rfl, rfl, hr⟩
 rw [l] at hr
 exact fin hr
 refine qbc [0, 3, 4, 5] rfl (qal (fun n env σ => ∃ (k4 : Nat), n = r3.length - k4 ∧ (env = [(0, .lst (a0.map zq)), (3, .int .i64 (i1 : Int)), (4, .lst (r3.map (D.int .i64))), (5, .int .i64 (k4 : Int))]) ∧ (σ = []) ∧ (k4 ≤ r3.length) ∧ (qaG e a0 (r3.drop k4) = some a)) _ ⟨0, rfl, rfl, rfl, jf _, hr⟩ ?_)
 rintro n _ _ ⟨k4, rfl, rfl, rfl, o, hr⟩ y
 rcases zd r3 k4 o with ⟨p, c, z⟩ | ⟨q_5, p, c, A, B⟩
 rw [c, qaG] at hr
 exact fin hr
 rw [c, qaG] at hr
 refine st ?_
 refine qD (qaC (zf 12 1310720 ?_))
 refine st ?_
 refine zk hr rfl qeX (qeU _ _) (fun r6 h6 hr => ?_)
 refine qg 3 rfl (ew rfl (qbi rfl qeH) ?_)
 rintro _ _ ⟨b6_6, rfl, rfl⟩
 refine qcw rfl (pf0 _) (qg 1 rfl (qax (qbR 6 b6_6 rfl (pf0 _) ?_)))
 refine st ?_
 refine zi 35 rfl hr (fun _ hr => ?_) (fun _ hr => ?_)
 exact fin hr
 exact fin hr
def q9 (k : Option Bool) (a0 : List (Int × T)) : List (Int × T) → Nat → Option Bool
 | [], i1 =>
 k
 | q_3 :: rest, i1 =>
 (bif (decide (q_3.1 < (0 : Int))) then
 some (false)
 else
 (bif (decide (q_3.1 > (1048576 : Int))) then
 some (false)
 else
 (bif (decide ((i1 : Int) > (0 : Int))) then
 ((zh a0 (wr ((i1 : Int) - (1 : Int)))).bind fun q_7 =>
 (bif (decide (q_3.1 ≤ q_7.1)) then
 some (false)
 else
 ((qj6 q_3.2).bind fun r9 =>
 (bif (!r9) then
 some (false)
 else
 (q9 k a0 rest (i1 + 1))))))
 else
 ((qj6 q_3.2).bind fun r11 =>
 (bif (!r11) then
 some (false)
 else
 (q9 k a0 rest (i1 + 1)))))))
def qcG (fuel : Nat) (a0 : List (Int × T)) : Option Bool :=
 (q9 (((qeq fuel a0).bind fun r2 =>
 some (r2))) a0 a0 0)
theorem qhw (fuel : Nat) (a0 : List (Int × T)) (a : Bool) (hr : qcG fuel a0 = some a) : zg Tryz.prog 103 [.lst (a0.map zq)] (.bool a) := by
 unfold qcG at hr
 refine qC Tryz.func103 rfl fun K i j => ?_
 refine st ?_
 obtain ⟨c, d, hr⟩ := exK (fun k => q9 k a0 a0 0) hr
 refine qc5 0 rfl (asl rfl) fun e => ?_
 simp only [jd] at e
 refine qz (fun env σ => env = [(0, .lst (a0.map zq))] ∧ σ = [] ∧ c = some a) ?_ (fun l => ?_)
 rintro _ _ ⟨rfl, rfl, hr⟩
 rw [d] at hr
 refine st ?_
 refine zk hr rfl qk5 (qkN fuel _) (fun r2 h2 hr => ?_)
 exact fin hr
 refine qbc [0, 3] rfl (qal (fun n env σ => ∃ (i1 : Nat), n = a0.length - i1 ∧ (env = [(0, .lst (a0.map zq)), (3, .int .i64 (i1 : Int))]) ∧ (σ = []) ∧ (i1 ≤ a0.length) ∧ (q9 c a0 (a0.drop i1) i1 = some a)) _ ⟨0, rfl, rfl, rfl, jf _, hr⟩ ?_)
 rintro n _ _ ⟨i1, rfl, rfl, rfl, g, hr⟩ m
 rcases zd a0 i1 g with ⟨h, b, o⟩ | ⟨q_3, h, b, p, q⟩
 rw [b, q9] at hr
 exact fin hr
 rw [b, q9] at hr
 refine st ?_
 refine qD (qaC (qea 41 0 ?_))
 refine st ?_
 refine zt 16 rfl hr (fun _ hr => ?_) (fun _ hr => ?_)
 exact fin hr
 refine st ?_
 refine zt 24 rfl hr (fun _ hr => ?_) (fun _ hr => ?_)
 exact fin hr
 refine qg 3 rfl ?_
 refine zt 27 rfl hr (fun _ hr => ?_) (fun _ hr => ?_)
 refine st ?_
 refine rd rfl (qe4 rfl rfl rfl rfl) ?_
 obtain ⟨q_7, h7, hr⟩ := zb hr
 refine st ?_
 refine zt 42 rfl hr (fun _ hr => ?_) (fun _ hr => ?_)
 exact fin hr
 refine st ?_
 obtain ⟨r9, h9, hr⟩ := zb hr
 refine qem rfl qdM (qdQ _ _ h9) ?_
 refine st ?_
 refine zi 50 rfl hr (fun _ hr => ?_) (fun _ hr => ?_)
 exact fin hr
 exact fin hr
 refine st ?_
 obtain ⟨r11, h11, hr⟩ := zb hr
 refine qem rfl qdM (qdQ _ _ h11) ?_
 refine st ?_
 refine zi 50 rfl hr (fun _ hr => ?_) (fun _ hr => ?_)
 exact fin hr
 exact fin hr
def qbu (k : Option Bool) (a1 : Int) : List Int → Option Bool
 | [] =>
 k
 | q_2 :: rest =>
 (bif (q_2 == a1) then
 some (true)
 else
 (qbu k a1 rest))
def qeb (a0 : List Int) (a1 : Int) : Option Bool :=
 (qbu (some (false)) a1 a0)
theorem qil (a0 : List Int) (a1 : Int) (a : Bool) (hr : qeb a0 a1 = some a) : zg Tryz.prog 159 [.lst (a0.map (D.int .i64)), .int .i64 a1] (.bool a) := by
 unfold qeb at hr
 refine qC Tryz.func159 rfl fun K i j => ?_
 refine st ?_
 obtain ⟨c, d, hr⟩ := exK (fun k => qbu k a1 a0) hr
 refine qc5 0 rfl (asl rfl) fun e => ?_
 simp only [jd] at e
 refine qz (fun env σ => env = [] ∧ σ = [] ∧ c = some a) ?_ (fun l => ?_)
 rintro _ _ ⟨rfl, rfl, hr⟩
 rw [d] at hr
 exact fin hr
 refine qbc [0, 1, 5] rfl (qal (fun n env σ => ∃ (i1 : Nat), n = a0.length - i1 ∧ (env = [(0, .lst (a0.map (D.int .i64))), (1, .int .i64 a1), (5, .int .i64 (i1 : Int))]) ∧ (σ = []) ∧ (i1 ≤ a0.length) ∧ (qbu c a1 (a0.drop i1) = some a)) _ ⟨0, rfl, rfl, rfl, jf _, hr⟩ ?_)
 rintro n _ _ ⟨i1, rfl, rfl, rfl, g, hr⟩ m
 rcases zd a0 i1 g with ⟨h, b, o⟩ | ⟨q_2, h, b, p, q⟩
 rw [b, qbu] at hr
 exact fin hr
 rw [b, qbu] at hr
 refine st ?_
 refine qD ?_
 refine st ?_
 refine zi 17 rfl hr (fun _ hr => ?_) (fun _ hr => ?_)
 exact fin hr
 exact fin hr
def qbK (k : Option Bool) (a0 : qi) : List Int → Nat → Option Bool
 | [], i5 =>
 k
 | q_6 :: rest, i5 =>
 (bif (decide (q_6 < (1 : Int))) then
 some (false)
 else
 ((zS a0.fm 0 (i5 : Int)).bind fun l8 =>
 ((qeb l8 q_6).bind fun r9 =>
 (bif r9 then
 some (false)
 else
 (qbK k a0 rest (i5 + 1))))))
def qda (a0 : qi) : Option Bool :=
 (bif (decide (a0.fy < (0 : Int))) then
 some (false)
 else
 (bif (decide (a0.fy ≥ (40 : Int))) then
 some (false)
 else
 (bif (decide ((a0.fm.length : Int) < (1 : Int))) then
 some (false)
 else
 (bif (decide ((a0.fm.length : Int) > (4 : Int))) then
 some (false)
 else
 (qbK (some (true)) a0 a0.fm 0)))))
theorem qhK (a0 : qi) (a : Bool) (hr : qda a0 = some a) : zg Tryz.prog 134 [qe a0] (.bool a) := by
 unfold qda at hr
 refine qC Tryz.func134 rfl fun K i j => ?_
 refine st ?_
 refine rd rfl (qcA rfl rfl rfl) ?_
 refine st ?_
 refine zt 7 rfl hr (fun _ hr => ?_) (fun _ hr => ?_)
 exact fin hr
 refine qg 5 rfl ?_
 refine zt 12 rfl hr (fun _ hr => ?_) (fun _ hr => ?_)
 exact fin hr
 refine st ?_
 refine zt 18 rfl hr (fun _ hr => ?_) (fun _ hr => ?_)
 exact fin hr
 refine st ?_
 refine zi 23 rfl hr (fun _ hr => ?_) (fun _ hr => ?_)
 exact fin hr
 refine st ?_
 obtain ⟨c, d, hr⟩ := exK (fun k => qbK k a0 a0.fm 0) hr
 refine qc5 14 rfl (asl rfl) fun e => ?_
 simp only [jd] at e
 refine qz (fun env σ => env = [] ∧ σ = [] ∧ c = some a) ?_ (fun l => ?_)
 rintro _ _ ⟨rfl, rfl, hr⟩
 rw [d] at hr
 exact fin hr
 refine qbc [1, 3] rfl (qal (fun n env σ => ∃ (i5 : Nat), n = a0.fm.length - i5 ∧ (env = [(1, .ptr (qe a0)), (3, .int .i64 (i5 : Int))]) ∧ (σ = []) ∧ (i5 ≤ a0.fm.length) ∧ (qbK c a0 (a0.fm.drop i5) i5 = some a)) _ ⟨0, rfl, rfl, rfl, jf _, hr⟩ ?_)
 rintro n _ _ ⟨i5, rfl, rfl, rfl, g, hr⟩ m
 rcases zd a0.fm i5 g with ⟨h, b, o⟩ | ⟨q_6, h, b, p, q⟩
 rw [b, qbK] at hr
 exact fin hr
 rw [b, qbK] at hr
 refine st ?_
 refine qD (qaC (qea 18 0 ?_))
 refine st ?_
 refine zt 37 rfl hr (fun _ hr => ?_) (fun _ hr => ?_)
 exact fin hr
 refine qg 3 rfl ?_
 obtain ⟨l8, h8, hr⟩ := zb hr
 refine rd rfl (qiR (f := (D.int .i64)) a0.fm 0 (i5 : Int) rfl qcO rfl (asl rfl) qgm (qgq rfl) (fun _ => rfl) h8) ?_
 refine st ?_
 refine zk hr rfl qii (qil _ _) (fun r9 h9 hr => ?_)
 refine st ?_
 refine zi 48 rfl hr (fun _ hr => ?_) (fun _ hr => ?_)
 exact fin hr
 exact fin hr
def qct (a0 : Int) (a1 : Int) : Option Int :=
 (bif (decide (a0 < a1)) then
 some ((-1))
 else
 (bif (decide (a0 > a1)) then
 some (1)
 else
 some (0)))
theorem qgc (a0 : Int) (a1 : Int) (a : Int) (hr : qct a0 a1 = some a) : zg Tryz.prog 160 [.int .i64 a0, .int .i64 a1] (.int .i64 a) := by
 unfold qct at hr
 refine qC Tryz.func160 rfl fun K b c => ?_
 refine st ?_
 refine qD ?_
 refine st ?_
 refine zi 5 rfl hr (fun _ hr => ?_) (fun _ hr => ?_)
 exact fin hr
 refine st ?_
 refine zi 9 rfl hr (fun _ hr => ?_) (fun _ hr => ?_)
 exact fin hr
 exact fin hr
def qag (k : Int → Option Int) (a1 : qi) : List Int → Int → Nat → Option Int
 | [], c3, i4 =>
 (k c3)
 | q_6 :: rest, c3, i4 =>
 (bif (decide ((i4 : Int) < (a1.fm.length : Int))) then
 (bif (c3 == (0 : Int)) then
 ((zh a1.fm (i4 : Int)).bind fun q_9 =>
 ((qct q_6 q_9).bind fun r10 =>
 (qag k a1 rest r10 (i4 + 1))))
 else
 (k c3))
 else
 (k c3))
def qdq (k : Int → Option Int) (a0 : qi) (a1 : qi) (r1 : Int) : Option Int :=
 (bif (r1 == (0 : Int)) then
 ((qct (a0.fm.length : Int) (a1.fm.length : Int)).bind fun r12 =>
 (k r12))
 else
 (k r1))
def qbW (a0 : qi) (a1 : qi) : Option Int :=
 ((qct a0.fy a1.fy).bind fun r1 =>
 (qdq (fun c2 =>
 (qag (fun c5 =>
 some (c5)) a1 a0.fm c2 0)) a0 a1 r1))
theorem qfz (a0 : qi) (a1 : qi) (a : Int) (hr : qbW a0 a1 = some a) : zg Tryz.prog 135 [qe a0, qe a1] (.int .i64 a) := by
 unfold qbW at hr
 refine qC Tryz.func135 rfl fun K i j => ?_
 refine st ?_
 refine rd rfl (qcA rfl rfl rfl) (rd rfl (qcA rfl rfl rfl) ?_)
 refine st ?_
 refine zk hr rfl qgo (qgc _ _) (fun r1 h1 hr => ?_)
 refine qg 1 rfl (qax ?_)
 obtain ⟨kkJ0, hkkJ0, hr⟩ := exK (fun k => qdq k a0 a1 r1) hr
 refine qpt (fun env σ => ∃ (c2 : Int), env = [(2, .ptr (qe a0)), (3, .ptr (qe a1)), (5, .int .i64 c2)] ∧ σ = [] ∧ kkJ0 c2 = some a) ?_ (fun HKJ0 => ?_)
 rintro _ _ ⟨c2, rfl, rfl, hr⟩
 rw [hkkJ0] at hr
 refine st ?_
 obtain ⟨d, e, hr⟩ := exK (fun k => qag k a1 a0.fm c2 0) hr
 refine qpE 2 [1] (l := a0.fm.map (D.int .i64)) rfl rfl (asl rfl) fun g => ?_
 simp only [jd] at g
 refine qz (fun env σ => ∃ (c5 : Int), env = [(5, .int .i64 c5)] ∧ σ = [] ∧ d c5 = some a) ?_ (fun m => ?_)
 rintro _ _ ⟨c5, rfl, rfl, hr⟩
 rw [e] at hr
 exact fin hr
 refine qbc [2, 3, 5, 6] rfl (qal (fun n env σ => ∃ (c3 : Int) (i4 : Nat), n = a0.fm.length - i4 ∧ (env = [(2, .ptr (qe a0)), (3, .ptr (qe a1)), (5, .int .i64 c3), (6, .int .i64 (i4 : Int))]) ∧ (σ = []) ∧ (i4 ≤ a0.fm.length) ∧ (qag d a1 (a0.fm.drop i4) c3 i4 = some a)) _ ⟨c2, 0, rfl, rfl, rfl, jf _, hr⟩ ?_)
 rintro n _ _ ⟨c3, i4, rfl, rfl, rfl, h, hr⟩ o
 rcases zd a0.fm i4 h with ⟨b, c, p⟩ | ⟨q_6, b, c, q, r⟩
 rw [c, qag] at hr
 refine qaC (qaC (zf 16 0 (qg 3 rfl (qjP rfl (qg 2 rfl (qhW 26 false rfl b ?_))))))
 exact fin hr
 rw [c, qag] at hr
 refine qaC (qaC (zf 16 0 (qg 3 rfl (qjP rfl (qg 2 rfl (qhW 26 true rfl b ?_))))))
 refine st ?_
 refine zt 33 rfl hr (fun _ hr => ?_) (fun _ hr => ?_)
 refine st ?_
 refine zi 36 rfl hr (fun _ hr => ?_) (fun _ hr => ?_)
 refine st ?_
 refine qD (qea 12 0 ?_)
 refine st ?_
 obtain ⟨q_9, h9, hr⟩ := zb hr
 refine st ?_
 refine zk hr rfl qgo (qgc _ _) (fun r10 h10 hr => ?_)
 exact fin hr
 exact fin hr
 exact fin hr
 unfold qdq at hr
 refine st ?_
 refine zi 13 rfl hr (fun _ hr => ?_) (fun _ hr => ?_)
 refine st ?_
 refine zk hr rfl qgo (qgc _ _) (fun r12 h12 hr => ?_)
 exact fin hr
 exact fin hr
def q8 (k : Option Bool) (a0 : List qi) : List qi → Nat → Option Bool
 | [], i2 =>
 k
 | q_3 :: rest, i2 =>
 ((qda q_3).bind fun r4 =>
 (bif (!r4) then
 some (false)
 else
 (bif (decide ((i2 : Int) > (0 : Int))) then
 ((zh a0 (wr ((i2 : Int) - (1 : Int)))).bind fun q_7 =>
 ((qbW q_7 q_3).bind fun r8 =>
 (bif (decide (r8 ≥ (0 : Int))) then
 some (false)
 else
 (q8 k a0 rest (i2 + 1)))))
 else
 (q8 k a0 rest (i2 + 1)))))
def qcD (a0 : List qi) : Option Bool :=
 (bif (decide ((a0.length : Int) > (5000 : Int))) then
 some (false)
 else
 (q8 (some (true)) a0 a0 0))
theorem qhv (a0 : List qi) (a : Bool) (hr : qcD a0 = some a) : zg Tryz.prog 104 [.lst (a0.map qe)] (.bool a) := by
 unfold qcD at hr
 refine qC Tryz.func104 rfl fun K i j => ?_
 refine st ?_
 refine zi 6 rfl hr (fun _ hr => ?_) (fun _ hr => ?_)
 exact fin hr
 refine st ?_
 obtain ⟨c, d, hr⟩ := exK (fun k => q8 k a0 a0 0) hr
 refine qc5 0 rfl (asl rfl) fun e => ?_
 simp only [jd] at e
 refine qz (fun env σ => env = [] ∧ σ = [] ∧ c = some a) ?_ (fun l => ?_)
 rintro _ _ ⟨rfl, rfl, hr⟩
 rw [d] at hr
 exact fin hr
 refine qbc [0, 3] rfl (qal (fun n env σ => ∃ (i2 : Nat), n = a0.length - i2 ∧ (env = [(0, .lst (a0.map qe)), (3, .int .i64 (i2 : Int))]) ∧ (σ = []) ∧ (i2 ≤ a0.length) ∧ (q8 c a0 (a0.drop i2) i2 = some a)) _ ⟨0, rfl, rfl, rfl, jf _, hr⟩ ?_)
 rintro n _ _ ⟨i2, rfl, rfl, rfl, g, hr⟩ m
 rcases zd a0 i2 g with ⟨h, b, o⟩ | ⟨q_3, h, b, p, q⟩
 rw [b, q8] at hr
 exact fin hr
 rw [b, q8] at hr
 refine st ?_
 refine qD (qaC (qea 23 0 ?_))
 refine st ?_
 refine zk hr rfl qhN (qhK _) (fun r4 h4 hr => ?_)
 refine qg 2 rfl ?_
 refine zt 19 rfl hr (fun _ hr => ?_) (fun _ hr => ?_)
 exact fin hr
 refine qg 3 rfl ?_
 refine zt 22 rfl hr (fun _ hr => ?_) (fun _ hr => ?_)
 refine qg 2 rfl (rd rfl (qe4 rfl rfl rfl rfl) ?_)
 obtain ⟨q_7, h7, hr⟩ := zb hr
 refine st ?_
 refine zk hr rfl qfF (qfz _ _) (fun r8 h8 hr => ?_)
 refine st ?_
 refine zi 35 rfl hr (fun _ hr => ?_) (fun _ hr => ?_)
 exact fin hr
 exact fin hr
 exact fin hr
def qcx (fuel : Nat) (a0 : At) : Option (List Int) :=
 ((qcd fuel a0.ts).bind fun r1 =>
 some (r1))
theorem qgT (fuel : Nat) (a0 : At) (a : List Int) (hr : qcx fuel a0 = some a) : zg Tryz.prog 49 [zU a0] (.lst (a.map (D.int .i64))) := by
 unfold qcx at hr
 refine qC Tryz.func49 rfl fun K b c => ?_
 refine st ?_
 refine rd rfl (qcA rfl rfl rfl) ?_
 refine st ?_
 refine zk hr rfl qeV (qe1 fuel _) (fun r1 h1 hr => ?_)
 exact fin hr
def qbh (k : Option Bool) (a2 : List (Int × T)) (a1 : Int) : List Int → Option Bool
 | [] =>
 k
 | q_2 :: rest =>
 (bif (decide (q_2 ≥ a1)) then
 some (false)
 else
 ((qcY a2 q_2).bind fun r4 =>
 (bif r4.2 then
 some (false)
 else
 (qbh k a2 a1 rest))))
def qcu (a0 : List Int) (a1 : Int) (a2 : List (Int × T)) : Option Bool :=
 (qbh (some (true)) a2 a1 a0)
theorem qgn (a0 : List Int) (a1 : Int) (a2 : List (Int × T)) (a : Bool) (hr : qcu a0 a1 a2 = some a) : zg Tryz.prog 105 [.lst (a0.map (D.int .i64)), .int .i64 a1, .lst (a2.map zq)] (.bool a) := by
 unfold qcu at hr
 refine qC Tryz.func105 rfl fun K i j => ?_
 refine st ?_
 obtain ⟨c, d, hr⟩ := exK (fun k => qbh k a2 a1 a0) hr
 refine qc5 0 rfl (asl rfl) fun e => ?_
 simp only [jd] at e
 refine qz (fun env σ => env = [] ∧ σ = [] ∧ c = some a) ?_ (fun l => ?_)
 rintro _ _ ⟨rfl, rfl, hr⟩
 rw [d] at hr
 exact fin hr
 refine qbc [0, 1, 2, 7] rfl (qal (fun n env σ => ∃ (i1 : Nat), n = a0.length - i1 ∧ (env = [(0, .lst (a0.map (D.int .i64))), (1, .int .i64 a1), (2, .lst (a2.map zq)), (7, .int .i64 (i1 : Int))]) ∧ (σ = []) ∧ (i1 ≤ a0.length) ∧ (qbh c a2 a1 (a0.drop i1) = some a)) _ ⟨0, rfl, rfl, rfl, jf _, hr⟩ ?_)
 rintro n _ _ ⟨i1, rfl, rfl, rfl, g, hr⟩ m
 rcases zd a0 i1 g with ⟨h, b, o⟩ | ⟨q_2, h, b, p, q⟩
 rw [b, qbh] at hr
 exact fin hr
 rw [b, qbh] at hr
 refine st ?_
 refine qD ?_
 refine st ?_
 refine zi 21 rfl hr (fun _ hr => ?_) (fun _ hr => ?_)
 exact fin hr
 refine st0 ?_
 refine zf 12 1310720 ?_
 refine st ?_
 refine zk hr rfl qeX (qeU _ _) (fun r4 h4 hr => ?_)
 refine qg 3 rfl (ew rfl (qbi rfl qeH) ?_)
 rintro _ _ ⟨b8_4, rfl, rfl⟩
 refine qcw rfl (pf0 _) (qg 1 rfl (qax (qbR 8 b8_4 rfl (pf0 _) ?_)))
 refine st ?_
 refine zi 31 rfl hr (fun _ hr => ?_) (fun _ hr => ?_)
 exact fin hr
 exact fin hr
def qO (a0 : qk) : Option Bool :=
 some (((a0.ft.length : Int) == (0 : Int)))
theorem qe3 (a0 : qk) (a : Bool) (hr : qO a0 = some a) : zg Tryz.prog 107 [ql a0] (.bool a) := by
 unfold qO at hr
 refine qC Tryz.func107 rfl fun K b c => ?_
 refine st ?_
 refine rd rfl (qcA rfl rfl rfl) ?_
 exact fin hr
def qbS (a0 : qk) : Option (List At) :=
 ((zz 40 [] a0.fg).bind fun l3 =>
 ((zz 40 l3 a0.ft).bind fun l5 =>
 some (l5)))
theorem qfd (a0 : qk) (res : List At) (hr : qbS a0 = some res) : zg Tryz.prog 108 [ql a0] (.lst (res.map zU)) := by
 unfold qbS at hr
 refine qC Tryz.func108 rfl fun K hK hF => (qaC (zf 2 4 (rd rfl (qcA rfl rfl rfl) (ew rfl (qL 48 2 (.inl rfl)) ?_))))
 rintro _ _ ⟨u2_0, rfl, rfl⟩
 refine st0 ?_
 refine zf 1 1 (ew rfl (qL 48 2 (.inl rfl)) ?_)
 rintro _ _ ⟨u3_1, rfl, rfl⟩
 refine st0 ?_
 refine zf 5 64 (qg 3 rfl ?_)
 obtain ⟨l3, h3, hr⟩ := zb hr
 refine ew rfl (qau (f := zU) [] a0.fg rfl qd5 rfl rfl (asl rfl) (pf0 _) rfl qen h3) ?_
 rintro _ _ ⟨u7_3, rfl, rfl⟩
 refine st0 ?_
 refine zf 5 64 (qg 3 rfl ?_)
 obtain ⟨l5, h5, hr⟩ := zb hr
 refine ew rfl (qau (f := zU) l3 a0.ft rfl qd5 rfl rfl (asl rfl) (pf0 _) rfl qen h5) ?_
 rintro _ _ ⟨u11_5, rfl, rfl⟩
 refine st ?_
 cases hr
 refine qbg Tryz.func108 _ (.cons (za rfl (Wk.own _ _)) .nil) ?_
 rfl
def qaV (k : Option (At × Bool)) (a1 : Int) : List (Int × At) → Option (At × Bool)
 | [] =>
 k
 | q_3 :: rest =>
 (bif (q_3.1 == a1) then
 some (q_3.2, true)
 else
 (qaV k a1 rest))
def qdm (a0 : List (Int × At)) (a1 : Int) : Option (At × Bool) :=
 (qaV (some ((⟨⟨#[]⟩, []⟩ : At), false)) a1 a0)
theorem qgi (a0 : List (Int × At)) (a1 : Int) (a : At × Bool) (hr : qdm a0 a1 = some a) : zg Tryz.prog 109 [.lst (a0.map zm), .int .i64 a1] (.tup [zU a.1, .bool a.2]) := by
 unfold qdm at hr
 refine qC Tryz.func109 rfl fun K i j => (qaC (zf 2 1 (ew rfl (qbi rfl qfQ) ?_)))
 rintro _ _ ⟨b4_0, rfl, rfl⟩
 refine st ?_
 obtain ⟨c, d, hr⟩ := exK (fun k => qaV k a1 a0) hr
 refine qc5 0 rfl (asl rfl) fun e => ?_
 simp only [jd] at e
 refine qz (fun env σ => env = [(4, .ref b4_0 0 [])] ∧ σ = [.cell b4_0 (.agg [.str ⟨#[]⟩, .lst ([].map zl)])] ∧ c = some a) ?_ (fun l => ?_)
 rintro _ _ ⟨rfl, rfl, hr⟩
 rw [d] at hr
 refine qaC (zf 3 4 (rd rfl (qbz rfl qjH .nil (.nil _)) (qcw rfl (pf0 _) ?_)))
 refine st ?_
 cases hr
 refine qbg Tryz.func109 _ (.cons (zp rfl (.head _) (by exact qix) rfl (Wk.refl _)) (.cons (za rfl (Wk.refl _)) .nil)) ?_
 rfl
 refine qbc [0, 1, 4, 6] rfl (qal (fun n env σ => ∃ (i2 : Nat), n = a0.length - i2 ∧ (env = [(0, .lst (a0.map zm)), (1, .int .i64 a1), (4, .ref b4_0 0 []), (6, .int .i64 (i2 : Int))]) ∧ (σ = [.cell b4_0 (.agg [.str ⟨#[]⟩, .lst ([].map zl)])]) ∧ (i2 ≤ a0.length) ∧ (qaV c a1 (a0.drop i2) = some a)) _ ⟨0, rfl, rfl, rfl, jf _, hr⟩ ?_)
 rintro n _ _ ⟨i2, rfl, rfl, rfl, g, hr⟩ m
 rcases zd a0 i2 g with ⟨h, b, o⟩ | ⟨q_3, h, b, p, q⟩
 rw [b, qaV] at hr
 exact fin hr
 rw [b, qaV] at hr
 refine st ?_
 refine qD ?_
 refine st ?_
 refine zi 19 rfl hr (fun _ hr => ?_) (fun _ hr => ?_)
 refine st0 ?_
 refine zf 7 1024 ?_
 refine st ?_
 refine qcw rfl (pf0 _) ?_
 refine st ?_
 cases hr
 refine qbg Tryz.func109 _ (.cons (zp rfl (.head _) (by exact qix) (qen _) (Wk.refl _)) (.cons (za rfl (Wk.refl _)) .nil)) ?_
 rfl
 exact fin hr
def qav (k : Option Bool) (a1 : List (Int × At)) : List Int → Option Bool
 | [] =>
 k
 | q_24 :: rest =>
 ((qdm a1 q_24).bind fun r25 =>
 (bif (!r25.2) then
 some (false)
 else
 (qav k a1 rest)))
def qas (k : Option Bool) (a1 : List (Int × At)) (a0 : qc) : List qi → Option Bool
 | [] =>
 k
 | q_14 :: rest =>
 (bif (decide (q_14.fy < (0 : Int))) then
 some (false)
 else
 (bif (decide (q_14.fy ≥ (a0.fc.length : Int))) then
 some (false)
 else
 ((zh a0.fc q_14.fy).bind fun q_17 =>
 ((qO q_17).bind fun r19 =>
 (bif (!r19) then
 some (false)
 else
 ((qbS q_17).bind fun r21 =>
 (bif ((q_14.fm.length : Int) != (r21.length : Int)) then
 some (false)
 else
 (qav ((qas k a1 a0 rest)) a1 q_14.fm))))))))
def qar (k : Option Bool) (a2 : List (Int × T)) (a5 : Int) (fuel : Nat) : List (Int × T) → Option Bool
 | [] =>
 k
 | q_28 :: rest =>
 (bif (decide (q_28.1 ≥ a5)) then
 some (false)
 else
 ((qdn fuel q_28.2).bind fun r30 =>
 ((qcu r30 a5 a2).bind fun r31 =>
 (bif (!r31) then
 some (false)
 else
 (qar k a2 a5 fuel rest)))))
def qat (k : Option Bool) (a2 : List (Int × T)) (a5 : Int) (fuel : Nat) (a4 : Int) (a0 : qc) : List (Int × At) → Option Bool
 | [] =>
 k
 | q_33 :: rest =>
 (bif (decide (q_33.1 ≥ a4)) then
 some (false)
 else
 ((qbL a0.fH q_33.2.n (q_33.2.ts.length : Int)).bind fun r36 =>
 (bif (!r36) then
 some (false)
 else
 ((qcx fuel q_33.2).bind fun r38 =>
 ((qcu r38 a5 a2).bind fun r39 =>
 (bif (!r39) then
 some (false)
 else
 (qat k a2 a5 fuel a4 a0 rest)))))))
def qcX (fuel : Nat) (a0 : qc) (a1 : List (Int × At)) (a2 : List (Int × T)) (a3 : List qi) (a4 : Int) (a5 : Int) : Option Bool :=
 ((qci a1).bind fun r1 =>
 (bif (!r1) then
 some (false)
 else
 ((qcG fuel a2).bind fun r3 =>
 (bif (!r3) then
 some (false)
 else
 ((qcD a3).bind fun r5 =>
 (bif (!r5) then
 some (false)
 else
 (bif (decide (a4 < (1 : Int))) then
 some (false)
 else
 (bif (decide (a4 > (2147483648 : Int))) then
 some (false)
 else
 (bif (decide (a5 < (0 : Int))) then
 some (false)
 else
 (bif (decide (a5 > (1048576 : Int))) then
 some (false)
 else
 (qat ((qar ((qas (some (true)) a1 a0 a3)) a2 a5 fuel a2)) a2 a5 fuel a4 a0 a1)))))))))))
theorem qkj (fuel : Nat) (a0 : qc) (a1 : List (Int × At)) (a2 : List (Int × T)) (a3 : List qi) (a4 : Int) (a5 : Int) (a : Bool) (hr : qcX fuel a0 a1 a2 a3 a4 a5 = some a) : zg Tryz.prog 69 [qf a0, .lst (a1.map zm), .lst (a2.map zq), .lst (a3.map qe), .int .i64 a4, .int .i64 a5] (.bool a) := by
 unfold qcX at hr
 refine qC Tryz.func69 rfl fun K C D => ?_
 refine st ?_
 refine rd rfl (qcA rfl rfl rfl) ?_
 refine st ?_
 refine zk hr rfl qga (qf5 _) (fun r1 h1 hr => ?_)
 refine qg 2 rfl ?_
 refine zt 24 rfl hr (fun _ hr => ?_) (fun _ hr => ?_)
 exact fin hr
 refine qg 1 rfl ?_
 refine zk hr rfl qhC (qhw fuel _) (fun r3 h3 hr => ?_)
 refine qg 3 rfl ?_
 refine zt 29 rfl hr (fun _ hr => ?_) (fun _ hr => ?_)
 exact fin hr
 refine qg 1 rfl ?_
 refine zk hr rfl qhy (qhv _) (fun r5 h5 hr => ?_)
 refine qg 3 rfl ?_
 refine zt 34 rfl hr (fun _ hr => ?_) (fun _ hr => ?_)
 exact fin hr
 refine qg 4 rfl ?_
 refine zt 38 rfl hr (fun _ hr => ?_) (fun _ hr => ?_)
 exact fin hr
 refine qg 4 rfl ?_
 refine zt 42 rfl hr (fun _ hr => ?_) (fun _ hr => ?_)
 exact fin hr
 refine qg 4 rfl ?_
 refine zt 46 rfl hr (fun _ hr => ?_) (fun _ hr => ?_)
 exact fin hr
 refine st ?_
 refine zi 49 rfl hr (fun _ hr => ?_) (fun _ hr => ?_)
 exact fin hr
 refine st ?_
 obtain ⟨g, l, hr⟩ := exK (fun k => qat k a2 a5 fuel a4 a0 a1) hr
 refine qc5 1 rfl (asl rfl) fun m => ?_
 simp only [jd] at m
 refine qz (fun env σ => env = [(1, .lst (a1.map zm)), (2, .lst (a2.map zq)), (3, .lst (a3.map qe)), (5, .int .i64 a5), (6, .ptr (qf a0))] ∧ σ = [] ∧ g = some a) ?_ (fun E => ?_)
 rintro _ _ ⟨rfl, rfl, hr⟩
 rw [l] at hr
 refine st ?_
 obtain ⟨h, o, hr⟩ := exK (fun k => qar k a2 a5 fuel a2) hr
 refine qc5 2 rfl (asl rfl) fun p => ?_
 simp only [jd] at p
 refine qz (fun env σ => env = [(1, .lst (a1.map zm)), (3, .lst (a3.map qe)), (6, .ptr (qf a0))] ∧ σ = [] ∧ h = some a) ?_ (fun F => ?_)
 rintro _ _ ⟨rfl, rfl, hr⟩
 rw [o] at hr
 refine st ?_
 obtain ⟨i, q, hr⟩ := exK (fun k => qas k a1 a0 a3) hr
 refine qc5 3 rfl (asl rfl) fun r => ?_
 simp only [jd] at r
 refine qz (fun env σ => env = [] ∧ σ = [] ∧ i = some a) ?_ (fun G => ?_)
 rintro _ _ ⟨rfl, rfl, hr⟩
 rw [q] at hr
 exact fin hr
 refine qbc [1, 3, 6, 16] rfl (qal (fun n env σ => ∃ (i13 : Nat), n = a3.length - i13 ∧ (env = [(1, .lst (a1.map zm)), (3, .lst (a3.map qe)), (6, .ptr (qf a0)), (16, .int .i64 (i13 : Int))]) ∧ (σ = []) ∧ (i13 ≤ a3.length) ∧ (qas i a1 a0 (a3.drop i13) = some a)) _ ⟨0, rfl, rfl, rfl, jf _, hr⟩ ?_)
 rintro n _ _ ⟨i13, rfl, rfl, rfl, s, hr⟩ H
 rcases zd a3 i13 s with ⟨t, b, I⟩ | ⟨q_14, t, b, J, L⟩
 rw [b, qas] at hr
 exact fin hr
 rw [b, qas] at hr
 refine st ?_
 refine qD ?_
 refine st ?_
 refine qea 17 0 ?_
 refine st ?_
 refine zt 124 rfl hr (fun _ hr => ?_) (fun _ hr => ?_)
 exact fin hr
 refine st ?_
 refine zi 134 rfl hr (fun _ hr => ?_) (fun _ hr => ?_)
 exact fin hr
 refine st ?_
 refine qea 11 1310720 ?_
 refine st ?_
 obtain ⟨q_17, h17, hr⟩ := zb hr
 refine st ?_
 refine ew rfl (qbi rfl qgX) ?_
 rintro _ _ ⟨b17_17, rfl, rfl⟩
 refine qcw rfl (pf0 _) (qax (qbR 17 b17_17 rfl (pf0 _) ?_))
 refine st ?_
 refine qea 15 0 (qg 1 rfl ?_)
 refine zk hr rfl qe5 (qe3 _) (fun r19 h19 hr => ?_)
 refine qg 2 rfl ?_
 refine zt 147 rfl hr (fun _ hr => ?_) (fun _ hr => ?_)
 exact fin hr
 refine st ?_
 refine zk hr rfl qfe (qfd _) (fun r21 h21 hr => ?_)
 refine st ?_
 refine zi 158 rfl hr (fun _ hr => ?_) (fun _ hr => ?_)
 exact fin hr
 refine st ?_
 obtain ⟨j, u, hr⟩ := exK (fun k => qav k a1 q_14.fm) hr
 refine qc5 152 rfl (asl rfl) fun v => ?_
 simp only [jd] at v
 refine qz (fun env σ => env = [(1, .lst (a1.map zm)), (3, .lst (a3.map qe)), (6, .ptr (qf a0)), (16, .int .i64 (i13 : Int))] ∧ σ = [] ∧ j = some a) ?_ (fun M => ?_)
 rintro _ _ ⟨rfl, rfl, hr⟩
 rw [u] at hr
 exact fin hr
 refine qbc [1, 3, 6, 16, 18] rfl (qal (fun n env σ => ∃ (k23 : Nat), n = q_14.fm.length - k23 ∧ (env = [(1, .lst (a1.map zm)), (3, .lst (a3.map qe)), (6, .ptr (qf a0)), (16, .int .i64 (i13 : Int)), (18, .int .i64 (k23 : Int))]) ∧ (σ = []) ∧ (k23 ≤ q_14.fm.length) ∧ (qav j a1 (q_14.fm.drop k23) = some a)) _ ⟨0, rfl, rfl, rfl, jf _, hr⟩ ?_)
 rintro n _ _ ⟨k23, rfl, rfl, rfl, w, hr⟩ N
 rcases zd q_14.fm k23 w with ⟨x, c, O⟩ | ⟨q_24, x, c, P, Q⟩
 rw [c, qav] at hr
 exact fin hr
 rw [c, qav] at hr
 refine st ?_
 refine qD (qaC (zf 16 335544320 ?_))
 refine st ?_
 refine zk hr rfl qgj (qgi _ _) (fun r25 h25 hr => ?_)
 refine qg 3 rfl (ew rfl (qbi rfl qfQ) ?_)
 rintro _ _ ⟨b19_25, rfl, rfl⟩
 refine qcw rfl (pf0 _) (qg 1 rfl (qax (qbR 19 b19_25 rfl (pf0 _) ?_)))
 refine st ?_
 refine zi 183 rfl hr (fun _ hr => ?_) (fun _ hr => ?_)
 exact fin hr
 exact fin hr
 refine qbc [1, 2, 3, 5, 6, 15] rfl (qal (fun n env σ => ∃ (i12 : Nat), n = a2.length - i12 ∧ (env = [(1, .lst (a1.map zm)), (2, .lst (a2.map zq)), (3, .lst (a3.map qe)), (5, .int .i64 a5), (6, .ptr (qf a0)), (15, .int .i64 (i12 : Int))]) ∧ (σ = []) ∧ (i12 ≤ a2.length) ∧ (qar h a2 a5 fuel (a2.drop i12) = some a)) _ ⟨0, rfl, rfl, rfl, jf _, hr⟩ ?_)
 rintro n _ _ ⟨i12, rfl, rfl, rfl, y, hr⟩ R
 rcases zd a2 i12 y with ⟨z, d, S⟩ | ⟨q_28, z, d, U, V⟩
 rw [d, qar] at hr
 exact fin hr
 rw [d, qar] at hr
 refine st ?_
 refine qD ?_
 refine st ?_
 refine zt 100 rfl hr (fun _ hr => ?_) (fun _ hr => ?_)
 exact fin hr
 refine st ?_
 refine zk hr rfl qgv (qgt fuel _) (fun r30 h30 hr => ?_)
 refine qg 2 rfl ?_
 refine zk hr rfl qgs (qgn _ _ _) (fun r31 h31 hr => ?_)
 refine st ?_
 refine zi 111 rfl hr (fun _ hr => ?_) (fun _ hr => ?_)
 exact fin hr
 exact fin hr
 refine qbc [1, 2, 3, 4, 5, 6, 13] rfl (qal (fun n env σ => ∃ (i11 : Nat), n = a1.length - i11 ∧ (env = [(1, .lst (a1.map zm)), (2, .lst (a2.map zq)), (3, .lst (a3.map qe)), (4, .int .i64 a4), (5, .int .i64 a5), (6, .ptr (qf a0)), (13, .int .i64 (i11 : Int))]) ∧ (σ = []) ∧ (i11 ≤ a1.length) ∧ (qat g a2 a5 fuel a4 a0 (a1.drop i11) = some a)) _ ⟨0, rfl, rfl, rfl, jf _, hr⟩ ?_)
 rintro n _ _ ⟨i11, rfl, rfl, rfl, A, hr⟩ W
 rcases zd a1 i11 A with ⟨B, e, X⟩ | ⟨q_33, B, e, Y, Z⟩
 rw [e, qat] at hr
 exact fin hr
 rw [e, qat] at hr
 refine st ?_
 refine qD (qaC (zf 7 5120 ?_))
 refine st ?_
 refine ew rfl (qbi rfl qfQ) ?_
 rintro _ _ ⟨b14_33, rfl, rfl⟩
 refine qcw rfl (pf0 _) (qax (qbR 14 b14_33 rfl (pf0 _) ?_))
 refine st ?_
 refine zt 68 rfl hr (fun _ hr => ?_) (fun _ hr => ?_)
 exact fin hr
 refine st ?_
 refine zk hr rfl qeN (qeE _ _ _) (fun r36 h36 hr => ?_)
 refine qg 3 rfl ?_
 refine zt 79 rfl hr (fun _ hr => ?_) (fun _ hr => ?_)
 exact fin hr
 refine qg 1 rfl ?_
 refine zk hr rfl qgN (qgT fuel _) (fun r38 h38 hr => ?_)
 refine qg 2 rfl ?_
 refine zk hr rfl qgs (qgn _ _ _) (fun r39 h39 hr => ?_)
 refine st ?_
 refine zi 86 rfl hr (fun _ hr => ?_) (fun _ hr => ?_)
 exact fin hr
 exact fin hr
def qc6 (a0 : qc) (a1 : Gl) : Option Bool :=
 ((qhY a1).bind fun r1 =>
 (bif (!r1) then
 some (false)
 else
 (bif (decide (a1.op > (4 : Int))) then
 some (false)
 else
 (bif (a1.op != (0 : Int)) then
 some (true)
 else
 ((qbL a0.fH a1.n (a1.ts.length : Int)).bind fun r5 =>
 some (r5))))))
theorem qkA (a0 : qc) (a1 : Gl) (a : Bool) (hr : qc6 a0 a1 = some a) : zg Tryz.prog 71 [qf a0, zB a1] (.bool a) := by
 unfold qc6 at hr
 refine qC Tryz.func71 rfl fun K b c => ?_
 refine st ?_
 refine rd rfl (qcA rfl rfl rfl) (rd rfl (qcA rfl rfl rfl) ?_)
 refine st ?_
 obtain ⟨r1, h1, hr⟩ := zb hr
 refine qem rfl qco (qcm _ _ h1) (qg 2 rfl ?_)
 refine zt 8 rfl hr (fun _ hr => ?_) (fun _ hr => ?_)
 exact fin hr
 refine st ?_
 refine zi 12 rfl hr (fun _ hr => ?_) (fun _ hr => ?_)
 exact fin hr
 refine st ?_
 refine zt 16 rfl hr (fun _ hr => ?_) (fun _ hr => ?_)
 exact fin hr
 refine st ?_
 refine zk hr rfl qeN (qeE _ _ _) (fun r5 h5 hr => ?_)
 exact fin hr
def qdk (fuel : Nat) (a0 : Gl) (a1 : Int) (a2 : List (Int × T)) : Option Bool :=
 ((qbJ fuel a0).bind fun r1 =>
 ((qcu r1 a1 a2).bind fun r2 =>
 some (r2)))
theorem qlB (fuel : Nat) (a0 : Gl) (a1 : Int) (a2 : List (Int × T)) (a : Bool) (hr : qdk fuel a0 a1 a2 = some a) : zg Tryz.prog 72 [zB a0, .int .i64 a1, .lst (a2.map zq)] (.bool a) := by
 unfold qdk at hr
 refine qC Tryz.func72 rfl fun K b c => ?_
 refine st ?_
 refine rd rfl (qcA rfl rfl rfl) ?_
 refine st ?_
 refine zk hr rfl qfs (qfr fuel _) (fun r1 h1 hr => ?_)
 refine qg 2 rfl ?_
 refine zk hr rfl qgs (qgn _ _ _) (fun r2 h2 hr => ?_)
 exact fin hr
def qbr (k : Option Int) (a1 : Int) : List (Int × T) → Nat → Option Int
 | [], i1 =>
 k
 | q_2 :: rest, i1 =>
 (bif (q_2.1 == a1) then
 some ((i1 : Int))
 else
 (qbr k a1 rest (i1 + 1)))
def qdP (a0 : List (Int × T)) (a1 : Int) : Option Int :=
 (qbr (some ((-1))) a1 a0 0)
theorem qhF (a0 : List (Int × T)) (a1 : Int) (a : Int) (hr : qdP a0 a1 = some a) : zg Tryz.prog 191 [.lst (a0.map zq), .int .i64 a1] (.int .i64 a) := by
 unfold qdP at hr
 refine qC Tryz.func191 rfl fun K i j => ?_
 refine st ?_
 obtain ⟨c, d, hr⟩ := exK (fun k => qbr k a1 a0 0) hr
 refine qc5 0 rfl (asl rfl) fun e => ?_
 simp only [jd] at e
 refine qz (fun env σ => env = [] ∧ σ = [] ∧ c = some a) ?_ (fun l => ?_)
 rintro _ _ ⟨rfl, rfl, hr⟩
 rw [d] at hr
 exact fin hr
 refine qbc [0, 1, 5] rfl (qal (fun n env σ => ∃ (i1 : Nat), n = a0.length - i1 ∧ (env = [(0, .lst (a0.map zq)), (1, .int .i64 a1), (5, .int .i64 (i1 : Int))]) ∧ (σ = []) ∧ (i1 ≤ a0.length) ∧ (qbr c a1 (a0.drop i1) i1 = some a)) _ ⟨0, rfl, rfl, rfl, jf _, hr⟩ ?_)
 rintro n _ _ ⟨i1, rfl, rfl, rfl, g, hr⟩ m
 rcases zd a0 i1 g with ⟨h, b, o⟩ | ⟨q_2, h, b, p, q⟩
 rw [b, qbr] at hr
 exact fin hr
 rw [b, qbr] at hr
 refine st ?_
 refine qD ?_
 refine st ?_
 refine zi 18 rfl hr (fun _ hr => ?_) (fun _ hr => ?_)
 exact fin hr
 exact fin hr
def qbF (k : Int → Option ((List (Int × T)))) (a1 : (Int × T)) : List (Int × T) → Nat → Option ((List (Int × T)))
 | [], k2 =>
 (k (k2 : Int))
 | q_13 :: rest, k2 =>
 (bif (decide (q_13.1 ≤ a1.1)) then
 (qbF k a1 rest (k2 + 1))
 else
 (k (k2 : Int)))
def qef (a0 : List (Int × T)) (a1 : (Int × T)) : Option ((List (Int × T))) :=
 (qbF (fun k3 =>
 ((zS a0 0 k3).bind fun l5 =>
 ((zz 64 [] l5).bind fun l6 =>
 ((zz 64 l6 [a1]).bind fun l8 =>
 ((zS a0 k3 (a0.length : Int)).bind fun l10 =>
 ((zz 64 l8 l10).bind fun l11 =>
 some (l11))))))) a1 a0 0)
theorem qkq (a0 : List (Int × T)) (a1 : (Int × T)) (a : List (Int × T)) (hr : qef a0 a1 = some a) : zg Tryz.prog 192 [.lst (a0.map zq), zq a1] (.lst (a.map zq)) := by
 unfold qef at hr
 refine qC Tryz.func192 rfl fun K i j => (qaC (zf 2 4 (rd rfl (qcA rfl rfl rfl) (ew rfl (qL 165 5 (.inl rfl)) ?_))))
 rintro _ _ ⟨u4_0, rfl, rfl⟩
 refine st ?_
 obtain ⟨d, e, hr⟩ := exK (fun k => qbF k a1 a0 0) hr
 refine qc5 0 rfl (asl rfl) fun g => ?_
 simp only [jd] at g
 refine qz (fun env σ => ∃ (k3 : Int), env = [(0, .lst (a0.map zq)), (3, .ptr (zq a1)), (5, .int .i64 k3)] ∧ σ = [] ∧ d k3 = some a) ?_ (fun l => ?_)
 rintro _ _ ⟨k3, rfl, rfl, hr⟩
 rw [e] at hr
 refine qaC (zf 1 1 (ew rfl (qL 165 5 (.inl rfl)) ?_))
 rintro _ _ ⟨u6_3, rfl, rfl⟩
 refine st0 ?_
 refine zf 6 256 (qg 3 rfl ?_)
 obtain ⟨l5, h5, hr⟩ := zb hr
 refine rd rfl (qiR (f := zq) a0 0 k3 rfl qgg rfl (asl rfl) qgm (qgq rfl) qfP h5) ?_
 obtain ⟨l6, h6, hr⟩ := zb hr
 refine ew rfl (qau (f := zq) [] l5 rfl qgg rfl rfl (asl rfl) (pf0 _) rfl qfP h6) ?_
 rintro _ _ ⟨u27_6, rfl, rfl⟩
 refine st0 ?_
 refine zf 5 64 (qg 2 rfl (rd rfl (qe2 (f := zq) [.tmp 29] [a1] rfl qgg rfl rfl od od (.oc rfl .nil) qfP (fun _ => rfl)) ?_))
 obtain ⟨l8, h8, hr⟩ := zb hr
 refine ew rfl (qau (f := zq) l6 [a1] rfl qgg rfl rfl (asl rfl) (pf0 _) rfl qfP h8) ?_
 rintro _ _ ⟨u31_8, rfl, rfl⟩
 refine st0 ?_
 refine zf 6 256 (qg 3 rfl ?_)
 obtain ⟨l10, h10, hr⟩ := zb hr
 refine rd rfl (qiR (f := zq) a0 k3 (a0.length : Int) rfl qgg rfl (asl rfl) (qnD rfl) qnX qfP h10) ?_
 obtain ⟨l11, h11, hr⟩ := zb hr
 refine ew rfl (qau (f := zq) l8 l10 rfl qgg rfl rfl (asl rfl) (pf0 _) rfl qfP h11) ?_
 rintro _ _ ⟨u36_11, rfl, rfl⟩
 refine st ?_
 cases hr
 refine qbg Tryz.func192 _ (.cons (za rfl (Wk.own _ _)) .nil) ?_
 rfl
 refine qbc [0, 3, 5] rfl (qcz [] _ (pf0 _) (qal (fun n env σ => ∃ (k2 : Nat), n = a0.length - k2 ∧ (env = [(0, .lst (a0.map zq)), (3, .ptr (zq a1)), (5, .int .i64 (k2 : Int))]) ∧ (σ = []) ∧ (k2 ≤ a0.length) ∧ (qbF d a1 (a0.drop k2) k2 = some a)) _ ⟨0, rfl, rfl, rfl, jf _, hr⟩ ?_))
 rintro n _ _ ⟨k2, rfl, rfl, rfl, h, hr⟩ m
 rcases zd a0 k2 h with ⟨b, c, o⟩ | ⟨q_13, b, c, p, q⟩
 rw [c, qbF] at hr
 refine st ?_
 refine qea 14 0 (qg 2 rfl (qjP rfl (qg 2 rfl (qhW 11 false rfl b ?_))))
 exact fin hr
 rw [c, qbF] at hr
 refine st ?_
 refine qea 14 0 (qg 2 rfl (qjP rfl (qg 2 rfl (qhW 11 true rfl b ?_))))
 refine st ?_
 refine zi 20 rfl hr (fun _ hr => ?_) (fun _ hr => ?_)
 refine st ?_
 refine qD ?_
 exact fin hr
 exact fin hr
def qev (rec : (List (Int × T)) → List T → List T → Option ((List (Int × T)) × Bool)) (a0 : List (Int × T)) (a1 : T) (a2 : T) : Option ((List (Int × T)) × Bool) :=
 (bif (a1.k == (2 : Int)) then
 (bif (a2.k != (2 : Int)) then
 some ([], false)
 else
 (bif (!(a1.s.toList == a2.s.toList)) then
 some ([], false)
 else
 ((rec a0 a1.ar a2.ar).bind fun r4 =>
 some (r4.1, r4.2))))
 else
 (bif (a1.k != (1 : Int)) then
 ((qmc a1 a2).bind fun r6 =>
 (bif (!r6) then
 some ([], false)
 else
 some (a0, true)))
 else
 ((qdP a0 a1.i).bind fun r8 =>
 (bif (decide (r8 < (0 : Int))) then
 ((qef a0 (a1.i, a2)).bind fun r10 =>
 some (r10, true))
 else
 ((zh a0 r8).bind fun q_11 =>
 ((qmc q_11.2 a2).bind fun r12 =>
 (bif (!r12) then
 some ([], false)
 else
 some (a0, true))))))))
theorem qkY (rec : (List (Int × T)) → List T → List T → Option ((List (Int × T)) × Bool)) (IHR : ∀ (a0 : List (Int × T)) (patterns_a1 : List T) (l_a2 : List T) (a : (List (Int × T)) × Bool), rec a0 patterns_a1 l_a2 = some a → zg Tryz.prog 166 [.lst (a0.map zq), .lst (patterns_a1.map zl), .lst (l_a2.map zl)] (.tup [.lst (a.1.map zq), .bool a.2])) (a0 : List (Int × T)) (pattern_a1 : T) (t_a2 : T) (a : (List (Int × T)) × Bool) (hr : qev rec a0 pattern_a1 t_a2 = some a) : zg Tryz.prog 179 [.lst (a0.map zq), zl pattern_a1, zl t_a2] (.tup [.lst (a.1.map zq), .bool a.2]) := by
 unfold qev at hr
 refine qC Tryz.func179 rfl fun K b c => ?_
 refine st ?_
 refine rd rfl (qcA rfl rfl rfl) (rd rfl (qcA rfl rfl rfl) ?_)
 refine st ?_
 refine rd rfl (qH rfl qcn rfl (qfJ _) (qfM _) rfl) ?_
 refine st ?_
 refine zi 11 rfl hr (fun _ hr => ?_) (fun _ hr => ?_)
 refine st ?_
 refine rd rfl (qH rfl qcn rfl (qfJ _) (qfM _) rfl) (qg 3 rfl ?_)
 refine zt 15 rfl hr (fun _ hr => ?_) (fun _ hr => ?_)
 refine st ?_
 cases hr
 refine qbg Tryz.func179 _ (.cons (za rfl (Wk.full _)) (.cons (za rfl (Wk.refl _)) .nil)) ?_
 rfl
 refine rd rfl (qH rfl qfO rfl (qly _) (qlO _) rfl) (qg 1 rfl (rd rfl (qH rfl qfO rfl (qly _) (qlO _) rfl) (qg 1 rfl (rd rfl (qgC rfl rfl rfl rfl) ?_))))
 refine st ?_
 refine zi 21 rfl hr (fun _ hr => ?_) (fun _ hr => ?_)
 refine st ?_
 cases hr
 refine qbg Tryz.func179 _ (.cons (za rfl (Wk.full _)) (.cons (za rfl (Wk.refl _)) .nil)) ?_
 rfl
 refine st ?_
 refine rd rfl (qH rfl qcB rfl (qg2 _) (qg7 _) rfl) (qg 1 rfl (rd rfl (qH rfl qcB rfl (qg2 _) (qg7 _) rfl) (qg 1 rfl ?_)))
 obtain ⟨r4, h4, hr⟩ := zb hr
 refine qem rfl qhM (IHR _ _ _ _ h4) ?_
 exact fin hr
 refine st ?_
 refine rd rfl (qH rfl qcn rfl (qfJ _) (qfM _) rfl) ?_
 refine st ?_
 refine zi 32 rfl hr (fun _ hr => ?_) (fun _ hr => ?_)
 refine st ?_
 obtain ⟨r6, h6, hr⟩ := zb hr
 refine qem rfl qfj (qfm _ _ _ h6) ?_
 refine st ?_
 refine zi 36 rfl hr (fun _ hr => ?_) (fun _ hr => ?_)
 refine st ?_
 cases hr
 refine qbg Tryz.func179 _ (.cons (za rfl (Wk.full _)) (.cons (za rfl (Wk.refl _)) .nil)) ?_
 rfl
 exact fin hr
 refine st ?_
 refine rd rfl (qH rfl qcP rfl (qgx _) (qge _) rfl) (qg 1 rfl ?_)
 refine zk hr rfl qhu (qhF _ _) (fun r8 h8 hr => ?_)
 refine st ?_
 refine zi 43 rfl hr (fun _ hr => ?_) (fun _ hr => ?_)
 refine st ?_
 refine rd rfl (qH rfl qcP rfl (qgx _) (qge _) rfl) (qg 2 rfl (rd rfl (qbz rfl qlL (.oc rfl (.oc rfl .nil)) (.cons rfl rfl rfl (.cons rfl (qcR _) rfl (.nil _)))) ?_))
 refine zk hr rfl qki (qkq _ _) (fun r10 h10 hr => ?_)
 exact fin hr
 refine st ?_
 refine qea 8 0 (qg 2 rfl ?_)
 obtain ⟨q_11, h11, hr⟩ := zb hr
 refine st ?_
 obtain ⟨r12, h12, hr⟩ := zb hr
 refine qem rfl qfj (qfm _ _ _ h12) ?_
 refine st ?_
 refine zi 57 rfl hr (fun _ hr => ?_) (fun _ hr => ?_)
 refine st ?_
 cases hr
 refine qbg Tryz.func179 _ (.cons (za rfl (Wk.full _)) (.cons (za rfl (Wk.refl _)) .nil)) ?_
 rfl
 exact fin hr
def qaK (k : ((List (Int × T))) → Bool → Option ((List (Int × T)) × Bool)) (rec : (List (Int × T)) → List T → List T → Option ((List (Int × T)) × Bool)) (a1 : List T) : List T → (List (Int × T)) → Bool → Nat → Option ((List (Int × T)) × Bool)
 | [], e2, o3, i4 =>
 (k e2 o3)
 | q_7 :: rest, e2, o3, i4 =>
 (bif o3 then
 ((zh a1 (i4 : Int)).bind fun q_9 =>
 ((qev rec e2 q_9 q_7).bind fun r10 =>
 (qaK k rec a1 rest r10.1 r10.2 (i4 + 1))))
 else
 (k e2 o3))
def qdO : Nat → (List (Int × T)) → List T → List T → Option ((List (Int × T)) × Bool)
 | 0, _, _, _ => none
 | fuel + 1, a0, a1, a2 =>
  (fun (rec : (List (Int × T)) → List T → List T → Option ((List (Int × T)) × Bool)) =>
   (bif ((a1.length : Int) != (a2.length : Int)) then
   some ([], false)
   else
   (qaK (fun e5 o6 =>
   some (e5, o6)) rec a1 a2 a0 true 0))) (qdO fuel)
theorem qkw (fuel : Nat) (rec : (List (Int × T)) → List T → List T → Option ((List (Int × T)) × Bool)) (IHR : ∀ (a0 : List (Int × T)) (a1 : List T) (a2 : List T) (a : (List (Int × T)) × Bool), rec a0 a1 a2 = some a → zg Tryz.prog 166 [.lst (a0.map zq), .lst (a1.map zl), .lst (a2.map zl)] (.tup [.lst (a.1.map zq), .bool a.2])) (a0 : List (Int × T)) (a1 : List T) (a2 : List T) (a : (List (Int × T)) × Bool)
 (hr : (bif ((a1.length : Int) != (a2.length : Int)) then
some ([], false)
else
(qaK (fun e5 o6 =>
some (e5, o6)) rec a1 a2 a0 true 0)) = some a) : zg Tryz.prog 166 [.lst (a0.map zq), .lst (a1.map zl), .lst (a2.map zl)] (.tup [.lst (a.1.map zq), .bool a.2]) := by
 refine qC Tryz.func166 rfl fun K i j => ?_
 refine st ?_
 refine zi 14 rfl hr (fun _ hr => ?_) (fun _ hr => ?_)
 refine st ?_
 cases hr
 refine qbg Tryz.func166 _ (.cons (za rfl (Wk.full _)) (.cons (za rfl (Wk.refl _)) .nil)) ?_
 rfl
 refine st ?_
 obtain ⟨d, e, hr⟩ := exK (fun k => qaK k rec a1 a2 a0 true 0) hr
 refine qc5 2 rfl (asl rfl) fun g => ?_
 simp only [jd] at g
 refine qz (fun env σ => ∃ (e5 : List (Int × T)) (o6 : Bool), env = [(0, .lst (e5.map zq)), (8, .bool o6)] ∧ σ = [] ∧ d e5 o6 = some a) ?_ (fun l => ?_)
 rintro _ _ ⟨e5, o6, rfl, rfl, hr⟩
 rw [e] at hr
 exact fin hr
 refine qbc [1, 2, 0, 8, 9] rfl (qal (fun n env σ => ∃ (e2 : List (Int × T)) (o3 : Bool) (i4 : Nat), n = a2.length - i4 ∧ (env = [(1, .lst (a1.map zl)), (2, .lst (a2.map zl)), (0, .lst (e2.map zq)), (8, .bool o3), (9, .int .i64 (i4 : Int))]) ∧ (σ = []) ∧ (i4 ≤ a2.length) ∧ (qaK d rec a1 (a2.drop i4) e2 o3 i4 = some a)) _ ⟨a0, true, 0, rfl, rfl, rfl, jf _, hr⟩ ?_)
 rintro n _ _ ⟨e2, o3, i4, rfl, rfl, rfl, h, hr⟩ m
 rcases zd a2 i4 h with ⟨b, c, o⟩ | ⟨q_7, b, c, p, q⟩
 rw [c, qaK] at hr
 refine qaC (qaC (zf 7 0 (qg 2 rfl (qjP rfl (qg 2 rfl (qhW 19 false rfl b ?_))))))
 exact fin hr
 rw [c, qaK] at hr
 refine qaC (qaC (zf 7 0 (qg 2 rfl (qjP rfl (qg 2 rfl (qhW 19 true rfl b ?_))))))
 refine st ?_
 refine zi 21 rfl hr (fun _ hr => ?_) (fun _ hr => ?_)
 refine st ?_
 refine qD (qea 15 0 (qg 3 rfl ?_))
 obtain ⟨q_9, h9, hr⟩ := zb hr
 refine st ?_
 obtain ⟨r10, h10, hr⟩ := zb hr
 refine qem rfl qlA (qkY rec IHR _ _ _ _ h10) ?_
 exact fin hr
 exact fin hr
theorem qhz : ∀ (fuel : Nat) (a0 : List (Int × T)) (a1 : List T) (a2 : List T) (res : (List (Int × T)) × Bool), qdO fuel a0 a1 a2 = some res → zg Tryz.prog 166 [.lst (a0.map zq), .lst (a1.map zl), .lst (a2.map zl)] (.tup [.lst (res.1.map zq), .bool res.2])
 | 0, _, _, _, _, h => by cases h
 | fuel + 1, a0, a1, a2, res, h => qkw fuel (qdO fuel) (qhz fuel) a0 a1 a2 res h
def qeJ (fuel : Nat) (a0 : List (Int × T)) (a1 : At) (a2 : At) : Option ((List (Int × T)) × Bool) :=
 (bif (!(a1.n.toList == a2.n.toList)) then
 some ([], false)
 else
 ((qdO fuel a0 a1.ts a2.ts).bind fun r2 =>
 some (r2.1, r2.2)))
theorem qlK (fuel : Nat) (a0 : List (Int × T)) (a1 : At) (a2 : At) (a : (List (Int × T)) × Bool) (hr : qeJ fuel a0 a1 a2 = some a) : zg Tryz.prog 144 [.lst (a0.map zq), zU a1, zU a2] (.tup [.lst (a.1.map zq), .bool a.2]) := by
 unfold qeJ at hr
 refine qC Tryz.func144 rfl fun K b c => ?_
 refine st ?_
 refine rd rfl (qcA rfl rfl rfl) (rd rfl (qcA rfl rfl rfl) ?_)
 refine st ?_
 refine rd rfl (qgC rfl rfl rfl rfl) (qax ?_)
 refine zi 12 rfl hr (fun _ hr => ?_) (fun _ hr => ?_)
 refine st ?_
 cases hr
 refine qbg Tryz.func144 _ (.cons (za rfl (Wk.full _)) (.cons (za rfl (Wk.refl _)) .nil)) ?_
 rfl
 refine st ?_
 refine zk hr rfl qhM (qhz fuel _ _ _) (fun r2 h2 hr => ?_)
 exact fin hr
def qb9 (a0 : Int) (a1 : Int) : Option Bool :=
 (bif (decide (a0 > (0 : Int))) then
 (bif (decide (a1 > (0 : Int))) then
 (bif (decide ((wr (a0 + a1)) < (0 : Int))) then
 some (true)
 else
 (bif (decide (a0 < (0 : Int))) then
 (bif (decide (a1 < (0 : Int))) then
 some ((decide ((wr (a0 + a1)) ≥ (0 : Int))))
 else
 some (false))
 else
 some (false)))
 else
 (bif (decide (a0 < (0 : Int))) then
 (bif (decide (a1 < (0 : Int))) then
 some ((decide ((wr (a0 + a1)) ≥ (0 : Int))))
 else
 some (false))
 else
 some (false)))
 else
 (bif (decide (a0 < (0 : Int))) then
 (bif (decide (a1 < (0 : Int))) then
 some ((decide ((wr (a0 + a1)) ≥ (0 : Int))))
 else
 some (false))
 else
 some (false)))
theorem qkc (a0 : Int) (a1 : Int) (a : Bool) (hr : qb9 a0 a1 = some a) : zg Tryz.prog 197 [.int .i64 a0, .int .i64 a1] (.bool a) := by
 unfold qb9 at hr
 refine qC Tryz.func197 rfl fun K b c => ?_
 refine st ?_
 refine rd rfl (qe4 rfl rfl rfl rfl) ?_
 refine st ?_
 refine zt 11 rfl hr (fun _ hr => ?_) (fun _ hr => ?_)
 refine qg 4 rfl ?_
 refine zt 15 rfl hr (fun _ hr => ?_) (fun _ hr => ?_)
 refine qg 4 rfl ?_
 refine zt 19 rfl hr (fun _ hr => ?_) (fun _ hr => ?_)
 exact fin hr
 refine qg 3 rfl ?_
 refine zt 22 rfl hr (fun _ hr => ?_) (fun _ hr => ?_)
 refine qg 4 rfl ?_
 refine zt 26 rfl hr (fun _ hr => ?_) (fun _ hr => ?_)
 exact fin hr
 exact fin hr
 exact fin hr
 refine qg 7 rfl ?_
 refine zt 22 rfl hr (fun _ hr => ?_) (fun _ hr => ?_)
 refine qg 4 rfl ?_
 refine zt 26 rfl hr (fun _ hr => ?_) (fun _ hr => ?_)
 exact fin hr
 exact fin hr
 exact fin hr
 refine qg 11 rfl ?_
 refine zt 22 rfl hr (fun _ hr => ?_) (fun _ hr => ?_)
 refine qg 4 rfl ?_
 refine zt 26 rfl hr (fun _ hr => ?_) (fun _ hr => ?_)
 exact fin hr
 exact fin hr
 exact fin hr
def qdA (a0 : Int) : Option T :=
 some ((T.mk 1 a0 ⟨#[]⟩ []))
theorem qee (a0 : Int) (res : T) (hr : qdA a0 = some res) : zg Tryz.prog 26 [.int .i64 a0] (zl res) := by
 unfold qdA at hr
 refine qC Tryz.func26 rfl fun K hK hF => (qaC (zf 1 1 (ew rfl (qbi rfl qeH) ?_)))
 rintro _ _ ⟨b2_0, rfl, rfl⟩
 refine st0 ?_
 refine zf 3 16 (qg 1 rfl (rd rfl (qbz rfl qgd (.oc rfl (.oc rfl .nil)) (.cons rfl rfl rfl (.cons rfl rfl rfl (.nil _)))) (qcw rfl (pf0 _) (qax ?_))))
 cases hr
 refine qbg Tryz.func26 _ (.cons (zp rfl (.head _) (by exact qdy) rfl (Wk.refl _)) .nil) ?_
 first | rfl | (show _ = D.agg (fsT _); rw [qeS] <;> rfl) | simp [yL, zl, qeS, T.k, T.i, T.s, T.ar]
def qfx (a0 : Int) : Option T :=
 some ((T.mk 0 a0 ⟨#[]⟩ []))
theorem qij (a0 : Int) (res : T) (hr : qfx a0 = some res) : zg Tryz.prog 28 [.int .i64 a0] (zl res) := by
 unfold qfx at hr
 refine qC Tryz.func28 rfl fun K hK hF => (qaC (zf 1 1 (ew rfl (qbi rfl qeH) ?_)))
 rintro _ _ ⟨b2_0, rfl, rfl⟩
 refine st0 ?_
 refine zf 3 16 (qg 1 rfl (rd rfl (qbz rfl qgd (.oc rfl (.oc rfl .nil)) (.cons rfl rfl rfl (.cons rfl rfl rfl (.nil _)))) (qcw rfl (pf0 _) (qax ?_))))
 cases hr
 refine qbg Tryz.func28 _ (.cons (zp rfl (.head _) (by exact qdy) rfl (Wk.refl _)) .nil) ?_
 first | rfl | (show _ = D.agg (fsT _); rw [qeS] <;> rfl) | simp [yL, zl, qeS, T.k, T.i, T.s, T.ar]
def qdJ (rec : (List (Int × T)) → Int → List T → Option (List T)) (a0 : List (Int × T)) (a1 : Int) (a2 : T) : Option T :=
 (bif (a2.k == (2 : Int)) then
 ((rec a0 a1 a2.ar).bind fun r3 =>
 some ((T.mk 2 0 a2.s r3)))
 else
 (bif (a2.k == (1 : Int)) then
 ((qdP a0 a2.i).bind fun r5 =>
 (bif (decide (r5 ≥ (0 : Int))) then
 ((zh a0 r5).bind fun q_7 =>
 some (q_7.2))
 else
 ((qb9 a1 a2.i).bind fun r8 =>
 (bif r8 then
 ((qdA a2.i).bind fun r10 =>
 some (r10))
 else
 ((qdA (wr (a1 + a2.i))).bind fun r11 =>
 some (r11))))))
 else
 (bif (a2.k == (0 : Int)) then
 ((qfx a2.i).bind fun r13 =>
 some (r13))
 else
 some (a2))))
theorem qja (rec : (List (Int × T)) → Int → List T → Option (List T)) (IHR : ∀ (a0 : List (Int × T)) (a1 : Int) (l_a2 : List T) (res : List T), rec a0 a1 l_a2 = some res → zg Tryz.prog 170 [.lst (a0.map zq), .int .i64 a1, .lst (l_a2.map zl)] (.lst (res.map zl))) (a0 : List (Int × T)) (a1 : Int) (t_a2 : T) (res : T) (hr : qdJ rec a0 a1 t_a2 = some res) : zg Tryz.prog 186 [.lst (a0.map zq), .int .i64 a1, zl t_a2] (zl res) := by
 unfold qdJ at hr
 refine qC Tryz.func186 rfl fun K hK hF => (qaC (zf 2 4 (rd rfl (qcA rfl rfl rfl) (ew rfl (qbi rfl qeH) ?_))))
 rintro _ _ ⟨b6_0, rfl, rfl⟩
 refine st ?_
 refine rd rfl (qH rfl qcn rfl (qfJ _) (qfM _) rfl) ?_
 refine st ?_
 refine qD ?_
 refine st ?_
 refine zi 10 rfl hr (fun h10_1 hr => ?_) (fun h10_1 hr => ?_)
 refine st ?_
 refine qea 9 65536 (rd rfl (qH rfl qfO rfl (qly _) (qlO _) rfl) (qg 3 rfl (rd rfl (qH rfl qcB rfl (qg2 _) (qg7 _) rfl) (qg 1 rfl ?_))))
 obtain ⟨r3, h3, hr⟩ := zb hr
 refine qem rfl qgD (IHR _ _ _ _ h3) (rd rfl (qbz rfl qgd (.oc rfl (.oc rfl (.oc rfl .nil))) (.cons rfl rfl rfl (.cons rfl rfl rfl (.cons rfl rfl rfl (.nil _))))) (qcw rfl (pf0 _) (qax ?_)))
 cases hr
 refine qbg Tryz.func186 _ (.cons (zp rfl (.head _) (by exact qdy) rfl (Wk.refl _)) .nil) ?_
 first | rfl | (show _ = D.agg (fsT _); rw [qeS] <;> rfl) | simp [yL, zl, qeS, T.k, T.i, T.s, T.ar]
 refine st ?_
 refine zi 20 rfl hr (fun h20_3 hr => ?_) (fun h20_3 hr => ?_)
 refine st ?_
 refine rd rfl (qH rfl qcP rfl (qgx _) (qge _) rfl) (qg 1 rfl ?_)
 refine zk hr rfl qhu (qhF _ _) (fun r5 h5 hr => ?_)
 refine st ?_
 refine zi 27 rfl hr (fun h27_5 hr => ?_) (fun h27_5 hr => ?_)
 refine st0 ?_
 refine zf 6 1024 (qg 2 rfl ?_)
 obtain ⟨q_7, h7, hr⟩ := zb hr
 refine st ?_
 refine qcw rfl (pf0 _) (qax ?_)
 cases hr
 refine qbg Tryz.func186 _ (.cons (zp rfl (.head _) (by exact qdy) (qcR _) (Wk.refl _)) .nil) ?_
 rfl
 refine st ?_
 refine rd rfl (qH rfl qcP rfl (qgx _) (qge _) rfl) (qg 1 rfl ?_)
 refine zk hr rfl qkh (qkc _ _) (fun r8 h8 hr => ?_)
 refine qax ?_
 refine zi 36 rfl hr (fun h36_8 hr => ?_) (fun h36_8 hr => ?_)
 refine st0 ?_
 refine zf 4 64 (rd rfl (qH rfl qcP rfl (qgx _) (qge _) rfl) (qg 1 rfl ?_))
 refine zk hr rfl qec (qee _) (fun r10 h10 hr => ?_)
 refine qcw rfl (pf0 _) (qax ?_)
 cases hr
 refine qbg Tryz.func186 _ (.cons (zp rfl (.head _) (by exact qdy) (qcR _) (Wk.refl _)) .nil) ?_
 rfl
 refine st0 ?_
 refine zf 6 1024 (qg 1 rfl (rd rfl (qH rfl qcP rfl (qgx _) (qge _) rfl) (qg 1 rfl (rd rfl (qe4 rfl rfl rfl rfl) ?_))))
 refine zk hr rfl qec (qee _) (fun r11 h11 hr => ?_)
 refine qcw rfl (pf0 _) (qax ?_)
 cases hr
 refine qbg Tryz.func186 _ (.cons (zp rfl (.head _) (by exact qdy) (qcR _) (Wk.refl _)) .nil) ?_
 rfl
 refine st ?_
 refine zi 45 rfl hr (fun h45_11 hr => ?_) (fun h45_11 hr => ?_)
 refine st0 ?_
 refine zf 4 64 (rd rfl (qH rfl qcP rfl (qgx _) (qge _) rfl) (qg 1 rfl ?_))
 refine zk hr rfl qiq (qij _) (fun r13 h13 hr => ?_)
 refine qcw rfl (pf0 _) (qax ?_)
 cases hr
 refine qbg Tryz.func186 _ (.cons (zp rfl (.head _) (by exact qdy) (qcR _) (Wk.refl _)) .nil) ?_
 rfl
 refine st0 ?_
 refine zf 2 4 (qg 1 rfl (qcw rfl (pf0 _) (qax ?_)))
 cases hr
 refine qbg Tryz.func186 _ (.cons (zp rfl (.head _) (by exact qdy) (qcR _) (Wk.refl _)) .nil) ?_
 rfl
def qaQ (k : List T → Option (List T)) (rec : (List (Int × T)) → Int → List T → Option (List T)) (a0 : List (Int × T)) (a1 : Int) : List T → List T → Option (List T)
 | [], o4 =>
 (k o4)
 | q_8 :: rest, o4 =>
 ((qdJ rec a0 a1 q_8).bind fun r9 =>
 ((zz 56 o4 [r9]).bind fun l10 =>
 (qaQ k rec a0 a1 rest l10)))
def qc1 : Nat → (List (Int × T)) → Int → List T → Option (List T)
 | 0, _, _, _ => none
 | fuel + 1, a0, a1, a2 =>
  (fun (rec : (List (Int × T)) → Int → List T → Option (List T)) =>
   (qaQ (fun o7 =>
   some (o7)) rec a0 a1 a2 [])) (qc1 fuel)
theorem qiX (fuel : Nat) (rec : (List (Int × T)) → Int → List T → Option (List T)) (IHR : ∀ (a0 : List (Int × T)) (a1 : Int) (a2 : List T) (a : List T), rec a0 a1 a2 = some a → zg Tryz.prog 170 [.lst (a0.map zq), .int .i64 a1, .lst (a2.map zl)] (.lst (a.map zl))) (a0 : List (Int × T)) (a1 : Int) (a2 : List T) (a : List T)
 (hr : (qaQ (fun o7 =>
some (o7)) rec a0 a1 a2 []) = some a) : zg Tryz.prog 170 [.lst (a0.map zq), .int .i64 a1, .lst (a2.map zl)] (.lst (a.map zl)) := by
 refine qC Tryz.func170 rfl fun K i j => (qaC (zf 1 1 (ew rfl (qL 78 4 (.inl rfl)) ?_)))
 rintro _ _ ⟨u6_0, rfl, rfl⟩
 refine st0 ?_
 refine zf 1 1 (ew rfl (qL 78 4 (.inl rfl)) ?_)
 rintro _ _ ⟨u7_1, rfl, rfl⟩
 refine st ?_
 obtain ⟨c, d, hr⟩ := exK (fun k => qaQ k rec a0 a1 a2 []) hr
 refine qc5 2 rfl (asl rfl) fun e => ?_
 simp only [jd] at e
 refine qz (fun env σ => ∃ (o7 : List T) (u6 : Value), env = [(7, .own u6 (o7.map zl))] ∧ σ = [.row u6 o7.length 78 4] ∧ c o7 = some a) ?_ (fun l => ?_)
 rintro _ _ ⟨o7, u6, rfl, rfl, hr⟩
 rw [d] at hr
 refine st ?_
 cases hr
 refine qbg Tryz.func170 _ (.cons (za rfl (Wk.own _ _)) .nil) ?_
 rfl
 refine qbc [0, 1, 2, 7, 8] rfl (qcz [_] _ (pf0 _) (qal (fun n env σ => ∃ (o4 : List T) (i5 : Nat) (u3 : Value), n = a2.length - i5 ∧ (env = [(0, .lst (a0.map zq)), (1, .int .i64 a1), (2, .lst (a2.map zl)), (7, .own u3 (o4.map zl)), (8, .int .i64 (i5 : Int))]) ∧ (σ = [.row u3 o4.length 78 4]) ∧ (i5 ≤ a2.length) ∧ (qaQ c rec a0 a1 (a2.drop i5) o4 = some a)) _ ⟨[], 0, u7_1, rfl, rfl, rfl, jf _, hr⟩ ?_))
 rintro n _ _ ⟨o4, i5, u3, rfl, rfl, rfl, g, hr⟩ m
 rcases zd a2 i5 g with ⟨h, b, o⟩ | ⟨q_8, h, b, p, q⟩
 rw [b, qaQ] at hr
 exact fin hr
 rw [b, qaQ] at hr
 refine st ?_
 refine qD (zf 11 262144 ?_)
 refine st ?_
 obtain ⟨r9, h9, hr⟩ := zb hr
 refine qem rfl qjF (qja rec IHR _ _ _ _ h9) (rd rfl (qe2 (f := zl) [.tmp 22] [r9] rfl qba rfl rfl od od (.oc rfl .nil) qcR (fun _ => rfl)) ?_)
 obtain ⟨l10, h10, hr⟩ := zb hr
 refine ew rfl (qau (f := zl) o4 [r9] rfl qba rfl rfl (asl rfl) (pf0 _) rfl qcR h10) ?_
 rintro _ _ ⟨u24_10, rfl, rfl⟩
 exact fin hr
theorem qgG : ∀ (fuel : Nat) (a0 : List (Int × T)) (a1 : Int) (a2 : List T) (res : List T), qc1 fuel a0 a1 a2 = some res → zg Tryz.prog 170 [.lst (a0.map zq), .int .i64 a1, .lst (a2.map zl)] (.lst (res.map zl))
 | 0, _, _, _, _, h => by cases h
 | fuel + 1, a0, a1, a2, res, h => qiX fuel (qc1 fuel) (qgG fuel) a0 a1 a2 res h
def qcv (fuel : Nat) (a0 : List (Int × T)) (a1 : Int) (a2 : Gl) : Option Gl :=
 ((qc1 fuel a0 a1 a2.ts).bind fun r2 =>
 some ((⟨a2.op, a2.n, r2⟩ : Gl)))
theorem qf3 (fuel : Nat) (a0 : List (Int × T)) (a1 : Int) (a2 : Gl) (res : Gl) (hr : qcv fuel a0 a1 a2 = some res) : zg Tryz.prog 146 [.lst (a0.map zq), .int .i64 a1, zB a2] (zB res) := by
 unfold qcv at hr
 refine qC Tryz.func146 rfl fun K hK hF => (qaC (zf 2 4 (rd rfl (qcA rfl rfl rfl) (ew rfl (qbi rfl qiw) ?_))))
 rintro _ _ ⟨b6_0, rfl, rfl⟩
 refine st ?_
 refine qea 11 1048576 (qg 8 rfl ?_)
 refine zk hr rfl qgD (qgG fuel _ _ _) (fun r2 h2 hr => ?_)
 refine rd rfl (qbz rfl qjm (.oc rfl (.oc rfl (.oc rfl .nil))) (.cons rfl rfl rfl (.cons rfl rfl rfl (.cons rfl rfl rfl (.nil _))))) (qcw rfl (pf0 _) (qax ?_))
 cases hr
 refine qbg Tryz.func146 _ (.cons (zp rfl (.head _) (by exact qit) rfl (Wk.refl _)) .nil) ?_
 rfl
def qdx (rec : (List (Int × T)) → List T → Option (List T)) (a0 : List (Int × T)) (a1 : T) : Option T :=
 (bif (a1.k == (1 : Int)) then
 ((qcY a0 a1.i).bind fun r4 =>
 (bif r4.2 then
 some (r4.1)
 else
 some ((T.mk a1.k a1.i a1.s a1.ar))))
 else
 (bif (a1.k == (2 : Int)) then
 ((rec a0 a1.ar).bind fun r8 =>
 some ((T.mk a1.k a1.i a1.s r8)))
 else
 some ((T.mk a1.k a1.i a1.s a1.ar))))
theorem qhk (rec : (List (Int × T)) → List T → Option (List T)) (IHR : ∀ (a0 : List (Int × T)) (l_a1 : List T) (res : List T), rec a0 l_a1 = some res → zg Tryz.prog 141 [.lst (a0.map zq), .lst (l_a1.map zl)] (.lst (res.map zl))) (a0 : List (Int × T)) (t_a1 : T) (res : T) (hr : qdx rec a0 t_a1 = some res) : zg Tryz.prog 165 [.lst (a0.map zq), zl t_a1] (zl res) := by
 unfold qdx at hr
 refine qC Tryz.func165 rfl fun K hK hF => (qaC (zf 2 5 (ew rfl (qmx rfl rfl rfl) ?_)))
 rintro _ _ ⟨b3_0, rfl, rfl⟩
 refine zav [.cell b3_0 (.agg [.int .i64 t_a1.k, .int .i64 t_a1.i, .str t_a1.s, .lst (t_a1.ar.map zl)])] (by simp only [zl, qeS]) (ew rfl (qbi rfl qeH) ?_)
 rintro _ _ ⟨b4_1, rfl, rfl⟩
 refine st0 ?_
 refine zf 2 8 (rd rfl (qh rfl qcn rfl) (qb4 1 rfl (qax (qD ?_))))
 refine st ?_
 refine zi 9 rfl hr (fun h9_2 hr => ?_) (fun h9_2 hr => ?_)
 refine st0 ?_
 refine zf 10 81952 (qg 1 rfl (rd rfl (qh rfl qcP rfl) (qb4 1 rfl ?_)))
 refine zk hr rfl qeX (qeU _ _) (fun r4 h4 hr => ?_)
 refine qg 3 rfl (ew rfl (qbi rfl qeH) ?_)
 rintro _ _ ⟨b5_4, rfl, rfl⟩
 refine qcw rfl (pf0 _) (qg 1 rfl (qax (qbR 5 b5_4 rfl (pf0 _) ?_)))
 refine st ?_
 refine zi 18 rfl hr (fun h18_5 hr => ?_) (fun h18_5 hr => ?_)
 refine st0 ?_
 refine zf 2 4 (qg 1 rfl (qcw rfl (pf0 _) (qax ?_)))
 cases hr
 refine qbg Tryz.func165 _ (.cons (zp rfl (.head _) (by exact qdy) (qcR _) (Wk.refl _)) .nil) ?_
 rfl
 refine st0 ?_
 refine zf 2 6 (qb4 1 rfl (qcw rfl (pf0 _) (qax ?_)))
 cases hr
 refine qbg Tryz.func165 _ (.cons (zp rfl (.head _) (by exact qdy) rfl (Wk.refl _)) .nil) ?_
 first | rfl | (show _ = D.agg (fsT _); rw [qeS] <;> rfl) | simp [yL, zl, qeS, T.k, T.i, T.s, T.ar]
 refine st ?_
 refine zi 20 rfl hr (fun h20_6 hr => ?_) (fun h20_6 hr => ?_)
 refine qfh rfl (zf 6 1056 (qg 1 rfl (rd rfl (qh rfl qcB rfl) (qb4 1 rfl ?_))))
 obtain ⟨r8, h8, hr⟩ := zb hr
 refine qem rfl qfi (IHR _ _ _ h8) (rd rfl (qh rfl qcB rfl) (z8 rfl (qds _ rfl rfl rfl (Wk.refl _) (pf1 _ _ _) rfl rfl (by exact qh5) rfl rfl rfl) ?_))
 refine st0 ?_
 refine zf 2 6 (qb4 0 rfl (qcw rfl (pf1 _ _ _) (qax ?_)))
 cases hr
 refine qbg Tryz.func165 _ (.cons (zp rfl (.head _) (by exact qdy) rfl (Wk.refl _)) .nil) ?_
 first | rfl | (show _ = D.agg (fsT _); rw [qeS] <;> rfl) | simp [yL, zl, qeS, T.k, T.i, T.s, T.ar]
 refine st0 ?_
 refine zf 2 6 (qb4 1 rfl (qcw rfl (pf0 _) (qax ?_)))
 cases hr
 refine qbg Tryz.func165 _ (.cons (zp rfl (.head _) (by exact qdy) rfl (Wk.refl _)) .nil) ?_
 first | rfl | (show _ = D.agg (fsT _); rw [qeS] <;> rfl) | simp [yL, zl, qeS, T.k, T.i, T.s, T.ar]
def qaA (k : List T → Option (List T)) (rec : (List (Int × T)) → List T → Option (List T)) (a0 : List (Int × T)) : List T → List T → Option (List T)
 | [], o4 =>
 (k o4)
 | q_8 :: rest, o4 =>
 ((qdx rec a0 q_8).bind fun r9 =>
 ((zz 56 o4 [r9]).bind fun l10 =>
 (qaA k rec a0 rest l10)))
def qbw : Nat → (List (Int × T)) → List T → Option (List T)
 | 0, _, _ => none
 | fuel + 1, a0, a1 =>
  (fun (rec : (List (Int × T)) → List T → Option (List T)) =>
   (qaA (fun o7 =>
   some (o7)) rec a0 a1 [])) (qbw fuel)
theorem qiH (fuel : Nat) (rec : (List (Int × T)) → List T → Option (List T)) (IHR : ∀ (a0 : List (Int × T)) (a1 : List T) (a : List T), rec a0 a1 = some a → zg Tryz.prog 141 [.lst (a0.map zq), .lst (a1.map zl)] (.lst (a.map zl))) (a0 : List (Int × T)) (a1 : List T) (a : List T)
 (hr : (qaA (fun o7 =>
some (o7)) rec a0 a1 []) = some a) : zg Tryz.prog 141 [.lst (a0.map zq), .lst (a1.map zl)] (.lst (a.map zl)) := by
 refine qC Tryz.func141 rfl fun K i j => (qaC (zf 1 1 (ew rfl (qL 78 4 (.inl rfl)) ?_)))
 rintro _ _ ⟨u4_0, rfl, rfl⟩
 refine st0 ?_
 refine zf 1 1 (ew rfl (qL 78 4 (.inl rfl)) ?_)
 rintro _ _ ⟨u5_1, rfl, rfl⟩
 refine st ?_
 obtain ⟨c, d, hr⟩ := exK (fun k => qaA k rec a0 a1 []) hr
 refine qc5 1 rfl (asl rfl) fun e => ?_
 simp only [jd] at e
 refine qz (fun env σ => ∃ (o7 : List T) (u6 : Value), env = [(5, .own u6 (o7.map zl))] ∧ σ = [.row u6 o7.length 78 4] ∧ c o7 = some a) ?_ (fun l => ?_)
 rintro _ _ ⟨o7, u6, rfl, rfl, hr⟩
 rw [d] at hr
 refine st ?_
 cases hr
 refine qbg Tryz.func141 _ (.cons (za rfl (Wk.own _ _)) .nil) ?_
 rfl
 refine qbc [0, 1, 5, 6] rfl (qcz [_] _ (pf0 _) (qal (fun n env σ => ∃ (o4 : List T) (i5 : Nat) (u3 : Value), n = a1.length - i5 ∧ (env = [(0, .lst (a0.map zq)), (1, .lst (a1.map zl)), (5, .own u3 (o4.map zl)), (6, .int .i64 (i5 : Int))]) ∧ (σ = [.row u3 o4.length 78 4]) ∧ (i5 ≤ a1.length) ∧ (qaA c rec a0 (a1.drop i5) o4 = some a)) _ ⟨[], 0, u5_1, rfl, rfl, rfl, jf _, hr⟩ ?_))
 rintro n _ _ ⟨o4, i5, u3, rfl, rfl, rfl, g, hr⟩ m
 rcases zd a1 i5 g with ⟨h, b, o⟩ | ⟨q_8, h, b, p, q⟩
 rw [b, qaA] at hr
 exact fin hr
 rw [b, qaA] at hr
 refine st ?_
 refine qD (zf 10 65536 ?_)
 refine st ?_
 obtain ⟨r9, h9, hr⟩ := zb hr
 refine qem rfl qhD (qhk rec IHR _ _ _ h9) (rd rfl (qe2 (f := zl) [.tmp 19] [r9] rfl qba rfl rfl od od (.oc rfl .nil) qcR (fun _ => rfl)) ?_)
 obtain ⟨l10, h10, hr⟩ := zb hr
 refine ew rfl (qau (f := zl) o4 [r9] rfl qba rfl rfl (asl rfl) (pf0 _) rfl qcR h10) ?_
 rintro _ _ ⟨u21_10, rfl, rfl⟩
 exact fin hr
theorem qel : ∀ (fuel : Nat) (a0 : List (Int × T)) (a1 : List T) (res : List T), qbw fuel a0 a1 = some res → zg Tryz.prog 141 [.lst (a0.map zq), .lst (a1.map zl)] (.lst (res.map zl))
 | 0, _, _, _, h => by cases h
 | fuel + 1, a0, a1, res, h => qiH fuel (qbw fuel) (qel fuel) a0 a1 res h
def qfX (fuel : Nat) (a0 : List (Int × T)) (a1 : T) : Option T := qdx (qbw fuel) a0 a1
theorem qkQ (fuel : Nat) (a0 : List (Int × T)) (a1 : T) (res : T) (hr : qfX fuel a0 a1 = some res) : zg Tryz.prog 165 [.lst (a0.map zq), zl a1] (zl res) := qhk (qbw fuel) (qel fuel) a0 a1 res hr
def qcr (fuel : Nat) (a0 : List (Int × T)) (a1 : Gl) : Option Gl :=
 ((qbw fuel a0 a1.ts).bind fun r2 =>
 some ((⟨a1.op, a1.n, r2⟩ : Gl)))
theorem qfk (fuel : Nat) (a0 : List (Int × T)) (a1 : Gl) (res : Gl) (hr : qcr fuel a0 a1 = some res) : zg Tryz.prog 113 [.lst (a0.map zq), zB a1] (zB res) := by
 unfold qcr at hr
 refine qC Tryz.func113 rfl fun K hK hF => (qaC (zf 2 4 (rd rfl (qcA rfl rfl rfl) (ew rfl (qbi rfl qiw) ?_))))
 rintro _ _ ⟨b4_0, rfl, rfl⟩
 refine st ?_
 refine qea 10 262144 (qg 7 rfl ?_)
 refine zk hr rfl qfi (qel fuel _ _) (fun r2 h2 hr => ?_)
 refine rd rfl (qbz rfl qjm (.oc rfl (.oc rfl (.oc rfl .nil))) (.cons rfl rfl rfl (.cons rfl rfl rfl (.cons rfl rfl rfl (.nil _))))) (qcw rfl (pf0 _) (qax ?_))
 cases hr
 refine qbg Tryz.func113 _ (.cons (zp rfl (.head _) (by exact qit) rfl (Wk.refl _)) .nil) ?_
 rfl
def qbT (k : Option Int) (a0 : List (Int × T)) (fuel : Nat) (r1 : Gl) : List Gl → Option Int
 | [] =>
 k
 | q_5 :: rest =>
 ((qdu r1).bind fun r6 =>
 (bif r6 then
 ((qcr fuel a0 q_5).bind fun r8 =>
 ((quZ r1 r8).bind fun r9 =>
 (bif r9 then
 some (1)
 else
 (qbT k a0 fuel r1 rest))))
 else
 (qbT k a0 fuel r1 rest)))
def qe9 (fuel : Nat) (a0 : List (Int × T)) (a1 : List Gl) (a2 : Gl) : Option Int :=
 ((qcr fuel a0 a2).bind fun r1 =>
 (qbT (((qd1 fuel r1).bind fun r4 =>
 some (r4))) a0 fuel r1 a1))
theorem qmk (fuel : Nat) (a0 : List (Int × T)) (a1 : List Gl) (a2 : Gl) (a : Int) (hr : qe9 fuel a0 a1 a2 = some a) : zg Tryz.prog 145 [.lst (a0.map zq), .lst (a1.map zB), zB a2] (.int .i64 a) := by
 unfold qe9 at hr
 refine qC Tryz.func145 rfl fun K i j => ?_
 refine st ?_
 refine rd rfl (qcA rfl rfl rfl) ?_
 refine st0 ?_
 refine zf 5 320 (qg 2 rfl ?_)
 refine zk hr rfl qfn (qfk fuel _ _) (fun r1 h1 hr => ?_)
 refine ew rfl (qbi rfl qiw) ?_
 rintro _ _ ⟨b7_1, rfl, rfl⟩
 refine qcw rfl (pf0 _) (qax (qbR 7 b7_1 rfl (pf0 _) ?_))
 refine st ?_
 obtain ⟨c, d, hr⟩ := exK (fun k => qbT k a0 fuel r1 a1) hr
 refine qc5 1 rfl (asl rfl) fun e => ?_
 simp only [jd] at e
 refine qz (fun env σ => env = [(7, .ptr (zB r1))] ∧ σ = [] ∧ c = some a) ?_ (fun l => ?_)
 rintro _ _ ⟨rfl, rfl, hr⟩
 rw [d] at hr
 refine st ?_
 refine zk hr rfl qlu (qla fuel _) (fun r4 h4 hr => ?_)
 exact fin hr
 refine qbc [0, 1, 7, 8] rfl (qal (fun n env σ => ∃ (i3 : Nat), n = a1.length - i3 ∧ (env = [(0, .lst (a0.map zq)), (1, .lst (a1.map zB)), (7, .ptr (zB r1)), (8, .int .i64 (i3 : Int))]) ∧ (σ = []) ∧ (i3 ≤ a1.length) ∧ (qbT c a0 fuel r1 (a1.drop i3) = some a)) _ ⟨0, rfl, rfl, rfl, jf _, hr⟩ ?_)
 rintro n _ _ ⟨i3, rfl, rfl, rfl, g, hr⟩ m
 rcases zd a1 i3 g with ⟨h, b, o⟩ | ⟨q_5, h, b, p, q⟩
 rw [b, qbT] at hr
 exact fin hr
 rw [b, qbT] at hr
 refine st ?_
 refine qD (qaC (qea 12 0 (qg 1 rfl ?_)))
 refine zk hr rfl qhl (qhn _) (fun r6 h6 hr => ?_)
 refine qg 1 rfl ?_
 refine zt 20 rfl hr (fun _ hr => ?_) (fun _ hr => ?_)
 refine st ?_
 refine zk hr rfl qfn (qfk fuel _ _) (fun r8 h8 hr => ?_)
 obtain ⟨r9, h9, hr⟩ := zb hr
 refine qem rfl qjA (qjB _ _ _ h9) ?_
 refine st ?_
 refine zi 29 rfl hr (fun _ hr => ?_) (fun _ hr => ?_)
 exact fin hr
 exact fin hr
 exact fin hr
def qbp (k : Option Bool) (a1 : qi) : List qi → Option Bool
 | [] =>
 k
 | q_2 :: rest =>
 ((qbW q_2 a1).bind fun r3 =>
 (bif (r3 == (0 : Int)) then
 some (true)
 else
 (qbp k a1 rest)))
def qcC (a0 : List qi) (a1 : qi) : Option Bool :=
 (qbp (some (false)) a1 a0)
theorem qin (a0 : List qi) (a1 : qi) (a : Bool) (hr : qcC a0 a1 = some a) : zg Tryz.prog 147 [.lst (a0.map qe), qe a1] (.bool a) := by
 unfold qcC at hr
 refine qC Tryz.func147 rfl fun K i j => ?_
 refine st ?_
 refine rd rfl (qcA rfl rfl rfl) ?_
 refine st ?_
 obtain ⟨c, d, hr⟩ := exK (fun k => qbp k a1 a0) hr
 refine qc5 0 rfl (asl rfl) fun e => ?_
 simp only [jd] at e
 refine qz (fun env σ => env = [] ∧ σ = [] ∧ c = some a) ?_ (fun l => ?_)
 rintro _ _ ⟨rfl, rfl, hr⟩
 rw [d] at hr
 exact fin hr
 refine qbc [0, 3, 5] rfl (qal (fun n env σ => ∃ (i1 : Nat), n = a0.length - i1 ∧ (env = [(0, .lst (a0.map qe)), (3, .ptr (qe a1)), (5, .int .i64 (i1 : Int))]) ∧ (σ = []) ∧ (i1 ≤ a0.length) ∧ (qbp c a1 (a0.drop i1) = some a)) _ ⟨0, rfl, rfl, rfl, jf _, hr⟩ ?_)
 rintro n _ _ ⟨i1, rfl, rfl, rfl, g, hr⟩ m
 rcases zd a0 i1 g with ⟨h, b, o⟩ | ⟨q_2, h, b, p, q⟩
 rw [b, qbp] at hr
 exact fin hr
 rw [b, qbp] at hr
 refine st ?_
 refine qD (qaC (qea 7 0 ?_))
 refine st ?_
 refine zk hr rfl qfF (qfz _ _) (fun r3 h3 hr => ?_)
 refine st ?_
 refine zi 18 rfl hr (fun _ hr => ?_) (fun _ hr => ?_)
 exact fin hr
 exact fin hr
def qaP (k : Option ((List (Int × T)) × Bool)) (a2 : List (Int × T)) (e7 : List (Int × T)) (fuel : Nat) (a3 : List Gl) : List Gl → Option ((List (Int × T)) × Bool)
 | [] =>
 k
 | q_13 :: rest =>
 ((qcv fuel e7 0 q_13).bind fun r14 =>
 ((qe9 fuel a2 a3 r14).bind fun r15 =>
 (bif (r15 != (1 : Int)) then
 some ([], false)
 else
 (qaP k a2 e7 fuel a3 rest))))
def qbI (k : Option ((List (Int × T)) × Bool)) (i6 : Nat) (a6 : List Int) : Nat → Int → Option ((List (Int × T)) × Bool)
 | 0, k18 =>
 k
 | rest + 1, k18 =>
 ((zh a6 k18).bind fun q_25 =>
 ((zh a6 (i6 : Int)).bind fun q26 =>
 (bif (q_25 == q26) then
 some ([], false)
 else
 (qbI k i6 a6 rest (k18 + 1)))))
def qap (k : ((List (Int × T))) → Option ((List (Int × T)) × Bool)) (fuel : Nat) (a6 : List Int) (a1 : List (Int × At)) : List At → (List (Int × T)) → Nat → Option ((List (Int × T)) × Bool)
 | [], e5, i6 =>
 (k e5)
 | q_17 :: rest, e5, i6 =>
 (qbI (((zh a6 (i6 : Int)).bind fun q_19 =>
 ((qdm a1 q_19).bind fun r20 =>
 (bif (!r20.2) then
 some ([], false)
 else
 ((qeJ fuel e5 q_17 r20.1).bind fun r23 =>
 (bif (!r23.2) then
 some ([], false)
 else
 (qap k fuel a6 a1 rest r23.1 (i6 + 1)))))))) i6 a6 ((i6 : Int) - 0 : Int).toNat 0)
def q7 (fuel : Nat) (a0 : qc) (a1 : List (Int × At)) (a2 : List (Int × T)) (a3 : List Gl) (a4 : List qi) (a5 : Int) (a6 : List Int) : Option ((List (Int × T)) × Bool) :=
 ((zh a0.fc a5).bind fun q1 =>
 ((qbS q1).bind fun r3 =>
 (bif ((a6.length : Int) != (r3.length : Int)) then
 some ([], false)
 else
 (qap (fun e7 =>
 (qaP (((qO q1).bind fun r9 =>
 (bif r9 then
 ((qcC a4 (⟨a5, a6⟩ : qi)).bind fun r11 =>
 (bif r11 then
 some ([], false)
 else
 some (e7, true)))
 else
 some (e7, true)))) a2 e7 fuel a3 q1.fx)) fuel a6 a1 r3 [] 0))))
theorem qip (fuel : Nat) (a0 : qc) (a1 : List (Int × At)) (a2 : List (Int × T)) (a3 : List Gl) (a4 : List qi) (a5 : Int) (a6 : List Int) (a : (List (Int × T)) × Bool) (hr : q7 fuel a0 a1 a2 a3 a4 a5 a6 = some a) : zg Tryz.prog 116 [qf a0, .lst (a1.map zm), .lst (a2.map zq), .lst (a3.map zB), .lst (a4.map qe), .int .i64 a5, .lst (a6.map (D.int .i64))] (.tup [.lst (a.1.map zq), .bool a.2]) := by
 unfold q7 at hr
 refine qC Tryz.func116 rfl fun K y z => ?_
 refine st ?_
 refine rd rfl (qcA rfl rfl rfl) ?_
 refine st0 ?_
 refine zf 7 5120 (qg 3 rfl ?_)
 obtain ⟨q1, h1, hr⟩ := zb hr
 refine st ?_
 refine ew rfl (qbi rfl qgX) ?_
 rintro _ _ ⟨b16_1, rfl, rfl⟩
 refine qcw rfl (pf0 _) (qax (qbR 16 b16_1 rfl (pf0 _) ?_))
 refine st ?_
 refine zk hr rfl qfe (qfd _) (fun r3 h3 hr => ?_)
 refine st ?_
 refine zi 37 rfl hr (fun _ hr => ?_) (fun _ hr => ?_)
 refine st ?_
 cases hr
 refine qbg Tryz.func116 _ (.cons (za rfl (Wk.full _)) (.cons (za rfl (Wk.refl _)) .nil)) ?_
 rfl
 refine st ?_
 obtain ⟨e, i, hr⟩ := exK (fun k => qap k fuel a6 a1 r3 [] 0) hr
 refine qc5 32 rfl (asl rfl) fun j => ?_
 simp only [jd] at j
 refine qz (fun env σ => ∃ (e7 : List (Int × T)), env = [(2, .lst (a2.map zq)), (3, .lst (a3.map zB)), (4, .lst (a4.map qe)), (5, .int .i64 a5), (6, .lst (a6.map (D.int .i64))), (16, .ptr (ql q1)), (18, .lst (e7.map zq))] ∧ σ = [] ∧ e e7 = some a) ?_ (fun A => ?_)
 rintro _ _ ⟨e7, rfl, rfl, hr⟩
 rw [i] at hr
 refine st ?_
 obtain ⟨g, m, hr⟩ := exK (fun k => qaP k a2 e7 fuel a3 q1.fx) hr
 refine qpE 16 [3] (l := q1.fx.map zB) rfl rfl (asl rfl) fun o => ?_
 simp only [jd] at o
 refine qz (fun env σ => env = [(4, .lst (a4.map qe)), (5, .int .i64 a5), (6, .lst (a6.map (D.int .i64))), (16, .ptr (ql q1)), (18, .lst (e7.map zq))] ∧ σ = [] ∧ g = some a) ?_ (fun B => ?_)
 rintro _ _ ⟨rfl, rfl, hr⟩
 rw [m] at hr
 refine st ?_
 refine zk hr rfl qe5 (qe3 _) (fun r9 h9 hr => ?_)
 refine qg 1 rfl ?_
 refine zt 102 rfl hr (fun _ hr => ?_) (fun _ hr => ?_)
 refine qg 3 rfl (rd rfl (qbz rfl qpZ (.oc rfl (.oc rfl .nil)) (.cons rfl rfl rfl (.cons rfl rfl rfl (.nil _)))) ?_)
 refine zk hr rfl qih (qin _ _) (fun r11 h11 hr => ?_)
 refine st ?_
 refine zi 108 rfl hr (fun _ hr => ?_) (fun _ hr => ?_)
 refine st ?_
 cases hr
 refine qbg Tryz.func116 _ (.cons (za rfl (Wk.full _)) (.cons (za rfl (Wk.refl _)) .nil)) ?_
 rfl
 exact fin hr
 exact fin hr
 refine qbc [2, 3, 4, 5, 6, 16, 18, 25] rfl (qal (fun n env σ => ∃ (i8 : Nat), n = q1.fx.length - i8 ∧ (env = [(2, .lst (a2.map zq)), (3, .lst (a3.map zB)), (4, .lst (a4.map qe)), (5, .int .i64 a5), (6, .lst (a6.map (D.int .i64))), (16, .ptr (ql q1)), (18, .lst (e7.map zq)), (25, .int .i64 (i8 : Int))]) ∧ (σ = []) ∧ (i8 ≤ q1.fx.length) ∧ (qaP g a2 e7 fuel a3 (q1.fx.drop i8) = some a)) _ ⟨0, rfl, rfl, rfl, jf _, hr⟩ ?_)
 rintro n _ _ ⟨i8, rfl, rfl, rfl, p, hr⟩ C
 rcases zd q1.fx i8 p with ⟨q, b, E⟩ | ⟨q_13, q, b, F, G⟩
 rw [b, qaP] at hr
 exact fin hr
 rw [b, qaP] at hr
 refine st ?_
 refine qD ?_
 refine st ?_
 refine zk hr rfl qfZ (qf3 fuel _ _ _) (fun r14 h14 hr => ?_)
 refine zk hr rfl qmh (qmk fuel _ _ _) (fun r15 h15 hr => ?_)
 refine st ?_
 refine zi 99 rfl hr (fun _ hr => ?_) (fun _ hr => ?_)
 refine st ?_
 cases hr
 refine qbg Tryz.func116 _ (.cons (za rfl (Wk.full _)) (.cons (za rfl (Wk.refl _)) .nil)) ?_
 rfl
 exact fin hr
 refine qmD [(1, .lst (a1.map zm)), (2, .lst (a2.map zq)), (3, .lst (a3.map zB)), (4, .lst (a4.map qe)), (5, .int .i64 a5), (6, .lst (a6.map (D.int .i64))), (16, .ptr (ql q1)), (17, .lst (r3.map zU)), (18, .lst ([].map zq)), (19, .int .i64 ((0 : Nat) : Int))] (sc rfl (sc rfl (sc rfl (sc rfl (sc rfl (sc rfl (sc rfl (sc rfl (Sub.cons rfl (Wk.full _) (sbr rfl)))))))))) (qal (fun n env σ => ∃ (e5 : List (Int × T)) (i6 : Nat), n = r3.length - i6 ∧ (env = [(1, .lst (a1.map zm)), (2, .lst (a2.map zq)), (3, .lst (a3.map zB)), (4, .lst (a4.map qe)), (5, .int .i64 a5), (6, .lst (a6.map (D.int .i64))), (16, .ptr (ql q1)), (17, .lst (r3.map zU)), (18, .lst (e5.map zq)), (19, .int .i64 (i6 : Int))]) ∧ (σ = []) ∧ (i6 ≤ r3.length) ∧ (qap e fuel a6 a1 (r3.drop i6) e5 i6 = some a)) _ ⟨[], 0, rfl, rfl, rfl, jf _, hr⟩ ?_)
 rintro n _ _ ⟨e5, i6, rfl, rfl, rfl, s, hr⟩ H
 rcases zd r3 i6 s with ⟨t, c, I⟩ | ⟨q_17, t, c, J, L⟩
 rw [c, qap] at hr
 exact fin hr
 rw [c, qap] at hr
 refine st ?_
 refine qD ?_
 refine st ?_
 obtain ⟨h, u, hr⟩ := exK (fun k => qbI k i6 a6 ((i6 : Int) - 0 : Int).toNat 0) hr
 refine qoW 19 rfl fun M => ?_
 refine qz (fun env σ => env = [(1, .lst (a1.map zm)), (2, .lst (a2.map zq)), (3, .lst (a3.map zB)), (4, .lst (a4.map qe)), (5, .int .i64 a5), (6, .lst (a6.map (D.int .i64))), (16, .ptr (ql q1)), (17, .lst (r3.map zU)), (18, .lst (e5.map zq)), (19, .int .i64 (i6 : Int))] ∧ σ = [] ∧ h = some a) ?_ (fun N => ?_)
 rintro _ _ ⟨rfl, rfl, hr⟩
 rw [u] at hr
 refine qaC (zf 12 1310720 (qg 3 rfl ?_))
 obtain ⟨q_19, h19, hr⟩ := zb hr
 refine st ?_
 refine zk hr rfl qgj (qgi _ _) (fun r20 h20 hr => ?_)
 refine qg 3 rfl (ew rfl (qbi rfl qfQ) ?_)
 rintro _ _ ⟨b21_20, rfl, rfl⟩
 refine qcw rfl (pf0 _) (qg 1 rfl (qax (qbR 21 b21_20 rfl (pf0 _) ?_)))
 refine st ?_
 refine zi 68 rfl hr (fun _ hr => ?_) (fun _ hr => ?_)
 refine st ?_
 cases hr
 refine qbg Tryz.func116 _ (.cons (za rfl (Wk.full _)) (.cons (za rfl (Wk.refl _)) .nil)) ?_
 rfl
 refine st ?_
 refine qea 12 0 ?_
 refine st ?_
 refine zk hr rfl qlM (qlK fuel _ _ _) (fun r23 h23 hr => ?_)
 refine st ?_
 refine zi 80 rfl hr (fun _ hr => ?_) (fun _ hr => ?_)
 refine st ?_
 cases hr
 refine qbg Tryz.func116 _ (.cons (za rfl (Wk.full _)) (.cons (za rfl (Wk.refl _)) .nil)) ?_
 rfl
 exact fin hr
 refine qbc [1, 2, 3, 4, 5, 6, 16, 17, 18, 19, 20] rfl (qal (fun n env σ => ∃ (k18 : Int) (m2 : Nat), (m2 = n) ∧ (env = [(1, .lst (a1.map zm)), (2, .lst (a2.map zq)), (3, .lst (a3.map zB)), (4, .lst (a4.map qe)), (5, .int .i64 a5), (6, .lst (a6.map (D.int .i64))), (16, .ptr (ql q1)), (17, .lst (r3.map zU)), (18, .lst (e5.map zq)), (19, .int .i64 (i6 : Int)), (20, .int .i64 k18)]) ∧ (σ = []) ∧ (m2 = ((i6 : Int) - k18 : Int).toNat) ∧ (qbI h i6 a6 m2 k18 = some a)) _ ⟨0, _, rfl, rfl, rfl, rfl, hr⟩ ?_)
 rintro n _ _ ⟨k18, m2, rfl, rfl, rfl, v, hr⟩ w
 refine qoW 20 rfl fun O => ?_
 rcases zaU k18 (i6 : Int) m2 v with ⟨d, x⟩ | ⟨m2', d, x, hi2', P⟩
 rw [d, qbI] at hr
 exact fin hr
 rw [d, qbI] at hr
 refine qaC (qaC (zf 3 0 (qg 3 rfl (qax (qoW 19 rfl fun hbN19 => ?_)))))
 refine st ?_
 refine qD (qaC (qea 9 0 (qg 2 rfl ?_)))
 obtain ⟨q_25, h25, hr⟩ := zb hr
 refine st ?_
 obtain ⟨q26, h26, hr⟩ := zb hr
 refine st ?_
 refine zi 57 rfl hr (fun _ hr => ?_) (fun _ hr => ?_)
 refine st ?_
 cases hr
 refine qbg Tryz.func116 _ (.cons (za rfl (Wk.full _)) (.cons (za rfl (Wk.refl _)) .nil)) ?_
 rfl
 refine st ?_
 refine rd rfl (zbq (r := k18 + 1) rfl rfl rfl rfl oa) (qg 1 rfl (qax (qbc [1, 2, 3, 4, 5, 6, 16, 17, 18, 19, 20] rfl ?_)))
 exact w _ _ _ oa ⟨(k18 + 1), _, rfl, rfl, rfl, hi2', hr⟩
def qaM (k : ((List (List Int))) → Option ((List (List Int)))) (a2 : List (Int × T)) (fuel : Nat) (a4 : List qi) (a3 : List Gl) (a1 : List (Int × At)) (a0 : qc) (a5 : Int) : List (List Int) → (List (List Int)) → Option ((List (List Int)))
 | [], o9 =>
 (k o9)
 | q_13 :: rest, o9 =>
 ((q7 fuel a0 a1 a2 a3 a4 a5 q_13).bind fun r14 =>
 (bif r14.2 then
 ((zz 24 o9 [q_13]).bind fun l16 =>
 (qaM k a2 fuel a4 a3 a1 a0 a5 rest l16))
 else
 (qaM k a2 fuel a4 a3 a1 a0 a5 rest o9)))
def qaf (k : ((List (List Int))) → Option ((List (List Int)))) (q_18 : At) (q_25 : List Int) : List (Int × At) → (List (List Int)) → Option ((List (List Int)))
 | [], l27 =>
 (k l27)
 | q_31 :: rest, l27 =>
 (bif (q_31.2.n.toList == q_18.n.toList) then
 (bif ((q_31.2.ts.length : Int) == (q_18.ts.length : Int)) then
 ((zz 8 [] q_25).bind fun l36 =>
 ((zz 8 l36 [q_31.1]).bind fun l38 =>
 ((zz 24 l27 [l38]).bind fun l40 =>
 (qaf k q_18 q_25 rest l40))))
 else
 (qaf k q_18 q_25 rest l27))
 else
 (qaf k q_18 q_25 rest l27))
def qa5 (k : ((List (List Int))) → Option ((List (List Int)))) (a1 : List (Int × At)) (q_18 : At) : List (List Int) → (List (List Int)) → Option ((List (List Int)))
 | [], l21 =>
 (k l21)
 | q_25 :: rest, l21 =>
 (qaf (fun l30 =>
 (qa5 k a1 q_18 rest l30)) q_18 q_25 a1 l21)
def q0 (k : ((List (List Int))) → Option ((List (List Int)))) (a1 : List (Int × At)) : List At → (List (List Int)) → Option ((List (List Int)))
 | [], l4 =>
 (k l4)
 | q_18 :: rest, l4 =>
 (qa5 (fun l24 =>
 (q0 k a1 rest l24)) a1 q_18 l4 [])
def qcK (fuel : Nat) (a0 : qc) (a1 : List (Int × At)) (a2 : List (Int × T)) (a3 : List Gl) (a4 : List qi) (a5 : Int) : Option ((List (List Int))) :=
 ((zh a0.fc a5).bind fun q_2 =>
 ((qbS q_2).bind fun r3 =>
 (q0 (fun l6 =>
 (qaM (fun o12 =>
 some (o12)) a2 fuel a4 a3 a1 a0 a5 l6 [])) a1 r3 [[]])))
theorem qjS (fuel : Nat) (a0 : qc) (a1 : List (Int × At)) (a2 : List (Int × T)) (a3 : List Gl) (a4 : List qi) (a5 : Int) (a : List (List Int)) (hr : qcK fuel a0 a1 a2 a3 a4 a5 = some a) : zg Tryz.prog 137 [qf a0, .lst (a1.map zm), .lst (a2.map zq), .lst (a3.map zB), .lst (a4.map qe), .int .i64 a5] (.lst (a.map (fun (l : List Int) => D.lst (l.map (D.int .i64))))) := by
 unfold qcK at hr
 refine qC Tryz.func137 rfl fun K G H => (qaC (zf 2 4 (rd rfl (qcA rfl rfl rfl) (ew rfl (qL 60 1 (.inl rfl)) ?_))))
 rintro _ _ ⟨u12_0, rfl, rfl⟩
 refine st ?_
 obtain ⟨q_2, h2, hr⟩ := zb hr
 refine st ?_
 refine zk hr rfl qfe (qfd _) (fun r3 h3 hr => ?_)
 refine st ?_
 refine rd rfl (qe2 (f := (fun (l : List Int) => D.lst (l.map (D.int .i64)))) [.const (.slice none 0 0)] [[]] rfl qjf rfl rfl od od (.cons rfl (Wk.full _) .nil) (fun _ => rfl) (fun _ => rfl)) ?_
 refine st ?_
 obtain ⟨g, m, hr⟩ := exK (fun k => q0 k a1 r3 [[]]) hr
 refine qc5 30 rfl (asl rfl) fun o => ?_
 simp only [jd] at o
 refine qz (fun env σ => ∃ (l6 : List (List Int)), env = [(1, .lst (a1.map zm)), (2, .lst (a2.map zq)), (3, .lst (a3.map zB)), (4, .lst (a4.map qe)), (5, .int .i64 a5), (6, .ptr (qf a0)), (14, .lst (l6.map (fun (l : List Int) => D.lst (l.map (D.int .i64)))))] ∧ σ = [] ∧ g l6 = some a) ?_ (fun I => ?_)
 rintro _ _ ⟨l6, rfl, rfl, hr⟩
 rw [m] at hr
 refine qaC (zf 1 1 (ew rfl (qL 60 1 (.inl rfl)) ?_))
 rintro _ _ ⟨u21_6, rfl, rfl⟩
 refine st ?_
 obtain ⟨h, p, hr⟩ := exK (fun k => qaM k a2 fuel a4 a3 a1 a0 a5 l6 []) hr
 refine qc5 14 rfl (asl rfl) fun q => ?_
 simp only [jd] at q
 refine qz (fun env σ => ∃ (o12 : List (List Int)) (u11 : Value), env = [(21, .own u11 (o12.map (fun (l : List Int) => D.lst (l.map (D.int .i64)))))] ∧ σ = [.row u11 o12.length 60 1] ∧ h o12 = some a) ?_ (fun J => ?_)
 rintro _ _ ⟨o12, u11, rfl, rfl, hr⟩
 rw [p] at hr
 refine st ?_
 cases hr
 refine qbg Tryz.func137 _ (.cons (za rfl (Wk.own _ _)) .nil) ?_
 rfl
 refine qbc [1, 2, 3, 4, 5, 6, 14, 21, 22] rfl (qal (fun n env σ => ∃ (o9 : List (List Int)) (i10 : Nat) (u8 : Value), n = l6.length - i10 ∧ (env = [(1, .lst (a1.map zm)), (2, .lst (a2.map zq)), (3, .lst (a3.map zB)), (4, .lst (a4.map qe)), (5, .int .i64 a5), (6, .ptr (qf a0)), (14, .lst (l6.map (fun (l : List Int) => D.lst (l.map (D.int .i64))))), (21, .own u8 (o9.map (fun (l : List Int) => D.lst (l.map (D.int .i64))))), (22, .int .i64 (i10 : Int))]) ∧ (σ = [.row u8 o9.length 60 1]) ∧ (i10 ≤ l6.length) ∧ (qaM h a2 fuel a4 a3 a1 a0 a5 (l6.drop i10) o9 = some a)) _ ⟨[], 0, u21_6, rfl, rfl, rfl, jf _, hr⟩ ?_)
 rintro n _ _ ⟨o9, i10, u8, rfl, rfl, rfl, r, hr⟩ L
 rcases zd l6 i10 r with ⟨s, b, M⟩ | ⟨q_13, s, b, N, O⟩
 rw [b, qaM] at hr
 exact fin hr
 rw [b, qaM] at hr
 refine st ?_
 refine qD (qaC (qea 16 0 ?_))
 refine st ?_
 refine zk hr rfl qig (qip fuel _ _ _ _ _ _ _) (fun r14 h14 hr => ?_)
 refine st ?_
 refine zi 113 rfl hr (fun _ hr => ?_) (fun _ hr => ?_)
 refine qfh rfl (zf 8 4096 ?_)
 refine st ?_
 refine rd rfl (qe2 (f := (fun (l : List Int) => D.lst (l.map (D.int .i64)))) [.tmp 118] [q_13] rfl qjf rfl rfl od od (.oc rfl .nil) (fun _ => rfl) (fun _ => rfl)) ?_
 obtain ⟨l16, h16, hr⟩ := zb hr
 refine ew rfl (qau (f := (fun (l : List Int) => D.lst (l.map (D.int .i64)))) o9 [q_13] rfl qjf rfl rfl (asl rfl) (pf0 _) rfl (fun _ => rfl) h16) ?_
 rintro _ _ ⟨u120_16, rfl, rfl⟩
 exact fin hr
 exact fin hr
 refine qmD [(1, .lst (a1.map zm)), (2, .lst (a2.map zq)), (3, .lst (a3.map zB)), (4, .lst (a4.map qe)), (5, .int .i64 a5), (6, .ptr (qf a0)), (13, .lst (r3.map zU)), (14, .lst ([[]].map (fun (l : List Int) => D.lst (l.map (D.int .i64))))), (15, .int .i64 ((0 : Nat) : Int))] (sc rfl (sc rfl (sc rfl (sc rfl (sc rfl (sc rfl (sc rfl (Sub.cons rfl (Wk.full _) (sbr rfl))))))))) (qcz [] _ (pf0 _) (qal (fun n env σ => ∃ (l4 : List (List Int)) (i5 : Nat), n = r3.length - i5 ∧ (env = [(1, .lst (a1.map zm)), (2, .lst (a2.map zq)), (3, .lst (a3.map zB)), (4, .lst (a4.map qe)), (5, .int .i64 a5), (6, .ptr (qf a0)), (13, .lst (r3.map zU)), (14, .lst (l4.map (fun (l : List Int) => D.lst (l.map (D.int .i64))))), (15, .int .i64 (i5 : Int))]) ∧ (σ = []) ∧ (i5 ≤ r3.length) ∧ (q0 g a1 (r3.drop i5) l4 = some a)) _ ⟨[[]], 0, rfl, rfl, rfl, jf _, hr⟩ ?_))
 rintro n _ _ ⟨l4, i5, rfl, rfl, rfl, t, hr⟩ u
 rcases zd r3 i5 t with ⟨v, c, P⟩ | ⟨q_18, v, c, Q, R⟩
 rw [c, q0] at hr
 exact fin hr
 rw [c, q0] at hr
 refine st ?_
 refine qD (qaC (zf 1 1 (ew rfl (qL 60 1 (.inl rfl)) ?_)))
 rintro _ _ ⟨u16_18, rfl, rfl⟩
 refine st ?_
 obtain ⟨i, w, hr⟩ := exK (fun k => qa5 k a1 q_18 l4 []) hr
 refine qc5 14 rfl (asl rfl) fun x => ?_
 simp only [jd] at x
 refine qz (fun env σ => ∃ (l24 : List (List Int)) (u23 : Value), env = [(1, .lst (a1.map zm)), (2, .lst (a2.map zq)), (3, .lst (a3.map zB)), (4, .lst (a4.map qe)), (5, .int .i64 a5), (6, .ptr (qf a0)), (13, .lst (r3.map zU)), (15, .int .i64 (i5 : Int)), (16, .own u23 (l24.map (fun (l : List Int) => D.lst (l.map (D.int .i64)))))] ∧ σ = [.row u23 l24.length 60 1] ∧ i l24 = some a) ?_ (fun S => ?_)
 rintro _ _ ⟨l24, u23, rfl, rfl, hr⟩
 rw [w] at hr
 refine zf 2 0 (qg 2 rfl (qax (qfa (zf 3 0 (qg 1 rfl (qqp rfl (qg 1 rfl (qax (qmD [(1, .lst (a1.map zm)), (2, .lst (a2.map zq)), (3, .lst (a3.map zB)), (4, .lst (a4.map qe)), (5, .int .i64 a5), (6, .ptr (qf a0)), (13, .lst (r3.map zU)), (14, .lst (l24.map (fun (l : List Int) => D.lst (l.map (D.int .i64))))), (15, .int .i64 ((i5 + 1 : Nat) : Int))] (sc rfl (sc rfl (sc rfl (sc rfl (sc rfl (sc rfl (sc rfl (Sub.cons rfl (Wk.own _ _) (sbr rfl))))))))) (qcz [] _ (pf0 _) ?_))))))))))
 exact u _ _ _ oa ⟨l24, (i5 + 1), rfl, rfl, rfl, oa, hr⟩
 refine qbc [1, 2, 3, 4, 5, 6, 13, 14, 15, 16, 17] rfl (qal (fun n env σ => ∃ (l21 : List (List Int)) (k22 : Nat) (u20 : Value), n = l4.length - k22 ∧ (env = [(1, .lst (a1.map zm)), (2, .lst (a2.map zq)), (3, .lst (a3.map zB)), (4, .lst (a4.map qe)), (5, .int .i64 a5), (6, .ptr (qf a0)), (13, .lst (r3.map zU)), (14, .lst (l4.map (fun (l : List Int) => D.lst (l.map (D.int .i64))))), (15, .int .i64 (i5 : Int)), (16, .own u20 (l21.map (fun (l : List Int) => D.lst (l.map (D.int .i64))))), (17, .int .i64 (k22 : Int))]) ∧ (σ = [.row u20 l21.length 60 1]) ∧ (k22 ≤ l4.length) ∧ (qa5 i a1 q_18 (l4.drop k22) l21 = some a)) _ ⟨[], 0, u16_18, rfl, rfl, rfl, jf _, hr⟩ ?_)
 rintro n _ _ ⟨l21, k22, u20, rfl, rfl, rfl, y, hr⟩ U
 rcases zd l4 k22 y with ⟨z, d, V⟩ | ⟨q_25, z, d, W, X⟩
 rw [d, qa5] at hr
 exact fin hr
 rw [d, qa5] at hr
 refine st ?_
 refine qD ?_
 refine st ?_
 obtain ⟨j, A, hr⟩ := exK (fun k => qaf k q_18 q_25 a1 l21) hr
 refine qc5 1 rfl (asl rfl) fun B => ?_
 simp only [jd] at B
 refine qz (fun env σ => ∃ (l30 : List (List Int)) (u29 : Value), env = [(1, .lst (a1.map zm)), (2, .lst (a2.map zq)), (3, .lst (a3.map zB)), (4, .lst (a4.map qe)), (5, .int .i64 a5), (6, .ptr (qf a0)), (13, .lst (r3.map zU)), (14, .lst (l4.map (fun (l : List Int) => D.lst (l.map (D.int .i64))))), (15, .int .i64 (i5 : Int)), (16, .own u29 (l30.map (fun (l : List Int) => D.lst (l.map (D.int .i64))))), (17, .int .i64 (k22 : Int))] ∧ σ = [.row u29 l30.length 60 1] ∧ j l30 = some a) ?_ (fun Y => ?_)
 rintro _ _ ⟨l30, u29, rfl, rfl, hr⟩
 rw [A] at hr
 exact fin hr
 refine qbc [1, 2, 3, 4, 5, 6, 13, 14, 15, 17, 16, 18] rfl (qal (fun n env σ => ∃ (l27 : List (List Int)) (j28 : Nat) (u26 : Value), n = a1.length - j28 ∧ (env = [(1, .lst (a1.map zm)), (2, .lst (a2.map zq)), (3, .lst (a3.map zB)), (4, .lst (a4.map qe)), (5, .int .i64 a5), (6, .ptr (qf a0)), (13, .lst (r3.map zU)), (14, .lst (l4.map (fun (l : List Int) => D.lst (l.map (D.int .i64))))), (15, .int .i64 (i5 : Int)), (17, .int .i64 (k22 : Int)), (16, .own u26 (l27.map (fun (l : List Int) => D.lst (l.map (D.int .i64))))), (18, .int .i64 (j28 : Int))]) ∧ (σ = [.row u26 l27.length 60 1]) ∧ (j28 ≤ a1.length) ∧ (qaf j q_18 q_25 (a1.drop j28) l27 = some a)) _ ⟨l21, 0, u20, rfl, rfl, rfl, jf _, hr⟩ ?_)
 rintro n _ _ ⟨l27, j28, u26, rfl, rfl, rfl, C, hr⟩ E
 rcases zd a1 j28 C with ⟨F, e, Z⟩ | ⟨q_31, F, e, a9, c4⟩
 rw [e, qaf] at hr
 exact fin hr
 rw [e, qaf] at hr
 refine st ?_
 refine qD (qaC (zf 7 5120 ?_))
 refine st ?_
 refine ew rfl (qbi rfl qfQ) ?_
 rintro _ _ ⟨b19_31, rfl, rfl⟩
 refine qcw rfl (pf0 _) (qax (qbR 19 b19_31 rfl (pf0 _) (qaC (qea 20 0 ?_))))
 refine st ?_
 refine rd rfl (qgC rfl rfl rfl rfl) (qg 1 rfl ?_)
 refine zt 63 rfl hr (fun _ hr => ?_) (fun _ hr => ?_)
 refine st ?_
 refine zi 74 rfl hr (fun _ hr => ?_) (fun _ hr => ?_)
 refine st0 ?_
 refine zf 1 1 (ew rfl (qL 3 1 (.inl rfl)) ?_)
 rintro _ _ ⟨u20_34, rfl, rfl⟩
 refine st0 ?_
 refine zf 7 1024 ?_
 refine st ?_
 obtain ⟨l36, h36, hr⟩ := zb hr
 refine ew rfl (qau (f := (D.int .i64)) [] q_25 rfl qcO rfl rfl (asl rfl) (pf0 _) rfl (fun _ => rfl) h36) ?_
 rintro _ _ ⟨u80_36, rfl, rfl⟩
 refine st0 ?_
 refine zf 12 1114112 ?_
 refine st ?_
 refine rd rfl (qe2 (f := (D.int .i64)) [.tmp 87] [q_31.1] rfl qcO rfl rfl od od (.oc rfl .nil) (fun _ => rfl) (fun _ => rfl)) ?_
 obtain ⟨l38, h38, hr⟩ := zb hr
 refine ew rfl (qau (f := (D.int .i64)) l36 [q_31.1] rfl qcO rfl rfl (asl rfl) (pf0 _) rfl (fun _ => rfl) h38) ?_
 rintro _ _ ⟨u89_38, rfl, rfl⟩
 refine rd rfl (qe2 (f := (fun (l : List Int) => D.lst (l.map (D.int .i64)))) [.tmp 89] [l38] rfl qjf rfl rfl od od (.cons rfl (Wk.own _ _) .nil) (fun _ => rfl) (fun _ => rfl)) ?_
 obtain ⟨l40, h40, hr⟩ := zb hr
 refine ew rfl (qau (f := (fun (l : List Int) => D.lst (l.map (D.int .i64)))) l27 [l38] rfl qjf rfl rfl (asl rfl) (pf1 _ _ _) rfl (fun _ => rfl) h40) ?_
 rintro _ _ ⟨u91_40, rfl, rfl⟩
 refine qg 1 rfl (qax (qfa (zf 3 0 (qg 1 rfl (qqp rfl (qg 1 rfl (qax (qbc [1, 2, 3, 4, 5, 6, 13, 14, 15, 17, 16, 18] rfl (qcz [_] _ (pf0 _) ?_)))))))))
 exact E _ _ _ oa ⟨l40, (j28 + 1), u91_40, rfl, rfl, rfl, oa, hr⟩
 exact fin hr
 exact fin hr
def qdS (fuel : Nat) (a0 : List (Int × T)) (a1 : T) (a2 : T) : Option Bool :=
 ((qcG fuel a0).bind fun r1 =>
 (bif r1 then
 ((qj6 a1).bind fun r3 =>
 (bif r3 then
 ((qj6 a2).bind fun r5 =>
 some (r5))
 else
 some (false)))
 else
 some (false)))
theorem qhH (fuel : Nat) (a0 : List (Int × T)) (a1 : T) (a2 : T) (a : Bool) (hr : qdS fuel a0 a1 a2 = some a) : zg Tryz.prog 161 [.lst (a0.map zq), zl a1, zl a2] (.bool a) := by
 unfold qdS at hr
 refine qC Tryz.func161 rfl fun K b c => ?_
 refine st ?_
 refine rd rfl (qcA rfl rfl rfl) (rd rfl (qcA rfl rfl rfl) ?_)
 refine st ?_
 refine zk hr rfl qhC (qhw fuel _) (fun r1 h1 hr => ?_)
 refine qg 1 rfl ?_
 refine zt 9 rfl hr (fun _ hr => ?_) (fun _ hr => ?_)
 refine qg 1 rfl ?_
 obtain ⟨r3, h3, hr⟩ := zb hr
 refine qem rfl qdM (qdQ _ _ h3) (qg 2 rfl ?_)
 refine zt 13 rfl hr (fun _ hr => ?_) (fun _ hr => ?_)
 refine qg 1 rfl ?_
 obtain ⟨r5, h5, hr⟩ := zb hr
 refine qem rfl qdM (qdQ _ _ h5) ?_
 exact fin hr
 exact fin hr
 exact fin hr
def qbX (k : List T → List T → Option ((List (Int × T)) × Int)) : List (Int × T) → List T → List T → Option ((List (Int × T)) × Int)
 | [], l4, m5 =>
 (k l4 m5)
 | q_12 :: rest, l4, m5 =>
 ((zz 56 l4 [(T.mk 1 q_12.1 ⟨#[]⟩ [])]).bind fun l13 =>
 ((zz 56 m5 [q_12.2]).bind fun l15 =>
 (qbX k rest l13 l15)))
def qeD (fuel : Nat) (a0 : List (Int × T)) (a1 : T) (a2 : T) : Option ((List (Int × T)) × Int) :=
 (qbX (fun l8 m10 =>
 ((qaz fuel l8 m10).bind fun r11 =>
 some (r11.1, r11.2))) a0 [a1] [a2])
theorem qlo (fuel : Nat) (a0 : List (Int × T)) (a1 : T) (a2 : T) (a : (List (Int × T)) × Int) (hr : qeD fuel a0 a1 a2 = some a) : zg Tryz.prog 162 [.lst (a0.map zq), zl a1, zl a2] (.tup [.lst (a.1.map zq), .int .i64 a.2]) := by
 unfold qeD at hr
 refine qC Tryz.func162 rfl fun K l m => ?_
 refine st ?_
 refine rd rfl (qcA rfl rfl rfl) (rd rfl (qcA rfl rfl rfl) ?_)
 refine st ?_
 refine qBH ob ob [(0, .d), (2, .d)] [(1, .x), (4, .d), (3, .w), (5, .d)] [(3, .x), (1, .w), (4, .d), (5, .d)] ob (fun env σ => ∃ (u14_r1_0 : Value) (u12_r1_0 : Value), Sub [(0, .lst (a0.map zq)), (8, .own u12_r1_0 ([a1].map zl)), (9, .own u14_r1_0 ([a2].map zl))] env ∧ σ.Perm [.row u14_r1_0 [a2].length 78 4, .row u12_r1_0 [a1].length 78 4]) ?_ ?_
 refine qg 2 rfl ?_
 refine qax ⟨?_, ?_⟩
 refine r_x rfl rfl rfl (qoJ (f := zl) [.tmp 11] [a1] rfl qba rfl rfl od od (.oc rfl .nil) qcR (fun _ => rfl)) ?_
 rintro _ _ ⟨u12_r1_0, rfl, rfl⟩
 refine qg 1 rfl (ew rfl (qoJ (f := zl) [.tmp 13] [a2] rfl qba rfl rfl od od (.oc rfl .nil) qcR (fun _ => rfl)) ?_)
 rintro _ _ ⟨u14_r1_0, rfl, rfl⟩
 refine qg 1 rfl (qax ?_)
 exact ⟨u14_r1_0, u12_r1_0, (sbr rfl), (pf0 _)⟩
 refine r_x rfl rfl rfl (qoJ (f := zl) [.tmp 13] [a2] rfl qba rfl rfl od od (.oc rfl .nil) qcR (fun _ => rfl)) ?_
 rintro _ _ ⟨u14_r1_0, rfl, rfl⟩
 refine ew rfl (qoJ (f := zl) [.tmp 11] [a1] rfl qba rfl rfl od od (.oc rfl .nil) qcR (fun _ => rfl)) ?_
 rintro _ _ ⟨u12_r1_0, rfl, rfl⟩
 refine qg 2 rfl (qax ?_)
 exact ⟨u14_r1_0, u12_r1_0, (sbr rfl), (pS [0, 1] _)⟩
 rintro _ _ ⟨u14_r1_0, u12_r1_0, hs, hp⟩
 refine qn6 hs hp ?_
 refine st ?_
 obtain ⟨c, e, hr⟩ := exK (fun k => qbX k a0 [a1] [a2]) hr
 refine qc5 0 rfl (asl rfl) fun g => ?_
 simp only [jd] at g
 refine qz (fun env σ => ∃ (l8 : List T) (m10 : List T) (u7 : Value) (u9 : Value), env = [(8, .own u7 (l8.map zl)), (9, .own u9 (m10.map zl))] ∧ σ = [.row u7 l8.length 78 4, .row u9 m10.length 78 4] ∧ c l8 m10 = some a) ?_ (fun o => ?_)
 rintro _ _ ⟨l8, m10, u7, u9, rfl, rfl, hr⟩
 rw [e] at hr
 refine st ?_
 obtain ⟨r11, h11, hr⟩ := zb hr
 refine rd rfl (qiv rfl qio (.cons rfl (Wk.own _ _) (.cons rfl (Wk.own _ _) .nil)) (qik fuel _ _ _ h11)) ?_
 exact fin hr
 refine qbc [0, 8, 9, 10] rfl (qcz [_, _] _ (pS [0, 1] _) (qal (fun n env σ => ∃ (l4 : List T) (m5 : List T) (i6 : Nat) (u2 : Value) (u3 : Value), n = a0.length - i6 ∧ (env = [(0, .lst (a0.map zq)), (8, .own u2 (l4.map zl)), (9, .own u3 (m5.map zl)), (10, .int .i64 (i6 : Int))]) ∧ (σ = [.row u2 l4.length 78 4, .row u3 m5.length 78 4]) ∧ (i6 ≤ a0.length) ∧ (qbX c (a0.drop i6) l4 m5 = some a)) _ ⟨[a1], [a2], 0, u12_r1_0, u14_r1_0, rfl, rfl, rfl, jf _, hr⟩ ?_))
 rintro n _ _ ⟨l4, m5, i6, u2, u3, rfl, rfl, rfl, h, hr⟩ i
 rcases zd a0 i6 h with ⟨j, b, p⟩ | ⟨q_12, j, b, q, r⟩
 rw [b, qbX] at hr
 exact fin hr
 rw [b, qbX] at hr
 refine st ?_
 refine qD (qaC (zf 10 65536 ?_))
 refine st ?_
 refine rd rfl (qbz rfl qgd (.oc rfl (.oc rfl .nil)) (.cons rfl rfl rfl (.cons rfl rfl rfl (.nil _)))) (rd rfl (qe2 (f := zl) [.tmp 27] [(T.mk 1 q_12.1 ⟨#[]⟩ [])] rfl qba rfl rfl od od (.cons rfl (Wk.ofEq (by show _ = D.agg (fsT _); rw [qeS] <;> rfl)) .nil) qcR (fun _ => rfl)) ?_)
 obtain ⟨l13, h13, hr⟩ := zb hr
 refine ew rfl (qau (f := zl) l4 [(T.mk 1 q_12.1 ⟨#[]⟩ [])] rfl qba rfl rfl (asl rfl) (pf0 _) rfl qcR h13) ?_
 rintro _ _ ⟨u29_13, rfl, rfl⟩
 refine st0 ?_
 refine zf 9 16384 ?_
 refine st ?_
 refine rd rfl (qe2 (f := zl) [.tmp 35] [q_12.2] rfl qba rfl rfl od od (.oc rfl .nil) qcR (fun _ => rfl)) ?_
 obtain ⟨l15, h15, hr⟩ := zb hr
 refine ew rfl (qau (f := zl) m5 [q_12.2] rfl qba rfl rfl (asl rfl) (pf1 _ _ _) rfl qcR h15) ?_
 rintro _ _ ⟨u37_15, rfl, rfl⟩
 refine qg 1 rfl (qax (qfa (zf 3 0 (qg 1 rfl (qqp rfl (qg 1 rfl (qax (qbc [0, 8, 9, 10] rfl (qcz [_, _] _ (pS [0, 1] _) ?_)))))))))
 exact i _ _ _ oa ⟨l13, l15, (i6 + 1), u29_13, u37_15, rfl, rfl, rfl, oa, hr⟩
def qbo (k : List Int → Option (List Int)) (a0 : List (Int × T)) : List (Int × T) → List Int → Option (List Int)
 | [], o4 =>
 (k o4)
 | q_8 :: rest, o4 =>
 ((qcY a0 q_8.1).bind fun r9 =>
 (bif (!r9.2) then
 ((zz 8 o4 [q_8.1]).bind fun l12 =>
 (qbo k a0 rest l12))
 else
 (qbo k a0 rest o4)))
def qc9 (a0 : List (Int × T)) (a1 : List (Int × T)) : Option (List Int) :=
 (qbo (fun o7 =>
 some (o7)) a0 a1 [])
theorem qk3 (a0 : List (Int × T)) (a1 : List (Int × T)) (a : List Int) (hr : qc9 a0 a1 = some a) : zg Tryz.prog 163 [.lst (a0.map zq), .lst (a1.map zq)] (.lst (a.map (D.int .i64))) := by
 unfold qc9 at hr
 refine qC Tryz.func163 rfl fun K i j => (qaC (zf 1 1 (ew rfl (qL 3 1 (.inl rfl)) ?_)))
 rintro _ _ ⟨u4_0, rfl, rfl⟩
 refine st0 ?_
 refine zf 1 1 (ew rfl (qL 3 1 (.inl rfl)) ?_)
 rintro _ _ ⟨u5_1, rfl, rfl⟩
 refine st ?_
 obtain ⟨c, d, hr⟩ := exK (fun k => qbo k a0 a1 []) hr
 refine qc5 1 rfl (asl rfl) fun e => ?_
 simp only [jd] at e
 refine qz (fun env σ => ∃ (o7 : List Int) (u6 : Value), env = [(5, .own u6 (o7.map (D.int .i64)))] ∧ σ = [.row u6 o7.length 3 1] ∧ c o7 = some a) ?_ (fun l => ?_)
 rintro _ _ ⟨o7, u6, rfl, rfl, hr⟩
 rw [d] at hr
 refine st ?_
 cases hr
 refine qbg Tryz.func163 _ (.cons (za rfl (Wk.own _ _)) .nil) ?_
 rfl
 refine qbc [0, 1, 5, 6] rfl (qcz [_] _ (pf0 _) (qal (fun n env σ => ∃ (o4 : List Int) (i5 : Nat) (u3 : Value), n = a1.length - i5 ∧ (env = [(0, .lst (a0.map zq)), (1, .lst (a1.map zq)), (5, .own u3 (o4.map (D.int .i64))), (6, .int .i64 (i5 : Int))]) ∧ (σ = [.row u3 o4.length 3 1]) ∧ (i5 ≤ a1.length) ∧ (qbo c a0 (a1.drop i5) o4 = some a)) _ ⟨[], 0, u5_1, rfl, rfl, rfl, jf _, hr⟩ ?_))
 rintro n _ _ ⟨o4, i5, u3, rfl, rfl, rfl, g, hr⟩ m
 rcases zd a1 i5 g with ⟨h, b, o⟩ | ⟨q_8, h, b, p, q⟩
 rw [b, qbo] at hr
 exact fin hr
 rw [b, qbo] at hr
 refine st ?_
 refine qD (qaC (zf 13 5242880 ?_))
 refine st ?_
 refine zk hr rfl qeX (qeU _ _) (fun r9 h9 hr => ?_)
 refine qg 3 rfl (ew rfl (qbi rfl qeH) ?_)
 rintro _ _ ⟨b7_9, rfl, rfl⟩
 refine qcw rfl (pf0 _) (qg 1 rfl (qax (qbR 7 b7_9 rfl (pf0 _) ?_)))
 refine st ?_
 refine zi 26 rfl hr (fun _ hr => ?_) (fun _ hr => ?_)
 refine qfh rfl (zf 9 16384 ?_)
 refine st ?_
 refine rd rfl (qe2 (f := (D.int .i64)) [.tmp 32] [q_8.1] rfl qcO rfl rfl od od (.oc rfl .nil) (fun _ => rfl) (fun _ => rfl)) ?_
 obtain ⟨l12, h12, hr⟩ := zb hr
 refine ew rfl (qau (f := (D.int .i64)) o4 [q_8.1] rfl qcO rfl rfl (asl rfl) (pf0 _) rfl (fun _ => rfl) h12) ?_
 rintro _ _ ⟨u34_12, rfl, rfl⟩
 exact fin hr
 exact fin hr
def qb8 (fuel : Nat) (a0 : List (Int × T)) (a1 : T) (a2 : T) : Option ((List (Int × T)) × (List Int) × Int) :=
 ((qdS fuel a0 a1 a2).bind fun r1 =>
 (bif (!r1) then
 some ([], [], 2)
 else
 ((qeD fuel a0 a1 a2).bind fun r3 =>
 (bif (r3.2 != (0 : Int)) then
 some ([], [], r3.2)
 else
 ((qc9 a0 r3.1).bind fun r5 =>
 some (r3.1, r5, 0))))))
theorem qh4 (fuel : Nat) (a0 : List (Int × T)) (a1 : T) (a2 : T) (a : (List (Int × T)) × (List Int) × Int) (hr : qb8 fuel a0 a1 a2 = some a) : zg Tryz.prog 139 [.lst (a0.map zq), zl a1, zl a2] (.tup [.lst (a.1.map zq), .lst (a.2.1.map (D.int .i64)), .int .i64 a.2.2]) := by
 unfold qb8 at hr
 refine qC Tryz.func139 rfl fun K b c => ?_
 refine st ?_
 refine rd rfl (qcA rfl rfl rfl) (rd rfl (qcA rfl rfl rfl) ?_)
 refine st ?_
 refine zk hr rfl qhJ (qhH fuel _ _ _) (fun r1 h1 hr => ?_)
 refine st ?_
 refine zi 15 rfl hr (fun _ hr => ?_) (fun _ hr => ?_)
 refine st ?_
 cases hr
 refine qbg Tryz.func139 _ (.cons (za rfl (Wk.full _)) (.cons (za rfl (Wk.full _)) (.cons (za rfl (Wk.refl _)) .nil))) ?_
 rfl
 refine st ?_
 refine zk hr rfl qlw (qlo fuel _ _ _) (fun r3 h3 hr => ?_)
 refine st ?_
 refine zi 24 rfl hr (fun _ hr => ?_) (fun _ hr => ?_)
 refine st ?_
 cases hr
 refine qbg Tryz.func139 _ (.cons (za rfl (Wk.full _)) (.cons (za rfl (Wk.full _)) (.cons (za rfl (Wk.refl _)) .nil))) ?_
 rfl
 refine st ?_
 refine zk hr rfl qkX (qk3 _ _) (fun r5 h5 hr => ?_)
 exact fin hr
def qcT (fuel : Nat) (a0 : List (Int × T)) (a1 : T) (a2 : T) : Option ((List (Int × T)) × (List Int) × Int) :=
 ((qdS fuel a0 a1 a2).bind fun r1 =>
 (bif (!r1) then
 some ([], [], 2)
 else
 ((qfX fuel a0 a2).bind fun r3 =>
 ((qcQ fuel r3).bind fun r4 =>
 (bif (r4.2 != (0 : Int)) then
 some ([], [], r4.2)
 else
 ((qb8 fuel a0 a1 (T.mk 0 r4.1 ⟨#[]⟩ [])).bind fun r6 =>
 some (r6.1, r6.2.1, r6.2.2)))))))
end
end Go.Proofs.YtamoolpdganckaaGreat
