/-
 Texts of the seat, merged.
-/
import Derived.Test.YtamoolpdganckaaGreatLRE
set_option linter.unusedVariables false
set_option linter.unusedSimpArgs false
set_option linter.unnecessarySimpa false
set_option linter.all false
set_option maxHeartbeats 8000000
namespace Go.Proofs.YtamoolpdganckaaGreat
noncomputable section
set_option maxRecDepth 100000
open Go.RowKit
structure qB where
 fA : ByteArray
 fI : Int
def qD (x : qB) : D := .agg [.str x.fA, .int .i64 x.fI]
theorem qg5 (x : qB) : sz (qD x) = 2 := by
 simp only [qD, sz, szs]
structure qr where
 fA : ByteArray
 fi : (List At)
 ff : (List At)
 fy : (List Gl)
 fg : (List Gl)
 fN : Int
def ql (x : qr) : D := .agg [.str x.fA, .lst (x.fi.map zY), .lst (x.ff.map zY), .lst (x.fy.map zE), .lst (x.fg.map zE), .int .i64 x.fN]
theorem qiG (x : qr) : sz (ql x) = 6 := by
 simp only [ql, sz, szs]
structure qc where
 fx : (List qB)
 fd : (List qr)
def qi (x : qc) : D := .agg [.lst (x.fx.map qD), .lst (x.fd.map ql)]
theorem qjH (x : qc) : sz (qi x) = 2 := by
 simp only [qi, sz, szs]
structure qm where
 fC : Int
 fq : (List Int)
def qf (x : qm) : D := .agg [.int .i64 x.fC, .lst (x.fq.map (D.int .i64))]
theorem qfb (x : qm) : sz (qf x) = 2 := by
 simp only [qf, sz, szs]
structure qkc where
 fO : (List Gl)
 fo : (List (Int × At))
 ft : (List (Int × T))
 fD : (List qm)
 fP : (List Gl)
 fQ : Int
 fR : Int
 fS : Bool
def qU (k : Option Bool) (a2 : Int) (a1 : ByteArray) : List qB → Option Bool
 | [] =>
 k
 | q_2 :: rest =>
 (bif (q_2.fA.toList == a1.toList) then
 (bif (q_2.fI == a2) then
 some (true)
 else
 (qU k a2 a1 rest))
 else
 (qU k a2 a1 rest))
def qcn (a0 : List qB) (a1 : ByteArray) (a2 : Int) : Option Bool :=
 (qU (some (false)) a2 a1 a0)
theorem qfa (a0 : List qB) (a1 : ByteArray) (a2 : Int) (a : Bool) (hr : qcn a0 a1 a2 = some a) : zf Tryz.prog 18 [.lst (a0.map qD), .str a1, .int .i64 a2] (.bool a) := by
 unfold qcn at hr
 refine qx Tryz.func18 rfl fun K i j => ?_
 refine st ?_
 obtain ⟨c, d, hr⟩ := exK (fun k => qU k a2 a1 a0) hr
 refine qct 0 rfl (asl rfl) fun e => ?_
 simp only [jb] at e
 refine qq (fun env σ => env = [] ∧ σ = [] ∧ c = some a) ?_ (fun l => ?_)
 rintro _ _ ⟨rfl, rfl, hr⟩
 rw [d] at hr
 exact fin hr
 refine qab [0, 1, 2, 7] rfl (qR (fun n env σ => ∃ (i1 : Nat), n = a0.length - i1 ∧ (env = [(0, .lst (a0.map qD)), (1, .str a1), (2, .int .i64 a2), (7, .int .i64 (i1 : Int))]) ∧ (σ = []) ∧ (i1 ≤ a0.length) ∧ (qU c a2 a1 (a0.drop i1) = some a)) _ ⟨0, rfl, rfl, rfl, jc _, hr⟩ ?_)
 rintro n _ _ ⟨i1, rfl, rfl, rfl, g, hr⟩ m
 rcases zb a0 i1 g with ⟨h, b, o⟩ | ⟨q_2, h, b, p, q⟩
 rw [b, qU] at hr
 exact fin hr
 rw [b, qU] at hr
 refine st ?_
 refine qy ?_
 refine st ?_
 refine rd rfl (qgP rfl rfl rfl rfl) (qd 1 rfl ?_)
 refine zo 21 rfl hr (fun _ hr => ?_) (fun _ hr => ?_)
 refine st ?_
 refine zh 29 rfl hr (fun _ hr => ?_) (fun _ hr => ?_)
 exact fin hr
 exact fin hr
 exact fin hr
def qcK (a0 : qr) : Option (List At) :=
 ((zF 40 [] a0.fi).bind fun l3 =>
 ((zF 40 l3 a0.ff).bind fun l5 =>
 some (l5)))
theorem qfE (a0 : qr) (res : List At) (hr : qcK a0 = some res) : zf Tryz.prog 54 [ql a0] (.lst (res.map zY)) := by
 unfold qcK at hr
 refine qx Tryz.func54 rfl fun K hK hF => (qai (ze 2 4 (rd rfl (qcG rfl rfl rfl) (ew rfl (qN 48 2 (.inl rfl)) ?_))))
 rintro _ _ ⟨u2_0, rfl, rfl⟩
 refine st ?_
 refine ga [(1, .d), (2, .d), (4, .d), (5, .d), (0, .w), (3, .w), (6, .w), (7, .d)] (qd 4 rfl (ew rfl (qol rfl qeG rfl) ?_))
 rintro _ _ ⟨u3_1, rfl, rfl⟩
 obtain ⟨l3, h3, hr⟩ := zd hr
 refine ew rfl (qah (f := zY) [] a0.fi rfl qeG rfl rfl (asl rfl) (pf0 _) rfl qeW h3) ?_
 rintro _ _ ⟨u6_3, rfl, rfl⟩
 obtain ⟨l5, h5, hr⟩ := zd hr
 refine ew rfl (qah (f := zY) l3 a0.ff rfl qeG rfl rfl (asl rfl) (pf0 _) rfl qeW h5) ?_
 rintro _ _ ⟨u9_5, rfl, rfl⟩
 refine st ?_
 cases hr
 refine qaw Tryz.func54 _ (.cons (za rfl (Wk.own _ _)) .nil) ?_
 rfl
def qdk (a0 : qr) : Option (List Gl) :=
 ((zF 48 [] a0.fy).bind fun l3 =>
 ((zF 48 l3 a0.fg).bind fun l5 =>
 some (l5)))
theorem qgC (a0 : qr) (res : List Gl) (hr : qdk a0 = some res) : zf Tryz.prog 55 [ql a0] (.lst (res.map zE)) := by
 unfold qdk at hr
 refine qx Tryz.func55 rfl fun K hK hF => (qai (ze 2 4 (rd rfl (qcG rfl rfl rfl) (ew rfl (qN 55 3 (.inl rfl)) ?_))))
 rintro _ _ ⟨u2_0, rfl, rfl⟩
 refine st ?_
 refine ga [(1, .d), (2, .d), (4, .d), (5, .d), (0, .w), (3, .w), (6, .w), (7, .d)] (qd 4 rfl (ew rfl (qol rfl qgW rfl) ?_))
 rintro _ _ ⟨u3_1, rfl, rfl⟩
 obtain ⟨l3, h3, hr⟩ := zd hr
 refine ew rfl (qah (f := zE) [] a0.fy rfl qgW rfl rfl (asl rfl) (pf0 _) rfl qcW h3) ?_
 rintro _ _ ⟨u6_3, rfl, rfl⟩
 obtain ⟨l5, h5, hr⟩ := zd hr
 refine ew rfl (qah (f := zE) l3 a0.fg rfl qgW rfl rfl (asl rfl) (pf0 _) rfl qcW h5) ?_
 rintro _ _ ⟨u9_5, rfl, rfl⟩
 refine st ?_
 cases hr
 refine qaw Tryz.func55 _ (.cons (za rfl (Wk.own _ _)) .nil) ?_
 rfl
def qb0 (k : List T → Option (List Int)) : List Gl → List T → Option (List Int)
 | [], l10 =>
 (k l10)
 | q_15 :: rest, l10 =>
 ((zF 56 l10 q_15.ts).bind fun l16 =>
 (qb0 k rest l16))
def qb5 (k : List T → Option (List Int)) : List At → List T → Option (List Int)
 | [], l4 =>
 (k l4)
 | q_18 :: rest, l4 =>
 ((zF 56 l4 q_18.ts).bind fun l19 =>
 (qb5 k rest l19))
def qe3 (fuel : Nat) (a0 : qr) : Option (List Int) :=
 ((qcK a0).bind fun r2 =>
 (qb5 (fun l7 =>
 ((qdk a0).bind fun r8 =>
 (qb0 (fun l13 =>
 ((qbD fuel l13).bind fun r14 =>
 some (r14))) r8 l7))) r2 []))
theorem qmG (fuel : Nat) (a0 : qr) (a : List Int) (hr : qe3 fuel a0 = some a) : zf Tryz.prog 56 [ql a0] (.lst (a.map (D.int .i64))) := by
 unfold qe3 at hr
 refine qx Tryz.func56 rfl fun K q r => ?_
 refine st ?_
 refine rd rfl (qcG rfl rfl rfl) ?_
 refine st0 ?_
 refine ze 1 1 (ew rfl (qN 78 4 (.inl rfl)) ?_)
 rintro _ _ ⟨u3_0, rfl, rfl⟩
 refine st ?_
 refine zj hr rfl qfG (qfE _) (fun r2 h2 hr => ?_)
 refine st ?_
 obtain ⟨d, g, hr⟩ := exK (fun k => qb5 k r2 []) hr
 refine qct 9 rfl (asl rfl) fun h => ?_
 simp only [jb] at h
 refine qq (fun env σ => ∃ (l7 : List T) (u6 : Value), env = [(1, .ptr (ql a0)), (3, .own u6 (l7.map zl))] ∧ σ = [.row u6 l7.length 78 4] ∧ d l7 = some a) ?_ (fun s => ?_)
 rintro _ _ ⟨l7, u6, rfl, rfl, hr⟩
 rw [g] at hr
 refine st ?_
 refine zj hr rfl qgz (qgC _) (fun r8 h8 hr => ?_)
 refine st ?_
 obtain ⟨e, i, hr⟩ := exK (fun k => qb0 k r8 l7) hr
 refine qct 24 rfl (asl rfl) fun j => ?_
 simp only [jb] at j
 refine qq (fun env σ => ∃ (l13 : List T) (u12 : Value), env = [(3, .own u12 (l13.map zl))] ∧ σ = [.row u12 l13.length 78 4] ∧ e l13 = some a) ?_ (fun t => ?_)
 rintro _ _ ⟨l13, u12, rfl, rfl, hr⟩
 rw [i] at hr
 refine st ?_
 obtain ⟨r14, h14, hr⟩ := zd hr
 refine rd rfl (qhg rfl qfp (.cons rfl (Wk.own _ _) .nil) (qfs fuel _ _ h14)) ?_
 exact fin hr
 refine qab [6, 3, 7] rfl (qR (fun n env σ => ∃ (l10 : List T) (i11 : Nat) (u9 : Value), n = r8.length - i11 ∧ (env = [(6, .lst (r8.map zE)), (3, .own u9 (l10.map zl)), (7, .int .i64 (i11 : Int))]) ∧ (σ = [.row u9 l10.length 78 4]) ∧ (i11 ≤ r8.length) ∧ (qb0 e (r8.drop i11) l10 = some a)) _ ⟨l7, 0, u6, rfl, rfl, rfl, jc _, hr⟩ ?_)
 rintro n _ _ ⟨l10, i11, u9, rfl, rfl, rfl, l, hr⟩ u
 rcases zb r8 i11 l with ⟨m, b, v⟩ | ⟨q_15, m, b, w, x⟩
 rw [b, qb0] at hr
 exact fin hr
 rw [b, qb0] at hr
 refine st ?_
 refine qy (ze 8 4096 ?_)
 refine st ?_
 obtain ⟨l16, h16, hr⟩ := zd hr
 refine ew rfl (qah (f := zl) l10 q_15.ts rfl qbg rfl rfl (asl rfl) (pf0 _) rfl qc2 h16) ?_
 rintro _ _ ⟨u37_16, rfl, rfl⟩
 exact fin hr
 refine qab [1, 4, 3, 5] rfl (qR (fun n env σ => ∃ (l4 : List T) (i5 : Nat) (u3 : Value), n = r2.length - i5 ∧ (env = [(1, .ptr (ql a0)), (4, .lst (r2.map zY)), (3, .own u3 (l4.map zl)), (5, .int .i64 (i5 : Int))]) ∧ (σ = [.row u3 l4.length 78 4]) ∧ (i5 ≤ r2.length) ∧ (qb5 d (r2.drop i5) l4 = some a)) _ ⟨[], 0, u3_0, rfl, rfl, rfl, jc _, hr⟩ ?_)
 rintro n _ _ ⟨l4, i5, u3, rfl, rfl, rfl, o, hr⟩ y
 rcases zb r2 i5 o with ⟨p, c, z⟩ | ⟨q_18, p, c, A, B⟩
 rw [c, qb5] at hr
 exact fin hr
 rw [c, qb5] at hr
 refine st ?_
 refine qy (ze 8 4096 ?_)
 refine st ?_
 obtain ⟨l19, h19, hr⟩ := zd hr
 refine ew rfl (qah (f := zl) l4 q_18.ts rfl qbg rfl rfl (asl rfl) (pf0 _) rfl qc2 h19) ?_
 rintro _ _ ⟨u22_19, rfl, rfl⟩
 exact fin hr
def qZ (k : Int → Option Int) (a1 : ByteArray) : List qB → Int → Option Int
 | [], e1 =>
 (k e1)
 | q_6 :: rest, e1 =>
 (bif (q_6.fA.toList == a1.toList) then
 (qZ k a1 rest 9)
 else
 (qZ k a1 rest e1))
def qdu (a0 : List qB) (a1 : ByteArray) (a2 : Int) : Option Int :=
 (qZ (fun e3 =>
 ((qcn a0 a1 a2).bind fun r4 =>
 (bif r4 then
 some (0)
 else
 some (e3)))) a1 a0 7)
theorem qhM (a0 : List qB) (a1 : ByteArray) (a2 : Int) (a : Int) (hr : qdu a0 a1 a2 = some a) : zf Tryz.prog 61 [.lst (a0.map qD), .str a1, .int .i64 a2] (.int .i64 a) := by
 unfold qdu at hr
 refine qx Tryz.func61 rfl fun K i j => ?_
 refine st ?_
 obtain ⟨c, d, hr⟩ := exK (fun k => qZ k a1 a0 7) hr
 refine qct 0 rfl (asl rfl) fun e => ?_
 simp only [jb] at e
 refine qq (fun env σ => ∃ (e3 : Int), env = [(0, .lst (a0.map qD)), (1, .str a1), (2, .int .i64 a2), (7, .int .i64 e3)] ∧ σ = [] ∧ c e3 = some a) ?_ (fun l => ?_)
 rintro _ _ ⟨e3, rfl, rfl, hr⟩
 rw [d] at hr
 refine st ?_
 refine zj hr rfl qeY (qfa _ _ _) (fun r4 h4 hr => ?_)
 refine qac ?_
 refine zh 25 rfl hr (fun _ hr => ?_) (fun _ hr => ?_)
 exact fin hr
 exact fin hr
 refine qab [0, 1, 2, 7, 8] rfl (qR (fun n env σ => ∃ (e1 : Int) (i2 : Nat), n = a0.length - i2 ∧ (env = [(0, .lst (a0.map qD)), (1, .str a1), (2, .int .i64 a2), (7, .int .i64 e1), (8, .int .i64 (i2 : Int))]) ∧ (σ = []) ∧ (i2 ≤ a0.length) ∧ (qZ c a1 (a0.drop i2) e1 = some a)) _ ⟨7, 0, rfl, rfl, rfl, jc _, hr⟩ ?_)
 rintro n _ _ ⟨e1, i2, rfl, rfl, rfl, g, hr⟩ m
 rcases zb a0 i2 g with ⟨h, b, o⟩ | ⟨q_6, h, b, p, q⟩
 rw [b, qZ] at hr
 exact fin hr
 rw [b, qZ] at hr
 refine st ?_
 refine qy ?_
 refine st ?_
 refine rd rfl (qgP rfl rfl rfl rfl) (qac ?_)
 refine zh 21 rfl hr (fun _ hr => ?_) (fun _ hr => ?_)
 exact fin hr
 exact fin hr
def qag (k : Option Int) (a0 : List qB) : List Gl → Option Int
 | [] =>
 k
 | q_2 :: rest =>
 (bif (q_2.op != (0 : Int)) then
 (qag k a0 rest)
 else
 ((qdu a0 q_2.n (q_2.ts.length : Int)).bind fun r4 =>
 (bif (r4 != (0 : Int)) then
 some (r4)
 else
 (qag k a0 rest))))
def qfF (a0 : List qB) (a1 : List Gl) : Option Int :=
 (qag (some (0)) a0 a1)
theorem qiw (a0 : List qB) (a1 : List Gl) (a : Int) (hr : qfF a0 a1 = some a) : zf Tryz.prog 23 [.lst (a0.map qD), .lst (a1.map zE)] (.int .i64 a) := by
 unfold qfF at hr
 refine qx Tryz.func23 rfl fun K i j => ?_
 refine st ?_
 obtain ⟨c, d, hr⟩ := exK (fun k => qag k a0 a1) hr
 refine qct 1 rfl (asl rfl) fun e => ?_
 simp only [jb] at e
 refine qq (fun env σ => env = [] ∧ σ = [] ∧ c = some a) ?_ (fun l => ?_)
 rintro _ _ ⟨rfl, rfl, hr⟩
 rw [d] at hr
 exact fin hr
 refine qab [0, 1, 5] rfl (qR (fun n env σ => ∃ (i1 : Nat), n = a1.length - i1 ∧ (env = [(0, .lst (a0.map qD)), (1, .lst (a1.map zE)), (5, .int .i64 (i1 : Int))]) ∧ (σ = []) ∧ (i1 ≤ a1.length) ∧ (qag c a0 (a1.drop i1) = some a)) _ ⟨0, rfl, rfl, rfl, jc _, hr⟩ ?_)
 rintro n _ _ ⟨i1, rfl, rfl, rfl, g, hr⟩ m
 rcases zb a1 i1 g with ⟨h, b, o⟩ | ⟨q_2, h, b, p, q⟩
 rw [b, qag] at hr
 exact fin hr
 rw [b, qag] at hr
 refine st ?_
 refine qy ?_
 refine st ?_
 refine zh 18 rfl hr (fun _ hr => ?_) (fun _ hr => ?_)
 exact fin hr
 refine st ?_
 refine qdH 14 0 ?_
 refine st ?_
 refine zj hr rfl qhO (qhM _ _ _) (fun r4 h4 hr => ?_)
 refine st ?_
 refine zh 33 rfl hr (fun _ hr => ?_) (fun _ hr => ?_)
 exact fin hr
 exact fin hr
def qcB (a0 : Int) : Option Bool :=
 (bif (decide (a0 ≥ (5 : Int))) then
 some ((decide (a0 ≤ (12 : Int))))
 else
 some (false))
theorem qg6 (a0 : Int) (a : Bool) (hr : qcB a0 = some a) : zf Tryz.prog 24 [.int .i64 a0] (.bool a) := by
 unfold qcB at hr
 refine qx Tryz.func24 rfl fun K b c => ?_
 refine st ?_
 refine zo 5 rfl hr (fun _ hr => ?_) (fun _ hr => ?_)
 exact fin hr
 exact fin hr
def qa1 (k : List T → Option (List Int)) : List At → List T → Option (List Int)
 | [], l4 =>
 (k l4)
 | q_9 :: rest, l4 =>
 ((zF 56 l4 q_9.ts).bind fun l10 =>
 (qa1 k rest l10))
def qea (fuel : Nat) (a0 : qr) : Option (List Int) :=
 ((qcK a0).bind fun r2 =>
 (qa1 (fun l7 =>
 ((qbD fuel l7).bind fun r8 =>
 some (r8))) r2 []))
theorem qkv (fuel : Nat) (a0 : qr) (a : List Int) (hr : qea fuel a0 = some a) : zf Tryz.prog 92 [ql a0] (.lst (a.map (D.int .i64))) := by
 unfold qea at hr
 refine qx Tryz.func92 rfl fun K i j => ?_
 refine st ?_
 refine rd rfl (qcG rfl rfl rfl) ?_
 refine st0 ?_
 refine ze 1 1 (ew rfl (qN 78 4 (.inl rfl)) ?_)
 rintro _ _ ⟨u3_0, rfl, rfl⟩
 refine st ?_
 refine zj hr rfl qfG (qfE _) (fun r2 h2 hr => ?_)
 refine st ?_
 obtain ⟨c, d, hr⟩ := exK (fun k => qa1 k r2 []) hr
 refine qct 7 rfl (asl rfl) fun e => ?_
 simp only [jb] at e
 refine qq (fun env σ => ∃ (l7 : List T) (u6 : Value), env = [(3, .own u6 (l7.map zl))] ∧ σ = [.row u6 l7.length 78 4] ∧ c l7 = some a) ?_ (fun l => ?_)
 rintro _ _ ⟨l7, u6, rfl, rfl, hr⟩
 rw [d] at hr
 refine st ?_
 obtain ⟨r8, h8, hr⟩ := zd hr
 refine rd rfl (qhg rfl qfp (.cons rfl (Wk.own _ _) .nil) (qfs fuel _ _ h8)) ?_
 exact fin hr
 refine qab [4, 3, 5] rfl (qR (fun n env σ => ∃ (l4 : List T) (i5 : Nat) (u3 : Value), n = r2.length - i5 ∧ (env = [(4, .lst (r2.map zY)), (3, .own u3 (l4.map zl)), (5, .int .i64 (i5 : Int))]) ∧ (σ = [.row u3 l4.length 78 4]) ∧ (i5 ≤ r2.length) ∧ (qa1 c (r2.drop i5) l4 = some a)) _ ⟨[], 0, u3_0, rfl, rfl, rfl, jc _, hr⟩ ?_)
 rintro n _ _ ⟨l4, i5, u3, rfl, rfl, rfl, g, hr⟩ m
 rcases zb r2 i5 g with ⟨h, b, o⟩ | ⟨q_9, h, b, p, q⟩
 rw [b, qa1] at hr
 exact fin hr
 rw [b, qa1] at hr
 refine st ?_
 refine qy (ze 8 4096 ?_)
 refine st ?_
 obtain ⟨l10, h10, hr⟩ := zd hr
 refine ew rfl (qah (f := zl) l4 q_9.ts rfl qbg rfl rfl (asl rfl) (pf0 _) rfl qc2 h10) ?_
 rintro _ _ ⟨u20_10, rfl, rfl⟩
 exact fin hr
def qcm (fuel : Nat) (a0 : Gl) : Option (List Int) :=
 ((qbD fuel a0.ts).bind fun r1 =>
 some (r1))
theorem qfV (fuel : Nat) (a0 : Gl) (a : List Int) (hr : qcm fuel a0 = some a) : zf Tryz.prog 25 [zE a0] (.lst (a.map (D.int .i64))) := by
 unfold qcm at hr
 refine qx Tryz.func25 rfl fun K b c => ?_
 refine st ?_
 refine rd rfl (qcG rfl rfl rfl) ?_
 refine st ?_
 refine zj hr rfl qfp (qfs fuel _) (fun r1 h1 hr => ?_)
 exact fin hr
def qcq (k : Option Bool) (a1 : Int) : List Int → Option Bool
 | [] =>
 k
 | q_2 :: rest =>
 (bif (q_2 == a1) then
 some (true)
 else
 (qcq k a1 rest))
def qhy (a0 : List Int) (a1 : Int) : Option Bool :=
 (qcq (some (false)) a1 a0)
theorem qnd (a0 : List Int) (a1 : Int) (a : Bool) (hr : qhy a0 a1 = some a) : zf Tryz.prog 93 [.lst (a0.map (D.int .i64)), .int .i64 a1] (.bool a) := by
 unfold qhy at hr
 refine qx Tryz.func93 rfl fun K i j => ?_
 refine st ?_
 obtain ⟨c, d, hr⟩ := exK (fun k => qcq k a1 a0) hr
 refine qct 0 rfl (asl rfl) fun e => ?_
 simp only [jb] at e
 refine qq (fun env σ => env = [] ∧ σ = [] ∧ c = some a) ?_ (fun l => ?_)
 rintro _ _ ⟨rfl, rfl, hr⟩
 rw [d] at hr
 exact fin hr
 refine qab [0, 1, 5] rfl (qR (fun n env σ => ∃ (i1 : Nat), n = a0.length - i1 ∧ (env = [(0, .lst (a0.map (D.int .i64))), (1, .int .i64 a1), (5, .int .i64 (i1 : Int))]) ∧ (σ = []) ∧ (i1 ≤ a0.length) ∧ (qcq c a1 (a0.drop i1) = some a)) _ ⟨0, rfl, rfl, rfl, jc _, hr⟩ ?_)
 rintro n _ _ ⟨i1, rfl, rfl, rfl, g, hr⟩ m
 rcases zb a0 i1 g with ⟨h, b, o⟩ | ⟨q_2, h, b, p, q⟩
 rw [b, qcq] at hr
 exact fin hr
 rw [b, qcq] at hr
 refine st ?_
 refine qy ?_
 refine st ?_
 refine zh 17 rfl hr (fun _ hr => ?_) (fun _ hr => ?_)
 exact fin hr
 exact fin hr
def qbi (k : Option Int) (r8 : List Int) : List Int → Option Int
 | [] =>
 k
 | q_13 :: rest =>
 ((qhy r8 q_13).bind fun r14 =>
 (bif (!r14) then
 some (17)
 else
 (qbi k r8 rest)))
def qbl (k : Option Int) (fuel : Nat) (r8 : List Int) : List Gl → Option Int
 | [] =>
 k
 | q_10 :: rest =>
 ((qcm fuel q_10).bind fun r11 =>
 (qbi ((qbl k fuel r8 rest)) r8 r11))
def qbf (k : Option Int) : List Gl → Option Int
 | [] =>
 k
 | q_16 :: rest =>
 ((qcB q_16.op).bind fun r17 =>
 (bif r17 then
 some (10)
 else
 (qbf k rest)))
def qaP (k : Option Int) : List Gl → Option Int
 | [] =>
 k
 | q_19 :: rest =>
 ((qcB q_19.op).bind fun r20 =>
 (bif (!r20) then
 (bif (q_19.op != (1 : Int)) then
 some (10)
 else
 (qaP k rest))
 else
 (qaP k rest)))
def qbe (k : Option Int) (a0 : List qB) : List At → Option Int
 | [] =>
 k
 | q_23 :: rest =>
 ((qdu a0 q_23.n (q_23.ts.length : Int)).bind fun r24 =>
 (bif (r24 != (0 : Int)) then
 some (r24)
 else
 (qbe k a0 rest)))
def qdr (fuel : Nat) (a0 : List qB) (a1 : qr) : Option Int :=
 ((qcK a1).bind fun r1 =>
 (qbe (((qdk a1).bind fun r3 =>
 ((qfF a0 r3).bind fun r4 =>
 (bif (r4 != (0 : Int)) then
 some (r4)
 else
 (qaP ((qbf (((qea fuel a1).bind fun r8 =>
 (qbl (some (0)) fuel r8 a1.fy))) a1.fg)) a1.fy))))) a0 r1))
theorem qhQ (fuel : Nat) (a0 : List qB) (a1 : qr) (a : Int) (hr : qdr fuel a0 a1 = some a) : zf Tryz.prog 57 [.lst (a0.map qD), ql a1] (.int .i64 a) := by
 unfold qdr at hr
 refine qx Tryz.func57 rfl fun K L M => ?_
 refine st ?_
 refine rd rfl (qcG rfl rfl rfl) ?_
 refine st ?_
 refine zj hr rfl qfG (qfE _) (fun r1 h1 hr => ?_)
 refine st ?_
 obtain ⟨h, p, hr⟩ := exK (fun k => qbe k a0 r1) hr
 refine qct 16 rfl (asl rfl) fun q => ?_
 simp only [jb] at q
 refine qq (fun env σ => env = [(0, .lst (a0.map qD)), (3, .ptr (ql a1))] ∧ σ = [] ∧ h = some a) ?_ (fun N => ?_)
 rintro _ _ ⟨rfl, rfl, hr⟩
 rw [p] at hr
 refine st ?_
 refine zj hr rfl qgz (qgC _) (fun r3 h3 hr => ?_)
 refine zj hr rfl qip (qiw _ _) (fun r4 h4 hr => ?_)
 refine st ?_
 refine zh 44 rfl hr (fun _ hr => ?_) (fun _ hr => ?_)
 exact fin hr
 refine st ?_
 obtain ⟨i, r, hr⟩ := exK (fun k => qaP k a1.fy) hr
 refine qqZ 3 [3] (l := a1.fy.map zE) rfl rfl (asl rfl) fun s => ?_
 simp only [jb] at s
 refine qq (fun env σ => env = [(3, .ptr (ql a1))] ∧ σ = [] ∧ i = some a) ?_ (fun O => ?_)
 rintro _ _ ⟨rfl, rfl, hr⟩
 rw [r] at hr
 refine st ?_
 obtain ⟨j, t, hr⟩ := exK (fun k => qbf k a1.fg) hr
 refine qqZ 3 [4] (l := a1.fg.map zE) rfl rfl (asl rfl) fun u => ?_
 simp only [jb] at u
 refine qq (fun env σ => env = [(3, .ptr (ql a1))] ∧ σ = [] ∧ j = some a) ?_ (fun P => ?_)
 rintro _ _ ⟨rfl, rfl, hr⟩
 rw [t] at hr
 refine st ?_
 refine zj hr rfl qku (qkv fuel _) (fun r8 h8 hr => ?_)
 refine st ?_
 obtain ⟨m, v, hr⟩ := exK (fun k => qbl k fuel r8 a1.fy) hr
 refine qqZ 3 [3] (l := a1.fy.map zE) rfl rfl (asl rfl) fun w => ?_
 simp only [jb] at w
 refine qq (fun env σ => env = [] ∧ σ = [] ∧ m = some a) ?_ (fun Q => ?_)
 rintro _ _ ⟨rfl, rfl, hr⟩
 rw [v] at hr
 exact fin hr
 refine qab [3, 11, 12] rfl (qR (fun n env σ => ∃ (i9 : Nat), n = a1.fy.length - i9 ∧ (env = [(3, .ptr (ql a1)), (11, .lst (r8.map (D.int .i64))), (12, .int .i64 (i9 : Int))]) ∧ (σ = []) ∧ (i9 ≤ a1.fy.length) ∧ (qbl m fuel r8 (a1.fy.drop i9) = some a)) _ ⟨0, rfl, rfl, rfl, jc _, hr⟩ ?_)
 rintro n _ _ ⟨i9, rfl, rfl, rfl, x, hr⟩ R
 rcases zb a1.fy i9 x with ⟨y, b, S⟩ | ⟨q_10, y, b, T, U⟩
 rw [b, qbl] at hr
 exact fin hr
 rw [b, qbl] at hr
 refine st ?_
 refine qy ?_
 refine st ?_
 refine zj hr rfl qfX (qfV fuel _) (fun r11 h11 hr => ?_)
 refine st ?_
 obtain ⟨o, z, hr⟩ := exK (fun k => qbi k r8 r11) hr
 refine qct 98 rfl (asl rfl) fun A => ?_
 simp only [jb] at A
 refine qq (fun env σ => env = [(3, .ptr (ql a1)), (11, .lst (r8.map (D.int .i64))), (12, .int .i64 (i9 : Int))] ∧ σ = [] ∧ o = some a) ?_ (fun V => ?_)
 rintro _ _ ⟨rfl, rfl, hr⟩
 rw [z] at hr
 exact fin hr
 refine qab [3, 11, 12, 13, 14] rfl (qR (fun n env σ => ∃ (k12 : Nat), n = r11.length - k12 ∧ (env = [(3, .ptr (ql a1)), (11, .lst (r8.map (D.int .i64))), (12, .int .i64 (i9 : Int)), (13, .lst (r11.map (D.int .i64))), (14, .int .i64 (k12 : Int))]) ∧ (σ = []) ∧ (k12 ≤ r11.length) ∧ (qbi o r8 (r11.drop k12) = some a)) _ ⟨0, rfl, rfl, rfl, jc _, hr⟩ ?_)
 rintro n _ _ ⟨k12, rfl, rfl, rfl, B, hr⟩ W
 rcases zb r11 k12 B with ⟨C, c, X⟩ | ⟨q_13, C, c, Y, Z⟩
 rw [c, qbi] at hr
 exact fin hr
 rw [c, qbi] at hr
 refine st ?_
 refine qy ?_
 refine st ?_
 refine zj hr rfl qnp (qnd _ _) (fun r14 h14 hr => ?_)
 refine st ?_
 refine zh 111 rfl hr (fun _ hr => ?_) (fun _ hr => ?_)
 exact fin hr
 exact fin hr
 refine qab [3, 10] rfl (qR (fun n env σ => ∃ (i7 : Nat), n = a1.fg.length - i7 ∧ (env = [(3, .ptr (ql a1)), (10, .int .i64 (i7 : Int))]) ∧ (σ = []) ∧ (i7 ≤ a1.fg.length) ∧ (qbf j (a1.fg.drop i7) = some a)) _ ⟨0, rfl, rfl, rfl, jc _, hr⟩ ?_)
 rintro n _ _ ⟨i7, rfl, rfl, rfl, E, hr⟩ a9
 rcases zb a1.fg i7 E with ⟨F, d, b5⟩ | ⟨q_16, F, d, b6, b8⟩
 rw [d, qbf] at hr
 exact fin hr
 rw [d, qbf] at hr
 refine st ?_
 refine qy ?_
 refine st ?_
 refine zj hr rfl qgU (qg6 _) (fun r17 h17 hr => ?_)
 refine qac ?_
 refine zh 83 rfl hr (fun _ hr => ?_) (fun _ hr => ?_)
 exact fin hr
 exact fin hr
 refine qab [3, 9] rfl (qR (fun n env σ => ∃ (i6 : Nat), n = a1.fy.length - i6 ∧ (env = [(3, .ptr (ql a1)), (9, .int .i64 (i6 : Int))]) ∧ (σ = []) ∧ (i6 ≤ a1.fy.length) ∧ (qaP i (a1.fy.drop i6) = some a)) _ ⟨0, rfl, rfl, rfl, jc _, hr⟩ ?_)
 rintro n _ _ ⟨i6, rfl, rfl, rfl, G, hr⟩ b9
 rcases zb a1.fy i6 G with ⟨H, e, c4⟩ | ⟨q_19, H, e, c6, c8⟩
 rw [e, qaP] at hr
 exact fin hr
 rw [e, qaP] at hr
 refine st ?_
 refine qy ?_
 refine st ?_
 refine zj hr rfl qgU (qg6 _) (fun r20 h20 hr => ?_)
 refine qd 2 rfl ?_
 refine zo 61 rfl hr (fun _ hr => ?_) (fun _ hr => ?_)
 refine st ?_
 refine zh 69 rfl hr (fun _ hr => ?_) (fun _ hr => ?_)
 exact fin hr
 exact fin hr
 exact fin hr
 refine qab [0, 3, 5, 6] rfl (qR (fun n env σ => ∃ (i2 : Nat), n = r1.length - i2 ∧ (env = [(0, .lst (a0.map qD)), (3, .ptr (ql a1)), (5, .lst (r1.map zY)), (6, .int .i64 (i2 : Int))]) ∧ (σ = []) ∧ (i2 ≤ r1.length) ∧ (qbe h a0 (r1.drop i2) = some a)) _ ⟨0, rfl, rfl, rfl, jc _, hr⟩ ?_)
 rintro n _ _ ⟨i2, rfl, rfl, rfl, I, hr⟩ d4
 rcases zb r1 i2 I with ⟨J, g, d5⟩ | ⟨q_23, J, g, d6, d9⟩
 rw [g, qbe] at hr
 exact fin hr
 rw [g, qbe] at hr
 refine st ?_
 refine qy (qai (qdH 14 0 ?_))
 refine st ?_
 refine zj hr rfl qhO (qhM _ _ _) (fun r24 h24 hr => ?_)
 refine st ?_
 refine zh 37 rfl hr (fun _ hr => ?_) (fun _ hr => ?_)
 exact fin hr
 exact fin hr
def qaU (k : Option Int) : List Int → Nat → Option Int
 | [], i10 =>
 k
 | q_17 :: rest, i10 =>
 (bif (q_17 != (i10 : Int)) then
 some (2)
 else
 (qaU k rest (i10 + 1)))
def qaT (k : Option Int) : List Gl → Option Int
 | [] =>
 k
 | q_19 :: rest =>
 ((qjW q_19).bind fun r20 =>
 (bif (!r20) then
 some (2)
 else
 (qaT k rest)))
def qaW (k : Option Int) : List At → Option Int
 | [] =>
 k
 | q_22 :: rest =>
 ((qj0 q_22).bind fun r23 =>
 (bif (!r23) then
 some (2)
 else
 (qaW k rest)))
def qdP (fuel : Nat) (a0 : List qB) (a1 : qr) : Option Int :=
 ((qcK a1).bind fun r1 =>
 ((qdk a1).bind fun r2 =>
 (bif ((r1.length : Int) == (0 : Int)) then
 some (6)
 else
 (bif (decide ((r1.length : Int) > (4 : Int))) then
 some (6)
 else
 (bif (decide ((a1.fy.length : Int) > (12 : Int))) then
 some (6)
 else
 (bif (decide ((a1.fg.length : Int) > (12 : Int))) then
 some (6)
 else
 (qaW ((qaT (((qe3 fuel a1).bind fun r9 =>
 (qaU ((bif (a1.fN != (r9.length : Int)) then
 some (2)
 else
 (bif (!(a1.fA.toList == (⟨#[]⟩ : ByteArray).toList)) then
 ((qm7 a1.fA).bind fun r13 =>
 (bif (!r13) then
 some (7)
 else
 ((qdr fuel a0 a1).bind fun r15 =>
 some (r15))))
 else
 ((qdr fuel a0 a1).bind fun r16 =>
 some (r16))))) r9 0))) r2)) r1)))))))
theorem qj1 (fuel : Nat) (a0 : List qB) (a1 : qr) (a : Int) (hr : qdP fuel a0 a1 = some a) : zf Tryz.prog 19 [.lst (a0.map qD), ql a1] (.int .i64 a) := by
 unfold qdP at hr
 refine qx Tryz.func19 rfl fun K w x => ?_
 refine st ?_
 refine rd rfl (qcG rfl rfl rfl) ?_
 refine st ?_
 refine zj hr rfl qfG (qfE _) (fun r1 h1 hr => ?_)
 refine st ?_
 refine zj hr rfl qgz (qgC _) (fun r2 h2 hr => ?_)
 refine st ?_
 refine zo 18 rfl hr (fun _ hr => ?_) (fun _ hr => ?_)
 exact fin hr
 refine st ?_
 refine zo 23 rfl hr (fun _ hr => ?_) (fun _ hr => ?_)
 exact fin hr
 refine st ?_
 refine zo 29 rfl hr (fun _ hr => ?_) (fun _ hr => ?_)
 exact fin hr
 refine st ?_
 refine zh 34 rfl hr (fun _ hr => ?_) (fun _ hr => ?_)
 exact fin hr
 refine st ?_
 obtain ⟨e, i, hr⟩ := exK (fun k => qaW k r1) hr
 refine qct 12 rfl (asl rfl) fun j => ?_
 simp only [jb] at j
 refine qq (fun env σ => env = [(0, .lst (a0.map qD)), (3, .ptr (ql a1)), (6, .lst (r2.map zE))] ∧ σ = [] ∧ e = some a) ?_ (fun y => ?_)
 rintro _ _ ⟨rfl, rfl, hr⟩
 rw [i] at hr
 refine st ?_
 obtain ⟨g, l, hr⟩ := exK (fun k => qaT k r2) hr
 refine qct 6 rfl (asl rfl) fun m => ?_
 simp only [jb] at m
 refine qq (fun env σ => env = [(0, .lst (a0.map qD)), (3, .ptr (ql a1))] ∧ σ = [] ∧ g = some a) ?_ (fun z => ?_)
 rintro _ _ ⟨rfl, rfl, hr⟩
 rw [l] at hr
 refine st ?_
 refine zj hr rfl qmt (qmG fuel _) (fun r9 h9 hr => ?_)
 refine st ?_
 obtain ⟨h, o, hr⟩ := exK (fun k => qaU k r9 0) hr
 refine qct 60 rfl (asl rfl) fun p => ?_
 simp only [jb] at p
 refine qq (fun env σ => env = [(0, .lst (a0.map qD)), (3, .ptr (ql a1)), (9, .lst (r9.map (D.int .i64)))] ∧ σ = [] ∧ h = some a) ?_ (fun A => ?_)
 rintro _ _ ⟨rfl, rfl, hr⟩
 rw [o] at hr
 refine st ?_
 refine zh 77 rfl hr (fun _ hr => ?_) (fun _ hr => ?_)
 exact fin hr
 refine st ?_
 refine rd rfl (qgP rfl rfl rfl rfl) (qd 1 rfl ?_)
 refine zo 81 rfl hr (fun _ hr => ?_) (fun _ hr => ?_)
 refine qd 2 rfl ?_
 obtain ⟨r13, h13, hr⟩ := zd hr
 refine qdY rfl qic (qis _ _ h13) ?_
 refine st ?_
 refine zh 86 rfl hr (fun _ hr => ?_) (fun _ hr => ?_)
 exact fin hr
 refine st ?_
 refine zj hr rfl qhP (qhQ fuel _ _) (fun r15 h15 hr => ?_)
 exact fin hr
 refine st ?_
 refine zj hr rfl qhP (qhQ fuel _ _) (fun r16 h16 hr => ?_)
 exact fin hr
 refine qab [0, 3, 9, 10] rfl (qR (fun n env σ => ∃ (i10 : Nat), n = r9.length - i10 ∧ (env = [(0, .lst (a0.map qD)), (3, .ptr (ql a1)), (9, .lst (r9.map (D.int .i64))), (10, .int .i64 (i10 : Int))]) ∧ (σ = []) ∧ (i10 ≤ r9.length) ∧ (qaU h (r9.drop i10) i10 = some a)) _ ⟨0, rfl, rfl, rfl, jc _, hr⟩ ?_)
 rintro n _ _ ⟨i10, rfl, rfl, rfl, q, hr⟩ B
 rcases zb r9 i10 q with ⟨r, b, C⟩ | ⟨q_17, r, b, E, F⟩
 rw [b, qaU] at hr
 exact fin hr
 rw [b, qaU] at hr
 refine st ?_
 refine qy ?_
 refine st ?_
 refine zh 72 rfl hr (fun _ hr => ?_) (fun _ hr => ?_)
 exact fin hr
 exact fin hr
 refine qab [0, 3, 6, 8] rfl (qR (fun n env σ => ∃ (i8 : Nat), n = r2.length - i8 ∧ (env = [(0, .lst (a0.map qD)), (3, .ptr (ql a1)), (6, .lst (r2.map zE)), (8, .int .i64 (i8 : Int))]) ∧ (σ = []) ∧ (i8 ≤ r2.length) ∧ (qaT g (r2.drop i8) = some a)) _ ⟨0, rfl, rfl, rfl, jc _, hr⟩ ?_)
 rintro n _ _ ⟨i8, rfl, rfl, rfl, s, hr⟩ G
 rcases zb r2 i8 s with ⟨t, c, H⟩ | ⟨q_19, t, c, I, J⟩
 rw [c, qaT] at hr
 exact fin hr
 rw [c, qaT] at hr
 refine st ?_
 refine qy ?_
 refine st ?_
 obtain ⟨r20, h20, hr⟩ := zd hr
 refine qdY rfl qcz (qcy _ _ h20) ?_
 refine st ?_
 refine zh 58 rfl hr (fun _ hr => ?_) (fun _ hr => ?_)
 exact fin hr
 exact fin hr
 refine qab [0, 3, 5, 6, 7] rfl (qR (fun n env σ => ∃ (i7 : Nat), n = r1.length - i7 ∧ (env = [(0, .lst (a0.map qD)), (3, .ptr (ql a1)), (5, .lst (r1.map zY)), (6, .lst (r2.map zE)), (7, .int .i64 (i7 : Int))]) ∧ (σ = []) ∧ (i7 ≤ r1.length) ∧ (qaW e (r1.drop i7) = some a)) _ ⟨0, rfl, rfl, rfl, jc _, hr⟩ ?_)
 rintro n _ _ ⟨i7, rfl, rfl, rfl, u, hr⟩ L
 rcases zb r1 i7 u with ⟨v, d, M⟩ | ⟨q_22, v, d, N, O⟩
 rw [d, qaW] at hr
 exact fin hr
 rw [d, qaW] at hr
 refine st ?_
 refine qy ?_
 refine st ?_
 obtain ⟨r23, h23, hr⟩ := zd hr
 refine qdY rfl qdK (qdM _ _ h23) ?_
 refine st ?_
 refine zh 46 rfl hr (fun _ hr => ?_) (fun _ hr => ?_)
 exact fin hr
 exact fin hr
def qbI (k : Option (Int × Int)) (fuel : Nat) (a0 : qc) : List qr → Nat → Option (Int × Int)
 | [], i4 =>
 k
 | q_5 :: rest, i4 =>
 ((qdP fuel a0.fx q_5).bind fun r6 =>
 (bif (r6 != (0 : Int)) then
 some ((i4 : Int), r6)
 else
 (qbI k fuel a0 rest (i4 + 1))))
def qbL (k : Option (Int × Int)) (a0 : qc) : List qB → Nat → Option (Int × Int)
 | [], i2 =>
 k
 | q_8 :: rest, i2 =>
 ((qm7 q_8.fA).bind fun r10 =>
 (bif (!r10) then
 some ((-1), 7)
 else
 (bif (decide (q_8.fI < (0 : Int))) then
 some ((-1), 9)
 else
 (bif (decide (q_8.fI > (6 : Int))) then
 some ((-1), 9)
 else
 ((zZ a0.fx 0 (i2 : Int)).bind fun l14 =>
 ((qcn l14 q_8.fA q_8.fI).bind fun r15 =>
 (bif r15 then
 some ((-1), 8)
 else
 (qbL k a0 rest (i2 + 1)))))))))
def qdW (fuel : Nat) (a0 : qc) : Option (Int × Int) :=
 (bif (decide ((a0.fx.length : Int) > (30 : Int))) then
 some ((-1), 6)
 else
 (qbL ((bif (decide ((a0.fd.length : Int) > (40 : Int))) then
 some ((-1), 6)
 else
 (qbI (some (0, 0)) fuel a0 a0.fd 0))) a0 a0.fx 0))
theorem qig (fuel : Nat) (a0 : qc) (a : Int × Int) (hr : qdW fuel a0 = some a) : zf Tryz.prog 5 [qi a0] (.tup [.int .i64 a.1, .int .i64 a.2]) := by
 unfold qdW at hr
 refine qx Tryz.func5 rfl fun K q r => ?_
 refine st ?_
 refine rd rfl (qcG rfl rfl rfl) ?_
 refine st ?_
 refine zh 11 rfl hr (fun _ hr => ?_) (fun _ hr => ?_)
 exact fin hr
 refine st ?_
 obtain ⟨d, g, hr⟩ := exK (fun k => qbL k a0 a0.fx 0) hr
 refine qct 9 rfl (asl rfl) fun h => ?_
 simp only [jb] at h
 refine qq (fun env σ => env = [(1, .ptr (qi a0))] ∧ σ = [] ∧ d = some a) ?_ (fun s => ?_)
 rintro _ _ ⟨rfl, rfl, hr⟩
 rw [g] at hr
 refine st ?_
 refine zh 51 rfl hr (fun _ hr => ?_) (fun _ hr => ?_)
 exact fin hr
 refine st ?_
 obtain ⟨e, i, hr⟩ := exK (fun k => qbI k fuel a0 a0.fd 0) hr
 refine qct 49 rfl (asl rfl) fun j => ?_
 simp only [jb] at j
 refine qq (fun env σ => env = [] ∧ σ = [] ∧ e = some a) ?_ (fun t => ?_)
 rintro _ _ ⟨rfl, rfl, hr⟩
 rw [i] at hr
 exact fin hr
 refine qab [1, 6] rfl (qR (fun n env σ => ∃ (i4 : Nat), n = a0.fd.length - i4 ∧ (env = [(1, .ptr (qi a0)), (6, .int .i64 (i4 : Int))]) ∧ (σ = []) ∧ (i4 ≤ a0.fd.length) ∧ (qbI e fuel a0 (a0.fd.drop i4) i4 = some a)) _ ⟨0, rfl, rfl, rfl, jc _, hr⟩ ?_)
 rintro n _ _ ⟨i4, rfl, rfl, rfl, l, hr⟩ u
 rcases zb a0.fd i4 l with ⟨m, b, v⟩ | ⟨q_5, m, b, w, x⟩
 rw [b, qbI] at hr
 exact fin hr
 rw [b, qbI] at hr
 refine st ?_
 refine qy (qai (qdH 9 0 ?_))
 refine st ?_
 refine zj hr rfl qjS (qj1 fuel _ _) (fun r6 h6 hr => ?_)
 refine st ?_
 refine zh 68 rfl hr (fun _ hr => ?_) (fun _ hr => ?_)
 exact fin hr
 exact fin hr
 refine qab [1, 4] rfl (qR (fun n env σ => ∃ (i2 : Nat), n = a0.fx.length - i2 ∧ (env = [(1, .ptr (qi a0)), (4, .int .i64 (i2 : Int))]) ∧ (σ = []) ∧ (i2 ≤ a0.fx.length) ∧ (qbL d a0 (a0.fx.drop i2) i2 = some a)) _ ⟨0, rfl, rfl, rfl, jc _, hr⟩ ?_)
 rintro n _ _ ⟨i2, rfl, rfl, rfl, o, hr⟩ y
 rcases zb a0.fx i2 o with ⟨p, c, z⟩ | ⟨q_8, p, c, A, B⟩
 rw [c, qbL] at hr
 exact fin hr
 rw [c, qbL] at hr
 refine st ?_
 refine qy (qai (ze 7 5120 ?_))
 refine st ?_
 refine ew rfl (qau rfl qmj) ?_
 rintro _ _ ⟨b5_8, rfl, rfl⟩
 refine qbZ rfl (pf0 _) (qac (qbb 5 b5_8 rfl (pf0 _) (qy ?_)))
 refine st ?_
 obtain ⟨r10, h10, hr⟩ := zd hr
 refine qdY rfl qic (qis _ _ h10) ?_
 refine st ?_
 refine zh 24 rfl hr (fun _ hr => ?_) (fun _ hr => ?_)
 exact fin hr
 refine st ?_
 refine zo 33 rfl hr (fun _ hr => ?_) (fun _ hr => ?_)
 exact fin hr
 refine st ?_
 refine zh 29 rfl hr (fun _ hr => ?_) (fun _ hr => ?_)
 exact fin hr
 refine st ?_
 refine qdH 10 0 (qd 3 rfl ?_)
 obtain ⟨l14, h14, hr⟩ := zd hr
 refine rd rfl (qjy (f := qD) a0.fx 0 (i2 : Int) rfl qiH rfl (asl rfl) qg0 (qg7 rfl) qg5 h14) (qd 4 rfl ?_)
 refine zj hr rfl qeY (qfa _ _ _) (fun r15 h15 hr => ?_)
 refine st ?_
 refine zh 38 rfl hr (fun _ hr => ?_) (fun _ hr => ?_)
 exact fin hr
 exact fin hr
def qaI (k : Option Bool) (a0 : List (Int × At)) : List (Int × At) → Nat → Option Bool
 | [], i2 =>
 k
 | q_3 :: rest, i2 =>
 (bif (decide (q_3.1 < (1 : Int))) then
 some (false)
 else
 (bif (decide ((i2 : Int) > (0 : Int))) then
 ((zi a0 (wr ((i2 : Int) - (1 : Int)))).bind fun q_6 =>
 (bif (decide (q_6.1 ≥ q_3.1)) then
 some (false)
 else
 ((qj0 q_3.2).bind fun r8 =>
 (bif (!r8) then
 some (false)
 else
 (qaI k a0 rest (i2 + 1))))))
 else
 ((qj0 q_3.2).bind fun r10 =>
 (bif (!r10) then
 some (false)
 else
 (qaI k a0 rest (i2 + 1))))))
def qdj (a0 : List (Int × At)) : Option Bool :=
 (bif (decide ((a0.length : Int) > (500 : Int))) then
 some (false)
 else
 (qaI (some (true)) a0 a0 0))
theorem qgK (a0 : List (Int × At)) (a : Bool) (hr : qdj a0 = some a) : zf Tryz.prog 102 [.lst (a0.map zn)] (.bool a) := by
 unfold qdj at hr
 refine qx Tryz.func102 rfl fun K i j => ?_
 refine st ?_
 refine zh 6 rfl hr (fun _ hr => ?_) (fun _ hr => ?_)
 exact fin hr
 refine st ?_
 obtain ⟨c, d, hr⟩ := exK (fun k => qaI k a0 a0 0) hr
 refine qct 0 rfl (asl rfl) fun e => ?_
 simp only [jb] at e
 refine qq (fun env σ => env = [] ∧ σ = [] ∧ c = some a) ?_ (fun l => ?_)
 rintro _ _ ⟨rfl, rfl, hr⟩
 rw [d] at hr
 exact fin hr
 refine qab [0, 3] rfl (qR (fun n env σ => ∃ (i2 : Nat), n = a0.length - i2 ∧ (env = [(0, .lst (a0.map zn)), (3, .int .i64 (i2 : Int))]) ∧ (σ = []) ∧ (i2 ≤ a0.length) ∧ (qaI c a0 (a0.drop i2) i2 = some a)) _ ⟨0, rfl, rfl, rfl, jc _, hr⟩ ?_)
 rintro n _ _ ⟨i2, rfl, rfl, rfl, g, hr⟩ m
 rcases zb a0 i2 g with ⟨h, b, o⟩ | ⟨q_3, h, b, p, q⟩
 rw [b, qaI] at hr
 exact fin hr
 rw [b, qaI] at hr
 refine st ?_
 refine qy (qai (qdH 33 0 ?_))
 refine st ?_
 refine zo 19 rfl hr (fun _ hr => ?_) (fun _ hr => ?_)
 exact fin hr
 refine qd 3 rfl ?_
 refine zo 22 rfl hr (fun _ hr => ?_) (fun _ hr => ?_)
 refine qd 2 rfl (rd rfl (qeg rfl rfl rfl rfl) ?_)
 obtain ⟨q_6, h6, hr⟩ := zd hr
 refine st ?_
 refine zo 37 rfl hr (fun _ hr => ?_) (fun _ hr => ?_)
 exact fin hr
 refine st ?_
 obtain ⟨r8, h8, hr⟩ := zd hr
 refine qdY rfl qdK (qdM _ _ h8) ?_
 refine st ?_
 refine zh 45 rfl hr (fun _ hr => ?_) (fun _ hr => ?_)
 exact fin hr
 exact fin hr
 refine st ?_
 obtain ⟨r10, h10, hr⟩ := zd hr
 refine qdY rfl qdK (qdM _ _ h10) ?_
 refine st ?_
 refine zh 45 rfl hr (fun _ hr => ?_) (fun _ hr => ?_)
 exact fin hr
 exact fin hr
def qby (k : Option (T × Bool)) (a1 : Int) : List (Int × T) → Option (T × Bool)
 | [] =>
 k
 | q_3 :: rest =>
 (bif (q_3.1 == a1) then
 some (q_3.2, true)
 else
 (qby k a1 rest))
def qc4 (a0 : List (Int × T)) (a1 : Int) : Option (T × Bool) :=
 (qby (some ((T.mk 0 0 ⟨#[]⟩ []), false)) a1 a0)
theorem qfr (a0 : List (Int × T)) (a1 : Int) (a : T × Bool) (hr : qc4 a0 a1 = some a) : zf Tryz.prog 136 [.lst (a0.map zr), .int .i64 a1] (.tup [zl a.1, .bool a.2]) := by
 unfold qc4 at hr
 refine qx Tryz.func136 rfl fun K j l => (qai (ze 2 1 (ew rfl (qau rfl qd8) ?_)))
 rintro _ _ ⟨b4_0, rfl, rfl⟩
 refine st ?_
 obtain ⟨c, d, hr⟩ := exK (fun k => qby k a1 a0) hr
 refine qct 0 rfl (asl rfl) fun e => ?_
 simp only [jb] at e
 refine qq (fun env σ => env = [(4, .ref b4_0 0 [])] ∧ σ = [.cell b4_0 (.agg [.int .i64 0, .int .i64 0, .str ⟨#[]⟩, .lst ([].map zl)])] ∧ c = some a) ?_ (fun m => ?_)
 rintro _ _ ⟨rfl, rfl, hr⟩
 rw [d] at hr
 refine qai (ze 3 4 (rd rfl (qay rfl qha .nil (.nil _)) (qbZ rfl (pf0 _) ?_)))
 refine st ?_
 cases hr
 refine qaw Tryz.func136 _ (.cons (zm rfl (.head _) (by exact qdI) rfl (Wk.refl _)) (.cons (za rfl (Wk.refl _)) .nil)) ?_
 first | rfl | (show _ = D.agg (fsT _); rw [qfk] <;> rfl) | simp [yI, zl, qfk, T.k, T.i, T.s, T.ar]
 refine qab [0, 1, 4, 6] rfl (qR (fun n env σ => ∃ (i2 : Nat), n = a0.length - i2 ∧ (env = [(0, .lst (a0.map zr)), (1, .int .i64 a1), (4, .ref b4_0 0 []), (6, .int .i64 (i2 : Int))]) ∧ (σ = [.cell b4_0 (.agg [.int .i64 0, .int .i64 0, .str ⟨#[]⟩, .lst ([].map zl)])]) ∧ (i2 ≤ a0.length) ∧ (qby c a1 (a0.drop i2) = some a)) _ ⟨0, rfl, rfl, rfl, jc _, hr⟩ ?_)
 rintro n _ _ ⟨i2, rfl, rfl, rfl, g, hr⟩ o
 rcases zb a0 i2 g with ⟨h, b, p⟩ | ⟨q_3, h, b, q, r⟩
 rw [b, qby] at hr
 exact fin hr
 rw [b, qby] at hr
 refine st ?_
 refine qy ?_
 refine st ?_
 refine zh 19 rfl hr (fun _ hr => ?_) (fun _ hr => ?_)
 refine st0 ?_
 refine ze 7 1024 ?_
 refine st ?_
 refine qbZ rfl (pf0 _) ?_
 refine st ?_
 cases hr
 refine qaw Tryz.func136 _ (.cons (zm rfl (.head _) (by exact qdI) (qc2 _) (Wk.refl _)) (.cons (za rfl (Wk.refl _)) .nil)) ?_
 rfl
 exact fin hr
def qbK (k : Option Bool) (a0 : List (Int × T)) : List Int → Option Bool
 | [] =>
 k
 | q_5 :: rest =>
 ((qc4 a0 q_5).bind fun r6 =>
 (bif r6.2 then
 some (false)
 else
 (qbK k a0 rest)))
def qbG (k : Option Bool) (a0 : List (Int × T)) (fuel : Nat) : List (Int × T) → Option Bool
 | [] =>
 k
 | q_2 :: rest =>
 ((qdA fuel q_2.2).bind fun r3 =>
 (qbK ((qbG k a0 fuel rest)) a0 r3))
def qfz (fuel : Nat) (a0 : List (Int × T)) : Option Bool :=
 (qbG (some (true)) a0 fuel a0)
theorem qlF (fuel : Nat) (a0 : List (Int × T)) (a : Bool) (hr : qfz fuel a0 = some a) : zf Tryz.prog 133 [.lst (a0.map zr)] (.bool a) := by
 unfold qfz at hr
 refine qx Tryz.func133 rfl fun K q r => ?_
 refine st ?_
 obtain ⟨d, g, hr⟩ := exK (fun k => qbG k a0 fuel a0) hr
 refine qct 0 rfl (asl rfl) fun h => ?_
 simp only [jb] at h
 refine qq (fun env σ => env = [] ∧ σ = [] ∧ d = some a) ?_ (fun s => ?_)
 rintro _ _ ⟨rfl, rfl, hr⟩
 rw [g] at hr
 exact fin hr
 refine qab [0, 3] rfl (qR (fun n env σ => ∃ (i1 : Nat), n = a0.length - i1 ∧ (env = [(0, .lst (a0.map zr)), (3, .int .i64 (i1 : Int))]) ∧ (σ = []) ∧ (i1 ≤ a0.length) ∧ (qbG d a0 fuel (a0.drop i1) = some a)) _ ⟨0, rfl, rfl, rfl, jc _, hr⟩ ?_)
 rintro n _ _ ⟨i1, rfl, rfl, rfl, i, hr⟩ t
 rcases zb a0 i1 i with ⟨j, b, u⟩ | ⟨q_2, j, b, v, w⟩
 rw [b, qbG] at hr
 exact fin hr
 rw [b, qbG] at hr
 refine st ?_
 refine qy ?_
 refine st ?_
 refine zj hr rfl qgV (qgX fuel _) (fun r3 h3 hr => ?_)
 refine st ?_
 obtain ⟨e, l, hr⟩ := exK (fun k => qbK k a0 r3) hr
 refine qct 19 rfl (asl rfl) fun m => ?_
 simp only [jb] at m
 refine qq (fun env σ => env = [(0, .lst (a0.map zr)), (3, .int .i64 (i1 : Int))] ∧ σ = [] ∧ e = some a) ?_ (fun x => ?_)
 rintro _ _ ⟨rfl, rfl, hr⟩
 rw [l] at hr
 exact fin hr
 refine qab [0, 3, 4, 5] rfl (qR (fun n env σ => ∃ (k4 : Nat), n = r3.length - k4 ∧ (env = [(0, .lst (a0.map zr)), (3, .int .i64 (i1 : Int)), (4, .lst (r3.map (D.int .i64))), (5, .int .i64 (k4 : Int))]) ∧ (σ = []) ∧ (k4 ≤ r3.length) ∧ (qbK e a0 (r3.drop k4) = some a)) _ ⟨0, rfl, rfl, rfl, jc _, hr⟩ ?_)
 rintro n _ _ ⟨k4, rfl, rfl, rfl, o, hr⟩ y
 rcases zb r3 k4 o with ⟨p, c, z⟩ | ⟨q_5, p, c, A, B⟩
 rw [c, qbK] at hr
 exact fin hr
 rw [c, qbK] at hr
 refine st ?_
 refine qy (qai (ze 12 1310720 ?_))
 refine st ?_
 refine zj hr rfl qfq (qfr _ _) (fun r6 h6 hr => ?_)
 refine qd 3 rfl (ew rfl (qau rfl qd8) ?_)
 rintro _ _ ⟨b6_6, rfl, rfl⟩
 refine qbZ rfl (pf0 _) (qd 1 rfl (qac (qbb 6 b6_6 rfl (pf0 _) ?_)))
 refine st ?_
 refine zh 35 rfl hr (fun _ hr => ?_) (fun _ hr => ?_)
 exact fin hr
 exact fin hr
def qaF (k : Option Bool) (a0 : List (Int × T)) : List (Int × T) → Nat → Option Bool
 | [], i1 =>
 k
 | q_3 :: rest, i1 =>
 (bif (decide (q_3.1 < (0 : Int))) then
 some (false)
 else
 (bif (decide (q_3.1 > (1048576 : Int))) then
 some (false)
 else
 (bif (decide ((i1 : Int) > (0 : Int))) then
 ((zi a0 (wr ((i1 : Int) - (1 : Int)))).bind fun q_7 =>
 (bif (decide (q_3.1 ≤ q_7.1)) then
 some (false)
 else
 ((qkN q_3.2).bind fun r9 =>
 (bif (!r9) then
 some (false)
 else
 (qaF k a0 rest (i1 + 1))))))
 else
 ((qkN q_3.2).bind fun r11 =>
 (bif (!r11) then
 some (false)
 else
 (qaF k a0 rest (i1 + 1)))))))
def qd6 (fuel : Nat) (a0 : List (Int × T)) : Option Bool :=
 (qaF (((qfz fuel a0).bind fun r2 =>
 some (r2))) a0 a0 0)
theorem qit (fuel : Nat) (a0 : List (Int × T)) (a : Bool) (hr : qd6 fuel a0 = some a) : zf Tryz.prog 103 [.lst (a0.map zr)] (.bool a) := by
 unfold qd6 at hr
 refine qx Tryz.func103 rfl fun K i j => ?_
 refine st ?_
 obtain ⟨c, d, hr⟩ := exK (fun k => qaF k a0 a0 0) hr
 refine qct 0 rfl (asl rfl) fun e => ?_
 simp only [jb] at e
 refine qq (fun env σ => env = [(0, .lst (a0.map zr))] ∧ σ = [] ∧ c = some a) ?_ (fun l => ?_)
 rintro _ _ ⟨rfl, rfl, hr⟩
 rw [d] at hr
 refine st ?_
 refine zj hr rfl qlG (qlF fuel _) (fun r2 h2 hr => ?_)
 exact fin hr
 refine qab [0, 3] rfl (qR (fun n env σ => ∃ (i1 : Nat), n = a0.length - i1 ∧ (env = [(0, .lst (a0.map zr)), (3, .int .i64 (i1 : Int))]) ∧ (σ = []) ∧ (i1 ≤ a0.length) ∧ (qaF c a0 (a0.drop i1) i1 = some a)) _ ⟨0, rfl, rfl, rfl, jc _, hr⟩ ?_)
 rintro n _ _ ⟨i1, rfl, rfl, rfl, g, hr⟩ m
 rcases zb a0 i1 g with ⟨h, b, o⟩ | ⟨q_3, h, b, p, q⟩
 rw [b, qaF] at hr
 exact fin hr
 rw [b, qaF] at hr
 refine st ?_
 refine qy (qai (qdH 41 0 ?_))
 refine st ?_
 refine zo 16 rfl hr (fun _ hr => ?_) (fun _ hr => ?_)
 exact fin hr
 refine st ?_
 refine zo 24 rfl hr (fun _ hr => ?_) (fun _ hr => ?_)
 exact fin hr
 refine qd 3 rfl ?_
 refine zo 27 rfl hr (fun _ hr => ?_) (fun _ hr => ?_)
 refine st ?_
 refine rd rfl (qeg rfl rfl rfl rfl) ?_
 obtain ⟨q_7, h7, hr⟩ := zd hr
 refine st ?_
 refine zo 42 rfl hr (fun _ hr => ?_) (fun _ hr => ?_)
 exact fin hr
 refine st ?_
 obtain ⟨r9, h9, hr⟩ := zd hr
 refine qdY rfl qd4 (qd7 _ _ h9) ?_
 refine st ?_
 refine zh 50 rfl hr (fun _ hr => ?_) (fun _ hr => ?_)
 exact fin hr
 exact fin hr
 refine st ?_
 obtain ⟨r11, h11, hr⟩ := zd hr
 refine qdY rfl qd4 (qd7 _ _ h11) ?_
 refine st ?_
 refine zh 50 rfl hr (fun _ hr => ?_) (fun _ hr => ?_)
 exact fin hr
 exact fin hr
def qch (k : Option Bool) (a1 : Int) : List Int → Option Bool
 | [] =>
 k
 | q_2 :: rest =>
 (bif (q_2 == a1) then
 some (true)
 else
 (qch k a1 rest))
def qf3 (a0 : List Int) (a1 : Int) : Option Bool :=
 (qch (some (false)) a1 a0)
theorem qi9 (a0 : List Int) (a1 : Int) (a : Bool) (hr : qf3 a0 a1 = some a) : zf Tryz.prog 159 [.lst (a0.map (D.int .i64)), .int .i64 a1] (.bool a) := by
 unfold qf3 at hr
 refine qx Tryz.func159 rfl fun K i j => ?_
 refine st ?_
 obtain ⟨c, d, hr⟩ := exK (fun k => qch k a1 a0) hr
 refine qct 0 rfl (asl rfl) fun e => ?_
 simp only [jb] at e
 refine qq (fun env σ => env = [] ∧ σ = [] ∧ c = some a) ?_ (fun l => ?_)
 rintro _ _ ⟨rfl, rfl, hr⟩
 rw [d] at hr
 exact fin hr
 refine qab [0, 1, 5] rfl (qR (fun n env σ => ∃ (i1 : Nat), n = a0.length - i1 ∧ (env = [(0, .lst (a0.map (D.int .i64))), (1, .int .i64 a1), (5, .int .i64 (i1 : Int))]) ∧ (σ = []) ∧ (i1 ≤ a0.length) ∧ (qch c a1 (a0.drop i1) = some a)) _ ⟨0, rfl, rfl, rfl, jc _, hr⟩ ?_)
 rintro n _ _ ⟨i1, rfl, rfl, rfl, g, hr⟩ m
 rcases zb a0 i1 g with ⟨h, b, o⟩ | ⟨q_2, h, b, p, q⟩
 rw [b, qch] at hr
 exact fin hr
 rw [b, qch] at hr
 refine st ?_
 refine qy ?_
 refine st ?_
 refine zh 17 rfl hr (fun _ hr => ?_) (fun _ hr => ?_)
 exact fin hr
 exact fin hr
def qbS (k : Option Bool) (a0 : qm) : List Int → Nat → Option Bool
 | [], i5 =>
 k
 | q_6 :: rest, i5 =>
 (bif (decide (q_6 < (1 : Int))) then
 some (false)
 else
 ((zZ a0.fq 0 (i5 : Int)).bind fun l8 =>
 ((qf3 l8 q_6).bind fun r9 =>
 (bif r9 then
 some (false)
 else
 (qbS k a0 rest (i5 + 1))))))
def qdU (a0 : qm) : Option Bool :=
 (bif (decide (a0.fC < (0 : Int))) then
 some (false)
 else
 (bif (decide (a0.fC ≥ (40 : Int))) then
 some (false)
 else
 (bif (decide ((a0.fq.length : Int) < (1 : Int))) then
 some (false)
 else
 (bif (decide ((a0.fq.length : Int) > (4 : Int))) then
 some (false)
 else
 (qbS (some (true)) a0 a0.fq 0)))))
theorem qia (a0 : qm) (a : Bool) (hr : qdU a0 = some a) : zf Tryz.prog 134 [qf a0] (.bool a) := by
 unfold qdU at hr
 refine qx Tryz.func134 rfl fun K i j => ?_
 refine st ?_
 refine rd rfl (qcG rfl rfl rfl) ?_
 refine st ?_
 refine zo 7 rfl hr (fun _ hr => ?_) (fun _ hr => ?_)
 exact fin hr
 refine qd 5 rfl ?_
 refine zo 12 rfl hr (fun _ hr => ?_) (fun _ hr => ?_)
 exact fin hr
 refine st ?_
 refine zo 18 rfl hr (fun _ hr => ?_) (fun _ hr => ?_)
 exact fin hr
 refine st ?_
 refine zh 23 rfl hr (fun _ hr => ?_) (fun _ hr => ?_)
 exact fin hr
 refine st ?_
 obtain ⟨c, d, hr⟩ := exK (fun k => qbS k a0 a0.fq 0) hr
 refine qct 14 rfl (asl rfl) fun e => ?_
 simp only [jb] at e
 refine qq (fun env σ => env = [] ∧ σ = [] ∧ c = some a) ?_ (fun l => ?_)
 rintro _ _ ⟨rfl, rfl, hr⟩
 rw [d] at hr
 exact fin hr
 refine qab [1, 3] rfl (qR (fun n env σ => ∃ (i5 : Nat), n = a0.fq.length - i5 ∧ (env = [(1, .ptr (qf a0)), (3, .int .i64 (i5 : Int))]) ∧ (σ = []) ∧ (i5 ≤ a0.fq.length) ∧ (qbS c a0 (a0.fq.drop i5) i5 = some a)) _ ⟨0, rfl, rfl, rfl, jc _, hr⟩ ?_)
 rintro n _ _ ⟨i5, rfl, rfl, rfl, g, hr⟩ m
 rcases zb a0.fq i5 g with ⟨h, b, o⟩ | ⟨q_6, h, b, p, q⟩
 rw [b, qbS] at hr
 exact fin hr
 rw [b, qbS] at hr
 refine st ?_
 refine qy (qai (qdH 18 0 ?_))
 refine st ?_
 refine zo 37 rfl hr (fun _ hr => ?_) (fun _ hr => ?_)
 exact fin hr
 refine qd 3 rfl ?_
 obtain ⟨l8, h8, hr⟩ := zd hr
 refine rd rfl (qjy (f := (D.int .i64)) a0.fq 0 (i5 : Int) rfl qaS rfl (asl rfl) qg0 (qg7 rfl) (fun _ => rfl) h8) ?_
 refine st ?_
 refine zj hr rfl qi6 (qi9 _ _) (fun r9 h9 hr => ?_)
 refine st ?_
 refine zh 48 rfl hr (fun _ hr => ?_) (fun _ hr => ?_)
 exact fin hr
 exact fin hr
def qdy (a0 : Int) (a1 : Int) : Option Int :=
 (bif (decide (a0 < a1)) then
 some ((-1))
 else
 (bif (decide (a0 > a1)) then
 some (1)
 else
 some (0)))
theorem qgY (a0 : Int) (a1 : Int) (a : Int) (hr : qdy a0 a1 = some a) : zf Tryz.prog 160 [.int .i64 a0, .int .i64 a1] (.int .i64 a) := by
 unfold qdy at hr
 refine qx Tryz.func160 rfl fun K b c => ?_
 refine st ?_
 refine qy ?_
 refine st ?_
 refine zh 5 rfl hr (fun _ hr => ?_) (fun _ hr => ?_)
 exact fin hr
 refine st ?_
 refine zh 9 rfl hr (fun _ hr => ?_) (fun _ hr => ?_)
 exact fin hr
 exact fin hr
def qbh (k : Int → Option Int) (a1 : qm) : List Int → Int → Nat → Option Int
 | [], c3, i4 =>
 (k c3)
 | q_6 :: rest, c3, i4 =>
 (bif (decide ((i4 : Int) < (a1.fq.length : Int))) then
 (bif (c3 == (0 : Int)) then
 ((zi a1.fq (i4 : Int)).bind fun q_9 =>
 ((qdy q_6 q_9).bind fun r10 =>
 (qbh k a1 rest r10 (i4 + 1))))
 else
 (k c3))
 else
 (k c3))
def qeC (k : Int → Option Int) (a0 : qm) (a1 : qm) (r1 : Int) : Option Int :=
 (bif (r1 == (0 : Int)) then
 ((qdy (a0.fq.length : Int) (a1.fq.length : Int)).bind fun r12 =>
 (k r12))
 else
 (k r1))
def qcS (a0 : qm) (a1 : qm) : Option Int :=
 ((qdy a0.fC a1.fC).bind fun r1 =>
 (qeC (fun c2 =>
 (qbh (fun c5 =>
 some (c5)) a1 a0.fq c2 0)) a0 a1 r1))
theorem qgc (a0 : qm) (a1 : qm) (a : Int) (hr : qcS a0 a1 = some a) : zf Tryz.prog 135 [qf a0, qf a1] (.int .i64 a) := by
 unfold qcS at hr
 refine qx Tryz.func135 rfl fun K i j => ?_
 refine st ?_
 refine rd rfl (qcG rfl rfl rfl) (rd rfl (qcG rfl rfl rfl) ?_)
 refine st ?_
 refine zj hr rfl qhb (qgY _ _) (fun r1 h1 hr => ?_)
 refine qd 1 rfl (qac ?_)
 obtain ⟨kkJ0, hkkJ0, hr⟩ := exK (fun k => qeC k a0 a1 r1) hr
 refine qqs (fun env σ => ∃ (c2 : Int), env = [(2, .ptr (qf a0)), (3, .ptr (qf a1)), (5, .int .i64 c2)] ∧ σ = [] ∧ kkJ0 c2 = some a) ?_ (fun HKJ0 => ?_)
 rintro _ _ ⟨c2, rfl, rfl, hr⟩
 rw [hkkJ0] at hr
 refine st ?_
 obtain ⟨d, e, hr⟩ := exK (fun k => qbh k a1 a0.fq c2 0) hr
 refine qqZ 2 [1] (l := a0.fq.map (D.int .i64)) rfl rfl (asl rfl) fun g => ?_
 simp only [jb] at g
 refine qq (fun env σ => ∃ (c5 : Int), env = [(5, .int .i64 c5)] ∧ σ = [] ∧ d c5 = some a) ?_ (fun m => ?_)
 rintro _ _ ⟨c5, rfl, rfl, hr⟩
 rw [e] at hr
 exact fin hr
 refine qab [2, 3, 5, 6] rfl (qR (fun n env σ => ∃ (c3 : Int) (i4 : Nat), n = a0.fq.length - i4 ∧ (env = [(2, .ptr (qf a0)), (3, .ptr (qf a1)), (5, .int .i64 c3), (6, .int .i64 (i4 : Int))]) ∧ (σ = []) ∧ (i4 ≤ a0.fq.length) ∧ (qbh d a1 (a0.fq.drop i4) c3 i4 = some a)) _ ⟨c2, 0, rfl, rfl, rfl, jc _, hr⟩ ?_)
 rintro n _ _ ⟨c3, i4, rfl, rfl, rfl, h, hr⟩ o
 rcases zb a0.fq i4 h with ⟨b, c, p⟩ | ⟨q_6, b, c, q, r⟩
 rw [c, qbh] at hr
 refine qai (qai (ze 16 0 (qd 3 rfl (qjz rfl (qd 2 rfl (qhh 26 false rfl b ?_))))))
 exact fin hr
 rw [c, qbh] at hr
 refine qai (qai (ze 16 0 (qd 3 rfl (qjz rfl (qd 2 rfl (qhh 26 true rfl b ?_))))))
 refine st ?_
 refine zo 33 rfl hr (fun _ hr => ?_) (fun _ hr => ?_)
 refine st ?_
 refine zh 36 rfl hr (fun _ hr => ?_) (fun _ hr => ?_)
 refine st ?_
 refine qy (qdH 12 0 ?_)
 refine st ?_
 obtain ⟨q_9, h9, hr⟩ := zd hr
 refine st ?_
 refine zj hr rfl qhb (qgY _ _) (fun r10 h10 hr => ?_)
 exact fin hr
 exact fin hr
 exact fin hr
 unfold qeC at hr
 refine st ?_
 refine zh 13 rfl hr (fun _ hr => ?_) (fun _ hr => ?_)
 refine st ?_
 refine zj hr rfl qhb (qgY _ _) (fun r12 h12 hr => ?_)
 exact fin hr
 exact fin hr
def qaE (k : Option Bool) (a0 : List qm) : List qm → Nat → Option Bool
 | [], i2 =>
 k
 | q_3 :: rest, i2 =>
 ((qdU q_3).bind fun r4 =>
 (bif (!r4) then
 some (false)
 else
 (bif (decide ((i2 : Int) > (0 : Int))) then
 ((zi a0 (wr ((i2 : Int) - (1 : Int)))).bind fun q_7 =>
 ((qcS q_7 q_3).bind fun r8 =>
 (bif (decide (r8 ≥ (0 : Int))) then
 some (false)
 else
 (qaE k a0 rest (i2 + 1)))))
 else
 (qaE k a0 rest (i2 + 1)))))
def qd2 (a0 : List qm) : Option Bool :=
 (bif (decide ((a0.length : Int) > (5000 : Int))) then
 some (false)
 else
 (qaE (some (true)) a0 a0 0))
theorem qid (a0 : List qm) (a : Bool) (hr : qd2 a0 = some a) : zf Tryz.prog 104 [.lst (a0.map qf)] (.bool a) := by
 unfold qd2 at hr
 refine qx Tryz.func104 rfl fun K i j => ?_
 refine st ?_
 refine zh 6 rfl hr (fun _ hr => ?_) (fun _ hr => ?_)
 exact fin hr
 refine st ?_
 obtain ⟨c, d, hr⟩ := exK (fun k => qaE k a0 a0 0) hr
 refine qct 0 rfl (asl rfl) fun e => ?_
 simp only [jb] at e
 refine qq (fun env σ => env = [] ∧ σ = [] ∧ c = some a) ?_ (fun l => ?_)
 rintro _ _ ⟨rfl, rfl, hr⟩
 rw [d] at hr
 exact fin hr
 refine qab [0, 3] rfl (qR (fun n env σ => ∃ (i2 : Nat), n = a0.length - i2 ∧ (env = [(0, .lst (a0.map qf)), (3, .int .i64 (i2 : Int))]) ∧ (σ = []) ∧ (i2 ≤ a0.length) ∧ (qaE c a0 (a0.drop i2) i2 = some a)) _ ⟨0, rfl, rfl, rfl, jc _, hr⟩ ?_)
 rintro n _ _ ⟨i2, rfl, rfl, rfl, g, hr⟩ m
 rcases zb a0 i2 g with ⟨h, b, o⟩ | ⟨q_3, h, b, p, q⟩
 rw [b, qaE] at hr
 exact fin hr
 rw [b, qaE] at hr
 refine st ?_
 refine qy (qai (qdH 23 0 ?_))
 refine st ?_
 refine zj hr rfl qih (qia _) (fun r4 h4 hr => ?_)
 refine qd 2 rfl ?_
 refine zo 19 rfl hr (fun _ hr => ?_) (fun _ hr => ?_)
 exact fin hr
 refine qd 3 rfl ?_
 refine zo 22 rfl hr (fun _ hr => ?_) (fun _ hr => ?_)
 refine qd 2 rfl (rd rfl (qeg rfl rfl rfl rfl) ?_)
 obtain ⟨q_7, h7, hr⟩ := zd hr
 refine st ?_
 refine zj hr rfl qge (qgc _ _) (fun r8 h8 hr => ?_)
 refine st ?_
 refine zh 35 rfl hr (fun _ hr => ?_) (fun _ hr => ?_)
 exact fin hr
 exact fin hr
 exact fin hr
def qbM (fuel : Nat) (a0 : At) : Option (List Int) :=
 ((qbD fuel a0.ts).bind fun r1 =>
 some (r1))
theorem qfU (fuel : Nat) (a0 : At) (a : List Int) (hr : qbM fuel a0 = some a) : zf Tryz.prog 49 [zY a0] (.lst (a.map (D.int .i64))) := by
 unfold qbM at hr
 refine qx Tryz.func49 rfl fun K b c => ?_
 refine st ?_
 refine rd rfl (qcG rfl rfl rfl) ?_
 refine st ?_
 refine zj hr rfl qfp (qfs fuel _) (fun r1 h1 hr => ?_)
 exact fin hr
def qb4 (k : Option Bool) (a2 : List (Int × T)) (a1 : Int) : List Int → Option Bool
 | [] =>
 k
 | q_2 :: rest =>
 (bif (decide (q_2 ≥ a1)) then
 some (false)
 else
 ((qc4 a2 q_2).bind fun r4 =>
 (bif r4.2 then
 some (false)
 else
 (qb4 k a2 a1 rest))))
def qdx (a0 : List Int) (a1 : Int) (a2 : List (Int × T)) : Option Bool :=
 (qb4 (some (true)) a2 a1 a0)
theorem qgZ (a0 : List Int) (a1 : Int) (a2 : List (Int × T)) (a : Bool) (hr : qdx a0 a1 a2 = some a) : zf Tryz.prog 105 [.lst (a0.map (D.int .i64)), .int .i64 a1, .lst (a2.map zr)] (.bool a) := by
 unfold qdx at hr
 refine qx Tryz.func105 rfl fun K i j => ?_
 refine st ?_
 obtain ⟨c, d, hr⟩ := exK (fun k => qb4 k a2 a1 a0) hr
 refine qct 0 rfl (asl rfl) fun e => ?_
 simp only [jb] at e
 refine qq (fun env σ => env = [] ∧ σ = [] ∧ c = some a) ?_ (fun l => ?_)
 rintro _ _ ⟨rfl, rfl, hr⟩
 rw [d] at hr
 exact fin hr
 refine qab [0, 1, 2, 7] rfl (qR (fun n env σ => ∃ (i1 : Nat), n = a0.length - i1 ∧ (env = [(0, .lst (a0.map (D.int .i64))), (1, .int .i64 a1), (2, .lst (a2.map zr)), (7, .int .i64 (i1 : Int))]) ∧ (σ = []) ∧ (i1 ≤ a0.length) ∧ (qb4 c a2 a1 (a0.drop i1) = some a)) _ ⟨0, rfl, rfl, rfl, jc _, hr⟩ ?_)
 rintro n _ _ ⟨i1, rfl, rfl, rfl, g, hr⟩ m
 rcases zb a0 i1 g with ⟨h, b, o⟩ | ⟨q_2, h, b, p, q⟩
 rw [b, qb4] at hr
 exact fin hr
 rw [b, qb4] at hr
 refine st ?_
 refine qy ?_
 refine st ?_
 refine zh 21 rfl hr (fun _ hr => ?_) (fun _ hr => ?_)
 exact fin hr
 refine st0 ?_
 refine ze 12 1310720 ?_
 refine st ?_
 refine zj hr rfl qfq (qfr _ _) (fun r4 h4 hr => ?_)
 refine qd 3 rfl (ew rfl (qau rfl qd8) ?_)
 rintro _ _ ⟨b8_4, rfl, rfl⟩
 refine qbZ rfl (pf0 _) (qd 1 rfl (qac (qbb 8 b8_4 rfl (pf0 _) ?_)))
 refine st ?_
 refine zh 31 rfl hr (fun _ hr => ?_) (fun _ hr => ?_)
 exact fin hr
 exact fin hr
def qa2 (a0 : qr) : Option Bool :=
 some (((a0.ff.length : Int) == (0 : Int)))
theorem qfy (a0 : qr) (a : Bool) (hr : qa2 a0 = some a) : zf Tryz.prog 107 [ql a0] (.bool a) := by
 unfold qa2 at hr
 refine qx Tryz.func107 rfl fun K b c => ?_
 refine st ?_
 refine rd rfl (qcG rfl rfl rfl) ?_
 exact fin hr
def qcM (a0 : qr) : Option (List At) :=
 ((zF 40 [] a0.fi).bind fun l3 =>
 ((zF 40 l3 a0.ff).bind fun l5 =>
 some (l5)))
theorem qfD (a0 : qr) (res : List At) (hr : qcM a0 = some res) : zf Tryz.prog 108 [ql a0] (.lst (res.map zY)) := by
 unfold qcM at hr
 refine qx Tryz.func108 rfl fun K hK hF => (qai (ze 2 4 (rd rfl (qcG rfl rfl rfl) (ew rfl (qN 48 2 (.inl rfl)) ?_))))
 rintro _ _ ⟨u2_0, rfl, rfl⟩
 refine st0 ?_
 refine ze 1 1 (ew rfl (qN 48 2 (.inl rfl)) ?_)
 rintro _ _ ⟨u3_1, rfl, rfl⟩
 refine st0 ?_
 refine ze 5 64 (qd 3 rfl ?_)
 obtain ⟨l3, h3, hr⟩ := zd hr
 refine ew rfl (qah (f := zY) [] a0.fi rfl qeG rfl rfl (asl rfl) (pf0 _) rfl qeW h3) ?_
 rintro _ _ ⟨u7_3, rfl, rfl⟩
 refine st0 ?_
 refine ze 5 64 (qd 3 rfl ?_)
 obtain ⟨l5, h5, hr⟩ := zd hr
 refine ew rfl (qah (f := zY) l3 a0.ff rfl qeG rfl rfl (asl rfl) (pf0 _) rfl qeW h5) ?_
 rintro _ _ ⟨u11_5, rfl, rfl⟩
 refine st ?_
 cases hr
 refine qaw Tryz.func108 _ (.cons (za rfl (Wk.own _ _)) .nil) ?_
 rfl
def qav (k : Option (At × Bool)) (a1 : Int) : List (Int × At) → Option (At × Bool)
 | [] =>
 k
 | q_3 :: rest =>
 (bif (q_3.1 == a1) then
 some (q_3.2, true)
 else
 (qav k a1 rest))
def qej (a0 : List (Int × At)) (a1 : Int) : Option (At × Bool) :=
 (qav (some ((⟨⟨#[]⟩, []⟩ : At), false)) a1 a0)
theorem qgR (a0 : List (Int × At)) (a1 : Int) (a : At × Bool) (hr : qej a0 a1 = some a) : zf Tryz.prog 109 [.lst (a0.map zn), .int .i64 a1] (.tup [zY a.1, .bool a.2]) := by
 unfold qej at hr
 refine qx Tryz.func109 rfl fun K i j => (qai (ze 2 1 (ew rfl (qau rfl qfI) ?_)))
 rintro _ _ ⟨b4_0, rfl, rfl⟩
 refine st ?_
 obtain ⟨c, d, hr⟩ := exK (fun k => qav k a1 a0) hr
 refine qct 0 rfl (asl rfl) fun e => ?_
 simp only [jb] at e
 refine qq (fun env σ => env = [(4, .ref b4_0 0 [])] ∧ σ = [.cell b4_0 (.agg [.str ⟨#[]⟩, .lst ([].map zl)])] ∧ c = some a) ?_ (fun l => ?_)
 rintro _ _ ⟨rfl, rfl, hr⟩
 rw [d] at hr
 refine qai (ze 3 4 (rd rfl (qay rfl qhz .nil (.nil _)) (qbZ rfl (pf0 _) ?_)))
 refine st ?_
 cases hr
 refine qaw Tryz.func109 _ (.cons (zm rfl (.head _) (by exact qmx) rfl (Wk.refl _)) (.cons (za rfl (Wk.refl _)) .nil)) ?_
 rfl
 refine qab [0, 1, 4, 6] rfl (qR (fun n env σ => ∃ (i2 : Nat), n = a0.length - i2 ∧ (env = [(0, .lst (a0.map zn)), (1, .int .i64 a1), (4, .ref b4_0 0 []), (6, .int .i64 (i2 : Int))]) ∧ (σ = [.cell b4_0 (.agg [.str ⟨#[]⟩, .lst ([].map zl)])]) ∧ (i2 ≤ a0.length) ∧ (qav c a1 (a0.drop i2) = some a)) _ ⟨0, rfl, rfl, rfl, jc _, hr⟩ ?_)
 rintro n _ _ ⟨i2, rfl, rfl, rfl, g, hr⟩ m
 rcases zb a0 i2 g with ⟨h, b, o⟩ | ⟨q_3, h, b, p, q⟩
 rw [b, qav] at hr
 exact fin hr
 rw [b, qav] at hr
 refine st ?_
 refine qy ?_
 refine st ?_
 refine zh 19 rfl hr (fun _ hr => ?_) (fun _ hr => ?_)
 refine st0 ?_
 refine ze 7 1024 ?_
 refine st ?_
 refine qbZ rfl (pf0 _) ?_
 refine st ?_
 cases hr
 refine qaw Tryz.func109 _ (.cons (zm rfl (.head _) (by exact qmx) (qeW _) (Wk.refl _)) (.cons (za rfl (Wk.refl _)) .nil)) ?_
 rfl
 exact fin hr
def qbx (k : Option Bool) (a1 : List (Int × At)) : List Int → Option Bool
 | [] =>
 k
 | q_24 :: rest =>
 ((qej a1 q_24).bind fun r25 =>
 (bif (!r25.2) then
 some (false)
 else
 (qbx k a1 rest)))
def qbs (k : Option Bool) (a1 : List (Int × At)) (a0 : qc) : List qm → Option Bool
 | [] =>
 k
 | q_14 :: rest =>
 (bif (decide (q_14.fC < (0 : Int))) then
 some (false)
 else
 (bif (decide (q_14.fC ≥ (a0.fd.length : Int))) then
 some (false)
 else
 ((zi a0.fd q_14.fC).bind fun q_17 =>
 ((qa2 q_17).bind fun r19 =>
 (bif (!r19) then
 some (false)
 else
 ((qcM q_17).bind fun r21 =>
 (bif ((q_14.fq.length : Int) != (r21.length : Int)) then
 some (false)
 else
 (qbx ((qbs k a1 a0 rest)) a1 q_14.fq))))))))
def qbw (k : Option Bool) (a2 : List (Int × T)) (a5 : Int) (fuel : Nat) : List (Int × T) → Option Bool
 | [] =>
 k
 | q_28 :: rest =>
 (bif (decide (q_28.1 ≥ a5)) then
 some (false)
 else
 ((qdA fuel q_28.2).bind fun r30 =>
 ((qdx r30 a5 a2).bind fun r31 =>
 (bif (!r31) then
 some (false)
 else
 (qbw k a2 a5 fuel rest)))))
def qbt (k : Option Bool) (a2 : List (Int × T)) (a5 : Int) (fuel : Nat) (a4 : Int) (a0 : qc) : List (Int × At) → Option Bool
 | [] =>
 k
 | q_33 :: rest =>
 (bif (decide (q_33.1 ≥ a4)) then
 some (false)
 else
 ((qcn a0.fx q_33.2.n (q_33.2.ts.length : Int)).bind fun r36 =>
 (bif (!r36) then
 some (false)
 else
 ((qbM fuel q_33.2).bind fun r38 =>
 ((qdx r38 a5 a2).bind fun r39 =>
 (bif (!r39) then
 some (false)
 else
 (qbt k a2 a5 fuel a4 a0 rest)))))))
def qev (fuel : Nat) (a0 : qc) (a1 : List (Int × At)) (a2 : List (Int × T)) (a3 : List qm) (a4 : Int) (a5 : Int) : Option Bool :=
 ((qdj a1).bind fun r1 =>
 (bif (!r1) then
 some (false)
 else
 ((qd6 fuel a2).bind fun r3 =>
 (bif (!r3) then
 some (false)
 else
 ((qd2 a3).bind fun r5 =>
 (bif (!r5) then
 some (false)
 else
 (bif (decide (a4 < (1 : Int))) then
 some (false)
 else
 (bif (decide (a4 > (2147483648 : Int))) then
 some (false)
 else
 (bif (decide (a5 < (0 : Int))) then
 some (false)
 else
 (bif (decide (a5 > (1048576 : Int))) then
 some (false)
 else
 (qbt ((qbw ((qbs (some (true)) a1 a0 a3)) a2 a5 fuel a2)) a2 a5 fuel a4 a0 a1)))))))))))
theorem qlb (fuel : Nat) (a0 : qc) (a1 : List (Int × At)) (a2 : List (Int × T)) (a3 : List qm) (a4 : Int) (a5 : Int) (a : Bool) (hr : qev fuel a0 a1 a2 a3 a4 a5 = some a) : zf Tryz.prog 69 [qi a0, .lst (a1.map zn), .lst (a2.map zr), .lst (a3.map qf), .int .i64 a4, .int .i64 a5] (.bool a) := by
 unfold qev at hr
 refine qx Tryz.func69 rfl fun K C D => ?_
 refine st ?_
 refine rd rfl (qcG rfl rfl rfl) ?_
 refine st ?_
 refine zj hr rfl qgM (qgK _) (fun r1 h1 hr => ?_)
 refine qd 2 rfl ?_
 refine zo 24 rfl hr (fun _ hr => ?_) (fun _ hr => ?_)
 exact fin hr
 refine qd 1 rfl ?_
 refine zj hr rfl qie (qit fuel _) (fun r3 h3 hr => ?_)
 refine qd 3 rfl ?_
 refine zo 29 rfl hr (fun _ hr => ?_) (fun _ hr => ?_)
 exact fin hr
 refine qd 1 rfl ?_
 refine zj hr rfl qiv (qid _) (fun r5 h5 hr => ?_)
 refine qd 3 rfl ?_
 refine zo 34 rfl hr (fun _ hr => ?_) (fun _ hr => ?_)
 exact fin hr
 refine qd 4 rfl ?_
 refine zo 38 rfl hr (fun _ hr => ?_) (fun _ hr => ?_)
 exact fin hr
 refine qd 4 rfl ?_
 refine zo 42 rfl hr (fun _ hr => ?_) (fun _ hr => ?_)
 exact fin hr
 refine qd 4 rfl ?_
 refine zo 46 rfl hr (fun _ hr => ?_) (fun _ hr => ?_)
 exact fin hr
 refine st ?_
 refine zh 49 rfl hr (fun _ hr => ?_) (fun _ hr => ?_)
 exact fin hr
 refine st ?_
 obtain ⟨g, l, hr⟩ := exK (fun k => qbt k a2 a5 fuel a4 a0 a1) hr
 refine qct 1 rfl (asl rfl) fun m => ?_
 simp only [jb] at m
 refine qq (fun env σ => env = [(1, .lst (a1.map zn)), (2, .lst (a2.map zr)), (3, .lst (a3.map qf)), (5, .int .i64 a5), (6, .ptr (qi a0))] ∧ σ = [] ∧ g = some a) ?_ (fun E => ?_)
 rintro _ _ ⟨rfl, rfl, hr⟩
 rw [l] at hr
 refine st ?_
 obtain ⟨h, o, hr⟩ := exK (fun k => qbw k a2 a5 fuel a2) hr
 refine qct 2 rfl (asl rfl) fun p => ?_
 simp only [jb] at p
 refine qq (fun env σ => env = [(1, .lst (a1.map zn)), (3, .lst (a3.map qf)), (6, .ptr (qi a0))] ∧ σ = [] ∧ h = some a) ?_ (fun F => ?_)
 rintro _ _ ⟨rfl, rfl, hr⟩
 rw [o] at hr
 refine st ?_
 obtain ⟨i, q, hr⟩ := exK (fun k => qbs k a1 a0 a3) hr
 refine qct 3 rfl (asl rfl) fun r => ?_
 simp only [jb] at r
 refine qq (fun env σ => env = [] ∧ σ = [] ∧ i = some a) ?_ (fun G => ?_)
 rintro _ _ ⟨rfl, rfl, hr⟩
 rw [q] at hr
 exact fin hr
 refine qab [1, 3, 6, 16] rfl (qR (fun n env σ => ∃ (i13 : Nat), n = a3.length - i13 ∧ (env = [(1, .lst (a1.map zn)), (3, .lst (a3.map qf)), (6, .ptr (qi a0)), (16, .int .i64 (i13 : Int))]) ∧ (σ = []) ∧ (i13 ≤ a3.length) ∧ (qbs i a1 a0 (a3.drop i13) = some a)) _ ⟨0, rfl, rfl, rfl, jc _, hr⟩ ?_)
 rintro n _ _ ⟨i13, rfl, rfl, rfl, s, hr⟩ H
 rcases zb a3 i13 s with ⟨t, b, I⟩ | ⟨q_14, t, b, J, L⟩
 rw [b, qbs] at hr
 exact fin hr
 rw [b, qbs] at hr
 refine st ?_
 refine qy ?_
 refine st ?_
 refine qdH 17 0 ?_
 refine st ?_
 refine zo 124 rfl hr (fun _ hr => ?_) (fun _ hr => ?_)
 exact fin hr
 refine st ?_
 refine zh 134 rfl hr (fun _ hr => ?_) (fun _ hr => ?_)
 exact fin hr
 refine st ?_
 refine qdH 11 1310720 ?_
 refine st ?_
 obtain ⟨q_17, h17, hr⟩ := zd hr
 refine st ?_
 refine ew rfl (qau rfl qhr) ?_
 rintro _ _ ⟨b17_17, rfl, rfl⟩
 refine qbZ rfl (pf0 _) (qac (qbb 17 b17_17 rfl (pf0 _) ?_))
 refine st ?_
 refine qdH 15 0 (qd 1 rfl ?_)
 refine zj hr rfl qfw (qfy _) (fun r19 h19 hr => ?_)
 refine qd 2 rfl ?_
 refine zo 147 rfl hr (fun _ hr => ?_) (fun _ hr => ?_)
 exact fin hr
 refine st ?_
 refine zj hr rfl qfA (qfD _) (fun r21 h21 hr => ?_)
 refine st ?_
 refine zh 158 rfl hr (fun _ hr => ?_) (fun _ hr => ?_)
 exact fin hr
 refine st ?_
 obtain ⟨j, u, hr⟩ := exK (fun k => qbx k a1 q_14.fq) hr
 refine qct 152 rfl (asl rfl) fun v => ?_
 simp only [jb] at v
 refine qq (fun env σ => env = [(1, .lst (a1.map zn)), (3, .lst (a3.map qf)), (6, .ptr (qi a0)), (16, .int .i64 (i13 : Int))] ∧ σ = [] ∧ j = some a) ?_ (fun M => ?_)
 rintro _ _ ⟨rfl, rfl, hr⟩
 rw [u] at hr
 exact fin hr
 refine qab [1, 3, 6, 16, 18] rfl (qR (fun n env σ => ∃ (k23 : Nat), n = q_14.fq.length - k23 ∧ (env = [(1, .lst (a1.map zn)), (3, .lst (a3.map qf)), (6, .ptr (qi a0)), (16, .int .i64 (i13 : Int)), (18, .int .i64 (k23 : Int))]) ∧ (σ = []) ∧ (k23 ≤ q_14.fq.length) ∧ (qbx j a1 (q_14.fq.drop k23) = some a)) _ ⟨0, rfl, rfl, rfl, jc _, hr⟩ ?_)
 rintro n _ _ ⟨k23, rfl, rfl, rfl, w, hr⟩ N
 rcases zb q_14.fq k23 w with ⟨x, c, O⟩ | ⟨q_24, x, c, P, Q⟩
 rw [c, qbx] at hr
 exact fin hr
 rw [c, qbx] at hr
 refine st ?_
 refine qy (qai (ze 16 335544320 ?_))
 refine st ?_
 refine zj hr rfl qgS (qgR _ _) (fun r25 h25 hr => ?_)
 refine qd 3 rfl (ew rfl (qau rfl qfI) ?_)
 rintro _ _ ⟨b19_25, rfl, rfl⟩
 refine qbZ rfl (pf0 _) (qd 1 rfl (qac (qbb 19 b19_25 rfl (pf0 _) ?_)))
 refine st ?_
 refine zh 183 rfl hr (fun _ hr => ?_) (fun _ hr => ?_)
 exact fin hr
 exact fin hr
 refine qab [1, 2, 3, 5, 6, 15] rfl (qR (fun n env σ => ∃ (i12 : Nat), n = a2.length - i12 ∧ (env = [(1, .lst (a1.map zn)), (2, .lst (a2.map zr)), (3, .lst (a3.map qf)), (5, .int .i64 a5), (6, .ptr (qi a0)), (15, .int .i64 (i12 : Int))]) ∧ (σ = []) ∧ (i12 ≤ a2.length) ∧ (qbw h a2 a5 fuel (a2.drop i12) = some a)) _ ⟨0, rfl, rfl, rfl, jc _, hr⟩ ?_)
 rintro n _ _ ⟨i12, rfl, rfl, rfl, y, hr⟩ R
 rcases zb a2 i12 y with ⟨z, d, S⟩ | ⟨q_28, z, d, U, V⟩
 rw [d, qbw] at hr
 exact fin hr
 rw [d, qbw] at hr
 refine st ?_
 refine qy ?_
 refine st ?_
 refine zo 100 rfl hr (fun _ hr => ?_) (fun _ hr => ?_)
 exact fin hr
 refine st ?_
 refine zj hr rfl qgV (qgX fuel _) (fun r30 h30 hr => ?_)
 refine qd 2 rfl ?_
 refine zj hr rfl qgT (qgZ _ _ _) (fun r31 h31 hr => ?_)
 refine st ?_
 refine zh 111 rfl hr (fun _ hr => ?_) (fun _ hr => ?_)
 exact fin hr
 exact fin hr
 refine qab [1, 2, 3, 4, 5, 6, 13] rfl (qR (fun n env σ => ∃ (i11 : Nat), n = a1.length - i11 ∧ (env = [(1, .lst (a1.map zn)), (2, .lst (a2.map zr)), (3, .lst (a3.map qf)), (4, .int .i64 a4), (5, .int .i64 a5), (6, .ptr (qi a0)), (13, .int .i64 (i11 : Int))]) ∧ (σ = []) ∧ (i11 ≤ a1.length) ∧ (qbt g a2 a5 fuel a4 a0 (a1.drop i11) = some a)) _ ⟨0, rfl, rfl, rfl, jc _, hr⟩ ?_)
 rintro n _ _ ⟨i11, rfl, rfl, rfl, A, hr⟩ W
 rcases zb a1 i11 A with ⟨B, e, X⟩ | ⟨q_33, B, e, Y, Z⟩
 rw [e, qbt] at hr
 exact fin hr
 rw [e, qbt] at hr
 refine st ?_
 refine qy (qai (ze 7 5120 ?_))
 refine st ?_
 refine ew rfl (qau rfl qfI) ?_
 rintro _ _ ⟨b14_33, rfl, rfl⟩
 refine qbZ rfl (pf0 _) (qac (qbb 14 b14_33 rfl (pf0 _) ?_))
 refine st ?_
 refine zo 68 rfl hr (fun _ hr => ?_) (fun _ hr => ?_)
 exact fin hr
 refine st ?_
 refine zj hr rfl qeY (qfa _ _ _) (fun r36 h36 hr => ?_)
 refine qd 3 rfl ?_
 refine zo 79 rfl hr (fun _ hr => ?_) (fun _ hr => ?_)
 exact fin hr
 refine qd 1 rfl ?_
 refine zj hr rfl qf0 (qfU fuel _) (fun r38 h38 hr => ?_)
 refine qd 2 rfl ?_
 refine zj hr rfl qgT (qgZ _ _ _) (fun r39 h39 hr => ?_)
 refine st ?_
 refine zh 86 rfl hr (fun _ hr => ?_) (fun _ hr => ?_)
 exact fin hr
 exact fin hr
def qeT (a0 : qc) (a1 : Gl) : Option Bool :=
 ((qjW a1).bind fun r1 =>
 (bif (!r1) then
 some (false)
 else
 (bif (decide (a1.op > (4 : Int))) then
 some (false)
 else
 (bif (a1.op != (0 : Int)) then
 some (true)
 else
 ((qcn a0.fx a1.n (a1.ts.length : Int)).bind fun r5 =>
 some (r5))))))
theorem qlu (a0 : qc) (a1 : Gl) (a : Bool) (hr : qeT a0 a1 = some a) : zf Tryz.prog 71 [qi a0, zE a1] (.bool a) := by
 unfold qeT at hr
 refine qx Tryz.func71 rfl fun K b c => ?_
 refine st ?_
 refine rd rfl (qcG rfl rfl rfl) (rd rfl (qcG rfl rfl rfl) ?_)
 refine st ?_
 obtain ⟨r1, h1, hr⟩ := zd hr
 refine qdY rfl qcz (qcy _ _ h1) (qd 2 rfl ?_)
 refine zo 8 rfl hr (fun _ hr => ?_) (fun _ hr => ?_)
 exact fin hr
 refine st ?_
 refine zh 12 rfl hr (fun _ hr => ?_) (fun _ hr => ?_)
 exact fin hr
 refine st ?_
 refine zo 16 rfl hr (fun _ hr => ?_) (fun _ hr => ?_)
 exact fin hr
 refine st ?_
 refine zj hr rfl qeY (qfa _ _ _) (fun r5 h5 hr => ?_)
 exact fin hr
def qe4 (fuel : Nat) (a0 : Gl) (a1 : Int) (a2 : List (Int × T)) : Option Bool :=
 ((qcm fuel a0).bind fun r1 =>
 ((qdx r1 a1 a2).bind fun r2 =>
 some (r2)))
theorem qmd (fuel : Nat) (a0 : Gl) (a1 : Int) (a2 : List (Int × T)) (a : Bool) (hr : qe4 fuel a0 a1 a2 = some a) : zf Tryz.prog 72 [zE a0, .int .i64 a1, .lst (a2.map zr)] (.bool a) := by
 unfold qe4 at hr
 refine qx Tryz.func72 rfl fun K b c => ?_
 refine st ?_
 refine rd rfl (qcG rfl rfl rfl) ?_
 refine st ?_
 refine zj hr rfl qfX (qfV fuel _) (fun r1 h1 hr => ?_)
 refine qd 2 rfl ?_
 refine zj hr rfl qgT (qgZ _ _ _) (fun r2 h2 hr => ?_)
 exact fin hr
def qa5 (k : Option Int) (a1 : Int) : List (Int × T) → Nat → Option Int
 | [], i1 =>
 k
 | q_2 :: rest, i1 =>
 (bif (q_2.1 == a1) then
 some ((i1 : Int))
 else
 (qa5 k a1 rest (i1 + 1)))
def qdX (a0 : List (Int × T)) (a1 : Int) : Option Int :=
 (qa5 (some ((-1))) a1 a0 0)
theorem qiu (a0 : List (Int × T)) (a1 : Int) (a : Int) (hr : qdX a0 a1 = some a) : zf Tryz.prog 191 [.lst (a0.map zr), .int .i64 a1] (.int .i64 a) := by
 unfold qdX at hr
 refine qx Tryz.func191 rfl fun K i j => ?_
 refine st ?_
 obtain ⟨c, d, hr⟩ := exK (fun k => qa5 k a1 a0 0) hr
 refine qct 0 rfl (asl rfl) fun e => ?_
 simp only [jb] at e
 refine qq (fun env σ => env = [] ∧ σ = [] ∧ c = some a) ?_ (fun l => ?_)
 rintro _ _ ⟨rfl, rfl, hr⟩
 rw [d] at hr
 exact fin hr
 refine qab [0, 1, 5] rfl (qR (fun n env σ => ∃ (i1 : Nat), n = a0.length - i1 ∧ (env = [(0, .lst (a0.map zr)), (1, .int .i64 a1), (5, .int .i64 (i1 : Int))]) ∧ (σ = []) ∧ (i1 ≤ a0.length) ∧ (qa5 c a1 (a0.drop i1) i1 = some a)) _ ⟨0, rfl, rfl, rfl, jc _, hr⟩ ?_)
 rintro n _ _ ⟨i1, rfl, rfl, rfl, g, hr⟩ m
 rcases zb a0 i1 g with ⟨h, b, o⟩ | ⟨q_2, h, b, p, q⟩
 rw [b, qa5] at hr
 exact fin hr
 rw [b, qa5] at hr
 refine st ?_
 refine qy ?_
 refine st ?_
 refine zh 18 rfl hr (fun _ hr => ?_) (fun _ hr => ?_)
 exact fin hr
 exact fin hr
def qbv (k : Int → Option ((List (Int × T)))) (a1 : (Int × T)) : List (Int × T) → Nat → Option ((List (Int × T)))
 | [], k2 =>
 (k (k2 : Int))
 | q_13 :: rest, k2 =>
 (bif (decide (q_13.1 ≤ a1.1)) then
 (qbv k a1 rest (k2 + 1))
 else
 (k (k2 : Int)))
def qeA (a0 : List (Int × T)) (a1 : (Int × T)) : Option ((List (Int × T))) :=
 (qbv (fun k3 =>
 ((zZ a0 0 k3).bind fun l5 =>
 ((zF 64 [] l5).bind fun l6 =>
 ((zF 64 l6 [a1]).bind fun l8 =>
 ((zZ a0 k3 (a0.length : Int)).bind fun l10 =>
 ((zF 64 l8 l10).bind fun l11 =>
 some (l11))))))) a1 a0 0)
theorem qlg (a0 : List (Int × T)) (a1 : (Int × T)) (a : List (Int × T)) (hr : qeA a0 a1 = some a) : zf Tryz.prog 192 [.lst (a0.map zr), zr a1] (.lst (a.map zr)) := by
 unfold qeA at hr
 refine qx Tryz.func192 rfl fun K i j => (qai (ze 2 4 (rd rfl (qcG rfl rfl rfl) (ew rfl (qN 165 5 (.inl rfl)) ?_))))
 rintro _ _ ⟨u4_0, rfl, rfl⟩
 refine st ?_
 obtain ⟨d, e, hr⟩ := exK (fun k => qbv k a1 a0 0) hr
 refine qct 0 rfl (asl rfl) fun g => ?_
 simp only [jb] at g
 refine qq (fun env σ => ∃ (k3 : Int), env = [(0, .lst (a0.map zr)), (3, .ptr (zr a1)), (5, .int .i64 k3)] ∧ σ = [] ∧ d k3 = some a) ?_ (fun l => ?_)
 rintro _ _ ⟨k3, rfl, rfl, hr⟩
 rw [e] at hr
 refine qai (ze 1 1 (ew rfl (qN 165 5 (.inl rfl)) ?_))
 rintro _ _ ⟨u6_3, rfl, rfl⟩
 refine st0 ?_
 refine ze 6 256 (qd 3 rfl ?_)
 obtain ⟨l5, h5, hr⟩ := zd hr
 refine rd rfl (qjy (f := zr) a0 0 k3 rfl qgQ rfl (asl rfl) qg0 (qg7 rfl) qgs h5) ?_
 obtain ⟨l6, h6, hr⟩ := zd hr
 refine ew rfl (qah (f := zr) [] l5 rfl qgQ rfl rfl (asl rfl) (pf0 _) rfl qgs h6) ?_
 rintro _ _ ⟨u27_6, rfl, rfl⟩
 refine st0 ?_
 refine ze 5 64 (qd 2 rfl (rd rfl (qet (f := zr) [.tmp 29] [a1] rfl qgQ rfl rfl od od (.oc rfl .nil) qgs (fun _ => rfl)) ?_))
 obtain ⟨l8, h8, hr⟩ := zd hr
 refine ew rfl (qah (f := zr) l6 [a1] rfl qgQ rfl rfl (asl rfl) (pf0 _) rfl qgs h8) ?_
 rintro _ _ ⟨u31_8, rfl, rfl⟩
 refine st0 ?_
 refine ze 6 256 (qd 3 rfl ?_)
 obtain ⟨l10, h10, hr⟩ := zd hr
 refine rd rfl (qjy (f := zr) a0 k3 (a0.length : Int) rfl qgQ rfl (asl rfl) (qnZ rfl) qnV qgs h10) ?_
 obtain ⟨l11, h11, hr⟩ := zd hr
 refine ew rfl (qah (f := zr) l8 l10 rfl qgQ rfl rfl (asl rfl) (pf0 _) rfl qgs h11) ?_
 rintro _ _ ⟨u36_11, rfl, rfl⟩
 refine st ?_
 cases hr
 refine qaw Tryz.func192 _ (.cons (za rfl (Wk.own _ _)) .nil) ?_
 rfl
 refine qab [0, 3, 5] rfl (qbA [] _ (pf0 _) (qR (fun n env σ => ∃ (k2 : Nat), n = a0.length - k2 ∧ (env = [(0, .lst (a0.map zr)), (3, .ptr (zr a1)), (5, .int .i64 (k2 : Int))]) ∧ (σ = []) ∧ (k2 ≤ a0.length) ∧ (qbv d a1 (a0.drop k2) k2 = some a)) _ ⟨0, rfl, rfl, rfl, jc _, hr⟩ ?_))
 rintro n _ _ ⟨k2, rfl, rfl, rfl, h, hr⟩ m
 rcases zb a0 k2 h with ⟨b, c, o⟩ | ⟨q_13, b, c, p, q⟩
 rw [c, qbv] at hr
 refine st ?_
 refine qdH 14 0 (qd 2 rfl (qjz rfl (qd 2 rfl (qhh 11 false rfl b ?_))))
 exact fin hr
 rw [c, qbv] at hr
 refine st ?_
 refine qdH 14 0 (qd 2 rfl (qjz rfl (qd 2 rfl (qhh 11 true rfl b ?_))))
 refine st ?_
 refine zh 20 rfl hr (fun _ hr => ?_) (fun _ hr => ?_)
 refine st ?_
 refine qy ?_
 exact fin hr
 exact fin hr
def qeI (rec : (List (Int × T)) → List T → List T → Option ((List (Int × T)) × Bool)) (a0 : List (Int × T)) (a1 : T) (a2 : T) : Option ((List (Int × T)) × Bool) :=
 (bif (a1.k == (2 : Int)) then
 (bif (a2.k != (2 : Int)) then
 some ([], false)
 else
 (bif (!(a1.s.toList == a2.s.toList)) then
 some ([], false)
 else
 ((rec a0 a1.ar a2.ar).bind fun r4 =>
 some (r4.1, r4.2))))
 else
 (bif (a1.k != (1 : Int)) then
 ((qm6 a1 a2).bind fun r6 =>
 (bif (!r6) then
 some ([], false)
 else
 some (a0, true)))
 else
 ((qdX a0 a1.i).bind fun r8 =>
 (bif (decide (r8 < (0 : Int))) then
 ((qeA a0 (a1.i, a2)).bind fun r10 =>
 some (r10, true))
 else
 ((zi a0 r8).bind fun q_11 =>
 ((qm6 q_11.2 a2).bind fun r12 =>
 (bif (!r12) then
 some ([], false)
 else
 some (a0, true))))))))
theorem qlR (rec : (List (Int × T)) → List T → List T → Option ((List (Int × T)) × Bool)) (IHR : ∀ (a0 : List (Int × T)) (patterns_a1 : List T) (l_a2 : List T) (a : (List (Int × T)) × Bool), rec a0 patterns_a1 l_a2 = some a → zf Tryz.prog 166 [.lst (a0.map zr), .lst (patterns_a1.map zl), .lst (l_a2.map zl)] (.tup [.lst (a.1.map zr), .bool a.2])) (a0 : List (Int × T)) (pattern_a1 : T) (t_a2 : T) (a : (List (Int × T)) × Bool) (hr : qeI rec a0 pattern_a1 t_a2 = some a) : zf Tryz.prog 179 [.lst (a0.map zr), zl pattern_a1, zl t_a2] (.tup [.lst (a.1.map zr), .bool a.2]) := by
 unfold qeI at hr
 refine qx Tryz.func179 rfl fun K b c => ?_
 refine st ?_
 refine rd rfl (qcG rfl rfl rfl) (rd rfl (qcG rfl rfl rfl) ?_)
 refine st ?_
 refine rd rfl (qG rfl qcC rfl (qgp _) (qgk _) rfl) ?_
 refine st ?_
 refine zh 11 rfl hr (fun _ hr => ?_) (fun _ hr => ?_)
 refine st ?_
 refine rd rfl (qG rfl qcC rfl (qgp _) (qgk _) rfl) (qd 3 rfl ?_)
 refine zo 15 rfl hr (fun _ hr => ?_) (fun _ hr => ?_)
 refine st ?_
 cases hr
 refine qaw Tryz.func179 _ (.cons (za rfl (Wk.full _)) (.cons (za rfl (Wk.refl _)) .nil)) ?_
 rfl
 refine rd rfl (qG rfl qgn rfl (qmo _) (qmn _) rfl) (qd 1 rfl (rd rfl (qG rfl qgn rfl (qmo _) (qmn _) rfl) (qd 1 rfl (rd rfl (qgP rfl rfl rfl rfl) ?_))))
 refine st ?_
 refine zh 21 rfl hr (fun _ hr => ?_) (fun _ hr => ?_)
 refine st ?_
 cases hr
 refine qaw Tryz.func179 _ (.cons (za rfl (Wk.full _)) (.cons (za rfl (Wk.refl _)) .nil)) ?_
 rfl
 refine st ?_
 refine rd rfl (qG rfl qcx rfl (qhm _) (qhl _) rfl) (qd 1 rfl (rd rfl (qG rfl qcx rfl (qhm _) (qhl _) rfl) (qd 1 rfl ?_)))
 obtain ⟨r4, h4, hr⟩ := zd hr
 refine qdY rfl qh9 (IHR _ _ _ _ h4) ?_
 exact fin hr
 refine st ?_
 refine rd rfl (qG rfl qcC rfl (qgp _) (qgk _) rfl) ?_
 refine st ?_
 refine zh 32 rfl hr (fun _ hr => ?_) (fun _ hr => ?_)
 refine st ?_
 obtain ⟨r6, h6, hr⟩ := zd hr
 refine qdY rfl qfN (qfK _ _ _ h6) ?_
 refine st ?_
 refine zh 36 rfl hr (fun _ hr => ?_) (fun _ hr => ?_)
 refine st ?_
 cases hr
 refine qaw Tryz.func179 _ (.cons (za rfl (Wk.full _)) (.cons (za rfl (Wk.refl _)) .nil)) ?_
 rfl
 exact fin hr
 refine st ?_
 refine rd rfl (qG rfl qcI rfl (qgv _) (qgu _) rfl) (qd 1 rfl ?_)
 refine zj hr rfl qib (qiu _ _) (fun r8 h8 hr => ?_)
 refine st ?_
 refine zh 43 rfl hr (fun _ hr => ?_) (fun _ hr => ?_)
 refine st ?_
 refine rd rfl (qG rfl qcI rfl (qgv _) (qgu _) rfl) (qd 2 rfl (rd rfl (qay rfl ql7 (.oc rfl (.oc rfl .nil)) (.cons rfl rfl rfl (.cons rfl (qc2 _) rfl (.nil _)))) ?_))
 refine zj hr rfl qk2 (qlg _ _) (fun r10 h10 hr => ?_)
 exact fin hr
 refine st ?_
 refine qdH 8 0 (qd 2 rfl ?_)
 obtain ⟨q_11, h11, hr⟩ := zd hr
 refine st ?_
 obtain ⟨r12, h12, hr⟩ := zd hr
 refine qdY rfl qfN (qfK _ _ _ h12) ?_
 refine st ?_
 refine zh 57 rfl hr (fun _ hr => ?_) (fun _ hr => ?_)
 refine st ?_
 cases hr
 refine qaw Tryz.func179 _ (.cons (za rfl (Wk.full _)) (.cons (za rfl (Wk.refl _)) .nil)) ?_
 rfl
 exact fin hr
def qap (k : ((List (Int × T))) → Bool → Option ((List (Int × T)) × Bool)) (rec : (List (Int × T)) → List T → List T → Option ((List (Int × T)) × Bool)) (a1 : List T) : List T → (List (Int × T)) → Bool → Nat → Option ((List (Int × T)) × Bool)
 | [], e2, o3, i4 =>
 (k e2 o3)
 | q_7 :: rest, e2, o3, i4 =>
 (bif o3 then
 ((zi a1 (i4 : Int)).bind fun q_9 =>
 ((qeI rec e2 q_9 q_7).bind fun r10 =>
 (qap k rec a1 rest r10.1 r10.2 (i4 + 1))))
 else
 (k e2 o3))
def qd5 : Nat → (List (Int × T)) → List T → List T → Option ((List (Int × T)) × Bool)
 | 0, _, _, _ => none
 | fuel + 1, a0, a1, a2 =>
  (fun (rec : (List (Int × T)) → List T → List T → Option ((List (Int × T)) × Bool)) =>
   (bif ((a1.length : Int) != (a2.length : Int)) then
   some ([], false)
   else
   (qap (fun e5 o6 =>
   some (e5, o6)) rec a1 a2 a0 true 0))) (qd5 fuel)
theorem qlh (fuel : Nat) (rec : (List (Int × T)) → List T → List T → Option ((List (Int × T)) × Bool)) (IHR : ∀ (a0 : List (Int × T)) (a1 : List T) (a2 : List T) (a : (List (Int × T)) × Bool), rec a0 a1 a2 = some a → zf Tryz.prog 166 [.lst (a0.map zr), .lst (a1.map zl), .lst (a2.map zl)] (.tup [.lst (a.1.map zr), .bool a.2])) (a0 : List (Int × T)) (a1 : List T) (a2 : List T) (a : (List (Int × T)) × Bool)
 (hr : (bif ((a1.length : Int) != (a2.length : Int)) then
some ([], false)
else
(qap (fun e5 o6 =>
some (e5, o6)) rec a1 a2 a0 true 0)) = some a) : zf Tryz.prog 166 [.lst (a0.map zr), .lst (a1.map zl), .lst (a2.map zl)] (.tup [.lst (a.1.map zr), .bool a.2]) := by
 refine qx Tryz.func166 rfl fun K i j => ?_
 refine st ?_
 refine zh 14 rfl hr (fun _ hr => ?_) (fun _ hr => ?_)
 refine st ?_
 cases hr
 refine qaw Tryz.func166 _ (.cons (za rfl (Wk.full _)) (.cons (za rfl (Wk.refl _)) .nil)) ?_
 rfl
 refine st ?_
 obtain ⟨d, e, hr⟩ := exK (fun k => qap k rec a1 a2 a0 true 0) hr
 refine qct 2 rfl (asl rfl) fun g => ?_
 simp only [jb] at g
 refine qq (fun env σ => ∃ (e5 : List (Int × T)) (o6 : Bool), env = [(0, .lst (e5.map zr)), (8, .bool o6)] ∧ σ = [] ∧ d e5 o6 = some a) ?_ (fun l => ?_)
 rintro _ _ ⟨e5, o6, rfl, rfl, hr⟩
 rw [e] at hr
 exact fin hr
 refine qab [1, 2, 0, 8, 9] rfl (qR (fun n env σ => ∃ (e2 : List (Int × T)) (o3 : Bool) (i4 : Nat), n = a2.length - i4 ∧ (env = [(1, .lst (a1.map zl)), (2, .lst (a2.map zl)), (0, .lst (e2.map zr)), (8, .bool o3), (9, .int .i64 (i4 : Int))]) ∧ (σ = []) ∧ (i4 ≤ a2.length) ∧ (qap d rec a1 (a2.drop i4) e2 o3 i4 = some a)) _ ⟨a0, true, 0, rfl, rfl, rfl, jc _, hr⟩ ?_)
 rintro n _ _ ⟨e2, o3, i4, rfl, rfl, rfl, h, hr⟩ m
 rcases zb a2 i4 h with ⟨b, c, o⟩ | ⟨q_7, b, c, p, q⟩
 rw [c, qap] at hr
 refine qai (qai (ze 7 0 (qd 2 rfl (qjz rfl (qd 2 rfl (qhh 19 false rfl b ?_))))))
 exact fin hr
 rw [c, qap] at hr
 refine qai (qai (ze 7 0 (qd 2 rfl (qjz rfl (qd 2 rfl (qhh 19 true rfl b ?_))))))
 refine st ?_
 refine zh 21 rfl hr (fun _ hr => ?_) (fun _ hr => ?_)
 refine st ?_
 refine qy (qdH 15 0 (qd 3 rfl ?_))
 obtain ⟨q_9, h9, hr⟩ := zd hr
 refine st ?_
 obtain ⟨r10, h10, hr⟩ := zd hr
 refine qdY rfl qmi (qlR rec IHR _ _ _ _ h10) ?_
 exact fin hr
 exact fin hr
theorem qio : ∀ (fuel : Nat) (a0 : List (Int × T)) (a1 : List T) (a2 : List T) (res : (List (Int × T)) × Bool), qd5 fuel a0 a1 a2 = some res → zf Tryz.prog 166 [.lst (a0.map zr), .lst (a1.map zl), .lst (a2.map zl)] (.tup [.lst (res.1.map zr), .bool res.2])
 | 0, _, _, _, _, h => by cases h
 | fuel + 1, a0, a1, a2, res, h => qlh fuel (qd5 fuel) (qio fuel) a0 a1 a2 res h
def qe1 (fuel : Nat) (a0 : List (Int × T)) (a1 : At) (a2 : At) : Option ((List (Int × T)) × Bool) :=
 (bif (!(a1.n.toList == a2.n.toList)) then
 some ([], false)
 else
 ((qd5 fuel a0 a1.ts a2.ts).bind fun r2 =>
 some (r2.1, r2.2)))
theorem qma (fuel : Nat) (a0 : List (Int × T)) (a1 : At) (a2 : At) (a : (List (Int × T)) × Bool) (hr : qe1 fuel a0 a1 a2 = some a) : zf Tryz.prog 144 [.lst (a0.map zr), zY a1, zY a2] (.tup [.lst (a.1.map zr), .bool a.2]) := by
 unfold qe1 at hr
 refine qx Tryz.func144 rfl fun K b c => ?_
 refine st ?_
 refine rd rfl (qcG rfl rfl rfl) (rd rfl (qcG rfl rfl rfl) ?_)
 refine st ?_
 refine rd rfl (qgP rfl rfl rfl rfl) (qac ?_)
 refine zh 12 rfl hr (fun _ hr => ?_) (fun _ hr => ?_)
 refine st ?_
 cases hr
 refine qaw Tryz.func144 _ (.cons (za rfl (Wk.full _)) (.cons (za rfl (Wk.refl _)) .nil)) ?_
 rfl
 refine st ?_
 refine zj hr rfl qh9 (qio fuel _ _ _) (fun r2 h2 hr => ?_)
 exact fin hr
def qdE (a0 : Int) (a1 : Int) : Option Bool :=
 (bif (decide (a0 > (0 : Int))) then
 (bif (decide (a1 > (0 : Int))) then
 (bif (decide ((wr (a0 + a1)) < (0 : Int))) then
 some (true)
 else
 (bif (decide (a0 < (0 : Int))) then
 (bif (decide (a1 < (0 : Int))) then
 some ((decide ((wr (a0 + a1)) ≥ (0 : Int))))
 else
 some (false))
 else
 some (false)))
 else
 (bif (decide (a0 < (0 : Int))) then
 (bif (decide (a1 < (0 : Int))) then
 some ((decide ((wr (a0 + a1)) ≥ (0 : Int))))
 else
 some (false))
 else
 some (false)))
 else
 (bif (decide (a0 < (0 : Int))) then
 (bif (decide (a1 < (0 : Int))) then
 some ((decide ((wr (a0 + a1)) ≥ (0 : Int))))
 else
 some (false))
 else
 some (false)))
theorem qkX (a0 : Int) (a1 : Int) (a : Bool) (hr : qdE a0 a1 = some a) : zf Tryz.prog 197 [.int .i64 a0, .int .i64 a1] (.bool a) := by
 unfold qdE at hr
 refine qx Tryz.func197 rfl fun K b c => ?_
 refine st ?_
 refine rd rfl (qeg rfl rfl rfl rfl) ?_
 refine st ?_
 refine zo 11 rfl hr (fun _ hr => ?_) (fun _ hr => ?_)
 refine qd 4 rfl ?_
 refine zo 15 rfl hr (fun _ hr => ?_) (fun _ hr => ?_)
 refine qd 4 rfl ?_
 refine zo 19 rfl hr (fun _ hr => ?_) (fun _ hr => ?_)
 exact fin hr
 refine qd 3 rfl ?_
 refine zo 22 rfl hr (fun _ hr => ?_) (fun _ hr => ?_)
 refine qd 4 rfl ?_
 refine zo 26 rfl hr (fun _ hr => ?_) (fun _ hr => ?_)
 exact fin hr
 exact fin hr
 exact fin hr
 refine qd 7 rfl ?_
 refine zo 22 rfl hr (fun _ hr => ?_) (fun _ hr => ?_)
 refine qd 4 rfl ?_
 refine zo 26 rfl hr (fun _ hr => ?_) (fun _ hr => ?_)
 exact fin hr
 exact fin hr
 exact fin hr
 refine qd 11 rfl ?_
 refine zo 22 rfl hr (fun _ hr => ?_) (fun _ hr => ?_)
 refine qd 4 rfl ?_
 refine zo 26 rfl hr (fun _ hr => ?_) (fun _ hr => ?_)
 exact fin hr
 exact fin hr
 exact fin hr
def qdc (a0 : Int) : Option T :=
 some ((T.mk 1 a0 ⟨#[]⟩ []))
theorem qf4 (a0 : Int) (res : T) (hr : qdc a0 = some res) : zf Tryz.prog 26 [.int .i64 a0] (zl res) := by
 unfold qdc at hr
 refine qx Tryz.func26 rfl fun K hK hF => (qai (ze 1 1 (ew rfl (qau rfl qd8) ?_)))
 rintro _ _ ⟨b2_0, rfl, rfl⟩
 refine st0 ?_
 refine ze 3 16 (qd 1 rfl (rd rfl (qay rfl qha (.oc rfl (.oc rfl .nil)) (.cons rfl rfl rfl (.cons rfl rfl rfl (.nil _)))) (qbZ rfl (pf0 _) (qac ?_))))
 cases hr
 refine qaw Tryz.func26 _ (.cons (zm rfl (.head _) (by exact qdI) rfl (Wk.refl _)) .nil) ?_
 first | rfl | (show _ = D.agg (fsT _); rw [qfk] <;> rfl) | simp [yI, zl, qfk, T.k, T.i, T.s, T.ar]
def qhf (a0 : Int) : Option T :=
 some ((T.mk 0 a0 ⟨#[]⟩ []))
theorem qmS (a0 : Int) (res : T) (hr : qhf a0 = some res) : zf Tryz.prog 28 [.int .i64 a0] (zl res) := by
 unfold qhf at hr
 refine qx Tryz.func28 rfl fun K hK hF => (qai (ze 1 1 (ew rfl (qau rfl qd8) ?_)))
 rintro _ _ ⟨b2_0, rfl, rfl⟩
 refine st0 ?_
 refine ze 3 16 (qd 1 rfl (rd rfl (qay rfl qha (.oc rfl (.oc rfl .nil)) (.cons rfl rfl rfl (.cons rfl rfl rfl (.nil _)))) (qbZ rfl (pf0 _) (qac ?_))))
 cases hr
 refine qaw Tryz.func28 _ (.cons (zm rfl (.head _) (by exact qdI) rfl (Wk.refl _)) .nil) ?_
 first | rfl | (show _ = D.agg (fsT _); rw [qfk] <;> rfl) | simp [yI, zl, qfk, T.k, T.i, T.s, T.ar]
def qdL (rec : (List (Int × T)) → Int → List T → Option (List T)) (a0 : List (Int × T)) (a1 : Int) (a2 : T) : Option T :=
 (bif (a2.k == (2 : Int)) then
 ((rec a0 a1 a2.ar).bind fun r3 =>
 some ((T.mk 2 0 a2.s r3)))
 else
 (bif (a2.k == (1 : Int)) then
 ((qdX a0 a2.i).bind fun r5 =>
 (bif (decide (r5 ≥ (0 : Int))) then
 ((zi a0 r5).bind fun q_7 =>
 some (q_7.2))
 else
 ((qdE a1 a2.i).bind fun r8 =>
 (bif r8 then
 ((qdc a2.i).bind fun r10 =>
 some (r10))
 else
 ((qdc (wr (a1 + a2.i))).bind fun r11 =>
 some (r11))))))
 else
 (bif (a2.k == (0 : Int)) then
 ((qhf a2.i).bind fun r13 =>
 some (r13))
 else
 some (a2))))
theorem qj2 (rec : (List (Int × T)) → Int → List T → Option (List T)) (IHR : ∀ (a0 : List (Int × T)) (a1 : Int) (l_a2 : List T) (res : List T), rec a0 a1 l_a2 = some res → zf Tryz.prog 170 [.lst (a0.map zr), .int .i64 a1, .lst (l_a2.map zl)] (.lst (res.map zl))) (a0 : List (Int × T)) (a1 : Int) (t_a2 : T) (res : T) (hr : qdL rec a0 a1 t_a2 = some res) : zf Tryz.prog 186 [.lst (a0.map zr), .int .i64 a1, zl t_a2] (zl res) := by
 unfold qdL at hr
 refine qx Tryz.func186 rfl fun K hK hF => (qai (ze 2 4 (rd rfl (qcG rfl rfl rfl) (ew rfl (qau rfl qd8) ?_))))
 rintro _ _ ⟨b6_0, rfl, rfl⟩
 refine st ?_
 refine rd rfl (qG rfl qcC rfl (qgp _) (qgk _) rfl) ?_
 refine st ?_
 refine qy ?_
 refine st ?_
 refine zh 10 rfl hr (fun h10_1 hr => ?_) (fun h10_1 hr => ?_)
 refine st ?_
 refine qdH 9 65536 (rd rfl (qG rfl qgn rfl (qmo _) (qmn _) rfl) (qd 3 rfl (rd rfl (qG rfl qcx rfl (qhm _) (qhl _) rfl) (qd 1 rfl ?_))))
 obtain ⟨r3, h3, hr⟩ := zd hr
 refine qdY rfl qhn (IHR _ _ _ _ h3) (rd rfl (qay rfl qha (.oc rfl (.oc rfl (.oc rfl .nil))) (.cons rfl rfl rfl (.cons rfl rfl rfl (.cons rfl rfl rfl (.nil _))))) (qbZ rfl (pf0 _) (qac ?_)))
 cases hr
 refine qaw Tryz.func186 _ (.cons (zm rfl (.head _) (by exact qdI) rfl (Wk.refl _)) .nil) ?_
 first | rfl | (show _ = D.agg (fsT _); rw [qfk] <;> rfl) | simp [yI, zl, qfk, T.k, T.i, T.s, T.ar]
 refine st ?_
 refine zh 20 rfl hr (fun h20_3 hr => ?_) (fun h20_3 hr => ?_)
 refine st ?_
 refine rd rfl (qG rfl qcI rfl (qgv _) (qgu _) rfl) (qd 1 rfl ?_)
 refine zj hr rfl qib (qiu _ _) (fun r5 h5 hr => ?_)
 refine st ?_
 refine zh 27 rfl hr (fun h27_5 hr => ?_) (fun h27_5 hr => ?_)
 refine st0 ?_
 refine ze 6 1024 (qd 2 rfl ?_)
 obtain ⟨q_7, h7, hr⟩ := zd hr
 refine st ?_
 refine qbZ rfl (pf0 _) (qac ?_)
 cases hr
 refine qaw Tryz.func186 _ (.cons (zm rfl (.head _) (by exact qdI) (qc2 _) (Wk.refl _)) .nil) ?_
 rfl
 refine st ?_
 refine rd rfl (qG rfl qcI rfl (qgv _) (qgu _) rfl) (qd 1 rfl ?_)
 refine zj hr rfl qk8 (qkX _ _) (fun r8 h8 hr => ?_)
 refine qac ?_
 refine zh 36 rfl hr (fun h36_8 hr => ?_) (fun h36_8 hr => ?_)
 refine st0 ?_
 refine ze 4 64 (rd rfl (qG rfl qcI rfl (qgv _) (qgu _) rfl) (qd 1 rfl ?_))
 refine zj hr rfl qf7 (qf4 _) (fun r10 h10 hr => ?_)
 refine qbZ rfl (pf0 _) (qac ?_)
 cases hr
 refine qaw Tryz.func186 _ (.cons (zm rfl (.head _) (by exact qdI) (qc2 _) (Wk.refl _)) .nil) ?_
 rfl
 refine st0 ?_
 refine ze 6 1024 (qd 1 rfl (rd rfl (qG rfl qcI rfl (qgv _) (qgu _) rfl) (qd 1 rfl (rd rfl (qeg rfl rfl rfl rfl) ?_))))
 refine zj hr rfl qf7 (qf4 _) (fun r11 h11 hr => ?_)
 refine qbZ rfl (pf0 _) (qac ?_)
 cases hr
 refine qaw Tryz.func186 _ (.cons (zm rfl (.head _) (by exact qdI) (qc2 _) (Wk.refl _)) .nil) ?_
 rfl
 refine st ?_
 refine zh 45 rfl hr (fun h45_11 hr => ?_) (fun h45_11 hr => ?_)
 refine st0 ?_
 refine ze 4 64 (rd rfl (qG rfl qcI rfl (qgv _) (qgu _) rfl) (qd 1 rfl ?_))
 refine zj hr rfl qm2 (qmS _) (fun r13 h13 hr => ?_)
 refine qbZ rfl (pf0 _) (qac ?_)
 cases hr
 refine qaw Tryz.func186 _ (.cons (zm rfl (.head _) (by exact qdI) (qc2 _) (Wk.refl _)) .nil) ?_
 rfl
 refine st0 ?_
 refine ze 2 4 (qd 1 rfl (qbZ rfl (pf0 _) (qac ?_)))
 cases hr
 refine qaw Tryz.func186 _ (.cons (zm rfl (.head _) (by exact qdI) (qc2 _) (Wk.refl _)) .nil) ?_
 rfl
def qas (k : List T → Option (List T)) (rec : (List (Int × T)) → Int → List T → Option (List T)) (a0 : List (Int × T)) (a1 : Int) : List T → List T → Option (List T)
 | [], o4 =>
 (k o4)
 | q_8 :: rest, o4 =>
 ((qdL rec a0 a1 q_8).bind fun r9 =>
 ((zF 56 o4 [r9]).bind fun l10 =>
 (qas k rec a0 a1 rest l10)))
def qc7 : Nat → (List (Int × T)) → Int → List T → Option (List T)
 | 0, _, _, _ => none
 | fuel + 1, a0, a1, a2 =>
  (fun (rec : (List (Int × T)) → Int → List T → Option (List T)) =>
   (qas (fun o7 =>
   some (o7)) rec a0 a1 a2 [])) (qc7 fuel)
theorem qjI (fuel : Nat) (rec : (List (Int × T)) → Int → List T → Option (List T)) (IHR : ∀ (a0 : List (Int × T)) (a1 : Int) (a2 : List T) (a : List T), rec a0 a1 a2 = some a → zf Tryz.prog 170 [.lst (a0.map zr), .int .i64 a1, .lst (a2.map zl)] (.lst (a.map zl))) (a0 : List (Int × T)) (a1 : Int) (a2 : List T) (a : List T)
 (hr : (qas (fun o7 =>
some (o7)) rec a0 a1 a2 []) = some a) : zf Tryz.prog 170 [.lst (a0.map zr), .int .i64 a1, .lst (a2.map zl)] (.lst (a.map zl)) := by
 refine qx Tryz.func170 rfl fun K i j => (qai (ze 1 1 (ew rfl (qN 78 4 (.inl rfl)) ?_)))
 rintro _ _ ⟨u6_0, rfl, rfl⟩
 refine st0 ?_
 refine ze 1 1 (ew rfl (qN 78 4 (.inl rfl)) ?_)
 rintro _ _ ⟨u7_1, rfl, rfl⟩
 refine st ?_
 obtain ⟨c, d, hr⟩ := exK (fun k => qas k rec a0 a1 a2 []) hr
 refine qct 2 rfl (asl rfl) fun e => ?_
 simp only [jb] at e
 refine qq (fun env σ => ∃ (o7 : List T) (u6 : Value), env = [(7, .own u6 (o7.map zl))] ∧ σ = [.row u6 o7.length 78 4] ∧ c o7 = some a) ?_ (fun l => ?_)
 rintro _ _ ⟨o7, u6, rfl, rfl, hr⟩
 rw [d] at hr
 refine st ?_
 cases hr
 refine qaw Tryz.func170 _ (.cons (za rfl (Wk.own _ _)) .nil) ?_
 rfl
 refine qab [0, 1, 2, 7, 8] rfl (qbA [_] _ (pf0 _) (qR (fun n env σ => ∃ (o4 : List T) (i5 : Nat) (u3 : Value), n = a2.length - i5 ∧ (env = [(0, .lst (a0.map zr)), (1, .int .i64 a1), (2, .lst (a2.map zl)), (7, .own u3 (o4.map zl)), (8, .int .i64 (i5 : Int))]) ∧ (σ = [.row u3 o4.length 78 4]) ∧ (i5 ≤ a2.length) ∧ (qas c rec a0 a1 (a2.drop i5) o4 = some a)) _ ⟨[], 0, u7_1, rfl, rfl, rfl, jc _, hr⟩ ?_))
 rintro n _ _ ⟨o4, i5, u3, rfl, rfl, rfl, g, hr⟩ m
 rcases zb a2 i5 g with ⟨h, b, o⟩ | ⟨q_8, h, b, p, q⟩
 rw [b, qas] at hr
 exact fin hr
 rw [b, qas] at hr
 refine st ?_
 refine qy (ze 11 262144 ?_)
 refine st ?_
 obtain ⟨r9, h9, hr⟩ := zd hr
 refine qdY rfl qkm (qj2 rec IHR _ _ _ _ h9) (rd rfl (qet (f := zl) [.tmp 22] [r9] rfl qbg rfl rfl od od (.oc rfl .nil) qc2 (fun _ => rfl)) ?_)
 obtain ⟨l10, h10, hr⟩ := zd hr
 refine ew rfl (qah (f := zl) o4 [r9] rfl qbg rfl rfl (asl rfl) (pf0 _) rfl qc2 h10) ?_
 rintro _ _ ⟨u24_10, rfl, rfl⟩
 exact fin hr
theorem qhp : ∀ (fuel : Nat) (a0 : List (Int × T)) (a1 : Int) (a2 : List T) (res : List T), qc7 fuel a0 a1 a2 = some res → zf Tryz.prog 170 [.lst (a0.map zr), .int .i64 a1, .lst (a2.map zl)] (.lst (res.map zl))
 | 0, _, _, _, _, h => by cases h
 | fuel + 1, a0, a1, a2, res, h => qjI fuel (qc7 fuel) (qhp fuel) a0 a1 a2 res h
def qcF (fuel : Nat) (a0 : List (Int × T)) (a1 : Int) (a2 : Gl) : Option Gl :=
 ((qc7 fuel a0 a1 a2.ts).bind fun r2 =>
 some ((⟨a2.op, a2.n, r2⟩ : Gl)))
theorem qgE (fuel : Nat) (a0 : List (Int × T)) (a1 : Int) (a2 : Gl) (res : Gl) (hr : qcF fuel a0 a1 a2 = some res) : zf Tryz.prog 146 [.lst (a0.map zr), .int .i64 a1, zE a2] (zE res) := by
 unfold qcF at hr
 refine qx Tryz.func146 rfl fun K hK hF => (qai (ze 2 4 (rd rfl (qcG rfl rfl rfl) (ew rfl (qau rfl qjh) ?_))))
 rintro _ _ ⟨b6_0, rfl, rfl⟩
 refine st ?_
 refine qdH 11 1048576 (qd 8 rfl ?_)
 refine zj hr rfl qhn (qhp fuel _ _ _) (fun r2 h2 hr => ?_)
 refine rd rfl (qay rfl qmF (.oc rfl (.oc rfl (.oc rfl .nil))) (.cons rfl rfl rfl (.cons rfl rfl rfl (.cons rfl rfl rfl (.nil _))))) (qbZ rfl (pf0 _) (qac ?_))
 cases hr
 refine qaw Tryz.func146 _ (.cons (zm rfl (.head _) (by exact qjl) rfl (Wk.refl _)) .nil) ?_
 rfl
def qdG (rec : (List (Int × T)) → List T → Option (List T)) (a0 : List (Int × T)) (a1 : T) : Option T :=
 (bif (a1.k == (1 : Int)) then
 ((qc4 a0 a1.i).bind fun r4 =>
 (bif r4.2 then
 some (r4.1)
 else
 some ((T.mk a1.k a1.i a1.s a1.ar))))
 else
 (bif (a1.k == (2 : Int)) then
 ((rec a0 a1.ar).bind fun r8 =>
 some ((T.mk a1.k a1.i a1.s r8)))
 else
 some ((T.mk a1.k a1.i a1.s a1.ar))))
theorem qh1 (rec : (List (Int × T)) → List T → Option (List T)) (IHR : ∀ (a0 : List (Int × T)) (l_a1 : List T) (res : List T), rec a0 l_a1 = some res → zf Tryz.prog 141 [.lst (a0.map zr), .lst (l_a1.map zl)] (.lst (res.map zl))) (a0 : List (Int × T)) (t_a1 : T) (res : T) (hr : qdG rec a0 t_a1 = some res) : zf Tryz.prog 165 [.lst (a0.map zr), zl t_a1] (zl res) := by
 unfold qdG at hr
 refine qx Tryz.func165 rfl fun K hK hF => (qai (ze 2 5 (ew rfl (ql8 rfl rfl rfl) ?_)))
 rintro _ _ ⟨b3_0, rfl, rfl⟩
 refine y7 [.cell b3_0 (.agg [.int .i64 t_a1.k, .int .i64 t_a1.i, .str t_a1.s, .lst (t_a1.ar.map zl)])] (by simp only [zl, qfk]) (ew rfl (qau rfl qd8) ?_)
 rintro _ _ ⟨b4_1, rfl, rfl⟩
 refine st0 ?_
 refine ze 2 8 (rd rfl (qg rfl qcC rfl) (qbR 1 rfl (qac (qy ?_))))
 refine st ?_
 refine zh 9 rfl hr (fun h9_2 hr => ?_) (fun h9_2 hr => ?_)
 refine st0 ?_
 refine ze 10 81952 (qd 1 rfl (rd rfl (qg rfl qcI rfl) (qbR 1 rfl ?_)))
 refine zj hr rfl qfq (qfr _ _) (fun r4 h4 hr => ?_)
 refine qd 3 rfl (ew rfl (qau rfl qd8) ?_)
 rintro _ _ ⟨b5_4, rfl, rfl⟩
 refine qbZ rfl (pf0 _) (qd 1 rfl (qac (qbb 5 b5_4 rfl (pf0 _) ?_)))
 refine st ?_
 refine zh 18 rfl hr (fun h18_5 hr => ?_) (fun h18_5 hr => ?_)
 refine st0 ?_
 refine ze 2 4 (qd 1 rfl (qbZ rfl (pf0 _) (qac ?_)))
 cases hr
 refine qaw Tryz.func165 _ (.cons (zm rfl (.head _) (by exact qdI) (qc2 _) (Wk.refl _)) .nil) ?_
 rfl
 refine st0 ?_
 refine ze 2 6 (qbR 1 rfl (qbZ rfl (pf0 _) (qac ?_)))
 cases hr
 refine qaw Tryz.func165 _ (.cons (zm rfl (.head _) (by exact qdI) rfl (Wk.refl _)) .nil) ?_
 first | rfl | (show _ = D.agg (fsT _); rw [qfk] <;> rfl) | simp [yI, zl, qfk, T.k, T.i, T.s, T.ar]
 refine st ?_
 refine zh 20 rfl hr (fun h20_6 hr => ?_) (fun h20_6 hr => ?_)
 refine qf1 rfl (ze 6 1056 (qd 1 rfl (rd rfl (qg rfl qcx rfl) (qbR 1 rfl ?_))))
 obtain ⟨r8, h8, hr⟩ := zd hr
 refine qdY rfl qfH (IHR _ _ _ h8) (rd rfl (qg rfl qcx rfl) (z9 rfl (qc9 _ rfl rfl rfl (Wk.refl _) (pf1 _ _ _) rfl rfl (by exact qjT) rfl rfl rfl) ?_))
 refine st0 ?_
 refine ze 2 6 (qbR 0 rfl (qbZ rfl (pf1 _ _ _) (qac ?_)))
 cases hr
 refine qaw Tryz.func165 _ (.cons (zm rfl (.head _) (by exact qdI) rfl (Wk.refl _)) .nil) ?_
 first | rfl | (show _ = D.agg (fsT _); rw [qfk] <;> rfl) | simp [yI, zl, qfk, T.k, T.i, T.s, T.ar]
 refine st0 ?_
 refine ze 2 6 (qbR 1 rfl (qbZ rfl (pf0 _) (qac ?_)))
 cases hr
 refine qaw Tryz.func165 _ (.cons (zm rfl (.head _) (by exact qdI) rfl (Wk.refl _)) .nil) ?_
 first | rfl | (show _ = D.agg (fsT _); rw [qfk] <;> rfl) | simp [yI, zl, qfk, T.k, T.i, T.s, T.ar]
def qan (k : List T → Option (List T)) (rec : (List (Int × T)) → List T → Option (List T)) (a0 : List (Int × T)) : List T → List T → Option (List T)
 | [], o4 =>
 (k o4)
 | q_8 :: rest, o4 =>
 ((qdG rec a0 q_8).bind fun r9 =>
 ((zF 56 o4 [r9]).bind fun l10 =>
 (qan k rec a0 rest l10)))
def qbd : Nat → (List (Int × T)) → List T → Option (List T)
 | 0, _, _ => none
 | fuel + 1, a0, a1 =>
  (fun (rec : (List (Int × T)) → List T → Option (List T)) =>
   (qan (fun o7 =>
   some (o7)) rec a0 a1 [])) (qbd fuel)
theorem qjw (fuel : Nat) (rec : (List (Int × T)) → List T → Option (List T)) (IHR : ∀ (a0 : List (Int × T)) (a1 : List T) (a : List T), rec a0 a1 = some a → zf Tryz.prog 141 [.lst (a0.map zr), .lst (a1.map zl)] (.lst (a.map zl))) (a0 : List (Int × T)) (a1 : List T) (a : List T)
 (hr : (qan (fun o7 =>
some (o7)) rec a0 a1 []) = some a) : zf Tryz.prog 141 [.lst (a0.map zr), .lst (a1.map zl)] (.lst (a.map zl)) := by
 refine qx Tryz.func141 rfl fun K i j => (qai (ze 1 1 (ew rfl (qN 78 4 (.inl rfl)) ?_)))
 rintro _ _ ⟨u4_0, rfl, rfl⟩
 refine st0 ?_
 refine ze 1 1 (ew rfl (qN 78 4 (.inl rfl)) ?_)
 rintro _ _ ⟨u5_1, rfl, rfl⟩
 refine st ?_
 obtain ⟨c, d, hr⟩ := exK (fun k => qan k rec a0 a1 []) hr
 refine qct 1 rfl (asl rfl) fun e => ?_
 simp only [jb] at e
 refine qq (fun env σ => ∃ (o7 : List T) (u6 : Value), env = [(5, .own u6 (o7.map zl))] ∧ σ = [.row u6 o7.length 78 4] ∧ c o7 = some a) ?_ (fun l => ?_)
 rintro _ _ ⟨o7, u6, rfl, rfl, hr⟩
 rw [d] at hr
 refine st ?_
 cases hr
 refine qaw Tryz.func141 _ (.cons (za rfl (Wk.own _ _)) .nil) ?_
 rfl
 refine qab [0, 1, 5, 6] rfl (qbA [_] _ (pf0 _) (qR (fun n env σ => ∃ (o4 : List T) (i5 : Nat) (u3 : Value), n = a1.length - i5 ∧ (env = [(0, .lst (a0.map zr)), (1, .lst (a1.map zl)), (5, .own u3 (o4.map zl)), (6, .int .i64 (i5 : Int))]) ∧ (σ = [.row u3 o4.length 78 4]) ∧ (i5 ≤ a1.length) ∧ (qan c rec a0 (a1.drop i5) o4 = some a)) _ ⟨[], 0, u5_1, rfl, rfl, rfl, jc _, hr⟩ ?_))
 rintro n _ _ ⟨o4, i5, u3, rfl, rfl, rfl, g, hr⟩ m
 rcases zb a1 i5 g with ⟨h, b, o⟩ | ⟨q_8, h, b, p, q⟩
 rw [b, qan] at hr
 exact fin hr
 rw [b, qan] at hr
 refine st ?_
 refine qy (ze 10 65536 ?_)
 refine st ?_
 obtain ⟨r9, h9, hr⟩ := zd hr
 refine qdY rfl qik (qh1 rec IHR _ _ _ h9) (rd rfl (qet (f := zl) [.tmp 19] [r9] rfl qbg rfl rfl od od (.oc rfl .nil) qc2 (fun _ => rfl)) ?_)
 obtain ⟨l10, h10, hr⟩ := zd hr
 refine ew rfl (qah (f := zl) o4 [r9] rfl qbg rfl rfl (asl rfl) (pf0 _) rfl qc2 h10) ?_
 rintro _ _ ⟨u21_10, rfl, rfl⟩
 exact fin hr
theorem qeE : ∀ (fuel : Nat) (a0 : List (Int × T)) (a1 : List T) (res : List T), qbd fuel a0 a1 = some res → zf Tryz.prog 141 [.lst (a0.map zr), .lst (a1.map zl)] (.lst (res.map zl))
 | 0, _, _, _, h => by cases h
 | fuel + 1, a0, a1, res, h => qjw fuel (qbd fuel) (qeE fuel) a0 a1 res h
def qgH (fuel : Nat) (a0 : List (Int × T)) (a1 : T) : Option T := qdG (qbd fuel) a0 a1
theorem qlI (fuel : Nat) (a0 : List (Int × T)) (a1 : T) (res : T) (hr : qgH fuel a0 a1 = some res) : zf Tryz.prog 165 [.lst (a0.map zr), zl a1] (zl res) := qh1 (qbd fuel) (qeE fuel) a0 a1 res hr
def qcw (fuel : Nat) (a0 : List (Int × T)) (a1 : Gl) : Option Gl :=
 ((qbd fuel a0 a1.ts).bind fun r2 =>
 some ((⟨a1.op, a1.n, r2⟩ : Gl)))
theorem qfR (fuel : Nat) (a0 : List (Int × T)) (a1 : Gl) (res : Gl) (hr : qcw fuel a0 a1 = some res) : zf Tryz.prog 113 [.lst (a0.map zr), zE a1] (zE res) := by
 unfold qcw at hr
 refine qx Tryz.func113 rfl fun K hK hF => (qai (ze 2 4 (rd rfl (qcG rfl rfl rfl) (ew rfl (qau rfl qjh) ?_))))
 rintro _ _ ⟨b4_0, rfl, rfl⟩
 refine st ?_
 refine qdH 10 262144 (qd 7 rfl ?_)
 refine zj hr rfl qfH (qeE fuel _ _) (fun r2 h2 hr => ?_)
 refine rd rfl (qay rfl qmF (.oc rfl (.oc rfl (.oc rfl .nil))) (.cons rfl rfl rfl (.cons rfl rfl rfl (.cons rfl rfl rfl (.nil _))))) (qbZ rfl (pf0 _) (qac ?_))
 cases hr
 refine qaw Tryz.func113 _ (.cons (zm rfl (.head _) (by exact qjl) rfl (Wk.refl _)) .nil) ?_
 rfl
def qbY (k : Option Int) (a0 : List (Int × T)) (fuel : Nat) (r1 : Gl) : List Gl → Option Int
 | [] =>
 k
 | q_5 :: rest =>
 ((qdD r1).bind fun r6 =>
 (bif r6 then
 ((qcw fuel a0 q_5).bind fun r8 =>
 ((qvo r1 r8).bind fun r9 =>
 (bif r9 then
 some (1)
 else
 (qbY k a0 fuel r1 rest))))
 else
 (qbY k a0 fuel r1 rest)))
def qfx (fuel : Nat) (a0 : List (Int × T)) (a1 : List Gl) (a2 : Gl) : Option Int :=
 ((qcw fuel a0 a2).bind fun r1 =>
 (qbY (((qeh fuel r1).bind fun r4 =>
 some (r4))) a0 fuel r1 a1))
theorem qnj (fuel : Nat) (a0 : List (Int × T)) (a1 : List Gl) (a2 : Gl) (a : Int) (hr : qfx fuel a0 a1 a2 = some a) : zf Tryz.prog 145 [.lst (a0.map zr), .lst (a1.map zE), zE a2] (.int .i64 a) := by
 unfold qfx at hr
 refine qx Tryz.func145 rfl fun K i j => ?_
 refine st ?_
 refine rd rfl (qcG rfl rfl rfl) ?_
 refine st0 ?_
 refine ze 5 320 (qd 2 rfl ?_)
 refine zj hr rfl qfQ (qfR fuel _ _) (fun r1 h1 hr => ?_)
 refine ew rfl (qau rfl qjh) ?_
 rintro _ _ ⟨b7_1, rfl, rfl⟩
 refine qbZ rfl (pf0 _) (qac (qbb 7 b7_1 rfl (pf0 _) ?_))
 refine st ?_
 obtain ⟨c, d, hr⟩ := exK (fun k => qbY k a0 fuel r1 a1) hr
 refine qct 1 rfl (asl rfl) fun e => ?_
 simp only [jb] at e
 refine qq (fun env σ => env = [(7, .ptr (zE r1))] ∧ σ = [] ∧ c = some a) ?_ (fun l => ?_)
 rintro _ _ ⟨rfl, rfl, hr⟩
 rw [d] at hr
 refine st ?_
 refine zj hr rfl ql9 (qmf fuel _) (fun r4 h4 hr => ?_)
 exact fin hr
 refine qab [0, 1, 7, 8] rfl (qR (fun n env σ => ∃ (i3 : Nat), n = a1.length - i3 ∧ (env = [(0, .lst (a0.map zr)), (1, .lst (a1.map zE)), (7, .ptr (zE r1)), (8, .int .i64 (i3 : Int))]) ∧ (σ = []) ∧ (i3 ≤ a1.length) ∧ (qbY c a0 fuel r1 (a1.drop i3) = some a)) _ ⟨0, rfl, rfl, rfl, jc _, hr⟩ ?_)
 rintro n _ _ ⟨i3, rfl, rfl, rfl, g, hr⟩ m
 rcases zb a1 i3 g with ⟨h, b, o⟩ | ⟨q_5, h, b, p, q⟩
 rw [b, qbY] at hr
 exact fin hr
 rw [b, qbY] at hr
 refine st ?_
 refine qy (qai (qdH 12 0 (qd 1 rfl ?_)))
 refine zj hr rfl qhZ (qh0 _) (fun r6 h6 hr => ?_)
 refine qd 1 rfl ?_
 refine zo 20 rfl hr (fun _ hr => ?_) (fun _ hr => ?_)
 refine st ?_
 refine zj hr rfl qfQ (qfR fuel _ _) (fun r8 h8 hr => ?_)
 obtain ⟨r9, h9, hr⟩ := zd hr
 refine qdY rfl qj9 (qke _ _ _ h9) ?_
 refine st ?_
 refine zh 29 rfl hr (fun _ hr => ?_) (fun _ hr => ?_)
 exact fin hr
 exact fin hr
 exact fin hr
def qcE (k : Option Bool) (a1 : qm) : List qm → Option Bool
 | [] =>
 k
 | q_2 :: rest =>
 ((qcS q_2 a1).bind fun r3 =>
 (bif (r3 == (0 : Int)) then
 some (true)
 else
 (qcE k a1 rest)))
def qdJ (a0 : List qm) (a1 : qm) : Option Bool :=
 (qcE (some (false)) a1 a0)
theorem qi2 (a0 : List qm) (a1 : qm) (a : Bool) (hr : qdJ a0 a1 = some a) : zf Tryz.prog 147 [.lst (a0.map qf), qf a1] (.bool a) := by
 unfold qdJ at hr
 refine qx Tryz.func147 rfl fun K i j => ?_
 refine st ?_
 refine rd rfl (qcG rfl rfl rfl) ?_
 refine st ?_
 obtain ⟨c, d, hr⟩ := exK (fun k => qcE k a1 a0) hr
 refine qct 0 rfl (asl rfl) fun e => ?_
 simp only [jb] at e
 refine qq (fun env σ => env = [] ∧ σ = [] ∧ c = some a) ?_ (fun l => ?_)
 rintro _ _ ⟨rfl, rfl, hr⟩
 rw [d] at hr
 exact fin hr
 refine qab [0, 3, 5] rfl (qR (fun n env σ => ∃ (i1 : Nat), n = a0.length - i1 ∧ (env = [(0, .lst (a0.map qf)), (3, .ptr (qf a1)), (5, .int .i64 (i1 : Int))]) ∧ (σ = []) ∧ (i1 ≤ a0.length) ∧ (qcE c a1 (a0.drop i1) = some a)) _ ⟨0, rfl, rfl, rfl, jc _, hr⟩ ?_)
 rintro n _ _ ⟨i1, rfl, rfl, rfl, g, hr⟩ m
 rcases zb a0 i1 g with ⟨h, b, o⟩ | ⟨q_2, h, b, p, q⟩
 rw [b, qcE] at hr
 exact fin hr
 rw [b, qcE] at hr
 refine st ?_
 refine qy (qai (qdH 7 0 ?_))
 refine st ?_
 refine zj hr rfl qge (qgc _ _) (fun r3 h3 hr => ?_)
 refine st ?_
 refine zh 18 rfl hr (fun _ hr => ?_) (fun _ hr => ?_)
 exact fin hr
 exact fin hr
def qcg (k : Option ((List (Int × T)) × Bool)) (a2 : List (Int × T)) (e7 : List (Int × T)) (fuel : Nat) (a3 : List Gl) : List Gl → Option ((List (Int × T)) × Bool)
 | [] =>
 k
 | q_13 :: rest =>
 ((qcF fuel e7 0 q_13).bind fun r14 =>
 ((qfx fuel a2 a3 r14).bind fun r15 =>
 (bif (r15 != (1 : Int)) then
 some ([], false)
 else
 (qcg k a2 e7 fuel a3 rest))))
def qcf (k : Option ((List (Int × T)) × Bool)) (i6 : Nat) (a6 : List Int) : Nat → Int → Option ((List (Int × T)) × Bool)
 | 0, k18 =>
 k
 | rest + 1, k18 =>
 ((zi a6 k18).bind fun q_25 =>
 ((zi a6 (i6 : Int)).bind fun q26 =>
 (bif (q_25 == q26) then
 some ([], false)
 else
 (qcf k i6 a6 rest (k18 + 1)))))
def qck (k : ((List (Int × T))) → Option ((List (Int × T)) × Bool)) (fuel : Nat) (a6 : List Int) (a1 : List (Int × At)) : List At → (List (Int × T)) → Nat → Option ((List (Int × T)) × Bool)
 | [], e5, i6 =>
 (k e5)
 | q_17 :: rest, e5, i6 =>
 (qcf (((zi a6 (i6 : Int)).bind fun q_19 =>
 ((qej a1 q_19).bind fun r20 =>
 (bif (!r20.2) then
 some ([], false)
 else
 ((qe1 fuel e5 q_17 r20.1).bind fun r23 =>
 (bif (!r23.2) then
 some ([], false)
 else
 (qck k fuel a6 a1 rest r23.1 (i6 + 1)))))))) i6 a6 ((i6 : Int) - 0 : Int).toNat 0)
def qa3 (fuel : Nat) (a0 : qc) (a1 : List (Int × At)) (a2 : List (Int × T)) (a3 : List Gl) (a4 : List qm) (a5 : Int) (a6 : List Int) : Option ((List (Int × T)) × Bool) :=
 ((zi a0.fd a5).bind fun q1 =>
 ((qcM q1).bind fun r3 =>
 (bif ((a6.length : Int) != (r3.length : Int)) then
 some ([], false)
 else
 (qck (fun e7 =>
 (qcg (((qa2 q1).bind fun r9 =>
 (bif r9 then
 ((qdJ a4 (⟨a5, a6⟩ : qm)).bind fun r11 =>
 (bif r11 then
 some ([], false)
 else
 some (e7, true)))
 else
 some (e7, true)))) a2 e7 fuel a3 q1.fy)) fuel a6 a1 r3 [] 0))))
theorem qi5 (fuel : Nat) (a0 : qc) (a1 : List (Int × At)) (a2 : List (Int × T)) (a3 : List Gl) (a4 : List qm) (a5 : Int) (a6 : List Int) (a : (List (Int × T)) × Bool) (hr : qa3 fuel a0 a1 a2 a3 a4 a5 a6 = some a) : zf Tryz.prog 116 [qi a0, .lst (a1.map zn), .lst (a2.map zr), .lst (a3.map zE), .lst (a4.map qf), .int .i64 a5, .lst (a6.map (D.int .i64))] (.tup [.lst (a.1.map zr), .bool a.2]) := by
 unfold qa3 at hr
 refine qx Tryz.func116 rfl fun K y z => ?_
 refine st ?_
 refine rd rfl (qcG rfl rfl rfl) ?_
 refine st0 ?_
 refine ze 7 5120 (qd 3 rfl ?_)
 obtain ⟨q1, h1, hr⟩ := zd hr
 refine st ?_
 refine ew rfl (qau rfl qhr) ?_
 rintro _ _ ⟨b16_1, rfl, rfl⟩
 refine qbZ rfl (pf0 _) (qac (qbb 16 b16_1 rfl (pf0 _) ?_))
 refine st ?_
 refine zj hr rfl qfA (qfD _) (fun r3 h3 hr => ?_)
 refine st ?_
 refine zh 37 rfl hr (fun _ hr => ?_) (fun _ hr => ?_)
 refine st ?_
 cases hr
 refine qaw Tryz.func116 _ (.cons (za rfl (Wk.full _)) (.cons (za rfl (Wk.refl _)) .nil)) ?_
 rfl
 refine st ?_
 obtain ⟨e, i, hr⟩ := exK (fun k => qck k fuel a6 a1 r3 [] 0) hr
 refine qct 32 rfl (asl rfl) fun j => ?_
 simp only [jb] at j
 refine qq (fun env σ => ∃ (e7 : List (Int × T)), env = [(2, .lst (a2.map zr)), (3, .lst (a3.map zE)), (4, .lst (a4.map qf)), (5, .int .i64 a5), (6, .lst (a6.map (D.int .i64))), (16, .ptr (ql q1)), (18, .lst (e7.map zr))] ∧ σ = [] ∧ e e7 = some a) ?_ (fun A => ?_)
 rintro _ _ ⟨e7, rfl, rfl, hr⟩
 rw [i] at hr
 refine st ?_
 obtain ⟨g, m, hr⟩ := exK (fun k => qcg k a2 e7 fuel a3 q1.fy) hr
 refine qqZ 16 [3] (l := q1.fy.map zE) rfl rfl (asl rfl) fun o => ?_
 simp only [jb] at o
 refine qq (fun env σ => env = [(4, .lst (a4.map qf)), (5, .int .i64 a5), (6, .lst (a6.map (D.int .i64))), (16, .ptr (ql q1)), (18, .lst (e7.map zr))] ∧ σ = [] ∧ g = some a) ?_ (fun B => ?_)
 rintro _ _ ⟨rfl, rfl, hr⟩
 rw [m] at hr
 refine st ?_
 refine zj hr rfl qfw (qfy _) (fun r9 h9 hr => ?_)
 refine qd 1 rfl ?_
 refine zo 102 rfl hr (fun _ hr => ?_) (fun _ hr => ?_)
 refine qd 3 rfl (rd rfl (qay rfl qq0 (.oc rfl (.oc rfl .nil)) (.cons rfl rfl rfl (.cons rfl rfl rfl (.nil _)))) ?_)
 refine zj hr rfl qi8 (qi2 _ _) (fun r11 h11 hr => ?_)
 refine st ?_
 refine zh 108 rfl hr (fun _ hr => ?_) (fun _ hr => ?_)
 refine st ?_
 cases hr
 refine qaw Tryz.func116 _ (.cons (za rfl (Wk.full _)) (.cons (za rfl (Wk.refl _)) .nil)) ?_
 rfl
 exact fin hr
 exact fin hr
 refine qab [2, 3, 4, 5, 6, 16, 18, 25] rfl (qR (fun n env σ => ∃ (i8 : Nat), n = q1.fy.length - i8 ∧ (env = [(2, .lst (a2.map zr)), (3, .lst (a3.map zE)), (4, .lst (a4.map qf)), (5, .int .i64 a5), (6, .lst (a6.map (D.int .i64))), (16, .ptr (ql q1)), (18, .lst (e7.map zr)), (25, .int .i64 (i8 : Int))]) ∧ (σ = []) ∧ (i8 ≤ q1.fy.length) ∧ (qcg g a2 e7 fuel a3 (q1.fy.drop i8) = some a)) _ ⟨0, rfl, rfl, rfl, jc _, hr⟩ ?_)
 rintro n _ _ ⟨i8, rfl, rfl, rfl, p, hr⟩ C
 rcases zb q1.fy i8 p with ⟨q, b, E⟩ | ⟨q_13, q, b, F, G⟩
 rw [b, qcg] at hr
 exact fin hr
 rw [b, qcg] at hr
 refine st ?_
 refine qy ?_
 refine st ?_
 refine zj hr rfl qgI (qgE fuel _ _ _) (fun r14 h14 hr => ?_)
 refine zj hr rfl qnl (qnj fuel _ _ _) (fun r15 h15 hr => ?_)
 refine st ?_
 refine zh 99 rfl hr (fun _ hr => ?_) (fun _ hr => ?_)
 refine st ?_
 cases hr
 refine qaw Tryz.func116 _ (.cons (za rfl (Wk.full _)) (.cons (za rfl (Wk.refl _)) .nil)) ?_
 rfl
 exact fin hr
 refine quB [(1, .lst (a1.map zn)), (2, .lst (a2.map zr)), (3, .lst (a3.map zE)), (4, .lst (a4.map qf)), (5, .int .i64 a5), (6, .lst (a6.map (D.int .i64))), (16, .ptr (ql q1)), (17, .lst (r3.map zY)), (18, .lst ([].map zr)), (19, .int .i64 ((0 : Nat) : Int))] (sc rfl (sc rfl (sc rfl (sc rfl (sc rfl (sc rfl (sc rfl (sc rfl (Sub.cons rfl (Wk.full _) (sbr rfl)))))))))) (qR (fun n env σ => ∃ (e5 : List (Int × T)) (i6 : Nat), n = r3.length - i6 ∧ (env = [(1, .lst (a1.map zn)), (2, .lst (a2.map zr)), (3, .lst (a3.map zE)), (4, .lst (a4.map qf)), (5, .int .i64 a5), (6, .lst (a6.map (D.int .i64))), (16, .ptr (ql q1)), (17, .lst (r3.map zY)), (18, .lst (e5.map zr)), (19, .int .i64 (i6 : Int))]) ∧ (σ = []) ∧ (i6 ≤ r3.length) ∧ (qck e fuel a6 a1 (r3.drop i6) e5 i6 = some a)) _ ⟨[], 0, rfl, rfl, rfl, jc _, hr⟩ ?_)
 rintro n _ _ ⟨e5, i6, rfl, rfl, rfl, s, hr⟩ H
 rcases zb r3 i6 s with ⟨t, c, I⟩ | ⟨q_17, t, c, J, L⟩
 rw [c, qck] at hr
 exact fin hr
 rw [c, qck] at hr
 refine st ?_
 refine qy ?_
 refine st ?_
 obtain ⟨h, u, hr⟩ := exK (fun k => qcf k i6 a6 ((i6 : Int) - 0 : Int).toNat 0) hr
 refine qou 19 rfl fun M => ?_
 refine qq (fun env σ => env = [(1, .lst (a1.map zn)), (2, .lst (a2.map zr)), (3, .lst (a3.map zE)), (4, .lst (a4.map qf)), (5, .int .i64 a5), (6, .lst (a6.map (D.int .i64))), (16, .ptr (ql q1)), (17, .lst (r3.map zY)), (18, .lst (e5.map zr)), (19, .int .i64 (i6 : Int))] ∧ σ = [] ∧ h = some a) ?_ (fun N => ?_)
 rintro _ _ ⟨rfl, rfl, hr⟩
 rw [u] at hr
 refine qai (ze 12 1310720 (qd 3 rfl ?_))
 obtain ⟨q_19, h19, hr⟩ := zd hr
 refine st ?_
 refine zj hr rfl qgS (qgR _ _) (fun r20 h20 hr => ?_)
 refine qd 3 rfl (ew rfl (qau rfl qfI) ?_)
 rintro _ _ ⟨b21_20, rfl, rfl⟩
 refine qbZ rfl (pf0 _) (qd 1 rfl (qac (qbb 21 b21_20 rfl (pf0 _) ?_)))
 refine st ?_
 refine zh 68 rfl hr (fun _ hr => ?_) (fun _ hr => ?_)
 refine st ?_
 cases hr
 refine qaw Tryz.func116 _ (.cons (za rfl (Wk.full _)) (.cons (za rfl (Wk.refl _)) .nil)) ?_
 rfl
 refine st ?_
 refine qdH 12 0 ?_
 refine st ?_
 refine zj hr rfl ql4 (qma fuel _ _ _) (fun r23 h23 hr => ?_)
 refine st ?_
 refine zh 80 rfl hr (fun _ hr => ?_) (fun _ hr => ?_)
 refine st ?_
 cases hr
 refine qaw Tryz.func116 _ (.cons (za rfl (Wk.full _)) (.cons (za rfl (Wk.refl _)) .nil)) ?_
 rfl
 exact fin hr
 refine qab [1, 2, 3, 4, 5, 6, 16, 17, 18, 19, 20] rfl (qR (fun n env σ => ∃ (k18 : Int) (m2 : Nat), (m2 = n) ∧ (env = [(1, .lst (a1.map zn)), (2, .lst (a2.map zr)), (3, .lst (a3.map zE)), (4, .lst (a4.map qf)), (5, .int .i64 a5), (6, .lst (a6.map (D.int .i64))), (16, .ptr (ql q1)), (17, .lst (r3.map zY)), (18, .lst (e5.map zr)), (19, .int .i64 (i6 : Int)), (20, .int .i64 k18)]) ∧ (σ = []) ∧ (m2 = ((i6 : Int) - k18 : Int).toNat) ∧ (qcf h i6 a6 m2 k18 = some a)) _ ⟨0, _, rfl, rfl, rfl, rfl, hr⟩ ?_)
 rintro n _ _ ⟨k18, m2, rfl, rfl, rfl, v, hr⟩ w
 refine qou 20 rfl fun O => ?_
 rcases zav k18 (i6 : Int) m2 v with ⟨d, x⟩ | ⟨m2', d, x, hi2', P⟩
 rw [d, qcf] at hr
 exact fin hr
 rw [d, qcf] at hr
 refine qai (qai (ze 3 0 (qd 3 rfl (qac (qou 19 rfl fun hbN19 => ?_)))))
 refine st ?_
 refine qy (qai (qdH 9 0 (qd 2 rfl ?_)))
 obtain ⟨q_25, h25, hr⟩ := zd hr
 refine st ?_
 obtain ⟨q26, h26, hr⟩ := zd hr
 refine st ?_
 refine zh 57 rfl hr (fun _ hr => ?_) (fun _ hr => ?_)
 refine st ?_
 cases hr
 refine qaw Tryz.func116 _ (.cons (za rfl (Wk.full _)) (.cons (za rfl (Wk.refl _)) .nil)) ?_
 rfl
 refine st ?_
 refine rd rfl (zbs (r := k18 + 1) rfl rfl rfl rfl oa) (qd 1 rfl (qac (qab [1, 2, 3, 4, 5, 6, 16, 17, 18, 19, 20] rfl ?_)))
 exact w _ _ _ oa ⟨(k18 + 1), _, rfl, rfl, rfl, hi2', hr⟩
def qaJ (k : ((List (List Int))) → Option ((List (List Int)))) (a2 : List (Int × T)) (fuel : Nat) (a4 : List qm) (a3 : List Gl) (a1 : List (Int × At)) (a0 : qc) (a5 : Int) : List (List Int) → (List (List Int)) → Option ((List (List Int)))
 | [], o9 =>
 (k o9)
 | q_13 :: rest, o9 =>
 ((qa3 fuel a0 a1 a2 a3 a4 a5 q_13).bind fun r14 =>
 (bif r14.2 then
 ((zF 24 o9 [q_13]).bind fun l16 =>
 (qaJ k a2 fuel a4 a3 a1 a0 a5 rest l16))
 else
 (qaJ k a2 fuel a4 a3 a1 a0 a5 rest o9)))
def qaf (k : ((List (List Int))) → Option ((List (List Int)))) (q_18 : At) (q_25 : List Int) : List (Int × At) → (List (List Int)) → Option ((List (List Int)))
 | [], l27 =>
 (k l27)
 | q_31 :: rest, l27 =>
 (bif (q_31.2.n.toList == q_18.n.toList) then
 (bif ((q_31.2.ts.length : Int) == (q_18.ts.length : Int)) then
 ((zF 8 [] q_25).bind fun l36 =>
 ((zF 8 l36 [q_31.1]).bind fun l38 =>
 ((zF 24 l27 [l38]).bind fun l40 =>
 (qaf k q_18 q_25 rest l40))))
 else
 (qaf k q_18 q_25 rest l27))
 else
 (qaf k q_18 q_25 rest l27))
def qaK (k : ((List (List Int))) → Option ((List (List Int)))) (a1 : List (Int × At)) (q_18 : At) : List (List Int) → (List (List Int)) → Option ((List (List Int)))
 | [], l21 =>
 (k l21)
 | q_25 :: rest, l21 =>
 (qaf (fun l30 =>
 (qaK k a1 q_18 rest l30)) q_18 q_25 a1 l21)
def qaM (k : ((List (List Int))) → Option ((List (List Int)))) (a1 : List (Int × At)) : List At → (List (List Int)) → Option ((List (List Int)))
 | [], l4 =>
 (k l4)
 | q_18 :: rest, l4 =>
 (qaK (fun l24 =>
 (qaM k a1 rest l24)) a1 q_18 l4 [])
def qds (fuel : Nat) (a0 : qc) (a1 : List (Int × At)) (a2 : List (Int × T)) (a3 : List Gl) (a4 : List qm) (a5 : Int) : Option ((List (List Int))) :=
 ((zi a0.fd a5).bind fun q_2 =>
 ((qcM q_2).bind fun r3 =>
 (qaM (fun l6 =>
 (qaJ (fun o12 =>
 some (o12)) a2 fuel a4 a3 a1 a0 a5 l6 [])) a1 r3 [[]])))
theorem qkI (fuel : Nat) (a0 : qc) (a1 : List (Int × At)) (a2 : List (Int × T)) (a3 : List Gl) (a4 : List qm) (a5 : Int) (a : List (List Int)) (hr : qds fuel a0 a1 a2 a3 a4 a5 = some a) : zf Tryz.prog 137 [qi a0, .lst (a1.map zn), .lst (a2.map zr), .lst (a3.map zE), .lst (a4.map qf), .int .i64 a5] (.lst (a.map (fun (l : List Int) => D.lst (l.map (D.int .i64))))) := by
 unfold qds at hr
 refine qx Tryz.func137 rfl fun K G H => (qai (ze 2 4 (rd rfl (qcG rfl rfl rfl) (ew rfl (qN 60 1 (.inl rfl)) ?_))))
 rintro _ _ ⟨u12_0, rfl, rfl⟩
 refine st ?_
 obtain ⟨q_2, h2, hr⟩ := zd hr
 refine st ?_
 refine zj hr rfl qfA (qfD _) (fun r3 h3 hr => ?_)
 refine st ?_
 refine rd rfl (qet (f := (fun (l : List Int) => D.lst (l.map (D.int .i64)))) [.const (.slice none 0 0)] [[]] rfl qj4 rfl rfl od od (.cons rfl (Wk.full _) .nil) (fun _ => rfl) (fun _ => rfl)) ?_
 refine st ?_
 obtain ⟨g, m, hr⟩ := exK (fun k => qaM k a1 r3 [[]]) hr
 refine qct 30 rfl (asl rfl) fun o => ?_
 simp only [jb] at o
 refine qq (fun env σ => ∃ (l6 : List (List Int)), env = [(1, .lst (a1.map zn)), (2, .lst (a2.map zr)), (3, .lst (a3.map zE)), (4, .lst (a4.map qf)), (5, .int .i64 a5), (6, .ptr (qi a0)), (14, .lst (l6.map (fun (l : List Int) => D.lst (l.map (D.int .i64)))))] ∧ σ = [] ∧ g l6 = some a) ?_ (fun I => ?_)
 rintro _ _ ⟨l6, rfl, rfl, hr⟩
 rw [m] at hr
 refine qai (ze 1 1 (ew rfl (qN 60 1 (.inl rfl)) ?_))
 rintro _ _ ⟨u21_6, rfl, rfl⟩
 refine st ?_
 obtain ⟨h, p, hr⟩ := exK (fun k => qaJ k a2 fuel a4 a3 a1 a0 a5 l6 []) hr
 refine qct 14 rfl (asl rfl) fun q => ?_
 simp only [jb] at q
 refine qq (fun env σ => ∃ (o12 : List (List Int)) (u11 : Value), env = [(21, .own u11 (o12.map (fun (l : List Int) => D.lst (l.map (D.int .i64)))))] ∧ σ = [.row u11 o12.length 60 1] ∧ h o12 = some a) ?_ (fun J => ?_)
 rintro _ _ ⟨o12, u11, rfl, rfl, hr⟩
 rw [p] at hr
 refine st ?_
 cases hr
 refine qaw Tryz.func137 _ (.cons (za rfl (Wk.own _ _)) .nil) ?_
 rfl
 refine qab [1, 2, 3, 4, 5, 6, 14, 21, 22] rfl (qR (fun n env σ => ∃ (o9 : List (List Int)) (i10 : Nat) (u8 : Value), n = l6.length - i10 ∧ (env = [(1, .lst (a1.map zn)), (2, .lst (a2.map zr)), (3, .lst (a3.map zE)), (4, .lst (a4.map qf)), (5, .int .i64 a5), (6, .ptr (qi a0)), (14, .lst (l6.map (fun (l : List Int) => D.lst (l.map (D.int .i64))))), (21, .own u8 (o9.map (fun (l : List Int) => D.lst (l.map (D.int .i64))))), (22, .int .i64 (i10 : Int))]) ∧ (σ = [.row u8 o9.length 60 1]) ∧ (i10 ≤ l6.length) ∧ (qaJ h a2 fuel a4 a3 a1 a0 a5 (l6.drop i10) o9 = some a)) _ ⟨[], 0, u21_6, rfl, rfl, rfl, jc _, hr⟩ ?_)
 rintro n _ _ ⟨o9, i10, u8, rfl, rfl, rfl, r, hr⟩ L
 rcases zb l6 i10 r with ⟨s, b, M⟩ | ⟨q_13, s, b, N, O⟩
 rw [b, qaJ] at hr
 exact fin hr
 rw [b, qaJ] at hr
 refine st ?_
 refine qy (qai (qdH 16 0 ?_))
 refine st ?_
 refine zj hr rfl qi3 (qi5 fuel _ _ _ _ _ _ _) (fun r14 h14 hr => ?_)
 refine st ?_
 refine zh 113 rfl hr (fun _ hr => ?_) (fun _ hr => ?_)
 refine qf1 rfl (ze 8 4096 ?_)
 refine st ?_
 refine rd rfl (qet (f := (fun (l : List Int) => D.lst (l.map (D.int .i64)))) [.tmp 118] [q_13] rfl qj4 rfl rfl od od (.oc rfl .nil) (fun _ => rfl) (fun _ => rfl)) ?_
 obtain ⟨l16, h16, hr⟩ := zd hr
 refine ew rfl (qah (f := (fun (l : List Int) => D.lst (l.map (D.int .i64)))) o9 [q_13] rfl qj4 rfl rfl (asl rfl) (pf0 _) rfl (fun _ => rfl) h16) ?_
 rintro _ _ ⟨u120_16, rfl, rfl⟩
 exact fin hr
 exact fin hr
 refine quB [(1, .lst (a1.map zn)), (2, .lst (a2.map zr)), (3, .lst (a3.map zE)), (4, .lst (a4.map qf)), (5, .int .i64 a5), (6, .ptr (qi a0)), (13, .lst (r3.map zY)), (14, .lst ([[]].map (fun (l : List Int) => D.lst (l.map (D.int .i64))))), (15, .int .i64 ((0 : Nat) : Int))] (sc rfl (sc rfl (sc rfl (sc rfl (sc rfl (sc rfl (sc rfl (Sub.cons rfl (Wk.full _) (sbr rfl))))))))) (qbA [] _ (pf0 _) (qR (fun n env σ => ∃ (l4 : List (List Int)) (i5 : Nat), n = r3.length - i5 ∧ (env = [(1, .lst (a1.map zn)), (2, .lst (a2.map zr)), (3, .lst (a3.map zE)), (4, .lst (a4.map qf)), (5, .int .i64 a5), (6, .ptr (qi a0)), (13, .lst (r3.map zY)), (14, .lst (l4.map (fun (l : List Int) => D.lst (l.map (D.int .i64))))), (15, .int .i64 (i5 : Int))]) ∧ (σ = []) ∧ (i5 ≤ r3.length) ∧ (qaM g a1 (r3.drop i5) l4 = some a)) _ ⟨[[]], 0, rfl, rfl, rfl, jc _, hr⟩ ?_))
 rintro n _ _ ⟨l4, i5, rfl, rfl, rfl, t, hr⟩ u
 rcases zb r3 i5 t with ⟨v, c, P⟩ | ⟨q_18, v, c, Q, R⟩
 rw [c, qaM] at hr
 exact fin hr
 rw [c, qaM] at hr
 refine st ?_
 refine qy (qai (ze 1 1 (ew rfl (qN 60 1 (.inl rfl)) ?_)))
 rintro _ _ ⟨u16_18, rfl, rfl⟩
 refine st ?_
 obtain ⟨i, w, hr⟩ := exK (fun k => qaK k a1 q_18 l4 []) hr
 refine qct 14 rfl (asl rfl) fun x => ?_
 simp only [jb] at x
 refine qq (fun env σ => ∃ (l24 : List (List Int)) (u23 : Value), env = [(1, .lst (a1.map zn)), (2, .lst (a2.map zr)), (3, .lst (a3.map zE)), (4, .lst (a4.map qf)), (5, .int .i64 a5), (6, .ptr (qi a0)), (13, .lst (r3.map zY)), (15, .int .i64 (i5 : Int)), (16, .own u23 (l24.map (fun (l : List Int) => D.lst (l.map (D.int .i64)))))] ∧ σ = [.row u23 l24.length 60 1] ∧ i l24 = some a) ?_ (fun S => ?_)
 rintro _ _ ⟨l24, u23, rfl, rfl, hr⟩
 rw [w] at hr
 refine ze 2 0 (qd 2 rfl (qac (qfZ (ze 3 0 (qd 1 rfl (qnL rfl (qd 1 rfl (qac (quB [(1, .lst (a1.map zn)), (2, .lst (a2.map zr)), (3, .lst (a3.map zE)), (4, .lst (a4.map qf)), (5, .int .i64 a5), (6, .ptr (qi a0)), (13, .lst (r3.map zY)), (14, .lst (l24.map (fun (l : List Int) => D.lst (l.map (D.int .i64))))), (15, .int .i64 ((i5 + 1 : Nat) : Int))] (sc rfl (sc rfl (sc rfl (sc rfl (sc rfl (sc rfl (sc rfl (Sub.cons rfl (Wk.own _ _) (sbr rfl))))))))) (qbA [] _ (pf0 _) ?_))))))))))
 exact u _ _ _ oa ⟨l24, (i5 + 1), rfl, rfl, rfl, oa, hr⟩
 refine qab [1, 2, 3, 4, 5, 6, 13, 14, 15, 16, 17] rfl (qR (fun n env σ => ∃ (l21 : List (List Int)) (k22 : Nat) (u20 : Value), n = l4.length - k22 ∧ (env = [(1, .lst (a1.map zn)), (2, .lst (a2.map zr)), (3, .lst (a3.map zE)), (4, .lst (a4.map qf)), (5, .int .i64 a5), (6, .ptr (qi a0)), (13, .lst (r3.map zY)), (14, .lst (l4.map (fun (l : List Int) => D.lst (l.map (D.int .i64))))), (15, .int .i64 (i5 : Int)), (16, .own u20 (l21.map (fun (l : List Int) => D.lst (l.map (D.int .i64))))), (17, .int .i64 (k22 : Int))]) ∧ (σ = [.row u20 l21.length 60 1]) ∧ (k22 ≤ l4.length) ∧ (qaK i a1 q_18 (l4.drop k22) l21 = some a)) _ ⟨[], 0, u16_18, rfl, rfl, rfl, jc _, hr⟩ ?_)
 rintro n _ _ ⟨l21, k22, u20, rfl, rfl, rfl, y, hr⟩ U
 rcases zb l4 k22 y with ⟨z, d, V⟩ | ⟨q_25, z, d, W, X⟩
 rw [d, qaK] at hr
 exact fin hr
 rw [d, qaK] at hr
 refine st ?_
 refine qy ?_
 refine st ?_
 obtain ⟨j, A, hr⟩ := exK (fun k => qaf k q_18 q_25 a1 l21) hr
 refine qct 1 rfl (asl rfl) fun B => ?_
 simp only [jb] at B
 refine qq (fun env σ => ∃ (l30 : List (List Int)) (u29 : Value), env = [(1, .lst (a1.map zn)), (2, .lst (a2.map zr)), (3, .lst (a3.map zE)), (4, .lst (a4.map qf)), (5, .int .i64 a5), (6, .ptr (qi a0)), (13, .lst (r3.map zY)), (14, .lst (l4.map (fun (l : List Int) => D.lst (l.map (D.int .i64))))), (15, .int .i64 (i5 : Int)), (16, .own u29 (l30.map (fun (l : List Int) => D.lst (l.map (D.int .i64))))), (17, .int .i64 (k22 : Int))] ∧ σ = [.row u29 l30.length 60 1] ∧ j l30 = some a) ?_ (fun Y => ?_)
 rintro _ _ ⟨l30, u29, rfl, rfl, hr⟩
 rw [A] at hr
 exact fin hr
 refine qab [1, 2, 3, 4, 5, 6, 13, 14, 15, 17, 16, 18] rfl (qR (fun n env σ => ∃ (l27 : List (List Int)) (j28 : Nat) (u26 : Value), n = a1.length - j28 ∧ (env = [(1, .lst (a1.map zn)), (2, .lst (a2.map zr)), (3, .lst (a3.map zE)), (4, .lst (a4.map qf)), (5, .int .i64 a5), (6, .ptr (qi a0)), (13, .lst (r3.map zY)), (14, .lst (l4.map (fun (l : List Int) => D.lst (l.map (D.int .i64))))), (15, .int .i64 (i5 : Int)), (17, .int .i64 (k22 : Int)), (16, .own u26 (l27.map (fun (l : List Int) => D.lst (l.map (D.int .i64))))), (18, .int .i64 (j28 : Int))]) ∧ (σ = [.row u26 l27.length 60 1]) ∧ (j28 ≤ a1.length) ∧ (qaf j q_18 q_25 (a1.drop j28) l27 = some a)) _ ⟨l21, 0, u20, rfl, rfl, rfl, jc _, hr⟩ ?_)
 rintro n _ _ ⟨l27, j28, u26, rfl, rfl, rfl, C, hr⟩ E
 rcases zb a1 j28 C with ⟨F, e, Z⟩ | ⟨q_31, F, e, a9, b5⟩
 rw [e, qaf] at hr
 exact fin hr
 rw [e, qaf] at hr
 refine st ?_
 refine qy (qai (ze 7 5120 ?_))
 refine st ?_
 refine ew rfl (qau rfl qfI) ?_
 rintro _ _ ⟨b19_31, rfl, rfl⟩
 refine qbZ rfl (pf0 _) (qac (qbb 19 b19_31 rfl (pf0 _) (qai (qdH 20 0 ?_))))
 refine st ?_
 refine rd rfl (qgP rfl rfl rfl rfl) (qd 1 rfl ?_)
 refine zo 63 rfl hr (fun _ hr => ?_) (fun _ hr => ?_)
 refine st ?_
 refine zh 74 rfl hr (fun _ hr => ?_) (fun _ hr => ?_)
 refine st0 ?_
 refine ze 1 1 (ew rfl (qN 3 1 (.inl rfl)) ?_)
 rintro _ _ ⟨u20_34, rfl, rfl⟩
 refine st0 ?_
 refine ze 7 1024 ?_
 refine st ?_
 obtain ⟨l36, h36, hr⟩ := zd hr
 refine ew rfl (qah (f := (D.int .i64)) [] q_25 rfl qaS rfl rfl (asl rfl) (pf0 _) rfl (fun _ => rfl) h36) ?_
 rintro _ _ ⟨u80_36, rfl, rfl⟩
 refine st0 ?_
 refine ze 12 1114112 ?_
 refine st ?_
 refine rd rfl (qet (f := (D.int .i64)) [.tmp 87] [q_31.1] rfl qaS rfl rfl od od (.oc rfl .nil) (fun _ => rfl) (fun _ => rfl)) ?_
 obtain ⟨l38, h38, hr⟩ := zd hr
 refine ew rfl (qah (f := (D.int .i64)) l36 [q_31.1] rfl qaS rfl rfl (asl rfl) (pf0 _) rfl (fun _ => rfl) h38) ?_
 rintro _ _ ⟨u89_38, rfl, rfl⟩
 refine rd rfl (qet (f := (fun (l : List Int) => D.lst (l.map (D.int .i64)))) [.tmp 89] [l38] rfl qj4 rfl rfl od od (.cons rfl (Wk.own _ _) .nil) (fun _ => rfl) (fun _ => rfl)) ?_
 obtain ⟨l40, h40, hr⟩ := zd hr
 refine ew rfl (qah (f := (fun (l : List Int) => D.lst (l.map (D.int .i64)))) l27 [l38] rfl qj4 rfl rfl (asl rfl) (pf1 _ _ _) rfl (fun _ => rfl) h40) ?_
 rintro _ _ ⟨u91_40, rfl, rfl⟩
 refine qd 1 rfl (qac (qfZ (ze 3 0 (qd 1 rfl (qnL rfl (qd 1 rfl (qac (qab [1, 2, 3, 4, 5, 6, 13, 14, 15, 17, 16, 18] rfl (qbA [_] _ (pf0 _) ?_)))))))))
 exact E _ _ _ oa ⟨l40, (j28 + 1), u91_40, rfl, rfl, rfl, oa, hr⟩
 exact fin hr
 exact fin hr
def qdT (fuel : Nat) (a0 : List (Int × T)) (a1 : T) (a2 : T) : Option Bool :=
 ((qd6 fuel a0).bind fun r1 =>
 (bif r1 then
 ((qkN a1).bind fun r3 =>
 (bif r3 then
 ((qkN a2).bind fun r5 =>
 some (r5))
 else
 some (false)))
 else
 some (false)))
theorem qij (fuel : Nat) (a0 : List (Int × T)) (a1 : T) (a2 : T) (a : Bool) (hr : qdT fuel a0 a1 a2 = some a) : zf Tryz.prog 161 [.lst (a0.map zr), zl a1, zl a2] (.bool a) := by
 unfold qdT at hr
 refine qx Tryz.func161 rfl fun K b c => ?_
 refine st ?_
 refine rd rfl (qcG rfl rfl rfl) (rd rfl (qcG rfl rfl rfl) ?_)
 refine st ?_
 refine zj hr rfl qie (qit fuel _) (fun r1 h1 hr => ?_)
 refine qd 1 rfl ?_
 refine zo 9 rfl hr (fun _ hr => ?_) (fun _ hr => ?_)
 refine qd 1 rfl ?_
 obtain ⟨r3, h3, hr⟩ := zd hr
 refine qdY rfl qd4 (qd7 _ _ h3) (qd 2 rfl ?_)
 refine zo 13 rfl hr (fun _ hr => ?_) (fun _ hr => ?_)
 refine qd 1 rfl ?_
 obtain ⟨r5, h5, hr⟩ := zd hr
 refine qdY rfl qd4 (qd7 _ _ h5) ?_
 exact fin hr
 exact fin hr
 exact fin hr
def qb2 (k : List T → List T → Option ((List (Int × T)) × Int)) : List (Int × T) → List T → List T → Option ((List (Int × T)) × Int)
 | [], l4, m5 =>
 (k l4 m5)
 | q_12 :: rest, l4, m5 =>
 ((zF 56 l4 [(T.mk 1 q_12.1 ⟨#[]⟩ [])]).bind fun l13 =>
 ((zF 56 m5 [q_12.2]).bind fun l15 =>
 (qb2 k rest l13 l15)))
def qe0 (fuel : Nat) (a0 : List (Int × T)) (a1 : T) (a2 : T) : Option ((List (Int × T)) × Int) :=
 (qb2 (fun l8 m10 =>
 ((qaQ fuel l8 m10).bind fun r11 =>
 some (r11.1, r11.2))) a0 [a1] [a2])
theorem qmv (fuel : Nat) (a0 : List (Int × T)) (a1 : T) (a2 : T) (a : (List (Int × T)) × Int) (hr : qe0 fuel a0 a1 a2 = some a) : zf Tryz.prog 162 [.lst (a0.map zr), zl a1, zl a2] (.tup [.lst (a.1.map zr), .int .i64 a.2]) := by
 unfold qe0 at hr
 refine qx Tryz.func162 rfl fun K l m => ?_
 refine st ?_
 refine rd rfl (qcG rfl rfl rfl) (rd rfl (qcG rfl rfl rfl) ?_)
 refine st ?_
 refine qBW ob ob [(0, .d), (2, .d)] [(1, .x), (4, .d), (3, .w), (5, .d)] [(3, .x), (1, .w), (4, .d), (5, .d)] ob (fun env σ => ∃ (u14_r1_0 : Value) (u12_r1_0 : Value), Sub [(0, .lst (a0.map zr)), (8, .own u12_r1_0 ([a1].map zl)), (9, .own u14_r1_0 ([a2].map zl))] env ∧ σ.Perm [.row u14_r1_0 [a2].length 78 4, .row u12_r1_0 [a1].length 78 4]) ?_ ?_
 refine qd 2 rfl ?_
 refine qac ⟨?_, ?_⟩
 refine r_x rfl rfl rfl (qpM (f := zl) [.tmp 11] [a1] rfl qbg rfl rfl od od (.oc rfl .nil) qc2 (fun _ => rfl)) ?_
 rintro _ _ ⟨u12_r1_0, rfl, rfl⟩
 refine qd 1 rfl (ew rfl (qpM (f := zl) [.tmp 13] [a2] rfl qbg rfl rfl od od (.oc rfl .nil) qc2 (fun _ => rfl)) ?_)
 rintro _ _ ⟨u14_r1_0, rfl, rfl⟩
 refine qd 1 rfl (qac ?_)
 exact ⟨u14_r1_0, u12_r1_0, (sbr rfl), (pf0 _)⟩
 refine r_x rfl rfl rfl (qpM (f := zl) [.tmp 13] [a2] rfl qbg rfl rfl od od (.oc rfl .nil) qc2 (fun _ => rfl)) ?_
 rintro _ _ ⟨u14_r1_0, rfl, rfl⟩
 refine ew rfl (qpM (f := zl) [.tmp 11] [a1] rfl qbg rfl rfl od od (.oc rfl .nil) qc2 (fun _ => rfl)) ?_
 rintro _ _ ⟨u12_r1_0, rfl, rfl⟩
 refine qd 2 rfl (qac ?_)
 exact ⟨u14_r1_0, u12_r1_0, (sbr rfl), (pS [0, 1] _)⟩
 rintro _ _ ⟨u14_r1_0, u12_r1_0, hs, hp⟩
 refine qob hs hp ?_
 refine st ?_
 obtain ⟨c, e, hr⟩ := exK (fun k => qb2 k a0 [a1] [a2]) hr
 refine qct 0 rfl (asl rfl) fun g => ?_
 simp only [jb] at g
 refine qq (fun env σ => ∃ (l8 : List T) (m10 : List T) (u7 : Value) (u9 : Value), env = [(8, .own u7 (l8.map zl)), (9, .own u9 (m10.map zl))] ∧ σ = [.row u7 l8.length 78 4, .row u9 m10.length 78 4] ∧ c l8 m10 = some a) ?_ (fun o => ?_)
 rintro _ _ ⟨l8, m10, u7, u9, rfl, rfl, hr⟩
 rw [e] at hr
 refine st ?_
 obtain ⟨r11, h11, hr⟩ := zd hr
 refine rd rfl (qhg rfl qi4 (.cons rfl (Wk.own _ _) (.cons rfl (Wk.own _ _) .nil)) (qi7 fuel _ _ _ h11)) ?_
 exact fin hr
 refine qab [0, 8, 9, 10] rfl (qbA [_, _] _ (pS [0, 1] _) (qR (fun n env σ => ∃ (l4 : List T) (m5 : List T) (i6 : Nat) (u2 : Value) (u3 : Value), n = a0.length - i6 ∧ (env = [(0, .lst (a0.map zr)), (8, .own u2 (l4.map zl)), (9, .own u3 (m5.map zl)), (10, .int .i64 (i6 : Int))]) ∧ (σ = [.row u2 l4.length 78 4, .row u3 m5.length 78 4]) ∧ (i6 ≤ a0.length) ∧ (qb2 c (a0.drop i6) l4 m5 = some a)) _ ⟨[a1], [a2], 0, u12_r1_0, u14_r1_0, rfl, rfl, rfl, jc _, hr⟩ ?_))
 rintro n _ _ ⟨l4, m5, i6, u2, u3, rfl, rfl, rfl, h, hr⟩ i
 rcases zb a0 i6 h with ⟨j, b, p⟩ | ⟨q_12, j, b, q, r⟩
 rw [b, qb2] at hr
 exact fin hr
 rw [b, qb2] at hr
 refine st ?_
 refine qy (qai (ze 10 65536 ?_))
 refine st ?_
 refine rd rfl (qay rfl qha (.oc rfl (.oc rfl .nil)) (.cons rfl rfl rfl (.cons rfl rfl rfl (.nil _)))) (rd rfl (qet (f := zl) [.tmp 27] [(T.mk 1 q_12.1 ⟨#[]⟩ [])] rfl qbg rfl rfl od od (.cons rfl (Wk.ofEq (by show _ = D.agg (fsT _); rw [qfk] <;> rfl)) .nil) qc2 (fun _ => rfl)) ?_)
 obtain ⟨l13, h13, hr⟩ := zd hr
 refine ew rfl (qah (f := zl) l4 [(T.mk 1 q_12.1 ⟨#[]⟩ [])] rfl qbg rfl rfl (asl rfl) (pf0 _) rfl qc2 h13) ?_
 rintro _ _ ⟨u29_13, rfl, rfl⟩
 refine st0 ?_
 refine ze 9 16384 ?_
 refine st ?_
 refine rd rfl (qet (f := zl) [.tmp 35] [q_12.2] rfl qbg rfl rfl od od (.oc rfl .nil) qc2 (fun _ => rfl)) ?_
 obtain ⟨l15, h15, hr⟩ := zd hr
 refine ew rfl (qah (f := zl) m5 [q_12.2] rfl qbg rfl rfl (asl rfl) (pf1 _ _ _) rfl qc2 h15) ?_
 rintro _ _ ⟨u37_15, rfl, rfl⟩
 refine qd 1 rfl (qac (qfZ (ze 3 0 (qd 1 rfl (qnL rfl (qd 1 rfl (qac (qab [0, 8, 9, 10] rfl (qbA [_, _] _ (pS [0, 1] _) ?_)))))))))
 exact i _ _ _ oa ⟨l13, l15, (i6 + 1), u29_13, u37_15, rfl, rfl, rfl, oa, hr⟩
def qa8 (k : List Int → Option (List Int)) (a0 : List (Int × T)) : List (Int × T) → List Int → Option (List Int)
 | [], o4 =>
 (k o4)
 | q_8 :: rest, o4 =>
 ((qc4 a0 q_8.1).bind fun r9 =>
 (bif (!r9.2) then
 ((zF 8 o4 [q_8.1]).bind fun l12 =>
 (qa8 k a0 rest l12))
 else
 (qa8 k a0 rest o4)))
def qd1 (a0 : List (Int × T)) (a1 : List (Int × T)) : Option (List Int) :=
 (qa8 (fun o7 =>
 some (o7)) a0 a1 [])
theorem qlW (a0 : List (Int × T)) (a1 : List (Int × T)) (a : List Int) (hr : qd1 a0 a1 = some a) : zf Tryz.prog 163 [.lst (a0.map zr), .lst (a1.map zr)] (.lst (a.map (D.int .i64))) := by
 unfold qd1 at hr
 refine qx Tryz.func163 rfl fun K i j => (qai (ze 1 1 (ew rfl (qN 3 1 (.inl rfl)) ?_)))
 rintro _ _ ⟨u4_0, rfl, rfl⟩
 refine st0 ?_
 refine ze 1 1 (ew rfl (qN 3 1 (.inl rfl)) ?_)
 rintro _ _ ⟨u5_1, rfl, rfl⟩
 refine st ?_
 obtain ⟨c, d, hr⟩ := exK (fun k => qa8 k a0 a1 []) hr
 refine qct 1 rfl (asl rfl) fun e => ?_
 simp only [jb] at e
 refine qq (fun env σ => ∃ (o7 : List Int) (u6 : Value), env = [(5, .own u6 (o7.map (D.int .i64)))] ∧ σ = [.row u6 o7.length 3 1] ∧ c o7 = some a) ?_ (fun l => ?_)
 rintro _ _ ⟨o7, u6, rfl, rfl, hr⟩
 rw [d] at hr
 refine st ?_
 cases hr
 refine qaw Tryz.func163 _ (.cons (za rfl (Wk.own _ _)) .nil) ?_
 rfl
 refine qab [0, 1, 5, 6] rfl (qbA [_] _ (pf0 _) (qR (fun n env σ => ∃ (o4 : List Int) (i5 : Nat) (u3 : Value), n = a1.length - i5 ∧ (env = [(0, .lst (a0.map zr)), (1, .lst (a1.map zr)), (5, .own u3 (o4.map (D.int .i64))), (6, .int .i64 (i5 : Int))]) ∧ (σ = [.row u3 o4.length 3 1]) ∧ (i5 ≤ a1.length) ∧ (qa8 c a0 (a1.drop i5) o4 = some a)) _ ⟨[], 0, u5_1, rfl, rfl, rfl, jc _, hr⟩ ?_))
 rintro n _ _ ⟨o4, i5, u3, rfl, rfl, rfl, g, hr⟩ m
 rcases zb a1 i5 g with ⟨h, b, o⟩ | ⟨q_8, h, b, p, q⟩
 rw [b, qa8] at hr
 exact fin hr
 rw [b, qa8] at hr
 refine st ?_
 refine qy (qai (ze 13 5242880 ?_))
 refine st ?_
 refine zj hr rfl qfq (qfr _ _) (fun r9 h9 hr => ?_)
 refine qd 3 rfl (ew rfl (qau rfl qd8) ?_)
 rintro _ _ ⟨b7_9, rfl, rfl⟩
 refine qbZ rfl (pf0 _) (qd 1 rfl (qac (qbb 7 b7_9 rfl (pf0 _) ?_)))
 refine st ?_
 refine zh 26 rfl hr (fun _ hr => ?_) (fun _ hr => ?_)
 refine qf1 rfl (ze 9 16384 ?_)
 refine st ?_
 refine rd rfl (qet (f := (D.int .i64)) [.tmp 32] [q_8.1] rfl qaS rfl rfl od od (.oc rfl .nil) (fun _ => rfl) (fun _ => rfl)) ?_
 obtain ⟨l12, h12, hr⟩ := zd hr
 refine ew rfl (qah (f := (D.int .i64)) o4 [q_8.1] rfl qaS rfl rfl (asl rfl) (pf0 _) rfl (fun _ => rfl) h12) ?_
 rintro _ _ ⟨u34_12, rfl, rfl⟩
 exact fin hr
 exact fin hr
def qcY (fuel : Nat) (a0 : List (Int × T)) (a1 : T) (a2 : T) : Option ((List (Int × T)) × (List Int) × Int) :=
 ((qdT fuel a0 a1 a2).bind fun r1 =>
 (bif (!r1) then
 some ([], [], 2)
 else
 ((qe0 fuel a0 a1 a2).bind fun r3 =>
 (bif (r3.2 != (0 : Int)) then
 some ([], [], r3.2)
 else
 ((qd1 a0 r3.1).bind fun r5 =>
 some (r3.1, r5, 0))))))
theorem qiS (fuel : Nat) (a0 : List (Int × T)) (a1 : T) (a2 : T) (a : (List (Int × T)) × (List Int) × Int) (hr : qcY fuel a0 a1 a2 = some a) : zf Tryz.prog 139 [.lst (a0.map zr), zl a1, zl a2] (.tup [.lst (a.1.map zr), .lst (a.2.1.map (D.int .i64)), .int .i64 a.2.2]) := by
 unfold qcY at hr
 refine qx Tryz.func139 rfl fun K b c => ?_
 refine st ?_
 refine rd rfl (qcG rfl rfl rfl) (rd rfl (qcG rfl rfl rfl) ?_)
 refine st ?_
 refine zj hr rfl qin (qij fuel _ _ _) (fun r1 h1 hr => ?_)
 refine st ?_
 refine zh 15 rfl hr (fun _ hr => ?_) (fun _ hr => ?_)
 refine st ?_
 cases hr
 refine qaw Tryz.func139 _ (.cons (za rfl (Wk.full _)) (.cons (za rfl (Wk.full _)) (.cons (za rfl (Wk.refl _)) .nil))) ?_
 rfl
 refine st ?_
 refine zj hr rfl qmr (qmv fuel _ _ _) (fun r3 h3 hr => ?_)
 refine st ?_
 refine zh 24 rfl hr (fun _ hr => ?_) (fun _ hr => ?_)
 refine st ?_
 cases hr
 refine qaw Tryz.func139 _ (.cons (za rfl (Wk.full _)) (.cons (za rfl (Wk.full _)) (.cons (za rfl (Wk.refl _)) .nil))) ?_
 rfl
 refine st ?_
 refine zj hr rfl qll (qlW _ _) (fun r5 h5 hr => ?_)
 exact fin hr
def qex (fuel : Nat) (a0 : List (Int × T)) (a1 : T) (a2 : T) : Option ((List (Int × T)) × (List Int) × Int) :=
 ((qdT fuel a0 a1 a2).bind fun r1 =>
 (bif (!r1) then
 some ([], [], 2)
 else
 ((qgH fuel a0 a2).bind fun r3 =>
 ((qcX fuel r3).bind fun r4 =>
 (bif (r4.2 != (0 : Int)) then
 some ([], [], r4.2)
 else
 ((qcY fuel a0 a1 (T.mk 0 r4.1 ⟨#[]⟩ [])).bind fun r6 =>
 some (r6.1, r6.2.1, r6.2.2)))))))
end
end Go.Proofs.YtamoolpdganckaaGreat
