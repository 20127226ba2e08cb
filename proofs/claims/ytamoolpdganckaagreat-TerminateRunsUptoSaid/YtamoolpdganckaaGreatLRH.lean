/-
 Texts of the seat, merged.
-/
import Derived.Test.YtamoolpdganckaaGreatLRG
set_option linter.unusedVariables false
set_option linter.unusedSimpArgs false
set_option linter.unnecessarySimpa false
set_option linter.all false
set_option maxHeartbeats 8000000
namespace Go.Proofs.YtamoolpdganckaaGreat
noncomputable section
set_option maxRecDepth 100000
open Go.RowKit
structure qn where
 fk : Gl
 fc : Int
 fu : Int
def qs (x : qn) : D := .agg [zE x.fk, .int .i64 x.fc, .int .i64 x.fu]
theorem qad (x : qn) : sz (qs x) = 5 := by
 simp only [qs, sz, szs, qcW]
structure qe where
 fb : (List qn)
 fo : (List (Int × At))
 ft : (List (Int × T))
 fD : (List qm)
 fz : Int
 fE : Int
 fG : Bool
def qaa (x : qe) : D := .agg [.lst (x.fb.map qs), .lst (x.fo.map zn), .lst (x.ft.map zr), .lst (x.fD.map qf), .int .i64 x.fz, .int .i64 x.fE, .bool x.fG]
theorem qee (x : qe) : sz (qaa x) = 7 := by
 simp only [qaa, sz, szs]
structure qv where
 fa : Int
 fc : Int
 fu : Int
 fJ : Int
 fH : (List Int)
def qL (x : qv) : D := .agg [.int .i64 x.fa, .int .i64 x.fc, .int .i64 x.fu, .int .i64 x.fJ, .lst (x.fH.map (D.int .i64))]
theorem qc3 (x : qv) : sz (qL x) = 5 := by
 simp only [qL, sz, szs]
structure qao where
 fC : Int
 fK : Int
 fM : Bool
def qcJ (x : qao) : D := .agg [.int .i64 x.fC, .int .i64 x.fK, .bool x.fM]
theorem qht (x : qao) : sz (qcJ x) = 3 := by
 simp only [qcJ, sz, szs]
def qci (k : List qao → Option (List qao)) (i5 : Nat) (q_8 : qr) : Nat → List qao → Option (List qao)
 | 0, o10 =>
 (k o10)
 | k14 + 1, o10 =>
 ((zF 24 o10 [(⟨(i5 : Int), (k14 : Int), (decide ((k14 : Int) < (q_8.fi.length : Int)))⟩ : qao)]).bind fun l15 =>
 (qci k i5 q_8 k14 l15))
def qcd (k : List qao → Option (List qao)) : List qr → List qao → Nat → Option (List qao)
 | [], o4, i5 =>
 (k o4)
 | q_8 :: rest, o4, i5 =>
 ((zab (wr ((wr ((q_8.fi.length : Int) + (q_8.ff.length : Int))) - (1 : Int)))).bind fun m17 =>
 (qci (fun o13 =>
 (qcd k rest o13 (i5 + 1))) i5 q_8 m17 o4))
def qeu (a0 : qc) : Option (List qao) :=
 (qcd (fun o7 =>
 some (o7)) a0.fd [] 0)
theorem qja (a0 : qc) (a : List qao) (hr : qeu a0 = some a) : zf Tryz.prog 70 [qi a0] (.lst (a.map qcJ)) := by
 unfold qeu at hr
 refine qx Tryz.func70 rfl fun K p q => (qai (ze 2 4 (rd rfl (qcG rfl rfl rfl) (ew rfl (qN 94 3 (.inl rfl)) ?_))))
 rintro _ _ ⟨u2_0, rfl, rfl⟩
 refine st0 ?_
 refine ze 1 1 (ew rfl (qN 94 3 (.inl rfl)) ?_)
 rintro _ _ ⟨u3_1, rfl, rfl⟩
 refine st ?_
 obtain ⟨d, h, hr⟩ := exK (fun k => qcd k a0.fd [] 0) hr
 refine qCM 0 [1] (l := a0.fd.map ql) rfl rfl (asl rfl) fun i => ?_
 simp only [jb] at i
 refine qq (fun env σ => ∃ (o7 : List qao) (u6 : Value), env = [(3, .own u6 (o7.map qcJ))] ∧ σ = [.row u6 o7.length 94 3] ∧ d o7 = some a) ?_ (fun s => ?_)
 rintro _ _ ⟨o7, u6, rfl, rfl, hr⟩
 rw [h] at hr
 refine st ?_
 cases hr
 refine qaw Tryz.func70 _ (.cons (za rfl (Wk.own _ _)) .nil) ?_
 rfl
 refine qab [1, 3, 4] rfl (qbA [_] _ (pf0 _) (qR (fun n env σ => ∃ (o4 : List qao) (i5 : Nat) (u3 : Value), n = a0.fd.length - i5 ∧ (env = [(1, .ptr (qi a0)), (3, .own u3 (o4.map qcJ)), (4, .int .i64 (i5 : Int))]) ∧ (σ = [.row u3 o4.length 94 3]) ∧ (i5 ≤ a0.fd.length) ∧ (qcd d (a0.fd.drop i5) o4 i5 = some a)) _ ⟨[], 0, u3_1, rfl, rfl, rfl, jc _, hr⟩ ?_))
 rintro n _ _ ⟨o4, i5, u3, rfl, rfl, rfl, j, hr⟩ t
 rcases zb a0.fd i5 j with ⟨m, c, u⟩ | ⟨q_8, m, c, v, w⟩
 rw [c, qcd] at hr
 exact fin hr
 rw [c, qcd] at hr
 refine st ?_
 refine qy ?_
 refine st ?_
 refine rd rfl (qeg rfl rfl rfl rfl) (rd rfl (qeg rfl rfl rfl rfl) ?_)
 refine st ?_
 obtain ⟨m17, h17, hr⟩ := zd hr
 have hm_17' := qlZ h17
 obtain ⟨e, o, hr⟩ := exK (fun k => qci k i5 q_8 m17 o4) hr
 refine qq (fun env σ => ∃ (o13 : List qao) (u12 : Value), env = [(1, .ptr (qi a0)), (3, .own u12 (o13.map qcJ)), (4, .int .i64 (i5 : Int))] ∧ σ = [.row u12 o13.length 94 3] ∧ e o13 = some a) ?_ (fun x => ?_)
 rintro _ _ ⟨o13, u12, rfl, rfl, hr⟩
 rw [o] at hr
 exact fin hr
 refine qr7 6 (d' := .int .i64 ((m17 : Int) - 1)) rfl (congrArg (D.int .i64) hm_17') (qab [1, 4, 5, 3, 6] rfl (qR (fun n env σ => ∃ (o10 : List qao) (k11 : Nat) (u9 : Value), (k11 = n) ∧ (env = [(1, .ptr (qi a0)), (4, .int .i64 (i5 : Int)), (5, .int .i64 (q_8.fi.length : Int)), (3, .own u9 (o10.map qcJ)), (6, .int .i64 ((k11 : Int) - 1))]) ∧ (σ = [.row u9 o10.length 94 3]) ∧ (qci e i5 q_8 k11 o10 = some a)) _ ⟨o4, m17, u3, rfl, rfl, rfl, hr⟩ ?_))
 rintro n _ _ ⟨o10, k11, u9, rfl, rfl, rfl, hr⟩ y
 refine qou 6 rfl fun z => ?_
 rcases yT k11 with ⟨b, g⟩ | ⟨k14, b, g⟩
 rw [b, qci] at hr
 exact fin hr
 rw [b, qci] at hr
 have g : decide ((k14 : Int) ≥ (0 : Int)) = true := decide_eq_true oa
 refine qr7 6 (d' := .int .i64 (k14 : Int)) rfl (by subst b; congr 1; omega) ?_
 refine st ?_
 refine qy (ze 10 65536 (qd 6 rfl (rd rfl (qay rfl qxZ (.oc rfl (.oc rfl (.oc rfl .nil))) (.cons rfl rfl rfl (.cons rfl rfl rfl (.cons rfl rfl rfl (.nil _))))) (rd rfl (qet (f := qcJ) [.tmp 41] [(⟨(i5 : Int), (k14 : Int), (decide ((k14 : Int) < (q_8.fi.length : Int)))⟩ : qao)] rfl qjr rfl rfl od od (.oc rfl .nil) qht (fun _ => rfl)) ?_))))
 obtain ⟨l15, h15, hr⟩ := zd hr
 refine ew rfl (qah (f := qcJ) o10 [(⟨(i5 : Int), (k14 : Int), (decide ((k14 : Int) < (q_8.fi.length : Int)))⟩ : qao)] rfl qjr rfl rfl (asl rfl) (pf0 _) rfl qht h15) ?_
 rintro _ _ ⟨u43_15, rfl, rfl⟩
 refine st ?_
 refine rd rfl (zbs (r := (k14 : Int) - 1) rfl rfl rfl rfl oa) ?_
 exact fin hr
def qeS (a0 : Gl) : Option Bool :=
 (bif (a0.op == (0 : Int)) then
 (bif (a0.n.toList == (⟨#[]⟩ : ByteArray).toList) then
 some (((a0.ts.length : Int) == (0 : Int)))
 else
 some (false))
 else
 some (false))
theorem qlv (a0 : Gl) (a : Bool) (hr : qeS a0 = some a) : zf Tryz.prog 73 [zE a0] (.bool a) := by
 unfold qeS at hr
 refine qx Tryz.func73 rfl fun K b c => ?_
 refine st ?_
 refine rd rfl (qcG rfl rfl rfl) ?_
 refine st ?_
 refine zo 6 rfl hr (fun _ hr => ?_) (fun _ hr => ?_)
 refine qd 2 rfl (rd rfl (qgP rfl rfl rfl rfl) (qd 2 rfl ?_))
 refine zo 11 rfl hr (fun _ hr => ?_) (fun _ hr => ?_)
 exact fin hr
 exact fin hr
 exact fin hr
def qa6 (k : Option Bool) (a1 : qe) (fuel : Nat) (a0 : qc) (r6 : List qao) : List qn → Option Bool
 | [] =>
 k
 | q_8 :: rest =>
 (bif (q_8.fc == (0 : Int)) then
 (bif (q_8.fu != (0 : Int)) then
 some (false)
 else
 ((qeT a0 q_8.fk).bind fun r12 =>
 (bif (!r12) then
 some (false)
 else
 ((qe4 fuel q_8.fk a1.fE a1.ft).bind fun r14 =>
 (bif (!r14) then
 some (false)
 else
 (qa6 k a1 fuel a0 r6 rest))))))
 else
 (bif (decide (q_8.fc < (1 : Int))) then
 some (false)
 else
 (bif (decide (q_8.fc ≥ a1.fz)) then
 some (false)
 else
 ((qeS q_8.fk).bind fun r18 =>
 (bif (!r18) then
 some (false)
 else
 (bif (decide (q_8.fu < ((-1) : Int))) then
 some (false)
 else
 (bif (decide (q_8.fu > (r6.length : Int))) then
 some (false)
 else
 (qa6 k a1 fuel a0 r6 rest))))))))
def qcO (fuel : Nat) (a0 : qc) (a1 : qe) : Option Bool :=
 ((qdW fuel a0).bind fun r1 =>
 (bif (r1.2 != (0 : Int)) then
 some (false)
 else
 (bif (decide ((a1.fb.length : Int) > (1000 : Int))) then
 some (false)
 else
 ((qev fuel a0 a1.fo a1.ft a1.fD a1.fz a1.fE).bind fun r4 =>
 (bif (!r4) then
 some (false)
 else
 ((qeu a0).bind fun r6 =>
 (qa6 (some (true)) a1 fuel a0 r6 a1.fb)))))))
theorem qgx (fuel : Nat) (a0 : qc) (a1 : qe) (a : Bool) (hr : qcO fuel a0 a1 = some a) : zf Tryz.prog 32 [qi a0, qaa a1] (.bool a) := by
 unfold qcO at hr
 refine qx Tryz.func32 rfl fun K i j => ?_
 refine st ?_
 refine rd rfl (qcG rfl rfl rfl) (rd rfl (qcG rfl rfl rfl) ?_)
 refine st ?_
 refine zj hr rfl qiq (qig fuel _) (fun r1 h1 hr => ?_)
 refine st ?_
 refine zo 17 rfl hr (fun _ hr => ?_) (fun _ hr => ?_)
 exact fin hr
 refine st ?_
 refine zh 22 rfl hr (fun _ hr => ?_) (fun _ hr => ?_)
 exact fin hr
 refine st ?_
 refine zj hr rfl qlj (qlb fuel _ _ _ _ _ _) (fun r4 h4 hr => ?_)
 refine st ?_
 refine zh 35 rfl hr (fun _ hr => ?_) (fun _ hr => ?_)
 exact fin hr
 refine st ?_
 refine zj hr rfl qi1 (qja _) (fun r6 h6 hr => ?_)
 refine st ?_
 obtain ⟨c, d, hr⟩ := exK (fun k => qa6 k a1 fuel a0 r6 a1.fb) hr
 refine qct 19 rfl (asl rfl) fun e => ?_
 simp only [jb] at e
 refine qq (fun env σ => env = [] ∧ σ = [] ∧ c = some a) ?_ (fun l => ?_)
 rintro _ _ ⟨rfl, rfl, hr⟩
 rw [d] at hr
 exact fin hr
 refine qab [2, 3, 7, 8] rfl (qR (fun n env σ => ∃ (i7 : Nat), n = a1.fb.length - i7 ∧ (env = [(2, .ptr (qi a0)), (3, .ptr (qaa a1)), (7, .int .i64 (r6.length : Int)), (8, .int .i64 (i7 : Int))]) ∧ (σ = []) ∧ (i7 ≤ a1.fb.length) ∧ (qa6 c a1 fuel a0 r6 (a1.fb.drop i7) = some a)) _ ⟨0, rfl, rfl, rfl, jc _, hr⟩ ?_)
 rintro n _ _ ⟨i7, rfl, rfl, rfl, g, hr⟩ m
 rcases zb a1.fb i7 g with ⟨h, b, o⟩ | ⟨q_8, h, b, p, q⟩
 rw [b, qa6] at hr
 exact fin hr
 rw [b, qa6] at hr
 refine st ?_
 refine qy (qai (ze 7 5120 ?_))
 refine st ?_
 refine ew rfl (qau rfl qkV) ?_
 rintro _ _ ⟨b9_8, rfl, rfl⟩
 refine z9 rfl (qjX _ rfl rfl rfl (Wk.refl _) (pf0 _) (by exact qer) (qad _) (by first | rfl | simp [sz, szs, qed, qcW]) rfl) (qac (qbb 9 b9_8 rfl (pf0 _) ?_))
 refine st ?_
 refine zh 53 rfl hr (fun _ hr => ?_) (fun _ hr => ?_)
 refine st ?_
 refine zo 57 rfl hr (fun _ hr => ?_) (fun _ hr => ?_)
 exact fin hr
 refine qd 3 rfl ?_
 refine zj hr rfl qlO (qlu _ _) (fun r12 h12 hr => ?_)
 refine qd 3 rfl ?_
 refine zo 64 rfl hr (fun _ hr => ?_) (fun _ hr => ?_)
 exact fin hr
 refine qd 6 rfl ?_
 refine zj hr rfl ql2 (qmd fuel _ _ _) (fun r14 h14 hr => ?_)
 refine st ?_
 refine zh 73 rfl hr (fun _ hr => ?_) (fun _ hr => ?_)
 exact fin hr
 exact fin hr
 refine st ?_
 refine zo 77 rfl hr (fun _ hr => ?_) (fun _ hr => ?_)
 exact fin hr
 refine qd 7 rfl ?_
 refine zo 84 rfl hr (fun _ hr => ?_) (fun _ hr => ?_)
 exact fin hr
 refine qd 2 rfl ?_
 refine zj hr rfl qlQ (qlv _) (fun r18 h18 hr => ?_)
 refine qd 3 rfl ?_
 refine zo 90 rfl hr (fun _ hr => ?_) (fun _ hr => ?_)
 exact fin hr
 refine qd 5 rfl ?_
 refine zo 95 rfl hr (fun _ hr => ?_) (fun _ hr => ?_)
 exact fin hr
 refine st ?_
 refine zh 100 rfl hr (fun _ hr => ?_) (fun _ hr => ?_)
 exact fin hr
 exact fin hr
def qbq (k : List qao → Option (List qao)) (a2 : Int) (a1 : ByteArray) (a0 : qc) : List qao → List qao → Option (List qao)
 | [], o5 =>
 (k o5)
 | q_9 :: rest, o5 =>
 ((zi a0.fd q_9.fC).bind fun q_10 =>
 ((qcM q_10).bind fun r11 =>
 ((zi r11 q_9.fK).bind fun q_12 =>
 (bif (q_12.n.toList == a1.toList) then
 (bif ((q_12.ts.length : Int) == a2) then
 ((zF 24 o5 [q_9]).bind fun l16 =>
 (qbq k a2 a1 a0 rest l16))
 else
 (qbq k a2 a1 a0 rest o5))
 else
 (qbq k a2 a1 a0 rest o5)))))
def qfv (a0 : qc) (a1 : ByteArray) (a2 : Int) : Option (List qao) :=
 ((qeu a0).bind fun r3 =>
 (qbq (fun o8 =>
 some (o8)) a2 a1 a0 r3 []))
theorem qno (a0 : qc) (a1 : ByteArray) (a2 : Int) (a : List qao) (hr : qfv a0 a1 a2 = some a) : zf Tryz.prog 110 [qi a0, .str a1, .int .i64 a2] (.lst (a.map qcJ)) := by
 unfold qfv at hr
 refine qx Tryz.func110 rfl fun K i j => (qai (ze 2 4 (rd rfl (qcG rfl rfl rfl) (ew rfl (qN 94 3 (.inl rfl)) ?_))))
 rintro _ _ ⟨u6_0, rfl, rfl⟩
 refine st0 ?_
 refine ze 1 1 (ew rfl (qN 94 3 (.inl rfl)) ?_)
 rintro _ _ ⟨u7_1, rfl, rfl⟩
 refine st ?_
 refine zj hr rfl qi1 (qja _) (fun r3 h3 hr => ?_)
 refine st ?_
 obtain ⟨c, d, hr⟩ := exK (fun k => qbq k a2 a1 a0 r3 []) hr
 refine qct 12 rfl (asl rfl) fun e => ?_
 simp only [jb] at e
 refine qq (fun env σ => ∃ (o8 : List qao) (u7 : Value), env = [(7, .own u7 (o8.map qcJ))] ∧ σ = [.row u7 o8.length 94 3] ∧ c o8 = some a) ?_ (fun l => ?_)
 rintro _ _ ⟨o8, u7, rfl, rfl, hr⟩
 rw [d] at hr
 refine st ?_
 cases hr
 refine qaw Tryz.func110 _ (.cons (za rfl (Wk.own _ _)) .nil) ?_
 rfl
 refine qab [1, 2, 3, 8, 7, 9] rfl (qbA [_] _ (pf0 _) (qR (fun n env σ => ∃ (o5 : List qao) (i6 : Nat) (u4 : Value), n = r3.length - i6 ∧ (env = [(1, .str a1), (2, .int .i64 a2), (3, .ptr (qi a0)), (8, .lst (r3.map qcJ)), (7, .own u4 (o5.map qcJ)), (9, .int .i64 (i6 : Int))]) ∧ (σ = [.row u4 o5.length 94 3]) ∧ (i6 ≤ r3.length) ∧ (qbq c a2 a1 a0 (r3.drop i6) o5 = some a)) _ ⟨[], 0, u7_1, rfl, rfl, rfl, jc _, hr⟩ ?_))
 rintro n _ _ ⟨o5, i6, u4, rfl, rfl, rfl, g, hr⟩ m
 rcases zb r3 i6 g with ⟨h, b, o⟩ | ⟨q_9, h, b, p, q⟩
 rw [b, qbq] at hr
 exact fin hr
 rw [b, qbq] at hr
 refine st ?_
 refine qy (qai (qdH 19 85899345920 ?_))
 refine st ?_
 obtain ⟨q_10, h10, hr⟩ := zd hr
 refine st ?_
 refine zj hr rfl qfA (qfD _) (fun r11 h11 hr => ?_)
 refine st ?_
 obtain ⟨q_12, h12, hr⟩ := zd hr
 refine st ?_
 refine ew rfl (qau rfl qfI) ?_
 rintro _ _ ⟨b10_12, rfl, rfl⟩
 refine qbZ rfl (pf0 _) (qac (qbb 10 b10_12 rfl (pf0 _) ?_))
 refine st ?_
 refine rd rfl (qgP rfl rfl rfl rfl) (qd 1 rfl ?_)
 refine zo 40 rfl hr (fun _ hr => ?_) (fun _ hr => ?_)
 refine st ?_
 refine zh 46 rfl hr (fun _ hr => ?_) (fun _ hr => ?_)
 refine qf1 rfl (ze 8 4096 ?_)
 refine st ?_
 refine rd rfl (qet (f := qcJ) [.tmp 51] [q_9] rfl qjr rfl rfl od od (.oc rfl .nil) qht (fun _ => rfl)) ?_
 obtain ⟨l16, h16, hr⟩ := zd hr
 refine ew rfl (qah (f := qcJ) o5 [q_9] rfl qjr rfl rfl (asl rfl) (pf0 _) rfl qht h16) ?_
 rintro _ _ ⟨u53_16, rfl, rfl⟩
 exact fin hr
 exact fin hr
 exact fin hr
def qe8 (a0 : List Int) (a1 : Int) (a2 : Int) : Option Bool :=
 (bif (decide (a1 < (a0.length : Int))) then
 ((zi a0 a1).bind fun q_2 =>
 some ((q_2 == a2)))
 else
 some (false))
theorem qmp (a0 : List Int) (a1 : Int) (a2 : Int) (a : Bool) (hr : qe8 a0 a1 a2 = some a) : zf Tryz.prog 138 [.lst (a0.map (D.int .i64)), .int .i64 a1, .int .i64 a2] (.bool a) := by
 unfold qe8 at hr
 refine qx Tryz.func138 rfl fun K b c => ?_
 refine st ?_
 refine zo 11 rfl hr (fun _ hr => ?_) (fun _ hr => ?_)
 refine qd 2 rfl ?_
 obtain ⟨q_2, h2, hr⟩ := zd hr
 exact fin hr
 exact fin hr
def qak (k : List qv → Option (List qv)) (a3 : qn) (k5 : Int) (a2 : qao) : List (List Int) → List qv → Option (List qv)
 | [], o7 =>
 (k o7)
 | q_11 :: rest, o7 =>
 ((qe8 q_11 a2.fK a3.fc).bind fun r12 =>
 (bif r12 then
 ((zF 56 o7 [(⟨k5, a3.fc, a3.fu, a2.fC, q_11⟩ : qv)]).bind fun l14 =>
 (qak k a3 k5 a2 rest l14))
 else
 (qak k a3 k5 a2 rest o7)))
def qes (k : Int → Option (List qv)) (a2 : qao) : Option (List qv) :=
 (bif a2.fM then
 (k 5)
 else
 (k 4))
def qec (fuel : Nat) (a0 : qc) (a1 : qe) (a2 : qao) (a3 : qn) : Option (List qv) :=
 ((qds fuel a0 a1.fo a1.ft [] a1.fD a2.fC).bind fun r3 =>
 (qes (fun k5 =>
 (qak (fun o10 =>
 some (o10)) a3 k5 a2 r3 [])) a2))
theorem qks (fuel : Nat) (a0 : qc) (a1 : qe) (a2 : qao) (a3 : qn) (a : List qv) (hr : qec fuel a0 a1 a2 a3 = some a) : Spec Tryz.prog 111 [qi a0, qaa a1, qcJ a2, qs a3] [] (fun d σ => ∃ (n_o0 : Value), d = .own n_o0 (a.map qL) ∧ σ = [.row n_o0 a.length 62 5]) := by
 unfold qec at hr
 refine qx Tryz.func111 rfl fun K j m => (qai (ze 5 256 (rd rfl (qcG rfl rfl rfl) (rd rfl (qcG rfl rfl rfl) (rd rfl (qcG rfl rfl rfl) (rd rfl (qcG rfl rfl rfl) (ew rfl (qN 62 5 (.inl rfl)) ?_)))))))
 rintro _ _ ⟨u8_0, rfl, rfl⟩
 refine st0 ?_
 refine ze 1 1 (ew rfl (qN 62 5 (.inl rfl)) ?_)
 rintro _ _ ⟨u9_1, rfl, rfl⟩
 refine st ?_
 obtain ⟨r3, h3, hr⟩ := zd hr
 refine rd rfl (by exact qhg rfl qkE (.oc rfl (.oc rfl (.oc rfl (.cons rfl (Wk.full _) (.oc rfl (.oc rfl .nil)))))) (qkI fuel _ _ _ _ _ _ _ h3)) ?_
 refine qd 1 rfl (qac (qai (ze 1 0 (qd 1 rfl (qac ?_)))))
 obtain ⟨kkJ0, hkkJ0, hr⟩ := exK (fun k => qes k a2) hr
 refine qqs (fun env σ => ∃ (k5 : Int) (u4 : Value), env = [(6, .ptr (qcJ a2)), (7, .ptr (qs a3)), (9, .own u4 ([].map qL)), (10, .lst (r3.map (fun (l : List Int) => D.lst (l.map (D.int .i64))))), (11, .int .i64 k5)] ∧ σ = [.row u4 ([] : (List qv)).length 62 5] ∧ kkJ0 k5 = some a) ?_ (fun HKJ0 => ?_)
 rintro _ _ ⟨k5, u4, rfl, rfl, hr⟩
 rw [hkkJ0] at hr
 refine st ?_
 obtain ⟨c, e, hr⟩ := exK (fun k => qak k a3 k5 a2 r3 []) hr
 refine qct 10 rfl (asl rfl) fun g => ?_
 simp only [jb] at g
 refine qq (fun env σ => ∃ (o10 : List qv) (u9 : Value), env = [(9, .own u9 (o10.map qL))] ∧ σ = [.row u9 o10.length 62 5] ∧ c o10 = some a) ?_ (fun o => ?_)
 rintro _ _ ⟨o10, u9, rfl, rfl, hr⟩
 rw [e] at hr
 refine st ?_
 cases hr
 refine qiZ Tryz.func111 rfl ?_
 exact ⟨u9, rfl, rfl⟩
 refine qab [6, 7, 10, 11, 9, 12] rfl (qR (fun n env σ => ∃ (o7 : List qv) (i8 : Nat) (u6 : Value), n = r3.length - i8 ∧ (env = [(6, .ptr (qcJ a2)), (7, .ptr (qs a3)), (10, .lst (r3.map (fun (l : List Int) => D.lst (l.map (D.int .i64))))), (11, .int .i64 k5), (9, .own u6 (o7.map qL)), (12, .int .i64 (i8 : Int))]) ∧ (σ = [.row u6 o7.length 62 5]) ∧ (i8 ≤ r3.length) ∧ (qak c a3 k5 a2 (r3.drop i8) o7 = some a)) _ ⟨[], 0, u4, rfl, rfl, rfl, jc _, hr⟩ ?_)
 rintro n _ _ ⟨o7, i8, u6, rfl, rfl, rfl, h, hr⟩ p
 rcases zb r3 i8 h with ⟨i, b, q⟩ | ⟨q_11, i, b, r, s⟩
 rw [b, qak] at hr
 exact fin hr
 rw [b, qak] at hr
 refine st ?_
 refine qy (qai (qdH 9 0 ?_))
 refine st ?_
 refine zj hr rfl qmy (qmp _ _ _) (fun r12 h12 hr => ?_)
 refine qac ?_
 refine zh 39 rfl hr (fun _ hr => ?_) (fun _ hr => ?_)
 refine qf1 rfl (qdH 16 268435456 ?_)
 refine st ?_
 refine rd rfl (qay rfl qgl (.oc rfl (.oc rfl (.oc rfl (.oc rfl (.oc rfl .nil))))) (.cons rfl rfl rfl (.cons rfl rfl rfl (.cons rfl rfl rfl (.cons rfl rfl rfl (.cons rfl rfl rfl (.nil _))))))) (rd rfl (qet (f := qL) [.tmp 52] [(⟨k5, a3.fc, a3.fu, a2.fC, q_11⟩ : qv)] rfl qef rfl rfl od od (.oc rfl .nil) qc3 (fun _ => rfl)) ?_)
 obtain ⟨l14, h14, hr⟩ := zd hr
 refine ew rfl (qah (f := qL) o7 [(⟨k5, a3.fc, a3.fu, a2.fC, q_11⟩ : qv)] rfl qef rfl rfl (asl rfl) (pf0 _) rfl qc3 h14) ?_
 rintro _ _ ⟨u54_14, rfl, rfl⟩
 exact fin hr
 exact fin hr
 unfold qes at hr
 refine st ?_
 refine zh 24 rfl hr (fun _ hr => ?_) (fun _ hr => ?_)
 refine qf1 rfl (ze 1 0 (qd 1 rfl (qac (qab [6, 7, 9, 10, 11] rfl (qbA [_] _ (pf0 _) ?_)))))
 exact HKJ0 _ _ ⟨5, u9_1, rfl, rfl, hr⟩
 refine qhR rfl (qnH (qab [6, 7, 9, 10, 11] rfl (qbA [_] _ (pf0 _) ?_)))
 exact HKJ0 _ _ ⟨4, u9_1, rfl, rfl, hr⟩
def qbB (fuel : Nat) (a0 : qc) (a1 : qe) : Option (List qv) :=
 ((qcO fuel a0 a1).bind fun r2 =>
 (bif (!r2) then
 some ([])
 else
 (bif a1.fG then
 some ([])
 else
 (bif ((a1.fb.length : Int) == (0 : Int)) then
 some ([])
 else
 ((zi a1.fb (wr ((a1.fb.length : Int) - (1 : Int)))).bind fun q_9 =>
 (bif (q_9.fc == (0 : Int)) then
 (bif (q_9.fk.op != (0 : Int)) then
 some ([(⟨1, 0, 0, 0, []⟩ : qv)])
 else
 some ([(⟨2, a1.fz, 0, 0, []⟩ : qv)]))
 else
 ((qej a1.fo q_9.fc).bind fun r13 =>
 (bif (!r13.2) then
 some ([(⟨7, q_9.fc, q_9.fu, 0, []⟩ : qv)])
 else
 (bif (decide (q_9.fu < (0 : Int))) then
 some ([(⟨3, q_9.fc, (-1), 0, []⟩ : qv)])
 else
 ((qfv a0 r13.1.n (r13.1.ts.length : Int)).bind fun r17 =>
 (bif (decide (q_9.fu ≥ (r17.length : Int))) then
 some ([(⟨7, q_9.fc, q_9.fu, 0, []⟩ : qv)])
 else
 ((zi r17 q_9.fu).bind fun q_19 =>
 ((qec fuel a0 a1 q_19 q_9).bind fun r20 =>
 (bif ((r20.length : Int) == (0 : Int)) then
 ((zF 56 r20 [(⟨6, q_9.fc, q_9.fu, 0, []⟩ : qv)]).bind fun l23 =>
 some (l23))
 else
 some (r20)))))))))))))))
theorem qhV (fuel : Nat) (a0 : qc) (a1 : qe) (res : List qv) (hr : qbB fuel a0 a1 = some res) : zf Tryz.prog 74 [qi a0, qaa a1] (.lst (res.map qL)) := by
 unfold qbB at hr
 refine qx Tryz.func74 rfl fun K hK hF => (qai (ze 3 16 (rd rfl (qcG rfl rfl rfl) (rd rfl (qcG rfl rfl rfl) (ew rfl (qN 62 5 (.inl rfl)) ?_)))))
 rintro _ _ ⟨u4_0, rfl, rfl⟩
 refine st ?_
 refine zj hr rfl qgJ (qgx fuel _ _) (fun r2 h2 hr => ?_)
 refine qd 2 rfl ?_
 refine zo 14 rfl hr (fun h14_2 hr => ?_) (fun h14_2 hr => ?_)
 refine st0 ?_
 refine ze 1 1 (ew rfl (qN 62 5 (.inl rfl)) ?_)
 rintro _ _ ⟨u4_3, rfl, rfl⟩
 refine qac ?_
 cases hr
 refine qaw Tryz.func74 _ (.cons (za rfl (Wk.own _ _)) .nil) ?_
 rfl
 refine qd 4 rfl ?_
 refine zo 18 rfl hr (fun h18_4 hr => ?_) (fun h18_4 hr => ?_)
 refine st0 ?_
 refine ze 1 1 (ew rfl (qN 62 5 (.inl rfl)) ?_)
 rintro _ _ ⟨u4_5, rfl, rfl⟩
 refine qac ?_
 cases hr
 refine qaw Tryz.func74 _ (.cons (za rfl (Wk.own _ _)) .nil) ?_
 rfl
 refine st ?_
 refine zh 23 rfl hr (fun h23_6 hr => ?_) (fun h23_6 hr => ?_)
 refine st0 ?_
 refine ze 1 1 (ew rfl (qN 62 5 (.inl rfl)) ?_)
 rintro _ _ ⟨u4_7, rfl, rfl⟩
 refine qac ?_
 cases hr
 refine qaw Tryz.func74 _ (.cons (za rfl (Wk.own _ _)) .nil) ?_
 rfl
 refine st0 ?_
 refine ze 10 327680 ?_
 refine st ?_
 refine rd rfl (qeg rfl rfl rfl rfl) ?_
 obtain ⟨q_9, h9, hr⟩ := zd hr
 refine st ?_
 refine ew rfl (qau rfl qkV) ?_
 rintro _ _ ⟨b5_9, rfl, rfl⟩
 refine z9 rfl (qjX _ rfl rfl rfl (Wk.refl _) (pf0 _) (by exact qer) (qad _) (by first | rfl | simp [sz, szs, qed, qcW]) rfl) (qac (qbb 5 b5_9 rfl (pf0 _) ?_))
 refine st ?_
 refine zh 34 rfl hr (fun h34_10 hr => ?_) (fun h34_10 hr => ?_)
 refine st ?_
 refine zh 38 rfl hr (fun h38_11 hr => ?_) (fun h38_11 hr => ?_)
 refine st ?_
 refine rd rfl (qay rfl qgl (.oc rfl .nil) (.cons rfl rfl rfl (.nil _))) (rd rfl (qet (f := qL) [.tmp 39] [(⟨1, 0, 0, 0, []⟩ : qv)] rfl qef rfl rfl od od (.oc rfl .nil) qc3 (fun _ => rfl)) ?_)
 refine st ?_
 cases hr
 refine qaw Tryz.func74 _ (.cons (za rfl (Wk.full _)) .nil) ?_
 rfl
 refine st ?_
 refine rd rfl (qay rfl qgl (.oc rfl (.oc rfl .nil)) (.cons rfl rfl rfl (.cons rfl rfl rfl (.nil _)))) (rd rfl (qet (f := qL) [.tmp 43] [(⟨2, a1.fz, 0, 0, []⟩ : qv)] rfl qef rfl rfl od od (.oc rfl .nil) qc3 (fun _ => rfl)) ?_)
 refine st ?_
 cases hr
 refine qaw Tryz.func74 _ (.cons (za rfl (Wk.full _)) .nil) ?_
 rfl
 refine st0 ?_
 refine ze 11 327680 (qd 4 rfl ?_)
 refine zj hr rfl qgS (qgR _ _) (fun r13 h13 hr => ?_)
 refine qd 3 rfl (ew rfl (qau rfl qfI) ?_)
 rintro _ _ ⟨b6_13, rfl, rfl⟩
 refine qbZ rfl (pf0 _) (qd 1 rfl (qac (qbb 6 b6_13 rfl (pf0 _) ?_)))
 refine st ?_
 refine zh 54 rfl hr (fun h54_14 hr => ?_) (fun h54_14 hr => ?_)
 refine st ?_
 refine rd rfl (qay rfl qgl (.oc rfl (.oc rfl (.oc rfl .nil))) (.cons rfl rfl rfl (.cons rfl rfl rfl (.cons rfl rfl rfl (.nil _))))) (rd rfl (qet (f := qL) [.tmp 59] [(⟨7, q_9.fc, q_9.fu, 0, []⟩ : qv)] rfl qef rfl rfl od od (.oc rfl .nil) qc3 (fun _ => rfl)) ?_)
 refine st ?_
 cases hr
 refine qaw Tryz.func74 _ (.cons (za rfl (Wk.full _)) .nil) ?_
 rfl
 refine st ?_
 refine zh 63 rfl hr (fun h63_15 hr => ?_) (fun h63_15 hr => ?_)
 refine st ?_
 refine rd rfl (qay rfl qgl (.oc rfl (.oc rfl (.oc rfl .nil))) (.cons rfl rfl rfl (.cons rfl rfl rfl (.cons rfl rfl rfl (.nil _))))) (rd rfl (qet (f := qL) [.tmp 66] [(⟨3, q_9.fc, (-1), 0, []⟩ : qv)] rfl qef rfl rfl od od (.oc rfl .nil) qc3 (fun _ => rfl)) ?_)
 refine st ?_
 cases hr
 refine qaw Tryz.func74 _ (.cons (za rfl (Wk.full _)) .nil) ?_
 rfl
 refine st ?_
 refine zj hr rfl qnh (qno _ _ _) (fun r17 h17 hr => ?_)
 refine st ?_
 refine zh 79 rfl hr (fun h79_17 hr => ?_) (fun h79_17 hr => ?_)
 refine st ?_
 refine rd rfl (qay rfl qgl (.oc rfl (.oc rfl (.oc rfl .nil))) (.cons rfl rfl rfl (.cons rfl rfl rfl (.cons rfl rfl rfl (.nil _))))) (rd rfl (qet (f := qL) [.tmp 84] [(⟨7, q_9.fc, q_9.fu, 0, []⟩ : qv)] rfl qef rfl rfl od od (.oc rfl .nil) qc3 (fun _ => rfl)) ?_)
 refine st ?_
 cases hr
 refine qaw Tryz.func74 _ (.cons (za rfl (Wk.full _)) .nil) ?_
 rfl
 refine st ?_
 refine qdH 10 65536 (qd 5 rfl ?_)
 obtain ⟨q_19, h19, hr⟩ := zd hr
 refine st ?_
 obtain ⟨r20, h20, hr⟩ := zd hr
 refine ew rfl (qiP _ rfl qlX (.oc rfl (.oc rfl (.oc rfl (.oc rfl .nil)))) (by exact (List.Perm.refl _)) (qks fuel _ _ _ _ _ h20)) ?_
 rintro _ _ ⟨_, ⟨u94_20, rfl, rfl⟩, rfl⟩
 refine y7 ((.row u94_20 r20.length 62 5) :: _) rfl ?_
 refine st ?_
 refine zh 97 rfl hr (fun h97_21 hr => ?_) (fun h97_21 hr => ?_)
 refine qf1 rfl (ze 9 16384 (qd 5 rfl (rd rfl (qay rfl qgl (.oc rfl (.oc rfl (.oc rfl .nil))) (.cons rfl rfl rfl (.cons rfl rfl rfl (.cons rfl rfl rfl (.nil _))))) (rd rfl (qet (f := qL) [.tmp 103] [(⟨6, q_9.fc, q_9.fu, 0, []⟩ : qv)] rfl qef rfl rfl od od (.oc rfl .nil) qc3 (fun _ => rfl)) ?_))))
 obtain ⟨l23, h23, hr⟩ := zd hr
 refine ew rfl (qah (f := qL) r20 [(⟨6, q_9.fc, q_9.fu, 0, []⟩ : qv)] rfl qef rfl rfl (asl rfl) (pf0 _) rfl qc3 h23) ?_
 rintro _ _ ⟨u105_23, rfl, rfl⟩
 refine st ?_
 cases hr
 refine qaw Tryz.func74 _ (.cons (za rfl (Wk.own _ _)) .nil) ?_
 rfl
 refine st ?_
 cases hr
 refine qaw Tryz.func74 _ (.cons (za rfl (Wk.own _ _)) .nil) ?_
 rfl
def qe5 (fuel : Nat) (a0 : qc) (a1 : qe) : Option (qv × Bool) :=
 ((qbB fuel a0 a1).bind fun r2 =>
 (bif ((r2.length : Int) == (0 : Int)) then
 some ((⟨0, 0, 0, 0, []⟩ : qv), false)
 else
 ((zi r2 0).bind fun q_4 =>
 some (q_4, true))))
theorem qmw (fuel : Nat) (a0 : qc) (a1 : qe) (res : qv × Bool) (hr : qe5 fuel a0 a1 = some res) : zf Tryz.prog 33 [qi a0, qaa a1] (.tup [qL res.1, .bool res.2]) := by
 unfold qe5 at hr
 refine qx Tryz.func33 rfl fun K hK hF => (qai (ze 4 16 (rd rfl (qcG rfl rfl rfl) (rd rfl (qcG rfl rfl rfl) (ew rfl (qau rfl qo1) ?_)))))
 rintro _ _ ⟨b4_0, rfl, rfl⟩
 refine st ?_
 refine zj hr rfl qhW (qhV fuel _ _) (fun r2 h2 hr => ?_)
 refine st ?_
 refine zh 12 rfl hr (fun h12_2 hr => ?_) (fun h12_2 hr => ?_)
 refine st0 ?_
 refine ze 3 4 (rd rfl (qay rfl qgl .nil (.nil _)) (qbZ rfl (pf0 _) ?_))
 refine st ?_
 cases hr
 refine qaw Tryz.func33 _ (.cons (zm rfl (.head _) (by exact qnk) rfl (Wk.refl _)) (.cons (za rfl (Wk.refl _)) .nil)) ?_
 rfl
 refine st0 ?_
 refine ze 5 64 (qd 1 rfl ?_)
 obtain ⟨q_4, h4, hr⟩ := zd hr
 refine st ?_
 refine qbZ rfl (pf0 _) ?_
 refine st ?_
 cases hr
 refine qaw Tryz.func33 _ (.cons (zm rfl (.head _) (by exact qnk) (qc3 _) (Wk.refl _)) (.cons (za rfl (Wk.refl _)) .nil)) ?_
 rfl
def qaV (k : Option Bool) (a1 : qv) : List Int → Nat → Option Bool
 | [], i6 =>
 k
 | q_7 :: rest, i6 =>
 ((zi a1.fH (i6 : Int)).bind fun q_8 =>
 (bif (q_7 != q_8) then
 some (false)
 else
 (qaV k a1 rest (i6 + 1))))
def qdO (a0 : qv) (a1 : qv) : Option Bool :=
 (bif (a0.fa != a1.fa) then
 some (false)
 else
 (bif (a0.fc != a1.fc) then
 some (false)
 else
 (bif (a0.fu != a1.fu) then
 some (false)
 else
 (bif (a0.fJ != a1.fJ) then
 some (false)
 else
 (bif ((a0.fH.length : Int) != (a1.fH.length : Int)) then
 some (false)
 else
 (qaV (some (true)) a1 a0.fH 0))))))
theorem qjZ (a0 : qv) (a1 : qv) (a : Bool) (hr : qdO a0 a1 = some a) : zf Tryz.prog 75 [qL a0, qL a1] (.bool a) := by
 unfold qdO at hr
 refine qx Tryz.func75 rfl fun K i j => ?_
 refine st ?_
 refine rd rfl (qcG rfl rfl rfl) (rd rfl (qcG rfl rfl rfl) ?_)
 refine st ?_
 refine zo 11 rfl hr (fun _ hr => ?_) (fun _ hr => ?_)
 exact fin hr
 refine qd 7 rfl ?_
 refine zo 18 rfl hr (fun _ hr => ?_) (fun _ hr => ?_)
 exact fin hr
 refine qd 7 rfl ?_
 refine zo 25 rfl hr (fun _ hr => ?_) (fun _ hr => ?_)
 exact fin hr
 refine qd 7 rfl ?_
 refine zo 32 rfl hr (fun _ hr => ?_) (fun _ hr => ?_)
 exact fin hr
 refine st ?_
 refine zh 40 rfl hr (fun _ hr => ?_) (fun _ hr => ?_)
 exact fin hr
 refine st ?_
 obtain ⟨c, d, hr⟩ := exK (fun k => qaV k a1 a0.fH 0) hr
 refine qct 34 rfl (asl rfl) fun e => ?_
 simp only [jb] at e
 refine qq (fun env σ => env = [] ∧ σ = [] ∧ c = some a) ?_ (fun l => ?_)
 rintro _ _ ⟨rfl, rfl, hr⟩
 rw [d] at hr
 exact fin hr
 refine qab [2, 3, 5] rfl (qR (fun n env σ => ∃ (i6 : Nat), n = a0.fH.length - i6 ∧ (env = [(2, .ptr (qL a0)), (3, .ptr (qL a1)), (5, .int .i64 (i6 : Int))]) ∧ (σ = []) ∧ (i6 ≤ a0.fH.length) ∧ (qaV c a1 (a0.fH.drop i6) i6 = some a)) _ ⟨0, rfl, rfl, rfl, jc _, hr⟩ ?_)
 rintro n _ _ ⟨i6, rfl, rfl, rfl, g, hr⟩ m
 rcases zb a0.fH i6 g with ⟨h, b, o⟩ | ⟨q_7, h, b, p, q⟩
 rw [b, qaV] at hr
 exact fin hr
 rw [b, qaV] at hr
 refine st ?_
 refine qy (qai (qdH 11 0 ?_))
 refine st ?_
 obtain ⟨q_8, h8, hr⟩ := zd hr
 refine st ?_
 refine zh 58 rfl hr (fun _ hr => ?_) (fun _ hr => ?_)
 exact fin hr
 exact fin hr
def qcr (k : Option Bool) (a1 : Int) : List Int → Option Bool
 | [] =>
 k
 | q_2 :: rest =>
 (bif (q_2 == a1) then
 some (true)
 else
 (qcr k a1 rest))
def qgm (a0 : List Int) (a1 : Int) : Option Bool :=
 (qcr (some (false)) a1 a0)
theorem qjq (a0 : List Int) (a1 : Int) (a : Bool) (hr : qgm a0 a1 = some a) : zf Tryz.prog 143 [.lst (a0.map (D.int .i64)), .int .i64 a1] (.bool a) := by
 unfold qgm at hr
 refine qx Tryz.func143 rfl fun K i j => ?_
 refine st ?_
 obtain ⟨c, d, hr⟩ := exK (fun k => qcr k a1 a0) hr
 refine qct 0 rfl (asl rfl) fun e => ?_
 simp only [jb] at e
 refine qq (fun env σ => env = [] ∧ σ = [] ∧ c = some a) ?_ (fun l => ?_)
 rintro _ _ ⟨rfl, rfl, hr⟩
 rw [d] at hr
 exact fin hr
 refine qab [0, 1, 5] rfl (qR (fun n env σ => ∃ (i1 : Nat), n = a0.length - i1 ∧ (env = [(0, .lst (a0.map (D.int .i64))), (1, .int .i64 a1), (5, .int .i64 (i1 : Int))]) ∧ (σ = []) ∧ (i1 ≤ a0.length) ∧ (qcr c a1 (a0.drop i1) = some a)) _ ⟨0, rfl, rfl, rfl, jc _, hr⟩ ?_)
 rintro n _ _ ⟨i1, rfl, rfl, rfl, g, hr⟩ m
 rcases zb a0 i1 g with ⟨h, b, o⟩ | ⟨q_2, h, b, p, q⟩
 rw [b, qcr] at hr
 exact fin hr
 rw [b, qcr] at hr
 refine st ?_
 refine qy ?_
 refine st ?_
 refine zh 17 rfl hr (fun _ hr => ?_) (fun _ hr => ?_)
 exact fin hr
 exact fin hr
def qaZ (k : Int → Option (List Int)) (q_8 : (Int × At)) : List Int → Nat → Option (List Int)
 | [], k19 =>
 (k (k19 : Int))
 | q_31 :: rest, k19 =>
 (bif (decide (q_31 < q_8.1)) then
 (qaZ k q_8 rest (k19 + 1))
 else
 (k (k19 : Int)))
def qax (k : Bool → Option (List Int)) (a1 : List Int) : List Int → Bool → Option (List Int)
 | [], h11 =>
 (k h11)
 | q_33 :: rest, h11 =>
 (bif h11 then
 (qax k a1 rest true)
 else
 ((qgm a1 q_33).bind fun r35 =>
 (qax k a1 rest r35)))
def qal (k : List Int → Option (List Int)) (fuel : Nat) (a1 : List Int) : List (Int × At) → List Int → Option (List Int)
 | [], o4 =>
 (k o4)
 | q_8 :: rest, o4 =>
 ((qbM fuel q_8.2).bind fun r9 =>
 (qax (fun h14 =>
 (bif (!h14) then
 (qal k fuel a1 rest o4)
 else
 ((qgm o4 q_8.1).bind fun r16 =>
 (bif r16 then
 (qal k fuel a1 rest o4)
 else
 (qaZ (fun k21 =>
 ((zZ o4 0 k21).bind fun l23 =>
 ((zF 8 [] l23).bind fun l24 =>
 ((zF 8 l24 [q_8.1]).bind fun l26 =>
 ((zZ o4 k21 (o4.length : Int)).bind fun l28 =>
 ((zF 8 l26 l28).bind fun l29 =>
 (qal k fuel a1 rest l29))))))) q_8 o4 0))))) a1 r9 false))
def qeb (fuel : Nat) (a0 : List (Int × At)) (a1 : List Int) : Option (List Int) :=
 (qal (fun o7 =>
 some (o7)) fuel a1 a0 [])
theorem qkl (fuel : Nat) (a0 : List (Int × At)) (a1 : List Int) (a : List Int) (hr : qeb fuel a0 a1 = some a) : zf Tryz.prog 115 [.lst (a0.map zn), .lst (a1.map (D.int .i64))] (.lst (a.map (D.int .i64))) := by
 unfold qeb at hr
 refine qx Tryz.func115 rfl fun K x y => (qai (ze 1 1 (ew rfl (qN 3 1 (.inl rfl)) ?_)))
 rintro _ _ ⟨u4_0, rfl, rfl⟩
 refine st0 ?_
 refine ze 1 1 (ew rfl (qN 3 1 (.inl rfl)) ?_)
 rintro _ _ ⟨u5_1, rfl, rfl⟩
 refine st ?_
 obtain ⟨g, j, hr⟩ := exK (fun k => qal k fuel a1 a0 []) hr
 refine qct 0 rfl (asl rfl) fun l => ?_
 simp only [jb] at l
 refine qq (fun env σ => ∃ (o7 : List Int) (u6 : Value), env = [(5, .own u6 (o7.map (D.int .i64)))] ∧ σ = [.row u6 o7.length 3 1] ∧ g o7 = some a) ?_ (fun z => ?_)
 rintro _ _ ⟨o7, u6, rfl, rfl, hr⟩
 rw [j] at hr
 refine st ?_
 cases hr
 refine qaw Tryz.func115 _ (.cons (za rfl (Wk.own _ _)) .nil) ?_
 rfl
 refine qab [0, 1, 5, 6] rfl (qbA [_] _ (pf0 _) (qR (fun n env σ => ∃ (o4 : List Int) (i5 : Nat) (u3 : Value), n = a0.length - i5 ∧ (env = [(0, .lst (a0.map zn)), (1, .lst (a1.map (D.int .i64))), (5, .own u3 (o4.map (D.int .i64))), (6, .int .i64 (i5 : Int))]) ∧ (σ = [.row u3 o4.length 3 1]) ∧ (i5 ≤ a0.length) ∧ (qal g fuel a1 (a0.drop i5) o4 = some a)) _ ⟨[], 0, u5_1, rfl, rfl, rfl, jc _, hr⟩ ?_))
 rintro n _ _ ⟨o4, i5, u3, rfl, rfl, rfl, m, hr⟩ o
 rcases zb a0 i5 m with ⟨p, b, A⟩ | ⟨q_8, p, b, B, C⟩
 rw [b, qal] at hr
 exact fin hr
 rw [b, qal] at hr
 refine st ?_
 refine qy ?_
 refine st ?_
 refine zj hr rfl qf0 (qfU fuel _) (fun r9 h9 hr => ?_)
 refine st ?_
 obtain ⟨h, q, hr⟩ := exK (fun k => qax k a1 r9 false) hr
 refine qct 23 rfl (asl rfl) fun r => ?_
 simp only [jb] at r
 refine qq (fun env σ => ∃ (h14 : Bool) (u13 : Value), env = [(0, .lst (a0.map zn)), (1, .lst (a1.map (D.int .i64))), (5, .own u13 (o4.map (D.int .i64))), (6, .int .i64 (i5 : Int)), (7, .bool h14)] ∧ σ = [.row u13 o4.length 3 1] ∧ h h14 = some a) ?_ (fun E => ?_)
 rintro _ _ ⟨h14, u13, rfl, rfl, hr⟩
 rw [q] at hr
 refine st ?_
 refine zo 41 rfl hr (fun _ hr => ?_) (fun _ hr => ?_)
 exact fin hr
 refine st ?_
 obtain ⟨r16, h16, hr⟩ := zd hr
 refine rd rfl (qhg rfl qjv (.cons rfl (Wk.own _ _) (.oc rfl .nil)) (qjq _ _ _ h16)) ?_
 refine st ?_
 refine zh 49 rfl hr (fun _ hr => ?_) (fun _ hr => ?_)
 exact fin hr
 refine st ?_
 obtain ⟨i, s, hr⟩ := exK (fun k => qaZ k q_8 o4 0) hr
 refine qct 5 rfl (asl rfl) fun t => ?_
 simp only [jb] at t
 refine qq (fun env σ => ∃ (k21 : Int) (u20 : Value), env = [(0, .lst (a0.map zn)), (1, .lst (a1.map (D.int .i64))), (5, .own u20 (o4.map (D.int .i64))), (6, .int .i64 (i5 : Int)), (10, .int .i64 k21)] ∧ σ = [.row u20 o4.length 3 1] ∧ i k21 = some a) ?_ (fun F => ?_)
 rintro _ _ ⟨k21, u20, rfl, rfl, hr⟩
 rw [s] at hr
 refine qai (ze 1 1 (ew rfl (qN 3 1 (.inl rfl)) ?_))
 rintro _ _ ⟨u11_21, rfl, rfl⟩
 refine st0 ?_
 refine ze 6 256 (qd 3 rfl ?_)
 obtain ⟨l23, h23, hr⟩ := zd hr
 refine rd rfl (qjy (f := (D.int .i64)) o4 0 k21 rfl qaS rfl (asl rfl) qg0 (qg7 rfl) (fun _ => rfl) h23) ?_
 obtain ⟨l24, h24, hr⟩ := zd hr
 refine ew rfl (qah (f := (D.int .i64)) [] l23 rfl qaS rfl rfl (asl rfl) (pf0 _) rfl (fun _ => rfl) h24) ?_
 rintro _ _ ⟨u72_24, rfl, rfl⟩
 refine st0 ?_
 refine ze 9 16384 ?_
 refine st ?_
 refine rd rfl (qet (f := (D.int .i64)) [.tmp 78] [q_8.1] rfl qaS rfl rfl od od (.oc rfl .nil) (fun _ => rfl) (fun _ => rfl)) ?_
 obtain ⟨l26, h26, hr⟩ := zd hr
 refine ew rfl (qah (f := (D.int .i64)) l24 [q_8.1] rfl qaS rfl rfl (asl rfl) (pf0 _) rfl (fun _ => rfl) h26) ?_
 rintro _ _ ⟨u80_26, rfl, rfl⟩
 refine st0 ?_
 refine ze 6 256 (qd 3 rfl ?_)
 obtain ⟨l28, h28, hr⟩ := zd hr
 refine rd rfl (qjy (f := (D.int .i64)) o4 k21 (o4.length : Int) rfl qaS rfl (asl rfl) (qnZ rfl) qnV (fun _ => rfl) h28) ?_
 obtain ⟨l29, h29, hr⟩ := zd hr
 refine ew rfl (qah (f := (D.int .i64)) l26 l28 rfl qaS rfl rfl (asl rfl) (pf0 _) rfl (fun _ => rfl) h29) ?_
 rintro _ _ ⟨u85_29, rfl, rfl⟩
 refine qd 1 rfl (qac (qfZ (ze 3 0 (qd 1 rfl (qnL rfl (qd 1 rfl (qac (qab [0, 1, 5, 6] rfl (qbA [_] _ (pf0 _) ?_)))))))))
 exact o _ _ _ oa ⟨l29, (i5 + 1), u85_29, rfl, rfl, rfl, oa, hr⟩
 refine qab [0, 1, 5, 6, 10] rfl (qR (fun n env σ => ∃ (k19 : Nat) (u18 : Value), n = o4.length - k19 ∧ (env = [(0, .lst (a0.map zn)), (1, .lst (a1.map (D.int .i64))), (5, .own u18 (o4.map (D.int .i64))), (6, .int .i64 (i5 : Int)), (10, .int .i64 (k19 : Int))]) ∧ (σ = [.row u18 o4.length 3 1]) ∧ (k19 ≤ o4.length) ∧ (qaZ i q_8 (o4.drop k19) k19 = some a)) _ ⟨0, u13, rfl, rfl, rfl, jc _, hr⟩ ?_)
 rintro n _ _ ⟨k19, u18, rfl, rfl, rfl, u, hr⟩ G
 rcases zb o4 k19 u with ⟨c, d, H⟩ | ⟨q_31, c, d, I, J⟩
 rw [d, qaZ] at hr
 refine st ?_
 refine qdH 16 0 (qd 2 rfl (qjz rfl (qd 2 rfl (qhh 54 false rfl c ?_))))
 exact fin hr
 rw [d, qaZ] at hr
 refine st ?_
 refine qdH 16 0 (qd 2 rfl (qjz rfl (qd 2 rfl (qhh 54 true rfl c ?_))))
 refine st ?_
 refine zh 65 rfl hr (fun _ hr => ?_) (fun _ hr => ?_)
 refine st ?_
 refine qy ?_
 exact fin hr
 exact fin hr
 refine qab [0, 1, 5, 6, 8, 7, 9] rfl (qR (fun n env σ => ∃ (h11 : Bool) (k12 : Nat) (u10 : Value), n = r9.length - k12 ∧ (env = [(0, .lst (a0.map zn)), (1, .lst (a1.map (D.int .i64))), (5, .own u10 (o4.map (D.int .i64))), (6, .int .i64 (i5 : Int)), (8, .lst (r9.map (D.int .i64))), (7, .bool h11), (9, .int .i64 (k12 : Int))]) ∧ (σ = [.row u10 o4.length 3 1]) ∧ (k12 ≤ r9.length) ∧ (qax h a1 (r9.drop k12) h11 = some a)) _ ⟨false, 0, u3, rfl, rfl, rfl, jc _, hr⟩ ?_)
 rintro n _ _ ⟨h11, k12, u10, rfl, rfl, rfl, v, hr⟩ L
 rcases zb r9 k12 v with ⟨w, e, M⟩ | ⟨q_33, w, e, N, O⟩
 rw [e, qax] at hr
 exact fin hr
 rw [e, qax] at hr
 refine st ?_
 refine qy ?_
 refine st ?_
 refine zo 31 rfl hr (fun _ hr => ?_) (fun _ hr => ?_)
 exact fin hr
 refine st ?_
 refine zj hr rfl qjv (qjq _ _) (fun r35 h35 hr => ?_)
 exact fin hr
def qbN (k : List qn → Option (qe × Int)) (r17 : List Int) : Nat → List qn → Option (qe × Int)
 | 0, s19 =>
 (k s19)
 | k24 + 1, s19 =>
 ((zi r17 (k24 : Int)).bind fun q_25 =>
 ((zF 64 s19 [(⟨(⟨0, ⟨#[]⟩, []⟩ : Gl), q_25, (-1)⟩ : qn)]).bind fun l26 =>
 (qbN k r17 k24 l26)))
def qaG (k : List qn → Option (qe × Int)) (a0 : qe) (fuel : Nat) (r4 : (List (Int × T)) × (List Int) × Int) : Nat → List qn → Int → Option (qe × Int)
 | 0, s10, i11 =>
 (k s10)
 | rest + 1, s10, i11 =>
 ((zi a0.fb i11).bind fun q_29 =>
 (bif (q_29.fc == (0 : Int)) then
 ((qcw fuel r4.1 q_29.fk).bind fun r32 =>
 ((qjW r32).bind fun r33 =>
 (bif (!r33) then
 some ((⟨[], [], [], [], 0, 0, false⟩ : qe), 6)
 else
 ((zF 64 s10 [(⟨r32, q_29.fc, q_29.fu⟩ : qn)]).bind fun l35 =>
 (qaG k a0 fuel r4 rest l35 (i11 + 1))))))
 else
 ((zF 64 s10 [q_29]).bind fun l37 =>
 (qaG k a0 fuel r4 rest l37 (i11 + 1)))))
def qeL (fuel : Nat) (a0 : qe) : Option (qe × Int) :=
 ((zi a0.fb (wr ((a0.fb.length : Int) - (1 : Int)))).bind fun q_3 =>
 ((qd3 fuel a0.ft q_3.fk).bind fun r4 =>
 (bif (r4.2.2 == (6 : Int)) then
 some ((⟨[], [], [], [], 0, 0, false⟩ : qe), 6)
 else
 (bif (r4.2.2 != (0 : Int)) then
 ((zZ a0.fb 0 (wr ((a0.fb.length : Int) - (1 : Int)))).bind fun l7 =>
 some ((⟨l7, a0.fo, a0.ft, a0.fD, a0.fz, a0.fE, true⟩ : qe), 0))
 else
 (qaG (fun s13 =>
 ((qeV fuel a0.fo r4.1).bind fun r14 =>
 ((qdj r14).bind fun r15 =>
 (bif (!r15) then
 some ((⟨[], [], [], [], 0, 0, false⟩ : qe), 6)
 else
 ((qeb fuel a0.fo r4.2.1).bind fun r17 =>
 ((zab (wr ((r17.length : Int) - (1 : Int)))).bind fun m28 =>
 (qbN (fun s22 =>
 (bif (decide ((s22.length : Int) > (1000 : Int))) then
 some ((⟨[], [], [], [], 0, 0, false⟩ : qe), 6)
 else
 some ((⟨s22, r14, r4.1, a0.fD, a0.fz, a0.fE, a0.fG⟩ : qe), 0))) r17 m28 s13))))))) a0 fuel r4 ((wr ((a0.fb.length : Int) - (1 : Int))) - 0 : Int).toNat [] 0)))))
theorem qly (fuel : Nat) (a0 : qe) (a : qe × Int) (hr : qeL fuel a0 = some a) : zf Tryz.prog 76 [qaa a0] (.tup [qaa a.1, .int .i64 a.2]) := by
 unfold qeL at hr
 refine qx Tryz.func76 rfl fun K p q => (qai (ze 3 5 (ew rfl (ql8 rfl rfl rfl) ?_)))
 rintro _ _ ⟨b1_0, rfl, rfl⟩
 refine ew rfl (qau rfl qg8) ?_
 rintro _ _ ⟨b2_1, rfl, rfl⟩
 refine st0 ?_
 refine ze 5 8 (rd rfl (qg rfl qW rfl) (qbR 1 rfl (qjz rfl (rd rfl (qeg rfl rfl rfl rfl) ?_))))
 refine st ?_
 refine qdH 16 136 (rd rfl (qg rfl qiK rfl) (qbR 1 rfl (rd rfl (qg rfl qW rfl) (qbR 1 rfl (qd 1 rfl ?_)))))
 obtain ⟨q_3, h3, hr⟩ := zd hr
 refine st ?_
 refine zj hr rfl qls (qlx fuel _ _) (fun r4 h4 hr => ?_)
 refine st ?_
 refine zh 32 rfl hr (fun _ hr => ?_) (fun _ hr => ?_)
 refine st0 ?_
 refine ze 3 4 (rd rfl (qay rfl qde .nil (.nil _)) (qbZ rfl (pf0 _) ?_))
 refine st ?_
 cases hr
 refine qaw Tryz.func76 _ (.cons (zm rfl (.head _) (by exact q7) rfl (Wk.refl _)) (.cons (za rfl (Wk.refl _)) .nil)) ?_
 rfl
 refine st ?_
 refine zh 35 rfl hr (fun _ hr => ?_) (fun _ hr => ?_)
 refine st0 ?_
 refine ze 6 1032 (rd rfl (qg rfl qW rfl) (qbR 1 rfl (qd 1 rfl ?_)))
 obtain ⟨l7, h7, hr⟩ := zd hr
 refine rd rfl (qjy (f := qs) a0.fb 0 (wr ((a0.fb.length : Int) - (1 : Int))) rfl qa4 rfl (asl rfl) qg0 (qg7 rfl) qad h7) (rd rfl (qg rfl qW rfl) (z9 rfl (qc9 _ rfl rfl rfl (Wk.refl _) (pf1 _ _ _) rfl rfl (by exact qdF) rfl rfl rfl) ?_))
 refine st0 ?_
 refine ze 2 4 (rd rfl (qg rfl qkj rfl) (z9 rfl (qc9 _ rfl rfl rfl (Wk.refl _) (pf0 _) rfl rfl (by exact qAr) rfl rfl rfl) ?_))
 refine st0 ?_
 refine ze 3 6 (qbR 0 rfl (qbZ rfl (pf1 _ _ _) ?_))
 refine st ?_
 cases hr
 refine qaw Tryz.func76 _ (.cons (zm rfl (.head _) (by exact q7) rfl (Wk.refl _)) (.cons (za rfl (Wk.refl _)) .nil)) ?_
 rfl
 refine st0 ?_
 refine ze 1 1 (ew rfl (qN 90 5 (.inl rfl)) ?_)
 rintro _ _ ⟨u8_7, rfl, rfl⟩
 refine st ?_
 obtain ⟨d, i, hr⟩ := exK (fun k => qaG k a0 fuel r4 ((wr ((a0.fb.length : Int) - (1 : Int))) - 0 : Int).toNat [] 0) hr
 refine qou 17 rfl fun s => ?_
 refine qq (fun env σ => ∃ (s13 : List qn) (u12 : Value), env = [(1, .ref b1_0 0 []), (2, .ref b2_1 0 []), (5, .lst (r4.1.map zr)), (6, .lst (r4.2.1.map (D.int .i64))), (8, .own u12 (s13.map qs))] ∧ σ = [.cell b1_0 (qaa a0), .cell b2_1 (.agg [.lst ([].map qs), .lst ([].map zn), .lst ([].map zr), .lst ([].map qf), .int .i64 0, .int .i64 0, .bool false]), .row u12 s13.length 90 5] ∧ d s13 = some a) ?_ (fun t => ?_)
 rintro _ _ ⟨s13, u12, rfl, rfl, hr⟩
 rw [i] at hr
 refine qai (ze 5 8 (rd rfl (qg rfl qe2 rfl) (qbR 0 rfl (qd 1 rfl ?_))))
 refine zj hr rfl qlt (qlE fuel _ _) (fun r14 h14 hr => ?_)
 refine st ?_
 refine zj hr rfl qgM (qgK _) (fun r15 h15 hr => ?_)
 refine st ?_
 refine zh 76 rfl hr (fun _ hr => ?_) (fun _ hr => ?_)
 refine st0 ?_
 refine ze 3 4 (rd rfl (qay rfl qde .nil (.nil _)) (qbZ rfl (pf1 _ _ _) ?_))
 refine st ?_
 cases hr
 refine qaw Tryz.func76 _ (.cons (zm rfl (.head _) (by exact q7) rfl (Wk.refl _)) (.cons (za rfl (Wk.refl _)) .nil)) ?_
 rfl
 refine st0 ?_
 refine ze 5 8 (rd rfl (qg rfl qe2 rfl) (qbR 0 rfl (qd 1 rfl ?_)))
 refine zj hr rfl qkf (qkl fuel _ _) (fun r17 h17 hr => ?_)
 refine st ?_
 refine rd rfl (qeg rfl rfl rfl rfl) ?_
 refine st ?_
 obtain ⟨m28, h28, hr⟩ := zd hr
 have hm_28' := qlZ h28
 obtain ⟨e, j, hr⟩ := exK (fun k => qbN k r17 m28 s13) hr
 refine qq (fun env σ => ∃ (s22 : List qn) (u21 : Value), env = [(1, .ref b1_0 0 []), (2, .ref b2_1 0 []), (5, .lst (r4.1.map zr)), (8, .own u21 (s22.map qs)), (11, .lst (r14.map zn))] ∧ σ = [.cell b1_0 (qaa a0), .cell b2_1 (.agg [.lst ([].map qs), .lst ([].map zn), .lst ([].map zr), .lst ([].map qf), .int .i64 0, .int .i64 0, .bool false]), .row u21 s22.length 90 5] ∧ e s22 = some a) ?_ (fun u => ?_)
 rintro _ _ ⟨s22, u21, rfl, rfl, hr⟩
 rw [j] at hr
 refine st ?_
 refine zh 99 rfl hr (fun _ hr => ?_) (fun _ hr => ?_)
 refine st0 ?_
 refine ze 3 4 (rd rfl (qay rfl qde .nil (.nil _)) (qbZ rfl (pf1 _ _ _) ?_))
 refine st ?_
 cases hr
 refine qaw Tryz.func76 _ (.cons (zm rfl (.head _) (by exact q7) rfl (Wk.refl _)) (.cons (za rfl (Wk.refl _)) .nil)) ?_
 rfl
 refine st0 ?_
 refine ze 3 16 (qd 1 rfl (rd rfl (qg rfl qW rfl) (z9 rfl (qc9 _ rfl rfl rfl (Wk.own _ _) (pf0 _) rfl rfl (by exact qdF) rfl rfl rfl) ?_)))
 refine st0 ?_
 refine ze 3 16 (qd 1 rfl (rd rfl (qg rfl qe2 rfl) (z9 rfl (qc9 _ rfl rfl rfl (Wk.refl _) (pf0 _) rfl rfl (by exact qjP) rfl rfl rfl) ?_)))
 refine st0 ?_
 refine ze 3 16 (qd 1 rfl (rd rfl (qg rfl qiK rfl) (z9 rfl (qc9 _ rfl rfl rfl (Wk.refl _) (pf0 _) rfl rfl (by exact qph) rfl rfl rfl) ?_)))
 refine st0 ?_
 refine ze 3 6 (qbR 0 rfl (qbZ rfl (pf1 _ _ _) ?_))
 refine st ?_
 cases hr
 refine qaw Tryz.func76 _ (.cons (zm rfl (.head _) (by exact q7) rfl (Wk.refl _)) (.cons (za rfl (Wk.refl _)) .nil)) ?_
 rfl
 refine qr7 13 (d' := .int .i64 ((m28 : Int) - 1)) rfl (congrArg (D.int .i64) hm_28') (qab [1, 2, 5, 11, 12, 8, 13] rfl (qR (fun n env σ => ∃ (s19 : List qn) (i20 : Nat) (u18 : Value), (i20 = n) ∧ (env = [(1, .ref b1_0 0 []), (2, .ref b2_1 0 []), (5, .lst (r4.1.map zr)), (11, .lst (r14.map zn)), (12, .lst (r17.map (D.int .i64))), (8, .own u18 (s19.map qs)), (13, .int .i64 ((i20 : Int) - 1))]) ∧ (σ = [.cell b1_0 (qaa a0), .cell b2_1 (.agg [.lst ([].map qs), .lst ([].map zn), .lst ([].map zr), .lst ([].map qf), .int .i64 0, .int .i64 0, .bool false]), .row u18 s19.length 90 5]) ∧ (qbN e r17 i20 s19 = some a)) _ ⟨s13, m28, u12, rfl, rfl, rfl, hr⟩ ?_))
 rintro n _ _ ⟨s19, i20, u18, rfl, rfl, rfl, hr⟩ l
 refine qou 13 rfl fun v => ?_
 rcases yT i20 with ⟨b, g⟩ | ⟨k24, b, g⟩
 rw [b, qbN] at hr
 exact fin hr
 rw [b, qbN] at hr
 have g : decide ((k24 : Int) ≥ (0 : Int)) = true := decide_eq_true oa
 refine qr7 13 (d' := .int .i64 (k24 : Int)) rfl (by subst b; congr 1; omega) ?_
 refine st ?_
 refine qy (ze 9 16384 (qd 3 rfl ?_))
 obtain ⟨q_25, h25, hr⟩ := zd hr
 refine st ?_
 refine rd rfl (qay rfl qjp (.oc rfl (.oc rfl .nil)) (.cons rfl rfl rfl (.cons rfl rfl rfl (.nil _)))) (rd rfl (qet (f := qs) [.tmp 94] [(⟨(⟨0, ⟨#[]⟩, []⟩ : Gl), q_25, (-1)⟩ : qn)] rfl qa4 rfl rfl od od (.oc rfl .nil) qad (fun _ => rfl)) ?_)
 obtain ⟨l26, h26, hr⟩ := zd hr
 refine ew rfl (qah (f := qs) s19 [(⟨(⟨0, ⟨#[]⟩, []⟩ : Gl), q_25, (-1)⟩ : qn)] rfl qa4 rfl rfl (asl rfl) (pf2 _ _ _ _) rfl qad h26) ?_
 rintro _ _ ⟨u96_26, rfl, rfl⟩
 refine st ?_
 refine rd rfl (zbs (r := (k24 : Int) - 1) rfl rfl rfl rfl oa) (qd 1 rfl (qac (qab [1, 2, 5, 11, 12, 8, 13] rfl (qbA [_, _, _] _ (pS [0, 2, 2] _) ?_))))
 exact l _ _ _ oa ⟨l26, k24, u96_26, rfl, rfl, rfl, hr⟩
 refine qab [1, 2, 4, 5, 6, 8, 9] rfl (qbA [_, _, _] _ (pS [0, 1, 2] _) (qR (fun n env σ => ∃ (s10 : List qn) (i11 : Int) (u9 : Value) (m0 : Nat), (m0 = n) ∧ (env = [(1, .ref b1_0 0 []), (2, .ref b2_1 0 []), (4, .int .i64 (wr ((a0.fb.length : Int) - (1 : Int)))), (5, .lst (r4.1.map zr)), (6, .lst (r4.2.1.map (D.int .i64))), (8, .own u9 (s10.map qs)), (9, .int .i64 i11)]) ∧ (σ = [.cell b1_0 (qaa a0), .cell b2_1 (.agg [.lst ([].map qs), .lst ([].map zn), .lst ([].map zr), .lst ([].map qf), .int .i64 0, .int .i64 0, .bool false]), .row u9 s10.length 90 5]) ∧ (m0 = ((wr ((a0.fb.length : Int) - (1 : Int))) - i11 : Int).toNat) ∧ (qaG d a0 fuel r4 m0 s10 i11 = some a)) _ ⟨[], 0, u8_7, _, rfl, rfl, rfl, rfl, hr⟩ ?_))
 rintro n _ _ ⟨s10, i11, u9, m0, rfl, rfl, rfl, m, hr⟩ h
 refine qou 9 rfl fun w => ?_
 rcases zav i11 (wr ((a0.fb.length : Int) - (1 : Int))) m0 m with ⟨c, o⟩ | ⟨m0', c, o, hi0', x⟩
 rw [c, qaG] at hr
 exact fin hr
 rw [c, qaG] at hr
 refine st ?_
 refine qy (qai (ze 7 5128 (rd rfl (qg rfl qW rfl) (qbR 0 rfl (qd 1 rfl ?_)))))
 obtain ⟨q_29, h29, hr⟩ := zd hr
 refine st ?_
 refine ew rfl (qau rfl qkV) ?_
 rintro _ _ ⟨b10_29, rfl, rfl⟩
 refine z9 rfl (qjX _ rfl rfl rfl (Wk.refl _) (pf0 _) (by exact qer) (qad _) (by first | rfl | simp [sz, szs, qed, qcW]) rfl) ?_
 refine st0 ?_
 refine ze 3 8 (rd rfl (qg rfl qnF rfl) (er rfl (qey rfl rfl (.head _) rfl (by first | rfl | simp [yt, szs, sz, qed, qeW, qcW]) (by exact qfj) rfl) ?_))
 refine st ?_
 refine zh 55 rfl hr (fun _ hr => ?_) (fun _ hr => ?_)
 refine st0 ?_
 refine ze 6 1056 (qd 1 rfl (rd rfl (qg rfl qhd rfl) (er rfl (qey rfl rfl (.head _) rfl (by first | rfl | simp [yt, szs, sz, qed, qeW, qcW]) (by exact qjl) (qcW _)) ?_)))
 refine zj hr rfl qfQ (qfR fuel _ _) (fun r32 h32 hr => ?_)
 refine rd rfl (qg rfl qhd rfl) (z9 rfl (qc9 _ rfl rfl rfl (Wk.refl _) (pf0 _) rfl (by first | rfl | simp [yt, szs, sz, qed, qeW, qcW]) (by exact qjl) (qcW _) (qcW _) rfl) ?_)
 refine st0 ?_
 refine ze 4 8 (rd rfl (qg rfl qhd rfl) (er rfl (qey rfl rfl (.head _) rfl (by first | rfl | simp [yt, szs, sz, qed, qeW, qcW]) (by exact qjl) (qcW _)) ?_))
 obtain ⟨r33, h33, hr⟩ := zd hr
 refine qdY rfl qcz (qcy _ _ h33) ?_
 refine st ?_
 refine zh 64 rfl hr (fun _ hr => ?_) (fun _ hr => ?_)
 refine st0 ?_
 refine ze 3 4 (rd rfl (qay rfl qde .nil (.nil _)) (qbZ rfl (pf2 _ _ _ _) ?_))
 refine st ?_
 cases hr
 refine qaw Tryz.func76 _ (.cons (zm rfl (.head _) (by exact q7) rfl (Wk.refl _)) (.cons (za rfl (Wk.refl _)) .nil)) ?_
 rfl
 refine st0 ?_
 refine ze 5 72 (qd 1 rfl (er rfl (qey rfl rfl (.head _) rfl rfl (by exact qer) (by first | rfl | simp [sz, szs, qed, qcW])) (rd rfl (qet (f := qs) [.tmp 67] [(⟨r32, q_29.fc, q_29.fu⟩ : qn)] rfl qa4 rfl rfl od od (.oc rfl .nil) qad (fun _ => rfl)) ?_)))
 obtain ⟨l35, h35, hr⟩ := zd hr
 refine ew rfl (qah (f := qs) s10 [(⟨r32, q_29.fc, q_29.fu⟩ : qn)] rfl qa4 rfl rfl (asl rfl) (pf3 _ _ _ _ _) rfl qad h35) ?_
 rintro _ _ ⟨u69_35, rfl, rfl⟩
 refine st ?_
 refine rd rfl (zbs (r := i11 + 1) rfl rfl rfl rfl (by have := qxB ((a0.fb.length : Int) - 1); omega)) (qd 1 rfl (qac (qab [1, 2, 4, 5, 6, 8, 9] rfl (qbA [_, _, _] _ (pS [0, 3, 3] _) ?_))))
 exact h _ _ _ oa ⟨l35, (i11 + 1), u69_35, _, rfl, rfl, rfl, hi0', hr⟩
 refine st0 ?_
 refine ze 5 72 (qd 1 rfl (qbR 0 rfl (rd rfl (qet (f := qs) [.tmp 67] [q_29] rfl qa4 rfl rfl od od (.oc rfl .nil) qad (fun _ => rfl)) ?_)))
 obtain ⟨l37, h37, hr⟩ := zd hr
 refine ew rfl (qah (f := qs) s10 [q_29] rfl qa4 rfl rfl (asl rfl) (pf3 _ _ _ _ _) rfl qad h37) ?_
 rintro _ _ ⟨u69_37, rfl, rfl⟩
 refine st ?_
 refine rd rfl (zbs (r := i11 + 1) rfl rfl rfl rfl (by have := qxB ((a0.fb.length : Int) - 1); omega)) (qd 1 rfl (qac (qab [1, 2, 4, 5, 6, 8, 9] rfl (qbA [_, _, _] _ (pS [0, 3, 3] _) ?_))))
 exact h _ _ _ oa ⟨l37, (i11 + 1), u69_37, _, rfl, rfl, rfl, hi0', hr⟩
def qat (a0 : List qn) (a1 : qn) : Option (List qn) :=
 ((zF 64 [] a0).bind fun l3 =>
 ((zF 64 l3 [a1]).bind fun l5 =>
 some (l5)))
theorem qce (a0 : List qn) (a1 : qn) (res : List qn) (hr : qat a0 a1 = some res) : zf Tryz.prog 79 [.lst (a0.map qs), qs a1] (.lst (res.map qs)) := by
 unfold qat at hr
 refine qx Tryz.func79 rfl fun K hK hF => (qai (ze 2 4 (rd rfl (qcG rfl rfl rfl) (ew rfl (qN 90 5 (.inl rfl)) ?_))))
 rintro _ _ ⟨u4_0, rfl, rfl⟩
 refine st0 ?_
 refine ze 1 1 (ew rfl (qN 90 5 (.inl rfl)) ?_)
 rintro _ _ ⟨u5_1, rfl, rfl⟩
 refine st0 ?_
 refine ze 4 16 (qd 2 rfl ?_)
 obtain ⟨l3, h3, hr⟩ := zd hr
 refine ew rfl (qah (f := qs) [] a0 rfl qa4 rfl rfl (asl rfl) (pf0 _) rfl qad h3) ?_
 rintro _ _ ⟨u8_3, rfl, rfl⟩
 refine st0 ?_
 refine ze 5 64 (qd 2 rfl (rd rfl (qet (f := qs) [.tmp 10] [a1] rfl qa4 rfl rfl od od (.oc rfl .nil) qad (fun _ => rfl)) ?_))
 obtain ⟨l5, h5, hr⟩ := zd hr
 refine ew rfl (qah (f := qs) l3 [a1] rfl qa4 rfl rfl (asl rfl) (pf0 _) rfl qad h5) ?_
 rintro _ _ ⟨u12_5, rfl, rfl⟩
 refine st ?_
 cases hr
 refine qaw Tryz.func79 _ (.cons (za rfl (Wk.own _ _)) .nil) ?_
 rfl
def qba (k : List qn → Option (qe × Int)) (r4 : (List (Int × At)) × (List qm) × (List Gl) × Int) : Nat → List qn → Option (qe × Int)
 | 0, s7 =>
 (k s7)
 | k12 + 1, s7 =>
 ((zi r4.2.2.1 (k12 : Int)).bind fun q_13 =>
 ((qat s7 (⟨q_13, 0, 0⟩ : qn)).bind fun r14 =>
 (qba k r4 k12 r14)))
def qeZ (k : List qn → Option (qe × Int)) (a1 : qe) (a2 : qv) : Option (qe × Int) :=
 (bif (a2.fa == (4 : Int)) then
 ((zZ a1.fb 0 (wr ((a1.fb.length : Int) - (1 : Int)))).bind fun l17 =>
 (k l17))
 else
 (k a1.fb))
def qd0 (fuel : Nat) (a0 : qc) (a1 : qe) (a2 : qv) : Option (qe × Int) :=
 ((qa3 fuel a0 a1.fo a1.ft [] a1.fD a2.fJ a2.fH).bind fun r3 =>
 ((qdq fuel a0 a1.fo a1.fD r3.1 a1.fE a2.fJ a2.fH).bind fun r4 =>
 (bif (r4.2.2.2 != (0 : Int)) then
 some ((⟨[], [], [], [], 0, 0, false⟩ : qe), r4.2.2.2)
 else
 (qeZ (fun s6 =>
 ((zab (wr ((r4.2.2.1.length : Int) - (1 : Int)))).bind fun m15 =>
 (qba (fun s9 =>
 (bif (decide ((s9.length : Int) > (1000 : Int))) then
 some ((⟨[], [], [], [], 0, 0, false⟩ : qe), 6)
 else
 ((zi a0.fd a2.fJ).bind fun q_11 =>
 some ((⟨s9, r4.1, a1.ft, r4.2.1, a1.fz, (wr (a1.fE + q_11.fN)), a1.fG⟩ : qe), 0)))) r4 m15 s6))) a1 a2))))
theorem qh8 (fuel : Nat) (a0 : qc) (a1 : qe) (a2 : qv) (a : qe × Int) (hr : qd0 fuel a0 a1 a2 = some a) : zf Tryz.prog 77 [qi a0, qaa a1, qL a2] (.tup [qaa a.1, .int .i64 a.2]) := by
 unfold qd0 at hr
 refine qx Tryz.func77 rfl fun K g h => (qai (ze 5 68 (rd rfl (qcG rfl rfl rfl) (ew rfl (ql8 rfl rfl rfl) ?_))))
 rintro _ _ ⟨b4_0, rfl, rfl⟩
 refine rd rfl (qcG rfl rfl rfl) (ew rfl (qau rfl qg8) ?_)
 rintro _ _ ⟨b6_1, rfl, rfl⟩
 refine st0 ?_
 refine ze 17 8736 (qd 1 rfl (rd rfl (qg rfl qe2 rfl) (qbR 1 rfl (rd rfl (qg rfl qiK rfl) (qbR 1 rfl (rd rfl (qg rfl qiQ rfl) (qbR 1 rfl (qd 4 rfl ?_))))))))
 obtain ⟨r3, h3, hr⟩ := zd hr
 refine rd rfl (by exact qhg rfl qi3 (.oc rfl (.oc rfl (.oc rfl (.cons rfl (Wk.full _) (.oc rfl (.oc rfl (.oc rfl .nil))))))) (qi5 fuel _ _ _ _ _ _ _ _ h3)) ?_
 refine st0 ?_
 refine ze 22 33312 (qd 1 rfl (rd rfl (qg rfl qe2 rfl) (qbR 1 rfl (rd rfl (qg rfl qiQ rfl) (qbR 1 rfl (qd 1 rfl (rd rfl (qg rfl qiL rfl) (qbR 1 rfl (qd 4 rfl ?_)))))))))
 refine zj hr rfl qkH (qkK fuel _ _ _ _ _ _ _) (fun r4 h4 hr => ?_)
 refine st ?_
 refine zh 50 rfl hr (fun _ hr => ?_) (fun _ hr => ?_)
 refine st0 ?_
 refine ze 4 16 (rd rfl (qay rfl qde .nil (.nil _)) (qd 1 rfl (qbZ rfl (pf0 _) ?_)))
 refine st ?_
 cases hr
 refine qaw Tryz.func77 _ (.cons (zm rfl (.head _) (by exact q7) rfl (Wk.refl _)) (.cons (za rfl (Wk.refl _)) .nil)) ?_
 rfl
 refine st0 ?_
 refine ze 3 8 (rd rfl (qg rfl qW rfl) (qbR 1 rfl (qd 1 rfl (qac ?_))))
 obtain ⟨kkJ0, hkkJ0, hr⟩ := exK (fun k => qeZ k a1 a2) hr
 refine qqs (fun env σ => ∃ (s6 : List qn), env = [(3, .ptr (qi a0)), (4, .ref b4_0 0 []), (5, .ptr (qL a2)), (6, .ref b6_1 0 []), (10, .lst (r4.1.map zn)), (11, .lst (r4.2.1.map qf)), (12, .lst (r4.2.2.1.map zE)), (14, .lst (s6.map qs))] ∧ σ = [.cell b4_0 (qaa a1), .cell b6_1 (.agg [.lst ([].map qs), .lst ([].map zn), .lst ([].map zr), .lst ([].map qf), .int .i64 0, .int .i64 0, .bool false])] ∧ kkJ0 s6 = some a) ?_ (fun HKJ0 => ?_)
 rintro _ _ ⟨s6, rfl, rfl, hr⟩
 rw [hkkJ0] at hr
 refine st ?_
 refine rd rfl (qeg rfl rfl rfl rfl) ?_
 refine st ?_
 obtain ⟨m15, h15, hr⟩ := zd hr
 have hm_15' := qlZ h15
 obtain ⟨c, e, hr⟩ := exK (fun k => qba k r4 m15 s6) hr
 refine qq (fun env σ => ∃ (s9 : List qn), env = [(3, .ptr (qi a0)), (4, .ref b4_0 0 []), (5, .ptr (qL a2)), (6, .ref b6_1 0 []), (10, .lst (r4.1.map zn)), (11, .lst (r4.2.1.map qf)), (14, .lst (s9.map qs))] ∧ σ = [.cell b4_0 (qaa a1), .cell b6_1 (.agg [.lst ([].map qs), .lst ([].map zn), .lst ([].map zr), .lst ([].map qf), .int .i64 0, .int .i64 0, .bool false])] ∧ c s9 = some a) ?_ (fun i => ?_)
 rintro _ _ ⟨s9, rfl, rfl, hr⟩
 rw [e] at hr
 refine st ?_
 refine zh 79 rfl hr (fun _ hr => ?_) (fun _ hr => ?_)
 refine st0 ?_
 refine ze 3 4 (rd rfl (qay rfl qde .nil (.nil _)) (qbZ rfl (pf1 _ _ _) ?_))
 refine st ?_
 cases hr
 refine qaw Tryz.func77 _ (.cons (zm rfl (.head _) (by exact q7) rfl (Wk.refl _)) (.cons (za rfl (Wk.refl _)) .nil)) ?_
 rfl
 refine st0 ?_
 refine ze 3 16 (qd 1 rfl (rd rfl (qg rfl qW rfl) (z9 rfl (qc9 _ rfl rfl rfl (Wk.refl _) (pf0 _) rfl rfl (by exact qdF) rfl rfl rfl) ?_)))
 refine st0 ?_
 refine ze 3 16 (qd 1 rfl (rd rfl (qg rfl qe2 rfl) (z9 rfl (qc9 _ rfl rfl rfl (Wk.refl _) (pf0 _) rfl rfl (by exact qjP) rfl rfl rfl) ?_)))
 refine st0 ?_
 refine ze 3 16 (qd 1 rfl (rd rfl (qg rfl qiQ rfl) (z9 rfl (qc9 _ rfl rfl rfl (Wk.refl _) (pf0 _) rfl rfl (by exact qom) rfl rfl rfl) ?_)))
 refine st ?_
 refine qdH 12 4194312 (rd rfl (qg rfl qiL rfl) (qbR 0 rfl (qd 4 rfl ?_)))
 obtain ⟨q_11, h11, hr⟩ := zd hr
 refine st ?_
 refine rd rfl (qeg rfl rfl rfl rfl) (rd rfl (qg rfl qiL rfl) (z9 rfl (qc9 _ rfl rfl rfl (Wk.refl _) (pf0 _) rfl rfl (by exact qfj) rfl rfl rfl) ?_))
 refine st0 ?_
 refine ze 3 6 (qbR 0 rfl (qbZ rfl (pf1 _ _ _) ?_))
 refine st ?_
 cases hr
 refine qaw Tryz.func77 _ (.cons (zm rfl (.head _) (by exact q7) rfl (Wk.refl _)) (.cons (za rfl (Wk.refl _)) .nil)) ?_
 rfl
 refine qr7 15 (d' := .int .i64 ((m15 : Int) - 1)) rfl (congrArg (D.int .i64) hm_15') (qab [3, 4, 5, 6, 10, 11, 12, 14, 15] rfl (qR (fun n env σ => ∃ (s7 : List qn) (i8 : Nat), (i8 = n) ∧ (env = [(3, .ptr (qi a0)), (4, .ref b4_0 0 []), (5, .ptr (qL a2)), (6, .ref b6_1 0 []), (10, .lst (r4.1.map zn)), (11, .lst (r4.2.1.map qf)), (12, .lst (r4.2.2.1.map zE)), (14, .lst (s7.map qs)), (15, .int .i64 ((i8 : Int) - 1))]) ∧ (σ = [.cell b4_0 (qaa a1), .cell b6_1 (.agg [.lst ([].map qs), .lst ([].map zn), .lst ([].map zr), .lst ([].map qf), .int .i64 0, .int .i64 0, .bool false])]) ∧ (qba c r4 i8 s7 = some a)) _ ⟨s6, m15, rfl, rfl, rfl, hr⟩ ?_))
 rintro n _ _ ⟨s7, i8, rfl, rfl, rfl, hr⟩ j
 refine qou 15 rfl fun l => ?_
 rcases yT i8 with ⟨b, d⟩ | ⟨k12, b, d⟩
 rw [b, qba] at hr
 exact fin hr
 rw [b, qba] at hr
 have d : decide ((k12 : Int) ≥ (0 : Int)) = true := decide_eq_true oa
 refine qr7 15 (d' := .int .i64 (k12 : Int)) rfl (by subst b; congr 1; omega) ?_
 refine st ?_
 refine qy ?_
 refine st ?_
 obtain ⟨q_13, h13, hr⟩ := zd hr
 refine st ?_
 refine rd rfl (qay rfl qjp (.oc rfl .nil) (.cons rfl (qcW _) rfl (.nil _))) ?_
 refine zj hr rfl qcl (qce _ _) (fun r14 h14 hr => ?_)
 refine st ?_
 refine rd rfl (zbs (r := (k12 : Int) - 1) rfl rfl rfl rfl oa) ?_
 exact fin hr
 unfold qeZ at hr
 refine st ?_
 refine zh 57 rfl hr (fun _ hr => ?_) (fun _ hr => ?_)
 refine st ?_
 refine rd rfl (qeg rfl rfl rfl rfl) ?_
 obtain ⟨l17, h17, hr⟩ := zd hr
 refine rd rfl (qjy (f := qs) a1.fb 0 (wr ((a1.fb.length : Int) - (1 : Int))) rfl qa4 rfl (asl rfl) qg0 (qg7 rfl) qad h17) (qd 1 rfl (qac (qab [3, 4, 5, 6, 10, 11, 12, 14] rfl (qbA [_, _] _ (pS [0, 1] _) ?_))))
 exact HKJ0 _ _ ⟨l17, rfl, rfl, hr⟩
 refine qhR rfl (qnH (qab [3, 4, 5, 6, 10, 11, 12, 14] rfl (qbA [_, _] _ (pS [0, 1] _) ?_)))
 exact HKJ0 _ _ ⟨a1.fb, rfl, rfl, hr⟩
def qbn (k : Bool → Option (qe × Int)) (a2 : qv) : List qv → Bool → Option (qe × Int)
 | [], f8 =>
 (k f8)
 | q_48 :: rest, f8 =>
 ((qdO q_48 a2).bind fun r49 =>
 (bif r49 then
 (qbn k a2 rest true)
 else
 (qbn k a2 rest f8)))
def qfu (fuel : Nat) (a0 : qc) (a1 : qe) (a2 : qv) : Option (qe × Int) :=
 ((qcO fuel a0 a1).bind fun r3 =>
 (bif (!r3) then
 some ((⟨[], [], [], [], 0, 0, false⟩ : qe), 2)
 else
 (bif a1.fG then
 some ((⟨[], [], [], [], 0, 0, false⟩ : qe), 14)
 else
 (bif ((a1.fb.length : Int) == (0 : Int)) then
 some ((⟨[], [], [], [], 0, 0, false⟩ : qe), 14)
 else
 ((qbB fuel a0 a1).bind fun r7 =>
 (qbn (fun f10 =>
 (bif (!f10) then
 some ((⟨[], [], [], [], 0, 0, false⟩ : qe), 18)
 else
 ((zi a1.fb (wr ((a1.fb.length : Int) - (1 : Int)))).bind fun q_12 =>
 (bif (a2.fa == (1 : Int)) then
 ((qeL fuel a1).bind fun r15 =>
 some (r15.1, r15.2))
 else
 (bif (a2.fa == (4 : Int)) then
 ((qd0 fuel a0 a1 a2).bind fun r17 =>
 some (r17.1, r17.2))
 else
 (bif (a2.fa == (5 : Int)) then
 ((qd0 fuel a0 a1 a2).bind fun r19 =>
 some (r19.1, r19.2))
 else
 (bif (a2.fa == (7 : Int)) then
 ((zZ a1.fb 0 (wr ((a1.fb.length : Int) - (1 : Int)))).bind fun l21 =>
 some ((⟨l21, a1.fo, a1.ft, a1.fD, a1.fz, a1.fE, a1.fG⟩ : qe), 0))
 else
 (bif (a2.fa == (2 : Int)) then
 ((qdd a1.fo (a1.fz, (⟨q_12.fk.n, q_12.fk.ts⟩ : At))).bind fun r23 =>
 (bif (r23.2 != (0 : Int)) then
 some ((⟨[], [], [], [], 0, 0, false⟩ : qe), 6)
 else
 (bif (a1.fz == (2147483648 : Int)) then
 some ((⟨[], [], [], [], 0, 0, false⟩ : qe), 6)
 else
 (bif (a2.fa == (3 : Int)) then
 (bif (a2.fa == (6 : Int)) then
 ((zZ a1.fb 0 (wr ((a1.fb.length : Int) - (1 : Int)))).bind fun l28 =>
 ((qat l28 (⟨(⟨0, ⟨#[]⟩, []⟩ : Gl), a2.fc, (wr ((0 : Int) + (1 : Int)))⟩ : qn)).bind fun r29 =>
 some ((⟨r29, r23.1, a1.ft, a1.fD, (wr (a1.fz + (1 : Int))), a1.fE, a1.fG⟩ : qe), 0)))
 else
 ((zZ a1.fb 0 (wr ((a1.fb.length : Int) - (1 : Int)))).bind fun l30 =>
 ((qat l30 (⟨(⟨0, ⟨#[]⟩, []⟩ : Gl), a2.fc, 0⟩ : qn)).bind fun r31 =>
 some ((⟨r31, r23.1, a1.ft, a1.fD, (wr (a1.fz + (1 : Int))), a1.fE, a1.fG⟩ : qe), 0))))
 else
 (bif (a2.fa == (6 : Int)) then
 ((zZ a1.fb 0 (wr ((a1.fb.length : Int) - (1 : Int)))).bind fun l33 =>
 ((qat l33 (⟨(⟨0, ⟨#[]⟩, []⟩ : Gl), a2.fc, (wr ((0 : Int) + (1 : Int)))⟩ : qn)).bind fun r34 =>
 some ((⟨r34, r23.1, a1.ft, a1.fD, (wr (a1.fz + (1 : Int))), a1.fE, a1.fG⟩ : qe), 0)))
 else
 ((zZ a1.fb 0 (wr ((a1.fb.length : Int) - (1 : Int)))).bind fun l35 =>
 ((qat l35 (⟨(⟨0, ⟨#[]⟩, []⟩ : Gl), a2.fc, 0⟩ : qn)).bind fun r36 =>
 some ((⟨r36, r23.1, a1.ft, a1.fD, (wr (a1.fz + (1 : Int))), a1.fE, a1.fG⟩ : qe), 0))))))))
 else
 (bif (a2.fa == (3 : Int)) then
 (bif (a2.fa == (6 : Int)) then
 ((zZ a1.fb 0 (wr ((a1.fb.length : Int) - (1 : Int)))).bind fun l39 =>
 ((qat l39 (⟨q_12.fk, q_12.fc, (wr ((0 : Int) + (1 : Int)))⟩ : qn)).bind fun r40 =>
 some ((⟨r40, a1.fo, a1.ft, a1.fD, a1.fz, a1.fE, a1.fG⟩ : qe), 0)))
 else
 ((zZ a1.fb 0 (wr ((a1.fb.length : Int) - (1 : Int)))).bind fun l41 =>
 ((qat l41 (⟨q_12.fk, q_12.fc, 0⟩ : qn)).bind fun r42 =>
 some ((⟨r42, a1.fo, a1.ft, a1.fD, a1.fz, a1.fE, a1.fG⟩ : qe), 0))))
 else
 (bif (a2.fa == (6 : Int)) then
 ((zZ a1.fb 0 (wr ((a1.fb.length : Int) - (1 : Int)))).bind fun l44 =>
 ((qat l44 (⟨q_12.fk, q_12.fc, (wr (q_12.fu + (1 : Int)))⟩ : qn)).bind fun r45 =>
 some ((⟨r45, a1.fo, a1.ft, a1.fD, a1.fz, a1.fE, a1.fG⟩ : qe), 0)))
 else
 ((zZ a1.fb 0 (wr ((a1.fb.length : Int) - (1 : Int)))).bind fun l46 =>
 ((qat l46 q_12).bind fun r47 =>
 some ((⟨r47, a1.fo, a1.ft, a1.fD, a1.fz, a1.fE, a1.fG⟩ : qe), 0))))))))))))) a2 r7 false))))))
theorem qm8 (fuel : Nat) (a0 : qc) (a1 : qe) (a2 : qv) (a : qe × Int) (hr : qfu fuel a0 a1 a2 = some a) : zf Tryz.prog 34 [qi a0, qaa a1, qL a2] (.tup [qaa a.1, .int .i64 a.2]) := by
 unfold qfu at hr
 refine qx Tryz.func34 rfl fun K i j => (qai (ze 5 68 (rd rfl (qcG rfl rfl rfl) (ew rfl (ql8 rfl rfl rfl) ?_))))
 rintro _ _ ⟨b4_0, rfl, rfl⟩
 refine rd rfl (qcG rfl rfl rfl) (ew rfl (qau rfl qg8) ?_)
 rintro _ _ ⟨b6_1, rfl, rfl⟩
 refine st0 ?_
 refine ze 4 8 (qd 1 rfl (qbR 1 rfl ?_))
 refine zj hr rfl qgJ (qgx fuel _ _) (fun r3 h3 hr => ?_)
 refine st ?_
 refine zh 18 rfl hr (fun _ hr => ?_) (fun _ hr => ?_)
 refine st0 ?_
 refine ze 3 4 (rd rfl (qay rfl qde .nil (.nil _)) (qbZ rfl (pf0 _) ?_))
 refine st ?_
 cases hr
 refine qaw Tryz.func34 _ (.cons (zm rfl (.head _) (by exact q7) rfl (Wk.refl _)) (.cons (za rfl (Wk.refl _)) .nil)) ?_
 rfl
 refine st0 ?_
 refine ze 8 520 (rd rfl (qg rfl qkj rfl) (qbR 1 rfl (qd 1 rfl ?_)))
 refine zo 22 rfl hr (fun _ hr => ?_) (fun _ hr => ?_)
 refine st0 ?_
 refine ze 3 4 (rd rfl (qay rfl qde .nil (.nil _)) (qbZ rfl (pf0 _) ?_))
 refine st ?_
 cases hr
 refine qaw Tryz.func34 _ (.cons (zm rfl (.head _) (by exact q7) rfl (Wk.refl _)) (.cons (za rfl (Wk.refl _)) .nil)) ?_
 rfl
 refine rd rfl (qg rfl qW rfl) (qbR 1 rfl ?_)
 refine st ?_
 refine zh 27 rfl hr (fun _ hr => ?_) (fun _ hr => ?_)
 refine st0 ?_
 refine ze 3 4 (rd rfl (qay rfl qde .nil (.nil _)) (qbZ rfl (pf0 _) ?_))
 refine st ?_
 cases hr
 refine qaw Tryz.func34 _ (.cons (zm rfl (.head _) (by exact q7) rfl (Wk.refl _)) (.cons (za rfl (Wk.refl _)) .nil)) ?_
 rfl
 refine st0 ?_
 refine ze 4 8 (qd 1 rfl (qbR 1 rfl ?_))
 refine zj hr rfl qhW (qhV fuel _ _) (fun r7 h7 hr => ?_)
 refine st ?_
 obtain ⟨c, d, hr⟩ := exK (fun k => qbn k a2 r7 false) hr
 refine qct 31 rfl (asl rfl) fun e => ?_
 simp only [jb] at e
 refine qq (fun env σ => ∃ (f10 : Bool), env = [(3, .ptr (qi a0)), (4, .ref b4_0 0 []), (5, .ptr (qL a2)), (6, .ref b6_1 0 []), (9, .bool f10)] ∧ σ = [.cell b4_0 (qaa a1), .cell b6_1 (.agg [.lst ([].map qs), .lst ([].map zn), .lst ([].map zr), .lst ([].map qf), .int .i64 0, .int .i64 0, .bool false])] ∧ c f10 = some a) ?_ (fun l => ?_)
 rintro _ _ ⟨f10, rfl, rfl, hr⟩
 rw [d] at hr
 refine st ?_
 refine zh 45 rfl hr (fun _ hr => ?_) (fun _ hr => ?_)
 refine st0 ?_
 refine ze 3 4 (rd rfl (qay rfl qde .nil (.nil _)) (qbZ rfl (pf1 _ _ _) ?_))
 refine st ?_
 cases hr
 refine qaw Tryz.func34 _ (.cons (zm rfl (.head _) (by exact q7) rfl (Wk.refl _)) (.cons (za rfl (Wk.refl _)) .nil)) ?_
 rfl
 refine st0 ?_
 refine ze 5 8 (rd rfl (qg rfl qW rfl) (qbR 0 rfl (qjz rfl (rd rfl (qeg rfl rfl rfl rfl) ?_))))
 refine st0 ?_
 refine ze 7 5128 (rd rfl (qg rfl qW rfl) (qbR 0 rfl (qd 1 rfl ?_)))
 obtain ⟨q_12, h12, hr⟩ := zd hr
 refine st ?_
 refine ew rfl (qau rfl qkV) ?_
 rintro _ _ ⟨b12_12, rfl, rfl⟩
 refine z9 rfl (qjX _ rfl rfl rfl (Wk.refl _) (pf0 _) (by exact qer) (qad _) (by first | rfl | simp [sz, szs, qed, qcW]) rfl) ?_
 refine st ?_
 refine zh 58 rfl hr (fun _ hr => ?_) (fun _ hr => ?_)
 refine st0 ?_
 refine ze 6 258 (qbR 1 rfl ?_)
 refine zj hr rfl qlw (qly fuel _) (fun r15 h15 hr => ?_)
 refine qd 2 rfl (qbZ rfl (pf2 _ _ _ _) ?_)
 refine st ?_
 cases hr
 refine qaw Tryz.func34 _ (.cons (zm rfl (.head _) (by exact q7) (qee _) (Wk.refl _)) (.cons (za rfl (Wk.refl _)) .nil)) ?_
 rfl
 refine st ?_
 refine zo 66 rfl hr (fun _ hr => ?_) (fun _ hr => ?_)
 refine st0 ?_
 refine ze 8 4104 (qd 1 rfl (qbR 1 rfl (qd 1 rfl ?_)))
 refine zj hr rfl qix (qh8 fuel _ _ _) (fun r17 h17 hr => ?_)
 refine qd 2 rfl (qbZ rfl (pf2 _ _ _ _) ?_)
 refine st ?_
 cases hr
 refine qaw Tryz.func34 _ (.cons (zm rfl (.head _) (by exact q7) (qee _) (Wk.refl _)) (.cons (za rfl (Wk.refl _)) .nil)) ?_
 rfl
 refine st ?_
 refine zh 70 rfl hr (fun _ hr => ?_) (fun _ hr => ?_)
 refine st0 ?_
 refine ze 8 4104 (qd 1 rfl (qbR 1 rfl (qd 1 rfl ?_)))
 refine zj hr rfl qix (qh8 fuel _ _ _) (fun r19 h19 hr => ?_)
 refine qd 2 rfl (qbZ rfl (pf2 _ _ _ _) ?_)
 refine st ?_
 cases hr
 refine qaw Tryz.func34 _ (.cons (zm rfl (.head _) (by exact q7) (qee _) (Wk.refl _)) (.cons (za rfl (Wk.refl _)) .nil)) ?_
 rfl
 refine st ?_
 refine zh 79 rfl hr (fun _ hr => ?_) (fun _ hr => ?_)
 refine st0 ?_
 refine ze 6 1032 (rd rfl (qg rfl qW rfl) (qbR 1 rfl (qd 1 rfl ?_)))
 obtain ⟨l21, h21, hr⟩ := zd hr
 refine rd rfl (qjy (f := qs) a1.fb 0 (wr ((a1.fb.length : Int) - (1 : Int))) rfl qa4 rfl (asl rfl) qg0 (qg7 rfl) qad h21) (rd rfl (qg rfl qW rfl) (z9 rfl (qc9 _ rfl rfl rfl (Wk.refl _) (pf1 _ _ _) rfl rfl (by exact qdF) rfl rfl rfl) ?_))
 refine st0 ?_
 refine ze 3 6 (qbR 0 rfl (qbZ rfl (pf2 _ _ _ _) ?_))
 refine st ?_
 cases hr
 refine qaw Tryz.func34 _ (.cons (zm rfl (.head _) (by exact q7) rfl (Wk.refl _)) (.cons (za rfl (Wk.refl _)) .nil)) ?_
 rfl
 refine st ?_
 refine zh 88 rfl hr (fun _ hr => ?_) (fun _ hr => ?_)
 refine st0 ?_
 refine ze 18 532616 (rd rfl (qg rfl qe2 rfl) (qbR 1 rfl (rd rfl (qg rfl qhA rfl) (qbR 1 rfl (rd rfl (qg rfl qhd rfl) (rd rfl (qg rfl qoc rfl) (er rfl (qey rfl rfl (.head _) rfl (by first | rfl | simp [yt, szs, sz, qed, qeW, qcW]) (by exact quF) rfl) (rd rfl (qg rfl qhd rfl) (rd rfl (qg rfl qoj rfl) (er rfl (qey rfl rfl (.head _) rfl (by first | rfl | simp [yt, szs, sz, qed, qeW, qcW]) (by exact qjT) rfl) (rd rfl (qay rfl qhz (.oc rfl (.oc rfl .nil)) (.cons rfl rfl rfl (.cons rfl rfl rfl (.nil _)))) (rd rfl (qay rfl qqJ (.oc rfl (.oc rfl .nil)) (.cons rfl rfl rfl (.cons rfl rfl rfl (.nil _)))) ?_))))))))))))
 refine zj hr rfl qm3 (qmU _ _) (fun r23 h23 hr => ?_)
 refine st0 ?_
 refine ze 7 512 (qd 3 rfl ?_)
 refine zo 107 rfl hr (fun _ hr => ?_) (fun _ hr => ?_)
 refine st0 ?_
 refine ze 3 4 (rd rfl (qay rfl qde .nil (.nil _)) (qbZ rfl (pf2 _ _ _ _) ?_))
 refine st ?_
 cases hr
 refine qaw Tryz.func34 _ (.cons (zm rfl (.head _) (by exact q7) rfl (Wk.refl _)) (.cons (za rfl (Wk.refl _)) .nil)) ?_
 rfl
 refine rd rfl (qg rfl qhA rfl) (qbR 1 rfl ?_)
 refine st ?_
 refine zh 111 rfl hr (fun _ hr => ?_) (fun _ hr => ?_)
 refine st0 ?_
 refine ze 3 4 (rd rfl (qay rfl qde .nil (.nil _)) (qbZ rfl (pf2 _ _ _ _) ?_))
 refine st ?_
 cases hr
 refine qaw Tryz.func34 _ (.cons (zm rfl (.head _) (by exact q7) rfl (Wk.refl _)) (.cons (za rfl (Wk.refl _)) .nil)) ?_
 rfl
 refine st0 ?_
 refine ze 3 16 (qd 1 rfl (rd rfl (qg rfl qe2 rfl) (z9 rfl (qc9 _ rfl rfl rfl (Wk.refl _) (pf1 _ _ _) rfl rfl (by exact qjP) rfl rfl rfl) ?_)))
 refine st0 ?_
 refine ze 5 264 (rd rfl (qg rfl qhA rfl) (qbR 0 rfl (rd rfl (qeg rfl rfl rfl rfl) (rd rfl (qg rfl qhA rfl) (z9 rfl (qc9 _ rfl rfl rfl (Wk.refl _) (pf0 _) rfl rfl (by exact qfj) rfl rfl rfl) (qac (ze 4 64 (qd 2 rfl (rd rfl (qay rfl qjp (.oc rfl .nil) (.cons rfl rfl rfl (.nil _))) (z9 rfl (qjX _ rfl rfl rfl (Wk.refl _) (pf1 _ _ _) (by exact qer) (by first | rfl | simp [sz, szs, qed, qcW]) (qad _) rfl) ?_))))))))))
 refine st ?_
 refine zh 124 rfl hr (fun _ hr => ?_) (fun _ hr => ?_)
 refine qf1 rfl (ze 2 4 (rd rfl (qg rfl qew rfl) (z9 rfl (qc9 _ rfl rfl rfl (Wk.refl _) (pf0 _) rfl (by first | rfl | simp [yt, szs, sz, qed, qeW, qcW]) (by exact qfj) rfl rfl rfl) ?_)))
 refine st ?_
 refine zh 128 rfl hr (fun _ hr => ?_) (fun _ hr => ?_)
 refine qf1 rfl (ze 5 264 (rd rfl (qg rfl qew rfl) (er rfl (qey rfl rfl (.head _) rfl (by first | rfl | simp [yt, szs, sz, qed, qeW, qcW]) (by exact qfj) rfl) (rd rfl (qeg rfl rfl rfl rfl) (rd rfl (qg rfl qew rfl) (z9 rfl (qc9 _ rfl rfl rfl (Wk.refl _) (pf0 _) rfl (by first | rfl | simp [yt, szs, sz, qed, qeW, qcW]) (by exact qfj) rfl rfl rfl) ?_))))))
 refine st ?_
 refine qdH 8 16904 (rd rfl (qg rfl qW rfl) (qbR 1 rfl (qd 1 rfl ?_)))
 obtain ⟨l28, h28, hr⟩ := zd hr
 refine rd rfl (qjy (f := qs) a1.fb 0 (wr ((a1.fb.length : Int) - (1 : Int))) rfl qa4 rfl (asl rfl) qg0 (qg7 rfl) qad h28) (er rfl (qey rfl rfl (.head _) rfl rfl (by exact qer) (by first | rfl | simp [sz, szs, qed, qcW])) ?_)
 refine zj hr rfl qcl (qce _ _) (fun r29 h29 hr => ?_)
 refine rd rfl (qg rfl qW rfl) (z9 rfl (qc9 _ rfl rfl rfl (Wk.refl _) (pf1 _ _ _) rfl rfl (by exact qdF) rfl rfl rfl) ?_)
 refine st0 ?_
 refine ze 3 6 (qbR 0 rfl (qbZ rfl (pf2 _ _ _ _) ?_))
 refine st ?_
 cases hr
 refine qaw Tryz.func34 _ (.cons (zm rfl (.head _) (by exact q7) rfl (Wk.refl _)) (.cons (za rfl (Wk.refl _)) .nil)) ?_
 rfl
 refine st ?_
 refine qdH 8 16904 (rd rfl (qg rfl qW rfl) (qbR 1 rfl (qd 1 rfl ?_)))
 obtain ⟨l30, h30, hr⟩ := zd hr
 refine rd rfl (qjy (f := qs) a1.fb 0 (wr ((a1.fb.length : Int) - (1 : Int))) rfl qa4 rfl (asl rfl) qg0 (qg7 rfl) qad h30) (er rfl (qey rfl rfl (.head _) rfl rfl (by exact qer) (by first | rfl | simp [sz, szs, qed, qcW])) ?_)
 refine zj hr rfl qcl (qce _ _) (fun r31 h31 hr => ?_)
 refine rd rfl (qg rfl qW rfl) (z9 rfl (qc9 _ rfl rfl rfl (Wk.refl _) (pf1 _ _ _) rfl rfl (by exact qdF) rfl rfl rfl) ?_)
 refine st0 ?_
 refine ze 3 6 (qbR 0 rfl (qbZ rfl (pf2 _ _ _ _) ?_))
 refine st ?_
 cases hr
 refine qaw Tryz.func34 _ (.cons (zm rfl (.head _) (by exact q7) rfl (Wk.refl _)) (.cons (za rfl (Wk.refl _)) .nil)) ?_
 rfl
 refine st ?_
 refine zh 128 rfl hr (fun _ hr => ?_) (fun _ hr => ?_)
 refine qf1 rfl (ze 5 264 (rd rfl (qg rfl qew rfl) (er rfl (qey rfl rfl (.head _) rfl (by first | rfl | simp [yt, szs, sz, qed, qeW, qcW]) (by exact qfj) rfl) (rd rfl (qeg rfl rfl rfl rfl) (rd rfl (qg rfl qew rfl) (z9 rfl (qc9 _ rfl rfl rfl (Wk.refl _) (pf0 _) rfl (by first | rfl | simp [yt, szs, sz, qed, qeW, qcW]) (by exact qfj) rfl rfl rfl) ?_))))))
 refine st ?_
 refine qdH 8 16904 (rd rfl (qg rfl qW rfl) (qbR 1 rfl (qd 1 rfl ?_)))
 obtain ⟨l33, h33, hr⟩ := zd hr
 refine rd rfl (qjy (f := qs) a1.fb 0 (wr ((a1.fb.length : Int) - (1 : Int))) rfl qa4 rfl (asl rfl) qg0 (qg7 rfl) qad h33) (er rfl (qey rfl rfl (.head _) rfl rfl (by exact qer) (by first | rfl | simp [sz, szs, qed, qcW])) ?_)
 refine zj hr rfl qcl (qce _ _) (fun r34 h34 hr => ?_)
 refine rd rfl (qg rfl qW rfl) (z9 rfl (qc9 _ rfl rfl rfl (Wk.refl _) (pf1 _ _ _) rfl rfl (by exact qdF) rfl rfl rfl) ?_)
 refine st0 ?_
 refine ze 3 6 (qbR 0 rfl (qbZ rfl (pf2 _ _ _ _) ?_))
 refine st ?_
 cases hr
 refine qaw Tryz.func34 _ (.cons (zm rfl (.head _) (by exact q7) rfl (Wk.refl _)) (.cons (za rfl (Wk.refl _)) .nil)) ?_
 rfl
 refine st ?_
 refine qdH 8 16904 (rd rfl (qg rfl qW rfl) (qbR 1 rfl (qd 1 rfl ?_)))
 obtain ⟨l35, h35, hr⟩ := zd hr
 refine rd rfl (qjy (f := qs) a1.fb 0 (wr ((a1.fb.length : Int) - (1 : Int))) rfl qa4 rfl (asl rfl) qg0 (qg7 rfl) qad h35) (er rfl (qey rfl rfl (.head _) rfl rfl (by exact qer) (by first | rfl | simp [sz, szs, qed, qcW])) ?_)
 refine zj hr rfl qcl (qce _ _) (fun r36 h36 hr => ?_)
 refine rd rfl (qg rfl qW rfl) (z9 rfl (qc9 _ rfl rfl rfl (Wk.refl _) (pf1 _ _ _) rfl rfl (by exact qdF) rfl rfl rfl) ?_)
 refine st0 ?_
 refine ze 3 6 (qbR 0 rfl (qbZ rfl (pf2 _ _ _ _) ?_))
 refine st ?_
 cases hr
 refine qaw Tryz.func34 _ (.cons (zm rfl (.head _) (by exact q7) rfl (Wk.refl _)) (.cons (za rfl (Wk.refl _)) .nil)) ?_
 rfl
 refine st ?_
 refine zh 124 rfl hr (fun _ hr => ?_) (fun _ hr => ?_)
 refine qf1 rfl (ze 2 4 (rd rfl (qg rfl qew rfl) (z9 rfl (qc9 _ rfl rfl rfl (Wk.refl _) (pf0 _) rfl (by first | rfl | simp [yt, szs, sz, qed, qeW, qcW]) (by exact qfj) rfl rfl rfl) ?_)))
 refine st ?_
 refine zh 128 rfl hr (fun _ hr => ?_) (fun _ hr => ?_)
 refine qf1 rfl (ze 5 264 (rd rfl (qg rfl qew rfl) (er rfl (qey rfl rfl (.head _) rfl (by first | rfl | simp [yt, szs, sz, qed, qeW, qcW]) (by exact qfj) rfl) (rd rfl (qeg rfl rfl rfl rfl) (rd rfl (qg rfl qew rfl) (z9 rfl (qc9 _ rfl rfl rfl (Wk.refl _) (pf0 _) rfl (by first | rfl | simp [yt, szs, sz, qed, qeW, qcW]) (by exact qfj) rfl rfl rfl) ?_))))))
 refine st ?_
 refine qdH 8 16904 (rd rfl (qg rfl qW rfl) (qbR 1 rfl (qd 1 rfl ?_)))
 obtain ⟨l39, h39, hr⟩ := zd hr
 refine rd rfl (qjy (f := qs) a1.fb 0 (wr ((a1.fb.length : Int) - (1 : Int))) rfl qa4 rfl (asl rfl) qg0 (qg7 rfl) qad h39) (er rfl (qey rfl rfl (.head _) rfl rfl (by exact qer) (by first | rfl | simp [sz, szs, qed, qcW])) ?_)
 refine zj hr rfl qcl (qce _ _) (fun r40 h40 hr => ?_)
 refine rd rfl (qg rfl qW rfl) (z9 rfl (qc9 _ rfl rfl rfl (Wk.refl _) (pf1 _ _ _) rfl rfl (by exact qdF) rfl rfl rfl) ?_)
 refine st0 ?_
 refine ze 3 6 (qbR 0 rfl (qbZ rfl (pf2 _ _ _ _) ?_))
 refine st ?_
 cases hr
 refine qaw Tryz.func34 _ (.cons (zm rfl (.head _) (by exact q7) rfl (Wk.refl _)) (.cons (za rfl (Wk.refl _)) .nil)) ?_
 rfl
 refine st ?_
 refine qdH 8 16904 (rd rfl (qg rfl qW rfl) (qbR 1 rfl (qd 1 rfl ?_)))
 obtain ⟨l41, h41, hr⟩ := zd hr
 refine rd rfl (qjy (f := qs) a1.fb 0 (wr ((a1.fb.length : Int) - (1 : Int))) rfl qa4 rfl (asl rfl) qg0 (qg7 rfl) qad h41) (er rfl (qey rfl rfl (.head _) rfl rfl (by exact qer) (by first | rfl | simp [sz, szs, qed, qcW])) ?_)
 refine zj hr rfl qcl (qce _ _) (fun r42 h42 hr => ?_)
 refine rd rfl (qg rfl qW rfl) (z9 rfl (qc9 _ rfl rfl rfl (Wk.refl _) (pf1 _ _ _) rfl rfl (by exact qdF) rfl rfl rfl) ?_)
 refine st0 ?_
 refine ze 3 6 (qbR 0 rfl (qbZ rfl (pf2 _ _ _ _) ?_))
 refine st ?_
 cases hr
 refine qaw Tryz.func34 _ (.cons (zm rfl (.head _) (by exact q7) rfl (Wk.refl _)) (.cons (za rfl (Wk.refl _)) .nil)) ?_
 rfl
 refine st ?_
 refine zh 128 rfl hr (fun _ hr => ?_) (fun _ hr => ?_)
 refine qf1 rfl (ze 5 264 (rd rfl (qg rfl qew rfl) (er rfl (qey rfl rfl (.head _) rfl (by first | rfl | simp [yt, szs, sz, qed, qeW, qcW]) (by exact qfj) rfl) (rd rfl (qeg rfl rfl rfl rfl) (rd rfl (qg rfl qew rfl) (z9 rfl (qc9 _ rfl rfl rfl (Wk.refl _) (pf0 _) rfl (by first | rfl | simp [yt, szs, sz, qed, qeW, qcW]) (by exact qfj) rfl rfl rfl) ?_))))))
 refine st ?_
 refine qdH 8 16904 (rd rfl (qg rfl qW rfl) (qbR 1 rfl (qd 1 rfl ?_)))
 obtain ⟨l44, h44, hr⟩ := zd hr
 refine rd rfl (qjy (f := qs) a1.fb 0 (wr ((a1.fb.length : Int) - (1 : Int))) rfl qa4 rfl (asl rfl) qg0 (qg7 rfl) qad h44) (er rfl (qey rfl rfl (.head _) rfl rfl (by exact qer) (by first | rfl | simp [sz, szs, qed, qcW])) ?_)
 refine zj hr rfl qcl (qce _ _) (fun r45 h45 hr => ?_)
 refine rd rfl (qg rfl qW rfl) (z9 rfl (qc9 _ rfl rfl rfl (Wk.refl _) (pf1 _ _ _) rfl rfl (by exact qdF) rfl rfl rfl) ?_)
 refine st0 ?_
 refine ze 3 6 (qbR 0 rfl (qbZ rfl (pf2 _ _ _ _) ?_))
 refine st ?_
 cases hr
 refine qaw Tryz.func34 _ (.cons (zm rfl (.head _) (by exact q7) rfl (Wk.refl _)) (.cons (za rfl (Wk.refl _)) .nil)) ?_
 rfl
 refine st ?_
 refine qdH 8 16904 (rd rfl (qg rfl qW rfl) (qbR 1 rfl (qd 1 rfl ?_)))
 obtain ⟨l46, h46, hr⟩ := zd hr
 refine rd rfl (qjy (f := qs) a1.fb 0 (wr ((a1.fb.length : Int) - (1 : Int))) rfl qa4 rfl (asl rfl) qg0 (qg7 rfl) qad h46) (qbR 0 rfl ?_)
 refine zj hr rfl qcl (qce _ _) (fun r47 h47 hr => ?_)
 refine rd rfl (qg rfl qW rfl) (z9 rfl (qc9 _ rfl rfl rfl (Wk.refl _) (pf1 _ _ _) rfl rfl (by exact qdF) rfl rfl rfl) ?_)
 refine st0 ?_
 refine ze 3 6 (qbR 0 rfl (qbZ rfl (pf2 _ _ _ _) ?_))
 refine st ?_
 cases hr
 refine qaw Tryz.func34 _ (.cons (zm rfl (.head _) (by exact q7) rfl (Wk.refl _)) (.cons (za rfl (Wk.refl _)) .nil)) ?_
 rfl
 refine qab [3, 4, 5, 6, 8, 9, 10] rfl (qbA [_, _] _ (pS [0, 1] _) (qR (fun n env σ => ∃ (f8 : Bool) (i9 : Nat), n = r7.length - i9 ∧ (env = [(3, .ptr (qi a0)), (4, .ref b4_0 0 []), (5, .ptr (qL a2)), (6, .ref b6_1 0 []), (8, .lst (r7.map qL)), (9, .bool f8), (10, .int .i64 (i9 : Int))]) ∧ (σ = [.cell b4_0 (qaa a1), .cell b6_1 (.agg [.lst ([].map qs), .lst ([].map zn), .lst ([].map zr), .lst ([].map qf), .int .i64 0, .int .i64 0, .bool false])]) ∧ (i9 ≤ r7.length) ∧ (qbn c a2 (r7.drop i9) f8 = some a)) _ ⟨false, 0, rfl, rfl, rfl, jc _, hr⟩ ?_))
 rintro n _ _ ⟨f8, i9, rfl, rfl, rfl, g, hr⟩ m
 rcases zb r7 i9 g with ⟨h, b, o⟩ | ⟨q_48, h, b, p, q⟩
 rw [b, qbn] at hr
 exact fin hr
 rw [b, qbn] at hr
 refine st ?_
 refine qy (qai (qdH 6 0 ?_))
 refine st ?_
 refine zj hr rfl qjR (qjZ _ _) (fun r49 h49 hr => ?_)
 refine qac ?_
 refine zh 43 rfl hr (fun _ hr => ?_) (fun _ hr => ?_)
 exact fin hr
 exact fin hr
def qc5 (fuel : Nat) (a2 : Int) (a0 : qc) : Nat → List qv → qe → Option (qe × (List qv) × Int)
 | 0, o11, c12 =>
 none
 | rest + 1, o11, c12 =>
 ((qe5 fuel a0 c12).bind fun r13 =>
 (bif (!r13.2) then
 some (c12, o11, 0)
 else
 (bif (decide ((o11.length : Int) ≥ a2)) then
 some (c12, o11, 15)
 else
 ((qfu fuel a0 c12 r13.1).bind fun r17 =>
 (bif (r17.2 != (0 : Int)) then
 some (c12, o11, r17.2)
 else
 ((zF 56 o11 [r13.1]).bind fun l20 =>
 (qc5 fuel a2 a0 rest l20 r17.1)))))))
def qfg (fuel : Nat) (a0 : qc) (a1 : qe) (a2 : Int) : Option (qe × (List qv) × Int) :=
 ((qcO fuel a0 a1).bind fun r4 =>
 (bif (!r4) then
 some ((⟨[], [], [], [], 0, 0, false⟩ : qe), [], 2)
 else
 (bif (decide (a2 < (0 : Int))) then
 some ((⟨[], [], [], [], 0, 0, false⟩ : qe), [], 2)
 else
 (qc5 fuel a2 a0 fuel [] a1))))
theorem qmT (fuel : Nat) (a0 : qc) (a1 : qe) (a2 : Int) (res : qe × (List qv) × Int) (hr : qfg fuel a0 a1 a2 = some res) : zf Tryz.prog 10 [qi a0, qaa a1, .int .i64 a2] (.tup [qaa res.1, .lst (res.2.1.map qL), .int .i64 res.2.2]) := by
 unfold qfg at hr
 refine qx Tryz.func10 rfl fun K hK hF => (qai (ze 5 84 (rd rfl (qcG rfl rfl rfl) (ew rfl (ql8 rfl rfl rfl) ?_))))
 rintro _ _ ⟨b4_0, rfl, rfl⟩
 refine ew rfl (qau rfl qg8) ?_
 rintro _ _ ⟨b6_1, rfl, rfl⟩
 refine ew rfl (qN 62 5 (.inl rfl)) ?_
 rintro _ _ ⟨u7_2, rfl, rfl⟩
 refine st0 ?_
 refine ze 8 8 (qd 1 rfl (qbR 2 rfl ?_))
 refine zj hr rfl qgJ (qgx fuel _ _) (fun r4 h4 hr => ?_)
 refine qd 2 rfl ?_
 refine zo 18 rfl hr (fun h18_4 hr => ?_) (fun h18_4 hr => ?_)
 refine st0 ?_
 refine ze 4 20 (rd rfl (qay rfl qde .nil (.nil _)) (qbZ rfl (pf1 _ _ _) (ew rfl (qN 62 5 (.inl rfl)) ?_)))
 rintro _ _ ⟨u7_5, rfl, rfl⟩
 refine st ?_
 cases hr
 refine qaw Tryz.func10 _ (.cons (zm rfl (.tail _ (.head _)) (by exact q7) rfl (Wk.refl _)) (.cons (za rfl (Wk.own _ _)) (.cons (za rfl (Wk.refl _)) .nil))) ?_
 rfl
 refine st ?_
 refine zh 21 rfl hr (fun h21_6 hr => ?_) (fun h21_6 hr => ?_)
 refine st0 ?_
 refine ze 4 20 (rd rfl (qay rfl qde .nil (.nil _)) (qbZ rfl (pf1 _ _ _) (ew rfl (qN 62 5 (.inl rfl)) ?_)))
 rintro _ _ ⟨u7_7, rfl, rfl⟩
 refine st ?_
 cases hr
 refine qaw Tryz.func10 _ (.cons (zm rfl (.tail _ (.head _)) (by exact q7) rfl (Wk.refl _)) (.cons (za rfl (Wk.own _ _)) (.cons (za rfl (Wk.refl _)) .nil))) ?_
 rfl
 refine st0 ?_
 refine ze 1 1 (ew rfl (qN 62 5 (.inl rfl)) ?_)
 rintro _ _ ⟨u9_8, rfl, rfl⟩
 refine qac (qy (qab [2, 3, 4, 6, 9] rfl (qbA [_, _, _] _ (pS [0, 2, 3] _) (qR (fun n env σ => ∃ (o11 : List qv) (c12 : qe) (u10 : Value) (n0 : Nat), (n0 = n) ∧ (env = [(2, .int .i64 a2), (3, .ptr (qi a0)), (4, .ref b4_0 0 []), (6, .ref b6_1 0 []), (9, .own u10 (o11.map qL))]) ∧ (σ = [.cell b4_0 (qaa c12), .cell b6_1 (.agg [.lst ([].map qs), .lst ([].map zn), .lst ([].map zr), .lst ([].map qf), .int .i64 0, .int .i64 0, .bool false]), .row u10 o11.length 62 5]) ∧ (qc5 fuel a2 a0 n0 o11 c12 = some res)) _ ⟨[], a1, u9_8, _, rfl, rfl, rfl, hr⟩ ?_))))
 rintro n _ _ ⟨o11, c12, u10, n0, rfl, rfl, rfl, hr⟩ IH0
 cases n0 with
 | zero => rw [qc5] at hr; cases hr
 | succ n0 =>
  rw [qc5] at hr
  refine qy (qai (ze 9 20488 (qd 1 rfl (qbR 0 rfl ?_))))
  refine zj hr rfl ql6 (qmw fuel _ _) (fun r13 h13 hr => ?_)
  refine qd 3 rfl (ew rfl (qau rfl qo1) ?_)
  rintro _ _ ⟨b10_13, rfl, rfl⟩
  refine qbZ rfl (pf0 _) (qd 1 rfl (qac (qbb 10 b10_13 rfl (pf0 _) ?_)))
  refine st ?_
  refine zh 30 rfl hr (fun h30_14 hr => ?_) (fun h30_14 hr => ?_)
  refine st0 ?_
  refine ze 5 18 (qbR 0 rfl (qd 1 rfl (qbZ rfl (pf1 _ _ _) ?_)))
  refine st ?_
  cases hr
  refine qaw Tryz.func10 _ (.cons (zm rfl (.head _) (by exact q7) (qee _) (Wk.refl _)) (.cons (za rfl (Wk.own _ _)) (.cons (za rfl (Wk.refl _)) .nil))) ?_
  rfl
  refine st ?_
  refine zh 36 rfl hr (fun h36_15 hr => ?_) (fun h36_15 hr => ?_)
  refine st0 ?_
  refine ze 5 18 (qbR 0 rfl (qd 1 rfl (qbZ rfl (pf1 _ _ _) ?_)))
  refine st ?_
  cases hr
  refine qaw Tryz.func10 _ (.cons (zm rfl (.head _) (by exact q7) (qee _) (Wk.refl _)) (.cons (za rfl (Wk.own _ _)) (.cons (za rfl (Wk.refl _)) .nil))) ?_
  rfl
  refine st0 ?_
  refine ze 10 81928 (qd 1 rfl (qbR 0 rfl (qd 1 rfl ?_)))
  refine zj hr rfl qni (qm8 fuel _ _ _) (fun r17 h17 hr => ?_)
  refine qd 3 rfl (ew rfl (qau rfl qg8) ?_)
  rintro _ _ ⟨b12_17, rfl, rfl⟩
  refine qbZ rfl (pf0 _) (qd 1 rfl (qac (qbb 12 b12_17 rfl (pf0 _) ?_)))
  refine st ?_
  refine zh 47 rfl hr (fun h47_18 hr => ?_) (fun h47_18 hr => ?_)
  refine st0 ?_
  refine ze 6 66 (qbR 0 rfl (qd 2 rfl (qbZ rfl (pf1 _ _ _) ?_)))
  refine st ?_
  cases hr
  refine qaw Tryz.func10 _ (.cons (zm rfl (.head _) (by exact q7) (qee _) (Wk.refl _)) (.cons (za rfl (Wk.own _ _)) (.cons (za rfl (Wk.refl _)) .nil))) ?_
  rfl
  refine st0 ?_
  refine ze 2 4 (qd 1 rfl (z9 rfl (qjX _ rfl rfl rfl (Wk.refl _) (pf0 _) (by exact q7) (qee _) (qee _) rfl) (qac (ze 5 64 (qd 2 rfl (rd rfl (qet (f := qL) [.tmp 53] [r13.1] rfl qef rfl rfl od od (.oc rfl .nil) qc3 (fun _ => rfl)) ?_))))))
  obtain ⟨l20, h20, hr⟩ := zd hr
  refine ew rfl (qah (f := qL) o11 [r13.1] rfl qef rfl rfl (asl rfl) (pf2 _ _ _ _) rfl qc3 h20) ?_
  rintro _ _ ⟨u55_20, rfl, rfl⟩
  refine qd 1 rfl (qac (qfZ (qab [2, 3, 4, 6, 9] rfl (qbA [_, _, _] _ (pS [0, 2, 2] _) ?_))))
  exact IH0 _ _ _ oa ⟨l20, r17.1, u55_20, _, rfl, rfl, rfl, hr⟩
def qbQ (k : List qn → Option (qe)) (a0 : List Gl) : Nat → List qn → Option (qe)
 | 0, s5 =>
 (k s5)
 | k9 + 1, s5 =>
 ((zi a0 (k9 : Int)).bind fun q_10 =>
 ((zF 64 s5 [(⟨q_10, 0, 0⟩ : qn)]).bind fun l11 =>
 (qbQ k a0 k9 l11)))
def qe6 (k : Int → Option (qe)) (a1 : Int) : Option (qe) :=
 (bif (decide (a1 < (0 : Int))) then
 (k 0)
 else
 (k a1))
def qeK (a0 : List Gl) (a1 : Int) : Option (qe) :=
 (qe6 (fun v2 =>
 ((zab (wr ((a0.length : Int) - (1 : Int)))).bind fun m13 =>
 (qbQ (fun s8 =>
 some ((⟨s8, [], [], [], 1, v2, false⟩ : qe))) a0 m13 []))) a1)
theorem qln (a0 : List Gl) (a1 : Int) (a : qe) (hr : qeK a0 a1 = some a) : zf Tryz.prog 11 [.lst (a0.map zE), .int .i64 a1] (qaa a) := by
 unfold qeK at hr
 refine qx Tryz.func11 rfl fun K h i => (qai (ze 1 1 (ew rfl (qau rfl qg8) ?_)))
 rintro _ _ ⟨b4_0, rfl, rfl⟩
 refine qac ?_
 obtain ⟨kkJ0, hkkJ0, hr⟩ := exK (fun k => qe6 k a1) hr
 refine qqs (fun env σ => ∃ (v2 : Int), env = [(0, .lst (a0.map zE)), (1, .int .i64 v2), (4, .ref b4_0 0 [])] ∧ σ = [.cell b4_0 (.agg [.lst ([].map qs), .lst ([].map zn), .lst ([].map zr), .lst ([].map qf), .int .i64 0, .int .i64 0, .bool false])] ∧ kkJ0 v2 = some a) ?_ (fun HKJ0 => ?_)
 rintro _ _ ⟨v2, rfl, rfl, hr⟩
 rw [hkkJ0] at hr
 refine qai (ze 1 1 (ew rfl (qN 90 5 (.inl rfl)) ?_))
 rintro _ _ ⟨u5_2, rfl, rfl⟩
 refine st ?_
 refine rd rfl (qeg rfl rfl rfl rfl) ?_
 refine st ?_
 obtain ⟨m13, h13, hr⟩ := zd hr
 have hm_13' := qlZ h13
 obtain ⟨c, e, hr⟩ := exK (fun k => qbQ k a0 m13 []) hr
 refine qq (fun env σ => ∃ (s8 : List qn) (u7 : Value), env = [(1, .int .i64 v2), (4, .ref b4_0 0 []), (5, .own u7 (s8.map qs))] ∧ σ = [.cell b4_0 (.agg [.lst ([].map qs), .lst ([].map zn), .lst ([].map zr), .lst ([].map qf), .int .i64 0, .int .i64 0, .bool false]), .row u7 s8.length 90 5] ∧ c s8 = some a) ?_ (fun j => ?_)
 rintro _ _ ⟨s8, u7, rfl, rfl, hr⟩
 rw [e] at hr
 refine qai (ze 4 64 (qd 2 rfl (rd rfl (qay rfl qde (.cons rfl (Wk.own _ _) (.oc rfl (.oc rfl .nil))) (.cons rfl rfl rfl (.cons rfl rfl rfl (.cons rfl rfl rfl (.nil _))))) (qbZ rfl (pf0 _) (qac ?_)))))
 cases hr
 refine qaw Tryz.func11 _ (.cons (zm rfl (.head _) (by exact q7) rfl (Wk.refl _)) .nil) ?_
 rfl
 refine qr7 6 (d' := .int .i64 ((m13 : Int) - 1)) rfl (congrArg (D.int .i64) hm_13') (qab [0, 1, 4, 5, 6] rfl (qbA [_, _] _ (pS [0, 1] _) (qR (fun n env σ => ∃ (s5 : List qn) (i6 : Nat) (u4 : Value), (i6 = n) ∧ (env = [(0, .lst (a0.map zE)), (1, .int .i64 v2), (4, .ref b4_0 0 []), (5, .own u4 (s5.map qs)), (6, .int .i64 ((i6 : Int) - 1))]) ∧ (σ = [.cell b4_0 (.agg [.lst ([].map qs), .lst ([].map zn), .lst ([].map zr), .lst ([].map qf), .int .i64 0, .int .i64 0, .bool false]), .row u4 s5.length 90 5]) ∧ (qbQ c a0 i6 s5 = some a)) _ ⟨[], m13, u5_2, rfl, rfl, rfl, hr⟩ ?_)))
 rintro n _ _ ⟨s5, i6, u4, rfl, rfl, rfl, hr⟩ g
 refine qou 6 rfl fun l => ?_
 rcases yT i6 with ⟨b, d⟩ | ⟨k9, b, d⟩
 rw [b, qbQ] at hr
 exact fin hr
 rw [b, qbQ] at hr
 have d : decide ((k9 : Int) ≥ (0 : Int)) = true := decide_eq_true oa
 refine qr7 6 (d' := .int .i64 (k9 : Int)) rfl (by subst b; congr 1; omega) ?_
 refine st ?_
 refine qy (ze 9 16384 (qd 3 rfl ?_))
 obtain ⟨q_10, h10, hr⟩ := zd hr
 refine st ?_
 refine rd rfl (qay rfl qjp (.oc rfl .nil) (.cons rfl (qcW _) rfl (.nil _))) (rd rfl (qet (f := qs) [.tmp 21] [(⟨q_10, 0, 0⟩ : qn)] rfl qa4 rfl rfl od od (.oc rfl .nil) qad (fun _ => rfl)) ?_)
 obtain ⟨l11, h11, hr⟩ := zd hr
 refine ew rfl (qah (f := qs) s5 [(⟨q_10, 0, 0⟩ : qn)] rfl qa4 rfl rfl (asl rfl) (pf1 _ _ _) rfl qad h11) ?_
 rintro _ _ ⟨u23_11, rfl, rfl⟩
 refine st ?_
 refine rd rfl (zbs (r := (k9 : Int) - 1) rfl rfl rfl rfl oa) (qd 1 rfl (qac (qab [0, 1, 4, 5, 6] rfl (qbA [_, _] _ (pS [0, 1] _) ?_))))
 exact g _ _ _ oa ⟨l11, k9, u23_11, rfl, rfl, rfl, hr⟩
 unfold qe6 at hr
 refine st ?_
 refine zh 8 rfl hr (fun _ hr => ?_) (fun _ hr => ?_)
 exact fin hr
 exact fin hr
def qaC (k : Option Int) (a2 : Int) : List Int → Option Int
 | [] =>
 k
 | q_12 :: rest =>
 (bif (decide (q_12 ≥ a2)) then
 some (17)
 else
 (qaC k a2 rest))
def qaA (k : Option Int) (fuel : Nat) (a2 : Int) : List Gl → Option Int
 | [] =>
 k
 | q_9 :: rest =>
 ((qcm fuel q_9).bind fun r10 =>
 (qaC ((qaA k fuel a2 rest)) a2 r10))
def qaz (k : Option Int) : List Gl → Option Int
 | [] =>
 k
 | q_14 :: rest =>
 ((qcB q_14.op).bind fun r15 =>
 (bif r15 then
 some (10)
 else
 (qaz k rest)))
def qaB (k : Option Int) : List Gl → Option Int
 | [] =>
 k
 | q_17 :: rest =>
 ((qjW q_17).bind fun r18 =>
 (bif (!r18) then
 some (2)
 else
 (qaB k rest)))
def qdC (fuel : Nat) (a0 : List qB) (a1 : List Gl) (a2 : Int) : Option Int :=
 (bif (decide ((a1.length : Int) > (40 : Int))) then
 some (6)
 else
 (bif (decide (a2 < (0 : Int))) then
 some (6)
 else
 (bif (decide (a2 > (100 : Int))) then
 some (6)
 else
 (qaB (((qfF a0 a1).bind fun r5 =>
 (bif (r5 != (0 : Int)) then
 some (r5)
 else
 (qaz ((qaA (some (0)) fuel a2 a1)) a1)))) a1))))
theorem qjD (fuel : Nat) (a0 : List qB) (a1 : List Gl) (a2 : Int) (a : Int) (hr : qdC fuel a0 a1 a2 = some a) : zf Tryz.prog 8 [.lst (a0.map qD), .lst (a1.map zE), .int .i64 a2] (.int .i64 a) := by
 unfold qdC at hr
 refine qx Tryz.func8 rfl fun K C E => ?_
 refine st ?_
 refine zo 16 rfl hr (fun _ hr => ?_) (fun _ hr => ?_)
 exact fin hr
 refine qd 4 rfl ?_
 refine zo 20 rfl hr (fun _ hr => ?_) (fun _ hr => ?_)
 exact fin hr
 refine st ?_
 refine zh 23 rfl hr (fun _ hr => ?_) (fun _ hr => ?_)
 exact fin hr
 refine st ?_
 obtain ⟨g, l, hr⟩ := exK (fun k => qaB k a1) hr
 refine qct 1 rfl (asl rfl) fun m => ?_
 simp only [jb] at m
 refine qq (fun env σ => env = [(0, .lst (a0.map qD)), (1, .lst (a1.map zE)), (2, .int .i64 a2)] ∧ σ = [] ∧ g = some a) ?_ (fun F => ?_)
 rintro _ _ ⟨rfl, rfl, hr⟩
 rw [l] at hr
 refine st ?_
 refine zj hr rfl qip (qiw _ _) (fun r5 h5 hr => ?_)
 refine st ?_
 refine zh 40 rfl hr (fun _ hr => ?_) (fun _ hr => ?_)
 exact fin hr
 refine st ?_
 obtain ⟨h, o, hr⟩ := exK (fun k => qaz k a1) hr
 refine qct 1 rfl (asl rfl) fun p => ?_
 simp only [jb] at p
 refine qq (fun env σ => env = [(1, .lst (a1.map zE)), (2, .int .i64 a2)] ∧ σ = [] ∧ h = some a) ?_ (fun G => ?_)
 rintro _ _ ⟨rfl, rfl, hr⟩
 rw [o] at hr
 refine st ?_
 obtain ⟨i, q, hr⟩ := exK (fun k => qaA k fuel a2 a1) hr
 refine qct 1 rfl (asl rfl) fun r => ?_
 simp only [jb] at r
 refine qq (fun env σ => env = [] ∧ σ = [] ∧ i = some a) ?_ (fun H => ?_)
 rintro _ _ ⟨rfl, rfl, hr⟩
 rw [q] at hr
 exact fin hr
 refine qab [1, 2, 10] rfl (qR (fun n env σ => ∃ (i8 : Nat), n = a1.length - i8 ∧ (env = [(1, .lst (a1.map zE)), (2, .int .i64 a2), (10, .int .i64 (i8 : Int))]) ∧ (σ = []) ∧ (i8 ≤ a1.length) ∧ (qaA i fuel a2 (a1.drop i8) = some a)) _ ⟨0, rfl, rfl, rfl, jc _, hr⟩ ?_)
 rintro n _ _ ⟨i8, rfl, rfl, rfl, s, hr⟩ I
 rcases zb a1 i8 s with ⟨t, b, J⟩ | ⟨q_9, t, b, L, M⟩
 rw [b, qaA] at hr
 exact fin hr
 rw [b, qaA] at hr
 refine st ?_
 refine qy ?_
 refine st ?_
 refine zj hr rfl qfX (qfV fuel _) (fun r10 h10 hr => ?_)
 refine st ?_
 obtain ⟨j, u, hr⟩ := exK (fun k => qaC k a2 r10) hr
 refine qct 64 rfl (asl rfl) fun v => ?_
 simp only [jb] at v
 refine qq (fun env σ => env = [(1, .lst (a1.map zE)), (2, .int .i64 a2), (10, .int .i64 (i8 : Int))] ∧ σ = [] ∧ j = some a) ?_ (fun N => ?_)
 rintro _ _ ⟨rfl, rfl, hr⟩
 rw [u] at hr
 exact fin hr
 refine qab [1, 2, 10, 11, 12] rfl (qR (fun n env σ => ∃ (k11 : Nat), n = r10.length - k11 ∧ (env = [(1, .lst (a1.map zE)), (2, .int .i64 a2), (10, .int .i64 (i8 : Int)), (11, .lst (r10.map (D.int .i64))), (12, .int .i64 (k11 : Int))]) ∧ (σ = []) ∧ (k11 ≤ r10.length) ∧ (qaC j a2 (r10.drop k11) = some a)) _ ⟨0, rfl, rfl, rfl, jc _, hr⟩ ?_)
 rintro n _ _ ⟨k11, rfl, rfl, rfl, w, hr⟩ O
 rcases zb r10 k11 w with ⟨x, c, P⟩ | ⟨q_12, x, c, Q, R⟩
 rw [c, qaC] at hr
 exact fin hr
 rw [c, qaC] at hr
 refine st ?_
 refine qy ?_
 refine st ?_
 refine zh 76 rfl hr (fun _ hr => ?_) (fun _ hr => ?_)
 exact fin hr
 exact fin hr
 refine qab [1, 2, 9] rfl (qR (fun n env σ => ∃ (i7 : Nat), n = a1.length - i7 ∧ (env = [(1, .lst (a1.map zE)), (2, .int .i64 a2), (9, .int .i64 (i7 : Int))]) ∧ (σ = []) ∧ (i7 ≤ a1.length) ∧ (qaz h (a1.drop i7) = some a)) _ ⟨0, rfl, rfl, rfl, jc _, hr⟩ ?_)
 rintro n _ _ ⟨i7, rfl, rfl, rfl, y, hr⟩ S
 rcases zb a1 i7 y with ⟨z, d, T⟩ | ⟨q_14, z, d, U, V⟩
 rw [d, qaz] at hr
 exact fin hr
 rw [d, qaz] at hr
 refine st ?_
 refine qy ?_
 refine st ?_
 refine zj hr rfl qgU (qg6 _) (fun r15 h15 hr => ?_)
 refine qac ?_
 refine zh 53 rfl hr (fun _ hr => ?_) (fun _ hr => ?_)
 exact fin hr
 exact fin hr
 refine qab [0, 1, 2, 7] rfl (qR (fun n env σ => ∃ (i4 : Nat), n = a1.length - i4 ∧ (env = [(0, .lst (a0.map qD)), (1, .lst (a1.map zE)), (2, .int .i64 a2), (7, .int .i64 (i4 : Int))]) ∧ (σ = []) ∧ (i4 ≤ a1.length) ∧ (qaB g (a1.drop i4) = some a)) _ ⟨0, rfl, rfl, rfl, jc _, hr⟩ ?_)
 rintro n _ _ ⟨i4, rfl, rfl, rfl, A, hr⟩ W
 rcases zb a1 i4 A with ⟨B, e, X⟩ | ⟨q_17, B, e, Y, Z⟩
 rw [e, qaB] at hr
 exact fin hr
 rw [e, qaB] at hr
 refine st ?_
 refine qy ?_
 refine st ?_
 obtain ⟨r18, h18, hr⟩ := zd hr
 refine qdY rfl qcz (qcy _ _ h18) ?_
 refine st ?_
 refine zh 35 rfl hr (fun _ hr => ?_) (fun _ hr => ?_)
 exact fin hr
 exact fin hr
def qb3 (k : Option Bool) : List T → Int → Option Bool
 | [], n2 =>
 k
 | q_4 :: rest, n2 =>
 ((qsT q_4).bind fun r5 =>
 (bif (decide ((wr (n2 + r5)) > (60 : Int))) then
 some (false)
 else
 (qb3 k rest (wr (n2 + r5)))))
def qek (a0 : List T) : Option Bool :=
 (bif (decide ((a0.length : Int) > (8 : Int))) then
 some (false)
 else
 (qb3 (some (true)) a0 0))
theorem qiE (a0 : List T) (a : Bool) (hr : qek a0 = some a) : zf Tryz.prog 21 [.lst (a0.map zl)] (.bool a) := by
 unfold qek at hr
 refine qx Tryz.func21 rfl fun K i j => ?_
 refine st ?_
 refine zh 7 rfl hr (fun _ hr => ?_) (fun _ hr => ?_)
 exact fin hr
 refine st ?_
 obtain ⟨c, d, hr⟩ := exK (fun k => qb3 k a0 0) hr
 refine qct 0 rfl (asl rfl) fun e => ?_
 simp only [jb] at e
 refine qq (fun env σ => env = [] ∧ σ = [] ∧ c = some a) ?_ (fun l => ?_)
 rintro _ _ ⟨rfl, rfl, hr⟩
 rw [d] at hr
 exact fin hr
 refine qab [0, 3, 4] rfl (qR (fun n env σ => ∃ (n2 : Int) (i3 : Nat), n = a0.length - i3 ∧ (env = [(0, .lst (a0.map zl)), (3, .int .i64 n2), (4, .int .i64 (i3 : Int))]) ∧ (σ = []) ∧ (i3 ≤ a0.length) ∧ (qb3 c (a0.drop i3) n2 = some a)) _ ⟨0, 0, rfl, rfl, rfl, jc _, hr⟩ ?_)
 rintro n _ _ ⟨n2, i3, rfl, rfl, rfl, g, hr⟩ m
 rcases zb a0 i3 g with ⟨h, b, o⟩ | ⟨q_4, h, b, p, q⟩
 rw [b, qb3] at hr
 exact fin hr
 rw [b, qb3] at hr
 refine st ?_
 refine qy ?_
 refine st ?_
 obtain ⟨r5, h5, hr⟩ := zd hr
 refine qdY rfl qiU (qiM _ _ h5) (rd rfl (qeg rfl rfl rfl rfl) ?_)
 refine st ?_
 refine zh 22 rfl hr (fun _ hr => ?_) (fun _ hr => ?_)
 exact fin hr
 exact fin hr
def qco (k : Option Bool) : List At → Option Bool
 | [] =>
 k
 | q_2 :: rest =>
 ((qek q_2.ts).bind fun r3 =>
 (bif (!r3) then
 some (false)
 else
 (qco k rest)))
def qdV (a0 : List At) : Option Bool :=
 (qco (some (true)) a0)
theorem qim (a0 : List At) (a : Bool) (hr : qdV a0 = some a) : zf Tryz.prog 20 [.lst (a0.map zY)] (.bool a) := by
 unfold qdV at hr
 refine qx Tryz.func20 rfl fun K i j => ?_
 refine st ?_
 obtain ⟨c, d, hr⟩ := exK (fun k => qco k a0) hr
 refine qct 0 rfl (asl rfl) fun e => ?_
 simp only [jb] at e
 refine qq (fun env σ => env = [] ∧ σ = [] ∧ c = some a) ?_ (fun l => ?_)
 rintro _ _ ⟨rfl, rfl, hr⟩
 rw [d] at hr
 exact fin hr
 refine qab [0, 3] rfl (qR (fun n env σ => ∃ (i1 : Nat), n = a0.length - i1 ∧ (env = [(0, .lst (a0.map zY)), (3, .int .i64 (i1 : Int))]) ∧ (σ = []) ∧ (i1 ≤ a0.length) ∧ (qco c (a0.drop i1) = some a)) _ ⟨0, rfl, rfl, rfl, jc _, hr⟩ ?_)
 rintro n _ _ ⟨i1, rfl, rfl, rfl, g, hr⟩ m
 rcases zb a0 i1 g with ⟨h, b, o⟩ | ⟨q_2, h, b, p, q⟩
 rw [b, qco] at hr
 exact fin hr
 rw [b, qco] at hr
 refine st ?_
 refine qy ?_
 refine st ?_
 refine zj hr rfl qiJ (qiE _) (fun r3 h3 hr => ?_)
 refine st ?_
 refine zh 16 rfl hr (fun _ hr => ?_) (fun _ hr => ?_)
 exact fin hr
 exact fin hr
def qbH (k : Option Bool) : List Gl → Option Bool
 | [] =>
 k
 | q_3 :: rest =>
 ((qek q_3.ts).bind fun r4 =>
 (bif (!r4) then
 some (false)
 else
 (qbH k rest)))
def qdi (a0 : List Gl) (a1 : Int) : Option Bool :=
 (bif (decide ((a0.length : Int) > a1)) then
 some (false)
 else
 (qbH (some (true)) a0))
theorem qgL (a0 : List Gl) (a1 : Int) (a : Bool) (hr : qdi a0 a1 = some a) : zf Tryz.prog 7 [.lst (a0.map zE), .int .i64 a1] (.bool a) := by
 unfold qdi at hr
 refine qx Tryz.func7 rfl fun K i j => ?_
 refine st ?_
 refine zh 9 rfl hr (fun _ hr => ?_) (fun _ hr => ?_)
 exact fin hr
 refine st ?_
 obtain ⟨c, d, hr⟩ := exK (fun k => qbH k a0) hr
 refine qct 0 rfl (asl rfl) fun e => ?_
 simp only [jb] at e
 refine qq (fun env σ => env = [] ∧ σ = [] ∧ c = some a) ?_ (fun l => ?_)
 rintro _ _ ⟨rfl, rfl, hr⟩
 rw [d] at hr
 exact fin hr
 refine qab [0, 5] rfl (qR (fun n env σ => ∃ (i2 : Nat), n = a0.length - i2 ∧ (env = [(0, .lst (a0.map zE)), (5, .int .i64 (i2 : Int))]) ∧ (σ = []) ∧ (i2 ≤ a0.length) ∧ (qbH c (a0.drop i2) = some a)) _ ⟨0, rfl, rfl, rfl, jc _, hr⟩ ?_)
 rintro n _ _ ⟨i2, rfl, rfl, rfl, g, hr⟩ m
 rcases zb a0 i2 g with ⟨h, b, o⟩ | ⟨q_3, h, b, p, q⟩
 rw [b, qbH] at hr
 exact fin hr
 rw [b, qbH] at hr
 refine st ?_
 refine qy ?_
 refine st ?_
 refine zj hr rfl qiJ (qiE _) (fun r4 h4 hr => ?_)
 refine st ?_
 refine zh 22 rfl hr (fun _ hr => ?_) (fun _ hr => ?_)
 exact fin hr
 exact fin hr
def qa0 (k : Option Bool) : List qr → Option Bool
 | [] =>
 k
 | q_4 :: rest =>
 (bif (decide ((q_4.fi.length : Int) > (3 : Int))) then
 some (false)
 else
 (bif (decide ((q_4.ff.length : Int) > (3 : Int))) then
 some (false)
 else
 (bif (decide ((wr ((q_4.fi.length : Int) + (q_4.ff.length : Int))) > (3 : Int))) then
 some (false)
 else
 (bif (decide ((q_4.fy.length : Int) > (6 : Int))) then
 some (false)
 else
 (bif (decide ((q_4.fg.length : Int) > (6 : Int))) then
 some (false)
 else
 ((qdV q_4.fi).bind fun r11 =>
 (bif (!r11) then
 some (false)
 else
 ((qdV q_4.ff).bind fun r13 =>
 (bif (!r13) then
 some (false)
 else
 ((qdi q_4.fy 6).bind fun r15 =>
 (bif (!r15) then
 some (false)
 else
 ((qdi q_4.fg 6).bind fun r17 =>
 (bif (!r17) then
 some (false)
 else
 (qa0 k rest))))))))))))))
def qd9 (a0 : qc) : Option Bool :=
 (bif (decide ((a0.fx.length : Int) > (12 : Int))) then
 some (false)
 else
 (bif (decide ((a0.fd.length : Int) > (8 : Int))) then
 some (false)
 else
 (qa0 (some (true)) a0.fd)))
theorem qkq (a0 : qc) (a : Bool) (hr : qd9 a0 = some a) : zf Tryz.prog 6 [qi a0] (.bool a) := by
 unfold qd9 at hr
 refine qx Tryz.func6 rfl fun K i j => ?_
 refine st ?_
 refine rd rfl (qcG rfl rfl rfl) ?_
 refine st ?_
 refine zo 9 rfl hr (fun _ hr => ?_) (fun _ hr => ?_)
 exact fin hr
 refine st ?_
 refine zh 14 rfl hr (fun _ hr => ?_) (fun _ hr => ?_)
 exact fin hr
 refine st ?_
 obtain ⟨c, d, hr⟩ := exK (fun k => qa0 k a0.fd) hr
 refine qct 11 rfl (asl rfl) fun e => ?_
 simp only [jb] at e
 refine qq (fun env σ => env = [] ∧ σ = [] ∧ c = some a) ?_ (fun l => ?_)
 rintro _ _ ⟨rfl, rfl, hr⟩
 rw [d] at hr
 exact fin hr
 refine qab [1, 3] rfl (qR (fun n env σ => ∃ (i3 : Nat), n = a0.fd.length - i3 ∧ (env = [(1, .ptr (qi a0)), (3, .int .i64 (i3 : Int))]) ∧ (σ = []) ∧ (i3 ≤ a0.fd.length) ∧ (qa0 c (a0.fd.drop i3) = some a)) _ ⟨0, rfl, rfl, rfl, jc _, hr⟩ ?_)
 rintro n _ _ ⟨i3, rfl, rfl, rfl, g, hr⟩ m
 rcases zb a0.fd i3 g with ⟨h, b, o⟩ | ⟨q_4, h, b, p, q⟩
 rw [b, qa0] at hr
 exact fin hr
 rw [b, qa0] at hr
 refine st ?_
 refine qy (qai (ze 7 5120 ?_))
 refine st ?_
 refine ew rfl (qau rfl qhr) ?_
 rintro _ _ ⟨b4_4, rfl, rfl⟩
 refine qbZ rfl (pf0 _) (qac (qbb 4 b4_4 rfl (pf0 _) ?_))
 refine st ?_
 refine zo 31 rfl hr (fun _ hr => ?_) (fun _ hr => ?_)
 exact fin hr
 refine st ?_
 refine zo 37 rfl hr (fun _ hr => ?_) (fun _ hr => ?_)
 exact fin hr
 refine st ?_
 refine rd rfl (qeg rfl rfl rfl rfl) (qd 3 rfl ?_)
 refine zo 47 rfl hr (fun _ hr => ?_) (fun _ hr => ?_)
 exact fin hr
 refine st ?_
 refine zo 53 rfl hr (fun _ hr => ?_) (fun _ hr => ?_)
 exact fin hr
 refine st ?_
 refine zh 58 rfl hr (fun _ hr => ?_) (fun _ hr => ?_)
 exact fin hr
 refine st ?_
 refine zj hr rfl qif (qim _) (fun r11 h11 hr => ?_)
 refine qd 2 rfl ?_
 refine zo 63 rfl hr (fun _ hr => ?_) (fun _ hr => ?_)
 exact fin hr
 refine qd 2 rfl ?_
 refine zj hr rfl qif (qim _) (fun r13 h13 hr => ?_)
 refine qd 3 rfl ?_
 refine zo 69 rfl hr (fun _ hr => ?_) (fun _ hr => ?_)
 exact fin hr
 refine qd 2 rfl ?_
 refine zj hr rfl qgD (qgL _ _) (fun r15 h15 hr => ?_)
 refine qd 3 rfl ?_
 refine zo 75 rfl hr (fun _ hr => ?_) (fun _ hr => ?_)
 exact fin hr
 refine qd 2 rfl ?_
 refine zj hr rfl qgD (qgL _ _) (fun r17 h17 hr => ?_)
 refine st ?_
 refine zh 80 rfl hr (fun _ hr => ?_) (fun _ hr => ?_)
 exact fin hr
 exact fin hr
end
end Go.Proofs.YtamoolpdganckaaGreat
