/-
 Texts of the seat, merged.
-/
import Derived.Test.YtamoolpdganckaaGreatLRF
set_option linter.unusedVariables false
set_option linter.unusedSimpArgs false
set_option linter.unnecessarySimpa false
set_option linter.all false
set_option maxHeartbeats 8000000
namespace Go.Proofs.YtamoolpdganckaaGreat
noncomputable section
set_option maxRecDepth 100000
open Go.RowKit
theorem qle (fuel : Nat) (a0 : List (Int × T)) (a1 : T) (a2 : T) (a : (List (Int × T)) × (List Int) × Int) (hr : qex fuel a0 a1 a2 = some a) : zf Tryz.prog 140 [.lst (a0.map zr), zl a1, zl a2] (.tup [.lst (a.1.map zr), .lst (a.2.1.map (D.int .i64)), .int .i64 a.2.2]) := by
 unfold qex at hr
 refine qx Tryz.func140 rfl fun K b c => ?_
 refine st ?_
 refine rd rfl (qcG rfl rfl rfl) (rd rfl (qcG rfl rfl rfl) ?_)
 refine st ?_
 refine zj hr rfl qin (qij fuel _ _ _) (fun r1 h1 hr => ?_)
 refine st ?_
 refine zh 15 rfl hr (fun _ hr => ?_) (fun _ hr => ?_)
 refine st ?_
 cases hr
 refine qaw Tryz.func140 _ (.cons (za rfl (Wk.full _)) (.cons (za rfl (Wk.full _)) (.cons (za rfl (Wk.refl _)) .nil))) ?_
 rfl
 refine st ?_
 refine zj hr rfl qik (qlI fuel _ _) (fun r3 h3 hr => ?_)
 refine zj hr rfl qe7 (qfS fuel _) (fun r4 h4 hr => ?_)
 refine st ?_
 refine zh 24 rfl hr (fun _ hr => ?_) (fun _ hr => ?_)
 refine st ?_
 cases hr
 refine qaw Tryz.func140 _ (.cons (za rfl (Wk.full _)) (.cons (za rfl (Wk.full _)) (.cons (za rfl (Wk.refl _)) .nil))) ?_
 rfl
 refine st ?_
 refine rd rfl (qay rfl qha (.oc rfl .nil) (.cons rfl rfl rfl (.nil _))) ?_
 refine zj hr rfl qiN (qiS fuel _ _ _) (fun r6 h6 hr => ?_)
 exact fin hr
def qd3 (fuel : Nat) (a0 : List (Int × T)) (a1 : Gl) : Option ((List (Int × T)) × (List Int) × Int) :=
 (bif (a1.op == (1 : Int)) then
 some (a0, [], 0)
 else
 (bif (a1.op == (2 : Int)) then
 some ([], [], 13)
 else
 (bif (a1.op == (3 : Int)) then
 ((zi a1.ts 0).bind fun q_4 =>
 ((zi a1.ts 1).bind fun q_5 =>
 ((qcY fuel a0 q_4 q_5).bind fun r6 =>
 some (r6.1, r6.2.1, r6.2.2))))
 else
 ((zi a1.ts 0).bind fun q_7 =>
 ((zi a1.ts 1).bind fun q_8 =>
 ((qex fuel a0 q_7 q_8).bind fun r9 =>
 (bif (r9.2.2 == (0 : Int)) then
 some (r9.1, r9.2.1, r9.2.2)
 else
 (bif (r9.2.2 == (6 : Int)) then
 some (r9.1, r9.2.1, r9.2.2)
 else
 some ([], [], 13)))))))))
theorem qlx (fuel : Nat) (a0 : List (Int × T)) (a1 : Gl) (a : (List (Int × T)) × (List Int) × Int) (hr : qd3 fuel a0 a1 = some a) : zf Tryz.prog 112 [.lst (a0.map zr), zE a1] (.tup [.lst (a.1.map zr), .lst (a.2.1.map (D.int .i64)), .int .i64 a.2.2]) := by
 unfold qd3 at hr
 refine qx Tryz.func112 rfl fun K b c => ?_
 refine st ?_
 refine rd rfl (qcG rfl rfl rfl) ?_
 refine st ?_
 refine zh 12 rfl hr (fun _ hr => ?_) (fun _ hr => ?_)
 refine st ?_
 cases hr
 refine qaw Tryz.func112 _ (.cons (za rfl (Wk.refl _)) (.cons (za rfl (Wk.full _)) (.cons (za rfl (Wk.refl _)) .nil))) ?_
 rfl
 refine st ?_
 refine zh 16 rfl hr (fun _ hr => ?_) (fun _ hr => ?_)
 refine st ?_
 cases hr
 refine qaw Tryz.func112 _ (.cons (za rfl (Wk.full _)) (.cons (za rfl (Wk.full _)) (.cons (za rfl (Wk.refl _)) .nil))) ?_
 rfl
 refine st ?_
 refine zh 19 rfl hr (fun _ hr => ?_) (fun _ hr => ?_)
 refine st ?_
 refine qdH 16 0 (qd 3 rfl ?_)
 obtain ⟨q_4, h4, hr⟩ := zd hr
 refine st ?_
 obtain ⟨q_5, h5, hr⟩ := zd hr
 refine st ?_
 refine zj hr rfl qiN (qiS fuel _ _ _) (fun r6 h6 hr => ?_)
 exact fin hr
 refine st ?_
 refine qdH 17 0 (qd 3 rfl ?_)
 obtain ⟨q_7, h7, hr⟩ := zd hr
 refine st ?_
 obtain ⟨q_8, h8, hr⟩ := zd hr
 refine st ?_
 refine zj hr rfl qli (qle fuel _ _ _) (fun r9 h9 hr => ?_)
 refine st ?_
 refine zo 49 rfl hr (fun _ hr => ?_) (fun _ hr => ?_)
 exact fin hr
 refine st ?_
 refine zh 52 rfl hr (fun _ hr => ?_) (fun _ hr => ?_)
 exact fin hr
 refine st ?_
 cases hr
 refine qaw Tryz.func112 _ (.cons (za rfl (Wk.full _)) (.cons (za rfl (Wk.full _)) (.cons (za rfl (Wk.refl _)) .nil))) ?_
 rfl
def qdN (fuel : Nat) (a0 : List (Int × T)) (a1 : At) : Option At :=
 ((qbd fuel a0 a1.ts).bind fun r2 =>
 some ((⟨a1.n, r2⟩ : At)))
theorem qjN (fuel : Nat) (a0 : List (Int × T)) (a1 : At) (res : At) (hr : qdN fuel a0 a1 = some res) : zf Tryz.prog 142 [.lst (a0.map zr), zY a1] (zY res) := by
 unfold qdN at hr
 refine qx Tryz.func142 rfl fun K hK hF => (qai (ze 2 4 (rd rfl (qcG rfl rfl rfl) (ew rfl (qau rfl qfI) ?_))))
 rintro _ _ ⟨b4_0, rfl, rfl⟩
 refine st ?_
 refine qdH 8 16384 (qd 5 rfl ?_)
 refine zj hr rfl qfH (qeE fuel _ _) (fun r2 h2 hr => ?_)
 refine rd rfl (qay rfl qhz (.oc rfl (.oc rfl .nil)) (.cons rfl rfl rfl (.cons rfl rfl rfl (.nil _)))) (qbZ rfl (pf0 _) (qac ?_))
 cases hr
 refine qaw Tryz.func142 _ (.cons (zm rfl (.head _) (by exact qmx) rfl (Wk.refl _)) .nil) ?_
 rfl
def qbF (k : ((List (Int × At))) → Option ((List (Int × At)))) (a1 : List (Int × T)) (fuel : Nat) : List (Int × At) → (List (Int × At)) → Option ((List (Int × At)))
 | [], o4 =>
 (k o4)
 | q_8 :: rest, o4 =>
 ((qdN fuel a1 q_8.2).bind fun r9 =>
 ((zF 48 o4 [(q_8.1, r9)]).bind fun l10 =>
 (qbF k a1 fuel rest l10)))
def qeV (fuel : Nat) (a0 : List (Int × At)) (a1 : List (Int × T)) : Option ((List (Int × At))) :=
 (qbF (fun o7 =>
 some (o7)) a1 fuel a0 [])
theorem qlE (fuel : Nat) (a0 : List (Int × At)) (a1 : List (Int × T)) (a : List (Int × At)) (hr : qeV fuel a0 a1 = some a) : zf Tryz.prog 114 [.lst (a0.map zn), .lst (a1.map zr)] (.lst (a.map zn)) := by
 unfold qeV at hr
 refine qx Tryz.func114 rfl fun K i j => (qai (ze 1 1 (ew rfl (qN 50 3 (.inl rfl)) ?_)))
 rintro _ _ ⟨u4_0, rfl, rfl⟩
 refine st0 ?_
 refine ze 1 1 (ew rfl (qN 50 3 (.inl rfl)) ?_)
 rintro _ _ ⟨u5_1, rfl, rfl⟩
 refine st ?_
 obtain ⟨c, d, hr⟩ := exK (fun k => qbF k a1 fuel a0 []) hr
 refine qct 0 rfl (asl rfl) fun e => ?_
 simp only [jb] at e
 refine qq (fun env σ => ∃ (o7 : List (Int × At)) (u6 : Value), env = [(5, .own u6 (o7.map zn))] ∧ σ = [.row u6 o7.length 50 3] ∧ c o7 = some a) ?_ (fun l => ?_)
 rintro _ _ ⟨o7, u6, rfl, rfl, hr⟩
 rw [d] at hr
 refine st ?_
 cases hr
 refine qaw Tryz.func114 _ (.cons (za rfl (Wk.own _ _)) .nil) ?_
 rfl
 refine qab [0, 1, 5, 6] rfl (qbA [_] _ (pf0 _) (qR (fun n env σ => ∃ (o4 : List (Int × At)) (i5 : Nat) (u3 : Value), n = a0.length - i5 ∧ (env = [(0, .lst (a0.map zn)), (1, .lst (a1.map zr)), (5, .own u3 (o4.map zn)), (6, .int .i64 (i5 : Int))]) ∧ (σ = [.row u3 o4.length 50 3]) ∧ (i5 ≤ a0.length) ∧ (qbF c a1 fuel (a0.drop i5) o4 = some a)) _ ⟨[], 0, u5_1, rfl, rfl, rfl, jc _, hr⟩ ?_))
 rintro n _ _ ⟨o4, i5, u3, rfl, rfl, rfl, g, hr⟩ m
 rcases zb a0 i5 g with ⟨h, b, o⟩ | ⟨q_8, h, b, p, q⟩
 rw [b, qbF] at hr
 exact fin hr
 rw [b, qbF] at hr
 refine st ?_
 refine qy (qdH 17 1073741824 ?_)
 refine st ?_
 refine zj hr rfl qjY (qjN fuel _ _) (fun r9 h9 hr => ?_)
 refine rd rfl (qay rfl qqJ (.oc rfl (.oc rfl .nil)) (.cons rfl rfl rfl (.cons rfl (qeW _) rfl (.nil _)))) (rd rfl (qet (f := zn) [.tmp 26] [(q_8.1, r9)] rfl qeo rfl rfl od od (.oc rfl .nil) qg3 (fun _ => rfl)) ?_)
 obtain ⟨l10, h10, hr⟩ := zd hr
 refine ew rfl (qah (f := zn) o4 [(q_8.1, r9)] rfl qeo rfl rfl (asl rfl) (pf0 _) rfl qg3 h10) ?_
 rintro _ _ ⟨u28_10, rfl, rfl⟩
 exact fin hr
def qbr (k : Option ((List (Int × At)) × Bool)) (a1 : Int) (a0 : List (Int × At)) : List (Int × At) → Nat → Option ((List (Int × At)) × Bool)
 | [], i1 =>
 k
 | q_2 :: rest, i1 =>
 (bif (q_2.1 == a1) then
 ((zZ a0 0 (i1 : Int)).bind fun l5 =>
 ((zF 48 [] l5).bind fun l6 =>
 ((zZ a0 ((i1 + 1 : Nat) : Int) (a0.length : Int)).bind fun l8 =>
 ((zF 48 l6 l8).bind fun l9 =>
 some (l9, true)))))
 else
 (qbr k a1 a0 rest (i1 + 1)))
def qfm (a0 : List (Int × At)) (a1 : Int) : Option ((List (Int × At)) × Bool) :=
 (qbr (some (a0, false)) a1 a0 a0 0)
theorem qkZ (a0 : List (Int × At)) (a1 : Int) (a : (List (Int × At)) × Bool) (hr : qfm a0 a1 = some a) : zf Tryz.prog 148 [.lst (a0.map zn), .int .i64 a1] (.tup [.lst (a.1.map zn), .bool a.2]) := by
 unfold qfm at hr
 refine qx Tryz.func148 rfl fun K i j => ?_
 refine st ?_
 obtain ⟨c, d, hr⟩ := exK (fun k => qbr k a1 a0 a0 0) hr
 refine qct 0 rfl (asl rfl) fun e => ?_
 simp only [jb] at e
 refine qq (fun env σ => env = [(0, .lst (a0.map zn))] ∧ σ = [] ∧ c = some a) ?_ (fun l => ?_)
 rintro _ _ ⟨rfl, rfl, hr⟩
 rw [d] at hr
 exact fin hr
 refine qab [0, 1, 6] rfl (qR (fun n env σ => ∃ (i1 : Nat), n = a0.length - i1 ∧ (env = [(0, .lst (a0.map zn)), (1, .int .i64 a1), (6, .int .i64 (i1 : Int))]) ∧ (σ = []) ∧ (i1 ≤ a0.length) ∧ (qbr c a1 a0 (a0.drop i1) i1 = some a)) _ ⟨0, rfl, rfl, rfl, jc _, hr⟩ ?_)
 rintro n _ _ ⟨i1, rfl, rfl, rfl, g, hr⟩ m
 rcases zb a0 i1 g with ⟨h, b, o⟩ | ⟨q_2, h, b, p, q⟩
 rw [b, qbr] at hr
 exact fin hr
 rw [b, qbr] at hr
 refine st ?_
 refine qy ?_
 refine st ?_
 refine zh 20 rfl hr (fun _ hr => ?_) (fun _ hr => ?_)
 refine st0 ?_
 refine ze 1 1 (ew rfl (qN 50 3 (.inl rfl)) ?_)
 rintro _ _ ⟨u7_3, rfl, rfl⟩
 refine st0 ?_
 refine ze 6 256 (qd 3 rfl ?_)
 obtain ⟨l5, h5, hr⟩ := zd hr
 refine rd rfl (qjy (f := zn) a0 0 (i1 : Int) rfl qeo rfl (asl rfl) qg0 (qg7 rfl) qg3 h5) ?_
 obtain ⟨l6, h6, hr⟩ := zd hr
 refine ew rfl (qah (f := zn) [] l5 rfl qeo rfl rfl (asl rfl) (pf0 _) rfl qg3 h6) ?_
 rintro _ _ ⟨u25_6, rfl, rfl⟩
 refine st0 ?_
 refine ze 8 1024 ?_
 refine st ?_
 obtain ⟨l8, h8, hr⟩ := zd hr
 refine rd rfl (qjy (f := zn) a0 ((i1 + 1 : Nat) : Int) (a0.length : Int) rfl qeo rfl (asl rfl) (qnZ rfl) qnV qg3 h8) ?_
 obtain ⟨l9, h9, hr⟩ := zd hr
 refine ew rfl (qah (f := zn) l6 l8 rfl qeo rfl rfl (asl rfl) (pf0 _) rfl qg3 h9) ?_
 rintro _ _ ⟨u31_9, rfl, rfl⟩
 refine st ?_
 cases hr
 refine qaw Tryz.func148 _ (.cons (za rfl (Wk.own _ _)) (.cons (za rfl (Wk.refl _)) .nil)) ?_
 rfl
 exact fin hr
def qa7 (k : Bool → Option (List qm)) (a1 : List Int) : List Int → Bool → Option (List qm)
 | [], a10 =>
 (k a10)
 | q_17 :: rest, a10 =>
 (bif a10 then
 ((qf3 a1 q_17).bind fun r19 =>
 (qa7 k a1 rest r19))
 else
 (qa7 k a1 rest false))
def qa9 (k : List qm → Option (List qm)) (a1 : List Int) : List qm → List qm → Option (List qm)
 | [], o4 =>
 (k o4)
 | q_8 :: rest, o4 =>
 (qa7 (fun a13 =>
 (bif a13 then
 ((zF 32 o4 [q_8]).bind fun l15 =>
 (qa9 k a1 rest l15))
 else
 (qa9 k a1 rest o4))) a1 q_8.fq true)
def qeM (a0 : List qm) (a1 : List Int) : Option (List qm) :=
 (qa9 (fun o7 =>
 some (o7)) a1 a0 [])
theorem qlL (a0 : List qm) (a1 : List Int) (a : List qm) (hr : qeM a0 a1 = some a) : zf Tryz.prog 149 [.lst (a0.map qf), .lst (a1.map (D.int .i64))] (.lst (a.map qf)) := by
 unfold qeM at hr
 refine qx Tryz.func149 rfl fun K s t => (qai (ze 1 1 (ew rfl (qN 168 2 (.inl rfl)) ?_)))
 rintro _ _ ⟨u4_0, rfl, rfl⟩
 refine st0 ?_
 refine ze 1 1 (ew rfl (qN 168 2 (.inl rfl)) ?_)
 rintro _ _ ⟨u5_1, rfl, rfl⟩
 refine st ?_
 obtain ⟨d, g, hr⟩ := exK (fun k => qa9 k a1 a0 []) hr
 refine qct 0 rfl (asl rfl) fun h => ?_
 simp only [jb] at h
 refine qq (fun env σ => ∃ (o7 : List qm) (u6 : Value), env = [(5, .own u6 (o7.map qf))] ∧ σ = [.row u6 o7.length 168 2] ∧ d o7 = some a) ?_ (fun u => ?_)
 rintro _ _ ⟨o7, u6, rfl, rfl, hr⟩
 rw [g] at hr
 refine st ?_
 cases hr
 refine qaw Tryz.func149 _ (.cons (za rfl (Wk.own _ _)) .nil) ?_
 rfl
 refine qab [0, 1, 5, 6] rfl (qbA [_] _ (pf0 _) (qR (fun n env σ => ∃ (o4 : List qm) (i5 : Nat) (u3 : Value), n = a0.length - i5 ∧ (env = [(0, .lst (a0.map qf)), (1, .lst (a1.map (D.int .i64))), (5, .own u3 (o4.map qf)), (6, .int .i64 (i5 : Int))]) ∧ (σ = [.row u3 o4.length 168 2]) ∧ (i5 ≤ a0.length) ∧ (qa9 d a1 (a0.drop i5) o4 = some a)) _ ⟨[], 0, u5_1, rfl, rfl, rfl, jc _, hr⟩ ?_))
 rintro n _ _ ⟨o4, i5, u3, rfl, rfl, rfl, i, hr⟩ v
 rcases zb a0 i5 i with ⟨j, b, w⟩ | ⟨q_8, j, b, m, x⟩
 rw [b, qa9] at hr
 exact fin hr
 rw [b, qa9] at hr
 refine st ?_
 refine qy ?_
 refine st ?_
 obtain ⟨e, o, hr⟩ := exK (fun k => qa7 k a1 q_8.fq true) hr
 refine qEJ 0 (l := q_8.fq.map (D.int .i64)) rfl (.sub (.el .refl (asl rfl) (jF (qfM m))) [1] rfl) (asl rfl) fun p => ?_
 simp only [jb] at p
 refine qq (fun env σ => ∃ (a13 : Bool) (u12 : Value), env = [(0, .lst (a0.map qf)), (1, .lst (a1.map (D.int .i64))), (5, .own u12 (o4.map qf)), (6, .int .i64 (i5 : Int)), (7, .bool a13)] ∧ σ = [.row u12 o4.length 168 2] ∧ e a13 = some a) ?_ (fun y => ?_)
 rintro _ _ ⟨a13, u12, rfl, rfl, hr⟩
 rw [o] at hr
 refine st ?_
 refine zh 38 rfl hr (fun _ hr => ?_) (fun _ hr => ?_)
 refine qf1 rfl (ze 8 4096 ?_)
 refine st ?_
 refine rd rfl (qet (f := qf) [.tmp 43] [q_8] rfl qfl rfl rfl od od (.oc rfl .nil) qfb (fun _ => rfl)) ?_
 obtain ⟨l15, h15, hr⟩ := zd hr
 refine ew rfl (qah (f := qf) o4 [q_8] rfl qfl rfl rfl (asl rfl) (pf0 _) rfl qfb h15) ?_
 rintro _ _ ⟨u45_15, rfl, rfl⟩
 exact fin hr
 exact fin hr
 refine qab [0, 1, 5, 6, 7, 8] rfl (qR (fun n env σ => ∃ (a10 : Bool) (k11 : Nat) (u9 : Value), n = q_8.fq.length - k11 ∧ (env = [(0, .lst (a0.map qf)), (1, .lst (a1.map (D.int .i64))), (5, .own u9 (o4.map qf)), (6, .int .i64 (i5 : Int)), (7, .bool a10), (8, .int .i64 (k11 : Int))]) ∧ (σ = [.row u9 o4.length 168 2]) ∧ (k11 ≤ q_8.fq.length) ∧ (qa7 e a1 (q_8.fq.drop k11) a10 = some a)) _ ⟨true, 0, u3, rfl, rfl, rfl, jc _, hr⟩ ?_)
 rintro n _ _ ⟨a10, k11, u9, rfl, rfl, rfl, q, hr⟩ z
 rcases zb q_8.fq k11 q with ⟨r, c, A⟩ | ⟨q_17, r, c, B, C⟩
 rw [c, qa7] at hr
 exact fin hr
 rw [c, qa7] at hr
 refine st ?_
 refine qy ?_
 refine st ?_
 refine zo 26 rfl hr (fun _ hr => ?_) (fun _ hr => ?_)
 refine st ?_
 refine zj hr rfl qi6 (qi9 _ _) (fun r19 h19 hr => ?_)
 exact fin hr
 exact fin hr
def qca (k : Int → Option ((List qm) × Int)) (a1 : qm) : List qm → Nat → Option ((List qm) × Int)
 | [], k13 =>
 (k (k13 : Int))
 | q_24 :: rest, k13 =>
 ((qcS q_24 a1).bind fun r25 =>
 (bif (decide (r25 < (0 : Int))) then
 (qca k a1 rest (k13 + 1))
 else
 (k (k13 : Int))))
def qfi (a0 : List qm) (a1 : qm) : Option ((List qm) × Int) :=
 ((qd2 a0).bind fun r2 =>
 (bif (!r2) then
 some ([], 2)
 else
 ((qdU a1).bind fun r5 =>
 (bif (!r5) then
 some ([], 2)
 else
 ((qdJ a0 a1).bind fun r8 =>
 (bif r8 then
 some ([], 8)
 else
 (bif (decide ((a0.length : Int) ≥ (5000 : Int))) then
 some ([], 6)
 else
 (qca (fun k14 =>
 ((zZ a0 0 k14).bind fun l16 =>
 ((zF 32 [] l16).bind fun l17 =>
 ((zF 32 l17 [a1]).bind fun l19 =>
 ((zZ a0 k14 (a0.length : Int)).bind fun l21 =>
 ((zF 32 l19 l21).bind fun l22 =>
 some (l22, 0))))))) a1 a0 0))))))))
theorem qmQ (a0 : List qm) (a1 : qm) (a : (List qm) × Int) (hr : qfi a0 a1 = some a) : zf Tryz.prog 150 [.lst (a0.map qf), qf a1] (.tup [.lst (a.1.map qf), .int .i64 a.2]) := by
 unfold qfi at hr
 refine qx Tryz.func150 rfl fun K i j => (qai (ze 3 4 (rd rfl (qcG rfl rfl rfl) (ew rfl (qN 168 2 (.inl rfl)) ?_))))
 rintro _ _ ⟨u4_0, rfl, rfl⟩
 refine st ?_
 refine qy ?_
 refine st ?_
 refine zj hr rfl qiv (qid _) (fun r2 h2 hr => ?_)
 refine qd 2 rfl ?_
 refine zo 12 rfl hr (fun _ hr => ?_) (fun _ hr => ?_)
 refine st0 ?_
 refine ze 2 1 (ew rfl (qN 168 2 (.inl rfl)) ?_)
 rintro _ _ ⟨u4_3, rfl, rfl⟩
 refine st ?_
 cases hr
 refine qaw Tryz.func150 _ (.cons (za rfl (Wk.own _ _)) (.cons (za rfl (Wk.refl _)) .nil)) ?_
 rfl
 refine qd 1 rfl ?_
 refine zj hr rfl qih (qia _) (fun r5 h5 hr => ?_)
 refine st ?_
 refine zh 8 rfl hr (fun _ hr => ?_) (fun _ hr => ?_)
 refine st0 ?_
 refine ze 2 1 (ew rfl (qN 168 2 (.inl rfl)) ?_)
 rintro _ _ ⟨u4_6, rfl, rfl⟩
 refine st ?_
 cases hr
 refine qaw Tryz.func150 _ (.cons (za rfl (Wk.own _ _)) (.cons (za rfl (Wk.refl _)) .nil)) ?_
 rfl
 refine st ?_
 refine zj hr rfl qi8 (qi2 _ _) (fun r8 h8 hr => ?_)
 refine st ?_
 refine zh 17 rfl hr (fun _ hr => ?_) (fun _ hr => ?_)
 refine st0 ?_
 refine ze 2 1 (ew rfl (qN 168 2 (.inl rfl)) ?_)
 rintro _ _ ⟨u4_9, rfl, rfl⟩
 refine st ?_
 cases hr
 refine qaw Tryz.func150 _ (.cons (za rfl (Wk.own _ _)) (.cons (za rfl (Wk.refl _)) .nil)) ?_
 rfl
 refine st ?_
 refine zh 21 rfl hr (fun _ hr => ?_) (fun _ hr => ?_)
 refine st0 ?_
 refine ze 2 1 (ew rfl (qN 168 2 (.inl rfl)) ?_)
 rintro _ _ ⟨u4_11, rfl, rfl⟩
 refine st ?_
 cases hr
 refine qaw Tryz.func150 _ (.cons (za rfl (Wk.own _ _)) (.cons (za rfl (Wk.refl _)) .nil)) ?_
 rfl
 refine st ?_
 obtain ⟨d, e, hr⟩ := exK (fun k => qca k a1 a0 0) hr
 refine qct 0 rfl (asl rfl) fun g => ?_
 simp only [jb] at g
 refine qq (fun env σ => ∃ (k14 : Int), env = [(0, .lst (a0.map qf)), (3, .ptr (qf a1)), (6, .int .i64 k14)] ∧ σ = [] ∧ d k14 = some a) ?_ (fun l => ?_)
 rintro _ _ ⟨k14, rfl, rfl, hr⟩
 rw [e] at hr
 refine qai (ze 6 257 (ew rfl (qol rfl qfl rfl) ?_))
 rintro _ _ ⟨u40_14, rfl, rfl⟩
 refine qd 2 rfl ?_
 obtain ⟨l16, h16, hr⟩ := zd hr
 refine rd rfl (qjy (f := qf) a0 0 k14 rfl qfl rfl (asl rfl) qg0 (qg7 rfl) qfb h16) ?_
 obtain ⟨l17, h17, hr⟩ := zd hr
 refine ew rfl (qah (f := qf) [] l16 rfl qfl rfl rfl (asl rfl) (pf0 _) rfl qfb h17) ?_
 rintro _ _ ⟨u44_17, rfl, rfl⟩
 refine st0 ?_
 refine ze 5 64 (qd 2 rfl (rd rfl (qet (f := qf) [.tmp 46] [a1] rfl qfl rfl rfl od od (.oc rfl .nil) qfb (fun _ => rfl)) ?_))
 obtain ⟨l19, h19, hr⟩ := zd hr
 refine ew rfl (qah (f := qf) l17 [a1] rfl qfl rfl rfl (asl rfl) (pf0 _) rfl qfb h19) ?_
 rintro _ _ ⟨u48_19, rfl, rfl⟩
 refine st0 ?_
 refine ze 6 256 (qd 3 rfl ?_)
 obtain ⟨l21, h21, hr⟩ := zd hr
 refine rd rfl (qjy (f := qf) a0 k14 (a0.length : Int) rfl qfl rfl (asl rfl) (qnZ rfl) qnV qfb h21) ?_
 obtain ⟨l22, h22, hr⟩ := zd hr
 refine ew rfl (qah (f := qf) l19 l21 rfl qfl rfl rfl (asl rfl) (pf0 _) rfl qfb h22) ?_
 rintro _ _ ⟨u53_22, rfl, rfl⟩
 refine st ?_
 cases hr
 refine qaw Tryz.func150 _ (.cons (za rfl (Wk.own _ _)) (.cons (za rfl (Wk.refl _)) .nil)) ?_
 rfl
 refine qab [0, 3, 6] rfl (qbA [] _ (pf0 _) (qR (fun n env σ => ∃ (k13 : Nat), n = a0.length - k13 ∧ (env = [(0, .lst (a0.map qf)), (3, .ptr (qf a1)), (6, .int .i64 (k13 : Int))]) ∧ (σ = []) ∧ (k13 ≤ a0.length) ∧ (qca d a1 (a0.drop k13) k13 = some a)) _ ⟨0, rfl, rfl, rfl, jc _, hr⟩ ?_))
 rintro n _ _ ⟨k13, rfl, rfl, rfl, h, hr⟩ m
 rcases zb a0 k13 h with ⟨b, c, o⟩ | ⟨q_24, b, c, p, q⟩
 rw [c, qca] at hr
 refine st ?_
 refine qdH 13 0 (qd 2 rfl (qjz rfl (qd 2 rfl (qhh 29 false rfl b ?_))))
 exact fin hr
 rw [c, qca] at hr
 refine st ?_
 refine qdH 13 0 (qd 2 rfl (qjz rfl (qd 2 rfl (qhh 29 true rfl b ?_))))
 refine st ?_
 refine zj hr rfl qge (qgc _ _) (fun r25 h25 hr => ?_)
 refine st ?_
 refine zh 37 rfl hr (fun _ hr => ?_) (fun _ hr => ?_)
 refine st ?_
 refine qy ?_
 exact fin hr
 exact fin hr
def qaL (k : List Gl → Option ((List (Int × At)) × (List qm) × (List Gl) × Int)) (a3 : List (Int × T)) (a4 : Int) (fuel : Nat) : List Gl → List Gl → Option ((List (Int × At)) × (List qm) × (List Gl) × Int)
 | [], b19 =>
 (k b19)
 | q_23 :: rest, b19 =>
 ((qcF fuel a3 a4 q_23).bind fun r24 =>
 ((qjW r24).bind fun r26 =>
 (bif (!r26) then
 some ([], [], [], 6)
 else
 ((zF 48 b19 [r24]).bind fun l29 =>
 (qaL k a3 a4 fuel rest l29)))))
def qeD (k : List qm → Option ((List (Int × At)) × (List qm) × (List Gl) × Int)) (a6 : List Int) (q_2 : qr) (r15 : List qm) (a5 : Int) : Option ((List (Int × At)) × (List qm) × (List Gl) × Int) :=
 ((qa2 q_2).bind fun r31 =>
 (bif r31 then
 ((qfi r15 (⟨a5, a6⟩ : qm)).bind fun r33 =>
 (bif (r33.2 != (0 : Int)) then
 some ([], [], [], 6)
 else
 (k r33.1)))
 else
 (k r15)))
def qbj (k : List Int → Option ((List (Int × At)) × (List qm) × (List Gl) × Int)) : List (Int × At) → List Int → Option ((List (Int × At)) × (List qm) × (List Gl) × Int)
 | [], l11 =>
 (k l11)
 | q_36 :: rest, l11 =>
 ((zF 8 l11 [q_36.1]).bind fun l37 =>
 (qbj k rest l37))
def qbk (k : ((List (Int × At))) → Option ((List (Int × At)) × (List qm) × (List Gl) × Int)) (a6 : List Int) : Nat → (List (Int × At)) → Int → Option ((List (Int × At)) × (List qm) × (List Gl) × Int)
 | 0, l6, i7 =>
 (k l6)
 | rest + 1, l6, i7 =>
 ((zi a6 i7).bind fun q_39 =>
 ((qfm l6 q_39).bind fun r40 =>
 (qbk k a6 rest r40.1 (i7 + 1))))
def qdq (fuel : Nat) (a0 : qc) (a1 : List (Int × At)) (a2 : List qm) (a3 : List (Int × T)) (a4 : Int) (a5 : Int) (a6 : List Int) : Option ((List (Int × At)) × (List qm) × (List Gl) × Int) :=
 ((zi a0.fd a5).bind fun q_2 =>
 (bif (decide ((wr (a4 + q_2.fN)) > (1048576 : Int))) then
 some ([], [], [], 6)
 else
 (qbk (fun l8 =>
 (qbj (fun l14 =>
 ((qeM a2 l14).bind fun r15 =>
 (qeD (fun h16 =>
 (qaL (fun b22 =>
 some (l8, h16, b22, 0)) a3 a4 fuel q_2.fg [])) a6 q_2 r15 a5))) l8 [])) a6 ((a6.length : Int) - (q_2.fi.length : Int) : Int).toNat a1 (q_2.fi.length : Int))))
theorem qkK (fuel : Nat) (a0 : qc) (a1 : List (Int × At)) (a2 : List qm) (a3 : List (Int × T)) (a4 : Int) (a5 : Int) (a6 : List Int) (a : (List (Int × At)) × (List qm) × (List Gl) × Int) (hr : qdq fuel a0 a1 a2 a3 a4 a5 a6 = some a) : zf Tryz.prog 117 [qi a0, .lst (a1.map zn), .lst (a2.map qf), .lst (a3.map zr), .int .i64 a4, .int .i64 a5, .lst (a6.map (D.int .i64))] (.tup [.lst (a.1.map zn), .lst (a.2.1.map qf), .lst (a.2.2.1.map zE), .int .i64 a.2.2.2]) := by
 unfold qdq at hr
 refine qx Tryz.func117 rfl fun K z A => (qai (ze 5 64 (rd rfl (qcG rfl rfl rfl) (qd 2 rfl (ew rfl (qN 55 3 (.inl rfl)) ?_)))))
 rintro _ _ ⟨u16_0, rfl, rfl⟩
 refine st0 ?_
 refine ze 7 5120 (qd 3 rfl ?_)
 obtain ⟨q_2, h2, hr⟩ := zd hr
 refine st ?_
 refine ew rfl (qau rfl qhr) ?_
 rintro _ _ ⟨b18_2, rfl, rfl⟩
 refine qbZ rfl (pf0 _) (qac (qbb 18 b18_2 rfl (pf0 _) ?_))
 refine st ?_
 refine rd rfl (qeg rfl rfl rfl rfl) ?_
 refine st ?_
 refine zh 36 rfl hr (fun _ hr => ?_) (fun _ hr => ?_)
 refine st0 ?_
 refine ze 4 16 (qd 2 rfl (ew rfl (qN 55 3 (.inl rfl)) ?_))
 rintro _ _ ⟨u16_4, rfl, rfl⟩
 refine st ?_
 cases hr
 refine qaw Tryz.func117 _ (.cons (za rfl (Wk.full _)) (.cons (za rfl (Wk.full _)) (.cons (za rfl (Wk.own _ _)) (.cons (za rfl (Wk.refl _)) .nil)))) ?_
 rfl
 refine st ?_
 obtain ⟨e, i, hr⟩ := exK (fun k => qbk k a6 ((a6.length : Int) - (q_2.fi.length : Int) : Int).toNat a1 (q_2.fi.length : Int)) hr
 refine qq (fun env σ => ∃ (l8 : List (Int × At)), env = [(1, .lst (l8.map zn)), (2, .lst (a2.map qf)), (3, .lst (a3.map zr)), (4, .int .i64 a4), (5, .int .i64 a5), (6, .lst (a6.map (D.int .i64))), (18, .ptr (ql q_2))] ∧ σ = [] ∧ e l8 = some a) ?_ (fun B => ?_)
 rintro _ _ ⟨l8, rfl, rfl, hr⟩
 rw [i] at hr
 refine qai (ze 1 1 (ew rfl (qN 3 1 (.inl rfl)) ?_))
 rintro _ _ ⟨u20_8, rfl, rfl⟩
 refine st ?_
 obtain ⟨g, j, hr⟩ := exK (fun k => qbj k l8 []) hr
 refine qct 1 rfl (asl rfl) fun m => ?_
 simp only [jb] at m
 refine qq (fun env σ => ∃ (l14 : List Int) (u13 : Value), env = [(1, .lst (l8.map zn)), (2, .lst (a2.map qf)), (3, .lst (a3.map zr)), (4, .int .i64 a4), (5, .int .i64 a5), (6, .lst (a6.map (D.int .i64))), (18, .ptr (ql q_2)), (20, .own u13 (l14.map (D.int .i64)))] ∧ σ = [.row u13 l14.length 3 1] ∧ g l14 = some a) ?_ (fun C => ?_)
 rintro _ _ ⟨l14, u13, rfl, rfl, hr⟩
 rw [j] at hr
 refine st ?_
 obtain ⟨r15, h15, hr⟩ := zd hr
 refine rd rfl (qhg rfl qlC (.oc rfl (.cons rfl (Wk.own _ _) .nil)) (qlL _ _ _ h15)) (qd 1 rfl (qac ?_))
 obtain ⟨kkJ0, hkkJ0, hr⟩ := exK (fun k => qeD k a6 q_2 r15 a5) hr
 refine qqs (fun env σ => ∃ (h16 : List qm), env = [(1, .lst (l8.map zn)), (2, .lst (h16.map qf)), (3, .lst (a3.map zr)), (4, .int .i64 a4), (18, .ptr (ql q_2))] ∧ σ = [] ∧ kkJ0 h16 = some a) ?_ (fun HKJ0 => ?_)
 rintro _ _ ⟨h16, rfl, rfl, hr⟩
 rw [hkkJ0] at hr
 refine qai (ze 1 1 (ew rfl (qN 55 3 (.inl rfl)) ?_))
 rintro _ _ ⟨u24_16, rfl, rfl⟩
 refine st ?_
 obtain ⟨h, o, hr⟩ := exK (fun k => qaL k a3 a4 fuel q_2.fg []) hr
 refine qqZ 18 [4] (l := q_2.fg.map zE) rfl rfl (asl rfl) fun p => ?_
 simp only [jb] at p
 refine qq (fun env σ => ∃ (b22 : List Gl) (u21 : Value), env = [(1, .lst (l8.map zn)), (2, .lst (h16.map qf)), (24, .own u21 (b22.map zE))] ∧ σ = [.row u21 b22.length 55 3] ∧ h b22 = some a) ?_ (fun E => ?_)
 rintro _ _ ⟨b22, u21, rfl, rfl, hr⟩
 rw [o] at hr
 refine st ?_
 cases hr
 refine qaw Tryz.func117 _ (.cons (za rfl (Wk.refl _)) (.cons (za rfl (Wk.refl _)) (.cons (za rfl (Wk.own _ _)) (.cons (za rfl (Wk.refl _)) .nil)))) ?_
 rfl
 refine qab [1, 2, 3, 4, 18, 24, 25] rfl (qR (fun n env σ => ∃ (b19 : List Gl) (i20 : Nat) (u18 : Value), n = q_2.fg.length - i20 ∧ (env = [(1, .lst (l8.map zn)), (2, .lst (h16.map qf)), (3, .lst (a3.map zr)), (4, .int .i64 a4), (18, .ptr (ql q_2)), (24, .own u18 (b19.map zE)), (25, .int .i64 (i20 : Int))]) ∧ (σ = [.row u18 b19.length 55 3]) ∧ (i20 ≤ q_2.fg.length) ∧ (qaL h a3 a4 fuel (q_2.fg.drop i20) b19 = some a)) _ ⟨[], 0, u24_16, rfl, rfl, rfl, jc _, hr⟩ ?_)
 rintro n _ _ ⟨b19, i20, u18, rfl, rfl, rfl, q, hr⟩ F
 rcases zb q_2.fg i20 q with ⟨s, b, G⟩ | ⟨q_23, s, b, H, I⟩
 rw [b, qaL] at hr
 exact fin hr
 rw [b, qaL] at hr
 refine st ?_
 refine qy (qai (ze 10 327680 ?_))
 refine st ?_
 refine zj hr rfl qgI (qgE fuel _ _ _) (fun r24 h24 hr => ?_)
 refine ew rfl (qau rfl qjh) ?_
 rintro _ _ ⟨b26_24, rfl, rfl⟩
 refine qbZ rfl (pf0 _) (qac (qbb 26 b26_24 rfl (pf0 _) ?_))
 refine st ?_
 obtain ⟨r26, h26, hr⟩ := zd hr
 refine qdY rfl qcz (qcy _ _ h26) ?_
 refine st ?_
 refine zh 102 rfl hr (fun _ hr => ?_) (fun _ hr => ?_)
 refine st0 ?_
 refine ze 4 16 (qd 2 rfl (ew rfl (qN 55 3 (.inl rfl)) ?_))
 rintro _ _ ⟨u16_27, rfl, rfl⟩
 refine st ?_
 cases hr
 refine qaw Tryz.func117 _ (.cons (za rfl (Wk.full _)) (.cons (za rfl (Wk.full _)) (.cons (za rfl (Wk.own _ _)) (.cons (za rfl (Wk.refl _)) .nil)))) ?_
 rfl
 refine st0 ?_
 refine ze 5 64 (qd 2 rfl (rd rfl (qet (f := zE) [.tmp 104] [r24] rfl qgW rfl rfl od od (.oc rfl .nil) qcW (fun _ => rfl)) ?_))
 obtain ⟨l29, h29, hr⟩ := zd hr
 refine ew rfl (qah (f := zE) b19 [r24] rfl qgW rfl rfl (asl rfl) (pf0 _) rfl qcW h29) ?_
 rintro _ _ ⟨u106_29, rfl, rfl⟩
 exact fin hr
 unfold qeD at hr
 refine st ?_
 refine zj hr rfl qfw (qfy _) (fun r31 h31 hr => ?_)
 refine qac ?_
 refine zh 73 rfl hr (fun _ hr => ?_) (fun _ hr => ?_)
 refine st ?_
 refine rd rfl (qay rfl qq0 (.oc rfl (.oc rfl .nil)) (.cons rfl rfl rfl (.cons rfl rfl rfl (.nil _)))) ?_
 refine zj hr rfl qmZ (qmQ _ _) (fun r33 h33 hr => ?_)
 refine st ?_
 refine zh 83 rfl hr (fun _ hr => ?_) (fun _ hr => ?_)
 refine st0 ?_
 refine ze 4 16 (qd 2 rfl (ew rfl (qN 55 3 (.inl rfl)) ?_))
 rintro _ _ ⟨u16_34, rfl, rfl⟩
 refine st ?_
 cases hr
 refine qaw Tryz.func117 _ (.cons (za rfl (Wk.full _)) (.cons (za rfl (Wk.full _)) (.cons (za rfl (Wk.own _ _)) (.cons (za rfl (Wk.refl _)) .nil)))) ?_
 rfl
 refine qhR rfl (qnH (ze 2 0 (qd 2 rfl (qac (qab [1, 2, 3, 4, 18] rfl (qbA [] _ (pf0 _) ?_))))))
 exact HKJ0 _ _ ⟨r33.1, rfl, rfl, hr⟩
 refine qhR rfl (qnH (qab [1, 2, 3, 4, 18] rfl (qbA [] _ (pf0 _) ?_)))
 exact HKJ0 _ _ ⟨r15, rfl, rfl, hr⟩
 refine qab [1, 2, 3, 4, 5, 6, 18, 20, 21] rfl (qR (fun n env σ => ∃ (l11 : List Int) (i12 : Nat) (u10 : Value), n = l8.length - i12 ∧ (env = [(1, .lst (l8.map zn)), (2, .lst (a2.map qf)), (3, .lst (a3.map zr)), (4, .int .i64 a4), (5, .int .i64 a5), (6, .lst (a6.map (D.int .i64))), (18, .ptr (ql q_2)), (20, .own u10 (l11.map (D.int .i64))), (21, .int .i64 (i12 : Int))]) ∧ (σ = [.row u10 l11.length 3 1]) ∧ (i12 ≤ l8.length) ∧ (qbj g (l8.drop i12) l11 = some a)) _ ⟨[], 0, u20_8, rfl, rfl, rfl, jc _, hr⟩ ?_)
 rintro n _ _ ⟨l11, i12, u10, rfl, rfl, rfl, t, hr⟩ J
 rcases zb l8 i12 t with ⟨u, c, L⟩ | ⟨q_36, u, c, M, N⟩
 rw [c, qbj] at hr
 exact fin hr
 rw [c, qbj] at hr
 refine st ?_
 refine qy (ze 9 16384 ?_)
 refine st ?_
 refine rd rfl (qet (f := (D.int .i64)) [.tmp 66] [q_36.1] rfl qaS rfl rfl od od (.oc rfl .nil) (fun _ => rfl) (fun _ => rfl)) ?_
 obtain ⟨l37, h37, hr⟩ := zd hr
 refine ew rfl (qah (f := (D.int .i64)) l11 [q_36.1] rfl qaS rfl rfl (asl rfl) (pf0 _) rfl (fun _ => rfl) h37) ?_
 rintro _ _ ⟨u68_37, rfl, rfl⟩
 exact fin hr
 refine qab [2, 3, 4, 5, 6, 18, 1, 19] rfl (qbA [] _ (pf0 _) (qR (fun n env σ => ∃ (l6 : List (Int × At)) (i7 : Int) (m0 : Nat), (m0 = n) ∧ (env = [(2, .lst (a2.map qf)), (3, .lst (a3.map zr)), (4, .int .i64 a4), (5, .int .i64 a5), (6, .lst (a6.map (D.int .i64))), (18, .ptr (ql q_2)), (1, .lst (l6.map zn)), (19, .int .i64 i7)]) ∧ (σ = []) ∧ (m0 = ((a6.length : Int) - i7 : Int).toNat) ∧ (qbk e a6 m0 l6 i7 = some a)) _ ⟨a1, (q_2.fi.length : Int), _, rfl, rfl, rfl, rfl, hr⟩ ?_))
 rintro n _ _ ⟨l6, i7, m0, rfl, rfl, rfl, v, hr⟩ w
 refine qou 19 rfl fun O => (qct 6 rfl (asl rfl) fun x => ?_)
 simp only [jb] at x
 rcases zav i7 (a6.length : Int) m0 v with ⟨d, y⟩ | ⟨m0', d, y, hi0', P⟩
 rw [d, qbk] at hr
 exact fin hr
 rw [d, qbk] at hr
 refine st ?_
 refine qy ?_
 refine st ?_
 obtain ⟨q_39, h39, hr⟩ := zd hr
 refine st ?_
 refine zj hr rfl qk4 (qkZ _ _) (fun r40 h40 hr => ?_)
 refine st ?_
 refine rd rfl (zbs (r := i7 + 1) rfl rfl rfl rfl oa) (qd 1 rfl (qac (qab [2, 3, 4, 5, 6, 18, 1, 19] rfl ?_)))
 exact w _ _ _ oa ⟨r40.1, (i7 + 1), _, rfl, rfl, rfl, hi0', hr⟩
def qaO (k : Option ((List (Int × At)) × Int)) (a1 : (Int × At)) : List (Int × At) → Option ((List (Int × At)) × Int)
 | [] =>
 k
 | q_29 :: rest =>
 (bif (q_29.1 == a1.1) then
 some ([], 8)
 else
 (qaO k a1 rest))
def qdd (a0 : List (Int × At)) (a1 : (Int × At)) : Option ((List (Int × At)) × Int) :=
 ((qdj a0).bind fun r2 =>
 (bif (!r2) then
 some ([], 2)
 else
 ((qj0 a1.2).bind fun r5 =>
 (bif (!r5) then
 some ([], 2)
 else
 (bif (decide (a1.1 < (1 : Int))) then
 some ([], 2)
 else
 (qaO ((bif (decide ((a0.length : Int) > (0 : Int))) then
 ((zi a0 (wr ((a0.length : Int) - (1 : Int)))).bind fun q_12 =>
 (bif (decide (a1.1 < q_12.1)) then
 some ([], 2)
 else
 (bif (decide ((a0.length : Int) ≥ (500 : Int))) then
 some ([], 6)
 else
 ((zF 48 [] a0).bind fun l18 =>
 ((zF 48 l18 [a1]).bind fun l20 =>
 some (l20, 0))))))
 else
 (bif (decide ((a0.length : Int) ≥ (500 : Int))) then
 some ([], 6)
 else
 ((zF 48 [] a0).bind fun l25 =>
 ((zF 48 l25 [a1]).bind fun l27 =>
 some (l27, 0)))))) a1 a0))))))
theorem qmU (a0 : List (Int × At)) (a1 : (Int × At)) (a : (List (Int × At)) × Int) (hr : qdd a0 a1 = some a) : zf Tryz.prog 78 [.lst (a0.map zn), zn a1] (.tup [.lst (a.1.map zn), .int .i64 a.2]) := by
 unfold qdd at hr
 refine qx Tryz.func78 rfl fun K i j => (qai (ze 3 4 (rd rfl (qcG rfl rfl rfl) (ew rfl (qN 50 3 (.inl rfl)) ?_))))
 rintro _ _ ⟨u4_0, rfl, rfl⟩
 refine st ?_
 refine zj hr rfl qgM (qgK _) (fun r2 h2 hr => ?_)
 refine qd 2 rfl ?_
 refine zo 11 rfl hr (fun _ hr => ?_) (fun _ hr => ?_)
 refine st0 ?_
 refine ze 2 1 (ew rfl (qN 50 3 (.inl rfl)) ?_)
 rintro _ _ ⟨u4_3, rfl, rfl⟩
 refine st ?_
 cases hr
 refine qaw Tryz.func78 _ (.cons (za rfl (Wk.own _ _)) (.cons (za rfl (Wk.refl _)) .nil)) ?_
 rfl
 refine qd 2 rfl ?_
 obtain ⟨r5, h5, hr⟩ := zd hr
 refine qdY rfl qdK (qdM _ _ h5) (qd 3 rfl ?_)
 refine zo 17 rfl hr (fun _ hr => ?_) (fun _ hr => ?_)
 refine st0 ?_
 refine ze 2 1 (ew rfl (qN 50 3 (.inl rfl)) ?_)
 rintro _ _ ⟨u4_6, rfl, rfl⟩
 refine st ?_
 cases hr
 refine qaw Tryz.func78 _ (.cons (za rfl (Wk.own _ _)) (.cons (za rfl (Wk.refl _)) .nil)) ?_
 rfl
 refine st ?_
 refine zh 21 rfl hr (fun _ hr => ?_) (fun _ hr => ?_)
 refine st0 ?_
 refine ze 2 1 (ew rfl (qN 50 3 (.inl rfl)) ?_)
 rintro _ _ ⟨u4_8, rfl, rfl⟩
 refine st ?_
 cases hr
 refine qaw Tryz.func78 _ (.cons (za rfl (Wk.own _ _)) (.cons (za rfl (Wk.refl _)) .nil)) ?_
 rfl
 refine st ?_
 obtain ⟨c, d, hr⟩ := exK (fun k => qaO k a1 a0) hr
 refine qct 0 rfl (asl rfl) fun e => ?_
 simp only [jb] at e
 refine qq (fun env σ => env = [(0, .lst (a0.map zn)), (3, .ptr (zn a1))] ∧ σ = [] ∧ c = some a) ?_ (fun l => ?_)
 rintro _ _ ⟨rfl, rfl, hr⟩
 rw [d] at hr
 refine st ?_
 refine qdH 15 0 ?_
 refine st ?_
 refine zo 39 rfl hr (fun _ hr => ?_) (fun _ hr => ?_)
 refine st ?_
 refine rd rfl (qeg rfl rfl rfl rfl) ?_
 obtain ⟨q_12, h12, hr⟩ := zd hr
 refine st ?_
 refine zh 50 rfl hr (fun _ hr => ?_) (fun _ hr => ?_)
 refine st0 ?_
 refine ze 2 1 (ew rfl (qN 50 3 (.inl rfl)) ?_)
 rintro _ _ ⟨u4_13, rfl, rfl⟩
 refine st ?_
 cases hr
 refine qaw Tryz.func78 _ (.cons (za rfl (Wk.own _ _)) (.cons (za rfl (Wk.refl _)) .nil)) ?_
 rfl
 refine st ?_
 refine zh 53 rfl hr (fun _ hr => ?_) (fun _ hr => ?_)
 refine st0 ?_
 refine ze 2 1 (ew rfl (qN 50 3 (.inl rfl)) ?_)
 rintro _ _ ⟨u4_15, rfl, rfl⟩
 refine st ?_
 cases hr
 refine qaw Tryz.func78 _ (.cons (za rfl (Wk.own _ _)) (.cons (za rfl (Wk.refl _)) .nil)) ?_
 rfl
 refine st0 ?_
 refine ze 1 1 (ew rfl (qN 50 3 (.inl rfl)) ?_)
 rintro _ _ ⟨u7_16, rfl, rfl⟩
 refine st0 ?_
 refine ze 4 16 (qd 2 rfl ?_)
 obtain ⟨l18, h18, hr⟩ := zd hr
 refine ew rfl (qah (f := zn) [] a0 rfl qeo rfl rfl (asl rfl) (pf0 _) rfl qg3 h18) ?_
 rintro _ _ ⟨u56_18, rfl, rfl⟩
 refine st0 ?_
 refine ze 6 64 (qd 2 rfl (rd rfl (qet (f := zn) [.tmp 58] [a1] rfl qeo rfl rfl od od (.oc rfl .nil) qg3 (fun _ => rfl)) ?_))
 obtain ⟨l20, h20, hr⟩ := zd hr
 refine ew rfl (qah (f := zn) l18 [a1] rfl qeo rfl rfl (asl rfl) (pf0 _) rfl qg3 h20) ?_
 rintro _ _ ⟨u60_20, rfl, rfl⟩
 refine st ?_
 cases hr
 refine qaw Tryz.func78 _ (.cons (za rfl (Wk.own _ _)) (.cons (za rfl (Wk.refl _)) .nil)) ?_
 rfl
 refine st ?_
 refine zh 53 rfl hr (fun _ hr => ?_) (fun _ hr => ?_)
 refine st0 ?_
 refine ze 2 1 (ew rfl (qN 50 3 (.inl rfl)) ?_)
 rintro _ _ ⟨u4_22, rfl, rfl⟩
 refine st ?_
 cases hr
 refine qaw Tryz.func78 _ (.cons (za rfl (Wk.own _ _)) (.cons (za rfl (Wk.refl _)) .nil)) ?_
 rfl
 refine st0 ?_
 refine ze 1 1 (ew rfl (qN 50 3 (.inl rfl)) ?_)
 rintro _ _ ⟨u7_23, rfl, rfl⟩
 refine st0 ?_
 refine ze 4 16 (qd 2 rfl ?_)
 obtain ⟨l25, h25, hr⟩ := zd hr
 refine ew rfl (qah (f := zn) [] a0 rfl qeo rfl rfl (asl rfl) (pf0 _) rfl qg3 h25) ?_
 rintro _ _ ⟨u56_25, rfl, rfl⟩
 refine st0 ?_
 refine ze 6 64 (qd 2 rfl (rd rfl (qet (f := zn) [.tmp 58] [a1] rfl qeo rfl rfl od od (.oc rfl .nil) qg3 (fun _ => rfl)) ?_))
 obtain ⟨l27, h27, hr⟩ := zd hr
 refine ew rfl (qah (f := zn) l25 [a1] rfl qeo rfl rfl (asl rfl) (pf0 _) rfl qg3 h27) ?_
 rintro _ _ ⟨u60_27, rfl, rfl⟩
 refine st ?_
 cases hr
 refine qaw Tryz.func78 _ (.cons (za rfl (Wk.own _ _)) (.cons (za rfl (Wk.refl _)) .nil)) ?_
 rfl
 refine qab [0, 3, 6] rfl (qbA [] _ (pf0 _) (qR (fun n env σ => ∃ (i10 : Nat), n = a0.length - i10 ∧ (env = [(0, .lst (a0.map zn)), (3, .ptr (zn a1)), (6, .int .i64 (i10 : Int))]) ∧ (σ = []) ∧ (i10 ≤ a0.length) ∧ (qaO c a1 (a0.drop i10) = some a)) _ ⟨0, rfl, rfl, rfl, jc _, hr⟩ ?_))
 rintro n _ _ ⟨i10, rfl, rfl, rfl, g, hr⟩ m
 rcases zb a0 i10 g with ⟨h, b, o⟩ | ⟨q_29, h, b, p, q⟩
 rw [b, qaO] at hr
 exact fin hr
 rw [b, qaO] at hr
 refine st ?_
 refine qy (qai (qdH 8 0 ?_))
 refine st ?_
 refine zh 35 rfl hr (fun _ hr => ?_) (fun _ hr => ?_)
 refine st0 ?_
 refine ze 2 1 (ew rfl (qN 50 3 (.inl rfl)) ?_)
 rintro _ _ ⟨u4_30, rfl, rfl⟩
 refine st ?_
 cases hr
 refine qaw Tryz.func78 _ (.cons (za rfl (Wk.own _ _)) (.cons (za rfl (Wk.refl _)) .nil)) ?_
 rfl
 exact fin hr
end
end Go.Proofs.YtamoolpdganckaaGreat
