/-
 Texts of the seat, merged.
-/
import Derived.Test.YtlfcjfiecoapoaaGreatLRF
set_option linter.unusedVariables false
set_option linter.unusedSimpArgs false
set_option linter.unnecessarySimpa false
set_option linter.all false
set_option maxHeartbeats 8000000
namespace Go.Proofs.YtlfcjfiecoapoaaGreat
noncomputable section
set_option maxRecDepth 100000
open Go.RowKit
structure qbG where
 f0_Name : ByteArray
 f1_Arity : Int
def qaf (x : qbG) : D := .agg [.str x.f0_Name, .int .i64 x.f1_Arity]
theorem qhW (x : qbG) : sz (qaf x) = 2 := by
 simp only [qaf, sz, szs]
structure qD where
 f0_Name : ByteArray
 f1_Keep : (List At)
 f2_Remove : (List At)
 f3_Guard : (List Gl)
 f4_Body : (List Gl)
 f5_Vars : Int
def qp (x : qD) : D := .agg [.str x.f0_Name, .lst (x.f1_Keep.map zX), .lst (x.f2_Remove.map zX), .lst (x.f3_Guard.map zA), .lst (x.f4_Body.map zA), .int .i64 x.f5_Vars]
theorem qhX (x : qD) : sz (qp x) = 6 := by
 simp only [qp, sz, szs]
structure qn where
 f0_Decls : (List qbG)
 f1_Rules : (List qD)
def ql (x : qn) : D := .agg [.lst (x.f0_Decls.map qaf), .lst (x.f1_Rules.map qp)]
theorem qix (x : qn) : sz (ql x) = 2 := by
 simp only [ql, sz, szs]
structure qq where
 f0_Rule : Int
 f1_IDs : (List Int)
def qh (x : qq) : D := .agg [.int .i64 x.f0_Rule, .lst (x.f1_IDs.map (D.int .i64))]
theorem qeq (x : qq) : sz (qh x) = 2 := by
 simp only [qh, sz, szs]
structure qw where
 f0_Goals : (List Gl)
 f1_Store : (List (Int × At))
 f2_Binds : (List (Int × T))
 f3_Fired : (List qq)
 f4_Known : (List Gl)
 f5_Next : Int
 f6_Fresh : Int
 f7_Failed : Bool
def qJ (x : qw) : D := .agg [.lst (x.f0_Goals.map zA), .lst (x.f1_Store.map zr), .lst (x.f2_Binds.map zo), .lst (x.f3_Fired.map qh), .lst (x.f4_Known.map zA), .int .i64 x.f5_Next, .int .i64 x.f6_Fresh, .bool x.f7_Failed]
theorem qg3 (x : qw) : sz (qJ x) = 8 := by
 simp only [qJ, sz, szs]
structure qE where
 f0_Kind : Int
 f1_Goal : Int
 f2_Rule : Int
 f3_IDs : (List Int)
def qaL (x : qE) : D := .agg [.int .i64 x.f0_Kind, .int .i64 x.f1_Goal, .int .i64 x.f2_Rule, .lst (x.f3_IDs.map (D.int .i64))]
theorem qe1 (x : qE) : sz (qaL x) = 4 := by
 simp only [qaL, sz, szs]
def qan (k : Option Bool) (a2 : Int) (a1 : ByteArray) : List qbG → Option Bool
 | [] =>
 k
 | q_2 :: rest =>
 (bif (q_2.f0_Name.toList == a1.toList) then
 (bif (q_2.f1_Arity == a2) then
 some (true)
 else
 (qan k a2 a1 rest))
 else
 (qan k a2 a1 rest))
def qcn (a0 : List qbG) (a1 : ByteArray) (a2 : Int) : Option Bool :=
 (qan (some (false)) a2 a1 a0)
theorem qej (a0 : List qbG) (a1 : ByteArray) (a2 : Int) (res : Bool) (hr : qcn a0 a1 a2 = some res) : zf Tryz.prog 42 [.lst (a0.map qaf), .str a1, .int .i64 a2] (.bool res) := by
 unfold qcn at hr
 refine qY Tryz.func42 rfl fun K hK => (qf 5 rfl ?_)
 obtain ⟨kk0, hkk0, hr⟩ := exK (fun k => qan k a2 a1 a0) hr
 refine qcq 0 rfl (asl rfl) fun hla0 => ?_
 simp only [jb] at hla0
 refine qx (fun env σ => env = [] ∧ σ = [] ∧ kk0 = some res) ?_ (fun HK0 => ?_)
 ·
  rintro _ _ ⟨rfl, rfl, hr⟩
  rw [hkk0] at hr
  refine qf 2 rfl ?_
  cases hr
  refine qu Tryz.func42 rfl ?_
  rfl
 ·
  refine qm [0, 1, 2, 7] rfl (q9 (fun n env σ => ∃ (i1 : Nat), (n = a0.length - i1) ∧ (env = [(0, .lst (a0.map qaf)), (1, .str a1), (2, .int .i64 a2), (7, .int .i64 (i1 : Int))]) ∧ (σ = []) ∧ (i1 ≤ a0.length) ∧ (qan kk0 a2 a1 (a0.drop i1) = some res)) _ ⟨0, rfl, rfl, rfl, jc _, hr⟩ ?_)
  rintro n _ _ ⟨i1, rfl, rfl, rfl, hi0, hr⟩ IH0
  rcases zb a0 i1 hi0 with ⟨ht0, hd0, he0⟩ | ⟨q_2, ht0, hd0, hq0, hlt0⟩
  ·
   rw [hd0, qan] at hr
   refine qe (qe (qg 4 (qa 2 rfl (qz rfl (qa 1 rfl (qb (qk 11 false rfl ht0 (qA rfl (qQ rfl (qm [] rfl ?_))))))))))
   exact HK0 _ _ ⟨rfl, rfl, hr⟩
  ·
   rw [hd0, qan] at hr
   refine qe (qe (qg 4 (qa 2 rfl (qz rfl (qa 1 rfl (qb (qk 11 true rfl ht0 (qf 5 rfl (qg 16 (qa 2 rfl (qN hq0 rfl (qa 3 rfl (rd rfl (qgv rfl rfl rfl rfl) ?_)))))))))))))
   refine qa 1 rfl ?_
   refine zq 21 rfl hr (fun h21_2 hr => ?_) (fun h21_2 hr => ?_)
   ·
    refine qa 2 rfl (qN hq0 rfl (qa 5 rfl (qb ?_)))
    refine zh 29 rfl hr (fun h29_3 hr => ?_) (fun h29_3 hr => ?_)
    ·
     refine qf 3 rfl ?_
     cases hr
     refine qu Tryz.func42 rfl ?_
     rfl
    ·
     refine qf 3 rfl (qg 3 (qa 1 rfl (qaj rfl (qa 1 rfl (qb (qm [0, 1, 2, 7] rfl ?_))))))
     exact IH0 _ _ _ (by omega) ⟨(i1 + 1), rfl, rfl, rfl, (by omega), hr⟩
   ·
    refine qa 8 rfl (qb (qf 3 rfl (qg 3 (qa 1 rfl (qaj rfl (qa 1 rfl (qb (qm [0, 1, 2, 7] rfl ?_))))))))
    exact IH0 _ _ _ (by omega) ⟨(i1 + 1), rfl, rfl, rfl, (by omega), hr⟩
def qct (a0 : qD) : Option (List At) :=
 ((zN 40 [] a0.f1_Keep).bind fun l3 =>
 ((zN 40 l3 a0.f2_Remove).bind fun l5 =>
 some (l5)))
theorem qeV (a0 : qD) (res : List At) (hr : qct a0 = some res) : zf Tryz.prog 76 [qp a0] (.lst (res.map zX)) := by
 unfold qct at hr
 refine qY Tryz.func76 rfl fun K hK => (qe (zg 2 4 (rd rfl (qcK rfl rfl rfl) (ew rfl (qab 73 2 (.inl rfl)) ?_))))
 rintro _ _ ⟨u2_0, rfl, rfl⟩
 refine qb (qe (ga [(1, .d), (2, .d), (4, .d), (5, .d), (0, .w), (3, .w), (6, .w), (7, .d)] (qa 4 rfl (ew rfl (qoA rfl qdX rfl) ?_))))
 rintro _ _ ⟨u3_1, rfl, rfl⟩
 obtain ⟨l3, h3, hr⟩ := za hr
 refine ew rfl (qaK (f := zX) [] a0.f1_Keep rfl qdX rfl rfl (asl rfl) (pf0 _) rfl qhY h3) ?_
 rintro _ _ ⟨u6_3, rfl, rfl⟩
 obtain ⟨l5, h5, hr⟩ := za hr
 refine ew rfl (qaK (f := zX) l3 a0.f2_Remove rfl qdX rfl rfl (asl rfl) (pf0 _) rfl qhY h5) ?_
 rintro _ _ ⟨u9_5, rfl, rfl⟩
 refine qa 1 rfl (qb ?_)
 cases hr
 refine qbQ Tryz.func76 _ (.cons (zd rfl (Wk.own _ _)) .nil) ?_
 rfl
def qcO (a0 : qD) : Option (List Gl) :=
 ((zN 48 [] a0.f3_Guard).bind fun l3 =>
 ((zN 48 l3 a0.f4_Body).bind fun l5 =>
 some (l5)))
theorem qfP (a0 : qD) (res : List Gl) (hr : qcO a0 = some res) : zf Tryz.prog 77 [qp a0] (.lst (res.map zA)) := by
 unfold qcO at hr
 refine qY Tryz.func77 rfl fun K hK => (qe (zg 2 4 (rd rfl (qcK rfl rfl rfl) (ew rfl (qab 41 3 (.inl rfl)) ?_))))
 rintro _ _ ⟨u2_0, rfl, rfl⟩
 refine qb (qe (ga [(1, .d), (2, .d), (4, .d), (5, .d), (0, .w), (3, .w), (6, .w), (7, .d)] (qa 4 rfl (ew rfl (qoA rfl qc3 rfl) ?_))))
 rintro _ _ ⟨u3_1, rfl, rfl⟩
 obtain ⟨l3, h3, hr⟩ := za hr
 refine ew rfl (qaK (f := zA) [] a0.f3_Guard rfl qc3 rfl rfl (asl rfl) (pf0 _) rfl qgW h3) ?_
 rintro _ _ ⟨u6_3, rfl, rfl⟩
 obtain ⟨l5, h5, hr⟩ := za hr
 refine ew rfl (qaK (f := zA) l3 a0.f4_Body rfl qc3 rfl rfl (asl rfl) (pf0 _) rfl qgW h5) ?_
 rintro _ _ ⟨u9_5, rfl, rfl⟩
 refine qa 1 rfl (qb ?_)
 cases hr
 refine qbQ Tryz.func77 _ (.cons (zd rfl (Wk.own _ _)) .nil) ?_
 rfl
def qbK (k : List T → Option (List Int)) : List Gl → List T → Option (List Int)
 | [], l10 =>
 (k l10)
 | q_15 :: rest, l10 =>
 ((zN 56 l10 q_15.ts).bind fun l16 =>
 (qbK k rest l16))
def qbI (k : List T → Option (List Int)) : List At → List T → Option (List Int)
 | [], l4 =>
 (k l4)
 | q_18 :: rest, l4 =>
 ((zN 56 l4 q_18.ts).bind fun l19 =>
 (qbI k rest l19))
def qek (fuel : Nat) (a0 : qD) : Option (List Int) :=
 ((qct a0).bind fun r2 =>
 (qbI (fun l7 =>
 ((qcO a0).bind fun r8 =>
 (qbK (fun l13 =>
 ((qbV fuel l13).bind fun r14 =>
 some (r14))) r8 l7))) r2 []))
theorem qlc (fuel : Nat) (a0 : qD) (res : List Int) (hr : qek fuel a0 = some res) : zf Tryz.prog 78 [qp a0] (.lst (res.map (D.int .i64))) := by
 unfold qek at hr
 refine qY Tryz.func78 rfl fun K hK => (qe (qg 2 (rd rfl (qcK rfl rfl rfl) (qa 1 rfl (qb (qe (zg 1 1 (ew rfl (qab 71 4 (.inl rfl)) ?_))))))))
 rintro _ _ ⟨u3_0, rfl, rfl⟩
 refine qb (qe (qg 3 (qa 1 rfl ?_)))
 obtain ⟨r2, h2, hr⟩ := za hr
 refine qs rfl qeU (qeV _ _ h2) (qa 1 rfl (qb (qf 3 rfl ?_)))
 obtain ⟨kk0, hkk0, hr⟩ := exK (fun k => qbI k r2 []) hr
 refine qcq 9 rfl (asl rfl) fun hla0 => ?_
 simp only [jb] at hla0
 refine qx (fun env σ => ∃ (l7 : List T) (u6 : Value), env = [(1, .ptr (qp a0)), (3, .own u6 (l7.map zi))] ∧ σ = [.row u6 l7.length 71 4] ∧ kk0 l7 = some res) ?_ (fun HK0 => ?_)
 ·
  rintro _ _ ⟨l7, u6, rfl, rfl, hr⟩
  rw [hkk0] at hr
  refine qe (qg 3 (qa 1 rfl ?_))
  obtain ⟨r8, h8, hr⟩ := za hr
  refine qs rfl qfH (qfP _ _ h8) (qa 1 rfl (qb (qf 3 rfl ?_)))
  obtain ⟨kk1, hkk1, hr⟩ := exK (fun k => qbK k r8 l7) hr
  refine qcq 24 rfl (asl rfl) fun hla1 => ?_
  simp only [jb] at hla1
  refine qx (fun env σ => ∃ (l13 : List T) (u12 : Value), env = [(3, .own u12 (l13.map zi))] ∧ σ = [.row u12 l13.length 71 4] ∧ kk1 l13 = some res) ?_ (fun HK1 => ?_)
  ·
   rintro _ _ ⟨l13, u12, rfl, rfl, hr⟩
   rw [hkk1] at hr
   refine qe (qg 3 (qa 1 rfl ?_))
   obtain ⟨r14, h14, hr⟩ := za hr
   refine rd rfl (qhd rfl qeE (.cons rfl (Wk.own _ _) .nil) (qeI fuel _ _ h14)) (qa 1 rfl (qb ?_))
   cases hr
   refine qu Tryz.func78 rfl ?_
   rfl
  ·
   refine qm [6, 3, 7] rfl (q9 (fun n env σ => ∃ (l10 : List T) (i11 : Nat) (u9 : Value), (n = r8.length - i11) ∧ (env = [(6, .lst (r8.map zA)), (3, .own u9 (l10.map zi)), (7, .int .i64 (i11 : Int))]) ∧ (σ = [.row u9 l10.length 71 4]) ∧ (i11 ≤ r8.length) ∧ (qbK kk1 (r8.drop i11) l10 = some res)) _ ⟨l7, 0, u6, rfl, rfl, rfl, jc _, hr⟩ ?_)
   rintro n _ _ ⟨l10, i11, u9, rfl, rfl, rfl, hi1, hr⟩ IH1
   rcases zb r8 i11 hi1 with ⟨ht1, hd1, he1⟩ | ⟨q_15, ht1, hd1, hq1, hlt1⟩
   ·
    rw [hd1, qbK] at hr
    refine qe (qe (qg 4 (qa 2 rfl (qz rfl (qa 1 rfl (qb (qk 28 false rfl ht1 (qA rfl (qQ rfl (qm [3] rfl ?_))))))))))
    exact HK1 _ _ ⟨l10, u9, rfl, rfl, hr⟩
   ·
    rw [hd1, qbK] at hr
    refine qe (qe (qg 4 (qa 2 rfl (qz rfl (qa 1 rfl (qb (qk 28 true rfl ht1 (qf 4 rfl (zg 8 4096 (qa 3 rfl (qN hq1 rfl (qa 2 rfl ?_))))))))))))
    obtain ⟨l16, h16, hr⟩ := za hr
    refine ew rfl (qaK (f := zi) l10 q_15.ts rfl qam rfl rfl (asl rfl) (pf0 _) rfl qcl h16) ?_
    rintro _ _ ⟨u37_16, rfl, rfl⟩
    refine qa 1 rfl (qb (qaa (qg 3 (qa 1 rfl (qaj rfl (qa 1 rfl (qb (qm [6, 3, 7] rfl ?_))))))))
    exact IH1 _ _ _ (by omega) ⟨l16, (i11 + 1), u37_16, rfl, rfl, rfl, (by omega), hr⟩
 ·
  refine qm [1, 4, 3, 5] rfl (q9 (fun n env σ => ∃ (l4 : List T) (i5 : Nat) (u3 : Value), (n = r2.length - i5) ∧ (env = [(1, .ptr (qp a0)), (4, .lst (r2.map zX)), (3, .own u3 (l4.map zi)), (5, .int .i64 (i5 : Int))]) ∧ (σ = [.row u3 l4.length 71 4]) ∧ (i5 ≤ r2.length) ∧ (qbI kk0 (r2.drop i5) l4 = some res)) _ ⟨[], 0, u3_0, rfl, rfl, rfl, jc _, hr⟩ ?_)
  rintro n _ _ ⟨l4, i5, u3, rfl, rfl, rfl, hi0, hr⟩ IH0
  rcases zb r2 i5 hi0 with ⟨ht0, hd0, he0⟩ | ⟨q_18, ht0, hd0, hq0, hlt0⟩
  ·
   rw [hd0, qbI] at hr
   refine qe (qe (qg 4 (qa 2 rfl (qz rfl (qa 1 rfl (qb (qk 13 false rfl ht0 (qA rfl (qQ rfl (qm [1, 3] rfl ?_))))))))))
   exact HK0 _ _ ⟨l4, u3, rfl, rfl, hr⟩
  ·
   rw [hd0, qbI] at hr
   refine qe (qe (qg 4 (qa 2 rfl (qz rfl (qa 1 rfl (qb (qk 13 true rfl ht0 (qf 4 rfl (zg 8 4096 (qa 3 rfl (qN hq0 rfl (qa 2 rfl ?_))))))))))))
   obtain ⟨l19, h19, hr⟩ := za hr
   refine ew rfl (qaK (f := zi) l4 q_18.ts rfl qam rfl rfl (asl rfl) (pf0 _) rfl qcl h19) ?_
   rintro _ _ ⟨u22_19, rfl, rfl⟩
   refine qa 1 rfl (qb (qaa (qg 3 (qa 1 rfl (qaj rfl (qa 1 rfl (qb (qm [1, 4, 3, 5] rfl ?_))))))))
   exact IH0 _ _ _ (by omega) ⟨l19, (i5 + 1), u22_19, rfl, rfl, rfl, (by omega), hr⟩
def qaB (k : Int → Option Int) (a1 : ByteArray) : List qbG → Int → Option Int
 | [], e1 =>
 (k e1)
 | q_6 :: rest, e1 =>
 (bif (q_6.f0_Name.toList == a1.toList) then
 (qaB k a1 rest 9)
 else
 (qaB k a1 rest e1))
def qdO (a0 : List qbG) (a1 : ByteArray) (a2 : Int) : Option Int :=
 (qaB (fun e3 =>
 ((qcn a0 a1 a2).bind fun r4 =>
 (bif r4 then
 some (0)
 else
 some (e3)))) a1 a0 7)
theorem qgL (a0 : List qbG) (a1 : ByteArray) (a2 : Int) (res : Int) (hr : qdO a0 a1 a2 = some res) : zf Tryz.prog 106 [.lst (a0.map qaf), .str a1, .int .i64 a2] (.int .i64 res) := by
 unfold qdO at hr
 refine qY Tryz.func106 rfl fun K hK => (qf 7 rfl ?_)
 obtain ⟨kk0, hkk0, hr⟩ := exK (fun k => qaB k a1 a0 7) hr
 refine qcq 0 rfl (asl rfl) fun hla0 => ?_
 simp only [jb] at hla0
 refine qx (fun env σ => ∃ (e3 : Int), env = [(0, .lst (a0.map qaf)), (1, .str a1), (2, .int .i64 a2), (7, .int .i64 e3)] ∧ σ = [] ∧ kk0 e3 = some res) ?_ (fun HK0 => ?_)
 ·
  rintro _ _ ⟨e3, rfl, rfl, hr⟩
  rw [hkk0] at hr
  refine qe (qe (qg 4 (qa 3 rfl ?_)))
  obtain ⟨r4, h4, hr⟩ := za hr
  refine qs rfl qen (qej _ _ _ _ h4) (qb ?_)
  refine zh 25 rfl hr (fun h25_4 hr => ?_) (fun h25_4 hr => ?_)
  ·
   refine qf 3 rfl ?_
   cases hr
   refine qu Tryz.func106 rfl ?_
   rfl
  ·
   refine qf 4 rfl ?_
   cases hr
   refine qu Tryz.func106 rfl ?_
   rfl
 ·
  refine qm [0, 1, 2, 7, 8] rfl (q9 (fun n env σ => ∃ (e1 : Int) (i2 : Nat), (n = a0.length - i2) ∧ (env = [(0, .lst (a0.map qaf)), (1, .str a1), (2, .int .i64 a2), (7, .int .i64 e1), (8, .int .i64 (i2 : Int))]) ∧ (σ = []) ∧ (i2 ≤ a0.length) ∧ (qaB kk0 a1 (a0.drop i2) e1 = some res)) _ ⟨7, 0, rfl, rfl, rfl, jc _, hr⟩ ?_)
  rintro n _ _ ⟨e1, i2, rfl, rfl, rfl, hi0, hr⟩ IH0
  rcases zb a0 i2 hi0 with ⟨ht0, hd0, he0⟩ | ⟨q_6, ht0, hd0, hq0, hlt0⟩
  ·
   rw [hd0, qaB] at hr
   refine qe (qe (qg 4 (qa 2 rfl (qz rfl (qa 1 rfl (qb (qk 12 false rfl ht0 (qA rfl (qQ rfl (qm [0, 1, 2, 7] rfl ?_))))))))))
   exact HK0 _ _ ⟨e1, rfl, rfl, hr⟩
  ·
   rw [hd0, qaB] at hr
   refine qe (qe (qg 4 (qa 2 rfl (qz rfl (qa 1 rfl (qb (qk 12 true rfl ht0 (qf 5 rfl (qg 7 (qa 2 rfl (qN hq0 rfl (qa 3 rfl (rd rfl (qgv rfl rfl rfl rfl) ?_)))))))))))))
   refine qb ?_
   refine zh 21 rfl hr (fun h21_6 hr => ?_) (fun h21_6 hr => ?_)
   ·
    refine qf 3 rfl (qg 3 (qa 1 rfl (qaj rfl (qa 1 rfl (qb (qm [0, 1, 2, 7, 8] rfl ?_))))))
    exact IH0 _ _ _ (by omega) ⟨9, (i2 + 1), rfl, rfl, rfl, (by omega), hr⟩
   ·
    refine qf 3 rfl (qg 3 (qa 1 rfl (qaj rfl (qa 1 rfl (qb (qm [0, 1, 2, 7, 8] rfl ?_))))))
    exact IH0 _ _ _ (by omega) ⟨e1, (i2 + 1), rfl, rfl, rfl, (by omega), hr⟩
def qaS (k : Option Int) (a0 : List qbG) : List Gl → Option Int
 | [] =>
 k
 | q_2 :: rest =>
 (bif (q_2.op != (0 : Int)) then
 (qaS k a0 rest)
 else
 ((qdO a0 q_2.n (q_2.ts.length : Int)).bind fun r4 =>
 (bif (r4 != (0 : Int)) then
 some (r4)
 else
 (qaS k a0 rest))))
def qfN (a0 : List qbG) (a1 : List Gl) : Option Int :=
 (qaS (some (0)) a0 a1)
theorem qka (a0 : List qbG) (a1 : List Gl) (res : Int) (hr : qfN a0 a1 = some res) : zf Tryz.prog 107 [.lst (a0.map qaf), .lst (a1.map zA)] (.int .i64 res) := by
 unfold qfN at hr
 refine qY Tryz.func107 rfl fun K hK => (qf 5 rfl ?_)
 obtain ⟨kk0, hkk0, hr⟩ := exK (fun k => qaS k a0 a1) hr
 refine qcq 1 rfl (asl rfl) fun hla0 => ?_
 simp only [jb] at hla0
 refine qx (fun env σ => env = [] ∧ σ = [] ∧ kk0 = some res) ?_ (fun HK0 => ?_)
 ·
  rintro _ _ ⟨rfl, rfl, hr⟩
  rw [hkk0] at hr
  refine qf 2 rfl ?_
  cases hr
  refine qu Tryz.func107 rfl ?_
  rfl
 ·
  refine qm [0, 1, 5] rfl (q9 (fun n env σ => ∃ (i1 : Nat), (n = a1.length - i1) ∧ (env = [(0, .lst (a0.map qaf)), (1, .lst (a1.map zA)), (5, .int .i64 (i1 : Int))]) ∧ (σ = []) ∧ (i1 ≤ a1.length) ∧ (qaS kk0 a0 (a1.drop i1) = some res)) _ ⟨0, rfl, rfl, rfl, jc _, hr⟩ ?_)
  rintro n _ _ ⟨i1, rfl, rfl, rfl, hi0, hr⟩ IH0
  rcases zb a1 i1 hi0 with ⟨ht0, hd0, he0⟩ | ⟨q_2, ht0, hd0, hq0, hlt0⟩
  ·
   rw [hd0, qaS] at hr
   refine qe (qe (qg 4 (qa 2 rfl (qz rfl (qa 1 rfl (qb (qk 10 false rfl ht0 (qA rfl (qQ rfl (qm [] rfl ?_))))))))))
   exact HK0 _ _ ⟨rfl, rfl, hr⟩
  ·
   rw [hd0, qaS] at hr
   refine qe (qe (qg 4 (qa 2 rfl (qz rfl (qa 1 rfl (qb (qk 10 true rfl ht0 (qf 6 rfl (qg 6 (qa 2 rfl (qN hq0 rfl (qa 3 rfl (qb ?_)))))))))))))
   refine zh 18 rfl hr (fun h18_2 hr => ?_) (fun h18_2 hr => ?_)
   ·
    refine qO rfl (qQ rfl (qg 3 (qa 1 rfl (qaj rfl (qa 1 rfl (qb (qm [0, 1, 5] rfl ?_)))))))
    exact IH0 _ _ _ (by omega) ⟨(i1 + 1), rfl, rfl, rfl, (by omega), hr⟩
   ·
    refine qf 3 rfl (qei 14 0 (qa 3 rfl (qN hq0 rfl (qa 4 rfl (qN hq0 rfl (qa 2 rfl (qz rfl ?_)))))))
    obtain ⟨r4, h4, hr⟩ := za hr
    refine qs rfl qgT (qgL _ _ _ _ h4) (qa 1 rfl (qb (qf 2 rfl ?_)))
    refine zh 33 rfl hr (fun h33_4 hr => ?_) (fun h33_4 hr => ?_)
    ·
     refine qf 3 rfl ?_
     cases hr
     refine qu Tryz.func107 rfl ?_
     rfl
    ·
     refine qf 3 rfl (qg 3 (qa 1 rfl (qaj rfl (qa 1 rfl (qb (qm [0, 1, 5] rfl ?_))))))
     exact IH0 _ _ _ (by omega) ⟨(i1 + 1), rfl, rfl, rfl, (by omega), hr⟩
def qdF (a0 : Int) : Option Bool :=
 (bif (decide (a0 ≥ (5 : Int))) then
 some ((decide (a0 ≤ (12 : Int))))
 else
 some (false))
theorem qhK (a0 : Int) (res : Bool) (hr : qdF a0 = some res) : zf Tryz.prog 108 [.int .i64 a0] (.bool res) := by
 unfold qdF at hr
 refine qY Tryz.func108 rfl fun K hK => (qf 3 rfl (qg 7 (qa 3 rfl ?_)))
 refine zq 5 rfl hr (fun h5_0 hr => ?_) (fun h5_0 hr => ?_)
 ·
  refine qa 4 rfl (qb ?_)
  cases hr
  refine qu Tryz.func108 rfl ?_
  rfl
 ·
  refine qa 4 rfl (qb ?_)
  cases hr
  refine qu Tryz.func108 rfl ?_
  rfl
def qaO (k : List T → Option (List Int)) : List At → List T → Option (List Int)
 | [], l4 =>
 (k l4)
 | q_9 :: rest, l4 =>
 ((zN 56 l4 q_9.ts).bind fun l10 =>
 (qaO k rest l10))
def qdB (fuel : Nat) (a0 : qD) : Option (List Int) :=
 ((qct a0).bind fun r2 =>
 (qaO (fun l7 =>
 ((qbV fuel l7).bind fun r8 =>
 some (r8))) r2 []))
theorem qiU (fuel : Nat) (a0 : qD) (res : List Int) (hr : qdB fuel a0 = some res) : zf Tryz.prog 109 [qp a0] (.lst (res.map (D.int .i64))) := by
 unfold qdB at hr
 refine qY Tryz.func109 rfl fun K hK => (qe (qg 2 (rd rfl (qcK rfl rfl rfl) (qa 1 rfl (qb (qe (zg 1 1 (ew rfl (qab 71 4 (.inl rfl)) ?_))))))))
 rintro _ _ ⟨u3_0, rfl, rfl⟩
 refine qb (qe (qg 3 (qa 1 rfl ?_)))
 obtain ⟨r2, h2, hr⟩ := za hr
 refine qs rfl qeU (qeV _ _ h2) (qa 1 rfl (qb (qf 3 rfl ?_)))
 obtain ⟨kk0, hkk0, hr⟩ := exK (fun k => qaO k r2 []) hr
 refine qcq 7 rfl (asl rfl) fun hla0 => ?_
 simp only [jb] at hla0
 refine qx (fun env σ => ∃ (l7 : List T) (u6 : Value), env = [(3, .own u6 (l7.map zi))] ∧ σ = [.row u6 l7.length 71 4] ∧ kk0 l7 = some res) ?_ (fun HK0 => ?_)
 ·
  rintro _ _ ⟨l7, u6, rfl, rfl, hr⟩
  rw [hkk0] at hr
  refine qe (qg 3 (qa 1 rfl ?_))
  obtain ⟨r8, h8, hr⟩ := za hr
  refine rd rfl (qhd rfl qeE (.cons rfl (Wk.own _ _) .nil) (qeI fuel _ _ h8)) (qa 1 rfl (qb ?_))
  cases hr
  refine qu Tryz.func109 rfl ?_
  rfl
 ·
  refine qm [4, 3, 5] rfl (q9 (fun n env σ => ∃ (l4 : List T) (i5 : Nat) (u3 : Value), (n = r2.length - i5) ∧ (env = [(4, .lst (r2.map zX)), (3, .own u3 (l4.map zi)), (5, .int .i64 (i5 : Int))]) ∧ (σ = [.row u3 l4.length 71 4]) ∧ (i5 ≤ r2.length) ∧ (qaO kk0 (r2.drop i5) l4 = some res)) _ ⟨[], 0, u3_0, rfl, rfl, rfl, jc _, hr⟩ ?_)
  rintro n _ _ ⟨l4, i5, u3, rfl, rfl, rfl, hi0, hr⟩ IH0
  rcases zb r2 i5 hi0 with ⟨ht0, hd0, he0⟩ | ⟨q_9, ht0, hd0, hq0, hlt0⟩
  ·
   rw [hd0, qaO] at hr
   refine qe (qe (qg 4 (qa 2 rfl (qz rfl (qa 1 rfl (qb (qk 11 false rfl ht0 (qA rfl (qQ rfl (qm [3] rfl ?_))))))))))
   exact HK0 _ _ ⟨l4, u3, rfl, rfl, hr⟩
  ·
   rw [hd0, qaO] at hr
   refine qe (qe (qg 4 (qa 2 rfl (qz rfl (qa 1 rfl (qb (qk 11 true rfl ht0 (qf 4 rfl (zg 8 4096 (qa 3 rfl (qN hq0 rfl (qa 2 rfl ?_))))))))))))
   obtain ⟨l10, h10, hr⟩ := za hr
   refine ew rfl (qaK (f := zi) l4 q_9.ts rfl qam rfl rfl (asl rfl) (pf0 _) rfl qcl h10) ?_
   rintro _ _ ⟨u20_10, rfl, rfl⟩
   refine qa 1 rfl (qb (qaa (qg 3 (qa 1 rfl (qaj rfl (qa 1 rfl (qb (qm [4, 3, 5] rfl ?_))))))))
   exact IH0 _ _ _ (by omega) ⟨l10, (i5 + 1), u20_10, rfl, rfl, rfl, (by omega), hr⟩
def qcR (fuel : Nat) (a0 : Gl) : Option (List Int) :=
 ((qbV fuel a0.ts).bind fun r1 =>
 some (r1))
theorem qgx (fuel : Nat) (a0 : Gl) (res : List Int) (hr : qcR fuel a0 = some res) : zf Tryz.prog 53 [zA a0] (.lst (res.map (D.int .i64))) := by
 unfold qcR at hr
 refine qY Tryz.func53 rfl fun K hK => (qe (qg 2 (rd rfl (qcK rfl rfl rfl) (qa 1 rfl (qb (qe (qg 4 (qa 2 rfl ?_))))))))
 obtain ⟨r1, h1, hr⟩ := za hr
 refine qs rfl qeE (qeI fuel _ _ h1) (qa 1 rfl (qb ?_))
 cases hr
 refine qu Tryz.func53 rfl ?_
 rfl
def qb9 (k : Option Bool) (a1 : Int) : List Int → Option Bool
 | [] =>
 k
 | q_2 :: rest =>
 (bif (q_2 == a1) then
 some (true)
 else
 (qb9 k a1 rest))
def qgw (a0 : List Int) (a1 : Int) : Option Bool :=
 (qb9 (some (false)) a1 a0)
theorem qlz (a0 : List Int) (a1 : Int) (res : Bool) (hr : qgw a0 a1 = some res) : zf Tryz.prog 110 [.lst (a0.map (D.int .i64)), .int .i64 a1] (.bool res) := by
 unfold qgw at hr
 refine qY Tryz.func110 rfl fun K hK => (qf 5 rfl ?_)
 obtain ⟨kk0, hkk0, hr⟩ := exK (fun k => qb9 k a1 a0) hr
 refine qcq 0 rfl (asl rfl) fun hla0 => ?_
 simp only [jb] at hla0
 refine qx (fun env σ => env = [] ∧ σ = [] ∧ kk0 = some res) ?_ (fun HK0 => ?_)
 ·
  rintro _ _ ⟨rfl, rfl, hr⟩
  rw [hkk0] at hr
  refine qf 2 rfl ?_
  cases hr
  refine qu Tryz.func110 rfl ?_
  rfl
 ·
  refine qm [0, 1, 5] rfl (q9 (fun n env σ => ∃ (i1 : Nat), (n = a0.length - i1) ∧ (env = [(0, .lst (a0.map (D.int .i64))), (1, .int .i64 a1), (5, .int .i64 (i1 : Int))]) ∧ (σ = []) ∧ (i1 ≤ a0.length) ∧ (qb9 kk0 a1 (a0.drop i1) = some res)) _ ⟨0, rfl, rfl, rfl, jc _, hr⟩ ?_)
  rintro n _ _ ⟨i1, rfl, rfl, rfl, hi0, hr⟩ IH0
  rcases zb a0 i1 hi0 with ⟨ht0, hd0, he0⟩ | ⟨q_2, ht0, hd0, hq0, hlt0⟩
  ·
   rw [hd0, qb9] at hr
   refine qe (qe (qg 4 (qa 2 rfl (qz rfl (qa 1 rfl (qb (qk 9 false rfl ht0 (qA rfl (qQ rfl (qm [] rfl ?_))))))))))
   exact HK0 _ _ ⟨rfl, rfl, hr⟩
  ·
   rw [hd0, qb9] at hr
   refine qe (qe (qg 4 (qa 2 rfl (qz rfl (qa 1 rfl (qb (qk 9 true rfl ht0 (qf 5 rfl (qg 6 (qa 2 rfl (qN hq0 rfl (qa 3 rfl (qb ?_)))))))))))))
   refine zh 17 rfl hr (fun h17_2 hr => ?_) (fun h17_2 hr => ?_)
   ·
    refine qf 3 rfl ?_
    cases hr
    refine qu Tryz.func110 rfl ?_
    rfl
   ·
    refine qf 3 rfl (qg 3 (qa 1 rfl (qaj rfl (qa 1 rfl (qb (qm [0, 1, 5] rfl ?_))))))
    exact IH0 _ _ _ (by omega) ⟨(i1 + 1), rfl, rfl, rfl, (by omega), hr⟩
def qa8 (k : Option Int) (r8 : List Int) : List Int → Option Int
 | [] =>
 k
 | q_13 :: rest =>
 ((qgw r8 q_13).bind fun r14 =>
 (bif (!r14) then
 some (17)
 else
 (qa8 k r8 rest)))
def qa4 (k : Option Int) (fuel : Nat) (r8 : List Int) : List Gl → Option Int
 | [] =>
 k
 | q_10 :: rest =>
 ((qcR fuel q_10).bind fun r11 =>
 (qa8 ((qa4 k fuel r8 rest)) r8 r11))
def qa7 (k : Option Int) : List Gl → Option Int
 | [] =>
 k
 | q_16 :: rest =>
 ((qdF q_16.op).bind fun r17 =>
 (bif r17 then
 some (10)
 else
 (qa7 k rest)))
def qav (k : Option Int) : List Gl → Option Int
 | [] =>
 k
 | q_19 :: rest =>
 ((qdF q_19.op).bind fun r20 =>
 (bif (!r20) then
 (bif (q_19.op != (1 : Int)) then
 some (10)
 else
 (qav k rest))
 else
 (qav k rest)))
def qa3 (k : Option Int) (a0 : List qbG) : List At → Option Int
 | [] =>
 k
 | q_23 :: rest =>
 ((qdO a0 q_23.n (q_23.ts.length : Int)).bind fun r24 =>
 (bif (r24 != (0 : Int)) then
 some (r24)
 else
 (qa3 k a0 rest)))
def qcZ (fuel : Nat) (a0 : List qbG) (a1 : qD) : Option Int :=
 ((qct a1).bind fun r1 =>
 (qa3 (((qcO a1).bind fun r3 =>
 ((qfN a0 r3).bind fun r4 =>
 (bif (r4 != (0 : Int)) then
 some (r4)
 else
 (qav ((qa7 (((qdB fuel a1).bind fun r8 =>
 (qa4 (some (0)) fuel r8 a1.f3_Guard))) a1.f4_Body)) a1.f3_Guard))))) a0 r1))
theorem qgP (fuel : Nat) (a0 : List qbG) (a1 : qD) (res : Int) (hr : qcZ fuel a0 a1 = some res) : zf Tryz.prog 79 [.lst (a0.map qaf), qp a1] (.int .i64 res) := by
 unfold qcZ at hr
 refine qY Tryz.func79 rfl fun K hK => (qe (qg 2 (rd rfl (qcK rfl rfl rfl) (qa 1 rfl (qb (qe (qg 3 (qa 1 rfl ?_))))))))
 obtain ⟨r1, h1, hr⟩ := za hr
 refine qs rfl qeU (qeV _ _ h1) (qa 1 rfl (qb (qf 3 rfl ?_)))
 obtain ⟨kk0, hkk0, hr⟩ := exK (fun k => qa3 k a0 r1) hr
 refine qcq 16 rfl (asl rfl) fun hla0 => ?_
 simp only [jb] at hla0
 refine qx (fun env σ => env = [(0, .lst (a0.map qaf)), (3, .ptr (qp a1))] ∧ σ = [] ∧ kk0 = some res) ?_ (fun HK0 => ?_)
 ·
  rintro _ _ ⟨rfl, rfl, hr⟩
  rw [hkk0] at hr
  refine qe (qg 5 (qa 2 rfl ?_))
  obtain ⟨r3, h3, hr⟩ := za hr
  refine qs rfl qfH (qfP _ _ h3) ?_
  obtain ⟨r4, h4, hr⟩ := za hr
  refine qs rfl qj3 (qka _ _ _ h4) (qa 1 rfl (qb (qf 3 rfl ?_)))
  refine zh 44 rfl hr (fun h44_4 hr => ?_) (fun h44_4 hr => ?_)
  ·
   refine qf 3 rfl ?_
   cases hr
   refine qu Tryz.func79 rfl ?_
   rfl
  ·
   refine qf 5 rfl ?_
   obtain ⟨kk1, hkk1, hr⟩ := exK (fun k => qav k a1.f3_Guard) hr
   refine ql3 3 [3] (l := a1.f3_Guard.map zA) rfl rfl (asl rfl) fun hla1 => ?_
   simp only [jb] at hla1
   refine qx (fun env σ => env = [(3, .ptr (qp a1))] ∧ σ = [] ∧ kk1 = some res) ?_ (fun HK1 => ?_)
   ·
    rintro _ _ ⟨rfl, rfl, hr⟩
    rw [hkk1] at hr
    refine qf 3 rfl ?_
    obtain ⟨kk2, hkk2, hr⟩ := exK (fun k => qa7 k a1.f4_Body) hr
    refine ql3 3 [4] (l := a1.f4_Body.map zA) rfl rfl (asl rfl) fun hla2 => ?_
    simp only [jb] at hla2
    refine qx (fun env σ => env = [(3, .ptr (qp a1))] ∧ σ = [] ∧ kk2 = some res) ?_ (fun HK2 => ?_)
    ·
     rintro _ _ ⟨rfl, rfl, hr⟩
     rw [hkk2] at hr
     refine qe (qg 3 (qa 1 rfl ?_))
     obtain ⟨r8, h8, hr⟩ := za hr
     refine qs rfl qiW (qiU fuel _ _ h8) (qa 1 rfl (qb (qf 3 rfl ?_)))
     obtain ⟨kk3, hkk3, hr⟩ := exK (fun k => qa4 k fuel r8 a1.f3_Guard) hr
     refine ql3 3 [3] (l := a1.f3_Guard.map zA) rfl rfl (asl rfl) fun hla3 => ?_
     simp only [jb] at hla3
     refine qx (fun env σ => env = [] ∧ σ = [] ∧ kk3 = some res) ?_ (fun HK3 => ?_)
     ·
      rintro _ _ ⟨rfl, rfl, hr⟩
      rw [hkk3] at hr
      refine qf 2 rfl ?_
      cases hr
      refine qu Tryz.func79 rfl ?_
      rfl
     ·
      refine qm [3, 11, 12] rfl (q9 (fun n env σ => ∃ (i9 : Nat), (n = a1.f3_Guard.length - i9) ∧ (env = [(3, .ptr (qp a1)), (11, .lst (r8.map (D.int .i64))), (12, .int .i64 (i9 : Int))]) ∧ (σ = []) ∧ (i9 ≤ a1.f3_Guard.length) ∧ (qa4 kk3 fuel r8 (a1.f3_Guard.drop i9) = some res)) _ ⟨0, rfl, rfl, rfl, jc _, hr⟩ ?_)
      rintro n _ _ ⟨i9, rfl, rfl, rfl, hi3, hr⟩ IH3
      rcases zb a1.f3_Guard i9 hi3 with ⟨ht3, hd3, he3⟩ | ⟨q_10, ht3, hd3, hq3, hlt3⟩
      ·
       rw [hd3, qa4] at hr
       refine qe (qe (qg 5 (qa 3 rfl (qz rfl (qa 1 rfl (qb (qk 90 false rfl ht3 (qA rfl (qQ rfl (qm [] rfl ?_))))))))))
       exact HK3 _ _ ⟨rfl, rfl, hr⟩
      ·
       rw [hd3, qa4] at hr
       refine qe (qe (qg 5 (qa 3 rfl (qz rfl (qa 1 rfl (qb (qk 90 true rfl ht3 (qf 5 rfl (qg 7 (qa 3 rfl (qN hq3 rfl (qa 1 rfl ?_))))))))))))
       obtain ⟨r11, h11, hr⟩ := za hr
       refine qs rfl qgu (qgx fuel _ _ h11) (qa 1 rfl (qb (qf 2 rfl ?_)))
       obtain ⟨kk4, hkk4, hr⟩ := exK (fun k => qa8 k r8 r11) hr
       refine qcq 98 rfl (asl rfl) fun hla4 => ?_
       simp only [jb] at hla4
       refine qx (fun env σ => env = [(3, .ptr (qp a1)), (11, .lst (r8.map (D.int .i64))), (12, .int .i64 (i9 : Int))] ∧ σ = [] ∧ kk4 = some res) ?_ (fun HK4 => ?_)
       ·
        rintro _ _ ⟨rfl, rfl, hr⟩
        rw [hkk4] at hr
        refine qaa (qg 3 (qa 1 rfl (qaj rfl (qa 1 rfl (qb (qm [3, 11, 12] rfl ?_))))))
        exact IH3 _ _ _ (by omega) ⟨(i9 + 1), rfl, rfl, rfl, (by omega), hr⟩
       ·
        refine qm [3, 11, 12, 13, 14] rfl (q9 (fun n env σ => ∃ (k12 : Nat), (n = r11.length - k12) ∧ (env = [(3, .ptr (qp a1)), (11, .lst (r8.map (D.int .i64))), (12, .int .i64 (i9 : Int)), (13, .lst (r11.map (D.int .i64))), (14, .int .i64 (k12 : Int))]) ∧ (σ = []) ∧ (k12 ≤ r11.length) ∧ (qa8 kk4 r8 (r11.drop k12) = some res)) _ ⟨0, rfl, rfl, rfl, jc _, hr⟩ ?_)
        rintro n _ _ ⟨k12, rfl, rfl, rfl, hi4, hr⟩ IH4
        rcases zb r11 k12 hi4 with ⟨ht4, hd4, he4⟩ | ⟨q_13, ht4, hd4, hq4, hlt4⟩
        ·
         rw [hd4, qa8] at hr
         refine qe (qe (qg 4 (qa 2 rfl (qz rfl (qa 1 rfl (qb (qk 102 false rfl ht4 (qA rfl (qQ rfl (qm [3, 11, 12] rfl ?_))))))))))
         exact HK4 _ _ ⟨rfl, rfl, hr⟩
        ·
         rw [hd4, qa8] at hr
         refine qe (qe (qg 4 (qa 2 rfl (qz rfl (qa 1 rfl (qb (qk 102 true rfl ht4 (qf 5 rfl (qg 7 (qa 3 rfl (qN hq4 rfl (qa 1 rfl ?_))))))))))))
         obtain ⟨r14, h14, hr⟩ := za hr
         refine qs rfl qlD (qlz _ _ _ h14) (qa 1 rfl (qb ?_))
         refine zh 111 rfl hr (fun h111_14 hr => ?_) (fun h111_14 hr => ?_)
         ·
          refine qf 3 rfl ?_
          cases hr
          refine qu Tryz.func79 rfl ?_
          rfl
         ·
          refine qf 3 rfl (qg 3 (qa 1 rfl (qaj rfl (qa 1 rfl (qb (qm [3, 11, 12, 13, 14] rfl ?_))))))
          exact IH4 _ _ _ (by omega) ⟨(k12 + 1), rfl, rfl, rfl, (by omega), hr⟩
    ·
     refine qm [3, 10] rfl (q9 (fun n env σ => ∃ (i7 : Nat), (n = a1.f4_Body.length - i7) ∧ (env = [(3, .ptr (qp a1)), (10, .int .i64 (i7 : Int))]) ∧ (σ = []) ∧ (i7 ≤ a1.f4_Body.length) ∧ (qa7 kk2 (a1.f4_Body.drop i7) = some res)) _ ⟨0, rfl, rfl, rfl, jc _, hr⟩ ?_)
     rintro n _ _ ⟨i7, rfl, rfl, rfl, hi2, hr⟩ IH2
     rcases zb a1.f4_Body i7 hi2 with ⟨ht2, hd2, he2⟩ | ⟨q_16, ht2, hd2, hq2, hlt2⟩
     ·
      rw [hd2, qa7] at hr
      refine qe (qe (qg 5 (qa 3 rfl (qz rfl (qa 1 rfl (qb (qk 74 false rfl ht2 (qA rfl (qQ rfl (qm [3] rfl ?_))))))))))
      exact HK2 _ _ ⟨rfl, rfl, hr⟩
     ·
      rw [hd2, qa7] at hr
      refine qe (qe (qg 5 (qa 3 rfl (qz rfl (qa 1 rfl (qb (qk 74 true rfl ht2 (qf 5 rfl (qg 7 (qa 3 rfl (qN hq2 rfl (qa 2 rfl ?_))))))))))))
      obtain ⟨r17, h17, hr⟩ := za hr
      refine qs rfl qhG (qhK _ _ h17) (qb ?_)
      refine zh 83 rfl hr (fun h83_17 hr => ?_) (fun h83_17 hr => ?_)
      ·
       refine qf 3 rfl ?_
       cases hr
       refine qu Tryz.func79 rfl ?_
       rfl
      ·
       refine qf 3 rfl (qg 3 (qa 1 rfl (qaj rfl (qa 1 rfl (qb (qm [3, 10] rfl ?_))))))
       exact IH2 _ _ _ (by omega) ⟨(i7 + 1), rfl, rfl, rfl, (by omega), hr⟩
   ·
    refine qm [3, 9] rfl (q9 (fun n env σ => ∃ (i6 : Nat), (n = a1.f3_Guard.length - i6) ∧ (env = [(3, .ptr (qp a1)), (9, .int .i64 (i6 : Int))]) ∧ (σ = []) ∧ (i6 ≤ a1.f3_Guard.length) ∧ (qav kk1 (a1.f3_Guard.drop i6) = some res)) _ ⟨0, rfl, rfl, rfl, jc _, hr⟩ ?_)
    rintro n _ _ ⟨i6, rfl, rfl, rfl, hi1, hr⟩ IH1
    rcases zb a1.f3_Guard i6 hi1 with ⟨ht1, hd1, he1⟩ | ⟨q_19, ht1, hd1, hq1, hlt1⟩
    ·
     rw [hd1, qav] at hr
     refine qe (qe (qg 5 (qa 3 rfl (qz rfl (qa 1 rfl (qb (qk 50 false rfl ht1 (qA rfl (qQ rfl (qm [3] rfl ?_))))))))))
     exact HK1 _ _ ⟨rfl, rfl, hr⟩
    ·
     rw [hd1, qav] at hr
     refine qe (qe (qg 5 (qa 3 rfl (qz rfl (qa 1 rfl (qb (qk 50 true rfl ht1 (qf 5 rfl (qg 17 (qa 3 rfl (qN hq1 rfl (qa 2 rfl ?_))))))))))))
     obtain ⟨r20, h20, hr⟩ := za hr
     refine qs rfl qhG (qhK _ _ h20) (qa 2 rfl ?_)
     refine zq 61 rfl hr (fun h61_20 hr => ?_) (fun h61_20 hr => ?_)
     ·
      refine qa 3 rfl (qN hq1 rfl (qa 4 rfl (qb ?_)))
      refine zh 69 rfl hr (fun h69_21 hr => ?_) (fun h69_21 hr => ?_)
      ·
       refine qf 3 rfl ?_
       cases hr
       refine qu Tryz.func79 rfl ?_
       rfl
      ·
       refine qf 3 rfl (qg 3 (qa 1 rfl (qaj rfl (qa 1 rfl (qb (qm [3, 9] rfl ?_))))))
       exact IH1 _ _ _ (by omega) ⟨(i6 + 1), rfl, rfl, rfl, (by omega), hr⟩
     ·
      refine qa 8 rfl (qb (qf 3 rfl (qg 3 (qa 1 rfl (qaj rfl (qa 1 rfl (qb (qm [3, 9] rfl ?_))))))))
      exact IH1 _ _ _ (by omega) ⟨(i6 + 1), rfl, rfl, rfl, (by omega), hr⟩
 ·
  refine qm [0, 3, 5, 6] rfl (q9 (fun n env σ => ∃ (i2 : Nat), (n = r1.length - i2) ∧ (env = [(0, .lst (a0.map qaf)), (3, .ptr (qp a1)), (5, .lst (r1.map zX)), (6, .int .i64 (i2 : Int))]) ∧ (σ = []) ∧ (i2 ≤ r1.length) ∧ (qa3 kk0 a0 (r1.drop i2) = some res)) _ ⟨0, rfl, rfl, rfl, jc _, hr⟩ ?_)
  rintro n _ _ ⟨i2, rfl, rfl, rfl, hi0, hr⟩ IH0
  rcases zb r1 i2 hi0 with ⟨ht0, hd0, he0⟩ | ⟨q_23, ht0, hd0, hq0, hlt0⟩
  ·
   rw [hd0, qa3] at hr
   refine qe (qe (qg 4 (qa 2 rfl (qz rfl (qa 1 rfl (qb (qk 20 false rfl ht0 (qA rfl (qQ rfl (qm [0, 3] rfl ?_))))))))))
   exact HK0 _ _ ⟨rfl, rfl, hr⟩
  ·
   rw [hd0, qa3] at hr
   refine qe (qe (qg 4 (qa 2 rfl (qz rfl (qa 1 rfl (qb (qk 20 true rfl ht0 (qf 5 rfl (qei 14 0 (qa 3 rfl (qN hq0 rfl (qa 4 rfl (qN hq0 rfl ?_)))))))))))))
   refine qa 2 rfl (qz rfl ?_)
   obtain ⟨r24, h24, hr⟩ := za hr
   refine qs rfl qgT (qgL _ _ _ _ h24) (qa 1 rfl (qb (qf 2 rfl ?_)))
   refine zh 37 rfl hr (fun h37_24 hr => ?_) (fun h37_24 hr => ?_)
   ·
    refine qf 3 rfl ?_
    cases hr
    refine qu Tryz.func79 rfl ?_
    rfl
   ·
    refine qf 3 rfl (qg 3 (qa 1 rfl (qaj rfl (qa 1 rfl (qb (qm [0, 3, 5, 6] rfl ?_))))))
    exact IH0 _ _ _ (by omega) ⟨(i2 + 1), rfl, rfl, rfl, (by omega), hr⟩
def qaF (k : Option Int) : List Int → Nat → Option Int
 | [], i10 =>
 k
 | q_17 :: rest, i10 =>
 (bif (q_17 != (i10 : Int)) then
 some (2)
 else
 (qaF k rest (i10 + 1)))
def qaH (k : Option Int) : List Gl → Option Int
 | [] =>
 k
 | q_19 :: rest =>
 ((qiQ q_19).bind fun r20 =>
 (bif (!r20) then
 some (2)
 else
 (qaH k rest)))
def qaI (k : Option Int) : List At → Option Int
 | [] =>
 k
 | q_22 :: rest =>
 ((qih q_22).bind fun r23 =>
 (bif (!r23) then
 some (2)
 else
 (qaI k rest)))
def qdh (fuel : Nat) (a0 : List qbG) (a1 : qD) : Option Int :=
 ((qct a1).bind fun r1 =>
 ((qcO a1).bind fun r2 =>
 (bif ((r1.length : Int) == (0 : Int)) then
 some (6)
 else
 (bif (decide ((r1.length : Int) > (4 : Int))) then
 some (6)
 else
 (bif (decide ((a1.f3_Guard.length : Int) > (12 : Int))) then
 some (6)
 else
 (bif (decide ((a1.f4_Body.length : Int) > (12 : Int))) then
 some (6)
 else
 (qaI ((qaH (((qek fuel a1).bind fun r9 =>
 (qaF ((bif (a1.f5_Vars != (r9.length : Int)) then
 some (2)
 else
 (bif (!(a1.f0_Name.toList == (⟨#[]⟩ : ByteArray).toList)) then
 ((qlK a1.f0_Name).bind fun r13 =>
 (bif (!r13) then
 some (7)
 else
 ((qcZ fuel a0 a1).bind fun r15 =>
 some (r15))))
 else
 ((qcZ fuel a0 a1).bind fun r16 =>
 some (r16))))) r9 0))) r2)) r1)))))))
theorem qiM (fuel : Nat) (a0 : List qbG) (a1 : qD) (res : Int) (hr : qdh fuel a0 a1 = some res) : zf Tryz.prog 43 [.lst (a0.map qaf), qp a1] (.int .i64 res) := by
 unfold qdh at hr
 refine qY Tryz.func43 rfl fun K hK => (qe (qg 2 (rd rfl (qcK rfl rfl rfl) (qa 1 rfl (qb (qe (qg 3 (qa 1 rfl ?_))))))))
 obtain ⟨r1, h1, hr⟩ := za hr
 refine qs rfl qeU (qeV _ _ h1) (qa 1 rfl (qb (qe (qg 3 (qa 1 rfl ?_)))))
 obtain ⟨r2, h2, hr⟩ := za hr
 refine qs rfl qfH (qfP _ _ h2) (qa 1 rfl (qb (qe (qe (qg 20 (qa 1 rfl (qz rfl (qa 2 rfl ?_))))))))
 refine zq 18 rfl hr (fun h18_2 hr => ?_) (fun h18_2 hr => ?_)
 ·
  refine qa 16 rfl (qb (qf 3 rfl ?_))
  cases hr
  refine qu Tryz.func43 rfl ?_
  rfl
 ·
  refine qa 1 rfl (qz rfl (qa 3 rfl ?_))
  refine zq 23 rfl hr (fun h23_3 hr => ?_) (fun h23_3 hr => ?_)
  ·
   refine qa 11 rfl (qb (qf 3 rfl ?_))
   cases hr
   refine qu Tryz.func43 rfl ?_
   rfl
  ·
   refine qa 2 rfl (qz rfl (qa 3 rfl ?_))
   refine zq 29 rfl hr (fun h29_4 hr => ?_) (fun h29_4 hr => ?_)
   ·
    refine qa 5 rfl (qb (qf 3 rfl ?_))
    cases hr
    refine qu Tryz.func43 rfl ?_
    rfl
   ·
    refine qa 2 rfl (qz rfl (qa 2 rfl (qb ?_)))
    refine zh 34 rfl hr (fun h34_5 hr => ?_) (fun h34_5 hr => ?_)
    ·
     refine qf 3 rfl ?_
     cases hr
     refine qu Tryz.func43 rfl ?_
     rfl
    ·
     refine qf 5 rfl ?_
     obtain ⟨kk0, hkk0, hr⟩ := exK (fun k => qaI k r1) hr
     refine qcq 12 rfl (asl rfl) fun hla0 => ?_
     simp only [jb] at hla0
     refine qx (fun env σ => env = [(0, .lst (a0.map qaf)), (3, .ptr (qp a1)), (6, .lst (r2.map zA))] ∧ σ = [] ∧ kk0 = some res) ?_ (fun HK0 => ?_)
     ·
      rintro _ _ ⟨rfl, rfl, hr⟩
      rw [hkk0] at hr
      refine qf 3 rfl ?_
      obtain ⟨kk1, hkk1, hr⟩ := exK (fun k => qaH k r2) hr
      refine qcq 6 rfl (asl rfl) fun hla1 => ?_
      simp only [jb] at hla1
      refine qx (fun env σ => env = [(0, .lst (a0.map qaf)), (3, .ptr (qp a1))] ∧ σ = [] ∧ kk1 = some res) ?_ (fun HK1 => ?_)
      ·
       rintro _ _ ⟨rfl, rfl, hr⟩
       rw [hkk1] at hr
       refine qe (qg 3 (qa 1 rfl ?_))
       obtain ⟨r9, h9, hr⟩ := za hr
       refine qs rfl qkW (qlc fuel _ _ h9) (qa 1 rfl (qb (qf 3 rfl ?_)))
       obtain ⟨kk2, hkk2, hr⟩ := exK (fun k => qaF k r9 0) hr
       refine qcq 60 rfl (asl rfl) fun hla2 => ?_
       simp only [jb] at hla2
       refine qx (fun env σ => env = [(0, .lst (a0.map qaf)), (3, .ptr (qp a1)), (9, .lst (r9.map (D.int .i64)))] ∧ σ = [] ∧ kk2 = some res) ?_ (fun HK2 => ?_)
       ·
        rintro _ _ ⟨rfl, rfl, hr⟩
        rw [hkk2] at hr
        refine qe (qe (qg 5 (qa 3 rfl (qz rfl (qa 1 rfl (qb ?_))))))
        refine zh 77 rfl hr (fun h77_10 hr => ?_) (fun h77_10 hr => ?_)
        ·
         refine qf 3 rfl ?_
         cases hr
         refine qu Tryz.func43 rfl ?_
         rfl
        ·
         refine qf 4 rfl (qg 9 (qa 2 rfl (rd rfl (qgv rfl rfl rfl rfl) (qa 1 rfl ?_))))
         refine zq 81 rfl hr (fun h81_11 hr => ?_) (fun h81_11 hr => ?_)
         ·
          refine qa 2 rfl ?_
          obtain ⟨r13, h13, hr⟩ := za hr
          refine qs rfl qhv (qhw _ _ h13) (qa 2 rfl (qb ?_))
          refine zh 86 rfl hr (fun h86_13 hr => ?_) (fun h86_13 hr => ?_)
          ·
           refine qf 3 rfl ?_
           cases hr
           refine qu Tryz.func43 rfl ?_
           rfl
          ·
           refine qf 3 rfl (qg 4 (qa 2 rfl ?_))
           obtain ⟨r15, h15, hr⟩ := za hr
           refine qs rfl qgK (qgP fuel _ _ _ h15) (qa 1 rfl (qb ?_))
           cases hr
           refine qu Tryz.func43 rfl ?_
           rfl
         ·
          refine qa 5 rfl (qb (qf 3 rfl (qg 4 (qa 2 rfl ?_))))
          obtain ⟨r16, h16, hr⟩ := za hr
          refine qs rfl qgK (qgP fuel _ _ _ h16) (qa 1 rfl (qb ?_))
          cases hr
          refine qu Tryz.func43 rfl ?_
          rfl
       ·
        refine qm [0, 3, 9, 10] rfl (q9 (fun n env σ => ∃ (i10 : Nat), (n = r9.length - i10) ∧ (env = [(0, .lst (a0.map qaf)), (3, .ptr (qp a1)), (9, .lst (r9.map (D.int .i64))), (10, .int .i64 (i10 : Int))]) ∧ (σ = []) ∧ (i10 ≤ r9.length) ∧ (qaF kk2 (r9.drop i10) i10 = some res)) _ ⟨0, rfl, rfl, rfl, jc _, hr⟩ ?_)
        rintro n _ _ ⟨i10, rfl, rfl, rfl, hi2, hr⟩ IH2
        rcases zb r9 i10 hi2 with ⟨ht2, hd2, he2⟩ | ⟨q_17, ht2, hd2, hq2, hlt2⟩
        ·
         rw [hd2, qaF] at hr
         refine qe (qe (qg 4 (qa 2 rfl (qz rfl (qa 1 rfl (qb (qk 64 false rfl ht2 (qA rfl (qQ rfl (qm [0, 3, 9] rfl ?_))))))))))
         exact HK2 _ _ ⟨rfl, rfl, hr⟩
        ·
         rw [hd2, qaF] at hr
         refine qe (qe (qg 4 (qa 2 rfl (qz rfl (qa 1 rfl (qb (qk 64 true rfl ht2 (qf 5 rfl (qg 6 (qa 2 rfl (qN hq2 rfl (qa 3 rfl (qb ?_)))))))))))))
         refine zh 72 rfl hr (fun h72_17 hr => ?_) (fun h72_17 hr => ?_)
         ·
          refine qf 3 rfl ?_
          cases hr
          refine qu Tryz.func43 rfl ?_
          rfl
         ·
          refine qf 3 rfl (qg 3 (qa 1 rfl (qaj rfl (qa 1 rfl (qb (qm [0, 3, 9, 10] rfl ?_))))))
          exact IH2 _ _ _ (by omega) ⟨(i10 + 1), rfl, rfl, rfl, (by omega), hr⟩
      ·
       refine qm [0, 3, 6, 8] rfl (q9 (fun n env σ => ∃ (i8 : Nat), (n = r2.length - i8) ∧ (env = [(0, .lst (a0.map qaf)), (3, .ptr (qp a1)), (6, .lst (r2.map zA)), (8, .int .i64 (i8 : Int))]) ∧ (σ = []) ∧ (i8 ≤ r2.length) ∧ (qaH kk1 (r2.drop i8) = some res)) _ ⟨0, rfl, rfl, rfl, jc _, hr⟩ ?_)
       rintro n _ _ ⟨i8, rfl, rfl, rfl, hi1, hr⟩ IH1
       rcases zb r2 i8 hi1 with ⟨ht1, hd1, he1⟩ | ⟨q_19, ht1, hd1, hq1, hlt1⟩
       ·
        rw [hd1, qaH] at hr
        refine qe (qe (qg 4 (qa 2 rfl (qz rfl (qa 1 rfl (qb (qk 50 false rfl ht1 (qA rfl (qQ rfl (qm [0, 3] rfl ?_))))))))))
        exact HK1 _ _ ⟨rfl, rfl, hr⟩
       ·
        rw [hd1, qaH] at hr
        refine qe (qe (qg 4 (qa 2 rfl (qz rfl (qa 1 rfl (qb (qk 50 true rfl ht1 (qf 5 rfl (qg 6 (qa 2 rfl (qN hq1 rfl (qa 1 rfl ?_))))))))))))
        obtain ⟨r20, h20, hr⟩ := za hr
        refine qs rfl qci (qcd _ _ h20) (qa 1 rfl (qb ?_))
        refine zh 58 rfl hr (fun h58_20 hr => ?_) (fun h58_20 hr => ?_)
        ·
         refine qf 3 rfl ?_
         cases hr
         refine qu Tryz.func43 rfl ?_
         rfl
        ·
         refine qf 3 rfl (qg 3 (qa 1 rfl (qaj rfl (qa 1 rfl (qb (qm [0, 3, 6, 8] rfl ?_))))))
         exact IH1 _ _ _ (by omega) ⟨(i8 + 1), rfl, rfl, rfl, (by omega), hr⟩
     ·
      refine qm [0, 3, 5, 6, 7] rfl (q9 (fun n env σ => ∃ (i7 : Nat), (n = r1.length - i7) ∧ (env = [(0, .lst (a0.map qaf)), (3, .ptr (qp a1)), (5, .lst (r1.map zX)), (6, .lst (r2.map zA)), (7, .int .i64 (i7 : Int))]) ∧ (σ = []) ∧ (i7 ≤ r1.length) ∧ (qaI kk0 (r1.drop i7) = some res)) _ ⟨0, rfl, rfl, rfl, jc _, hr⟩ ?_)
      rintro n _ _ ⟨i7, rfl, rfl, rfl, hi0, hr⟩ IH0
      rcases zb r1 i7 hi0 with ⟨ht0, hd0, he0⟩ | ⟨q_22, ht0, hd0, hq0, hlt0⟩
      ·
       rw [hd0, qaI] at hr
       refine qe (qe (qg 4 (qa 2 rfl (qz rfl (qa 1 rfl (qb (qk 38 false rfl ht0 (qA rfl (qQ rfl (qm [0, 3, 6] rfl ?_))))))))))
       exact HK0 _ _ ⟨rfl, rfl, hr⟩
      ·
       rw [hd0, qaI] at hr
       refine qe (qe (qg 4 (qa 2 rfl (qz rfl (qa 1 rfl (qb (qk 38 true rfl ht0 (qf 5 rfl (qg 6 (qa 2 rfl (qN hq0 rfl (qa 1 rfl ?_))))))))))))
       obtain ⟨r23, h23, hr⟩ := za hr
       refine qs rfl qee (qef _ _ h23) (qa 1 rfl (qb ?_))
       refine zh 46 rfl hr (fun h46_23 hr => ?_) (fun h46_23 hr => ?_)
       ·
        refine qf 3 rfl ?_
        cases hr
        refine qu Tryz.func43 rfl ?_
        rfl
       ·
        refine qf 3 rfl (qg 3 (qa 1 rfl (qaj rfl (qa 1 rfl (qb (qm [0, 3, 5, 6, 7] rfl ?_))))))
        exact IH0 _ _ _ (by omega) ⟨(i7 + 1), rfl, rfl, rfl, (by omega), hr⟩
def qbn (k : Option (Int × Int)) (fuel : Nat) (a0 : qn) : List qD → Nat → Option (Int × Int)
 | [], i4 =>
 k
 | q_5 :: rest, i4 =>
 ((qdh fuel a0.f0_Decls q_5).bind fun r6 =>
 (bif (r6 != (0 : Int)) then
 some ((i4 : Int), r6)
 else
 (qbn k fuel a0 rest (i4 + 1))))
def qbx (k : Option (Int × Int)) (a0 : qn) : List qbG → Nat → Option (Int × Int)
 | [], i2 =>
 k
 | q_8 :: rest, i2 =>
 ((qlK q_8.f0_Name).bind fun r10 =>
 (bif (!r10) then
 some ((-1), 7)
 else
 (bif (decide (q_8.f1_Arity < (0 : Int))) then
 some ((-1), 9)
 else
 (bif (decide (q_8.f1_Arity > (6 : Int))) then
 some ((-1), 9)
 else
 ((yt a0.f0_Decls 0 (i2 : Int)).bind fun l14 =>
 ((qcn l14 q_8.f0_Name q_8.f1_Arity).bind fun r15 =>
 (bif r15 then
 some ((-1), 8)
 else
 (qbx k a0 rest (i2 + 1)))))))))
def qea (fuel : Nat) (a0 : qn) : Option (Int × Int) :=
 (bif (decide ((a0.f0_Decls.length : Int) > (30 : Int))) then
 some ((-1), 6)
 else
 (qbx ((bif (decide ((a0.f1_Rules.length : Int) > (40 : Int))) then
 some ((-1), 6)
 else
 (qbn (some (0, 0)) fuel a0 a0.f1_Rules 0))) a0 a0.f0_Decls 0))
theorem qj4 (fuel : Nat) (a0 : qn) (res : Int × Int) (hr : qea fuel a0 = some res) : zf Tryz.prog 18 [ql a0] (.tup [.int .i64 res.1, .int .i64 res.2]) := by
 unfold qea at hr
 refine qY Tryz.func18 rfl fun K hK => (qe (qg 3 (rd rfl (qcK rfl rfl rfl) (qa 2 rfl (qb (qe (qe (qg 4 (qa 2 rfl (qz rfl (qa 1 rfl (qb ?_))))))))))))
 refine zh 11 rfl hr (fun h11_0 hr => ?_) (fun h11_0 hr => ?_)
 ·
  refine qf 3 rfl ?_
  cases hr
  refine qu Tryz.func18 rfl ?_
  rfl
 ·
  refine qf 5 rfl ?_
  obtain ⟨kk0, hkk0, hr⟩ := exK (fun k => qbx k a0 a0.f0_Decls 0) hr
  refine qcq 9 rfl (asl rfl) fun hla0 => ?_
  simp only [jb] at hla0
  refine qx (fun env σ => env = [(1, .ptr (ql a0))] ∧ σ = [] ∧ kk0 = some res) ?_ (fun HK0 => ?_)
  ·
   rintro _ _ ⟨rfl, rfl, hr⟩
   rw [hkk0] at hr
   refine qe (qe (qg 4 (qa 2 rfl (qz rfl (qa 1 rfl (qb ?_))))))
   refine zh 51 rfl hr (fun h51_2 hr => ?_) (fun h51_2 hr => ?_)
   ·
    refine qf 3 rfl ?_
    cases hr
    refine qu Tryz.func18 rfl ?_
    rfl
   ·
    refine qf 5 rfl ?_
    obtain ⟨kk1, hkk1, hr⟩ := exK (fun k => qbn k fuel a0 a0.f1_Rules 0) hr
    refine qcq 49 rfl (asl rfl) fun hla1 => ?_
    simp only [jb] at hla1
    refine qx (fun env σ => env = [] ∧ σ = [] ∧ kk1 = some res) ?_ (fun HK1 => ?_)
    ·
     rintro _ _ ⟨rfl, rfl, hr⟩
     rw [hkk1] at hr
     refine qf 2 rfl ?_
     cases hr
     refine qu Tryz.func18 rfl ?_
     rfl
    ·
     refine qm [1, 6] rfl (q9 (fun n env σ => ∃ (i4 : Nat), (n = a0.f1_Rules.length - i4) ∧ (env = [(1, .ptr (ql a0)), (6, .int .i64 (i4 : Int))]) ∧ (σ = []) ∧ (i4 ≤ a0.f1_Rules.length) ∧ (qbn kk1 fuel a0 (a0.f1_Rules.drop i4) i4 = some res)) _ ⟨0, rfl, rfl, rfl, jc _, hr⟩ ?_)
     rintro n _ _ ⟨i4, rfl, rfl, rfl, hi1, hr⟩ IH1
     rcases zb a0.f1_Rules i4 hi1 with ⟨ht1, hd1, he1⟩ | ⟨q_5, ht1, hd1, hq1, hlt1⟩
     ·
      rw [hd1, qbn] at hr
      refine qe (qe (qg 5 (qa 3 rfl (qz rfl (qa 1 rfl (qb (qk 56 false rfl ht1 (qA rfl (qQ rfl (qm [] rfl ?_))))))))))
      exact HK1 _ _ ⟨rfl, rfl, hr⟩
     ·
      rw [hd1, qbn] at hr
      refine qe (qe (qg 5 (qa 3 rfl (qz rfl (qa 1 rfl (qb (qk 56 true rfl ht1 (qf 5 rfl (qei 9 0 (qa 5 rfl (qN hq1 rfl (qa 1 rfl ?_))))))))))))
      obtain ⟨r6, h6, hr⟩ := za hr
      refine qs rfl qiG (qiM fuel _ _ _ h6) (qa 1 rfl (qb (qf 2 rfl ?_)))
      refine zh 68 rfl hr (fun h68_6 hr => ?_) (fun h68_6 hr => ?_)
      ·
       refine qf 3 rfl ?_
       cases hr
       refine qu Tryz.func18 rfl ?_
       rfl
      ·
       refine qf 3 rfl (qg 3 (qa 1 rfl (qaj rfl (qa 1 rfl (qb (qm [1, 6] rfl ?_))))))
       exact IH1 _ _ _ (by omega) ⟨(i4 + 1), rfl, rfl, rfl, (by omega), hr⟩
  ·
   refine qm [1, 4] rfl (q9 (fun n env σ => ∃ (i2 : Nat), (n = a0.f0_Decls.length - i2) ∧ (env = [(1, .ptr (ql a0)), (4, .int .i64 (i2 : Int))]) ∧ (σ = []) ∧ (i2 ≤ a0.f0_Decls.length) ∧ (qbx kk0 a0 (a0.f0_Decls.drop i2) i2 = some res)) _ ⟨0, rfl, rfl, rfl, jc _, hr⟩ ?_)
   rintro n _ _ ⟨i2, rfl, rfl, rfl, hi0, hr⟩ IH0
   rcases zb a0.f0_Decls i2 hi0 with ⟨ht0, hd0, he0⟩ | ⟨q_8, ht0, hd0, hq0, hlt0⟩
   ·
    rw [hd0, qbx] at hr
    refine qe (qe (qg 5 (qa 3 rfl (qz rfl (qa 1 rfl (qb (qk 16 false rfl ht0 (qA rfl (qQ rfl (qm [1] rfl ?_))))))))))
    exact HK0 _ _ ⟨rfl, rfl, hr⟩
   ·
    rw [hd0, qbx] at hr
    refine qe (qe (qg 5 (qa 3 rfl (qz rfl (qa 1 rfl (qb (qk 16 true rfl ht0 (qf 5 rfl (zg 7 5120 (qa 3 rfl (qN hq0 rfl (qa 1 rfl (ew rfl (qaJ rfl qon) ?_)))))))))))))
    rintro _ _ ⟨b5_8, rfl, rfl⟩
    refine qcr rfl (pf0 _) (qb (qaR 5 b5_8 rfl (pf0 _) (qtm (qe (qg 5 (qa 2 rfl ?_))))))
    obtain ⟨r10, h10, hr⟩ := za hr
    refine qs rfl qhv (qhw _ _ h10) (qa 2 rfl (qb ?_))
    refine zh 24 rfl hr (fun h24_10 hr => ?_) (fun h24_10 hr => ?_)
    ·
     refine qf 3 rfl ?_
     cases hr
     refine qu Tryz.func18 rfl ?_
     rfl
    ·
     refine qA rfl (qe (qg 9 (qa 4 rfl ?_)))
     refine zq 33 rfl hr (fun h33_11 hr => ?_) (fun h33_11 hr => ?_)
     ·
      refine qa 5 rfl (qb (qf 3 rfl ?_))
      cases hr
      refine qu Tryz.func18 rfl ?_
      rfl
     ·
      refine qa 5 rfl (qb ?_)
      refine zh 29 rfl hr (fun h29_12 hr => ?_) (fun h29_12 hr => ?_)
      ·
       refine qf 3 rfl ?_
       cases hr
       refine qu Tryz.func18 rfl ?_
       rfl
      ·
       refine qA rfl (qe (qei 10 0 (qa 3 rfl ?_)))
       obtain ⟨l14, h14, hr⟩ := za hr
       refine rd rfl (qnv (f := qaf) a0.f0_Decls 0 (i2 : Int) rfl qkX rfl (asl rfl) qmf (qma rfl) qhW h14) (qa 4 rfl ?_)
       obtain ⟨r15, h15, hr⟩ := za hr
       refine qs rfl qen (qej _ _ _ _ h15) (qa 1 rfl (qb ?_))
       refine zh 38 rfl hr (fun h38_15 hr => ?_) (fun h38_15 hr => ?_)
       ·
        refine qf 3 rfl ?_
        cases hr
        refine qu Tryz.func18 rfl ?_
        rfl
       ·
        refine qf 4 rfl (qg 3 (qa 1 rfl (qaj rfl (qa 1 rfl (qb (qm [1, 4] rfl ?_))))))
        exact IH0 _ _ _ (by omega) ⟨(i2 + 1), rfl, rfl, rfl, (by omega), hr⟩
def qaq (k : Option Bool) (a0 : List (Int × At)) : List (Int × At) → Nat → Option Bool
 | [], i2 =>
 k
 | q_3 :: rest, i2 =>
 (bif (decide (q_3.1 < (1 : Int))) then
 some (false)
 else
 (bif (decide ((i2 : Int) > (0 : Int))) then
 ((zj a0 (wr ((i2 : Int) - (1 : Int)))).bind fun q_6 =>
 (bif (decide (q_6.1 ≥ q_3.1)) then
 some (false)
 else
 ((qih q_3.2).bind fun r8 =>
 (bif (!r8) then
 some (false)
 else
 (qaq k a0 rest (i2 + 1))))))
 else
 ((qih q_3.2).bind fun r10 =>
 (bif (!r10) then
 some (false)
 else
 (qaq k a0 rest (i2 + 1))))))
def qcQ (a0 : List (Int × At)) : Option Bool :=
 (bif (decide ((a0.length : Int) > (500 : Int))) then
 some (false)
 else
 (qaq (some (true)) a0 a0 0))
theorem qfK (a0 : List (Int × At)) (res : Bool) (hr : qcQ a0 = some res) : zf Tryz.prog 44 [.lst (a0.map zr)] (.bool res) := by
 unfold qcQ at hr
 refine qY Tryz.func44 rfl fun K hK => (qf 4 rfl (qg 3 (qa 1 rfl (qz rfl (qa 1 rfl (qb ?_))))))
 refine zh 6 rfl hr (fun h6_0 hr => ?_) (fun h6_0 hr => ?_)
 ·
  refine qf 3 rfl ?_
  cases hr
  refine qu Tryz.func44 rfl ?_
  rfl
 ·
  refine qf 5 rfl ?_
  obtain ⟨kk0, hkk0, hr⟩ := exK (fun k => qaq k a0 a0 0) hr
  refine qcq 0 rfl (asl rfl) fun hla0 => ?_
  simp only [jb] at hla0
  refine qx (fun env σ => env = [] ∧ σ = [] ∧ kk0 = some res) ?_ (fun HK0 => ?_)
  ·
   rintro _ _ ⟨rfl, rfl, hr⟩
   rw [hkk0] at hr
   refine qf 2 rfl ?_
   cases hr
   refine qu Tryz.func44 rfl ?_
   rfl
  ·
   refine qm [0, 3] rfl (q9 (fun n env σ => ∃ (i2 : Nat), (n = a0.length - i2) ∧ (env = [(0, .lst (a0.map zr)), (3, .int .i64 (i2 : Int))]) ∧ (σ = []) ∧ (i2 ≤ a0.length) ∧ (qaq kk0 a0 (a0.drop i2) i2 = some res)) _ ⟨0, rfl, rfl, rfl, jc _, hr⟩ ?_)
   rintro n _ _ ⟨i2, rfl, rfl, rfl, hi0, hr⟩ IH0
   rcases zb a0 i2 hi0 with ⟨ht0, hd0, he0⟩ | ⟨q_3, ht0, hd0, hq0, hlt0⟩
   ·
    rw [hd0, qaq] at hr
    refine qe (qe (qg 4 (qa 2 rfl (qz rfl (qa 1 rfl (qb (qk 10 false rfl ht0 (qA rfl (qQ rfl (qm [] rfl ?_))))))))))
    exact HK0 _ _ ⟨rfl, rfl, hr⟩
   ·
    rw [hd0, qaq] at hr
    refine qe (qe (qg 4 (qa 2 rfl (qz rfl (qa 1 rfl (qb (qk 10 true rfl ht0 (qf 5 rfl (qei 33 0 (qa 2 rfl (qN hq0 rfl (qa 4 rfl ?_))))))))))))
    refine zq 19 rfl hr (fun h19_3 hr => ?_) (fun h19_3 hr => ?_)
    ·
     refine qa 26 rfl (qb (qf 3 rfl ?_))
     cases hr
     refine qu Tryz.func44 rfl ?_
     rfl
    ·
     refine qa 3 rfl ?_
     refine zq 22 rfl hr (fun h22_4 hr => ?_) (fun h22_4 hr => ?_)
     ·
      refine qa 2 rfl (rd rfl (qeF rfl rfl rfl rfl) ?_)
      obtain ⟨q_6, h6, hr⟩ := za hr
      refine qN h6 rfl (qa 4 rfl (qN hq0 rfl (qa 6 rfl ?_)))
      refine zq 37 rfl hr (fun h37_6 hr => ?_) (fun h37_6 hr => ?_)
      ·
       refine qa 8 rfl (qb (qf 3 rfl ?_))
       cases hr
       refine qu Tryz.func44 rfl ?_
       rfl
      ·
       refine qa 2 rfl (qN hq0 rfl (qa 2 rfl ?_))
       obtain ⟨r8, h8, hr⟩ := za hr
       refine qs rfl qee (qef _ _ h8) (qa 2 rfl (qb ?_))
       refine zh 45 rfl hr (fun h45_8 hr => ?_) (fun h45_8 hr => ?_)
       ·
        refine qf 3 rfl ?_
        cases hr
        refine qu Tryz.func44 rfl ?_
        rfl
       ·
        refine qf 3 rfl (qg 3 (qa 1 rfl (qaj rfl (qa 1 rfl (qb (qm [0, 3] rfl ?_))))))
        exact IH0 _ _ _ (by omega) ⟨(i2 + 1), rfl, rfl, rfl, (by omega), hr⟩
     ·
      refine qa 17 rfl (qN hq0 rfl (qa 2 rfl ?_))
      obtain ⟨r10, h10, hr⟩ := za hr
      refine qs rfl qee (qef _ _ h10) (qa 2 rfl (qb ?_))
      refine zh 45 rfl hr (fun h45_10 hr => ?_) (fun h45_10 hr => ?_)
      ·
       refine qf 3 rfl ?_
       cases hr
       refine qu Tryz.func44 rfl ?_
       rfl
      ·
       refine qf 3 rfl (qg 3 (qa 1 rfl (qaj rfl (qa 1 rfl (qb (qm [0, 3] rfl ?_))))))
       exact IH0 _ _ _ (by omega) ⟨(i2 + 1), rfl, rfl, rfl, (by omega), hr⟩
def qbi (k : Option (T × Bool)) (a1 : Int) : List (Int × T) → Option (T × Bool)
 | [] =>
 k
 | q_3 :: rest =>
 (bif (q_3.1 == a1) then
 some (q_3.2, true)
 else
 (qbi k a1 rest))
def qcG (a0 : List (Int × T)) (a1 : Int) : Option (T × Bool) :=
 (qbi (some ((T.mk 0 0 ⟨#[]⟩ []), false)) a1 a0)
theorem qeD (a0 : List (Int × T)) (a1 : Int) (res : T × Bool) (hr : qcG a0 a1 = some res) : zf Tryz.prog 84 [.lst (a0.map zo), .int .i64 a1] (.tup [zi res.1, .bool res.2]) := by
 unfold qcG at hr
 refine qY Tryz.func84 rfl fun K hK => (qe (zg 2 1 (ew rfl (qaJ rfl qc0) ?_)))
 rintro _ _ ⟨b4_0, rfl, rfl⟩
 refine qa 1 rfl (qb (qf 3 rfl ?_))
 obtain ⟨kk0, hkk0, hr⟩ := exK (fun k => qbi k a1 a0) hr
 refine qcq 0 rfl (asl rfl) fun hla0 => ?_
 simp only [jb] at hla0
 refine qx (fun env σ => env = [(4, .ref b4_0 0 [])] ∧ σ = [.cell b4_0 (.agg [.int .i64 0, .int .i64 0, .str ⟨#[]⟩, .lst ([].map zi)])] ∧ kk0 = some res) ?_ (fun HK0 => ?_)
 ·
  rintro _ _ ⟨rfl, rfl, hr⟩
  rw [hkk0] at hr
  refine qe (zg 3 4 (rd rfl (qbl rfl qeB .nil (.nil _)) (qcr rfl (pf0 _) (qa 1 rfl (qb ?_)))))
  cases hr
  refine qbQ Tryz.func84 _ (.cons (zy rfl (.head _) (by exact qdC) rfl (Wk.refl _)) (.cons (zd rfl (Wk.refl _)) .nil)) ?_
  first | rfl | (show _ = D.agg (fsT _); rw [qdQ] <;> rfl) | simp [yJ, zi, qdQ, T.k, T.i, T.s, T.ar]
 ·
  refine qm [0, 1, 4, 6] rfl (q9 (fun n env σ => ∃ (i2 : Nat), (n = a0.length - i2) ∧ (env = [(0, .lst (a0.map zo)), (1, .int .i64 a1), (4, .ref b4_0 0 []), (6, .int .i64 (i2 : Int))]) ∧ (σ = [.cell b4_0 (.agg [.int .i64 0, .int .i64 0, .str ⟨#[]⟩, .lst ([].map zi)])]) ∧ (i2 ≤ a0.length) ∧ (qbi kk0 a1 (a0.drop i2) = some res)) _ ⟨0, rfl, rfl, rfl, jc _, hr⟩ ?_)
  rintro n _ _ ⟨i2, rfl, rfl, rfl, hi0, hr⟩ IH0
  rcases zb a0 i2 hi0 with ⟨ht0, hd0, he0⟩ | ⟨q_3, ht0, hd0, hq0, hlt0⟩
  ·
   rw [hd0, qbi] at hr
   refine qe (qe (qg 4 (qa 2 rfl (qz rfl (qa 1 rfl (qb (qk 10 false rfl ht0 (qA rfl (qQ rfl (qm [4] rfl ?_))))))))))
   exact HK0 _ _ ⟨rfl, rfl, hr⟩
  ·
   rw [hd0, qbi] at hr
   refine qe (qe (qg 4 (qa 2 rfl (qz rfl (qa 1 rfl (qb (qk 10 true rfl ht0 (qf 5 rfl (qg 7 (qa 2 rfl (qN hq0 rfl (qa 4 rfl (qb ?_)))))))))))))
   refine zh 19 rfl hr (fun h19_3 hr => ?_) (fun h19_3 hr => ?_)
   ·
    refine qO rfl (qe (zg 7 1024 (qa 2 rfl (qN hq0 rfl (qa 2 rfl (qcr rfl (pf0 _) (qa 1 rfl (qb ?_))))))))
    cases hr
    refine qbQ Tryz.func84 _ (.cons (zy rfl (.head _) (by exact qdC) (qcl _) (Wk.refl _)) (.cons (zd rfl (Wk.refl _)) .nil)) ?_
    rfl
   ·
    refine qf 3 rfl (qg 3 (qa 1 rfl (qaj rfl (qa 1 rfl (qb (qm [0, 1, 4, 6] rfl ?_))))))
    exact IH0 _ _ _ (by omega) ⟨(i2 + 1), rfl, rfl, rfl, (by omega), hr⟩
def qbv (k : Option Bool) (a0 : List (Int × T)) : List Int → Option Bool
 | [] =>
 k
 | q_5 :: rest =>
 ((qcG a0 q_5).bind fun r6 =>
 (bif r6.2 then
 some (false)
 else
 (qbv k a0 rest)))
def qbz (k : Option Bool) (a0 : List (Int × T)) (fuel : Nat) : List (Int × T) → Option Bool
 | [] =>
 k
 | q_2 :: rest =>
 ((qc5 fuel q_2.2).bind fun r3 =>
 (qbv ((qbz k a0 fuel rest)) a0 r3))
def qeW (fuel : Nat) (a0 : List (Int × T)) : Option Bool :=
 (qbz (some (true)) a0 fuel a0)
theorem qkn (fuel : Nat) (a0 : List (Int × T)) (res : Bool) (hr : qeW fuel a0 = some res) : zf Tryz.prog 81 [.lst (a0.map zo)] (.bool res) := by
 unfold qeW at hr
 refine qY Tryz.func81 rfl fun K hK => (qf 5 rfl ?_)
 obtain ⟨kk0, hkk0, hr⟩ := exK (fun k => qbz k a0 fuel a0) hr
 refine qcq 0 rfl (asl rfl) fun hla0 => ?_
 simp only [jb] at hla0
 refine qx (fun env σ => env = [] ∧ σ = [] ∧ kk0 = some res) ?_ (fun HK0 => ?_)
 ·
  rintro _ _ ⟨rfl, rfl, hr⟩
  rw [hkk0] at hr
  refine qf 2 rfl ?_
  cases hr
  refine qu Tryz.func81 rfl ?_
  rfl
 ·
  refine qm [0, 3] rfl (q9 (fun n env σ => ∃ (i1 : Nat), (n = a0.length - i1) ∧ (env = [(0, .lst (a0.map zo)), (3, .int .i64 (i1 : Int))]) ∧ (σ = []) ∧ (i1 ≤ a0.length) ∧ (qbz kk0 a0 fuel (a0.drop i1) = some res)) _ ⟨0, rfl, rfl, rfl, jc _, hr⟩ ?_)
  rintro n _ _ ⟨i1, rfl, rfl, rfl, hi0, hr⟩ IH0
  rcases zb a0 i1 hi0 with ⟨ht0, hd0, he0⟩ | ⟨q_2, ht0, hd0, hq0, hlt0⟩
  ·
   rw [hd0, qbz] at hr
   refine qe (qe (qg 4 (qa 2 rfl (qz rfl (qa 1 rfl (qb (qk 11 false rfl ht0 (qA rfl (qQ rfl (qm [] rfl ?_))))))))))
   exact HK0 _ _ ⟨rfl, rfl, hr⟩
  ·
   rw [hd0, qbz] at hr
   refine qe (qe (qg 4 (qa 2 rfl (qz rfl (qa 1 rfl (qb (qk 11 true rfl ht0 (qf 5 rfl (qg 7 (qa 2 rfl (qN hq0 rfl (qa 2 rfl ?_))))))))))))
   obtain ⟨r3, h3, hr⟩ := za hr
   refine qs rfl qfX (qf3 fuel _ _ h3) (qa 1 rfl (qb (qf 2 rfl ?_)))
   obtain ⟨kk1, hkk1, hr⟩ := exK (fun k => qbv k a0 r3) hr
   refine qcq 19 rfl (asl rfl) fun hla1 => ?_
   simp only [jb] at hla1
   refine qx (fun env σ => env = [(0, .lst (a0.map zo)), (3, .int .i64 (i1 : Int))] ∧ σ = [] ∧ kk1 = some res) ?_ (fun HK1 => ?_)
   ·
    rintro _ _ ⟨rfl, rfl, hr⟩
    rw [hkk1] at hr
    refine qaa (qg 3 (qa 1 rfl (qaj rfl (qa 1 rfl (qb (qm [0, 3] rfl ?_))))))
    exact IH0 _ _ _ (by omega) ⟨(i1 + 1), rfl, rfl, rfl, (by omega), hr⟩
   ·
    refine qm [0, 3, 4, 5] rfl (q9 (fun n env σ => ∃ (k4 : Nat), (n = r3.length - k4) ∧ (env = [(0, .lst (a0.map zo)), (3, .int .i64 (i1 : Int)), (4, .lst (r3.map (D.int .i64))), (5, .int .i64 (k4 : Int))]) ∧ (σ = []) ∧ (k4 ≤ r3.length) ∧ (qbv kk1 a0 (r3.drop k4) = some res)) _ ⟨0, rfl, rfl, rfl, jc _, hr⟩ ?_)
    rintro n _ _ ⟨k4, rfl, rfl, rfl, hi1, hr⟩ IH1
    rcases zb r3 k4 hi1 with ⟨ht1, hd1, he1⟩ | ⟨q_5, ht1, hd1, hq1, hlt1⟩
    ·
     rw [hd1, qbv] at hr
     refine qe (qe (qg 4 (qa 2 rfl (qz rfl (qa 1 rfl (qb (qk 23 false rfl ht1 (qA rfl (qQ rfl (qm [0, 3] rfl ?_))))))))))
     exact HK1 _ _ ⟨rfl, rfl, hr⟩
    ·
     rw [hd1, qbv] at hr
     refine qe (qe (qg 4 (qa 2 rfl (qz rfl (qa 1 rfl (qb (qk 23 true rfl ht1 (qf 5 rfl (zg 12 1310720 (qa 3 rfl (qN hq1 rfl (qa 1 rfl ?_))))))))))))
     obtain ⟨r6, h6, hr⟩ := za hr
     refine qs rfl qeJ (qeD _ _ _ h6) (qa 3 rfl (ew rfl (qaJ rfl qc0) ?_))
     rintro _ _ ⟨b6_6, rfl, rfl⟩
     refine qcr rfl (pf0 _) (qa 1 rfl (qb (qaR 6 b6_6 rfl (pf0 _) (qf 2 rfl ?_))))
     refine zh 35 rfl hr (fun h35_7 hr => ?_) (fun h35_7 hr => ?_)
     ·
      refine qf 3 rfl ?_
      cases hr
      refine qu Tryz.func81 rfl ?_
      rfl
     ·
      refine qf 3 rfl (qg 3 (qa 1 rfl (qaj rfl (qa 1 rfl (qb (qm [0, 3, 4, 5] rfl ?_))))))
      exact IH1 _ _ _ (by omega) ⟨(k4 + 1), rfl, rfl, rfl, (by omega), hr⟩
def qat (k : Option Bool) (a0 : List (Int × T)) : List (Int × T) → Nat → Option Bool
 | [], i1 =>
 k
 | q_3 :: rest, i1 =>
 (bif (decide (q_3.1 < (0 : Int))) then
 some (false)
 else
 (bif (decide (q_3.1 > (1048576 : Int))) then
 some (false)
 else
 (bif (decide ((i1 : Int) > (0 : Int))) then
 ((zj a0 (wr ((i1 : Int) - (1 : Int)))).bind fun q_7 =>
 (bif (decide (q_3.1 ≤ q_7.1)) then
 some (false)
 else
 ((qjz q_3.2).bind fun r9 =>
 (bif (!r9) then
 some (false)
 else
 (qat k a0 rest (i1 + 1))))))
 else
 ((qjz q_3.2).bind fun r11 =>
 (bif (!r11) then
 some (false)
 else
 (qat k a0 rest (i1 + 1)))))))
def qdu (fuel : Nat) (a0 : List (Int × T)) : Option Bool :=
 (qat (((qeW fuel a0).bind fun r2 =>
 some (r2))) a0 a0 0)
theorem qho (fuel : Nat) (a0 : List (Int × T)) (res : Bool) (hr : qdu fuel a0 = some res) : zf Tryz.prog 45 [.lst (a0.map zo)] (.bool res) := by
 unfold qdu at hr
 refine qY Tryz.func45 rfl fun K hK => (qf 5 rfl ?_)
 obtain ⟨kk0, hkk0, hr⟩ := exK (fun k => qat k a0 a0 0) hr
 refine qcq 0 rfl (asl rfl) fun hla0 => ?_
 simp only [jb] at hla0
 refine qx (fun env σ => env = [(0, .lst (a0.map zo))] ∧ σ = [] ∧ kk0 = some res) ?_ (fun HK0 => ?_)
 ·
  rintro _ _ ⟨rfl, rfl, hr⟩
  rw [hkk0] at hr
  refine qe (qg 3 (qa 1 rfl ?_))
  obtain ⟨r2, h2, hr⟩ := za hr
  refine qs rfl qkt (qkn fuel _ _ h2) (qa 1 rfl (qb ?_))
  cases hr
  refine qu Tryz.func45 rfl ?_
  rfl
 ·
  refine qm [0, 3] rfl (q9 (fun n env σ => ∃ (i1 : Nat), (n = a0.length - i1) ∧ (env = [(0, .lst (a0.map zo)), (3, .int .i64 (i1 : Int))]) ∧ (σ = []) ∧ (i1 ≤ a0.length) ∧ (qat kk0 a0 (a0.drop i1) i1 = some res)) _ ⟨0, rfl, rfl, rfl, jc _, hr⟩ ?_)
  rintro n _ _ ⟨i1, rfl, rfl, rfl, hi0, hr⟩ IH0
  rcases zb a0 i1 hi0 with ⟨ht0, hd0, he0⟩ | ⟨q_3, ht0, hd0, hq0, hlt0⟩
  ·
   rw [hd0, qat] at hr
   refine qe (qe (qg 4 (qa 2 rfl (qz rfl (qa 1 rfl (qb (qk 7 false rfl ht0 (qA rfl (qQ rfl (qm [0] rfl ?_))))))))))
   exact HK0 _ _ ⟨rfl, rfl, hr⟩
  ·
   rw [hd0, qat] at hr
   refine qe (qe (qg 4 (qa 2 rfl (qz rfl (qa 1 rfl (qb (qk 7 true rfl ht0 (qf 5 rfl (qei 41 0 (qa 2 rfl (qN hq0 rfl (qa 4 rfl ?_))))))))))))
   refine zq 16 rfl hr (fun h16_3 hr => ?_) (fun h16_3 hr => ?_)
   ·
    refine qa 34 rfl (qb (qf 3 rfl ?_))
    cases hr
    refine qu Tryz.func45 rfl ?_
    rfl
   ·
    refine qa 2 rfl (qN hq0 rfl (qa 5 rfl ?_))
    refine zq 24 rfl hr (fun h24_4 hr => ?_) (fun h24_4 hr => ?_)
    ·
     refine qa 26 rfl (qb (qf 3 rfl ?_))
     cases hr
     refine qu Tryz.func45 rfl ?_
     rfl
    ·
     refine qa 3 rfl ?_
     refine zq 27 rfl hr (fun h27_5 hr => ?_) (fun h27_5 hr => ?_)
     ·
      refine qa 2 rfl (qN hq0 rfl (qa 4 rfl (rd rfl (qeF rfl rfl rfl rfl) ?_)))
      obtain ⟨q_7, h7, hr⟩ := za hr
      refine qN h7 rfl (qa 6 rfl ?_)
      refine zq 42 rfl hr (fun h42_7 hr => ?_) (fun h42_7 hr => ?_)
      ·
       refine qa 8 rfl (qb (qf 3 rfl ?_))
       cases hr
       refine qu Tryz.func45 rfl ?_
       rfl
      ·
       refine qa 2 rfl (qN hq0 rfl (qa 2 rfl ?_))
       obtain ⟨r9, h9, hr⟩ := za hr
       refine qs rfl qdt (qdm _ _ h9) (qa 2 rfl (qb ?_))
       refine zh 50 rfl hr (fun h50_9 hr => ?_) (fun h50_9 hr => ?_)
       ·
        refine qf 3 rfl ?_
        cases hr
        refine qu Tryz.func45 rfl ?_
        rfl
       ·
        refine qf 3 rfl (qg 3 (qa 1 rfl (qaj rfl (qa 1 rfl (qb (qm [0, 3] rfl ?_))))))
        exact IH0 _ _ _ (by omega) ⟨(i1 + 1), rfl, rfl, rfl, (by omega), hr⟩
     ·
      refine qa 17 rfl (qN hq0 rfl (qa 2 rfl ?_))
      obtain ⟨r11, h11, hr⟩ := za hr
      refine qs rfl qdt (qdm _ _ h11) (qa 2 rfl (qb ?_))
      refine zh 50 rfl hr (fun h50_11 hr => ?_) (fun h50_11 hr => ?_)
      ·
       refine qf 3 rfl ?_
       cases hr
       refine qu Tryz.func45 rfl ?_
       rfl
      ·
       refine qf 3 rfl (qg 3 (qa 1 rfl (qaj rfl (qa 1 rfl (qb (qm [0, 3] rfl ?_))))))
       exact IH0 _ _ _ (by omega) ⟨(i1 + 1), rfl, rfl, rfl, (by omega), hr⟩
def qbU (k : Option Bool) (a1 : Int) : List Int → Option Bool
 | [] =>
 k
 | q_2 :: rest =>
 (bif (q_2 == a1) then
 some (true)
 else
 (qbU k a1 rest))
def qfb (a0 : List Int) (a1 : Int) : Option Bool :=
 (qbU (some (false)) a1 a0)
theorem qh0 (a0 : List Int) (a1 : Int) (res : Bool) (hr : qfb a0 a1 = some res) : zf Tryz.prog 113 [.lst (a0.map (D.int .i64)), .int .i64 a1] (.bool res) := by
 unfold qfb at hr
 refine qY Tryz.func113 rfl fun K hK => (qf 5 rfl ?_)
 obtain ⟨kk0, hkk0, hr⟩ := exK (fun k => qbU k a1 a0) hr
 refine qcq 0 rfl (asl rfl) fun hla0 => ?_
 simp only [jb] at hla0
 refine qx (fun env σ => env = [] ∧ σ = [] ∧ kk0 = some res) ?_ (fun HK0 => ?_)
 ·
  rintro _ _ ⟨rfl, rfl, hr⟩
  rw [hkk0] at hr
  refine qf 2 rfl ?_
  cases hr
  refine qu Tryz.func113 rfl ?_
  rfl
 ·
  refine qm [0, 1, 5] rfl (q9 (fun n env σ => ∃ (i1 : Nat), (n = a0.length - i1) ∧ (env = [(0, .lst (a0.map (D.int .i64))), (1, .int .i64 a1), (5, .int .i64 (i1 : Int))]) ∧ (σ = []) ∧ (i1 ≤ a0.length) ∧ (qbU kk0 a1 (a0.drop i1) = some res)) _ ⟨0, rfl, rfl, rfl, jc _, hr⟩ ?_)
  rintro n _ _ ⟨i1, rfl, rfl, rfl, hi0, hr⟩ IH0
  rcases zb a0 i1 hi0 with ⟨ht0, hd0, he0⟩ | ⟨q_2, ht0, hd0, hq0, hlt0⟩
  ·
   rw [hd0, qbU] at hr
   refine qe (qe (qg 4 (qa 2 rfl (qz rfl (qa 1 rfl (qb (qk 9 false rfl ht0 (qA rfl (qQ rfl (qm [] rfl ?_))))))))))
   exact HK0 _ _ ⟨rfl, rfl, hr⟩
  ·
   rw [hd0, qbU] at hr
   refine qe (qe (qg 4 (qa 2 rfl (qz rfl (qa 1 rfl (qb (qk 9 true rfl ht0 (qf 5 rfl (qg 6 (qa 2 rfl (qN hq0 rfl (qa 3 rfl (qb ?_)))))))))))))
   refine zh 17 rfl hr (fun h17_2 hr => ?_) (fun h17_2 hr => ?_)
   ·
    refine qf 3 rfl ?_
    cases hr
    refine qu Tryz.func113 rfl ?_
    rfl
   ·
    refine qf 3 rfl (qg 3 (qa 1 rfl (qaj rfl (qa 1 rfl (qb (qm [0, 1, 5] rfl ?_))))))
    exact IH0 _ _ _ (by omega) ⟨(i1 + 1), rfl, rfl, rfl, (by omega), hr⟩
def qbo (k : Option Bool) (a0 : qq) : List Int → Nat → Option Bool
 | [], i5 =>
 k
 | q_6 :: rest, i5 =>
 (bif (decide (q_6 < (1 : Int))) then
 some (false)
 else
 ((yt a0.f1_IDs 0 (i5 : Int)).bind fun l8 =>
 ((qfb l8 q_6).bind fun r9 =>
 (bif r9 then
 some (false)
 else
 (qbo k a0 rest (i5 + 1))))))
def qdl (a0 : qq) : Option Bool :=
 (bif (decide (a0.f0_Rule < (0 : Int))) then
 some (false)
 else
 (bif (decide (a0.f0_Rule ≥ (40 : Int))) then
 some (false)
 else
 (bif (decide ((a0.f1_IDs.length : Int) < (1 : Int))) then
 some (false)
 else
 (bif (decide ((a0.f1_IDs.length : Int) > (4 : Int))) then
 some (false)
 else
 (qbo (some (true)) a0 a0.f1_IDs 0)))))
theorem qhC (a0 : qq) (res : Bool) (hr : qdl a0 = some res) : zf Tryz.prog 82 [qh a0] (.bool res) := by
 unfold qdl at hr
 refine qY Tryz.func82 rfl fun K hK => (qe (qg 2 (rd rfl (qcK rfl rfl rfl) (qa 1 rfl (qb (qe (qe (qg 20 (qa 4 rfl ?_)))))))))
 refine zq 7 rfl hr (fun h7_0 hr => ?_) (fun h7_0 hr => ?_)
 ·
  refine qa 16 rfl (qb (qf 3 rfl ?_))
  cases hr
  refine qu Tryz.func82 rfl ?_
  rfl
 ·
  refine qa 5 rfl ?_
  refine zq 12 rfl hr (fun h12_1 hr => ?_) (fun h12_1 hr => ?_)
  ·
   refine qa 11 rfl (qb (qf 3 rfl ?_))
   cases hr
   refine qu Tryz.func82 rfl ?_
   rfl
  ·
   refine qa 2 rfl (qz rfl (qa 3 rfl ?_))
   refine zq 18 rfl hr (fun h18_2 hr => ?_) (fun h18_2 hr => ?_)
   ·
    refine qa 5 rfl (qb (qf 3 rfl ?_))
    cases hr
    refine qu Tryz.func82 rfl ?_
    rfl
   ·
    refine qa 2 rfl (qz rfl (qa 2 rfl (qb ?_)))
    refine zh 23 rfl hr (fun h23_3 hr => ?_) (fun h23_3 hr => ?_)
    ·
     refine qf 3 rfl ?_
     cases hr
     refine qu Tryz.func82 rfl ?_
     rfl
    ·
     refine qf 5 rfl ?_
     obtain ⟨kk0, hkk0, hr⟩ := exK (fun k => qbo k a0 a0.f1_IDs 0) hr
     refine qcq 14 rfl (asl rfl) fun hla0 => ?_
     simp only [jb] at hla0
     refine qx (fun env σ => env = [] ∧ σ = [] ∧ kk0 = some res) ?_ (fun HK0 => ?_)
     ·
      rintro _ _ ⟨rfl, rfl, hr⟩
      rw [hkk0] at hr
      refine qf 2 rfl ?_
      cases hr
      refine qu Tryz.func82 rfl ?_
      rfl
     ·
      refine qm [1, 3] rfl (q9 (fun n env σ => ∃ (i5 : Nat), (n = a0.f1_IDs.length - i5) ∧ (env = [(1, .ptr (qh a0)), (3, .int .i64 (i5 : Int))]) ∧ (σ = []) ∧ (i5 ≤ a0.f1_IDs.length) ∧ (qbo kk0 a0 (a0.f1_IDs.drop i5) i5 = some res)) _ ⟨0, rfl, rfl, rfl, jc _, hr⟩ ?_)
      rintro n _ _ ⟨i5, rfl, rfl, rfl, hi0, hr⟩ IH0
      rcases zb a0.f1_IDs i5 hi0 with ⟨ht0, hd0, he0⟩ | ⟨q_6, ht0, hd0, hq0, hlt0⟩
      ·
       rw [hd0, qbo] at hr
       refine qe (qe (qg 5 (qa 3 rfl (qz rfl (qa 1 rfl (qb (qk 28 false rfl ht0 (qA rfl (qQ rfl (qm [] rfl ?_))))))))))
       exact HK0 _ _ ⟨rfl, rfl, hr⟩
      ·
       rw [hd0, qbo] at hr
       refine qe (qe (qg 5 (qa 3 rfl (qz rfl (qa 1 rfl (qb (qk 28 true rfl ht0 (qf 5 rfl (qei 18 0 (qa 3 rfl (qN hq0 rfl (qa 3 rfl ?_))))))))))))
       refine zq 37 rfl hr (fun h37_6 hr => ?_) (fun h37_6 hr => ?_)
       ·
        refine qa 11 rfl (qb (qf 3 rfl ?_))
        cases hr
        refine qu Tryz.func82 rfl ?_
        rfl
       ·
        refine qa 3 rfl ?_
        obtain ⟨l8, h8, hr⟩ := za hr
        refine rd rfl (qnv (f := (D.int .i64)) a0.f1_IDs 0 (i5 : Int) rfl qc7 rfl (asl rfl) qmf (qma rfl) (fun _ => rfl) h8) (qa 3 rfl (qN hq0 rfl (qa 1 rfl ?_)))
        obtain ⟨r9, h9, hr⟩ := za hr
        refine qs rfl qh5 (qh0 _ _ _ h9) (qa 1 rfl (qb ?_))
        refine zh 48 rfl hr (fun h48_9 hr => ?_) (fun h48_9 hr => ?_)
        ·
         refine qf 3 rfl ?_
         cases hr
         refine qu Tryz.func82 rfl ?_
         rfl
        ·
         refine qf 3 rfl (qg 3 (qa 1 rfl (qaj rfl (qa 1 rfl (qb (qm [1, 3] rfl ?_))))))
         exact IH0 _ _ _ (by omega) ⟨(i5 + 1), rfl, rfl, rfl, (by omega), hr⟩
def qc2 (a0 : Int) (a1 : Int) : Option Int :=
 (bif (decide (a0 < a1)) then
 some ((-1))
 else
 (bif (decide (a0 > a1)) then
 some (1)
 else
 some (0)))
theorem qfT (a0 : Int) (a1 : Int) (res : Int) (hr : qc2 a0 a1 = some res) : zf Tryz.prog 114 [.int .i64 a0, .int .i64 a1] (.int .i64 res) := by
 unfold qc2 at hr
 refine qY Tryz.func114 rfl fun K hK => (qf 6 rfl ?_)
 refine zh 5 rfl hr (fun h5_0 hr => ?_) (fun h5_0 hr => ?_)
 ·
  refine qf 3 rfl ?_
  cases hr
  refine qu Tryz.func114 rfl ?_
  rfl
 ·
  refine qf 3 rfl ?_
  refine zh 9 rfl hr (fun h9_1 hr => ?_) (fun h9_1 hr => ?_)
  ·
   refine qf 3 rfl ?_
   cases hr
   refine qu Tryz.func114 rfl ?_
   rfl
  ·
   refine qf 5 rfl ?_
   cases hr
   refine qu Tryz.func114 rfl ?_
   rfl
def qa2 (k : Int → Option Int) (a1 : qq) : List Int → Int → Nat → Option Int
 | [], c3, i4 =>
 (k c3)
 | q_6 :: rest, c3, i4 =>
 (bif (decide ((i4 : Int) < (a1.f1_IDs.length : Int))) then
 (bif (c3 == (0 : Int)) then
 ((zj a1.f1_IDs (i4 : Int)).bind fun q_9 =>
 ((qc2 q_6 q_9).bind fun r10 =>
 (qa2 k a1 rest r10 (i4 + 1))))
 else
 (k c3))
 else
 (k c3))
def qdZ (k : Int → Option Int) (a0 : qq) (a1 : qq) (r1 : Int) : Option Int :=
 (bif (r1 == (0 : Int)) then
 ((qc2 (a0.f1_IDs.length : Int) (a1.f1_IDs.length : Int)).bind fun r12 =>
 (k r12))
 else
 (k r1))
def qcz (a0 : qq) (a1 : qq) : Option Int :=
 ((qc2 a0.f0_Rule a1.f0_Rule).bind fun r1 =>
 (qdZ (fun c2 =>
 (qa2 (fun c5 =>
 some (c5)) a1 a0.f1_IDs c2 0)) a0 a1 r1))
theorem qfk (a0 : qq) (a1 : qq) (res : Int) (hr : qcz a0 a1 = some res) : zf Tryz.prog 83 [qh a0, qh a1] (.int .i64 res) := by
 unfold qcz at hr
 refine qY Tryz.func83 rfl fun K hK => (qe (qg 3 (rd rfl (qcK rfl rfl rfl) (rd rfl (qcK rfl rfl rfl) (qa 1 rfl (qb (qe (qg 6 (qa 4 rfl ?_)))))))))
 obtain ⟨r1, h1, hr⟩ := za hr
 refine qs rfl qf0 (qfT _ _ _ h1) (qa 1 rfl (qb ?_))
 obtain ⟨kkJ0, hkkJ0, hr⟩ := exK (fun k => qdZ k a0 a1 r1) hr
 refine qtU (fun env σ => ∃ (c2 : Int), env = [(2, .ptr (qh a0)), (3, .ptr (qh a1)), (5, .int .i64 c2)] ∧ σ = [] ∧ kkJ0 c2 = some res) ?_ (fun HKJ0 => ?_)
 ·
  rintro _ _ ⟨c2, rfl, rfl, hr⟩
  rw [hkkJ0] at hr
  refine qf 3 rfl ?_
  obtain ⟨kk0, hkk0, hr⟩ := exK (fun k => qa2 k a1 a0.f1_IDs c2 0) hr
  refine ql3 2 [1] (l := a0.f1_IDs.map (D.int .i64)) rfl rfl (asl rfl) fun hla0 => ?_
  simp only [jb] at hla0
  refine qx (fun env σ => ∃ (c5 : Int), env = [(5, .int .i64 c5)] ∧ σ = [] ∧ kk0 c5 = some res) ?_ (fun HK0 => ?_)
  ·
   rintro _ _ ⟨c5, rfl, rfl, hr⟩
   rw [hkk0] at hr
   refine qf 2 rfl ?_
   cases hr
   refine qu Tryz.func83 rfl ?_
   rfl
  ·
   refine qm [2, 3, 5, 6] rfl (q9 (fun n env σ => ∃ (c3 : Int) (i4 : Nat), (n = a0.f1_IDs.length - i4) ∧ (env = [(2, .ptr (qh a0)), (3, .ptr (qh a1)), (5, .int .i64 c3), (6, .int .i64 (i4 : Int))]) ∧ (σ = []) ∧ (i4 ≤ a0.f1_IDs.length) ∧ (qa2 kk0 a1 (a0.f1_IDs.drop i4) c3 i4 = some res)) _ ⟨c2, 0, rfl, rfl, rfl, jc _, hr⟩ ?_)
   rintro n _ _ ⟨c3, i4, rfl, rfl, rfl, hi0, hr⟩ IH0
   rcases zb a0.f1_IDs i4 hi0 with ⟨ht0, hd0, he0⟩ | ⟨q_6, ht0, hd0, hq0, hlt0⟩
   ·
    rw [hd0, qa2] at hr
    refine qe (qe (qg 16 (qa 3 rfl (qz rfl (qa 2 rfl (qiz 26 false rfl ht0 (qa 10 rfl (qb (qA rfl (qQ rfl (qm [5] rfl ?_)))))))))))
    exact HK0 _ _ ⟨c3, rfl, rfl, hr⟩
   ·
    rw [hd0, qa2] at hr
    refine qe (qe (qg 16 (qa 3 rfl (qz rfl (qa 2 rfl (qiz 26 true rfl ht0 (qa 3 rfl (qz rfl (qa 3 rfl ?_)))))))))
    refine zq 33 rfl hr (fun h33_6 hr => ?_) (fun h33_6 hr => ?_)
    ·
     refine qa 3 rfl (qb ?_)
     refine zh 36 rfl hr (fun h36_7 hr => ?_) (fun h36_7 hr => ?_)
     ·
      refine qf 4 rfl (qei 12 0 (qa 3 rfl (qN hq0 rfl (qa 4 rfl ?_))))
      obtain ⟨q_9, h9, hr⟩ := za hr
      refine qN h9 rfl (qa 1 rfl ?_)
      obtain ⟨r10, h10, hr⟩ := za hr
      refine qs rfl qf0 (qfT _ _ _ h10) (qa 1 rfl (qb (qaa (qg 3 (qa 1 rfl (qaj rfl (qa 1 rfl (qb (qm [2, 3, 5, 6] rfl ?_)))))))))
      exact IH0 _ _ _ (by omega) ⟨r10, (i4 + 1), rfl, rfl, rfl, (by omega), hr⟩
     ·
      refine qA rfl (qQ rfl (qm [5] rfl ?_))
      exact HK0 _ _ ⟨c3, rfl, rfl, hr⟩
    ·
     refine qa 3 rfl (qb (qA rfl (qQ rfl (qm [5] rfl ?_))))
     exact HK0 _ _ ⟨c3, rfl, rfl, hr⟩
 ·
  unfold qdZ at hr
  refine qf 2 rfl ?_
  refine zh 13 rfl hr (fun h13_10 hr => ?_) (fun h13_10 hr => ?_)
  ·
   refine qO rfl (qg 8 (qa 2 rfl (qz rfl (qa 2 rfl (qz rfl ?_)))))
   obtain ⟨r12, h12, hr⟩ := za hr
   refine qs rfl qf0 (qfT _ _ _ h12) (qa 1 rfl (qb (qm [2, 3, 5] rfl ?_)))
   exact HKJ0 _ _ ⟨r12, rfl, rfl, hr⟩
  ·
   refine qA rfl (ql1 (qm [2, 3, 5] rfl ?_))
   exact HKJ0 _ _ ⟨r1, rfl, rfl, hr⟩
def qar (k : Option Bool) (a0 : List qq) : List qq → Nat → Option Bool
 | [], i2 =>
 k
 | q_3 :: rest, i2 =>
 ((qdl q_3).bind fun r4 =>
 (bif (!r4) then
 some (false)
 else
 (bif (decide ((i2 : Int) > (0 : Int))) then
 ((zj a0 (wr ((i2 : Int) - (1 : Int)))).bind fun q_7 =>
 ((qcz q_7 q_3).bind fun r8 =>
 (bif (decide (r8 ≥ (0 : Int))) then
 some (false)
 else
 (qar k a0 rest (i2 + 1)))))
 else
 (qar k a0 rest (i2 + 1)))))
def qdr (a0 : List qq) : Option Bool :=
 (bif (decide ((a0.length : Int) > (5000 : Int))) then
 some (false)
 else
 (qar (some (true)) a0 a0 0))
theorem qhj (a0 : List qq) (res : Bool) (hr : qdr a0 = some res) : zf Tryz.prog 46 [.lst (a0.map qh)] (.bool res) := by
 unfold qdr at hr
 refine qY Tryz.func46 rfl fun K hK => (qf 4 rfl (qg 3 (qa 1 rfl (qz rfl (qa 1 rfl (qb ?_))))))
 refine zh 6 rfl hr (fun h6_0 hr => ?_) (fun h6_0 hr => ?_)
 ·
  refine qf 3 rfl ?_
  cases hr
  refine qu Tryz.func46 rfl ?_
  rfl
 ·
  refine qf 5 rfl ?_
  obtain ⟨kk0, hkk0, hr⟩ := exK (fun k => qar k a0 a0 0) hr
  refine qcq 0 rfl (asl rfl) fun hla0 => ?_
  simp only [jb] at hla0
  refine qx (fun env σ => env = [] ∧ σ = [] ∧ kk0 = some res) ?_ (fun HK0 => ?_)
  ·
   rintro _ _ ⟨rfl, rfl, hr⟩
   rw [hkk0] at hr
   refine qf 2 rfl ?_
   cases hr
   refine qu Tryz.func46 rfl ?_
   rfl
  ·
   refine qm [0, 3] rfl (q9 (fun n env σ => ∃ (i2 : Nat), (n = a0.length - i2) ∧ (env = [(0, .lst (a0.map qh)), (3, .int .i64 (i2 : Int))]) ∧ (σ = []) ∧ (i2 ≤ a0.length) ∧ (qar kk0 a0 (a0.drop i2) i2 = some res)) _ ⟨0, rfl, rfl, rfl, jc _, hr⟩ ?_)
   rintro n _ _ ⟨i2, rfl, rfl, rfl, hi0, hr⟩ IH0
   rcases zb a0 i2 hi0 with ⟨ht0, hd0, he0⟩ | ⟨q_3, ht0, hd0, hq0, hlt0⟩
   ·
    rw [hd0, qar] at hr
    refine qe (qe (qg 4 (qa 2 rfl (qz rfl (qa 1 rfl (qb (qk 10 false rfl ht0 (qA rfl (qQ rfl (qm [] rfl ?_))))))))))
    exact HK0 _ _ ⟨rfl, rfl, hr⟩
   ·
    rw [hd0, qar] at hr
    refine qe (qe (qg 4 (qa 2 rfl (qz rfl (qa 1 rfl (qb (qk 10 true rfl ht0 (qf 5 rfl (qei 23 0 (qa 2 rfl (qN hq0 rfl (qa 1 rfl ?_))))))))))))
    obtain ⟨r4, h4, hr⟩ := za hr
    refine qs rfl qhB (qhC _ _ h4) (qa 2 rfl ?_)
    refine zq 19 rfl hr (fun h19_4 hr => ?_) (fun h19_4 hr => ?_)
    ·
     refine qa 16 rfl (qb (qf 3 rfl ?_))
     cases hr
     refine qu Tryz.func46 rfl ?_
     rfl
    ·
     refine qa 3 rfl ?_
     refine zq 22 rfl hr (fun h22_5 hr => ?_) (fun h22_5 hr => ?_)
     ·
      refine qa 2 rfl (rd rfl (qeF rfl rfl rfl rfl) ?_)
      obtain ⟨q_7, h7, hr⟩ := za hr
      refine qN h7 rfl (qa 3 rfl (qN hq0 rfl (qa 1 rfl ?_)))
      obtain ⟨r8, h8, hr⟩ := za hr
      refine qs rfl qfh (qfk _ _ _ h8) (qa 3 rfl (qb ?_))
      refine zh 35 rfl hr (fun h35_8 hr => ?_) (fun h35_8 hr => ?_)
      ·
       refine qf 3 rfl ?_
       cases hr
       refine qu Tryz.func46 rfl ?_
       rfl
      ·
       refine qf 3 rfl (qg 3 (qa 1 rfl (qaj rfl (qa 1 rfl (qb (qm [0, 3] rfl ?_))))))
       exact IH0 _ _ _ (by omega) ⟨(i2 + 1), rfl, rfl, rfl, (by omega), hr⟩
     ·
      refine qa 13 rfl (qb (qf 3 rfl (qg 3 (qa 1 rfl (qaj rfl (qa 1 rfl (qb (qm [0, 3] rfl ?_))))))))
      exact IH0 _ _ _ (by omega) ⟨(i2 + 1), rfl, rfl, rfl, (by omega), hr⟩
def qep (fuel : Nat) (a0 : At) : Option (List Int) :=
 ((qbV fuel a0.ts).bind fun r1 =>
 some (r1))
theorem qje (fuel : Nat) (a0 : At) (res : List Int) (hr : qep fuel a0 = some res) : zf Tryz.prog 48 [zX a0] (.lst (res.map (D.int .i64))) := by
 unfold qep at hr
 refine qY Tryz.func48 rfl fun K hK => (qe (qg 2 (rd rfl (qcK rfl rfl rfl) (qa 1 rfl (qb (qe (qg 4 (qa 2 rfl ?_))))))))
 obtain ⟨r1, h1, hr⟩ := za hr
 refine qs rfl qeE (qeI fuel _ _ h1) (qa 1 rfl (qb ?_))
 cases hr
 refine qu Tryz.func48 rfl ?_
 rfl
def qbL (k : Option Bool) (a2 : List (Int × T)) (a1 : Int) : List Int → Option Bool
 | [] =>
 k
 | q_2 :: rest =>
 (bif (decide (q_2 ≥ a1)) then
 some (false)
 else
 ((qcG a2 q_2).bind fun r4 =>
 (bif r4.2 then
 some (false)
 else
 (qbL k a2 a1 rest))))
def qc4 (a0 : List Int) (a1 : Int) (a2 : List (Int × T)) : Option Bool :=
 (qbL (some (true)) a2 a1 a0)
theorem qfS (a0 : List Int) (a1 : Int) (a2 : List (Int × T)) (res : Bool) (hr : qc4 a0 a1 a2 = some res) : zf Tryz.prog 47 [.lst (a0.map (D.int .i64)), .int .i64 a1, .lst (a2.map zo)] (.bool res) := by
 unfold qc4 at hr
 refine qY Tryz.func47 rfl fun K hK => (qf 5 rfl ?_)
 obtain ⟨kk0, hkk0, hr⟩ := exK (fun k => qbL k a2 a1 a0) hr
 refine qcq 0 rfl (asl rfl) fun hla0 => ?_
 simp only [jb] at hla0
 refine qx (fun env σ => env = [] ∧ σ = [] ∧ kk0 = some res) ?_ (fun HK0 => ?_)
 ·
  rintro _ _ ⟨rfl, rfl, hr⟩
  rw [hkk0] at hr
  refine qf 2 rfl ?_
  cases hr
  refine qu Tryz.func47 rfl ?_
  rfl
 ·
  refine qm [0, 1, 2, 7] rfl (q9 (fun n env σ => ∃ (i1 : Nat), (n = a0.length - i1) ∧ (env = [(0, .lst (a0.map (D.int .i64))), (1, .int .i64 a1), (2, .lst (a2.map zo)), (7, .int .i64 (i1 : Int))]) ∧ (σ = []) ∧ (i1 ≤ a0.length) ∧ (qbL kk0 a2 a1 (a0.drop i1) = some res)) _ ⟨0, rfl, rfl, rfl, jc _, hr⟩ ?_)
  rintro n _ _ ⟨i1, rfl, rfl, rfl, hi0, hr⟩ IH0
  rcases zb a0 i1 hi0 with ⟨ht0, hd0, he0⟩ | ⟨q_2, ht0, hd0, hq0, hlt0⟩
  ·
   rw [hd0, qbL] at hr
   refine qe (qe (qg 4 (qa 2 rfl (qz rfl (qa 1 rfl (qb (qk 13 false rfl ht0 (qA rfl (qQ rfl (qm [] rfl ?_))))))))))
   exact HK0 _ _ ⟨rfl, rfl, hr⟩
  ·
   rw [hd0, qbL] at hr
   refine qe (qe (qg 4 (qa 2 rfl (qz rfl (qa 1 rfl (qb (qk 13 true rfl ht0 (qf 6 rfl (qg 6 (qa 2 rfl (qN hq0 rfl (qa 3 rfl (qb ?_)))))))))))))
   refine zh 21 rfl hr (fun h21_2 hr => ?_) (fun h21_2 hr => ?_)
   ·
    refine qf 3 rfl ?_
    cases hr
    refine qu Tryz.func47 rfl ?_
    rfl
   ·
    refine qf 3 rfl (zg 12 1310720 (qa 3 rfl (qN hq0 rfl (qa 1 rfl ?_))))
    obtain ⟨r4, h4, hr⟩ := za hr
    refine qs rfl qeJ (qeD _ _ _ h4) (qa 3 rfl (ew rfl (qaJ rfl qc0) ?_))
    rintro _ _ ⟨b8_4, rfl, rfl⟩
    refine qcr rfl (pf0 _) (qa 1 rfl (qb (qaR 8 b8_4 rfl (pf0 _) (qf 2 rfl ?_))))
    refine zh 31 rfl hr (fun h31_5 hr => ?_) (fun h31_5 hr => ?_)
    ·
     refine qf 3 rfl ?_
     cases hr
     refine qu Tryz.func47 rfl ?_
     rfl
    ·
     refine qf 3 rfl (qg 3 (qa 1 rfl (qaj rfl (qa 1 rfl (qb (qm [0, 1, 2, 7] rfl ?_))))))
     exact IH0 _ _ _ (by omega) ⟨(i1 + 1), rfl, rfl, rfl, (by omega), hr⟩
def qaP (a0 : qD) : Option Bool :=
 some (((a0.f2_Remove.length : Int) == (0 : Int)))
theorem qeP (a0 : qD) (res : Bool) (hr : qaP a0 = some res) : zf Tryz.prog 50 [qp a0] (.bool res) := by
 unfold qaP at hr
 refine qY Tryz.func50 rfl fun K hK => (qe (qg 2 (rd rfl (qcK rfl rfl rfl) (qa 1 rfl (qb (qe (qg 5 (qa 2 rfl (qz rfl (qa 2 rfl (qb ?_)))))))))))
 cases hr
 refine qu Tryz.func50 rfl ?_
 rfl
def qcP (a0 : qD) : Option (List At) :=
 ((zN 40 [] a0.f1_Keep).bind fun l3 =>
 ((zN 40 l3 a0.f2_Remove).bind fun l5 =>
 some (l5)))
theorem qfB (a0 : qD) (res : List At) (hr : qcP a0 = some res) : zf Tryz.prog 51 [qp a0] (.lst (res.map zX)) := by
 unfold qcP at hr
 refine qY Tryz.func51 rfl fun K hK => (qe (zg 2 4 (rd rfl (qcK rfl rfl rfl) (ew rfl (qab 73 2 (.inl rfl)) ?_))))
 rintro _ _ ⟨u2_0, rfl, rfl⟩
 refine qb (qe (zg 1 1 (ew rfl (qab 73 2 (.inl rfl)) ?_)))
 rintro _ _ ⟨u3_1, rfl, rfl⟩
 refine qb (qe (zg 5 64 (qa 3 rfl ?_)))
 obtain ⟨l3, h3, hr⟩ := za hr
 refine ew rfl (qaK (f := zX) [] a0.f1_Keep rfl qdX rfl rfl (asl rfl) (pf0 _) rfl qhY h3) ?_
 rintro _ _ ⟨u7_3, rfl, rfl⟩
 refine qa 1 rfl (qb (qe (zg 5 64 (qa 3 rfl ?_))))
 obtain ⟨l5, h5, hr⟩ := za hr
 refine ew rfl (qaK (f := zX) l3 a0.f2_Remove rfl qdX rfl rfl (asl rfl) (pf0 _) rfl qhY h5) ?_
 rintro _ _ ⟨u11_5, rfl, rfl⟩
 refine qa 1 rfl (qb ?_)
 cases hr
 refine qbQ Tryz.func51 _ (.cons (zd rfl (Wk.own _ _)) .nil) ?_
 rfl
def qbH (k : Option (At × Bool)) (a1 : Int) : List (Int × At) → Option (At × Bool)
 | [] =>
 k
 | q_3 :: rest =>
 (bif (q_3.1 == a1) then
 some (q_3.2, true)
 else
 (qbH k a1 rest))
def qes (a0 : List (Int × At)) (a1 : Int) : Option (At × Bool) :=
 (qbH (some ((⟨⟨#[]⟩, []⟩ : At), false)) a1 a0)
theorem qhP (a0 : List (Int × At)) (a1 : Int) (res : At × Bool) (hr : qes a0 a1 = some res) : zf Tryz.prog 52 [.lst (a0.map zr), .int .i64 a1] (.tup [zX res.1, .bool res.2]) := by
 unfold qes at hr
 refine qY Tryz.func52 rfl fun K hK => (qe (zg 2 1 (ew rfl (qaJ rfl qe9) ?_)))
 rintro _ _ ⟨b4_0, rfl, rfl⟩
 refine qa 1 rfl (qb (qf 3 rfl ?_))
 obtain ⟨kk0, hkk0, hr⟩ := exK (fun k => qbH k a1 a0) hr
 refine qcq 0 rfl (asl rfl) fun hla0 => ?_
 simp only [jb] at hla0
 refine qx (fun env σ => env = [(4, .ref b4_0 0 [])] ∧ σ = [.cell b4_0 (.agg [.str ⟨#[]⟩, .lst ([].map zi)])] ∧ kk0 = some res) ?_ (fun HK0 => ?_)
 ·
  rintro _ _ ⟨rfl, rfl, hr⟩
  rw [hkk0] at hr
  refine qe (zg 3 4 (rd rfl (qbl rfl qfw .nil (.nil _)) (qcr rfl (pf0 _) (qa 1 rfl (qb ?_)))))
  cases hr
  refine qbQ Tryz.func52 _ (.cons (zy rfl (.head _) (by exact qlg) rfl (Wk.refl _)) (.cons (zd rfl (Wk.refl _)) .nil)) ?_
  rfl
 ·
  refine qm [0, 1, 4, 6] rfl (q9 (fun n env σ => ∃ (i2 : Nat), (n = a0.length - i2) ∧ (env = [(0, .lst (a0.map zr)), (1, .int .i64 a1), (4, .ref b4_0 0 []), (6, .int .i64 (i2 : Int))]) ∧ (σ = [.cell b4_0 (.agg [.str ⟨#[]⟩, .lst ([].map zi)])]) ∧ (i2 ≤ a0.length) ∧ (qbH kk0 a1 (a0.drop i2) = some res)) _ ⟨0, rfl, rfl, rfl, jc _, hr⟩ ?_)
  rintro n _ _ ⟨i2, rfl, rfl, rfl, hi0, hr⟩ IH0
  rcases zb a0 i2 hi0 with ⟨ht0, hd0, he0⟩ | ⟨q_3, ht0, hd0, hq0, hlt0⟩
  ·
   rw [hd0, qbH] at hr
   refine qe (qe (qg 4 (qa 2 rfl (qz rfl (qa 1 rfl (qb (qk 10 false rfl ht0 (qA rfl (qQ rfl (qm [4] rfl ?_))))))))))
   exact HK0 _ _ ⟨rfl, rfl, hr⟩
  ·
   rw [hd0, qbH] at hr
   refine qe (qe (qg 4 (qa 2 rfl (qz rfl (qa 1 rfl (qb (qk 10 true rfl ht0 (qf 5 rfl (qg 7 (qa 2 rfl (qN hq0 rfl (qa 4 rfl (qb ?_)))))))))))))
   refine zh 19 rfl hr (fun h19_3 hr => ?_) (fun h19_3 hr => ?_)
   ·
    refine qO rfl (qe (zg 7 1024 (qa 2 rfl (qN hq0 rfl (qa 2 rfl (qcr rfl (pf0 _) (qa 1 rfl (qb ?_))))))))
    cases hr
    refine qbQ Tryz.func52 _ (.cons (zy rfl (.head _) (by exact qlg) (qhY _) (Wk.refl _)) (.cons (zd rfl (Wk.refl _)) .nil)) ?_
    rfl
   ·
    refine qf 3 rfl (qg 3 (qa 1 rfl (qaj rfl (qa 1 rfl (qb (qm [0, 1, 4, 6] rfl ?_))))))
    exact IH0 _ _ _ (by omega) ⟨(i2 + 1), rfl, rfl, rfl, (by omega), hr⟩
def qbj (k : Option Bool) (a1 : List (Int × At)) : List Int → Option Bool
 | [] =>
 k
 | q_24 :: rest =>
 ((qes a1 q_24).bind fun r25 =>
 (bif (!r25.2) then
 some (false)
 else
 (qbj k a1 rest)))
def qbh (k : Option Bool) (a1 : List (Int × At)) (a0 : qn) : List qq → Option Bool
 | [] =>
 k
 | q_14 :: rest =>
 (bif (decide (q_14.f0_Rule < (0 : Int))) then
 some (false)
 else
 (bif (decide (q_14.f0_Rule ≥ (a0.f1_Rules.length : Int))) then
 some (false)
 else
 ((zj a0.f1_Rules q_14.f0_Rule).bind fun q_17 =>
 ((qaP q_17).bind fun r19 =>
 (bif (!r19) then
 some (false)
 else
 ((qcP q_17).bind fun r21 =>
 (bif ((q_14.f1_IDs.length : Int) != (r21.length : Int)) then
 some (false)
 else
 (qbj ((qbh k a1 a0 rest)) a1 q_14.f1_IDs))))))))
def qbc (k : Option Bool) (a2 : List (Int × T)) (a5 : Int) (fuel : Nat) : List (Int × T) → Option Bool
 | [] =>
 k
 | q_28 :: rest =>
 (bif (decide (q_28.1 ≥ a5)) then
 some (false)
 else
 ((qc5 fuel q_28.2).bind fun r30 =>
 ((qc4 r30 a5 a2).bind fun r31 =>
 (bif (!r31) then
 some (false)
 else
 (qbc k a2 a5 fuel rest)))))
def qbf (k : Option Bool) (a2 : List (Int × T)) (a5 : Int) (fuel : Nat) (a4 : Int) (a0 : qn) : List (Int × At) → Option Bool
 | [] =>
 k
 | q_33 :: rest =>
 (bif (decide (q_33.1 ≥ a4)) then
 some (false)
 else
 ((qcn a0.f0_Decls q_33.2.n (q_33.2.ts.length : Int)).bind fun r36 =>
 (bif (!r36) then
 some (false)
 else
 ((qep fuel q_33.2).bind fun r38 =>
 ((qc4 r38 a5 a2).bind fun r39 =>
 (bif (!r39) then
 some (false)
 else
 (qbf k a2 a5 fuel a4 a0 rest)))))))
def qdR (fuel : Nat) (a0 : qn) (a1 : List (Int × At)) (a2 : List (Int × T)) (a3 : List qq) (a4 : Int) (a5 : Int) : Option Bool :=
 ((qcQ a1).bind fun r1 =>
 (bif (!r1) then
 some (false)
 else
 ((qdu fuel a2).bind fun r3 =>
 (bif (!r3) then
 some (false)
 else
 ((qdr a3).bind fun r5 =>
 (bif (!r5) then
 some (false)
 else
 (bif (decide (a4 < (1 : Int))) then
 some (false)
 else
 (bif (decide (a4 > (2147483648 : Int))) then
 some (false)
 else
 (bif (decide (a5 < (0 : Int))) then
 some (false)
 else
 (bif (decide (a5 > (1048576 : Int))) then
 some (false)
 else
 (qbf ((qbc ((qbh (some (true)) a1 a0 a3)) a2 a5 fuel a2)) a2 a5 fuel a4 a0 a1)))))))))))
theorem qjC (fuel : Nat) (a0 : qn) (a1 : List (Int × At)) (a2 : List (Int × T)) (a3 : List qq) (a4 : Int) (a5 : Int) (res : Bool) (hr : qdR fuel a0 a1 a2 a3 a4 a5 = some res) : zf Tryz.prog 19 [ql a0, .lst (a1.map zr), .lst (a2.map zo), .lst (a3.map qh), .int .i64 a4, .int .i64 a5] (.bool res) := by
 unfold qdR at hr
 refine qY Tryz.func19 rfl fun K hK => (qe (qg 2 (rd rfl (qcK rfl rfl rfl) (qa 1 rfl (qb (qe (qe (qg 29 (qa 1 rfl ?_)))))))))
 obtain ⟨r1, h1, hr⟩ := za hr
 refine qs rfl qfD (qfK _ _ h1) (qa 2 rfl ?_)
 refine zq 24 rfl hr (fun h24_1 hr => ?_) (fun h24_1 hr => ?_)
 ·
  refine qa 25 rfl (qb (qf 3 rfl ?_))
  cases hr
  refine qu Tryz.func19 rfl ?_
  rfl
 ·
  refine qa 1 rfl ?_
  obtain ⟨r3, h3, hr⟩ := za hr
  refine qs rfl qhk (qho fuel _ _ h3) (qa 3 rfl ?_)
  refine zq 29 rfl hr (fun h29_3 hr => ?_) (fun h29_3 hr => ?_)
  ·
   refine qa 20 rfl (qb (qf 3 rfl ?_))
   cases hr
   refine qu Tryz.func19 rfl ?_
   rfl
  ·
   refine qa 1 rfl ?_
   obtain ⟨r5, h5, hr⟩ := za hr
   refine qs rfl qhz (qhj _ _ h5) (qa 3 rfl ?_)
   refine zq 34 rfl hr (fun h34_5 hr => ?_) (fun h34_5 hr => ?_)
   ·
    refine qa 15 rfl (qb (qf 3 rfl ?_))
    cases hr
    refine qu Tryz.func19 rfl ?_
    rfl
   ·
    refine qa 4 rfl ?_
    refine zq 38 rfl hr (fun h38_6 hr => ?_) (fun h38_6 hr => ?_)
    ·
     refine qa 11 rfl (qb (qf 3 rfl ?_))
     cases hr
     refine qu Tryz.func19 rfl ?_
     rfl
    ·
     refine qa 4 rfl ?_
     refine zq 42 rfl hr (fun h42_7 hr => ?_) (fun h42_7 hr => ?_)
     ·
      refine qa 7 rfl (qb (qf 3 rfl ?_))
      cases hr
      refine qu Tryz.func19 rfl ?_
      rfl
     ·
      refine qa 4 rfl ?_
      refine zq 46 rfl hr (fun h46_8 hr => ?_) (fun h46_8 hr => ?_)
      ·
       refine qa 3 rfl (qb (qf 3 rfl ?_))
       cases hr
       refine qu Tryz.func19 rfl ?_
       rfl
      ·
       refine qa 3 rfl (qb ?_)
       refine zh 49 rfl hr (fun h49_9 hr => ?_) (fun h49_9 hr => ?_)
       ·
        refine qf 3 rfl ?_
        cases hr
        refine qu Tryz.func19 rfl ?_
        rfl
       ·
        refine qf 5 rfl ?_
        obtain ⟨kk0, hkk0, hr⟩ := exK (fun k => qbf k a2 a5 fuel a4 a0 a1) hr
        refine qcq 1 rfl (asl rfl) fun hla0 => ?_
        simp only [jb] at hla0
        refine qx (fun env σ => env = [(1, .lst (a1.map zr)), (2, .lst (a2.map zo)), (3, .lst (a3.map qh)), (5, .int .i64 a5), (6, .ptr (ql a0))] ∧ σ = [] ∧ kk0 = some res) ?_ (fun HK0 => ?_)
        ·
         rintro _ _ ⟨rfl, rfl, hr⟩
         rw [hkk0] at hr
         refine qf 3 rfl ?_
         obtain ⟨kk1, hkk1, hr⟩ := exK (fun k => qbc k a2 a5 fuel a2) hr
         refine qcq 2 rfl (asl rfl) fun hla1 => ?_
         simp only [jb] at hla1
         refine qx (fun env σ => env = [(1, .lst (a1.map zr)), (3, .lst (a3.map qh)), (6, .ptr (ql a0))] ∧ σ = [] ∧ kk1 = some res) ?_ (fun HK1 => ?_)
         ·
          rintro _ _ ⟨rfl, rfl, hr⟩
          rw [hkk1] at hr
          refine qf 3 rfl ?_
          obtain ⟨kk2, hkk2, hr⟩ := exK (fun k => qbh k a1 a0 a3) hr
          refine qcq 3 rfl (asl rfl) fun hla2 => ?_
          simp only [jb] at hla2
          refine qx (fun env σ => env = [] ∧ σ = [] ∧ kk2 = some res) ?_ (fun HK2 => ?_)
          ·
           rintro _ _ ⟨rfl, rfl, hr⟩
           rw [hkk2] at hr
           refine qf 2 rfl ?_
           cases hr
           refine qu Tryz.func19 rfl ?_
           rfl
          ·
           refine qm [1, 3, 6, 16] rfl (q9 (fun n env σ => ∃ (i13 : Nat), (n = a3.length - i13) ∧ (env = [(1, .lst (a1.map zr)), (3, .lst (a3.map qh)), (6, .ptr (ql a0)), (16, .int .i64 (i13 : Int))]) ∧ (σ = []) ∧ (i13 ≤ a3.length) ∧ (qbh kk2 a1 a0 (a3.drop i13) = some res)) _ ⟨0, rfl, rfl, rfl, jc _, hr⟩ ?_)
           rintro n _ _ ⟨i13, rfl, rfl, rfl, hi2, hr⟩ IH2
           rcases zb a3 i13 hi2 with ⟨ht2, hd2, he2⟩ | ⟨q_14, ht2, hd2, hq2, hlt2⟩
           ·
            rw [hd2, qbh] at hr
            refine qe (qe (qg 4 (qa 2 rfl (qz rfl (qa 1 rfl (qb (qk 115 false rfl ht2 (qA rfl (qQ rfl (qm [] rfl ?_))))))))))
            exact HK2 _ _ ⟨rfl, rfl, hr⟩
           ·
            rw [hd2, qbh] at hr
            refine qe (qe (qg 4 (qa 2 rfl (qz rfl (qa 1 rfl (qb (qk 115 true rfl ht2 (qf 6 rfl (qei 17 0 (qa 2 rfl (qN hq2 rfl (qa 4 rfl ?_))))))))))))
            refine zq 124 rfl hr (fun h124_14 hr => ?_) (fun h124_14 hr => ?_)
            ·
             refine qa 10 rfl (qb (qf 3 rfl ?_))
             cases hr
             refine qu Tryz.func19 rfl ?_
             rfl
            ·
             refine qa 2 rfl (qN hq2 rfl (qa 4 rfl (qz rfl (qa 2 rfl (qb ?_)))))
             refine zh 134 rfl hr (fun h134_15 hr => ?_) (fun h134_15 hr => ?_)
             ·
              refine qf 3 rfl ?_
              cases hr
              refine qu Tryz.func19 rfl ?_
              rfl
             ·
              refine qf 3 rfl (qei 11 1310720 (qa 4 rfl (qN hq2 rfl (qa 2 rfl ?_))))
              obtain ⟨q_17, h17, hr⟩ := za hr
              refine qN h17 rfl (qa 1 rfl (ew rfl (qaJ rfl qgt) ?_))
              rintro _ _ ⟨b17_17, rfl, rfl⟩
              refine qcr rfl (pf0 _) (qb (qaR 17 b17_17 rfl (pf0 _) (qe (qe (qei 15 0 (qa 1 rfl ?_))))))
              obtain ⟨r19, h19, hr⟩ := za hr
              refine qs rfl qeO (qeP _ _ h19) (qa 2 rfl ?_)
              refine zq 147 rfl hr (fun h147_19 hr => ?_) (fun h147_19 hr => ?_)
              ·
               refine qa 11 rfl (qb (qf 3 rfl ?_))
               cases hr
               refine qu Tryz.func19 rfl ?_
               rfl
              ·
               refine qa 2 rfl (qN hq2 rfl (qa 2 rfl (qz rfl (qa 1 rfl ?_))))
               obtain ⟨r21, h21, hr⟩ := za hr
               refine qs rfl qfI (qfB _ _ h21) (qz rfl (qa 2 rfl (qb ?_)))
               refine zh 158 rfl hr (fun h158_21 hr => ?_) (fun h158_21 hr => ?_)
               ·
                refine qf 3 rfl ?_
                cases hr
                refine qu Tryz.func19 rfl ?_
                rfl
               ·
                refine qf 4 rfl ?_
                obtain ⟨kk3, hkk3, hr⟩ := exK (fun k => qbj k a1 q_14.f1_IDs) hr
                refine qcq 152 rfl (asl rfl) fun hla3 => ?_
                simp only [jb] at hla3
                refine qx (fun env σ => env = [(1, .lst (a1.map zr)), (3, .lst (a3.map qh)), (6, .ptr (ql a0)), (16, .int .i64 (i13 : Int))] ∧ σ = [] ∧ kk3 = some res) ?_ (fun HK3 => ?_)
                ·
                 rintro _ _ ⟨rfl, rfl, hr⟩
                 rw [hkk3] at hr
                 refine qaa (qg 3 (qa 1 rfl (qaj rfl (qa 1 rfl (qb (qm [1, 3, 6, 16] rfl ?_))))))
                 exact IH2 _ _ _ (by omega) ⟨(i13 + 1), rfl, rfl, rfl, (by omega), hr⟩
                ·
                 refine qm [1, 3, 6, 16, 18] rfl (q9 (fun n env σ => ∃ (k23 : Nat), (n = q_14.f1_IDs.length - k23) ∧ (env = [(1, .lst (a1.map zr)), (3, .lst (a3.map qh)), (6, .ptr (ql a0)), (16, .int .i64 (i13 : Int)), (18, .int .i64 (k23 : Int))]) ∧ (σ = []) ∧ (k23 ≤ q_14.f1_IDs.length) ∧ (qbj kk3 a1 (q_14.f1_IDs.drop k23) = some res)) _ ⟨0, rfl, rfl, rfl, jc _, hr⟩ ?_)
                 rintro n _ _ ⟨k23, rfl, rfl, rfl, hi3, hr⟩ IH3
                 rcases zb q_14.f1_IDs k23 hi3 with ⟨ht3, hd3, he3⟩ | ⟨q_24, ht3, hd3, hq3, hlt3⟩
                 ·
                  rw [hd3, qbj] at hr
                  refine qe (qe (qg 8 (qa 3 rfl (qN hq2 rfl (qa 2 rfl (qz rfl (qa 1 rfl (qb (qk 166 false rfl ht3 (qA rfl (qQ rfl (qm [1, 3, 6, 16] rfl ?_))))))))))))
                  exact HK3 _ _ ⟨rfl, rfl, hr⟩
                 ·
                  rw [hd3, qbj] at hr
                  refine qe (qe (qg 8 (qa 3 rfl (qN hq2 rfl (qa 2 rfl (qz rfl (qa 1 rfl (qb (qk 166 true rfl ht3 (qf 5 rfl (zg 16 335544320 (qa 3 rfl (qN hq2 rfl ?_)))))))))))))
                  refine qa 3 rfl (qN hq3 rfl (qa 1 rfl ?_))
                  obtain ⟨r25, h25, hr⟩ := za hr
                  refine qs rfl qhS (qhP _ _ _ h25) (qa 3 rfl (ew rfl (qaJ rfl qe9) ?_))
                  rintro _ _ ⟨b19_25, rfl, rfl⟩
                  refine qcr rfl (pf0 _) (qa 1 rfl (qb (qaR 19 b19_25 rfl (pf0 _) (qf 2 rfl ?_))))
                  refine zh 183 rfl hr (fun h183_26 hr => ?_) (fun h183_26 hr => ?_)
                  ·
                   refine qf 3 rfl ?_
                   cases hr
                   refine qu Tryz.func19 rfl ?_
                   rfl
                  ·
                   refine qf 3 rfl (qg 3 (qa 1 rfl (qaj rfl (qa 1 rfl (qb (qm [1, 3, 6, 16, 18] rfl ?_))))))
                   exact IH3 _ _ _ (by omega) ⟨(k23 + 1), rfl, rfl, rfl, (by omega), hr⟩
         ·
          refine qm [1, 2, 3, 5, 6, 15] rfl (q9 (fun n env σ => ∃ (i12 : Nat), (n = a2.length - i12) ∧ (env = [(1, .lst (a1.map zr)), (2, .lst (a2.map zo)), (3, .lst (a3.map qh)), (5, .int .i64 a5), (6, .ptr (ql a0)), (15, .int .i64 (i12 : Int))]) ∧ (σ = []) ∧ (i12 ≤ a2.length) ∧ (qbc kk1 a2 a5 fuel (a2.drop i12) = some res)) _ ⟨0, rfl, rfl, rfl, jc _, hr⟩ ?_)
          rintro n _ _ ⟨i12, rfl, rfl, rfl, hi1, hr⟩ IH1
          rcases zb a2 i12 hi1 with ⟨ht1, hd1, he1⟩ | ⟨q_28, ht1, hd1, hq1, hlt1⟩
          ·
           rw [hd1, qbc] at hr
           refine qe (qe (qg 4 (qa 2 rfl (qz rfl (qa 1 rfl (qb (qk 90 false rfl ht1 (qA rfl (qQ rfl (qm [1, 3, 6] rfl ?_))))))))))
           exact HK1 _ _ ⟨rfl, rfl, hr⟩
          ·
           rw [hd1, qbc] at hr
           refine qe (qe (qg 4 (qa 2 rfl (qz rfl (qa 1 rfl (qb (qk 90 true rfl ht1 (qf 5 rfl (qg 19 (qa 2 rfl (qN hq1 rfl (qa 5 rfl ?_))))))))))))
           refine zq 100 rfl hr (fun h100_28 hr => ?_) (fun h100_28 hr => ?_)
           ·
            refine qa 11 rfl (qb (qf 3 rfl ?_))
            cases hr
            refine qu Tryz.func19 rfl ?_
            rfl
           ·
            refine qa 2 rfl (qN hq1 rfl (qa 2 rfl ?_))
            obtain ⟨r30, h30, hr⟩ := za hr
            refine qs rfl qfX (qf3 fuel _ _ h30) (qa 2 rfl ?_)
            obtain ⟨r31, h31, hr⟩ := za hr
            refine qs rfl qf9 (qfS _ _ _ _ h31) (qa 2 rfl (qb ?_))
            refine zh 111 rfl hr (fun h111_31 hr => ?_) (fun h111_31 hr => ?_)
            ·
             refine qf 3 rfl ?_
             cases hr
             refine qu Tryz.func19 rfl ?_
             rfl
            ·
             refine qf 3 rfl (qg 3 (qa 1 rfl (qaj rfl (qa 1 rfl (qb (qm [1, 2, 3, 5, 6, 15] rfl ?_))))))
             exact IH1 _ _ _ (by omega) ⟨(i12 + 1), rfl, rfl, rfl, (by omega), hr⟩
        ·
         refine qm [1, 2, 3, 4, 5, 6, 13] rfl (q9 (fun n env σ => ∃ (i11 : Nat), (n = a1.length - i11) ∧ (env = [(1, .lst (a1.map zr)), (2, .lst (a2.map zo)), (3, .lst (a3.map qh)), (4, .int .i64 a4), (5, .int .i64 a5), (6, .ptr (ql a0)), (13, .int .i64 (i11 : Int))]) ∧ (σ = []) ∧ (i11 ≤ a1.length) ∧ (qbf kk0 a2 a5 fuel a4 a0 (a1.drop i11) = some res)) _ ⟨0, rfl, rfl, rfl, jc _, hr⟩ ?_)
         rintro n _ _ ⟨i11, rfl, rfl, rfl, hi0, hr⟩ IH0
         rcases zb a1 i11 hi0 with ⟨ht0, hd0, he0⟩ | ⟨q_33, ht0, hd0, hq0, hlt0⟩
         ·
          rw [hd0, qbf] at hr
          refine qe (qe (qg 4 (qa 2 rfl (qz rfl (qa 1 rfl (qb (qk 53 false rfl ht0 (qA rfl (qQ rfl (qm [1, 2, 3, 5, 6] rfl ?_))))))))))
          exact HK0 _ _ ⟨rfl, rfl, hr⟩
         ·
          rw [hd0, qbf] at hr
          refine qe (qe (qg 4 (qa 2 rfl (qz rfl (qa 1 rfl (qb (qk 53 true rfl ht0 (qf 5 rfl (zg 7 5120 (qa 2 rfl (qN hq0 rfl (qa 2 rfl (ew rfl (qaJ rfl qe9) ?_)))))))))))))
          rintro _ _ ⟨b14_33, rfl, rfl⟩
          refine qcr rfl (pf0 _) (qb (qaR 14 b14_33 rfl (pf0 _) (qe (qg 26 (qa 2 rfl (qN hq0 rfl (qa 5 rfl ?_)))))))
          refine zq 68 rfl hr (fun h68_34 hr => ?_) (fun h68_34 hr => ?_)
          ·
           refine qa 18 rfl (qb (qf 3 rfl ?_))
           cases hr
           refine qu Tryz.func19 rfl ?_
           rfl
          ·
           refine qa 6 rfl (qz rfl ?_)
           obtain ⟨r36, h36, hr⟩ := za hr
           refine qs rfl qen (qej _ _ _ _ h36) (qa 3 rfl ?_)
           refine zq 79 rfl hr (fun h79_36 hr => ?_) (fun h79_36 hr => ?_)
           ·
            refine qa 7 rfl (qb (qf 3 rfl ?_))
            cases hr
            refine qu Tryz.func19 rfl ?_
            rfl
           ·
            refine qa 1 rfl ?_
            obtain ⟨r38, h38, hr⟩ := za hr
            refine qs rfl qiY (qje fuel _ _ h38) (qa 2 rfl ?_)
            obtain ⟨r39, h39, hr⟩ := za hr
            refine qs rfl qf9 (qfS _ _ _ _ h39) (qa 2 rfl (qb ?_))
            refine zh 86 rfl hr (fun h86_39 hr => ?_) (fun h86_39 hr => ?_)
            ·
             refine qf 3 rfl ?_
             cases hr
             refine qu Tryz.func19 rfl ?_
             rfl
            ·
             refine qf 3 rfl (qg 3 (qa 1 rfl (qaj rfl (qa 1 rfl (qb (qm [1, 2, 3, 4, 5, 6, 13] rfl ?_))))))
             exact IH0 _ _ _ (by omega) ⟨(i11 + 1), rfl, rfl, rfl, (by omega), hr⟩
def qd5 (a0 : qn) (a1 : Gl) : Option Bool :=
 ((qiQ a1).bind fun r1 =>
 (bif (!r1) then
 some (false)
 else
 (bif (decide (a1.op > (4 : Int))) then
 some (false)
 else
 (bif (a1.op != (0 : Int)) then
 some (true)
 else
 ((qcn a0.f0_Decls a1.n (a1.ts.length : Int)).bind fun r5 =>
 some (r5))))))
theorem qkh (a0 : qn) (a1 : Gl) (res : Bool) (hr : qd5 a0 a1 = some res) : zf Tryz.prog 20 [ql a0, zA a1] (.bool res) := by
 unfold qd5 at hr
 refine qY Tryz.func20 rfl fun K hK => (qe (qg 3 (rd rfl (qcK rfl rfl rfl) (rd rfl (qcK rfl rfl rfl) (qa 1 rfl (qb (qe (qe (qg 8 (qa 1 rfl ?_))))))))))
 obtain ⟨r1, h1, hr⟩ := za hr
 refine qs rfl qci (qcd _ _ h1) (qa 2 rfl ?_)
 refine zq 8 rfl hr (fun h8_1 hr => ?_) (fun h8_1 hr => ?_)
 ·
  refine qa 4 rfl (qb (qf 3 rfl ?_))
  cases hr
  refine qu Tryz.func20 rfl ?_
  rfl
 ·
  refine qa 4 rfl (qb ?_)
  refine zh 12 rfl hr (fun h12_2 hr => ?_) (fun h12_2 hr => ?_)
  ·
   refine qf 3 rfl ?_
   cases hr
   refine qu Tryz.func20 rfl ?_
   rfl
  ·
   refine qf 3 rfl (qg 14 (qa 4 rfl ?_))
   refine zq 16 rfl hr (fun h16_3 hr => ?_) (fun h16_3 hr => ?_)
   ·
    refine qa 10 rfl (qb ?_)
    cases hr
    refine qu Tryz.func20 rfl ?_
    rfl
   ·
    refine qa 6 rfl (qz rfl ?_)
    obtain ⟨r5, h5, hr⟩ := za hr
    refine qs rfl qen (qej _ _ _ _ h5) (qa 2 rfl (qb ?_))
    cases hr
    refine qu Tryz.func20 rfl ?_
    rfl
def qdH (fuel : Nat) (a0 : Gl) (a1 : Int) (a2 : List (Int × T)) : Option Bool :=
 ((qcR fuel a0).bind fun r1 =>
 ((qc4 r1 a1 a2).bind fun r2 =>
 some (r2)))
theorem qhV (fuel : Nat) (a0 : Gl) (a1 : Int) (a2 : List (Int × T)) (res : Bool) (hr : qdH fuel a0 a1 a2 = some res) : zf Tryz.prog 21 [zA a0, .int .i64 a1, .lst (a2.map zo)] (.bool res) := by
 unfold qdH at hr
 refine qY Tryz.func21 rfl fun K hK => (qe (qg 2 (rd rfl (qcK rfl rfl rfl) (qa 1 rfl (qb (qe (qg 6 (qa 1 rfl ?_))))))))
 obtain ⟨r1, h1, hr⟩ := za hr
 refine qs rfl qgu (qgx fuel _ _ h1) (qa 2 rfl ?_)
 obtain ⟨r2, h2, hr⟩ := za hr
 refine qs rfl qf9 (qfS _ _ _ _ h2) (qa 1 rfl (qb ?_))
 cases hr
 refine qu Tryz.func21 rfl ?_
 rfl
def qbq (k : Option Bool) (fuel : Nat) (a1 : qw) : List Gl → Option Bool
 | [] =>
 k
 | q_9 :: rest =>
 ((qiQ q_9).bind fun r10 =>
 (bif (!r10) then
 some (false)
 else
 (bif (decide (q_9.op < (5 : Int))) then
 some (false)
 else
 ((qdH fuel q_9 a1.f6_Fresh a1.f2_Binds).bind fun r13 =>
 (bif (!r13) then
 some (false)
 else
 (qbq k fuel a1 rest))))))
def qbB (k : Option Bool) (fuel : Nat) (a0 : qn) (a1 : qw) : List Gl → Option Bool
 | [] =>
 k
 | q_15 :: rest =>
 ((qd5 a0 q_15).bind fun r16 =>
 (bif (!r16) then
 some (false)
 else
 ((qdH fuel q_15 a1.f6_Fresh a1.f2_Binds).bind fun r18 =>
 (bif (!r18) then
 some (false)
 else
 (qbB k fuel a0 a1 rest)))))
def qcS (fuel : Nat) (a0 : qn) (a1 : qw) : Option Bool :=
 ((qea fuel a0).bind fun r1 =>
 (bif (r1.2 != (0 : Int)) then
 some (false)
 else
 (bif (decide ((a1.f0_Goals.length : Int) > (1000 : Int))) then
 some (false)
 else
 (bif (decide ((a1.f4_Known.length : Int) > (500 : Int))) then
 some (false)
 else
 ((qdR fuel a0 a1.f1_Store a1.f2_Binds a1.f3_Fired a1.f5_Next a1.f6_Fresh).bind fun r5 =>
 (bif (!r5) then
 some (false)
 else
 (qbB ((qbq (some (true)) fuel a1 a1.f4_Known)) fuel a0 a1 a1.f0_Goals)))))))
theorem qfG (fuel : Nat) (a0 : qn) (a1 : qw) (res : Bool) (hr : qcS fuel a0 a1 = some res) : zf Tryz.prog 7 [ql a0, qJ a1] (.bool res) := by
 unfold qcS at hr
 refine qY Tryz.func7 rfl fun K hK => (qe (qg 3 (rd rfl (qcK rfl rfl rfl) (rd rfl (qcK rfl rfl rfl) (qa 1 rfl (qb (qe (qg 7 (qa 1 rfl ?_)))))))))
 obtain ⟨r1, h1, hr⟩ := za hr
 refine qs rfl qkd (qj4 fuel _ _ h1) (qa 5 rfl (qb (qe (qe (qg 14 (qa 3 rfl ?_))))))
 refine zq 16 rfl hr (fun h16_1 hr => ?_) (fun h16_1 hr => ?_)
 ·
  refine qa 11 rfl (qb (qf 3 rfl ?_))
  cases hr
  refine qu Tryz.func7 rfl ?_
  rfl
 ·
  refine qa 2 rfl (qz rfl (qa 3 rfl ?_))
  refine zq 22 rfl hr (fun h22_2 hr => ?_) (fun h22_2 hr => ?_)
  ·
   refine qa 5 rfl (qb (qf 3 rfl ?_))
   cases hr
   refine qu Tryz.func7 rfl ?_
   rfl
  ·
   refine qa 2 rfl (qz rfl (qa 2 rfl (qb ?_)))
   refine zh 27 rfl hr (fun h27_3 hr => ?_) (fun h27_3 hr => ?_)
   ·
    refine qf 3 rfl ?_
    cases hr
    refine qu Tryz.func7 rfl ?_
    rfl
   ·
    refine qf 4 rfl (qg 13 (qa 11 rfl ?_))
    obtain ⟨r5, h5, hr⟩ := za hr
    refine qs rfl qjW (qjC fuel _ _ _ _ _ _ _ h5) (qa 1 rfl (qb ?_))
    refine zh 40 rfl hr (fun h40_5 hr => ?_) (fun h40_5 hr => ?_)
    ·
     refine qf 3 rfl ?_
     cases hr
     refine qu Tryz.func7 rfl ?_
     rfl
    ·
     refine qf 5 rfl ?_
     obtain ⟨kk0, hkk0, hr⟩ := exK (fun k => qbB k fuel a0 a1 a1.f0_Goals) hr
     refine qcq 18 rfl (asl rfl) fun hla0 => ?_
     simp only [jb] at hla0
     refine qx (fun env σ => env = [(3, .ptr (qJ a1))] ∧ σ = [] ∧ kk0 = some res) ?_ (fun HK0 => ?_)
     ·
      rintro _ _ ⟨rfl, rfl, hr⟩
      rw [hkk0] at hr
      refine qf 3 rfl ?_
      obtain ⟨kk1, hkk1, hr⟩ := exK (fun k => qbq k fuel a1 a1.f4_Known) hr
      refine ql3 3 [4] (l := a1.f4_Known.map zA) rfl rfl (asl rfl) fun hla1 => ?_
      simp only [jb] at hla1
      refine qx (fun env σ => env = [] ∧ σ = [] ∧ kk1 = some res) ?_ (fun HK1 => ?_)
      ·
       rintro _ _ ⟨rfl, rfl, hr⟩
       rw [hkk1] at hr
       refine qf 2 rfl ?_
       cases hr
       refine qu Tryz.func7 rfl ?_
       rfl
      ·
       refine qm [3, 8] rfl (q9 (fun n env σ => ∃ (i8 : Nat), (n = a1.f4_Known.length - i8) ∧ (env = [(3, .ptr (qJ a1)), (8, .int .i64 (i8 : Int))]) ∧ (σ = []) ∧ (i8 ≤ a1.f4_Known.length) ∧ (qbq kk1 fuel a1 (a1.f4_Known.drop i8) = some res)) _ ⟨0, rfl, rfl, rfl, jc _, hr⟩ ?_)
       rintro n _ _ ⟨i8, rfl, rfl, rfl, hi1, hr⟩ IH1
       rcases zb a1.f4_Known i8 hi1 with ⟨ht1, hd1, he1⟩ | ⟨q_9, ht1, hd1, hq1, hlt1⟩
       ·
        rw [hd1, qbq] at hr
        refine qe (qe (qg 5 (qa 3 rfl (qz rfl (qa 1 rfl (qb (qk 73 false rfl ht1 (qA rfl (qQ rfl (qm [] rfl ?_))))))))))
        exact HK1 _ _ ⟨rfl, rfl, hr⟩
       ·
        rw [hd1, qbq] at hr
        refine qe (qe (qg 5 (qa 3 rfl (qz rfl (qa 1 rfl (qb (qk 73 true rfl ht1 (qf 5 rfl (qei 29 0 (qa 3 rfl (qN hq1 rfl (qa 1 rfl ?_))))))))))))
        obtain ⟨r10, h10, hr⟩ := za hr
        refine qs rfl qci (qcd _ _ h10) (qa 2 rfl ?_)
        refine zq 83 rfl hr (fun h83_10 hr => ?_) (fun h83_10 hr => ?_)
        ·
         refine qa 21 rfl (qb (qf 3 rfl ?_))
         cases hr
         refine qu Tryz.func7 rfl ?_
         rfl
        ·
         refine qa 3 rfl (qN hq1 rfl (qa 5 rfl ?_))
         refine zq 92 rfl hr (fun h92_11 hr => ?_) (fun h92_11 hr => ?_)
         ·
          refine qa 12 rfl (qb (qf 3 rfl ?_))
          cases hr
          refine qu Tryz.func7 rfl ?_
          rfl
         ·
          refine qa 3 rfl (qN hq1 rfl (qa 5 rfl ?_))
          obtain ⟨r13, h13, hr⟩ := za hr
          refine qs rfl qhM (qhV fuel _ _ _ _ h13) (qa 2 rfl (qb ?_))
          refine zh 104 rfl hr (fun h104_13 hr => ?_) (fun h104_13 hr => ?_)
          ·
           refine qf 3 rfl ?_
           cases hr
           refine qu Tryz.func7 rfl ?_
           rfl
          ·
           refine qf 3 rfl (qg 3 (qa 1 rfl (qaj rfl (qa 1 rfl (qb (qm [3, 8] rfl ?_))))))
           exact IH1 _ _ _ (by omega) ⟨(i8 + 1), rfl, rfl, rfl, (by omega), hr⟩
     ·
      refine qm [2, 3, 7] rfl (q9 (fun n env σ => ∃ (i7 : Nat), (n = a1.f0_Goals.length - i7) ∧ (env = [(2, .ptr (ql a0)), (3, .ptr (qJ a1)), (7, .int .i64 (i7 : Int))]) ∧ (σ = []) ∧ (i7 ≤ a1.f0_Goals.length) ∧ (qbB kk0 fuel a0 a1 (a1.f0_Goals.drop i7) = some res)) _ ⟨0, rfl, rfl, rfl, jc _, hr⟩ ?_)
      rintro n _ _ ⟨i7, rfl, rfl, rfl, hi0, hr⟩ IH0
      rcases zb a1.f0_Goals i7 hi0 with ⟨ht0, hd0, he0⟩ | ⟨q_15, ht0, hd0, hq0, hlt0⟩
      ·
       rw [hd0, qbB] at hr
       refine qe (qe (qg 5 (qa 3 rfl (qz rfl (qa 1 rfl (qb (qk 45 false rfl ht0 (qA rfl (qQ rfl (qm [3] rfl ?_))))))))))
       exact HK0 _ _ ⟨rfl, rfl, hr⟩
      ·
       rw [hd0, qbB] at hr
       refine qe (qe (qg 5 (qa 3 rfl (qz rfl (qa 1 rfl (qb (qk 45 true rfl ht0 (qf 5 rfl (qei 21 0 (qa 4 rfl (qN hq0 rfl (qa 1 rfl ?_))))))))))))
       obtain ⟨r16, h16, hr⟩ := za hr
       refine qs rfl qko (qkh _ _ _ h16) (qa 2 rfl ?_)
       refine zq 56 rfl hr (fun h56_16 hr => ?_) (fun h56_16 hr => ?_)
       ·
        refine qa 12 rfl (qb (qf 3 rfl ?_))
        cases hr
        refine qu Tryz.func7 rfl ?_
        rfl
       ·
        refine qa 3 rfl (qN hq0 rfl (qa 5 rfl ?_))
        obtain ⟨r18, h18, hr⟩ := za hr
        refine qs rfl qhM (qhV fuel _ _ _ _ h18) (qa 2 rfl (qb ?_))
        refine zh 68 rfl hr (fun h68_18 hr => ?_) (fun h68_18 hr => ?_)
        ·
         refine qf 3 rfl ?_
         cases hr
         refine qu Tryz.func7 rfl ?_
         rfl
        ·
         refine qf 3 rfl (qg 3 (qa 1 rfl (qaj rfl (qa 1 rfl (qb (qm [2, 3, 7] rfl ?_))))))
         exact IH0 _ _ _ (by omega) ⟨(i7 + 1), rfl, rfl, rfl, (by omega), hr⟩
def qaU (k : Option Int) (a1 : Int) : List (Int × T) → Nat → Option Int
 | [], i1 =>
 k
 | q_2 :: rest, i1 =>
 (bif (q_2.1 == a1) then
 some ((i1 : Int))
 else
 (qaU k a1 rest (i1 + 1)))
def qdj (a0 : List (Int × T)) (a1 : Int) : Option Int :=
 (qaU (some ((-1))) a1 a0 0)
theorem qhu (a0 : List (Int × T)) (a1 : Int) (res : Int) (hr : qdj a0 a1 = some res) : zf Tryz.prog 149 [.lst (a0.map zo), .int .i64 a1] (.int .i64 res) := by
 unfold qdj at hr
 refine qY Tryz.func149 rfl fun K hK => (qf 5 rfl ?_)
 obtain ⟨kk0, hkk0, hr⟩ := exK (fun k => qaU k a1 a0 0) hr
 refine qcq 0 rfl (asl rfl) fun hla0 => ?_
 simp only [jb] at hla0
 refine qx (fun env σ => env = [] ∧ σ = [] ∧ kk0 = some res) ?_ (fun HK0 => ?_)
 ·
  rintro _ _ ⟨rfl, rfl, hr⟩
  rw [hkk0] at hr
  refine qf 2 rfl ?_
  cases hr
  refine qu Tryz.func149 rfl ?_
  rfl
 ·
  refine qm [0, 1, 5] rfl (q9 (fun n env σ => ∃ (i1 : Nat), (n = a0.length - i1) ∧ (env = [(0, .lst (a0.map zo)), (1, .int .i64 a1), (5, .int .i64 (i1 : Int))]) ∧ (σ = []) ∧ (i1 ≤ a0.length) ∧ (qaU kk0 a1 (a0.drop i1) i1 = some res)) _ ⟨0, rfl, rfl, rfl, jc _, hr⟩ ?_)
  rintro n _ _ ⟨i1, rfl, rfl, rfl, hi0, hr⟩ IH0
  rcases zb a0 i1 hi0 with ⟨ht0, hd0, he0⟩ | ⟨q_2, ht0, hd0, hq0, hlt0⟩
  ·
   rw [hd0, qaU] at hr
   refine qe (qe (qg 4 (qa 2 rfl (qz rfl (qa 1 rfl (qb (qk 9 false rfl ht0 (qA rfl (qQ rfl (qm [] rfl ?_))))))))))
   exact HK0 _ _ ⟨rfl, rfl, hr⟩
  ·
   rw [hd0, qaU] at hr
   refine qe (qe (qg 4 (qa 2 rfl (qz rfl (qa 1 rfl (qb (qk 9 true rfl ht0 (qf 5 rfl (qg 7 (qa 2 rfl (qN hq0 rfl (qa 4 rfl (qb ?_)))))))))))))
   refine zh 18 rfl hr (fun h18_2 hr => ?_) (fun h18_2 hr => ?_)
   ·
    refine qf 3 rfl ?_
    cases hr
    refine qu Tryz.func149 rfl ?_
    rfl
   ·
    refine qf 3 rfl (qg 3 (qa 1 rfl (qaj rfl (qa 1 rfl (qb (qm [0, 1, 5] rfl ?_))))))
    exact IH0 _ _ _ (by omega) ⟨(i1 + 1), rfl, rfl, rfl, (by omega), hr⟩
def qbe (k : Int → Option ((List (Int × T)))) (a1 : (Int × T)) : List (Int × T) → Nat → Option ((List (Int × T)))
 | [], k2 =>
 (k (k2 : Int))
 | q_13 :: rest, k2 =>
 (bif (decide (q_13.1 ≤ a1.1)) then
 (qbe k a1 rest (k2 + 1))
 else
 (k (k2 : Int)))
def qdV (a0 : List (Int × T)) (a1 : (Int × T)) : Option ((List (Int × T))) :=
 (qbe (fun k3 =>
 ((yt a0 0 k3).bind fun l5 =>
 ((zN 64 [] l5).bind fun l6 =>
 ((zN 64 l6 [a1]).bind fun l8 =>
 ((yt a0 k3 (a0.length : Int)).bind fun l10 =>
 ((zN 64 l8 l10).bind fun l11 =>
 some (l11))))))) a1 a0 0)
theorem qjG (a0 : List (Int × T)) (a1 : (Int × T)) (res : List (Int × T)) (hr : qdV a0 a1 = some res) : zf Tryz.prog 150 [.lst (a0.map zo), zo a1] (.lst (res.map zo)) := by
 unfold qdV at hr
 refine qY Tryz.func150 rfl fun K hK => (qe (zg 2 4 (rd rfl (qcK rfl rfl rfl) (ew rfl (qab 92 5 (.inl rfl)) ?_))))
 rintro _ _ ⟨u4_0, rfl, rfl⟩
 refine qb (qf 3 rfl ?_)
 obtain ⟨kk0, hkk0, hr⟩ := exK (fun k => qbe k a1 a0 0) hr
 refine qcq 0 rfl (asl rfl) fun hla0 => ?_
 simp only [jb] at hla0
 refine qx (fun env σ => ∃ (k3 : Int), env = [(0, .lst (a0.map zo)), (3, .ptr (zo a1)), (5, .int .i64 k3)] ∧ σ = [] ∧ kk0 k3 = some res) ?_ (fun HK0 => ?_)
 ·
  rintro _ _ ⟨k3, rfl, rfl, hr⟩
  rw [hkk0] at hr
  refine qe (zg 1 1 (ew rfl (qab 92 5 (.inl rfl)) ?_))
  rintro _ _ ⟨u6_3, rfl, rfl⟩
  refine qb (qe (zg 6 256 (qa 3 rfl ?_)))
  obtain ⟨l5, h5, hr⟩ := za hr
  refine rd rfl (qnv (f := zo) a0 0 k3 rfl qfW rfl (asl rfl) qmf (qma rfl) qft h5) ?_
  obtain ⟨l6, h6, hr⟩ := za hr
  refine ew rfl (qaK (f := zo) [] l5 rfl qfW rfl rfl (asl rfl) (pf0 _) rfl qft h6) ?_
  rintro _ _ ⟨u27_6, rfl, rfl⟩
  refine qa 1 rfl (qb (qe (zg 5 64 (qa 2 rfl (rd rfl (qeS (f := zo) [.tmp 29] [a1] rfl qfW rfl rfl (by decide) (by decide) (.oc rfl .nil) qft (fun _ => rfl)) ?_)))))
  obtain ⟨l8, h8, hr⟩ := za hr
  refine ew rfl (qaK (f := zo) l6 [a1] rfl qfW rfl rfl (asl rfl) (pf0 _) rfl qft h8) ?_
  rintro _ _ ⟨u31_8, rfl, rfl⟩
  refine qa 1 rfl (qb (qe (zg 6 256 (qa 3 rfl ?_))))
  obtain ⟨l10, h10, hr⟩ := za hr
  refine rd rfl (qnv (f := zo) a0 k3 (a0.length : Int) rfl qfW rfl (asl rfl) (qox rfl) qoX qft h10) ?_
  obtain ⟨l11, h11, hr⟩ := za hr
  refine ew rfl (qaK (f := zo) l8 l10 rfl qfW rfl rfl (asl rfl) (pf0 _) rfl qft h11) ?_
  rintro _ _ ⟨u36_11, rfl, rfl⟩
  refine qa 1 rfl (qb ?_)
  cases hr
  refine qbQ Tryz.func150 _ (.cons (zd rfl (Wk.own _ _)) .nil) ?_
  rfl
 ·
  refine qm [0, 3, 5] rfl (qcA [] _ (pf0 _) (q9 (fun n env σ => ∃ (k2 : Nat), (n = a0.length - k2) ∧ (env = [(0, .lst (a0.map zo)), (3, .ptr (zo a1)), (5, .int .i64 (k2 : Int))]) ∧ (σ = []) ∧ (k2 ≤ a0.length) ∧ (qbe kk0 a1 (a0.drop k2) k2 = some res)) _ ⟨0, rfl, rfl, rfl, jc _, hr⟩ ?_))
  rintro n _ _ ⟨k2, rfl, rfl, rfl, hi0, hr⟩ IH0
  rcases zb a0 k2 hi0 with ⟨ht0, hd0, he0⟩ | ⟨q_13, ht0, hd0, hq0, hlt0⟩
  ·
   rw [hd0, qbe] at hr
   refine qe (qe (qei 14 0 (qa 2 rfl (qz rfl (qa 2 rfl (qiz 11 false rfl ht0 (qa 9 rfl (qb (qA rfl (qQ rfl (qm [0, 3, 5] rfl ?_)))))))))))
   exact HK0 _ _ ⟨(k2 : Int), rfl, rfl, hr⟩
  ·
   rw [hd0, qbe] at hr
   refine qe (qe (qei 14 0 (qa 2 rfl (qz rfl (qa 2 rfl (qiz 11 true rfl ht0 (qa 2 rfl (qN hq0 rfl (qa 6 rfl (qb ?_))))))))))
   refine zh 20 rfl hr (fun h20_13 hr => ?_) (fun h20_13 hr => ?_)
   ·
    refine qf 3 rfl (qg 3 (qa 1 rfl (qaj rfl (qa 1 rfl (qb (qaa (qm [0, 3, 5] rfl ?_)))))))
    exact IH0 _ _ _ (by omega) ⟨(k2 + 1), rfl, rfl, rfl, (by omega), hr⟩
   ·
    refine qA rfl (qQ rfl (qm [0, 3, 5] rfl ?_))
    exact HK0 _ _ ⟨(k2 : Int), rfl, rfl, hr⟩
def qec (rec : (List (Int × T)) → List T → List T → Option ((List (Int × T)) × Bool)) (a0 : List (Int × T)) (a1 : T) (a2 : T) : Option ((List (Int × T)) × Bool) :=
 (bif (a1.k == (2 : Int)) then
 (bif (a2.k != (2 : Int)) then
 some ([], false)
 else
 (bif (!(a1.s.toList == a2.s.toList)) then
 some ([], false)
 else
 ((rec a0 a1.ar a2.ar).bind fun r4 =>
 some (r4.1, r4.2))))
 else
 (bif (a1.k != (1 : Int)) then
 ((qlN a1 a2).bind fun r6 =>
 (bif (!r6) then
 some ([], false)
 else
 some (a0, true)))
 else
 ((qdj a0 a1.i).bind fun r8 =>
 (bif (decide (r8 < (0 : Int))) then
 ((qdV a0 (a1.i, a2)).bind fun r10 =>
 some (r10, true))
 else
 ((zj a0 r8).bind fun q11 =>
 ((qlN q11.2 a2).bind fun r12 =>
 (bif (!r12) then
 some ([], false)
 else
 some (a0, true))))))))
theorem qkc (rec : (List (Int × T)) → List T → List T → Option ((List (Int × T)) × Bool)) (IHR : ∀ (a0 : List (Int × T)) (patterns_a1 : List T) (l_a2 : List T) (res : (List (Int × T)) × Bool), rec a0 patterns_a1 l_a2 = some res → zf Tryz.prog 119 [.lst (a0.map zo), .lst (patterns_a1.map zi), .lst (l_a2.map zi)] (.tup [.lst (res.1.map zo), .bool res.2])) (a0 : List (Int × T)) (pattern_a1 : T) (t_a2 : T) (res : (List (Int × T)) × Bool) (hr : qec rec a0 pattern_a1 t_a2 = some res) : zf Tryz.prog 135 [.lst (a0.map zo), zi pattern_a1, zi t_a2] (.tup [.lst (res.1.map zo), .bool res.2]) := by
 unfold qec at hr
 refine qY Tryz.func135 rfl fun K hK => (qe (qg 4 (rd rfl (qcK rfl rfl rfl) (rd rfl (qcK rfl rfl rfl) (qa 2 rfl (qb (qe (qe (qg 3 (rd rfl (qK rfl qcg rfl (qfr _) (qfs _) rfl) (qa 2 rfl (qb ?_))))))))))))
 refine zh 11 rfl hr (fun h11_0 hr => ?_) (fun h11_0 hr => ?_)
 ·
  refine qf 3 rfl (qg 10 (rd rfl (qK rfl qcg rfl (qfr _) (qfs _) rfl) (qa 3 rfl ?_)))
  refine zq 15 rfl hr (fun h15_1 hr => ?_) (fun h15_1 hr => ?_)
  ·
   refine qa 6 rfl (qb (qf 3 rfl ?_))
   cases hr
   refine qbQ Tryz.func135 _ (.cons (zd rfl (Wk.full _)) (.cons (zd rfl (Wk.refl _)) .nil)) ?_
   rfl
  ·
   refine rd rfl (qK rfl qfp rfl (qla _) (qlh _) rfl) (qa 1 rfl (rd rfl (qK rfl qfp rfl (qla _) (qlh _) rfl) (qa 1 rfl (rd rfl (qgv rfl rfl rfl rfl) (qa 1 rfl (qb ?_))))))
   refine zh 21 rfl hr (fun h21_2 hr => ?_) (fun h21_2 hr => ?_)
   ·
    refine qf 3 rfl ?_
    cases hr
    refine qbQ Tryz.func135 _ (.cons (zd rfl (Wk.full _)) (.cons (zd rfl (Wk.refl _)) .nil)) ?_
    rfl
   ·
    refine qf 3 rfl (qg 10 (qa 1 rfl (rd rfl (qK rfl qcf rfl (qgi _) (qgf _) rfl) (qa 1 rfl (rd rfl (qK rfl qcf rfl (qgi _) (qgf _) rfl) (qa 1 rfl ?_))))))
    obtain ⟨r4, h4, hr⟩ := za hr
    refine qs rfl qhy (IHR _ _ _ _ h4) (qa 4 rfl (qb ?_))
    cases hr
    refine qu Tryz.func135 rfl ?_
    rfl
 ·
  refine qf 4 rfl (qg 3 (rd rfl (qK rfl qcg rfl (qfr _) (qfs _) rfl) (qa 2 rfl (qb ?_))))
  refine zh 32 rfl hr (fun h32_4 hr => ?_) (fun h32_4 hr => ?_)
  ·
   refine qf 3 rfl (qg 4 (qa 2 rfl ?_))
   obtain ⟨r6, h6, hr⟩ := za hr
   refine qs rfl qe0 (qe7 _ _ _ h6) (qa 1 rfl (qb ?_))
   refine zh 36 rfl hr (fun h36_6 hr => ?_) (fun h36_6 hr => ?_)
   ·
    refine qf 3 rfl ?_
    cases hr
    refine qbQ Tryz.func135 _ (.cons (zd rfl (Wk.full _)) (.cons (zd rfl (Wk.refl _)) .nil)) ?_
    rfl
   ·
    refine qf 4 rfl ?_
    cases hr
    refine qu Tryz.func135 rfl ?_
    rfl
  ·
   refine qf 3 rfl (qg 5 (qa 1 rfl (rd rfl (qK rfl qcp rfl (qfy _) (qfz _) rfl) (qa 1 rfl ?_))))
   obtain ⟨r8, h8, hr⟩ := za hr
   refine qs rfl qhr (qhu _ _ _ h8) (qa 1 rfl (qb (qf 3 rfl ?_)))
   refine zh 43 rfl hr (fun h43_8 hr => ?_) (fun h43_8 hr => ?_)
   ·
    refine qO rfl (qe (qg 8 (qa 1 rfl (rd rfl (qK rfl qcp rfl (qfy _) (qfz _) rfl) (qa 2 rfl (rd rfl (qbl rfl qkK (.oc rfl (.oc rfl .nil)) (.cons rfl rfl rfl (.cons rfl (qcl _) rfl (.nil _)))) ?_))))))
    obtain ⟨r10, h10, hr⟩ := za hr
    refine qs rfl qjD (qjG _ _ _ h10) (qa 2 rfl (qb ?_))
    cases hr
    refine qu Tryz.func135 rfl ?_
    rfl
   ·
    refine qf 4 rfl (qei 8 0 (qa 2 rfl ?_))
    obtain ⟨q11, h11, hr⟩ := za hr
    refine qN h11 rfl (qa 3 rfl ?_)
    obtain ⟨r12, h12, hr⟩ := za hr
    refine qs rfl qe0 (qe7 _ _ _ h12) (qa 1 rfl (qb ?_))
    refine zh 57 rfl hr (fun h57_12 hr => ?_) (fun h57_12 hr => ?_)
    ·
     refine qf 3 rfl ?_
     cases hr
     refine qbQ Tryz.func135 _ (.cons (zd rfl (Wk.full _)) (.cons (zd rfl (Wk.refl _)) .nil)) ?_
     rfl
    ·
     refine qf 4 rfl ?_
     cases hr
     refine qu Tryz.func135 rfl ?_
     rfl
def qag (k : ((List (Int × T))) → Bool → Option ((List (Int × T)) × Bool)) (rec : (List (Int × T)) → List T → List T → Option ((List (Int × T)) × Bool)) (a1 : List T) : List T → (List (Int × T)) → Bool → Nat → Option ((List (Int × T)) × Bool)
 | [], e2, o3, i4 =>
 (k e2 o3)
 | q_7 :: rest, e2, o3, i4 =>
 (bif o3 then
 ((zj a1 (i4 : Int)).bind fun q_9 =>
 ((qec rec e2 q_9 q_7).bind fun r10 =>
 (qag k rec a1 rest r10.1 r10.2 (i4 + 1))))
 else
 (k e2 o3))
def qdk : Nat → (List (Int × T)) → List T → List T → Option ((List (Int × T)) × Bool)
 | 0, _, _, _ => none
 | fuel + 1, a0, a1, a2 =>
  (fun (rec : (List (Int × T)) → List T → List T → Option ((List (Int × T)) × Bool)) =>
   (bif ((a1.length : Int) != (a2.length : Int)) then
   some ([], false)
   else
   (qag (fun e5 o6 =>
   some (e5, o6)) rec a1 a2 a0 true 0))) (qdk fuel)
theorem qjL (fuel : Nat) (rec : (List (Int × T)) → List T → List T → Option ((List (Int × T)) × Bool)) (IHR : ∀ (a0 : List (Int × T)) (a1 : List T) (a2 : List T) (res : (List (Int × T)) × Bool), rec a0 a1 a2 = some res → zf Tryz.prog 119 [.lst (a0.map zo), .lst (a1.map zi), .lst (a2.map zi)] (.tup [.lst (res.1.map zo), .bool res.2])) (a0 : List (Int × T)) (a1 : List T) (a2 : List T) (res : (List (Int × T)) × Bool)
 (hr : (bif ((a1.length : Int) != (a2.length : Int)) then
some ([], false)
else
(qag (fun e5 o6 =>
some (e5, o6)) rec a1 a2 a0 true 0)) = some res) : zf Tryz.prog 119 [.lst (a0.map zo), .lst (a1.map zi), .lst (a2.map zi)] (.tup [.lst (res.1.map zo), .bool res.2]) := by
 refine qY Tryz.func119 rfl fun K hK => (qf 4 rfl (qg 5 (qa 1 rfl (qz rfl (qa 1 rfl (qz rfl (qa 1 rfl (qb ?_))))))))
 refine zh 14 rfl hr (fun h14_0 hr => ?_) (fun h14_0 hr => ?_)
 ·
  refine qf 3 rfl ?_
  cases hr
  refine qbQ Tryz.func119 _ (.cons (zd rfl (Wk.full _)) (.cons (zd rfl (Wk.refl _)) .nil)) ?_
  rfl
 ·
  refine qf 7 rfl ?_
  obtain ⟨kk0, hkk0, hr⟩ := exK (fun k => qag k rec a1 a2 a0 true 0) hr
  refine qcq 2 rfl (asl rfl) fun hla0 => ?_
  simp only [jb] at hla0
  refine qx (fun env σ => ∃ (e5 : List (Int × T)) (o6 : Bool), env = [(0, .lst (e5.map zo)), (8, .bool o6)] ∧ σ = [] ∧ kk0 e5 o6 = some res) ?_ (fun HK0 => ?_)
  ·
   rintro _ _ ⟨e5, o6, rfl, rfl, hr⟩
   rw [hkk0] at hr
   refine qf 2 rfl ?_
   cases hr
   refine qu Tryz.func119 rfl ?_
   rfl
  ·
   refine qm [1, 2, 0, 8, 9] rfl (q9 (fun n env σ => ∃ (e2 : List (Int × T)) (o3 : Bool) (i4 : Nat), (n = a2.length - i4) ∧ (env = [(1, .lst (a1.map zi)), (2, .lst (a2.map zi)), (0, .lst (e2.map zo)), (8, .bool o3), (9, .int .i64 (i4 : Int))]) ∧ (σ = []) ∧ (i4 ≤ a2.length) ∧ (qag kk0 rec a1 (a2.drop i4) e2 o3 i4 = some res)) _ ⟨a0, true, 0, rfl, rfl, rfl, jc _, hr⟩ ?_)
   rintro n _ _ ⟨e2, o3, i4, rfl, rfl, rfl, hi0, hr⟩ IH0
   rcases zb a2 i4 hi0 with ⟨ht0, hd0, he0⟩ | ⟨q_7, ht0, hd0, hq0, hlt0⟩
   ·
    rw [hd0, qag] at hr
    refine qe (qe (qg 7 (qa 2 rfl (qz rfl (qa 2 rfl (qiz 19 false rfl ht0 (qa 2 rfl (qb (qA rfl (qQ rfl (qm [0, 8] rfl ?_)))))))))))
    exact HK0 _ _ ⟨e2, o3, rfl, rfl, hr⟩
   ·
    rw [hd0, qag] at hr
    refine qe (qe (qg 7 (qa 2 rfl (qz rfl (qa 2 rfl (qiz 19 true rfl ht0 (qa 2 rfl (qb ?_))))))))
    refine zh 21 rfl hr (fun h21_7 hr => ?_) (fun h21_7 hr => ?_)
    ·
     refine qf 4 rfl (qei 15 0 (qa 3 rfl ?_))
     obtain ⟨q_9, h9, hr⟩ := za hr
     refine qN h9 rfl (qa 3 rfl (qN hq0 rfl (qa 1 rfl ?_)))
     obtain ⟨r10, h10, hr⟩ := za hr
     refine qs rfl qk4 (qkc rec IHR _ _ _ _ h10) (qa 5 rfl (qb (qaa (qg 3 (qa 1 rfl (qaj rfl (qa 1 rfl (qb (qm [1, 2, 0, 8, 9] rfl ?_)))))))))
     exact IH0 _ _ _ (by omega) ⟨r10.1, r10.2, (i4 + 1), rfl, rfl, rfl, (by omega), hr⟩
    ·
     refine qA rfl (qQ rfl (qm [0, 8] rfl ?_))
     exact HK0 _ _ ⟨e2, o3, rfl, rfl, hr⟩
theorem qhh : ∀ (fuel : Nat) (a0 : List (Int × T)) (a1 : List T) (a2 : List T) (res : (List (Int × T)) × Bool), qdk fuel a0 a1 a2 = some res → zf Tryz.prog 119 [.lst (a0.map zo), .lst (a1.map zi), .lst (a2.map zi)] (.tup [.lst (res.1.map zo), .bool res.2])
 | 0, _, _, _, _, h => by cases h
 | fuel + 1, a0, a1, a2, res, h => qjL fuel (qdk fuel) (qhh fuel) a0 a1 a2 res h
def qeo (fuel : Nat) (a0 : List (Int × T)) (a1 : At) (a2 : At) : Option ((List (Int × T)) × Bool) :=
 (bif (!(a1.n.toList == a2.n.toList)) then
 some ([], false)
 else
 ((qdk fuel a0 a1.ts a2.ts).bind fun r2 =>
 some (r2.1, r2.2)))
theorem qkI (fuel : Nat) (a0 : List (Int × T)) (a1 : At) (a2 : At) (res : (List (Int × T)) × Bool) (hr : qeo fuel a0 a1 a2 = some res) : zf Tryz.prog 90 [.lst (a0.map zo), zX a1, zX a2] (.tup [.lst (res.1.map zo), .bool res.2]) := by
 unfold qeo at hr
 refine qY Tryz.func90 rfl fun K hK => (qe (qg 4 (rd rfl (qcK rfl rfl rfl) (rd rfl (qcK rfl rfl rfl) (qa 2 rfl (qb (qe (qe (qg 5 (qa 4 rfl (rd rfl (qgv rfl rfl rfl rfl) (qb ?_))))))))))))
 refine zh 12 rfl hr (fun h12_0 hr => ?_) (fun h12_0 hr => ?_)
 ·
  refine qf 3 rfl ?_
  cases hr
  refine qbQ Tryz.func90 _ (.cons (zd rfl (Wk.full _)) (.cons (zd rfl (Wk.refl _)) .nil)) ?_
  rfl
 ·
  refine qf 3 rfl (qg 10 (qa 5 rfl ?_))
  obtain ⟨r2, h2, hr⟩ := za hr
  refine qs rfl qhy (qhh fuel _ _ _ _ h2) (qa 4 rfl (qb ?_))
  cases hr
  refine qu Tryz.func90 rfl ?_
  rfl
def qc8 (a0 : Int) (a1 : Int) : Option Bool :=
 (bif (decide (a0 > (0 : Int))) then
 (bif (decide (a1 > (0 : Int))) then
 (bif (decide ((wr (a0 + a1)) < (0 : Int))) then
 some (true)
 else
 (bif (decide (a0 < (0 : Int))) then
 (bif (decide (a1 < (0 : Int))) then
 some ((decide ((wr (a0 + a1)) ≥ (0 : Int))))
 else
 some (false))
 else
 some (false)))
 else
 (bif (decide (a0 < (0 : Int))) then
 (bif (decide (a1 < (0 : Int))) then
 some ((decide ((wr (a0 + a1)) ≥ (0 : Int))))
 else
 some (false))
 else
 some (false)))
 else
 (bif (decide (a0 < (0 : Int))) then
 (bif (decide (a1 < (0 : Int))) then
 some ((decide ((wr (a0 + a1)) ≥ (0 : Int))))
 else
 some (false))
 else
 some (false)))
theorem qjP (a0 : Int) (a1 : Int) (res : Bool) (hr : qc8 a0 a1 = some res) : zf Tryz.prog 155 [.int .i64 a0, .int .i64 a1] (.bool res) := by
 unfold qc8 at hr
 refine qY Tryz.func155 rfl fun K hK => (qf 3 rfl (qg 4 (qa 2 rfl (rd rfl (qeF rfl rfl rfl rfl) (qa 1 rfl (qb (qe (qg 23 (qa 3 rfl ?_)))))))))
 refine zq 11 rfl hr (fun h11_0 hr => ?_) (fun h11_0 hr => ?_)
 ·
  refine qa 4 rfl ?_
  refine zq 15 rfl hr (fun h15_1 hr => ?_) (fun h15_1 hr => ?_)
  ·
   refine qa 4 rfl ?_
   refine zq 19 rfl hr (fun h19_2 hr => ?_) (fun h19_2 hr => ?_)
   ·
    refine qa 12 rfl (qb ?_)
    cases hr
    refine qu Tryz.func155 rfl ?_
    rfl
   ·
    refine qa 3 rfl ?_
    refine zq 22 rfl hr (fun h22_3 hr => ?_) (fun h22_3 hr => ?_)
    ·
     refine qa 4 rfl ?_
     refine zq 26 rfl hr (fun h26_4 hr => ?_) (fun h26_4 hr => ?_)
     ·
      refine qa 5 rfl (qb ?_)
      cases hr
      refine qu Tryz.func155 rfl ?_
      rfl
     ·
      refine qa 5 rfl (qb ?_)
      cases hr
      refine qu Tryz.func155 rfl ?_
      rfl
    ·
     refine qa 9 rfl (qb ?_)
     cases hr
     refine qu Tryz.func155 rfl ?_
     rfl
  ·
   refine qa 7 rfl ?_
   refine zq 22 rfl hr (fun h22_5 hr => ?_) (fun h22_5 hr => ?_)
   ·
    refine qa 4 rfl ?_
    refine zq 26 rfl hr (fun h26_6 hr => ?_) (fun h26_6 hr => ?_)
    ·
     refine qa 5 rfl (qb ?_)
     cases hr
     refine qu Tryz.func155 rfl ?_
     rfl
    ·
     refine qa 5 rfl (qb ?_)
     cases hr
     refine qu Tryz.func155 rfl ?_
     rfl
   ·
    refine qa 9 rfl (qb ?_)
    cases hr
    refine qu Tryz.func155 rfl ?_
    rfl
 ·
  refine qa 11 rfl ?_
  refine zq 22 rfl hr (fun h22_7 hr => ?_) (fun h22_7 hr => ?_)
  ·
   refine qa 4 rfl ?_
   refine zq 26 rfl hr (fun h26_8 hr => ?_) (fun h26_8 hr => ?_)
   ·
    refine qa 5 rfl (qb ?_)
    cases hr
    refine qu Tryz.func155 rfl ?_
    rfl
   ·
    refine qa 5 rfl (qb ?_)
    cases hr
    refine qu Tryz.func155 rfl ?_
    rfl
  ·
   refine qa 9 rfl (qb ?_)
   cases hr
   refine qu Tryz.func155 rfl ?_
   rfl
def qfa (a0 : Int) : Option T :=
 some ((T.mk 1 a0 ⟨#[]⟩ []))
theorem qh3 (a0 : Int) (res : T) (hr : qfa a0 = some res) : zf Tryz.prog 156 [.int .i64 a0] (zi res) := by
 unfold qfa at hr
 refine qY Tryz.func156 rfl fun K hK => (qe (zg 1 1 (ew rfl (qaJ rfl qc0) ?_)))
 rintro _ _ ⟨b2_0, rfl, rfl⟩
 refine qb (qe (zg 3 16 (qa 1 rfl (rd rfl (qbl rfl qeB (.oc rfl (.oc rfl .nil)) (.cons rfl rfl rfl (.cons rfl rfl rfl (.nil _)))) (qcr rfl (pf0 _) (qb ?_))))))
 cases hr
 refine qbQ Tryz.func156 _ (.cons (zy rfl (.head _) (by exact qdC) rfl (Wk.refl _)) .nil) ?_
 first | rfl | (show _ = D.agg (fsT _); rw [qdQ] <;> rfl) | simp [yJ, zi, qdQ, T.k, T.i, T.s, T.ar]
def qgd (a0 : Int) : Option T :=
 some ((T.mk 0 a0 ⟨#[]⟩ []))
theorem qlw (a0 : Int) (res : T) (hr : qgd a0 = some res) : zf Tryz.prog 157 [.int .i64 a0] (zi res) := by
 unfold qgd at hr
 refine qY Tryz.func157 rfl fun K hK => (qe (zg 1 1 (ew rfl (qaJ rfl qc0) ?_)))
 rintro _ _ ⟨b2_0, rfl, rfl⟩
 refine qb (qe (zg 3 16 (qa 1 rfl (rd rfl (qbl rfl qeB (.oc rfl (.oc rfl .nil)) (.cons rfl rfl rfl (.cons rfl rfl rfl (.nil _)))) (qcr rfl (pf0 _) (qb ?_))))))
 cases hr
 refine qbQ Tryz.func157 _ (.cons (zy rfl (.head _) (by exact qdC) rfl (Wk.refl _)) .nil) ?_
 first | rfl | (show _ = D.agg (fsT _); rw [qdQ] <;> rfl) | simp [yJ, zi, qdQ, T.k, T.i, T.s, T.ar]
def qdi (rec : (List (Int × T)) → Int → List T → Option (List T)) (a0 : List (Int × T)) (a1 : Int) (a2 : T) : Option T :=
 (bif (a2.k == (2 : Int)) then
 ((rec a0 a1 a2.ar).bind fun r3 =>
 some ((T.mk 2 0 a2.s r3)))
 else
 (bif (a2.k == (1 : Int)) then
 ((qdj a0 a2.i).bind fun r5 =>
 (bif (decide (r5 ≥ (0 : Int))) then
 ((zj a0 r5).bind fun q_7 =>
 some (q_7.2))
 else
 ((qc8 a1 a2.i).bind fun r8 =>
 (bif r8 then
 ((qfa a2.i).bind fun r10 =>
 some (r10))
 else
 ((qfa (wr (a1 + a2.i))).bind fun r11 =>
 some (r11))))))
 else
 (bif (a2.k == (0 : Int)) then
 ((qgd a2.i).bind fun r13 =>
 some (r13))
 else
 some (a2))))
end
end Go.Proofs.YtlfcjfiecoapoaaGreat
