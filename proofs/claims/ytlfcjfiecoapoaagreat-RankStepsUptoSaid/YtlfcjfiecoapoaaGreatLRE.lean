/-
 Texts of the seat, merged.
-/
import Derived.Test.YtlfcjfiecoapoaaGreatLRD
set_option linter.unusedVariables false
set_option linter.unusedSimpArgs false
set_option linter.unnecessarySimpa false
set_option linter.all false
set_option maxHeartbeats 8000000
namespace Go.Proofs.YtlfcjfiecoapoaaGreat
noncomputable section
set_option maxRecDepth 100000
open Go.RowKit
theorem qiE : zV Tryz.prog 210 [.own (.slice none 0 0) [], .vec (.slice none 0 0) 0] := .mk rfl (by kernel_rfl) Tryz.underlying210 (by kernel_rfl)
structure qd where
 f0_Kind : Int
 f1_Int : Int
 f2_Name : ByteArray
 f3_Kids : (List Int)
def qc (x : qd) : D := .agg [.int .i64 x.f0_Kind, .int .i64 x.f1_Int, .str x.f2_Name, .lst (x.f3_Kids.map (D.int .i64))]
theorem qdT (x : qd) : sz (qc x) = 4 := by
 simp only [qc, sz, szs]
theorem qjH : zV Tryz.prog 215 [.int .i64 0, .int .i64 0, .str ⟨#[]⟩, .own (.slice none 0 0) []] := .mk rfl (by kernel_rfl) Tryz.underlying215 (by kernel_rfl)
structure qi where
 f0_Size : Int
 f1_Depth : Int
def qt (x : qi) : D := .agg [.int .i64 x.f0_Size, .int .i64 x.f1_Depth]
theorem qce (x : qi) : sz (qt x) = 2 := by
 simp only [qt, sz, szs]
theorem qq0 : zV Tryz.prog 71 [.int .i64 0, .int .i64 0, .str ⟨#[]⟩, .own (.slice none 0 0) []] := .mk rfl (by kernel_rfl) Tryz.underlying71 (by kernel_rfl)
def qda (a0 : Gl) : Option Bool :=
 (bif (decide (a0.op ≥ (5 : Int))) then
 (bif (decide (a0.op ≤ (12 : Int))) then
 ((qiQ a0).bind fun r3 =>
 some (r3))
 else
 some (false))
 else
 some (false))
theorem qg9 (a0 : Gl) (res : Bool) (hr : qda a0 = some res) : zf Tryz.prog 120 [zA a0] (.bool res) := by
 unfold qda at hr
 refine qY Tryz.func120 rfl fun K hK => (qe (qg 2 (rd rfl (qcK rfl rfl rfl) (qa 1 rfl (qb (qe (qg 13 (qa 4 rfl ?_))))))))
 refine zq 6 rfl hr (fun h6_0 hr => ?_) (fun h6_0 hr => ?_)
 ·
  refine qa 5 rfl ?_
  refine zq 11 rfl hr (fun h11_1 hr => ?_) (fun h11_1 hr => ?_)
  ·
   refine qa 1 rfl ?_
   obtain ⟨r3, h3, hr⟩ := za hr
   refine qs rfl qci (qcd _ _ h3) (qa 2 rfl (qb ?_))
   cases hr
   refine qu Tryz.func120 rfl ?_
   rfl
  ·
   refine qa 4 rfl (qb ?_)
   cases hr
   refine qu Tryz.func120 rfl ?_
   rfl
 ·
  refine qa 9 rfl (qb ?_)
  cases hr
  refine qu Tryz.func120 rfl ?_
  rfl
def qU (a0 : Bool) : Option Int :=
 (bif a0 then
 some (1)
 else
 some (2))
theorem qba (a0 : Bool) (res : Int) (hr : qU a0 = some res) : zf Tryz.prog 137 [.bool a0] (.int .i64 res) := by
 unfold qU at hr
 refine qY Tryz.func137 rfl fun K hK => (qf 5 rfl ?_)
 refine zh 3 rfl hr (fun h3_0 hr => ?_) (fun h3_0 hr => ?_)
 ·
  refine qf 3 rfl ?_
  cases hr
  refine qu Tryz.func137 rfl ?_
  rfl
 ·
  refine qf 4 rfl ?_
  cases hr
  refine qu Tryz.func137 rfl ?_
  rfl
def qcH (fuel : Nat) (a0 : T) : Option Bool :=
 ((qc5 fuel a0).bind fun r1 =>
 some (((r1.length : Int) == (0 : Int))))
theorem qfu (fuel : Nat) (a0 : T) (res : Bool) (hr : qcH fuel a0 = some res) : zf Tryz.prog 138 [zi a0] (.bool res) := by
 unfold qcH at hr
 refine qY Tryz.func138 rfl fun K hK => (qe (qg 2 (rd rfl (qcK rfl rfl rfl) (qa 1 rfl (qb (qe (qg 5 (qa 1 rfl ?_))))))))
 obtain ⟨r1, h1, hr⟩ := za hr
 refine qs rfl qfX (qf3 fuel _ _ h1) (qz rfl (qa 2 rfl (qb ?_)))
 cases hr
 refine qu Tryz.func138 rfl ?_
 rfl
def qcT (a0 : ByteArray) : Option Bool :=
 (bif (a0.toList == (⟨#[43]⟩ : ByteArray).toList) then
 some (true)
 else
 (bif (a0.toList == (⟨#[45]⟩ : ByteArray).toList) then
 some (true)
 else
 (bif (a0.toList == (⟨#[42]⟩ : ByteArray).toList) then
 some (true)
 else
 (bif (a0.toList == (⟨#[47]⟩ : ByteArray).toList) then
 some (true)
 else
 some ((a0.toList == (⟨#[37]⟩ : ByteArray).toList))))))
theorem qjg (a0 : ByteArray) (res : Bool) (hr : qcT a0 = some res) : zf Tryz.prog 130 [.str a0] (.bool res) := by
 unfold qcT at hr
 refine qY Tryz.func130 rfl fun K hK => (qf 3 rfl (qg 19 (qa 1 rfl (rd rfl (qgv rfl rfl rfl rfl) (qa 1 rfl ?_)))))
 refine zq 5 rfl hr (fun h5_0 hr => ?_) (fun h5_0 hr => ?_)
 ·
  refine qa 16 rfl (qb ?_)
  cases hr
  refine qu Tryz.func130 rfl ?_
  rfl
 ·
  refine qa 1 rfl (rd rfl (qgv rfl rfl rfl rfl) (qa 2 rfl ?_))
  refine zq 9 rfl hr (fun h9_1 hr => ?_) (fun h9_1 hr => ?_)
  ·
   refine qa 12 rfl (qb ?_)
   cases hr
   refine qu Tryz.func130 rfl ?_
   rfl
  ·
   refine qa 1 rfl (rd rfl (qgv rfl rfl rfl rfl) (qa 2 rfl ?_))
   refine zq 13 rfl hr (fun h13_2 hr => ?_) (fun h13_2 hr => ?_)
   ·
    refine qa 8 rfl (qb ?_)
    cases hr
    refine qu Tryz.func130 rfl ?_
    rfl
   ·
    refine qa 1 rfl (rd rfl (qgv rfl rfl rfl rfl) (qa 2 rfl ?_))
    refine zq 17 rfl hr (fun h17_3 hr => ?_) (fun h17_3 hr => ?_)
    ·
     refine qa 4 rfl (qb ?_)
     cases hr
     refine qu Tryz.func130 rfl ?_
     rfl
    ·
     refine qa 1 rfl (rd rfl (qgv rfl rfl rfl rfl) (qa 2 rfl (qb ?_)))
     cases hr
     refine qu Tryz.func130 rfl ?_
     rfl
def qcx : Nat → T → Option Bool
 | 0, _ => none
 | fuel + 1, a0 =>
  (fun (rec : T → Option Bool) =>
   (bif (a0.k == (0 : Int)) then
   some (true)
   else
   (bif (a0.k == (1 : Int)) then
   some (true)
   else
   (bif (a0.k == (2 : Int)) then
   ((qcT a0.s).bind fun r4 =>
   (bif r4 then
   (bif ((a0.ar.length : Int) == (2 : Int)) then
   ((zj a0.ar 0).bind fun q_7 =>
   ((rec q_7).bind fun r8 =>
   (bif r8 then
   ((zj a0.ar 1).bind fun q_10 =>
   ((rec q_10).bind fun r11 =>
   some (r11)))
   else
   some (false))))
   else
   some (false))
   else
   some (false)))
   else
   some (false))))) (qcx fuel)
theorem qji (fuel : Nat) (rec : T → Option Bool) (IHR : ∀ (a0 : T) (res : Bool), rec a0 = some res → zf Tryz.prog 152 [zi a0] (.bool res)) (a0 : T) (res : Bool)
 (hr : (bif (a0.k == (0 : Int)) then
some (true)
else
(bif (a0.k == (1 : Int)) then
some (true)
else
(bif (a0.k == (2 : Int)) then
((qcT a0.s).bind fun r4 =>
(bif r4 then
(bif ((a0.ar.length : Int) == (2 : Int)) then
((zj a0.ar 0).bind fun q_7 =>
((rec q_7).bind fun r8 =>
(bif r8 then
((zj a0.ar 1).bind fun q_10 =>
((rec q_10).bind fun r11 =>
some (r11)))
else
some (false))))
else
some (false))
else
some (false)))
else
some (false)))) = some res) : zf Tryz.prog 152 [zi a0] (.bool res) := by
 refine qY Tryz.func152 rfl fun K hK => (qe (qg 2 (rd rfl (qcK rfl rfl rfl) (qa 1 rfl (qb (qe (qe (qg 8 (rd rfl (qK rfl qcg rfl (qfr _) (qfs _) rfl) (qa 3 rfl ?_))))))))))
 refine zq 6 rfl hr (fun h6_0 hr => ?_) (fun h6_0 hr => ?_)
 ·
  refine qa 4 rfl (qb (qf 3 rfl ?_))
  cases hr
  refine qu Tryz.func152 rfl ?_
  rfl
 ·
  refine rd rfl (qK rfl qcg rfl (qfr _) (qfs _) rfl) (qa 3 rfl (qb ?_))
  refine zh 10 rfl hr (fun h10_1 hr => ?_) (fun h10_1 hr => ?_)
  ·
   refine qf 3 rfl ?_
   cases hr
   refine qu Tryz.func152 rfl ?_
   rfl
  ·
   refine qf 3 rfl (qg 29 (rd rfl (qK rfl qcg rfl (qfr _) (qfs _) rfl) (qa 3 rfl ?_)))
   refine zq 14 rfl hr (fun h14_2 hr => ?_) (fun h14_2 hr => ?_)
   ·
    refine rd rfl (qK rfl qfp rfl (qla _) (qlh _) rfl) (qa 1 rfl ?_)
    obtain ⟨r4, h4, hr⟩ := za hr
    refine qs rfl qjd (qjg _ _ h4) (qa 2 rfl ?_)
    refine zq 19 rfl hr (fun h19_4 hr => ?_) (fun h19_4 hr => ?_)
    ·
     refine rd rfl (qK rfl qcf rfl (qgi _) (qgf _) rfl) (qa 1 rfl (qz rfl (qa 3 rfl ?_)))
     refine zq 25 rfl hr (fun h25_5 hr => ?_) (fun h25_5 hr => ?_)
     ·
      refine rd rfl (qK rfl qcf rfl (qgi _) (qgf _) rfl) (qa 1 rfl ?_)
      obtain ⟨q_7, h7, hr⟩ := za hr
      refine qN h7 rfl (qa 1 rfl ?_)
      obtain ⟨r8, h8, hr⟩ := za hr
      refine qs rfl qev (IHR _ _ h8) (qa 2 rfl ?_)
      refine zq 32 rfl hr (fun h32_8 hr => ?_) (fun h32_8 hr => ?_)
      ·
       refine rd rfl (qK rfl qcf rfl (qgi _) (qgf _) rfl) (qa 1 rfl ?_)
       obtain ⟨q_10, h10, hr⟩ := za hr
       refine qN h10 rfl (qa 1 rfl ?_)
       obtain ⟨r11, h11, hr⟩ := za hr
       refine qs rfl qev (IHR _ _ h11) (qa 2 rfl (qb ?_))
       cases hr
       refine qu Tryz.func152 rfl ?_
       rfl
      ·
       refine qa 7 rfl (qb ?_)
       cases hr
       refine qu Tryz.func152 rfl ?_
       rfl
     ·
      refine qa 14 rfl (qb ?_)
      cases hr
      refine qu Tryz.func152 rfl ?_
      rfl
    ·
     refine qa 20 rfl (qb ?_)
     cases hr
     refine qu Tryz.func152 rfl ?_
     rfl
   ·
    refine qa 25 rfl (qb ?_)
    cases hr
    refine qu Tryz.func152 rfl ?_
    rfl
theorem qfj : ∀ (fuel : Nat) (a0 : T) (res : Bool), qcx fuel a0 = some res → zf Tryz.prog 152 [zi a0] (.bool res)
 | 0, _, _, h => by cases h
 | fuel + 1, a0, res, h => qji fuel (qcx fuel) (qfj fuel) a0 res h
def qas (a0 : Int) : Option Bool :=
 (bif (decide (a0 ≥ ((-2147483648) : Int))) then
 some ((decide (a0 ≤ (2147483648 : Int))))
 else
 some (false))
theorem qcV (a0 : Int) (res : Bool) (hr : qas a0 = some res) : zf Tryz.prog 144 [.int .i64 a0] (.bool res) := by
 unfold qas at hr
 refine qY Tryz.func144 rfl fun K hK => (qf 3 rfl (qg 7 (qa 3 rfl ?_)))
 refine zq 5 rfl hr (fun h5_0 hr => ?_) (fun h5_0 hr => ?_)
 ·
  refine qa 4 rfl (qb ?_)
  cases hr
  refine qu Tryz.func144 rfl ?_
  rfl
 ·
  refine qa 4 rfl (qb ?_)
  cases hr
  refine qu Tryz.func144 rfl ?_
  rfl
def qco (a0 : ByteArray) : Option Bool :=
 (bif (a0.toList == (⟨#[43]⟩ : ByteArray).toList) then
 some (true)
 else
 (bif (a0.toList == (⟨#[45]⟩ : ByteArray).toList) then
 some (true)
 else
 (bif (a0.toList == (⟨#[42]⟩ : ByteArray).toList) then
 some (true)
 else
 (bif (a0.toList == (⟨#[47]⟩ : ByteArray).toList) then
 some (true)
 else
 some ((a0.toList == (⟨#[37]⟩ : ByteArray).toList))))))
theorem qgs (a0 : ByteArray) (res : Bool) (hr : qco a0 = some res) : zf Tryz.prog 145 [.str a0] (.bool res) := by
 unfold qco at hr
 refine qY Tryz.func145 rfl fun K hK => (qf 3 rfl (qg 19 (qa 1 rfl (rd rfl (qgv rfl rfl rfl rfl) (qa 1 rfl ?_)))))
 refine zq 5 rfl hr (fun h5_0 hr => ?_) (fun h5_0 hr => ?_)
 ·
  refine qa 16 rfl (qb ?_)
  cases hr
  refine qu Tryz.func145 rfl ?_
  rfl
 ·
  refine qa 1 rfl (rd rfl (qgv rfl rfl rfl rfl) (qa 2 rfl ?_))
  refine zq 9 rfl hr (fun h9_1 hr => ?_) (fun h9_1 hr => ?_)
  ·
   refine qa 12 rfl (qb ?_)
   cases hr
   refine qu Tryz.func145 rfl ?_
   rfl
  ·
   refine qa 1 rfl (rd rfl (qgv rfl rfl rfl rfl) (qa 2 rfl ?_))
   refine zq 13 rfl hr (fun h13_2 hr => ?_) (fun h13_2 hr => ?_)
   ·
    refine qa 8 rfl (qb ?_)
    cases hr
    refine qu Tryz.func145 rfl ?_
    rfl
   ·
    refine qa 1 rfl (rd rfl (qgv rfl rfl rfl rfl) (qa 2 rfl ?_))
    refine zq 17 rfl hr (fun h17_3 hr => ?_) (fun h17_3 hr => ?_)
    ·
     refine qa 4 rfl (qb ?_)
     cases hr
     refine qu Tryz.func145 rfl ?_
     rfl
    ·
     refine qa 1 rfl (rd rfl (qgv rfl rfl rfl rfl) (qa 2 rfl (qb ?_)))
     cases hr
     refine qu Tryz.func145 rfl ?_
     rfl
def qd7 (a0 : Int) (a1 : Int) : Option Int :=
 (bif (decide (a1 < (0 : Int))) then
 (bif (decide ((wr (-a0)) ≥ (0 : Int))) then
 ((zbv (wr (-a0)) (wr (-a1))).bind fun m3 =>
 some (m3))
 else
 ((zbv (wr ((wr ((wr (-a1)) - (1 : Int))) - (wr (-a0)))) (wr (-a1))).bind fun m4 =>
 some ((wr (-m4)))))
 else
 (bif (decide (a0 ≥ (0 : Int))) then
 ((zbv a0 a1).bind fun m6 =>
 some (m6))
 else
 ((zbv (wr ((wr (a1 - (1 : Int))) - a0)) a1).bind fun m7 =>
 some ((wr (-m7))))))
theorem qkB (a0 : Int) (a1 : Int) (res : Int) (hr : qd7 a0 a1 = some res) : zf Tryz.prog 159 [.int .i64 a0, .int .i64 a1] (.int .i64 res) := by
 unfold qd7 at hr
 refine qY Tryz.func159 rfl fun K hK => (qf 5 rfl ?_)
 refine zh 6 rfl hr (fun h6_0 hr => ?_) (fun h6_0 hr => ?_)
 ·
  refine qO rfl (qg 6 (qa 1 rfl (rd rfl (qyo rfl rfl) (qa 1 rfl (rd rfl (qyo rfl rfl) (qa 2 rfl (qb (qf 3 rfl ?_))))))))
  refine zh 12 rfl hr (fun h12_1 hr => ?_) (fun h12_1 hr => ?_)
  ·
   refine qO rfl (qe (qg 4 (qa 2 rfl ?_)))
   obtain ⟨m3, h3, hr⟩ := za hr
   refine rd rfl (qup rfl rfl rfl h3) (qa 1 rfl (qb ?_))
   cases hr
   refine qu Tryz.func159 rfl ?_
   rfl
  ·
   refine qf 3 rfl (qg 8 (qa 1 rfl (rd rfl (qeF rfl rfl rfl rfl) (qa 1 rfl (rd rfl (qeF rfl rfl rfl rfl) (qa 1 rfl ?_))))))
   obtain ⟨m4, h4, hr⟩ := za hr
   refine rd rfl (qup rfl rfl rfl h4) (rd rfl (qyo rfl rfl) (qa 1 rfl (qb ?_)))
   cases hr
   refine qu Tryz.func159 rfl ?_
   rfl
 ·
  refine qf 5 rfl ?_
  refine zh 12 rfl hr (fun h12_4 hr => ?_) (fun h12_4 hr => ?_)
  ·
   refine qO rfl (qe (qg 4 (qa 2 rfl ?_)))
   obtain ⟨m6, h6, hr⟩ := za hr
   refine rd rfl (qup rfl rfl rfl h6) (qa 1 rfl (qb ?_))
   cases hr
   refine qu Tryz.func159 rfl ?_
   rfl
  ·
   refine qf 3 rfl (qg 8 (qa 1 rfl (rd rfl (qeF rfl rfl rfl rfl) (qa 1 rfl (rd rfl (qeF rfl rfl rfl rfl) (qa 1 rfl ?_))))))
   obtain ⟨m7, h7, hr⟩ := za hr
   refine rd rfl (qup rfl rfl rfl h7) (rd rfl (qyo rfl rfl) (qa 1 rfl (qb ?_)))
   cases hr
   refine qu Tryz.func159 rfl ?_
   rfl
def qdq (a0 : ByteArray) (a1 : Int) (a2 : Int) : Option (Int × Int) :=
 ((qco a0).bind fun r1 =>
 (bif (!r1) then
 some (0, 7)
 else
 ((qas a1).bind fun r3 =>
 (bif (!r3) then
 some (0, 5)
 else
 ((qas a2).bind fun r5 =>
 (bif (!r5) then
 some (0, 5)
 else
 (bif (a0.toList == (⟨#[43]⟩ : ByteArray).toList) then
 ((qas (wr (a1 + a2))).bind fun r8 =>
 (bif (!r8) then
 some (0, 5)
 else
 some ((wr (a1 + a2)), 0)))
 else
 (bif (a0.toList == (⟨#[45]⟩ : ByteArray).toList) then
 ((qas (wr (a1 - a2))).bind fun r11 =>
 (bif (!r11) then
 some (0, 5)
 else
 some ((wr (a1 - a2)), 0)))
 else
 (bif (a0.toList == (⟨#[42]⟩ : ByteArray).toList) then
 ((qas (wr (a1 * a2))).bind fun r14 =>
 (bif (!r14) then
 some (0, 5)
 else
 some ((wr (a1 * a2)), 0)))
 else
 (bif (a2 == (0 : Int)) then
 some (0, 12)
 else
 ((qd7 a1 a2).bind fun r17 =>
 (bif (a0.toList == (⟨#[37]⟩ : ByteArray).toList) then
 ((qas (wr (a1 - (wr (r17 * a2))))).bind fun r19 =>
 (bif (!r19) then
 some (0, 5)
 else
 some ((wr (a1 - (wr (r17 * a2)))), 0)))
 else
 ((qas r17).bind fun r21 =>
 (bif (!r21) then
 some (0, 5)
 else
 some (r17, 0)))))))))))))))
theorem qj5 (a0 : ByteArray) (a1 : Int) (a2 : Int) (res : Int × Int) (hr : qdq a0 a1 a2 = some res) : zf Tryz.prog 146 [.str a0, .int .i64 a1, .int .i64 a2] (.tup [.int .i64 res.1, .int .i64 res.2]) := by
 unfold qdq at hr
 refine qY Tryz.func146 rfl fun K hK => (qf 4 rfl (qg 3 (qa 1 rfl ?_)))
 obtain ⟨r1, h1, hr⟩ := za hr
 refine qs rfl qgl (qgs _ _ h1) (qa 1 rfl (qb ?_))
 refine zh 11 rfl hr (fun h11_1 hr => ?_) (fun h11_1 hr => ?_)
 ·
  refine qf 3 rfl ?_
  cases hr
  refine qu Tryz.func146 rfl ?_
  rfl
 ·
  refine qf 4 rfl (qg 8 (qa 1 rfl ?_))
  obtain ⟨r3, h3, hr⟩ := za hr
  refine qs rfl qcX (qcV _ _ h3) (qa 2 rfl ?_)
  refine zq 15 rfl hr (fun h15_3 hr => ?_) (fun h15_3 hr => ?_)
  ·
   refine qa 4 rfl (qb (qf 3 rfl ?_))
   cases hr
   refine qu Tryz.func146 rfl ?_
   rfl
  ·
   refine qa 1 rfl ?_
   obtain ⟨r5, h5, hr⟩ := za hr
   refine qs rfl qcX (qcV _ _ h5) (qa 2 rfl (qb ?_))
   refine zh 19 rfl hr (fun h19_5 hr => ?_) (fun h19_5 hr => ?_)
   ·
    refine qf 3 rfl ?_
    cases hr
    refine qu Tryz.func146 rfl ?_
    rfl
   ·
    refine qf 9 rfl (qg 2 (rd rfl (qgv rfl rfl rfl rfl) (qa 1 rfl (qb ?_))))
    refine zh 33 rfl hr (fun h33_6 hr => ?_) (fun h33_6 hr => ?_)
    ·
     refine qO rfl (qg 4 (qa 2 rfl (rd rfl (qeF rfl rfl rfl rfl) (qa 1 rfl (qb (qf 3 rfl (qg 3 (qa 1 rfl ?_))))))))
     obtain ⟨r8, h8, hr⟩ := za hr
     refine qs rfl qcX (qcV _ _ h8) (qa 1 rfl (qb ?_))
     refine zh 50 rfl hr (fun h50_8 hr => ?_) (fun h50_8 hr => ?_)
     ·
      refine qf 3 rfl ?_
      cases hr
      refine qu Tryz.func146 rfl ?_
      rfl
     ·
      refine qf 4 rfl ?_
      cases hr
      refine qu Tryz.func146 rfl ?_
      rfl
    ·
     refine qA rfl (qe (qg 2 (rd rfl (qgv rfl rfl rfl rfl) (qa 1 rfl (qb ?_)))))
     refine zh 38 rfl hr (fun h38_9 hr => ?_) (fun h38_9 hr => ?_)
     ·
      refine qO rfl (qg 4 (qa 2 rfl (rd rfl (qeF rfl rfl rfl rfl) (qa 1 rfl (qb (qf 3 rfl (qg 3 (qa 1 rfl ?_))))))))
      obtain ⟨r11, h11, hr⟩ := za hr
      refine qs rfl qcX (qcV _ _ h11) (qa 1 rfl (qb ?_))
      refine zh 50 rfl hr (fun h50_11 hr => ?_) (fun h50_11 hr => ?_)
      ·
       refine qf 3 rfl ?_
       cases hr
       refine qu Tryz.func146 rfl ?_
       rfl
      ·
       refine qf 4 rfl ?_
       cases hr
       refine qu Tryz.func146 rfl ?_
       rfl
     ·
      refine qA rfl (qe (qg 2 (rd rfl (qgv rfl rfl rfl rfl) (qa 1 rfl (qb ?_)))))
      refine zh 43 rfl hr (fun h43_12 hr => ?_) (fun h43_12 hr => ?_)
      ·
       refine qO rfl (qg 4 (qa 2 rfl (rd rfl (qeF rfl rfl rfl rfl) (qa 1 rfl (qb (qf 3 rfl (qg 3 (qa 1 rfl ?_))))))))
       obtain ⟨r14, h14, hr⟩ := za hr
       refine qs rfl qcX (qcV _ _ h14) (qa 1 rfl (qb ?_))
       refine zh 50 rfl hr (fun h50_14 hr => ?_) (fun h50_14 hr => ?_)
       ·
        refine qf 3 rfl ?_
        cases hr
        refine qu Tryz.func146 rfl ?_
        rfl
       ·
        refine qf 4 rfl ?_
        cases hr
        refine qu Tryz.func146 rfl ?_
        rfl
      ·
       refine qf 4 rfl ?_
       refine zh 22 rfl hr (fun h22_15 hr => ?_) (fun h22_15 hr => ?_)
       ·
        refine qf 3 rfl ?_
        cases hr
        refine qu Tryz.func146 rfl ?_
        rfl
       ·
        refine qf 3 rfl (qg 4 (qa 2 rfl ?_))
        obtain ⟨r17, h17, hr⟩ := za hr
        refine qs rfl qkD (qkB _ _ _ h17) (qa 1 rfl (qb (qe (qg 2 (qa 1 rfl (rd rfl (qgv rfl rfl rfl rfl) (qb ?_)))))))
        refine zh 27 rfl hr (fun h27_17 hr => ?_) (fun h27_17 hr => ?_)
        ·
         refine qO rfl (qg 6 (qa 3 rfl (rd rfl (qeF rfl rfl rfl rfl) (rd rfl (qeF rfl rfl rfl rfl) (qa 1 rfl (qb (qf 3 rfl (qg 3 (qa 1 rfl ?_)))))))))
         obtain ⟨r19, h19, hr⟩ := za hr
         refine qs rfl qcX (qcV _ _ h19) (qa 1 rfl (qb ?_))
         refine zh 50 rfl hr (fun h50_19 hr => ?_) (fun h50_19 hr => ?_)
         ·
          refine qf 3 rfl ?_
          cases hr
          refine qu Tryz.func146 rfl ?_
          rfl
         ·
          refine qf 4 rfl ?_
          cases hr
          refine qu Tryz.func146 rfl ?_
          rfl
        ·
         refine qf 5 rfl (qg 3 (qa 1 rfl ?_))
         obtain ⟨r21, h21, hr⟩ := za hr
         refine qs rfl qcX (qcV _ _ h21) (qa 1 rfl (qb ?_))
         refine zh 50 rfl hr (fun h50_21 hr => ?_) (fun h50_21 hr => ?_)
         ·
          refine qf 3 rfl ?_
          cases hr
          refine qu Tryz.func146 rfl ?_
          rfl
         ·
          refine qf 4 rfl ?_
          cases hr
          refine qu Tryz.func146 rfl ?_
          rfl
def qcC : Nat → T → Option (Int × Int)
 | 0, _ => none
 | fuel + 1, a0 =>
  (fun (rec : T → Option (Int × Int)) =>
   (bif (a0.k == (0 : Int)) then
   ((qas a0.i).bind fun r2 =>
   (bif (!r2) then
   some (0, 5)
   else
   some (a0.i, 0)))
   else
   (bif (a0.k == (1 : Int)) then
   some (0, 17)
   else
   (bif (a0.k != (2 : Int)) then
   some (0, 11)
   else
   ((qco a0.s).bind fun r6 =>
   (bif (!r6) then
   some (0, 11)
   else
   (bif ((a0.ar.length : Int) != (2 : Int)) then
   some (0, 11)
   else
   ((zj a0.ar 0).bind fun q_9 =>
   ((rec q_9).bind fun r10 =>
   (bif (r10.2 != (0 : Int)) then
   some (0, r10.2)
   else
   ((zj a0.ar 1).bind fun q_12 =>
   ((rec q_12).bind fun r13 =>
   (bif (r13.2 != (0 : Int)) then
   some (0, r13.2)
   else
   ((qdq a0.s r10.1 r13.1).bind fun r15 =>
   some (r15.1, r15.2))))))))))))))) (qcC fuel)
theorem qkC (fuel : Nat) (rec : T → Option (Int × Int)) (IHR : ∀ (a0 : T) (res : Int × Int), rec a0 = some res → zf Tryz.prog 127 [zi a0] (.tup [.int .i64 res.1, .int .i64 res.2])) (a0 : T) (res : Int × Int)
 (hr : (bif (a0.k == (0 : Int)) then
((qas a0.i).bind fun r2 =>
(bif (!r2) then
some (0, 5)
else
some (a0.i, 0)))
else
(bif (a0.k == (1 : Int)) then
some (0, 17)
else
(bif (a0.k != (2 : Int)) then
some (0, 11)
else
((qco a0.s).bind fun r6 =>
(bif (!r6) then
some (0, 11)
else
(bif ((a0.ar.length : Int) != (2 : Int)) then
some (0, 11)
else
((zj a0.ar 0).bind fun q_9 =>
((rec q_9).bind fun r10 =>
(bif (r10.2 != (0 : Int)) then
some (0, r10.2)
else
((zj a0.ar 1).bind fun q_12 =>
((rec q_12).bind fun r13 =>
(bif (r13.2 != (0 : Int)) then
some (0, r13.2)
else
((qdq a0.s r10.1 r13.1).bind fun r15 =>
some (r15.1, r15.2)))))))))))))) = some res) : zf Tryz.prog 127 [zi a0] (.tup [.int .i64 res.1, .int .i64 res.2]) := by
 refine qY Tryz.func127 rfl fun K hK => (qe (qg 3 (rd rfl (qcK rfl rfl rfl) (qa 2 rfl (qb (qe (qe (qg 2 (rd rfl (qK rfl qcg rfl (qfr _) (qfs _) rfl) (qa 1 rfl (qb (qf 3 rfl ?_))))))))))))
 refine zh 10 rfl hr (fun h10_0 hr => ?_) (fun h10_0 hr => ?_)
 ·
  refine qf 3 rfl (qg 4 (rd rfl (qK rfl qcp rfl (qfy _) (qfz _) rfl) (qa 1 rfl ?_)))
  obtain ⟨r2, h2, hr⟩ := za hr
  refine qs rfl qcX (qcV _ _ h2) (qa 1 rfl (qb ?_))
  refine zh 15 rfl hr (fun h15_2 hr => ?_) (fun h15_2 hr => ?_)
  ·
   refine qf 3 rfl ?_
   cases hr
   refine qu Tryz.func127 rfl ?_
   rfl
  ·
   refine qf 3 rfl (qg 4 (rd rfl (qK rfl qcp rfl (qfy _) (qfz _) rfl) (qa 3 rfl (qb ?_))))
   cases hr
   refine qu Tryz.func127 rfl ?_
   rfl
 ·
  refine qf 3 rfl ?_
  refine zh 18 rfl hr (fun h18_3 hr => ?_) (fun h18_3 hr => ?_)
  ·
   refine qf 3 rfl ?_
   cases hr
   refine qu Tryz.func127 rfl ?_
   rfl
  ·
   refine qf 5 rfl (qg 15 (rd rfl (qK rfl qcg rfl (qfr _) (qfs _) rfl) (qa 3 rfl ?_)))
   refine zq 23 rfl hr (fun h23_4 hr => ?_) (fun h23_4 hr => ?_)
   ·
    refine qa 11 rfl (qb (qf 3 rfl ?_))
    cases hr
    refine qu Tryz.func127 rfl ?_
    rfl
   ·
    refine rd rfl (qK rfl qfp rfl (qla _) (qlh _) rfl) (qa 1 rfl ?_)
    obtain ⟨r6, h6, hr⟩ := za hr
    refine qs rfl qgl (qgs _ _ h6) (qa 3 rfl ?_)
    refine zq 29 rfl hr (fun h29_6 hr => ?_) (fun h29_6 hr => ?_)
    ·
     refine qa 5 rfl (qb (qf 3 rfl ?_))
     cases hr
     refine qu Tryz.func127 rfl ?_
     rfl
    ·
     refine rd rfl (qK rfl qcf rfl (qgi _) (qgf _) rfl) (qa 1 rfl (qz rfl (qa 2 rfl (qb ?_))))
     refine zh 34 rfl hr (fun h34_7 hr => ?_) (fun h34_7 hr => ?_)
     ·
      refine qf 3 rfl ?_
      cases hr
      refine qu Tryz.func127 rfl ?_
      rfl
     ·
      refine qf 3 rfl (qg 10 (rd rfl (qK rfl qcf rfl (qgi _) (qgf _) rfl) (qa 1 rfl ?_)))
      obtain ⟨q_9, h9, hr⟩ := za hr
      refine qN h9 rfl (qa 1 rfl ?_)
      obtain ⟨r10, h10, hr⟩ := za hr
      refine qs rfl qel (IHR _ _ h10) (qa 5 rfl (qb (qf 3 rfl ?_)))
      refine zh 44 rfl hr (fun h44_10 hr => ?_) (fun h44_10 hr => ?_)
      ·
       refine qf 3 rfl ?_
       cases hr
       refine qu Tryz.func127 rfl ?_
       rfl
      ·
       refine qf 3 rfl (qg 10 (rd rfl (qK rfl qcf rfl (qgi _) (qgf _) rfl) (qa 1 rfl ?_)))
       obtain ⟨q_12, h12, hr⟩ := za hr
       refine qN h12 rfl (qa 1 rfl ?_)
       obtain ⟨r13, h13, hr⟩ := za hr
       refine qs rfl qel (IHR _ _ h13) (qa 5 rfl (qb (qf 3 rfl ?_)))
       refine zh 55 rfl hr (fun h55_13 hr => ?_) (fun h55_13 hr => ?_)
       ·
        refine qf 3 rfl ?_
        cases hr
        refine qu Tryz.func127 rfl ?_
        rfl
       ·
        refine qf 3 rfl (qg 9 (rd rfl (qK rfl qfp rfl (qla _) (qlh _) rfl) (qa 3 rfl ?_)))
        obtain ⟨r15, h15, hr⟩ := za hr
        refine qs rfl qkk (qj5 _ _ _ _ h15) (qa 4 rfl (qb ?_))
        cases hr
        refine qu Tryz.func127 rfl ?_
        rfl
theorem qe3 : ∀ (fuel : Nat) (a0 : T) (res : Int × Int), qcC fuel a0 = some res → zf Tryz.prog 127 [zi a0] (.tup [.int .i64 res.1, .int .i64 res.2])
 | 0, _, _, h => by cases h
 | fuel + 1, a0, res, h => qkC fuel (qcC fuel) (qe3 fuel) a0 res h
def qdU (fuel : Nat) (a0 : Int) (a1 : T) (a2 : T) : Option Int :=
 ((qcx fuel a1).bind fun r1 =>
 (bif (!r1) then
 some (2)
 else
 ((qcx fuel a2).bind fun r3 =>
 (bif (!r3) then
 some (2)
 else
 ((qcH fuel a1).bind fun r5 =>
 (bif (!r5) then
 some (0)
 else
 ((qcH fuel a2).bind fun r7 =>
 (bif (!r7) then
 some (0)
 else
 ((qcC fuel a1).bind fun r9 =>
 ((qcC fuel a2).bind fun r10 =>
 (bif (r9.2 != (0 : Int)) then
 some (2)
 else
 (bif (r10.2 != (0 : Int)) then
 some (2)
 else
 (bif (a0 == (7 : Int)) then
 ((qU (decide (r9.1 < r10.1))).bind fun r14 =>
 some (r14))
 else
 (bif (a0 == (8 : Int)) then
 ((qU (decide (r9.1 ≤ r10.1))).bind fun r16 =>
 some (r16))
 else
 (bif (a0 == (9 : Int)) then
 ((qU (r9.1 == r10.1)).bind fun r18 =>
 some (r18))
 else
 ((qU (r9.1 != r10.1)).bind fun r19 =>
 some (r19)))))))))))))))))
theorem qjI (fuel : Nat) (a0 : Int) (a1 : T) (a2 : T) (res : Int) (hr : qdU fuel a0 a1 a2 = some res) : zf Tryz.prog 139 [.int .i64 a0, zi a1, zi a2] (.int .i64 res) := by
 unfold qdU at hr
 refine qY Tryz.func139 rfl fun K hK => (qe (qg 3 (rd rfl (qcK rfl rfl rfl) (rd rfl (qcK rfl rfl rfl) (qa 1 rfl (qb (qe (qe (qg 8 (qa 1 rfl ?_))))))))))
 obtain ⟨r1, h1, hr⟩ := za hr
 refine qs rfl qev (qfj fuel _ _ h1) (qa 2 rfl ?_)
 refine zq 14 rfl hr (fun h14_1 hr => ?_) (fun h14_1 hr => ?_)
 ·
  refine qa 4 rfl (qb (qf 3 rfl ?_))
  cases hr
  refine qu Tryz.func139 rfl ?_
  rfl
 ·
  refine qa 1 rfl ?_
  obtain ⟨r3, h3, hr⟩ := za hr
  refine qs rfl qev (qfj fuel _ _ h3) (qa 2 rfl (qb ?_))
  refine zh 18 rfl hr (fun h18_3 hr => ?_) (fun h18_3 hr => ?_)
  ·
   refine qf 3 rfl ?_
   cases hr
   refine qu Tryz.func139 rfl ?_
   rfl
  ·
   refine qf 4 rfl (qg 8 (qa 1 rfl ?_))
   obtain ⟨r5, h5, hr⟩ := za hr
   refine qs rfl qfv (qfu fuel _ _ h5) (qa 2 rfl ?_)
   refine zq 22 rfl hr (fun h22_5 hr => ?_) (fun h22_5 hr => ?_)
   ·
    refine qa 4 rfl (qb (qf 3 rfl ?_))
    cases hr
    refine qu Tryz.func139 rfl ?_
    rfl
   ·
    refine qa 1 rfl ?_
    obtain ⟨r7, h7, hr⟩ := za hr
    refine qs rfl qfv (qfu fuel _ _ h7) (qa 2 rfl (qb ?_))
    refine zh 26 rfl hr (fun h26_7 hr => ?_) (fun h26_7 hr => ?_)
    ·
     refine qf 3 rfl ?_
     cases hr
     refine qu Tryz.func139 rfl ?_
     rfl
    ·
     refine qf 3 rfl (qg 7 (qa 1 rfl ?_))
     obtain ⟨r9, h9, hr⟩ := za hr
     refine qs rfl qel (qe3 fuel _ _ h9) (qa 5 rfl (qb (qe (qg 7 (qa 1 rfl ?_)))))
     obtain ⟨r10, h10, hr⟩ := za hr
     refine qs rfl qel (qe3 fuel _ _ h10) (qa 5 rfl (qb (qe (qe (qg 6 (qa 3 rfl ?_))))))
     refine zq 39 rfl hr (fun h39_10 hr => ?_) (fun h39_10 hr => ?_)
     ·
      refine qa 3 rfl (qb (qf 3 rfl ?_))
      cases hr
      refine qu Tryz.func139 rfl ?_
      rfl
     ·
      refine qa 3 rfl (qb ?_)
      refine zh 42 rfl hr (fun h42_11 hr => ?_) (fun h42_11 hr => ?_)
      ·
       refine qf 3 rfl ?_
       cases hr
       refine qu Tryz.func139 rfl ?_
       rfl
      ·
       refine qf 8 rfl ?_
       refine zh 44 rfl hr (fun h44_12 hr => ?_) (fun h44_12 hr => ?_)
       ·
        refine qO rfl (qe (qg 5 (qa 3 rfl ?_)))
        obtain ⟨r14, h14, hr⟩ := za hr
        refine qs rfl qa9 (qba _ _ h14) (qa 1 rfl (qb ?_))
        cases hr
        refine qu Tryz.func139 rfl ?_
        rfl
       ·
        refine qf 3 rfl ?_
        refine zh 50 rfl hr (fun h50_14 hr => ?_) (fun h50_14 hr => ?_)
        ·
         refine qO rfl (qe (qg 5 (qa 3 rfl ?_)))
         obtain ⟨r16, h16, hr⟩ := za hr
         refine qs rfl qa9 (qba _ _ h16) (qa 1 rfl (qb ?_))
         cases hr
         refine qu Tryz.func139 rfl ?_
         rfl
        ·
         refine qf 3 rfl ?_
         refine zh 56 rfl hr (fun h56_16 hr => ?_) (fun h56_16 hr => ?_)
         ·
          refine qO rfl (qe (qg 5 (qa 3 rfl ?_)))
          obtain ⟨r18, h18, hr⟩ := za hr
          refine qs rfl qa9 (qba _ _ h18) (qa 1 rfl (qb ?_))
          cases hr
          refine qu Tryz.func139 rfl ?_
          rfl
         ·
          refine qf 4 rfl (qg 5 (qa 3 rfl ?_))
          obtain ⟨r19, h19, hr⟩ := za hr
          refine qs rfl qa9 (qba _ _ h19) (qa 1 rfl (qb ?_))
          cases hr
          refine qu Tryz.func139 rfl ?_
          rfl
def qR (k : List qd → List Int → Int → Int → ByteArray → List Int → Option (Int × (List qd) × (List Int))) (rec : T → List qd → List Int → Option (Int × (List qd) × (List Int))) : List T → List qd → List Int → Int → Int → ByteArray → List Int → Option (Int × (List qd) × (List Int))
 | [], g10, g11, x12, x13, x14, x15 =>
 (k g10 g11 x12 x13 x14 x15)
 | q_29 :: rest, g10, g11, x12, x13, x14, x15 =>
 ((rec q_29 g10 g11).bind fun r31 =>
 ((zN 8 x15 [r31.1]).bind fun l32 =>
 (qR k rec rest r31.2.1 r31.2.2 x12 x13 x14 l32)))
def qH (k : Option (Int × (List qd) × (List Int))) (c_0_0 : List qd) (c_0_1 : List Int) (a1 : T) : List qd → Nat → Option (Int × (List qd) × (List Int))
 | [], i36 =>
 k
 | q_39 :: rest, i36 =>
 (bif (q_39.f0_Kind == (1 : Int)) then
 (bif (q_39.f1_Int == a1.i) then
 some ((i36 : Int), c_0_0, c_0_1)
 else
 (qH k c_0_0 c_0_1 a1 rest (i36 + 1)))
 else
 (qH k c_0_0 c_0_1 a1 rest (i36 + 1)))
def qcb (k : List qd → List Int → Option (Int × (List qd) × (List Int))) (c_0_0 : List qd) (c_0_1 : List Int) (a1 : T) : Option (Int × (List qd) × (List Int)) :=
 (bif (a1.k == (1 : Int)) then
 (qH ((k c_0_0 c_0_1)) c_0_0 c_0_1 a1 c_0_0 0)
 else
 (k c_0_0 c_0_1))
def qai : Nat → T → List qd → List Int → Option (Int × (List qd) × (List Int))
 | 0, _, _, _ => none
 | fuel + 1, a1, c_0_0, c_0_1 =>
  (fun (rec : T → List qd → List Int → Option (Int × (List qd) × (List Int))) =>
   (qcb (fun g3 g4 =>
   (qR (fun g18 g19 x21 x22 x23 x24 =>
   ((zN 56 g18 [(⟨x21, x22, x23, x24⟩ : qd)]).bind fun l25 =>
   ((zN 8 g19 [(wr ((l25.length : Int) - (1 : Int)))]).bind fun l27 =>
   some ((wr ((l25.length : Int) - (1 : Int))), l25, l27)))) rec a1.ar g3 g4 a1.k a1.i a1.s [])) c_0_0 c_0_1 a1)) (qai fuel)
theorem qhg (fuel : Nat) (rec : T → List qd → List Int → Option (Int × (List qd) × (List Int))) (IHR : ∀ (a1 : T) (c_0_0 : List qd) (c_0_1 : List Int) (b_o0 : Nat) (u_o1 : Value) (u_o2 : Value) (res : Int × (List qd) × (List Int)), rec a1 c_0_0 c_0_1 = some res → Spec Tryz.prog 164 [.ref b_o0 0 [], zi a1] [.cell b_o0 (.agg [.own u_o1 (c_0_0.map qc), .vec u_o2 c_0_1.length]), .row u_o1 c_0_0.length 215 4, .vec u_o2 (c_0_1.map (D.int .i64)) 3 1] (fun d σ => ∃ (u_o1' : Value) (u_o2' : Value), d = .int .i64 res.1 ∧ σ = [.cell b_o0 (.agg [.own u_o1' (res.2.1.map qc), .vec u_o2' res.2.2.length]), .row u_o1' res.2.1.length 215 4, .vec u_o2' (res.2.2.map (D.int .i64)) 3 1])) (a1 : T) (c_0_0 : List qd) (c_0_1 : List Int) (b_o0 : Nat) (u_o1 : Value) (u_o2 : Value) (res : Int × (List qd) × (List Int))
 (hr : (qcb (fun g3 g4 =>
(qR (fun g18 g19 x21 x22 x23 x24 =>
((zN 56 g18 [(⟨x21, x22, x23, x24⟩ : qd)]).bind fun l25 =>
((zN 8 g19 [(wr ((l25.length : Int) - (1 : Int)))]).bind fun l27 =>
some ((wr ((l25.length : Int) - (1 : Int))), l25, l27)))) rec a1.ar g3 g4 a1.k a1.i a1.s [])) c_0_0 c_0_1 a1) = some res) : Spec Tryz.prog 164 [.ref b_o0 0 [], zi a1] [.cell b_o0 (.agg [.own u_o1 (c_0_0.map qc), .vec u_o2 c_0_1.length]), .row u_o1 c_0_0.length 215 4, .vec u_o2 (c_0_1.map (D.int .i64)) 3 1] (fun d σ => ∃ (u_o1' : Value) (u_o2' : Value), d = .int .i64 res.1 ∧ σ = [.cell b_o0 (.agg [.own u_o1' (res.2.1.map qc), .vec u_o2' res.2.2.length]), .row u_o1' res.2.1.length 215 4, .vec u_o2' (res.2.2.map (D.int .i64)) 3 1]) := by
 refine qY Tryz.func164 rfl fun K hK => (qe (qg 2 (rd rfl (qcK rfl rfl rfl) (qa 1 rfl (qb ?_)))))
 obtain ⟨kkJ0, hkkJ0, hr⟩ := exK (fun k => qcb k c_0_0 c_0_1 a1) hr
 refine qtU (fun env σ => ∃ (g3 : List qd) (g4 : List Int) (u1 : Value) (u2 : Value), env = [(0, .ref b_o0 0 []), (3, .ptr (zi a1))] ∧ σ = [.cell b_o0 (.agg [.own u1 (g3.map qc), .vec u2 g4.length]), .row u1 g3.length 215 4, .vec u2 (g4.map (D.int .i64)) 3 1] ∧ kkJ0 g3 g4 = some res) ?_ (fun HKJ0 => ?_)
 ·
  rintro _ _ ⟨g3, g4, u1, u2, rfl, rfl, hr⟩
  rw [hkkJ0] at hr
  refine qe (qnL 3 1 (zg 9 81920 (rd rfl (qK rfl qcg rfl (qfr _) (qfs _) rfl) (qa 1 rfl (rd rfl (qK rfl qcp rfl (qfy _) (qfz _) rfl) (qa 1 rfl (rd rfl (qK rfl qfp rfl (qla _) (qlh _) rfl) (qa 1 rfl (rd rfl (qbl rfl qjH (.oc rfl (.oc rfl (.oc rfl .nil))) (.cons rfl rfl rfl (.cons rfl rfl rfl (.cons rfl rfl rfl (.nil _))))) (ew rfl (qaJ rfl qhU) ?_))))))))))
  rintro _ _ ⟨b6_4, rfl, rfl⟩
  refine qcr rfl (pf0 _) (qb (qf 3 rfl ?_))
  obtain ⟨kk0, hkk0, hr⟩ := exK (fun k => qR k rec a1.ar g3 g4 a1.k a1.i a1.s []) hr
  refine ql3 3 [3] (l := a1.ar.map zi) rfl (subT3 _) (asl rfl) fun hla0 => ?_
  simp only [jb] at hla0
  refine qx (fun env σ => ∃ (g18 : List qd) (g19 : List Int) (x21 : Int) (x22 : Int) (x23 : ByteArray) (x24 : List Int) (u16 : Value) (u17 : Value) (u20 : Value), env = [(0, .ref b_o0 0 []), (6, .ref b6_4 0 [])] ∧ σ = [.cell b_o0 (.agg [.own u16 (g18.map qc), .vec u17 g19.length]), .row u16 g18.length 215 4, .vec u17 (g19.map (D.int .i64)) 3 1, .cell b6_4 (.agg [.int .i64 x21, .int .i64 x22, .str x23, .own u20 (x24.map (D.int .i64))]), .row u20 x24.length 3 1] ∧ kk0 g18 g19 x21 x22 x23 x24 = some res) ?_ (fun HK0 => ?_)
  ·
   rintro _ _ ⟨g18, g19, x21, x22, x23, x24, u16, u17, u20, rfl, rfl, hr⟩
   rw [hkk0] at hr
   refine qe (qei 11 1067520 (qa 2 rfl (rd rfl (qP rfl rfl) (rd rfl (qr rfl qo rfl) (qcD 0 rfl (qcD 3 rfl (rd rfl (qeS (f := qc) [.tmp 74] [(⟨x21, x22, x23, x24⟩ : qd)] rfl qfx rfl rfl (by decide) (by decide) (.cons rfl (Wk.agg (.cons (Wk.refl _) (.cons (Wk.refl _) (.cons (Wk.refl _) (.cons (Wk.own _ _) .nil))))) .nil) qdT (fun _ => rfl)) ?_)))))))
   obtain ⟨l25, h25, hr⟩ := za hr
   refine ew rfl (qaK (f := qc) g18 [(⟨x21, x22, x23, x24⟩ : qd)] rfl qfx rfl rfl (asl rfl) (pf1 _ _ _) rfl qdT h25) ?_
   rintro _ _ ⟨u76_25, rfl, rfl⟩
   refine rd rfl (qP rfl rfl) (rd rfl (qr rfl qo rfl) (qgZ rfl rfl rfl (qeM _ rfl rfl rfl (Wk.refl _) (pf1 _ _ _) rfl rfl (by exact qg0) rfl rfl rfl) (qb (qe (qei 16 1090650624 (qa 2 rfl (rd rfl (qP rfl rfl) (rd rfl (qr rfl q0 rfl) (qcD 0 rfl (qa 1 rfl (rd rfl (qP rfl rfl) (rd rfl (qr rfl qo rfl) (qcD 0 rfl ?_)))))))))))))
   refine qz rfl (rd rfl (qeF rfl rfl rfl rfl) (rd rfl (qeS (f := (D.int .i64)) [.tmp 89] [(wr ((l25.length : Int) - (1 : Int)))] rfl qc7 rfl rfl (by decide) (by decide) (.oc rfl .nil) (fun _ => rfl) (fun _ => rfl)) ?_))
   obtain ⟨l27, h27, hr⟩ := za hr
   refine ew rfl (qzx (f := (D.int .i64)) g19 [(wr ((l25.length : Int) - (1 : Int)))] rfl qc7 rfl rfl (asl rfl) (pf2 _ _ _ _) (fun _ => rfl) h27) ?_
   rintro _ _ ⟨u91_27, rfl, rfl⟩
   refine rd rfl (qP rfl rfl) (rd rfl (qr rfl q0 rfl) (qgZ rfl rfl rfl (qeM _ rfl rfl rfl (Wk.refl _) (pf1 _ _ _) rfl rfl (by exact qmz) rfl rfl rfl) (qb (qe (zg 7 128 (qa 1 rfl (rd rfl (qP rfl rfl) (rd rfl (qr rfl qo rfl) (qcD 0 rfl (qz rfl (rd rfl (qeF rfl rfl rfl rfl) (qa 1 rfl (qb ?_)))))))))))))
   refine qcA [_, _, _] _ (pS [1, 2, 2] _) ?_
   cases hr
   refine qu Tryz.func164 rfl ?_
   exact ⟨u76_25, u91_27, rfl, rfl⟩
  ·
   refine qm [0, 3, 6, 7] rfl (qcA [_, _, _, _, _] _ (pS [1, 1, 4, 4, 4] _) (q9 (fun n env σ => ∃ (i9 : Nat) (g10 : List qd) (g11 : List Int) (x12 : Int) (x13 : Int) (x14 : ByteArray) (x15 : List Int) (u6 : Value) (u7 : Value) (u8 : Value), (n = a1.ar.length - i9) ∧ (env = [(0, .ref b_o0 0 []), (3, .ptr (zi a1)), (6, .ref b6_4 0 []), (7, .int .i64 (i9 : Int))]) ∧ (σ = [.cell b_o0 (.agg [.own u6 (g10.map qc), .vec u7 g11.length]), .row u6 g10.length 215 4, .vec u7 (g11.map (D.int .i64)) 3 1, .cell b6_4 (.agg [.int .i64 x12, .int .i64 x13, .str x14, .own u8 (x15.map (D.int .i64))]), .row u8 x15.length 3 1]) ∧ (i9 ≤ a1.ar.length) ∧ (qR kk0 rec (a1.ar.drop i9) g10 g11 x12 x13 x14 x15 = some res)) _ ⟨0, g3, g4, a1.k, a1.i, a1.s, [], u1, u2, (.slice none 0 0 ), rfl, rfl, rfl, jc _, hr⟩ ?_))
   rintro n _ _ ⟨i9, g10, g11, x12, x13, x14, x15, u6, u7, u8, rfl, rfl, rfl, hi0, hr⟩ IH0
   rcases zb a1.ar i9 hi0 with ⟨ht0, hd0, he0⟩ | ⟨q_29, ht0, hd0, hq0, hlt0⟩
   ·
    rw [hd0, qR] at hr
    refine qe (qe (qg 5 (qa 1 rfl (rd rfl (qK rfl qcf rfl (qgi _) (qgf _) rfl) (qa 1 rfl (qz rfl (qa 1 rfl (qb (qk 54 false rfl ht0 (qA rfl (qQ rfl (qm [0, 6] rfl ?_))))))))))))
    exact HK0 _ _ ⟨g10, g11, x12, x13, x14, x15, u6, u7, u8, rfl, rfl, hr⟩
   ·
    rw [hd0, qR] at hr
    refine qe (qe (qg 5 (qa 1 rfl (rd rfl (qK rfl qcf rfl (qgi _) (qgf _) rfl) (qa 1 rfl (qz rfl (qa 1 rfl (qb (qk 54 true rfl ht0 (qf 4 rfl ?_))))))))))
    obtain ⟨r31, h31, hr⟩ := za hr
    obtain ⟨l32, h32, hr⟩ := za hr
    refine qBT (by kernel_rfl) (by kernel_rfl) [(0, .d), (2, .d), (3, .d), (4, .d), (5, .d), (6, .d), (7, .d)] [(1, .x), (8, .w), (9, .d), (10, .w), (11, .d), (12, .w)] [(8, .x), (9, .d), (1, .w), (10, .w), (11, .d), (12, .w)] (by kernel_rfl) (fun env σ => ∃ (u67_r11_29 : Value) (u65_r11_29_1 : Value) (u65_r11_29_2 : Value), Sub [(0, .ref b_o0 0 []), (3, .ptr (zi a1)), (6, .ref b6_4 0 []), (7, .int .i64 (i9 : Int))] env ∧ σ.Perm [.cell b6_4 (.agg [.int .i64 x12, .int .i64 x13, .str x14, .own u67_r11_29 (l32.map (D.int .i64))]), .row u67_r11_29 l32.length 3 1, .cell b_o0 (.agg [.own u65_r11_29_1 (r31.2.1.map qc), .vec u65_r11_29_2 r31.2.2.length]), .row u65_r11_29_1 r31.2.1.length 215 4, .vec u65_r11_29_2 (r31.2.2.map (D.int .i64)) 3 1]) ?_ ?_
    ·
     refine rd rfl (qr rfl qeL rfl) (qa 1 rfl (rd rfl (qK rfl qcf rfl (qgi _) (qgf _) rfl) (qa 2 rfl (qN hq0 rfl (qa 1 rfl ?_)))))
     refine qb ⟨?_, ?_⟩
     ·
      refine r_xr rfl rfl rfl (qnT rfl rfl (.tail _ (.tail _ (.tail _ (.head _)))) rfl rfl (by exact qmz) rfl) (ew rfl (qiq _ rfl qdG (.oc rfl (.oc rfl .nil)) (by exact (pf0 _)) (IHR _ _ _ _ _ _ _ h31)) ?_)
      rintro _ _ ⟨_, ⟨u65_r11_29_1, u65_r11_29_2, rfl, rfl⟩, rfl⟩
      refine zaq ((.cell b_o0 (.agg [.own u65_r11_29_1 (r31.2.1.map qc), .vec u65_r11_29_2 r31.2.2.length])) :: (.row u65_r11_29_1 r31.2.1.length 215 4) :: (.vec u65_r11_29_2 (r31.2.2.map (D.int .i64)) 3 1) :: _) rfl (rd rfl (qeS (f := (D.int .i64)) [.tmp 65] [r31.1] rfl qc7 rfl rfl (by decide) (by decide) (.oc rfl .nil) (fun _ => rfl) (fun _ => rfl)) (ew rfl (qaK (f := (D.int .i64)) x15 [r31.1] rfl qc7 rfl rfl (asl rfl) (pf4 _ _ _ _ _ _) rfl (fun _ => rfl) h32) ?_))
      rintro _ _ ⟨u67_r11_29, rfl, rfl⟩
      refine rd rfl (qr rfl qeL rfl) (qgZ rfl rfl rfl (qeM _ rfl rfl rfl (Wk.refl _) (pf4 _ _ _ _ _ _) rfl rfl (by exact qmz) rfl rfl rfl) (qb ?_))
      exact ⟨u67_r11_29, u65_r11_29_1, u65_r11_29_2, (sbr rfl), (pf0 _)⟩
     ·
      refine r_x rfl rfl rfl (qiq _ rfl qdG (.oc rfl (.oc rfl .nil)) (by exact (pf0 _)) (IHR _ _ _ _ _ _ _ h31)) ?_
      rintro _ _ ⟨_, ⟨u65_r11_29_1, u65_r11_29_2, rfl, rfl⟩, rfl⟩
      refine zaq ((.cell b_o0 (.agg [.own u65_r11_29_1 (r31.2.1.map qc), .vec u65_r11_29_2 r31.2.2.length])) :: (.row u65_r11_29_1 r31.2.1.length 215 4) :: (.vec u65_r11_29_2 (r31.2.2.map (D.int .i64)) 3 1) :: _) rfl (rd rfl (qeS (f := (D.int .i64)) [.tmp 65] [r31.1] rfl qc7 rfl rfl (by decide) (by decide) (.oc rfl .nil) (fun _ => rfl) (fun _ => rfl)) (za4 3 rfl (ew rfl (qaK (f := (D.int .i64)) x15 [r31.1] rfl qc7 rfl rfl (asl rfl) (pf4 _ _ _ _ _ _) rfl (fun _ => rfl) h32) ?_)))
      rintro _ _ ⟨u67_r11_29, rfl, rfl⟩
      refine rd rfl (qr rfl qeL rfl) (qgZ rfl rfl rfl (qeM _ rfl rfl rfl (Wk.refl _) (pf4 _ _ _ _ _ _) rfl rfl (by exact qmz) rfl rfl rfl) (qb ?_))
      exact ⟨u67_r11_29, u65_r11_29_1, u65_r11_29_2, (sbr rfl), (pf0 _)⟩
    ·
     rintro _ _ ⟨u67_r11_29, u65_r11_29_1, u65_r11_29_2, hs, hp⟩
     refine qoo hs hp (qaa (qg 3 (qa 1 rfl (qaj rfl (qa 1 rfl (qb (qm [0, 3, 6, 7] rfl (qcA [_, _, _, _, _] _ (pS [1, 1, 4, 4, 4] _) ?_))))))))
     exact IH0 _ _ _ (by omega) ⟨(i9 + 1), r31.2.1, r31.2.2, x12, x13, x14, l32, u65_r11_29_1, u65_r11_29_2, u67_r11_29, rfl, rfl, rfl, (by omega), hr⟩
 ·
  unfold qcb at hr
  refine qe (qg 3 (rd rfl (qK rfl qcg rfl (qfr _) (qfs _) rfl) (qa 2 rfl (qb ?_))))
  refine zh 10 rfl hr (fun h10_32 hr => ?_) (fun h10_32 hr => ?_)
  ·
   refine qf 3 rfl ?_
   obtain ⟨kk1, hkk1, hr⟩ := exK (fun k => qH k c_0_0 c_0_1 a1 c_0_0 0) hr
   refine quf [0] (l := c_0_0.map qc) (.head _) (by first | rfl | simp [yR, qdQ]) (asl rfl) fun hla1 => ?_
   simp only [jb] at hla1
   refine qx (fun env σ => ∃ (u37 : Value) (u38 : Value), env = [(0, .ref b_o0 0 []), (3, .ptr (zi a1))] ∧ σ = [.cell b_o0 (.agg [.own u37 (c_0_0.map qc), .vec u38 c_0_1.length]), .row u37 c_0_0.length 215 4, .vec u38 (c_0_1.map (D.int .i64)) 3 1] ∧ kk1 = some res) ?_ (fun HK1 => ?_)
   ·
    rintro _ _ ⟨u37, u38, rfl, rfl, hr⟩
    rw [hkk1] at hr
    refine qm [0, 3] rfl ?_
    exact HKJ0 _ _ ⟨c_0_0, c_0_1, u37, u38, rfl, rfl, hr⟩
   ·
    refine qm [0, 3, 5] rfl (q9 (fun n env σ => ∃ (i36 : Nat) (u34 : Value) (u35 : Value), (n = c_0_0.length - i36) ∧ (env = [(0, .ref b_o0 0 []), (3, .ptr (zi a1)), (5, .int .i64 (i36 : Int))]) ∧ (σ = [.cell b_o0 (.agg [.own u34 (c_0_0.map qc), .vec u35 c_0_1.length]), .row u34 c_0_0.length 215 4, .vec u35 (c_0_1.map (D.int .i64)) 3 1]) ∧ (i36 ≤ c_0_0.length) ∧ (qH kk1 c_0_0 c_0_1 a1 (c_0_0.drop i36) i36 = some res)) _ ⟨0, u_o1, u_o2, rfl, rfl, rfl, jc _, hr⟩ ?_)
    rintro n _ _ ⟨i36, u34, u35, rfl, rfl, rfl, hi1, hr⟩ IH1
    rcases zb c_0_0 i36 hi1 with ⟨ht1, hd1, he1⟩ | ⟨q_39, ht1, hd1, hq1, hlt1⟩
    ·
     rw [hd1, qH] at hr
     refine qe (qe (zg 7 512 (qa 2 rfl (rd rfl (qP rfl rfl) (rd rfl (qr rfl qo rfl) (qcD 0 rfl (qz rfl (qa 1 rfl (qb (qk 17 false rfl ht1 (qA rfl (qQ rfl (qm [0, 3] rfl ?_)))))))))))))
     exact HK1 _ _ ⟨u34, u35, rfl, rfl, hr⟩
    ·
     rw [hd1, qH] at hr
     refine qe (qe (zg 7 512 (qa 2 rfl (rd rfl (qP rfl rfl) (rd rfl (qr rfl qo rfl) (qcD 0 rfl (qz rfl (qa 1 rfl (qb (qk 17 true rfl ht1 (qf 5 rfl (qei 22 134217856 (qa 1 rfl ?_)))))))))))))
     refine rd rfl (qP rfl rfl) (rd rfl (qr rfl qo rfl) (qcD 0 rfl (qa 1 rfl (qN hq1 rfl (qa 4 rfl ?_)))))
     refine zq 29 rfl hr (fun h29_39 hr => ?_) (fun h29_39 hr => ?_)
     ·
      refine qa 1 rfl (rd rfl (qP rfl rfl) (rd rfl (qr rfl qo rfl) (qcD 0 rfl (qa 1 rfl (qN hq1 rfl (qa 2 rfl (rd rfl (qK rfl qcp rfl (qfy _) (qfz _) rfl) (qa 3 rfl (qb ?_)))))))))
      refine zh 41 rfl hr (fun h41_40 hr => ?_) (fun h41_40 hr => ?_)
      ·
       refine qf 3 rfl ?_
       cases hr
       refine qu Tryz.func164 rfl ?_
       exact ⟨u34, u35, rfl, rfl⟩
      ·
       refine qf 3 rfl (qg 3 (qa 1 rfl (qaj rfl (qa 1 rfl (qb (qm [0, 3, 5] rfl ?_))))))
       exact IH1 _ _ _ (by omega) ⟨(i36 + 1), u34, u35, rfl, rfl, rfl, (by omega), hr⟩
     ·
      refine qa 12 rfl (qb (qf 3 rfl (qg 3 (qa 1 rfl (qaj rfl (qa 1 rfl (qb (qm [0, 3, 5] rfl ?_))))))))
      exact IH1 _ _ _ (by omega) ⟨(i36 + 1), u34, u35, rfl, rfl, rfl, (by omega), hr⟩
  ·
   refine qA rfl (ql1 (qm [0, 3] rfl ?_))
   exact HKJ0 _ _ ⟨c_0_0, c_0_1, u_o1, u_o2, rfl, rfl, hr⟩
theorem qeh : ∀ (fuel : Nat) (a1 : T) (c_0_0 : List qd) (c_0_1 : List Int) (b_o0 : Nat) (u_o1 : Value) (u_o2 : Value) (res : Int × (List qd) × (List Int)), qai fuel a1 c_0_0 c_0_1 = some res → Spec Tryz.prog 164 [.ref b_o0 0 [], zi a1] [.cell b_o0 (.agg [.own u_o1 (c_0_0.map qc), .vec u_o2 c_0_1.length]), .row u_o1 c_0_0.length 215 4, .vec u_o2 (c_0_1.map (D.int .i64)) 3 1] (fun d σ => ∃ (u_o1' : Value) (u_o2' : Value), d = .int .i64 res.1 ∧ σ = [.cell b_o0 (.agg [.own u_o1' (res.2.1.map qc), .vec u_o2' res.2.2.length]), .row u_o1' res.2.1.length 215 4, .vec u_o2' (res.2.2.map (D.int .i64)) 3 1])
 | 0, _, _, _, _, _, _, _, h => by cases h
 | fuel + 1, a1, c_0_0, c_0_1, b_o0, u_o1, u_o2, res, h => qhg fuel (qai fuel) (qeh fuel) a1 c_0_0 c_0_1 b_o0 u_o1 u_o2 res h
def qG (k : Option Int) (c_0_1 : List Int) (a1 : Int) : List qd → Nat → Option Int
 | [], i1 =>
 k
 | q_2 :: rest, i1 =>
 ((zj c_0_1 (i1 : Int)).bind fun q_3 =>
 (bif (q_3 == a1) then
 (bif (q_2.f0_Kind != (1 : Int)) then
 some ((i1 : Int))
 else
 (qG k c_0_1 a1 rest (i1 + 1)))
 else
 (qG k c_0_1 a1 rest (i1 + 1))))
def qI (a1 : Int) (c_0_0 : List qd) (c_0_1 : List Int) : Option Int :=
 (qG (some ((-1))) c_0_1 a1 c_0_0 0)
theorem qcw (a1 : Int) (c_0_0 : List qd) (c_0_1 : List Int) (b_o0 : Nat) (u_o1 : Value) (u_o2 : Value) (res : Int) (hr : qI a1 c_0_0 c_0_1 = some res) : Spec Tryz.prog 167 [.ref b_o0 0 [], .int .i64 a1] [.cell b_o0 (.agg [.own u_o1 (c_0_0.map qc), .vec u_o2 c_0_1.length]), .row u_o1 c_0_0.length 215 4, .vec u_o2 (c_0_1.map (D.int .i64)) 3 1] (fun d σ => d = .int .i64 res ∧ σ = [.cell b_o0 (.agg [.own u_o1 (c_0_0.map qc), .vec u_o2 c_0_1.length]), .row u_o1 c_0_0.length 215 4, .vec u_o2 (c_0_1.map (D.int .i64)) 3 1]) := by
 unfold qI at hr
 refine qY Tryz.func167 rfl fun K hK => (qf 5 rfl ?_)
 obtain ⟨kk0, hkk0, hr⟩ := exK (fun k => qG k c_0_1 a1 c_0_0 0) hr
 refine quf [0] (l := c_0_0.map qc) (.head _) (by first | rfl | simp [yR, qdQ]) (asl rfl) fun hla0 => ?_
 simp only [jb] at hla0
 refine qx (fun env σ => env = [] ∧ σ = [.cell b_o0 (.agg [.own u_o1 (c_0_0.map qc), .vec u_o2 c_0_1.length]), .row u_o1 c_0_0.length 215 4, .vec u_o2 (c_0_1.map (D.int .i64)) 3 1] ∧ kk0 = some res) ?_ (fun HK0 => ?_)
 ·
  rintro _ _ ⟨rfl, rfl, hr⟩
  rw [hkk0] at hr
  refine qf 2 rfl ?_
  cases hr
  refine qu Tryz.func167 rfl ?_
  exact ⟨rfl, rfl⟩
 ·
  refine qm [0, 1, 5] rfl (q9 (fun n env σ => ∃ (i1 : Nat), (n = c_0_0.length - i1) ∧ (env = [(0, .ref b_o0 0 []), (1, .int .i64 a1), (5, .int .i64 (i1 : Int))]) ∧ (σ = [.cell b_o0 (.agg [.own u_o1 (c_0_0.map qc), .vec u_o2 c_0_1.length]), .row u_o1 c_0_0.length 215 4, .vec u_o2 (c_0_1.map (D.int .i64)) 3 1]) ∧ (i1 ≤ c_0_0.length) ∧ (qG kk0 c_0_1 a1 (c_0_0.drop i1) i1 = some res)) _ ⟨0, rfl, rfl, rfl, jc _, hr⟩ ?_)
  rintro n _ _ ⟨i1, rfl, rfl, rfl, hi0, hr⟩ IH0
  rcases zb c_0_0 i1 hi0 with ⟨ht0, hd0, he0⟩ | ⟨q_2, ht0, hd0, hq0, hlt0⟩
  ·
   rw [hd0, qG] at hr
   refine qe (qe (zg 7 512 (qa 2 rfl (rd rfl (qP rfl rfl) (rd rfl (qr rfl qo rfl) (qcD 0 rfl (qz rfl (qa 1 rfl (qb (qk 12 false rfl ht0 (qA rfl (qQ rfl (qm [] rfl ?_)))))))))))))
   exact HK0 _ _ ⟨rfl, rfl, hr⟩
  ·
   rw [hd0, qG] at hr
   refine qe (qe (zg 7 512 (qa 2 rfl (rd rfl (qP rfl rfl) (rd rfl (qr rfl qo rfl) (qcD 0 rfl (qz rfl (qa 1 rfl (qb (qk 12 true rfl ht0 (qf 5 rfl (zg 20 134228096 (qa 1 rfl ?_)))))))))))))
   refine rd rfl (qP rfl rfl) (rd rfl (qr rfl q0 rfl) (qcD 0 rfl (qa 1 rfl ?_)))
   obtain ⟨q_3, h3, hr⟩ := za hr
   have hq_3_n := (qb6 h3).2
   refine r_r rfl rfl rfl (qfm (f := (D.int .i64)) c_0_1 rfl qc7 rfl rfl h3 (.tail _ (.tail _ (.head _)))) (r_r rfl rfl rfl (qi6 rfl rfl (.tail _ (.tail _ (.head _))) (zay hq_3_n) rfl rfl (by exact qgQ) rfl) (qa 3 rfl ?_))
   refine zq 24 rfl hr (fun h24_3 hr => ?_) (fun h24_3 hr => ?_)
   ·
    refine qa 1 rfl (rd rfl (qP rfl rfl) (rd rfl (qr rfl qo rfl) (qcD 0 rfl (qa 1 rfl (qN hq0 rfl (qa 4 rfl (qb ?_)))))))
    refine zh 34 rfl hr (fun h34_4 hr => ?_) (fun h34_4 hr => ?_)
    ·
     refine qf 3 rfl ?_
     cases hr
     refine qu Tryz.func167 rfl ?_
     exact ⟨rfl, rfl⟩
    ·
     refine qf 3 rfl (qg 3 (qa 1 rfl (qaj rfl (qa 1 rfl (qb (qm [0, 1, 5] rfl ?_))))))
     exact IH0 _ _ _ (by omega) ⟨(i1 + 1), rfl, rfl, rfl, (by omega), hr⟩
   ·
    refine qa 10 rfl (qb (qf 3 rfl (qg 3 (qa 1 rfl (qaj rfl (qa 1 rfl (qb (qm [0, 1, 5] rfl ?_))))))))
    exact IH0 _ _ _ (by omega) ⟨(i1 + 1), rfl, rfl, rfl, (by omega), hr⟩
def qM (k : List qd → List Int → Option (Bool × (List qd) × (List Int))) (rec : Int → Int → List qd → List Int → Option (Bool × (List qd) × (List Int))) (q_19 : qd) : List Int → Nat → List qd → List Int → Option (Bool × (List qd) × (List Int))
 | [], i26, g27, g28 =>
 (k g27 g28)
 | q_33 :: rest, i26, g27, g28 =>
 ((zj q_19.f3_Kids (i26 : Int)).bind fun q_34 =>
 ((rec q_33 q_34 g27 g28).bind fun r35 =>
 (bif (!r35.1) then
 some (false, r35.2.1, r35.2.2)
 else
 (qM k rec q_19 rest (i26 + 1) r35.2.1 r35.2.2))))
def qV (k : List qd → List Int → Option (Bool × (List qd) × (List Int))) (q1 : Int) (q_2 : Int) : Nat → Int → List qd → List Int → Option (Bool × (List qd) × (List Int))
 | 0, i8, g9, g10 =>
 none
 | rest + 1, i8, g9, g10 =>
 (bif (decide (i8 < (g10.length : Int))) then
 ((zj g10 i8).bind fun q40 =>
 (bif (q40 == q_2) then
 (qV k q1 q_2 rest (wr (i8 + (1 : Int))) g9 (g10.set i8.toNat q1))
 else
 (qV k q1 q_2 rest (wr (i8 + (1 : Int))) g9 g10)))
 else
 (k g9 g10))
def q8 : Nat → Int → Int → List qd → List Int → Option (Bool × (List qd) × (List Int))
 | 0, _, _, _, _ => none
 | fuel + 1, a1, a2, c_0_0, c_0_1 =>
  (fun (rec : Int → Int → List qd → List Int → Option (Bool × (List qd) × (List Int))) =>
   ((zj c_0_1 a1).bind fun q1 =>
   ((zj c_0_1 a2).bind fun q_2 =>
   (bif (q1 == q_2) then
   some (true, c_0_0, c_0_1)
   else
   ((qI q1 c_0_0 c_0_1).bind fun r4 =>
   ((qI q_2 c_0_0 c_0_1).bind fun r5 =>
   (qV (fun g13 g14 =>
   (bif (decide (r4 < (0 : Int))) then
   some (true, g13, g14)
   else
   (bif (decide (r5 < (0 : Int))) then
   some (true, g13, g14)
   else
   ((zj g13 r4).bind fun q_18 =>
   ((zj g13 r5).bind fun q_19 =>
   (bif (q_18.f0_Kind != q_19.f0_Kind) then
   some (false, g13, g14)
   else
   (bif (q_18.f1_Int != q_19.f1_Int) then
   some (false, g13, g14)
   else
   (bif (!(q_18.f2_Name.toList == q_19.f2_Name.toList)) then
   some (false, g13, g14)
   else
   (bif ((q_18.f3_Kids.length : Int) != (q_19.f3_Kids.length : Int)) then
   some (false, g13, g14)
   else
   (qM (fun g31 g32 =>
   some (true, g31, g32)) rec q_19 q_18.f3_Kids 0 g13 g14)))))))))) q1 q_2 fuel 0 c_0_0 c_0_1))))))) (q8 fuel)
theorem qhD (fuel : Nat) (rec : Int → Int → List qd → List Int → Option (Bool × (List qd) × (List Int))) (IHR : ∀ (a1 : Int) (a2 : Int) (c_0_0 : List qd) (c_0_1 : List Int) (b_o0 : Nat) (u_o1 : Value) (u_o2 : Value) (res : Bool × (List qd) × (List Int)), rec a1 a2 c_0_0 c_0_1 = some res → Spec Tryz.prog 165 [.ref b_o0 0 [], .int .i64 a1, .int .i64 a2] [.cell b_o0 (.agg [.own u_o1 (c_0_0.map qc), .vec u_o2 c_0_1.length]), .row u_o1 c_0_0.length 215 4, .vec u_o2 (c_0_1.map (D.int .i64)) 3 1] (fun d σ => ∃ (u_o1' : Value) (u_o2' : Value), d = .bool res.1 ∧ σ = [.cell b_o0 (.agg [.own u_o1' (res.2.1.map qc), .vec u_o2' res.2.2.length]), .row u_o1' res.2.1.length 215 4, .vec u_o2' (res.2.2.map (D.int .i64)) 3 1])) (a1 : Int) (a2 : Int) (c_0_0 : List qd) (c_0_1 : List Int) (b_o0 : Nat) (u_o1 : Value) (u_o2 : Value) (res : Bool × (List qd) × (List Int))
 (hr : ((zj c_0_1 a1).bind fun q1 =>
((zj c_0_1 a2).bind fun q_2 =>
(bif (q1 == q_2) then
some (true, c_0_0, c_0_1)
else
((qI q1 c_0_0 c_0_1).bind fun r4 =>
((qI q_2 c_0_0 c_0_1).bind fun r5 =>
(qV (fun g13 g14 =>
(bif (decide (r4 < (0 : Int))) then
some (true, g13, g14)
else
(bif (decide (r5 < (0 : Int))) then
some (true, g13, g14)
else
((zj g13 r4).bind fun q_18 =>
((zj g13 r5).bind fun q_19 =>
(bif (q_18.f0_Kind != q_19.f0_Kind) then
some (false, g13, g14)
else
(bif (q_18.f1_Int != q_19.f1_Int) then
some (false, g13, g14)
else
(bif (!(q_18.f2_Name.toList == q_19.f2_Name.toList)) then
some (false, g13, g14)
else
(bif ((q_18.f3_Kids.length : Int) != (q_19.f3_Kids.length : Int)) then
some (false, g13, g14)
else
(qM (fun g31 g32 =>
some (true, g31, g32)) rec q_19 q_18.f3_Kids 0 g13 g14)))))))))) q1 q_2 fuel 0 c_0_0 c_0_1)))))) = some res) : Spec Tryz.prog 165 [.ref b_o0 0 [], .int .i64 a1, .int .i64 a2] [.cell b_o0 (.agg [.own u_o1 (c_0_0.map qc), .vec u_o2 c_0_1.length]), .row u_o1 c_0_0.length 215 4, .vec u_o2 (c_0_1.map (D.int .i64)) 3 1] (fun d σ => ∃ (u_o1' : Value) (u_o2' : Value), d = .bool res.1 ∧ σ = [.cell b_o0 (.agg [.own u_o1' (res.2.1.map qc), .vec u_o2' res.2.2.length]), .row u_o1' res.2.1.length 215 4, .vec u_o2' (res.2.2.map (D.int .i64)) 3 1]) := by
 refine qY Tryz.func165 rfl fun K hK => (qf 3 rfl (qei 16 169879680 (qa 1 rfl (rd rfl (qP rfl rfl) (rd rfl (qr rfl q0 rfl) (qcD 0 rfl (qa 1 rfl ?_)))))))
 obtain ⟨q1, h1, hr⟩ := za hr
 have hq_1_n := (qb6 h1).2
 refine r_r rfl rfl rfl (qfm (f := (D.int .i64)) c_0_1 rfl qc7 rfl rfl h1 (.tail _ (.tail _ (.head _)))) (r_r rfl rfl rfl (qi6 rfl rfl (.tail _ (.tail _ (.head _))) (zay hq_1_n) rfl rfl (by exact qgQ) rfl) (qa 1 rfl (rd rfl (qP rfl rfl) (rd rfl (qr rfl q0 rfl) (qcD 0 rfl (qa 1 rfl ?_))))))
 obtain ⟨q_2, h2, hr⟩ := za hr
 have hq_2_n := (qb6 h2).2
 refine r_r rfl rfl rfl (qfm (f := (D.int .i64)) c_0_1 rfl qc7 rfl rfl h2 (.tail _ (.tail _ (.head _)))) (r_r rfl rfl rfl (qi6 rfl rfl (.tail _ (.tail _ (.head _))) (zay hq_2_n) rfl rfl (by exact qgQ) rfl) (qa 2 rfl (qb (qf 3 rfl ?_))))
 refine zh 31 rfl hr (fun h31_2 hr => ?_) (fun h31_2 hr => ?_)
 ·
  refine qf 3 rfl ?_
  cases hr
  refine qu Tryz.func165 rfl ?_
  exact ⟨u_o1, u_o2, rfl, rfl⟩
 ·
  refine qf 3 rfl (zg 8 2080 (qa 2 rfl ?_))
  obtain ⟨r4, h4, hr⟩ := za hr
  refine r_r rfl rfl rfl (qib _ rfl qcU (.oc rfl (.oc rfl .nil)) (by exact (pf0 _)) (qcw _ _ _ _ _ _ _ h4)) ?_
  refine qa 2 rfl ?_
  obtain ⟨r5, h5, hr⟩ := za hr
  refine r_r rfl rfl rfl (qib _ rfl qcU (.oc rfl (.oc rfl .nil)) (by exact (pf0 _)) (qcw _ _ _ _ _ _ _ h5)) ?_
  refine qa 2 rfl (qb (qf 3 rfl ?_))
  obtain ⟨kk0, hkk0, hr⟩ := exK (fun k => qV k q1 q_2 fuel 0 c_0_0 c_0_1) hr
  refine qx (fun env σ => ∃ (g13 : List qd) (g14 : List Int) (u11 : Value) (u12 : Value), env = [(0, .ref b_o0 0 []), (9, .int .i64 r4), (10, .int .i64 r5)] ∧ σ = [.cell b_o0 (.agg [.own u11 (g13.map qc), .vec u12 g14.length]), .row u11 g13.length 215 4, .vec u12 (g14.map (D.int .i64)) 3 1] ∧ kk0 g13 g14 = some res) ?_ (fun HK0 => ?_)
  ·
   rintro _ _ ⟨g13, g14, u11, u12, rfl, rfl, hr⟩
   rw [hkk0] at hr
   refine qe (qe (qg 6 (qa 3 rfl ?_)))
   refine zq 65 rfl hr (fun h65_14 hr => ?_) (fun h65_14 hr => ?_)
   ·
    refine qa 3 rfl (qb (qf 3 rfl ?_))
    cases hr
    refine qu Tryz.func165 rfl ?_
    exact ⟨u11, u12, rfl, rfl⟩
   ·
    refine qa 3 rfl (qb ?_)
    refine zh 68 rfl hr (fun h68_15 hr => ?_) (fun h68_15 hr => ?_)
    ·
     refine qf 3 rfl ?_
     cases hr
     refine qu Tryz.func165 rfl ?_
     exact ⟨u11, u12, rfl, rfl⟩
    ·
     refine qf 3 rfl ?_
     obtain ⟨q_18, h18, hr⟩ := za hr
     obtain ⟨q_19, h19, hr⟩ := za hr
     refine qsv (by kernel_rfl) (by kernel_rfl) [(0, .d), (1, .d), (2, .d), (4, .d), (7, .d), (8, .d), (9, .d), (11, .d)] (.cons 3 [(5, .d), (6, .d)] (.cons 10 [(12, .d), (13, .d)] (.cons 14 [] (.cons 15 [] (.cons 16 [] (.cons 17 [] .nil .nil) .nil) .nil) (.cons 15 [] (.cons 14 [] (.cons 16 [] (.cons 17 [] .nil .nil) .nil) .nil) .nil)) (.cons 14 [] (.cons 10 [(12, .d), (13, .d)] (.cons 15 [] (.cons 16 [] (.cons 17 [] .nil .nil) .nil) .nil) (.cons 15 [] (.cons 10 [(12, .d), (13, .d)] (.cons 16 [] (.cons 17 [] .nil .nil) .nil) (.cons 16 [] (.cons 10 [(12, .d), (13, .d)] (.cons 17 [] .nil .nil) .nil) .nil)) .nil)) (.cons 15 [] (.cons 10 [(12, .d), (13, .d)] (.cons 14 [] (.cons 16 [] (.cons 17 [] .nil .nil) .nil) .nil) (.cons 14 [] (.cons 10 [(12, .d), (13, .d)] (.cons 16 [] (.cons 17 [] .nil .nil) .nil) (.cons 16 [] (.cons 10 [(12, .d), (13, .d)] (.cons 17 [] .nil .nil) .nil) .nil)) .nil)) .nil))) (.cons 10 [(12, .d), (13, .d)] (.cons 3 [(5, .d), (6, .d)] (.cons 14 [] (.cons 15 [] (.cons 16 [] (.cons 17 [] .nil .nil) .nil) .nil) (.cons 15 [] (.cons 14 [] (.cons 16 [] (.cons 17 [] .nil .nil) .nil) .nil) .nil)) (.cons 14 [] (.cons 3 [(5, .d), (6, .d)] (.cons 15 [] (.cons 16 [] (.cons 17 [] .nil .nil) .nil) .nil) (.cons 15 [] (.cons 3 [(5, .d), (6, .d)] (.cons 16 [] (.cons 17 [] .nil .nil) .nil) .nil) .nil)) (.cons 15 [] (.cons 3 [(5, .d), (6, .d)] (.cons 14 [] (.cons 16 [] (.cons 17 [] .nil .nil) .nil) .nil) (.cons 14 [] (.cons 3 [(5, .d), (6, .d)] (.cons 16 [] (.cons 17 [] .nil .nil) .nil) .nil) .nil)) .nil))) (.cons 14 [] (.cons 3 [(5, .d), (6, .d)] (.cons 10 [(12, .d), (13, .d)] (.cons 15 [] (.cons 16 [] (.cons 17 [] .nil .nil) .nil) .nil) (.cons 15 [] (.cons 10 [(12, .d), (13, .d)] (.cons 16 [] (.cons 17 [] .nil .nil) .nil) (.cons 16 [] (.cons 10 [(12, .d), (13, .d)] (.cons 17 [] .nil .nil) .nil) .nil)) .nil)) (.cons 10 [(12, .d), (13, .d)] (.cons 3 [(5, .d), (6, .d)] (.cons 15 [] (.cons 16 [] (.cons 17 [] .nil .nil) .nil) .nil) (.cons 15 [] (.cons 3 [(5, .d), (6, .d)] (.cons 16 [] (.cons 17 [] .nil .nil) .nil) .nil) .nil)) (.cons 15 [] (.cons 3 [(5, .d), (6, .d)] (.cons 10 [(12, .d), (13, .d)] (.cons 16 [] (.cons 17 [] .nil .nil) .nil) (.cons 16 [] (.cons 10 [(12, .d), (13, .d)] (.cons 17 [] .nil .nil) .nil) .nil)) (.cons 10 [(12, .d), (13, .d)] (.cons 3 [(5, .d), (6, .d)] (.cons 16 [] (.cons 17 [] .nil .nil) .nil) .nil) .nil)) .nil))) (.cons 15 [] (.cons 3 [(5, .d), (6, .d)] (.cons 10 [(12, .d), (13, .d)] (.cons 14 [] (.cons 16 [] (.cons 17 [] .nil .nil) .nil) .nil) (.cons 14 [] (.cons 10 [(12, .d), (13, .d)] (.cons 16 [] (.cons 17 [] .nil .nil) .nil) (.cons 16 [] (.cons 10 [(12, .d), (13, .d)] (.cons 17 [] .nil .nil) .nil) .nil)) .nil)) (.cons 10 [(12, .d), (13, .d)] (.cons 3 [(5, .d), (6, .d)] (.cons 14 [] (.cons 16 [] (.cons 17 [] .nil .nil) .nil) .nil) (.cons 14 [] (.cons 3 [(5, .d), (6, .d)] (.cons 16 [] (.cons 17 [] .nil .nil) .nil) .nil) .nil)) (.cons 14 [] (.cons 3 [(5, .d), (6, .d)] (.cons 10 [(12, .d), (13, .d)] (.cons 16 [] (.cons 17 [] .nil .nil) .nil) (.cons 16 [] (.cons 10 [(12, .d), (13, .d)] (.cons 17 [] .nil .nil) .nil) .nil)) (.cons 10 [(12, .d), (13, .d)] (.cons 3 [(5, .d), (6, .d)] (.cons 16 [] (.cons 17 [] .nil .nil) .nil) .nil) .nil)) .nil))) .nil)))) (by kernel_rfl) (fun env σ => ∃ (b13_r12_16 : Nat) (b12_r12_16 : Nat), Sub [(0, .ref b_o0 0 []), (12, .ref b12_r12_16 0 []), (13, .ref b13_r12_16 0 [])] env ∧ σ.Perm [.cell b13_r12_16 (qc q_19), .cell b12_r12_16 (qc q_18), .cell b_o0 (.agg [.own u11 (g13.map qc), .vec u12 g14.length]), .row u11 g13.length 215 4, .vec u12 (g14.map (D.int .i64)) 3 1]) ?_ ?_
     ·
      repeat' (first | exact p_no | refine qwQ ?_ ?_ | refine qb ?_ | refine qa 1 rfl ?_ | refine rd rfl (qP rfl rfl) ?_ | refine rd rfl (qr rfl qo rfl) ?_ | refine za4 0 rfl ?_ | refine qN h18 rfl ?_ | refine qN h19 rfl ?_ | (refine ew rfl (qaJ rfl qhU) ?_; rintro _ _ ⟨b, rfl, rfl⟩) | refine qcr rfl (pf1 _ _ _) ?_ | refine qcr rfl (pf0 _) ?_ | refine za4 1 rfl ?_ | refine za4 2 rfl ?_ | (refine qvY ?_; exact ⟨_, _, sbr rfl, pkz⟩))
     ·
      rintro _ _ ⟨b13_r12_16, b12_r12_16, hs, hp⟩
      refine qoo hs hp (qaR 12 b12_r12_16 rfl (pf1 _ _ _) (qaR 13 b13_r12_16 rfl (pf0 _) (qe (qe (qg 28 (qa 6 rfl ?_))))))
      refine zq 88 rfl hr (fun h88_19 hr => ?_) (fun h88_19 hr => ?_)
      ·
       refine qa 22 rfl (qb (qf 3 rfl ?_))
       cases hr
       refine qu Tryz.func165 rfl ?_
       exact ⟨u11, u12, rfl, rfl⟩
      ·
       refine qa 7 rfl ?_
       refine zq 95 rfl hr (fun h95_20 hr => ?_) (fun h95_20 hr => ?_)
       ·
        refine qa 15 rfl (qb (qf 3 rfl ?_))
        cases hr
        refine qu Tryz.func165 rfl ?_
        exact ⟨u11, u12, rfl, rfl⟩
       ·
        refine qa 4 rfl (rd rfl (qgv rfl rfl rfl rfl) (qa 2 rfl ?_))
        refine zq 102 rfl hr (fun h102_21 hr => ?_) (fun h102_21 hr => ?_)
        ·
         refine qa 8 rfl (qb (qf 3 rfl ?_))
         cases hr
         refine qu Tryz.func165 rfl ?_
         exact ⟨u11, u12, rfl, rfl⟩
        ·
         refine qa 2 rfl (qz rfl (qa 2 rfl (qz rfl (qa 2 rfl (qb ?_)))))
         refine zh 110 rfl hr (fun h110_22 hr => ?_) (fun h110_22 hr => ?_)
         ·
          refine qf 3 rfl ?_
          cases hr
          refine qu Tryz.func165 rfl ?_
          exact ⟨u11, u12, rfl, rfl⟩
         ·
          refine qf 5 rfl ?_
          obtain ⟨kk1, hkk1, hr⟩ := exK (fun k => qM k rec q_19 q_18.f3_Kids 0 g13 g14) hr
          refine qcq 104 rfl (asl rfl) fun hla1 => ?_
          simp only [jb] at hla1
          refine qx (fun env σ => ∃ (g31 : List qd) (g32 : List Int) (u29 : Value) (u30 : Value), env = [] ∧ σ = [.cell b_o0 (.agg [.own u29 (g31.map qc), .vec u30 g32.length]), .row u29 g31.length 215 4, .vec u30 (g32.map (D.int .i64)) 3 1] ∧ kk1 g31 g32 = some res) ?_ (fun HK1 => ?_)
          ·
           rintro _ _ ⟨g31, g32, u29, u30, rfl, rfl, hr⟩
           rw [hkk1] at hr
           refine qf 2 rfl ?_
           cases hr
           refine qu Tryz.func165 rfl ?_
           exact ⟨u29, u30, rfl, rfl⟩
          ·
           refine qm [0, 12, 13, 14] rfl (q9 (fun n env σ => ∃ (i26 : Nat) (g27 : List qd) (g28 : List Int) (u24 : Value) (u25 : Value), (n = q_18.f3_Kids.length - i26) ∧ (env = [(0, .ref b_o0 0 []), (12, .ptr (qc q_18)), (13, .ptr (qc q_19)), (14, .int .i64 (i26 : Int))]) ∧ (σ = [.cell b_o0 (.agg [.own u24 (g27.map qc), .vec u25 g28.length]), .row u24 g27.length 215 4, .vec u25 (g28.map (D.int .i64)) 3 1]) ∧ (i26 ≤ q_18.f3_Kids.length) ∧ (qM kk1 rec q_19 (q_18.f3_Kids.drop i26) i26 g27 g28 = some res)) _ ⟨0, g13, g14, u11, u12, rfl, rfl, rfl, jc _, hr⟩ ?_)
           rintro n _ _ ⟨i26, g27, g28, u24, u25, rfl, rfl, rfl, hi1, hr⟩ IH1
           rcases zb q_18.f3_Kids i26 hi1 with ⟨ht1, hd1, he1⟩ | ⟨q_33, ht1, hd1, hq1, hlt1⟩
           ·
            rw [hd1, qM] at hr
            refine qe (qe (qg 5 (qa 3 rfl (qz rfl (qa 1 rfl (qb (qk 115 false rfl ht1 (qA rfl (qQ rfl (qm [] rfl ?_))))))))))
            exact HK1 _ _ ⟨g27, g28, u24, u25, rfl, rfl, hr⟩
           ·
            rw [hd1, qM] at hr
            refine qe (qe (qg 5 (qa 3 rfl (qz rfl (qa 1 rfl (qb (qk 115 true rfl ht1 (qf 5 rfl (qei 13 4194304 (qa 4 rfl (qN hq1 rfl (qa 4 rfl ?_))))))))))))
            obtain ⟨q_34, h34, hr⟩ := za hr
            refine qN h34 rfl (qa 1 rfl ?_)
            obtain ⟨r35, h35, hr⟩ := za hr
            refine ew rfl (qiq _ rfl qfR (.oc rfl (.oc rfl (.oc rfl .nil))) (by exact (pf0 _)) (IHR _ _ _ _ _ _ _ _ h35)) ?_
            rintro _ _ ⟨_, ⟨u129_35, u129_36, rfl, rfl⟩, rfl⟩
            refine zaq ((.cell b_o0 (.agg [.own u129_35 (r35.2.1.map qc), .vec u129_36 r35.2.2.length])) :: (.row u129_35 r35.2.1.length 215 4) :: (.vec u129_36 (r35.2.2.map (D.int .i64)) 3 1) :: _) rfl (qa 1 rfl (qb ?_))
            refine zh 130 rfl hr (fun h130_37 hr => ?_) (fun h130_37 hr => ?_)
            ·
             refine qf 3 rfl ?_
             cases hr
             refine qu Tryz.func165 rfl ?_
             exact ⟨u129_35, u129_36, rfl, rfl⟩
            ·
             refine qf 3 rfl (qg 3 (qa 1 rfl (qaj rfl (qa 1 rfl (qb (qm [0, 12, 13, 14] rfl ?_))))))
             exact IH1 _ _ _ (by omega) ⟨(i26 + 1), r35.2.1, r35.2.2, u129_35, u129_36, rfl, rfl, rfl, (by omega), hr⟩
  ·
   refine qm [0, 7, 8, 9, 10, 11] rfl (q9 (fun n env σ => ∃ (i8 : Int) (g9 : List qd) (g10 : List Int) (u6 : Value) (u7 : Value) (n0 : Nat), (n0 = n) ∧ (env = [(0, .ref b_o0 0 []), (7, .int .i64 q1), (8, .int .i64 q_2), (9, .int .i64 r4), (10, .int .i64 r5), (11, .int .i64 i8)]) ∧ (σ = [.cell b_o0 (.agg [.own u6 (g9.map qc), .vec u7 g10.length]), .row u6 g9.length 215 4, .vec u7 (g10.map (D.int .i64)) 3 1]) ∧ (qV kk0 q1 q_2 n0 i8 g9 g10 = some res)) _ ⟨0, c_0_0, c_0_1, u_o1, u_o2, _, rfl, rfl, rfl, hr⟩ ?_)
   rintro n _ _ ⟨i8, g9, g10, u6, u7, n0, rfl, rfl, rfl, hr⟩ IH0
   cases n0 with
   | zero => rw [qV] at hr; cases hr
   | succ n0 =>
    rw [qV] at hr
    refine qe (qe (zg 7 512 (qa 2 rfl (rd rfl (qP rfl rfl) (rd rfl (qr rfl q0 rfl) (qcD 0 rfl (rd rfl (qBt rfl Tryz.underlying46 rfl) (qa 1 rfl (qb ?_)))))))))
    refine zh 44 rfl hr (fun h44_38 hr => ?_) (fun h44_38 hr => ?_)
    ·
     refine qf 5 rfl (zg 9 10368 (qa 1 rfl (rd rfl (qP rfl rfl) (rd rfl (qr rfl q0 rfl) (qcD 0 rfl (qa 1 rfl ?_))))))
     obtain ⟨q40, h40, hr⟩ := za hr
     have hq_40_n := (qb6 h40).2
     refine r_r rfl rfl rfl (qfm (f := (D.int .i64)) g10 rfl qc7 rfl rfl h40 (.tail _ (.tail _ (.head _)))) (r_r rfl rfl rfl (qi6 rfl rfl (.tail _ (.tail _ (.head _))) (zay hq_40_n) rfl rfl (by exact qgQ) rfl) (qa 2 rfl (qb ?_)))
     refine zh 55 rfl hr (fun h55_40 hr => ?_) (fun h55_40 hr => ?_)
     ·
      refine qO rfl (zg 8 24704 (qa 1 rfl (rd rfl (qP rfl rfl) (rd rfl (qr rfl q0 rfl) (qcD 0 rfl (qa 2 rfl ?_))))))
      have hq_40_n := (qb6 h40).2
      refine r_r rfl rfl rfl (qfm (f := (D.int .i64)) g10 rfl qc7 rfl rfl h40 (.tail _ (.tail _ (.head _)))) (qgZ rfl rfl rfl (qzm _ rfl rfl rfl (Wk.refl _) (pf2 _ _ _ _) (zay hq_40_n) rfl rfl rfl (by exact qgQ) rfl rfl rfl) (zaq [.vec u7 ((g10.set i8.toNat q1).map (D.int .i64)) 3 1, .cell b_o0 (.agg [.own u6 (g9.map qc), .vec u7 (g10.set i8.toNat q1).length]), .row u6 g9.length 215 4] (by simp [List.map_set, qq2]) (qb (qaa (qg 3 (qa 1 rfl (rd rfl (qeF rfl rfl rfl rfl) (qa 1 rfl (qb (qm [0, 7, 8, 9, 10, 11] rfl (qcA [_, _, _] _ (pS [0, 2, 2] _) ?_)))))))))))
      exact IH0 _ _ _ (by omega) ⟨(wr (i8 + (1 : Int))), g9, (g10.set i8.toNat q1), u6, u7, _, rfl, rfl, rfl, hr⟩
     ·
      refine qf 3 rfl (qg 3 (qa 1 rfl (rd rfl (qeF rfl rfl rfl rfl) (qa 1 rfl (qb (qm [0, 7, 8, 9, 10, 11] rfl ?_))))))
      exact IH0 _ _ _ (by omega) ⟨(wr (i8 + (1 : Int))), g9, g10, u6, u7, _, rfl, rfl, rfl, hr⟩
    ·
     refine qA rfl (qQ rfl (qm [0, 9, 10] rfl ?_))
     exact HK0 _ _ ⟨g9, g10, u6, u7, rfl, rfl, hr⟩
theorem qfo : ∀ (fuel : Nat) (a1 : Int) (a2 : Int) (c_0_0 : List qd) (c_0_1 : List Int) (b_o0 : Nat) (u_o1 : Value) (u_o2 : Value) (res : Bool × (List qd) × (List Int)), q8 fuel a1 a2 c_0_0 c_0_1 = some res → Spec Tryz.prog 165 [.ref b_o0 0 [], .int .i64 a1, .int .i64 a2] [.cell b_o0 (.agg [.own u_o1 (c_0_0.map qc), .vec u_o2 c_0_1.length]), .row u_o1 c_0_0.length 215 4, .vec u_o2 (c_0_1.map (D.int .i64)) 3 1] (fun d σ => ∃ (u_o1' : Value) (u_o2' : Value), d = .bool res.1 ∧ σ = [.cell b_o0 (.agg [.own u_o1' (res.2.1.map qc), .vec u_o2' res.2.2.length]), .row u_o1' res.2.1.length 215 4, .vec u_o2' (res.2.2.map (D.int .i64)) 3 1])
 | 0, _, _, _, _, _, _, _, _, h => by cases h
 | fuel + 1, a1, a2, c_0_0, c_0_1, b_o0, u_o1, u_o2, res, h => qhD fuel (q8 fuel) (qfo fuel) a1 a2 c_0_0 c_0_1 b_o0 u_o1 u_o2 res h
def qL (k : Bool → qi → Option ((List qi) × Bool)) (a12 : List qi) (c_0_0 : List qd) (c_0_1 : List Int) (r20 : Int) : Nat → Bool → Int → qi → Option ((List qi) × Bool)
 | 0, d22, j23, x24 =>
 none
 | rest + 1, d22, j23, x24 =>
 (bif (decide (r20 ≥ (0 : Int))) then
 ((zj c_0_0 r20).bind fun q_29 =>
 (bif (decide (j23 < (q_29.f3_Kids.length : Int))) then
 ((zj q_29.f3_Kids j23).bind fun q32 =>
 ((zj c_0_1 q32).bind fun q_33 =>
 ((zj a12 q_33).bind fun q_34 =>
 (bif d22 then
 (qL k a12 c_0_0 c_0_1 r20 rest (decide (q_34.f0_Size > (0 : Int))) (wr (j23 + (1 : Int))) (⟨(yu (wr (x24.f0_Size + q_34.f0_Size)) (201 : Int)), (yu (zak x24.f1_Depth (wr (q_34.f1_Depth + (1 : Int)))) (21 : Int))⟩ : qi))
 else
 (qL k a12 c_0_0 c_0_1 r20 rest false (wr (j23 + (1 : Int))) (⟨(yu (wr (x24.f0_Size + q_34.f0_Size)) (201 : Int)), (yu (zak x24.f1_Depth (wr (q_34.f1_Depth + (1 : Int)))) (21 : Int))⟩ : qi))))))
 else
 (k d22 x24)))
 else
 (k d22 x24))
def qy (k : Int → List qi → Option ((List qi) × Bool)) (c_0_0 : List qd) (c_0_1 : List Int) (fuel : Nat) : List qd → Int → Nat → List qi → Option ((List qi) × Bool)
 | [], l10, i11, a12 =>
 (k l10 a12)
 | q_16 :: rest, l10, i11, a12 =>
 ((zj c_0_1 (i11 : Int)).bind fun q_17 =>
 ((zj a12 q_17).bind fun q_18 =>
 (bif (decide (q_18.f0_Size > (0 : Int))) then
 (qy k c_0_0 c_0_1 fuel rest l10 (i11 + 1) a12)
 else
 ((qI q_17 c_0_0 c_0_1).bind fun r20 =>
 (qL (fun d25 x26 =>
 (bif d25 then
 (qy k c_0_0 c_0_1 fuel rest (wr (l10 - (1 : Int))) (i11 + 1) (a12.set q_17.toNat x26))
 else
 (qy k c_0_0 c_0_1 fuel rest l10 (i11 + 1) a12))) a12 c_0_0 c_0_1 r20 fuel true 0 (⟨1, 1⟩ : qi))))))
def qZ (k : List qi → Option ((List qi) × Bool)) (c_0_0 : List qd) (c_0_1 : List Int) (fuel : Nat) : Nat → Int → List qi → Option ((List qi) × Bool)
 | 0, l6, a7 =>
 none
 | rest + 1, l6, a7 =>
 (bif (decide (l6 > (0 : Int))) then
 (qy (fun l13 a14 =>
 (bif (l13 == l6) then
 some ([], false)
 else
 (qZ k c_0_0 c_0_1 fuel rest l13 a14))) c_0_0 c_0_1 fuel c_0_0 l6 0 a7)
 else
 (k a7))
def qT (k : Int → Option ((List qi) × Bool)) (c_0_1 : List Int) : List qd → Int → Nat → Option ((List qi) × Bool)
 | [], l3, i4 =>
 (k l3)
 | q_36 :: rest, l3, i4 =>
 ((zj c_0_1 (i4 : Int)).bind fun q_37 =>
 (bif (q_37 == (i4 : Int)) then
 (qT k c_0_1 rest (wr (l3 + (1 : Int))) (i4 + 1))
 else
 (qT k c_0_1 rest l3 (i4 + 1))))
def qbD (fuel : Nat) (c_0_0 : List qd) (c_0_1 : List Int) : Option ((List qi) × Bool) :=
 ((zac 16 (c_0_0.length : Int)).bind fun n1 =>
 (qT (fun l5 =>
 (qZ (fun a8 =>
 some (a8, true)) c_0_0 c_0_1 fuel fuel l5 (List.replicate n1 (⟨0, 0⟩ : qi)))) c_0_1 c_0_0 0 0))
theorem qgX (fuel : Nat) (c_0_0 : List qd) (c_0_1 : List Int) (b_o0 : Nat) (u_o1 : Value) (u_o2 : Value) (res : (List qi) × Bool) (hr : qbD fuel c_0_0 c_0_1 = some res) : Spec Tryz.prog 166 [.ref b_o0 0 []] [.cell b_o0 (.agg [.own u_o1 (c_0_0.map qc), .vec u_o2 c_0_1.length]), .row u_o1 c_0_0.length 215 4, .vec u_o2 (c_0_1.map (D.int .i64)) 3 1] (fun d σ => d = .tup [.lst (res.1.map qt), .bool res.2] ∧ σ = [.cell b_o0 (.agg [.own u_o1 (c_0_0.map qc), .vec u_o2 c_0_1.length]), .row u_o1 c_0_0.length 215 4, .vec u_o2 (c_0_1.map (D.int .i64)) 3 1]) := by
 unfold qbD at hr
 refine qY Tryz.func166 rfl fun K hK => (qf 3 rfl (zg 7 1152 (qa 1 rfl (rd rfl (qP rfl rfl) (rd rfl (qr rfl qo rfl) (qcD 0 rfl (qz rfl ?_)))))))
 obtain ⟨n_1, h1, hr⟩ := za hr
 refine ew rfl (qx0 (f := qt) (⟨0, 0⟩ : qi) rfl qdd qfl rfl rfl h1) ?_
 rintro _ _ ⟨b20_1, rfl, rfl⟩
 refine qa 1 rfl (qb (qf 5 rfl ?_))
 obtain ⟨kk0, hkk0, hr⟩ := exK (fun k => qT k c_0_1 c_0_0 0 0) hr
 refine qcq 18 rfl (asl rfl) fun hla0 => ?_
 simp only [jb] at hla0
 refine qx (fun env σ => ∃ (l5 : Int), env = [(0, .ref b_o0 0 []), (4, .arr b20_1 2 0 n_1), (5, .int .i64 l5)] ∧ σ = [.cell b_o0 (.agg [.own u_o1 (c_0_0.map qc), .vec u_o2 c_0_1.length]), .row u_o1 c_0_0.length 215 4, .vec u_o2 (c_0_1.map (D.int .i64)) 3 1, .arr b20_1 ((List.replicate n_1 (⟨0, 0⟩ : qi)).map qt) 217 2] ∧ kk0 l5 = some res) ?_ (fun HK0 => ?_)
 ·
  rintro _ _ ⟨l5, rfl, rfl, hr⟩
  rw [hkk0] at hr
  refine qe ?_
  obtain ⟨kk1, hkk1, hr⟩ := exK (fun k => qZ k c_0_0 c_0_1 fuel fuel l5 (List.replicate n_1 (⟨0, 0⟩ : qi))) hr
  refine qx (fun env σ => ∃ (a8 : List qi), env = [(4, .arr b20_1 2 0 n_1)] ∧ σ = [.arr b20_1 (a8.map qt) 217 2, .cell b_o0 (.agg [.own u_o1 (c_0_0.map qc), .vec u_o2 c_0_1.length]), .row u_o1 c_0_0.length 215 4, .vec u_o2 (c_0_1.map (D.int .i64)) 3 1] ∧ a8.length = n_1 ∧ kk1 a8 = some res) ?_ (fun HK1 => ?_)
  ·
   rintro _ _ ⟨a8, rfl, rfl, hl_a_8, hr⟩
   rw [hkk1] at hr
   refine qf 2 rfl (qta (l := a8.map qt) 2 rfl (pf0 _) (by rw [jb]; exact Eq.symm hl_a_8) ?_)
   cases hr
   refine qu Tryz.func166 rfl ?_
   exact ⟨rfl, rfl⟩
  ·
   refine qm [0, 4, 5] rfl (q9 (fun n env σ => ∃ (l6 : Int) (a7 : List qi) (n1 : Nat), (n1 = n) ∧ (env = [(0, .ref b_o0 0 []), (4, .arr b20_1 2 0 n_1), (5, .int .i64 l6)]) ∧ (σ = [.cell b_o0 (.agg [.own u_o1 (c_0_0.map qc), .vec u_o2 c_0_1.length]), .row u_o1 c_0_0.length 215 4, .vec u_o2 (c_0_1.map (D.int .i64)) 3 1, .arr b20_1 (a7.map qt) 217 2]) ∧ (a7.length = n_1) ∧ (qZ kk1 c_0_0 c_0_1 fuel n1 l6 a7 = some res)) _ ⟨l5, (List.replicate n_1 (⟨0, 0⟩ : qi)), _, rfl, rfl, rfl, (by simp), hr⟩ ?_)
   rintro n _ _ ⟨l6, a7, n1, rfl, rfl, rfl, hl_a_7, hr⟩ IH1
   cases n1 with
   | zero => rw [qZ] at hr; cases hr
   | succ n1 =>
    rw [qZ] at hr
    refine qf 3 rfl ?_
    refine zh 42 rfl hr (fun h42_8 hr => ?_) (fun h42_8 hr => ?_)
    ·
     refine qf 8 rfl ?_
     obtain ⟨kk2, hkk2, hr⟩ := exK (fun k => qy k c_0_0 c_0_1 fuel c_0_0 l6 0 a7) hr
     refine quf [0] (l := c_0_0.map qc) (.head _) (by first | rfl | simp [yR, qdQ]) (asl rfl) fun hla2 => ?_
     simp only [jb] at hla2
     refine qx (fun env σ => ∃ (l13 : Int) (a14 : List qi), env = [(0, .ref b_o0 0 []), (4, .arr b20_1 2 0 n_1), (5, .int .i64 l13), (7, .int .i64 l6)] ∧ σ = [.cell b_o0 (.agg [.own u_o1 (c_0_0.map qc), .vec u_o2 c_0_1.length]), .row u_o1 c_0_0.length 215 4, .vec u_o2 (c_0_1.map (D.int .i64)) 3 1, .arr b20_1 (a14.map qt) 217 2] ∧ a14.length = n_1 ∧ kk2 l13 a14 = some res) ?_ (fun HK2 => ?_)
     ·
      rintro _ _ ⟨l13, a14, rfl, rfl, hl_a_14, hr⟩
      rw [hkk2] at hr
      refine qf 2 rfl ?_
      refine zh 137 rfl hr (fun h137_14 hr => ?_) (fun h137_14 hr => ?_)
      ·
       refine qf 3 rfl (qcA [_, _, _] _ (pf0 _) ?_)
       cases hr
       refine qbQ Tryz.func166 _ (.cons (zd rfl (Wk.full _)) (.cons (zd rfl (Wk.refl _)) .nil)) ?_
       exact ⟨rfl, rfl⟩
      ·
       refine qf 3 rfl (qm [0, 4, 5] rfl ?_)
       exact IH1 _ _ _ (by omega) ⟨l13, a14, _, rfl, rfl, rfl, hl_a_14, hr⟩
     ·
      refine qm [0, 4, 7, 5, 8] rfl (q9 (fun n env σ => ∃ (l10 : Int) (i11 : Nat) (a12 : List qi), (n = c_0_0.length - i11) ∧ (env = [(0, .ref b_o0 0 []), (4, .arr b20_1 2 0 n_1), (7, .int .i64 l6), (5, .int .i64 l10), (8, .int .i64 (i11 : Int))]) ∧ (σ = [.cell b_o0 (.agg [.own u_o1 (c_0_0.map qc), .vec u_o2 c_0_1.length]), .row u_o1 c_0_0.length 215 4, .vec u_o2 (c_0_1.map (D.int .i64)) 3 1, .arr b20_1 (a12.map qt) 217 2]) ∧ (a12.length = n_1) ∧ (i11 ≤ c_0_0.length) ∧ (qy kk2 c_0_0 c_0_1 fuel (c_0_0.drop i11) l10 i11 a12 = some res)) _ ⟨l6, 0, a7, rfl, rfl, rfl, hl_a_7, jc _, hr⟩ ?_)
      rintro n _ _ ⟨l10, i11, a12, rfl, rfl, rfl, hl_a_12, hi2, hr⟩ IH2
      rcases zb c_0_0 i11 hi2 with ⟨ht2, hd2, he2⟩ | ⟨q_16, ht2, hd2, hq2, hlt2⟩
      ·
       rw [hd2, qy] at hr
       refine qe (qe (zg 7 512 (qa 2 rfl (rd rfl (qP rfl rfl) (rd rfl (qr rfl qo rfl) (qcD 0 rfl (qz rfl (qa 1 rfl (qb (qk 50 false rfl ht2 (qA rfl (qQ rfl (qm [0, 4, 5, 7] rfl ?_)))))))))))))
       exact HK2 _ _ ⟨l10, a12, rfl, rfl, hl_a_12, hr⟩
      ·
       rw [hd2, qy] at hr
       refine qe (qe (zg 7 512 (qa 2 rfl (rd rfl (qP rfl rfl) (rd rfl (qr rfl qo rfl) (qcD 0 rfl (qz rfl (qa 1 rfl (qb (qk 50 true rfl ht2 (qf 5 rfl (zg 8 10368 (qa 1 rfl ?_)))))))))))))
       refine rd rfl (qP rfl rfl) (rd rfl (qr rfl q0 rfl) (qcD 0 rfl (qa 1 rfl ?_)))
       obtain ⟨q_17, h17, hr⟩ := za hr
       have hq_17_n := (qb6 h17).2
       refine r_r rfl rfl rfl (qfm (f := (D.int .i64)) c_0_1 rfl qc7 rfl rfl h17 (.tail _ (.tail _ (.head _)))) (r_r rfl rfl rfl (qi6 rfl rfl (.tail _ (.tail _ (.head _))) (zay hq_17_n) rfl rfl (by exact qgQ) rfl) (qa 1 rfl (qb (qe (qe (zg 6 512 (qa 2 rfl ?_)))))))
       obtain ⟨q_18, h18, hr⟩ := za hr
       have hq_18_n := (qb6 h18).2
       refine rd rfl (ql4 a12 rfl qdd rfl rfl h18 hl_a_12) (rd rfl (qyq rfl qcJ rfl) (r_r rfl rfl rfl (qs8 rfl rfl (.tail _ (.tail _ (.tail _ (.head _)))) (zay hq_18_n) rfl rfl (by exact qgQ) rfl) (qa 1 rfl (qb ?_))))
       refine zh 65 rfl hr (fun h65_18 hr => ?_) (fun h65_18 hr => ?_)
       ·
        refine qO rfl (qQ rfl (qg 3 (qa 1 rfl (qaj rfl (qa 1 rfl (qb (qm [0, 4, 7, 5, 8] rfl ?_)))))))
        exact IH2 _ _ _ (by omega) ⟨l10, (i11 + 1), a12, rfl, rfl, rfl, hl_a_12, (by omega), hr⟩
       ·
        refine qf 3 rfl (zg 4 32 (qa 2 rfl ?_))
        obtain ⟨r20, h20, hr⟩ := za hr
        refine r_r rfl rfl rfl (qib _ rfl qcU (.oc rfl (.oc rfl .nil)) (by exact (pf0 _)) (qcw _ _ _ _ _ _ _ h20)) ?_
        refine qa 1 rfl (qb (qe (zg 3 20 (rd rfl (qbl rfl qgU (.oc rfl (.oc rfl .nil)) (.cons rfl rfl rfl (.cons rfl rfl rfl (.nil _)))) (ew rfl (qaJ rfl qfl) ?_)))))
        rintro _ _ ⟨b11_20, rfl, rfl⟩
        refine qcr rfl (pf0 _) (qb (qf 5 rfl ?_))
        obtain ⟨kk3, hkk3, hr⟩ := exK (fun k => qL k a12 c_0_0 c_0_1 r20 fuel true 0 (⟨1, 1⟩ : qi)) hr
        refine qx (fun env σ => ∃ (d25 : Bool) (x26 : qi), env = [(0, .ref b_o0 0 []), (4, .arr b20_1 2 0 n_1), (5, .int .i64 l10), (7, .int .i64 l6), (8, .int .i64 (i11 : Int)), (9, .int .i64 q_17), (11, .ref b11_20 0 []), (12, .bool d25)] ∧ σ = [.cell b_o0 (.agg [.own u_o1 (c_0_0.map qc), .vec u_o2 c_0_1.length]), .row u_o1 c_0_0.length 215 4, .vec u_o2 (c_0_1.map (D.int .i64)) 3 1, .arr b20_1 (a12.map qt) 217 2, .cell b11_20 (qt x26)] ∧ a12.length = n_1 ∧ kk3 d25 x26 = some res) ?_ (fun HK3 => ?_)
        ·
         rintro _ _ ⟨d25, x26, rfl, rfl, hl_a_12, hr⟩
         rw [hkk3] at hr
         refine qf 2 rfl ?_
         refine zh 128 rfl hr (fun h128_26 hr => ?_) (fun h128_26 hr => ?_)
         ·
          refine qO rfl (qe (zg 5 288 (qa 2 rfl (qcD 4 rfl ?_))))
          have hq_18_n := (qb6 h18).2
          refine rd rfl (ql4 a12 rfl qdd rfl rfl h18 hl_a_12) (qgZ rfl rfl rfl (qyz _ rfl rfl rfl (Wk.refl _) (pf3 _ _ _ _ _) (zay hq_18_n) rfl rfl rfl (by exact qew) (qce _) (qce _) rfl) (zaq [.arr b20_1 ((a12.set q_17.toNat x26).map qt) 217 2, .cell b_o0 (.agg [.own u_o1 (c_0_0.map qc), .vec u_o2 c_0_1.length]), .row u_o1 c_0_0.length 215 4, .vec u_o2 (c_0_1.map (D.int .i64)) 3 1, .cell b11_20 (qt x26)] (by simp [List.map_set, qq2]) (qb (qg 3 (qa 1 rfl (rd rfl (qeF rfl rfl rfl rfl) (qa 1 rfl (qb (qaa (qg 3 (qa 1 rfl (qaj rfl (qa 1 rfl ?_)))))))))))))
          refine qb (qm [0, 4, 7, 5, 8] rfl (qcA [_, _, _, _] _ (pS [0, 3, 3, 3] _) ?_))
          exact IH2 _ _ _ (by omega) ⟨(wr (l10 - (1 : Int))), (i11 + 1), (a12.set q_17.toNat x26), rfl, rfl, rfl, (List.length_set.trans hl_a_12), (by omega), hr⟩
         ·
          refine qf 3 rfl (qg 3 (qa 1 rfl (qaj rfl (qa 1 rfl (qb (qm [0, 4, 7, 5, 8] rfl (qcA [_, _, _, _] _ (pf0 _) ?_)))))))
          exact IH2 _ _ _ (by omega) ⟨l10, (i11 + 1), a12, rfl, rfl, rfl, hl_a_12, (by omega), hr⟩
        ·
         refine qm [0, 4, 5, 7, 8, 9, 10, 11, 12, 13] rfl (qcA [_, _, _, _, _] _ (pS [0, 4, 4, 4, 4] _) (q9 (fun n env σ => ∃ (d22 : Bool) (j23 : Int) (x24 : qi) (n3 : Nat), (n3 = n) ∧ (env = [(0, .ref b_o0 0 []), (4, .arr b20_1 2 0 n_1), (5, .int .i64 l10), (7, .int .i64 l6), (8, .int .i64 (i11 : Int)), (9, .int .i64 q_17), (10, .int .i64 r20), (11, .ref b11_20 0 []), (12, .bool d22), (13, .int .i64 j23)]) ∧ (σ = [.cell b_o0 (.agg [.own u_o1 (c_0_0.map qc), .vec u_o2 c_0_1.length]), .row u_o1 c_0_0.length 215 4, .vec u_o2 (c_0_1.map (D.int .i64)) 3 1, .arr b20_1 (a12.map qt) 217 2, .cell b11_20 (qt x24)]) ∧ (a12.length = n_1) ∧ (qL kk3 a12 c_0_0 c_0_1 r20 n3 d22 j23 x24 = some res)) _ ⟨true, 0, (⟨1, 1⟩ : qi), _, rfl, rfl, rfl, hl_a_12, hr⟩ ?_))
         rintro n _ _ ⟨d22, j23, x24, n3, rfl, rfl, rfl, hl_a_12, hr⟩ IH3
         cases n3 with
         | zero => rw [qL] at hr; cases hr
         | succ n3 =>
          rw [qL] at hr
          refine qe (qe (zg 15 32768 (qa 3 rfl ?_)))
          refine zq 72 rfl hr (fun h72_27 hr => ?_) (fun h72_27 hr => ?_)
          ·
           refine qa 2 rfl (rd rfl (qP rfl rfl) (rd rfl (qr rfl qo rfl) (qcD 0 rfl (qa 1 rfl ?_))))
           obtain ⟨q_29, h29, hr⟩ := za hr
           refine qN h29 rfl (qa 2 rfl (qz rfl (qa 2 rfl (qb ?_))))
           refine zh 84 rfl hr (fun h84_29 hr => ?_) (fun h84_29 hr => ?_)
           ·
            refine qf 5 rfl ?_
            obtain ⟨q32, h32, hr⟩ := za hr
            obtain ⟨q_33, h33, hr⟩ := za hr
            obtain ⟨q_34, h34, hr⟩ := za hr
            have hq_33_n := (qb6 h33).2
            have hq_34_n := (qb6 h34).2
            refine qsv (by kernel_rfl) (by kernel_rfl) [(0, .d), (1, .d), (2, .d), (3, .d), (5, .d), (6, .d), (7, .d), (9, .d), (13, .d)] (.cons 4 [] (.cons 8 [(10, .d), (11, .d), (12, .d), (14, .d), (15, .d)] (.cons 16 [] (.cons 17 [(18, .d)] (.cons 19 [] (.cons 20 [] (.cons 21 [] .nil .nil) .nil) (.cons 20 [] (.cons 19 [] (.cons 21 [] .nil .nil) .nil) .nil)) (.cons 20 [] (.cons 17 [(18, .d)] (.cons 19 [] (.cons 21 [] .nil .nil) .nil) .nil) .nil)) (.cons 20 [] (.cons 16 [] (.cons 17 [(18, .d)] (.cons 19 [] (.cons 21 [] .nil .nil) .nil) .nil) .nil) .nil)) (.cons 20 [] (.cons 8 [(10, .d), (11, .d), (12, .d), (14, .d), (15, .d)] (.cons 16 [] (.cons 17 [(18, .d)] (.cons 19 [] (.cons 21 [] .nil .nil) .nil) .nil) .nil) .nil) .nil)) (.cons 8 [(10, .d), (11, .d), (12, .d), (14, .d), (15, .d)] (.cons 4 [] (.cons 16 [] (.cons 17 [(18, .d)] (.cons 19 [] (.cons 20 [] (.cons 21 [] .nil .nil) .nil) (.cons 20 [] (.cons 19 [] (.cons 21 [] .nil .nil) .nil) .nil)) (.cons 20 [] (.cons 17 [(18, .d)] (.cons 19 [] (.cons 21 [] .nil .nil) .nil) .nil) .nil)) (.cons 20 [] (.cons 16 [] (.cons 17 [(18, .d)] (.cons 19 [] (.cons 21 [] .nil .nil) .nil) .nil) .nil) .nil)) (.cons 20 [] (.cons 4 [] (.cons 16 [] (.cons 17 [(18, .d)] (.cons 19 [] (.cons 21 [] .nil .nil) .nil) .nil) .nil) .nil) .nil)) (.cons 20 [] (.cons 4 [] (.cons 8 [(10, .d), (11, .d), (12, .d), (14, .d), (15, .d)] (.cons 16 [] (.cons 17 [(18, .d)] (.cons 19 [] (.cons 21 [] .nil .nil) .nil) .nil) .nil) .nil) (.cons 8 [(10, .d), (11, .d), (12, .d), (14, .d), (15, .d)] (.cons 4 [] (.cons 16 [] (.cons 17 [(18, .d)] (.cons 19 [] (.cons 21 [] .nil .nil) .nil) .nil) .nil) .nil) .nil)) .nil))) (by kernel_rfl) (fun env σ => ∃ (b14_r21_30 : Nat), Sub [(0, .ref b_o0 0 []), (4, .arr b20_1 2 0 n_1), (5, .int .i64 l10), (7, .int .i64 l6), (8, .int .i64 (i11 : Int)), (9, .int .i64 q_17), (10, .int .i64 r20), (11, .ref b11_20 0 []), (12, .bool d22), (13, .int .i64 j23), (14, .ref b14_r21_30 0 [])] env ∧ σ.Perm [.cell b14_r21_30 (qt q_34), .cell b_o0 (.agg [.own u_o1 (c_0_0.map qc), .vec u_o2 c_0_1.length]), .row u_o1 c_0_0.length 215 4, .vec u_o2 (c_0_1.map (D.int .i64)) 3 1, .arr b20_1 (a12.map qt) 217 2, .cell b11_20 (qt x24)]) ?_ ?_
            ·
             repeat' (first | exact p_no | refine qwQ ?_ ?_ | refine qb ?_ | refine qa 1 rfl ?_ | refine rd rfl (qP rfl rfl) ?_ | refine rd rfl (qr rfl q0 rfl) ?_ | refine rd rfl (qr rfl qo rfl) ?_ | refine za4 0 rfl ?_ | refine za4 0 rfl ?_ | refine qN h29 rfl ?_ | refine qN h32 rfl ?_ | refine zbh rfl rfl rfl (qfm (f := (D.int .i64)) c_0_1 rfl qc7 rfl rfl h33 (.tail _ (.tail _ (.head _)))) ?_ | refine zbh rfl rfl rfl (qi6 rfl rfl (.tail _ (.tail _ (.head _))) (zay hq_33_n) rfl rfl (by exact qgQ) rfl) ?_ | refine rd rfl (ql4 a12 rfl qdd rfl rfl h34 hl_a_12) ?_ | refine zbh rfl rfl rfl (qs8 rfl rfl (.tail _ (.tail _ (.tail _ (.head _)))) (zay hq_34_n) rfl rfl (by exact qew) (qce _)) ?_ | (refine ew rfl (qaJ rfl qfl) ?_; rintro _ _ ⟨b, rfl, rfl⟩) | refine qcr rfl (pf0 _) ?_ | refine zbh rfl rfl rfl (qs8 rfl rfl (.tail _ (.tail _ (.tail _ (.tail _ (.head _))))) (zay hq_34_n) rfl rfl (by exact qew) (qce _)) ?_ | refine zbh rfl rfl rfl (qi6 rfl rfl (.tail _ (.tail _ (.tail _ (.head _)))) (zay hq_33_n) rfl rfl (by exact qgQ) rfl) ?_ | refine zbh rfl rfl rfl (qfm (f := (D.int .i64)) c_0_1 rfl qc7 rfl rfl h33 (.tail _ (.tail _ (.tail _ (.head _))))) ?_ | refine za4 1 rfl ?_ | (refine qvY ?_; exact ⟨_, sbr rfl, pkz⟩))
            ·
             rintro _ _ ⟨b14_r21_30, hs, hp⟩
             refine qoo hs hp (qaR 14 b14_r21_30 rfl (pf0 _) (qe (qg 7 (qa 2 rfl ?_))))
             refine zq 108 rfl hr (fun h108_34 hr => ?_) (fun h108_34 hr => ?_)
             ·
              refine qa 5 rfl (qb (qe (zg 8 16392 (rd rfl (qr rfl qcJ rfl) (qcD 4 rfl (qa 2 rfl (rd rfl (qeF rfl rfl rfl rfl) (rd rfl (qyt rfl rfl rfl) (rd rfl (qr rfl qcJ rfl) (qgZ rfl rfl rfl (qeM _ rfl rfl rfl (Wk.refl _) (pf4 _ _ _ _ _ _) rfl rfl (by exact qgQ) rfl rfl rfl) (qb (zg 9 65544 (rd rfl (qr rfl qde rfl) ?_)))))))))))))
              refine qcD 0 rfl (qa 2 rfl (rd rfl (qeF rfl rfl rfl rfl) (rd rfl (qBM rfl rfl rfl) (rd rfl (qyt rfl rfl rfl) (rd rfl (qr rfl qde rfl) (qgZ rfl rfl rfl (qeM _ rfl rfl rfl (Wk.refl _) (pf0 _) rfl rfl (by exact qgQ) rfl rfl rfl) (qb (qaa (qg 3 (qa 1 rfl (rd rfl (qeF rfl rfl rfl rfl) (qa 1 rfl (qb ?_)))))))))))))
              refine qm [0, 4, 5, 7, 8, 9, 10, 11, 12, 13] rfl (qcA [_, _, _, _, _] _ (pS [0, 4, 4, 4, 4] _) ?_)
              exact IH3 _ _ _ (by omega) ⟨(decide (q_34.f0_Size > (0 : Int))), (wr (j23 + (1 : Int))), (⟨(yu (wr (x24.f0_Size + q_34.f0_Size)) (201 : Int)), (yu (zak x24.f1_Depth (wr (q_34.f1_Depth + (1 : Int)))) (21 : Int))⟩ : qi), _, rfl, rfl, rfl, hl_a_12, hr⟩
             ·
              refine qa 5 rfl (qb (qe (zg 8 16392 (rd rfl (qr rfl qcJ rfl) (qcD 4 rfl (qa 2 rfl (rd rfl (qeF rfl rfl rfl rfl) (rd rfl (qyt rfl rfl rfl) (rd rfl (qr rfl qcJ rfl) (qgZ rfl rfl rfl (qeM _ rfl rfl rfl (Wk.refl _) (pf4 _ _ _ _ _ _) rfl rfl (by exact qgQ) rfl rfl rfl) (qb (zg 9 65544 (rd rfl (qr rfl qde rfl) ?_)))))))))))))
              refine qcD 0 rfl (qa 2 rfl (rd rfl (qeF rfl rfl rfl rfl) (rd rfl (qBM rfl rfl rfl) (rd rfl (qyt rfl rfl rfl) (rd rfl (qr rfl qde rfl) (qgZ rfl rfl rfl (qeM _ rfl rfl rfl (Wk.refl _) (pf0 _) rfl rfl (by exact qgQ) rfl rfl rfl) (qb (qaa (qg 3 (qa 1 rfl (rd rfl (qeF rfl rfl rfl rfl) (qa 1 rfl (qb ?_)))))))))))))
              refine qm [0, 4, 5, 7, 8, 9, 10, 11, 12, 13] rfl (qcA [_, _, _, _, _] _ (pS [0, 4, 4, 4, 4] _) ?_)
              exact IH3 _ _ _ (by omega) ⟨false, (wr (j23 + (1 : Int))), (⟨(yu (wr (x24.f0_Size + q_34.f0_Size)) (201 : Int)), (yu (zak x24.f1_Depth (wr (q_34.f1_Depth + (1 : Int)))) (21 : Int))⟩ : qi), _, rfl, rfl, rfl, hl_a_12, hr⟩
           ·
            refine qA rfl (qQ rfl (qm [0, 4, 5, 7, 8, 9, 11, 12] rfl ?_))
            exact HK3 _ _ ⟨d22, x24, rfl, rfl, hl_a_12, hr⟩
          ·
           refine qa 12 rfl (qb (qA rfl (qQ rfl (qm [0, 4, 5, 7, 8, 9, 11, 12] rfl ?_))))
           exact HK3 _ _ ⟨d22, x24, rfl, rfl, hl_a_12, hr⟩
    ·
     refine qA rfl (qQ rfl (qm [4] rfl (qcA [_, _, _, _] _ (pS [2, 2, 2, 3] _) ?_)))
     exact HK1 _ _ ⟨a7, rfl, rfl, hl_a_7, hr⟩
 ·
  refine qm [0, 4, 5, 6] rfl (qcA [_, _, _, _] _ (pS [0, 3, 3, 3] _) (q9 (fun n env σ => ∃ (l3 : Int) (i4 : Nat), (n = c_0_0.length - i4) ∧ (env = [(0, .ref b_o0 0 []), (4, .arr b20_1 2 0 n_1), (5, .int .i64 l3), (6, .int .i64 (i4 : Int))]) ∧ (σ = [.cell b_o0 (.agg [.own u_o1 (c_0_0.map qc), .vec u_o2 c_0_1.length]), .row u_o1 c_0_0.length 215 4, .vec u_o2 (c_0_1.map (D.int .i64)) 3 1, .arr b20_1 ((List.replicate n_1 (⟨0, 0⟩ : qi)).map qt) 217 2]) ∧ (i4 ≤ c_0_0.length) ∧ (qT kk0 c_0_1 (c_0_0.drop i4) l3 i4 = some res)) _ ⟨0, 0, rfl, rfl, rfl, jc _, hr⟩ ?_))
  rintro n _ _ ⟨l3, i4, rfl, rfl, rfl, hi0, hr⟩ IH0
  rcases zb c_0_0 i4 hi0 with ⟨ht0, hd0, he0⟩ | ⟨q_36, ht0, hd0, hq0, hlt0⟩
  ·
   rw [hd0, qT] at hr
   refine qe (qe (zg 7 512 (qa 2 rfl (rd rfl (qP rfl rfl) (rd rfl (qr rfl qo rfl) (qcD 0 rfl (qz rfl (qa 1 rfl (qb (qk 27 false rfl ht0 (qA rfl (qQ rfl (qm [0, 4, 5] rfl ?_)))))))))))))
   exact HK0 _ _ ⟨l3, rfl, rfl, hr⟩
  ·
   rw [hd0, qT] at hr
   refine qe (qe (zg 7 512 (qa 2 rfl (rd rfl (qP rfl rfl) (rd rfl (qr rfl qo rfl) (qcD 0 rfl (qz rfl (qa 1 rfl (qb (qk 27 true rfl ht0 (qf 5 rfl (zg 9 10368 (qa 1 rfl ?_)))))))))))))
   refine rd rfl (qP rfl rfl) (rd rfl (qr rfl q0 rfl) (qcD 0 rfl (qa 1 rfl ?_)))
   obtain ⟨q_37, h37, hr⟩ := za hr
   have hq_37_n := (qb6 h37).2
   refine r_r rfl rfl rfl (qfm (f := (D.int .i64)) c_0_1 rfl qc7 rfl rfl h37 (.tail _ (.tail _ (.head _)))) (r_r rfl rfl rfl (qi6 rfl rfl (.tail _ (.tail _ (.head _))) (zay hq_37_n) rfl rfl (by exact qgQ) rfl) (qa 2 rfl (qb ?_)))
   refine zh 38 rfl hr (fun h38_37 hr => ?_) (fun h38_37 hr => ?_)
   ·
    refine qO rfl (qg 3 (qa 1 rfl (rd rfl (qeF rfl rfl rfl rfl) (qa 1 rfl (qb (qaa (qg 3 (qa 1 rfl (qaj rfl (qa 1 rfl (qb (qm [0, 4, 5, 6] rfl ?_))))))))))))
    exact IH0 _ _ _ (by omega) ⟨(wr (l3 + (1 : Int))), (i4 + 1), rfl, rfl, rfl, (by omega), hr⟩
   ·
    refine qf 3 rfl (qg 3 (qa 1 rfl (qaj rfl (qa 1 rfl (qb (qm [0, 4, 5, 6] rfl ?_))))))
    exact IH0 _ _ _ (by omega) ⟨l3, (i4 + 1), rfl, rfl, rfl, (by omega), hr⟩
def qv (k : Int → Option Int) (c_0_1 : List Int) (a1 : Int) : List qd → Int → Nat → Option Int
 | [], v1, i2 =>
 (k v1)
 | q_4 :: rest, v1, i2 =>
 ((zj c_0_1 (i2 : Int)).bind fun q_5 =>
 (bif (q_5 == a1) then
 (bif (q_4.f0_Kind == (1 : Int)) then
 (bif (decide (v1 < (0 : Int))) then
 (qv k c_0_1 a1 rest q_4.f1_Int (i2 + 1))
 else
 (bif (decide (q_4.f1_Int < v1)) then
 (qv k c_0_1 a1 rest q_4.f1_Int (i2 + 1))
 else
 (qv k c_0_1 a1 rest v1 (i2 + 1))))
 else
 (qv k c_0_1 a1 rest v1 (i2 + 1)))
 else
 (qv k c_0_1 a1 rest v1 (i2 + 1))))
def qbk (a1 : Int) (c_0_0 : List qd) (c_0_1 : List Int) : Option Int :=
 (qv (fun v3 =>
 some (v3)) c_0_1 a1 c_0_0 (-1) 0)
theorem qfg (a1 : Int) (c_0_0 : List qd) (c_0_1 : List Int) (b_o0 : Nat) (u_o1 : Value) (u_o2 : Value) (res : Int) (hr : qbk a1 c_0_0 c_0_1 = some res) : Spec Tryz.prog 168 [.ref b_o0 0 [], .int .i64 a1] [.cell b_o0 (.agg [.own u_o1 (c_0_0.map qc), .vec u_o2 c_0_1.length]), .row u_o1 c_0_0.length 215 4, .vec u_o2 (c_0_1.map (D.int .i64)) 3 1] (fun d σ => d = .int .i64 res ∧ σ = [.cell b_o0 (.agg [.own u_o1 (c_0_0.map qc), .vec u_o2 c_0_1.length]), .row u_o1 c_0_0.length 215 4, .vec u_o2 (c_0_1.map (D.int .i64)) 3 1]) := by
 unfold qbk at hr
 refine qY Tryz.func168 rfl fun K hK => (qf 7 rfl ?_)
 obtain ⟨kk0, hkk0, hr⟩ := exK (fun k => qv k c_0_1 a1 c_0_0 (-1) 0) hr
 refine quf [0] (l := c_0_0.map qc) (.head _) (by first | rfl | simp [yR, qdQ]) (asl rfl) fun hla0 => ?_
 simp only [jb] at hla0
 refine qx (fun env σ => ∃ (v3 : Int), env = [(5, .int .i64 v3)] ∧ σ = [.cell b_o0 (.agg [.own u_o1 (c_0_0.map qc), .vec u_o2 c_0_1.length]), .row u_o1 c_0_0.length 215 4, .vec u_o2 (c_0_1.map (D.int .i64)) 3 1] ∧ kk0 v3 = some res) ?_ (fun HK0 => ?_)
 ·
  rintro _ _ ⟨v3, rfl, rfl, hr⟩
  rw [hkk0] at hr
  refine qf 2 rfl ?_
  cases hr
  refine qu Tryz.func168 rfl ?_
  exact ⟨rfl, rfl⟩
 ·
  refine qm [0, 1, 5, 6] rfl (q9 (fun n env σ => ∃ (v1 : Int) (i2 : Nat), (n = c_0_0.length - i2) ∧ (env = [(0, .ref b_o0 0 []), (1, .int .i64 a1), (5, .int .i64 v1), (6, .int .i64 (i2 : Int))]) ∧ (σ = [.cell b_o0 (.agg [.own u_o1 (c_0_0.map qc), .vec u_o2 c_0_1.length]), .row u_o1 c_0_0.length 215 4, .vec u_o2 (c_0_1.map (D.int .i64)) 3 1]) ∧ (i2 ≤ c_0_0.length) ∧ (qv kk0 c_0_1 a1 (c_0_0.drop i2) v1 i2 = some res)) _ ⟨(-1), 0, rfl, rfl, rfl, jc _, hr⟩ ?_)
  rintro n _ _ ⟨v1, i2, rfl, rfl, rfl, hi0, hr⟩ IH0
  rcases zb c_0_0 i2 hi0 with ⟨ht0, hd0, he0⟩ | ⟨q_4, ht0, hd0, hq0, hlt0⟩
  ·
   rw [hd0, qv] at hr
   refine qe (qe (zg 7 512 (qa 2 rfl (rd rfl (qP rfl rfl) (rd rfl (qr rfl qo rfl) (qcD 0 rfl (qz rfl (qa 1 rfl (qb (qk 13 false rfl ht0 (qA rfl (qQ rfl (qm [5] rfl ?_)))))))))))))
   exact HK0 _ _ ⟨v1, rfl, rfl, hr⟩
  ·
   rw [hd0, qv] at hr
   refine qe (qe (zg 7 512 (qa 2 rfl (rd rfl (qP rfl rfl) (rd rfl (qr rfl qo rfl) (qcD 0 rfl (qz rfl (qa 1 rfl (qb (qk 13 true rfl ht0 (qf 5 rfl (zg 36 36028797153192064 (qa 1 rfl ?_)))))))))))))
   refine rd rfl (qP rfl rfl) (rd rfl (qr rfl q0 rfl) (qcD 0 rfl (qa 1 rfl ?_)))
   obtain ⟨q_5, h5, hr⟩ := za hr
   have hq_5_n := (qb6 h5).2
   refine r_r rfl rfl rfl (qfm (f := (D.int .i64)) c_0_1 rfl qc7 rfl rfl h5 (.tail _ (.tail _ (.head _)))) (r_r rfl rfl rfl (qi6 rfl rfl (.tail _ (.tail _ (.head _))) (zay hq_5_n) rfl rfl (by exact qgQ) rfl) (qa 3 rfl ?_))
   refine zq 25 rfl hr (fun h25_5 hr => ?_) (fun h25_5 hr => ?_)
   ·
    refine qa 1 rfl (rd rfl (qP rfl rfl) (rd rfl (qr rfl qo rfl) (qcD 0 rfl (qa 1 rfl (qN hq0 rfl (qa 5 rfl ?_))))))
    refine zq 36 rfl hr (fun h36_6 hr => ?_) (fun h36_6 hr => ?_)
    ·
     refine qa 3 rfl ?_
     refine zq 39 rfl hr (fun h39_7 hr => ?_) (fun h39_7 hr => ?_)
     ·
      refine qa 12 rfl (qb (qO rfl (zg 9 128 (qa 1 rfl (rd rfl (qP rfl rfl) (rd rfl (qr rfl qo rfl) (qcD 0 rfl (qa 1 rfl (qN hq0 rfl (qa 3 rfl (qb (qaa (qg 3 ?_)))))))))))))
      refine qa 1 rfl (qaj rfl (qa 1 rfl (qb (qm [0, 1, 5, 6] rfl ?_))))
      exact IH0 _ _ _ (by omega) ⟨q_4.f1_Int, (i2 + 1), rfl, rfl, rfl, (by omega), hr⟩
     ·
      refine qa 1 rfl (rd rfl (qP rfl rfl) (rd rfl (qr rfl qo rfl) (qcD 0 rfl (qa 1 rfl (qN hq0 rfl (qa 6 rfl (qb ?_)))))))
      refine zh 51 rfl hr (fun h51_8 hr => ?_) (fun h51_8 hr => ?_)
      ·
       refine qO rfl (zg 9 128 (qa 1 rfl (rd rfl (qP rfl rfl) (rd rfl (qr rfl qo rfl) (qcD 0 rfl (qa 1 rfl (qN hq0 rfl (qa 3 rfl (qb (qaa (qg 3 (qa 1 rfl (qaj rfl ?_)))))))))))))
       refine qa 1 rfl (qb (qm [0, 1, 5, 6] rfl ?_))
       exact IH0 _ _ _ (by omega) ⟨q_4.f1_Int, (i2 + 1), rfl, rfl, rfl, (by omega), hr⟩
      ·
       refine qf 3 rfl (qg 3 (qa 1 rfl (qaj rfl (qa 1 rfl (qb (qm [0, 1, 5, 6] rfl ?_))))))
       exact IH0 _ _ _ (by omega) ⟨v1, (i2 + 1), rfl, rfl, rfl, (by omega), hr⟩
    ·
     refine qa 15 rfl (qb (qf 3 rfl (qg 3 (qa 1 rfl (qaj rfl (qa 1 rfl (qb (qm [0, 1, 5, 6] rfl ?_))))))))
     exact IH0 _ _ _ (by omega) ⟨v1, (i2 + 1), rfl, rfl, rfl, (by omega), hr⟩
   ·
    refine qa 26 rfl (qb (qf 3 rfl (qg 3 (qa 1 rfl (qaj rfl (qa 1 rfl (qb (qm [0, 1, 5, 6] rfl ?_))))))))
    exact IH0 _ _ _ (by omega) ⟨v1, (i2 + 1), rfl, rfl, rfl, (by omega), hr⟩
def qC (k : Int → Int → ByteArray → List T → Option T) (rec : Int → List qd → List Int → Option T) (c_0_0 : List qd) (c_0_1 : List Int) (q_6 : qd) : Nat → Int → Int → Int → ByteArray → List T → Option T
 | 0, i8, t9, t10, t11, t12 =>
 none
 | rest + 1, i8, t9, t10, t11, t12 =>
 (bif (decide (i8 < (q_6.f3_Kids.length : Int))) then
 ((zj q_6.f3_Kids i8).bind fun q_19 =>
 ((zj c_0_1 q_19).bind fun q20 =>
 ((rec q20 c_0_0 c_0_1).bind fun r21 =>
 ((zN 56 t12 [r21]).bind fun l22 =>
 (qC k rec c_0_0 c_0_1 q_6 rest (wr (i8 + (1 : Int))) t9 t10 t11 l22)))))
 else
 (k t9 t10 t11 t12))
def qF : Nat → Int → List qd → List Int → Option T
 | 0, _, _, _ => none
 | fuel + 1, a1, c_0_0, c_0_1 =>
  (fun (rec : Int → List qd → List Int → Option T) =>
   ((qI a1 c_0_0 c_0_1).bind fun r2 =>
   (bif (decide (r2 < (0 : Int))) then
   ((qbk a1 c_0_0 c_0_1).bind fun r4 =>
   some ((T.mk 1 r4 ⟨#[]⟩ [])))
   else
   ((zj c_0_0 r2).bind fun q_6 =>
   (qC (fun t14 t15 t16 t17 =>
   some ((T.mk t14 t15 t16 t17))) rec c_0_0 c_0_1 q_6 fuel 0 q_6.f0_Kind q_6.f1_Int q_6.f2_Name []))))) (qF fuel)
theorem qhE (fuel : Nat) (rec : Int → List qd → List Int → Option T) (IHR : ∀ (a1 : Int) (c_0_0 : List qd) (c_0_1 : List Int) (b_o0 : Nat) (u_o1 : Value) (u_o2 : Value) (res : T), rec a1 c_0_0 c_0_1 = some res → Spec Tryz.prog 169 [.ref b_o0 0 [], .int .i64 a1] [.cell b_o0 (.agg [.own u_o1 (c_0_0.map qc), .vec u_o2 c_0_1.length]), .row u_o1 c_0_0.length 215 4, .vec u_o2 (c_0_1.map (D.int .i64)) 3 1] (fun d σ => d = zi res ∧ σ = [.cell b_o0 (.agg [.own u_o1 (c_0_0.map qc), .vec u_o2 c_0_1.length]), .row u_o1 c_0_0.length 215 4, .vec u_o2 (c_0_1.map (D.int .i64)) 3 1])) (a1 : Int) (c_0_0 : List qd) (c_0_1 : List Int) (b_o0 : Nat) (u_o1 : Value) (u_o2 : Value) (res : T)
 (hr : ((qI a1 c_0_0 c_0_1).bind fun r2 =>
(bif (decide (r2 < (0 : Int))) then
((qbk a1 c_0_0 c_0_1).bind fun r4 =>
some ((T.mk 1 r4 ⟨#[]⟩ [])))
else
((zj c_0_0 r2).bind fun q_6 =>
(qC (fun t14 t15 t16 t17 =>
some ((T.mk t14 t15 t16 t17))) rec c_0_0 c_0_1 q_6 fuel 0 q_6.f0_Kind q_6.f1_Int q_6.f2_Name [])))) = some res) : Spec Tryz.prog 169 [.ref b_o0 0 [], .int .i64 a1] [.cell b_o0 (.agg [.own u_o1 (c_0_0.map qc), .vec u_o2 c_0_1.length]), .row u_o1 c_0_0.length 215 4, .vec u_o2 (c_0_1.map (D.int .i64)) 3 1] (fun d σ => d = zi res ∧ σ = [.cell b_o0 (.agg [.own u_o1 (c_0_0.map qc), .vec u_o2 c_0_1.length]), .row u_o1 c_0_0.length 215 4, .vec u_o2 (c_0_1.map (D.int .i64)) 3 1]) := by
 refine qY Tryz.func169 rfl fun K hK => (qe (zg 1 1 (ew rfl (qaJ rfl qc0) ?_)))
 rintro _ _ ⟨b4_0, rfl, rfl⟩
 refine qb (qe (zg 4 32 (qa 2 rfl ?_)))
 obtain ⟨r2, h2, hr⟩ := za hr
 refine r_r rfl rfl rfl (qib _ rfl qcU (.oc rfl (.oc rfl .nil)) (by exact (pS [3, 3, 3] _)) (qcw _ _ _ _ _ _ _ h2)) ?_
 refine qa 1 rfl (qb (qf 3 rfl ?_))
 refine zh 12 rfl hr (fun h12_2 hr => ?_) (fun h12_2 hr => ?_)
 ·
  refine qO rfl (qe (zg 5 288 (qa 2 rfl ?_)))
  obtain ⟨r4, h4, hr⟩ := za hr
  refine r_r rfl rfl rfl (qib _ rfl qfA (.oc rfl (.oc rfl .nil)) (by exact (pS [3, 3, 3] _)) (qfg _ _ _ _ _ _ _ h4)) ?_
  refine rd rfl (qbl rfl qeB (.oc rfl (.oc rfl .nil)) (.cons rfl rfl rfl (.cons rfl rfl rfl (.nil _)))) (qcr rfl (pf0 _) (qb (qaR 4 b4_0 rfl (pf0 _) ?_)))
  cases hr
  refine qbQ Tryz.func169 _ (.cons (zbB rfl (by exact qdC) rfl (Wk.refl _)) .nil) ?_
  exact ⟨(by first | rfl | (show _ = D.agg (fsT _); rw [qdQ] <;> rfl)), rfl⟩
 ·
  refine qf 3 rfl (qnL 71 4 ?_)
  obtain ⟨q_6, h6, hr⟩ := za hr
  refine qsv (by kernel_rfl) (by kernel_rfl) [(0, .d), (1, .d), (2, .d), (4, .d), (8, .d), (9, .d), (10, .d), (12, .d), (16, .d), (17, .d), (18, .d), (20, .d)] (.cons 3 [(5, .d), (6, .d), (7, .d)] (.cons 11 [(13, .d), (14, .d), (15, .d)] (.cons 19 [(21, .d), (22, .d), (23, .d), (24, .d)] (.cons 25 [] (.cons 26 [] .nil .nil) .nil) (.cons 25 [] (.cons 19 [(21, .d), (22, .d), (23, .d), (24, .d)] (.cons 26 [] .nil .nil) .nil) .nil)) (.cons 19 [(21, .d), (22, .d), (23, .d)] (.cons 11 [(13, .d), (14, .d), (15, .d), (24, .d)] (.cons 25 [] (.cons 26 [] .nil .nil) .nil) (.cons 25 [] (.cons 11 [(13, .d), (14, .d), (15, .d), (24, .d)] (.cons 26 [] .nil .nil) .nil) .nil)) (.cons 25 [] (.cons 11 [(13, .d), (14, .d), (15, .d)] (.cons 19 [(21, .d), (22, .d), (23, .d), (24, .d)] (.cons 26 [] .nil .nil) .nil) (.cons 19 [(21, .d), (22, .d), (23, .d)] (.cons 11 [(13, .d), (14, .d), (15, .d), (24, .d)] (.cons 26 [] .nil .nil) .nil) .nil)) .nil))) (.cons 11 [(13, .d), (14, .d), (15, .d)] (.cons 3 [(5, .d), (6, .d), (7, .d)] (.cons 19 [(21, .d), (22, .d), (23, .d), (24, .d)] (.cons 25 [] (.cons 26 [] .nil .nil) .nil) (.cons 25 [] (.cons 19 [(21, .d), (22, .d), (23, .d), (24, .d)] (.cons 26 [] .nil .nil) .nil) .nil)) (.cons 19 [(21, .d), (22, .d), (23, .d)] (.cons 3 [(5, .d), (6, .d), (7, .d), (24, .d)] (.cons 25 [] (.cons 26 [] .nil .nil) .nil) (.cons 25 [] (.cons 3 [(5, .d), (6, .d), (7, .d), (24, .d)] (.cons 26 [] .nil .nil) .nil) .nil)) (.cons 25 [] (.cons 3 [(5, .d), (6, .d), (7, .d)] (.cons 19 [(21, .d), (22, .d), (23, .d), (24, .d)] (.cons 26 [] .nil .nil) .nil) (.cons 19 [(21, .d), (22, .d), (23, .d)] (.cons 3 [(5, .d), (6, .d), (7, .d), (24, .d)] (.cons 26 [] .nil .nil) .nil) .nil)) .nil))) (.cons 19 [(21, .d), (22, .d), (23, .d)] (.cons 3 [(5, .d), (6, .d), (7, .d)] (.cons 11 [(13, .d), (14, .d), (15, .d), (24, .d)] (.cons 25 [] (.cons 26 [] .nil .nil) .nil) (.cons 25 [] (.cons 11 [(13, .d), (14, .d), (15, .d), (24, .d)] (.cons 26 [] .nil .nil) .nil) .nil)) (.cons 11 [(13, .d), (14, .d), (15, .d)] (.cons 3 [(5, .d), (6, .d), (7, .d), (24, .d)] (.cons 25 [] (.cons 26 [] .nil .nil) .nil) (.cons 25 [] (.cons 3 [(5, .d), (6, .d), (7, .d), (24, .d)] (.cons 26 [] .nil .nil) .nil) .nil)) (.cons 25 [] (.cons 3 [(5, .d), (6, .d), (7, .d)] (.cons 11 [(13, .d), (14, .d), (15, .d), (24, .d)] (.cons 26 [] .nil .nil) .nil) (.cons 11 [(13, .d), (14, .d), (15, .d)] (.cons 3 [(5, .d), (6, .d), (7, .d), (24, .d)] (.cons 26 [] .nil .nil) .nil) .nil)) .nil))) (.cons 25 [] (.cons 3 [(5, .d), (6, .d), (7, .d)] (.cons 11 [(13, .d), (14, .d), (15, .d)] (.cons 19 [(21, .d), (22, .d), (23, .d), (24, .d)] (.cons 26 [] .nil .nil) .nil) (.cons 19 [(21, .d), (22, .d), (23, .d)] (.cons 11 [(13, .d), (14, .d), (15, .d), (24, .d)] (.cons 26 [] .nil .nil) .nil) .nil)) (.cons 11 [(13, .d), (14, .d), (15, .d)] (.cons 3 [(5, .d), (6, .d), (7, .d)] (.cons 19 [(21, .d), (22, .d), (23, .d), (24, .d)] (.cons 26 [] .nil .nil) .nil) (.cons 19 [(21, .d), (22, .d), (23, .d)] (.cons 3 [(5, .d), (6, .d), (7, .d), (24, .d)] (.cons 26 [] .nil .nil) .nil) .nil)) (.cons 19 [(21, .d), (22, .d), (23, .d)] (.cons 3 [(5, .d), (6, .d), (7, .d)] (.cons 11 [(13, .d), (14, .d), (15, .d), (24, .d)] (.cons 26 [] .nil .nil) .nil) (.cons 11 [(13, .d), (14, .d), (15, .d)] (.cons 3 [(5, .d), (6, .d), (7, .d), (24, .d)] (.cons 26 [] .nil .nil) .nil) .nil)) .nil))) .nil)))) (by kernel_rfl) (fun env σ => ∃ (b6_r4_4 : Nat), Sub [(0, .ref b_o0 0 []), (4, .ref b4_0 0 []), (5, .int .i64 r2), (6, .ref b6_r4_4 0 [])] env ∧ σ.Perm [.cell b6_r4_4 (.agg [.int .i64 q_6.f0_Kind, .int .i64 q_6.f1_Int, .str q_6.f2_Name, .own (.slice none 0 0 ) ([].map zi)]), .row (.slice none 0 0 ) ([] : List D).length 71 4, .cell b4_0 (.agg [.int .i64 0, .int .i64 0, .str ⟨#[]⟩, .lst ([].map zi)]), .cell b_o0 (.agg [.own u_o1 (c_0_0.map qc), .vec u_o2 c_0_1.length]), .row u_o1 c_0_0.length 215 4, .vec u_o2 (c_0_1.map (D.int .i64)) 3 1]) ?_ ?_
  ·
   repeat' (first | exact p_no | refine qwQ ?_ ?_ | refine qb ?_ | refine qa 1 rfl ?_ | refine rd rfl (qP rfl rfl) ?_ | refine rd rfl (qr rfl qo rfl) ?_ | refine za4 2 rfl ?_ | refine qN h6 rfl ?_ | refine rd rfl (qbl rfl qq0 (.oc rfl (.oc rfl (.oc rfl .nil))) (.cons rfl rfl rfl (.cons rfl rfl rfl (.cons rfl rfl rfl (.nil _))))) ?_ | (refine ew rfl (qaJ rfl qc0) ?_; rintro _ _ ⟨b, rfl, rfl⟩) | refine qcr rfl (pf0 _) ?_ | refine za4 3 rfl ?_ | (refine qvY ?_; exact ⟨_, sbr rfl, pkz⟩))
  ·
   rintro _ _ ⟨b6_r4_4, hs, hp⟩
   refine qoo hs hp (qf 3 rfl ?_)
   obtain ⟨kk0, hkk0, hr⟩ := exK (fun k => qC k rec c_0_0 c_0_1 q_6 fuel 0 q_6.f0_Kind q_6.f1_Int q_6.f2_Name []) hr
   refine qx (fun env σ => ∃ (t14 : Int) (t15 : Int) (t16 : ByteArray) (t17 : List T) (u13 : Value), env = [(4, .ref b4_0 0 []), (6, .ref b6_r4_4 0 [])] ∧ σ = [.cell b4_0 (.agg [.int .i64 0, .int .i64 0, .str ⟨#[]⟩, .lst ([].map zi)]), .cell b6_r4_4 (.agg [.int .i64 t14, .int .i64 t15, .str t16, .own u13 (t17.map zi)]), .row u13 t17.length 71 4, .cell b_o0 (.agg [.own u_o1 (c_0_0.map qc), .vec u_o2 c_0_1.length]), .row u_o1 c_0_0.length 215 4, .vec u_o2 (c_0_1.map (D.int .i64)) 3 1] ∧ kk0 t14 t15 t16 t17 = some res) ?_ (fun HK0 => ?_)
   ·
    rintro _ _ ⟨t14, t15, t16, t17, u13, rfl, rfl, hr⟩
    rw [hkk0] at hr
    refine qe (zg 2 6 (qcD 1 rfl (qcr rfl (pf0 _) (qb (qaR 4 b4_0 rfl (pf0 _) (qcA [_, _, _] _ (pS [4, 4, 4] _) ?_))))))
    cases hr
    refine qbQ Tryz.func169 _ (.cons (zbB rfl (by exact qdC) rfl (Wk.agg (.cons (Wk.refl _) (.cons (Wk.refl _) (.cons (Wk.refl _) (.cons (Wk.own _ _) .nil)))))) .nil) ?_
    exact ⟨(by first | rfl | (show _ = D.agg (fsT _); rw [qdQ] <;> rfl)), rfl⟩
   ·
    refine qm [0, 4, 5, 6, 7] rfl (qcA [_, _, _, _, _, _] _ (pS [1, 1, 2, 5, 5, 5] _) (q9 (fun n env σ => ∃ (i8 : Int) (t9 : Int) (t10 : Int) (t11 : ByteArray) (t12 : List T) (u7 : Value) (n0 : Nat), (n0 = n) ∧ (env = [(0, .ref b_o0 0 []), (4, .ref b4_0 0 []), (5, .int .i64 r2), (6, .ref b6_r4_4 0 []), (7, .int .i64 i8)]) ∧ (σ = [.cell b_o0 (.agg [.own u_o1 (c_0_0.map qc), .vec u_o2 c_0_1.length]), .row u_o1 c_0_0.length 215 4, .vec u_o2 (c_0_1.map (D.int .i64)) 3 1, .cell b4_0 (.agg [.int .i64 0, .int .i64 0, .str ⟨#[]⟩, .lst ([].map zi)]), .cell b6_r4_4 (.agg [.int .i64 t9, .int .i64 t10, .str t11, .own u7 (t12.map zi)]), .row u7 t12.length 71 4]) ∧ (qC kk0 rec c_0_0 c_0_1 q_6 n0 i8 t9 t10 t11 t12 = some res)) _ ⟨0, q_6.f0_Kind, q_6.f1_Int, q_6.f2_Name, [], (.slice none 0 0 ), _, rfl, rfl, rfl, hr⟩ ?_))
    rintro n _ _ ⟨i8, t9, t10, t11, t12, u7, n0, rfl, rfl, rfl, hr⟩ IH0
    cases n0 with
    | zero => rw [qC] at hr; cases hr
    | succ n0 =>
     rw [qC] at hr
     refine qe (qe (zg 11 512 (qa 2 rfl (rd rfl (qP rfl rfl) (rd rfl (qr rfl qo rfl) (qcD 0 rfl (qa 1 rfl (qN h6 rfl (qa 2 rfl (qz rfl (qa 1 rfl (qb ?_))))))))))))
     refine zh 52 rfl hr (fun h52_17 hr => ?_) (fun h52_17 hr => ?_)
     ·
      refine qf 4 rfl (qei 25 301953382883336 (rd rfl (qr rfl qcf rfl) (qcD 4 rfl (qa 2 rfl (rd rfl (qP rfl rfl) (rd rfl (qr rfl q0 rfl) (qcD 0 rfl (qa 1 rfl (rd rfl (qP rfl rfl) (rd rfl (qr rfl qo rfl) (qcD 0 rfl (qa 1 rfl (qN h6 rfl ?_)))))))))))))
      refine qa 3 rfl ?_
      obtain ⟨q_19, h19, hr⟩ := za hr
      refine qN h19 rfl (qa 1 rfl ?_)
      obtain ⟨q20, h20, hr⟩ := za hr
      have hq_20_n := (qb6 h20).2
      refine r_r rfl rfl rfl (qfm (f := (D.int .i64)) c_0_1 rfl qc7 rfl rfl h20 (.tail _ (.tail _ (.head _)))) (r_r rfl rfl rfl (qi6 rfl rfl (.tail _ (.tail _ (.head _))) (zay hq_20_n) rfl rfl (by exact qgQ) rfl) ?_)
      obtain ⟨r21, h21, hr⟩ := za hr
      refine r_r rfl rfl rfl (qib _ rfl qcW (.oc rfl (.oc rfl .nil)) (by exact (pf0 _)) (IHR _ _ _ _ _ _ _ h21)) ?_
      refine rd rfl (qeS (f := zi) [.tmp 75] [r21] rfl qam rfl rfl (by decide) (by decide) (.oc rfl .nil) qcl (fun _ => rfl)) ?_
      obtain ⟨l22, h22, hr⟩ := za hr
      refine ew rfl (qaK (f := zi) t12 [r21] rfl qam rfl rfl (asl rfl) (pf5 _ _ _ _ _ _ _) rfl qcl h22) ?_
      rintro _ _ ⟨u77_22, rfl, rfl⟩
      refine rd rfl (qr rfl qcf rfl) (qgZ rfl rfl rfl (qeM _ rfl rfl rfl (Wk.refl _) (pf5 _ _ _ _ _ _ _) rfl rfl (by exact qkN) rfl rfl rfl) (qb (qaa (qg 3 (qa 1 rfl (rd rfl (qeF rfl rfl rfl rfl) (qa 1 rfl (qb (qm [0, 4, 5, 6, 7] rfl (qcA [_, _, _, _, _, _] _ (pS [1, 1, 5, 5, 5, 5] _) ?_))))))))))
      exact IH0 _ _ _ (by omega) ⟨(wr (i8 + (1 : Int))), t9, t10, t11, l22, u77_22, _, rfl, rfl, rfl, hr⟩
     ·
      refine qA rfl (qQ rfl (qm [4, 6] rfl (qcA [_, _, _, _, _, _] _ (pS [2, 2, 2, 5, 5, 5] _) ?_)))
      exact HK0 _ _ ⟨t9, t10, t11, t12, u7, rfl, rfl, hr⟩
theorem qcE : ∀ (fuel : Nat) (a1 : Int) (c_0_0 : List qd) (c_0_1 : List Int) (b_o0 : Nat) (u_o1 : Value) (u_o2 : Value) (res : T), qF fuel a1 c_0_0 c_0_1 = some res → Spec Tryz.prog 169 [.ref b_o0 0 [], .int .i64 a1] [.cell b_o0 (.agg [.own u_o1 (c_0_0.map qc), .vec u_o2 c_0_1.length]), .row u_o1 c_0_0.length 215 4, .vec u_o2 (c_0_1.map (D.int .i64)) 3 1] (fun d σ => d = zi res ∧ σ = [.cell b_o0 (.agg [.own u_o1 (c_0_0.map qc), .vec u_o2 c_0_1.length]), .row u_o1 c_0_0.length 215 4, .vec u_o2 (c_0_1.map (D.int .i64)) 3 1])
 | 0, _, _, _, _, _, _, _, h => by cases h
 | fuel + 1, a1, c_0_0, c_0_1, b_o0, u_o1, u_o2, res, h => qhE fuel (qF fuel) (qcE fuel) a1 c_0_0 c_0_1 b_o0 u_o1 u_o2 res h
def qbs (k : Int → Option ((List (Int × T)) × Int)) (q27 : qd) : List (Int × T) → Nat → Option ((List (Int × T)) × Int)
 | [], k45 =>
 (k (k45 : Int))
 | q_59 :: rest, k45 =>
 (bif (decide (q_59.1 < q27.f1_Int)) then
 (qbs k q27 rest (k45 + 1))
 else
 (k (k45 : Int)))
def qbu (k : Int → Option ((List (Int × T)) × Int)) (q27 : qd) : List (Int × T) → Nat → Option ((List (Int × T)) × Int)
 | [], k73 =>
 (k (k73 : Int))
 | q_87 :: rest, k73 =>
 (bif (decide (q_87.1 < q27.f1_Int)) then
 (qbu k q27 rest (k73 + 1))
 else
 (k (k73 : Int)))
def q7 (k : ((List (Int × T))) → Option ((List (Int × T)) × Int)) (fuel : Nat) (r12 : (List qi) × Bool) : Nat → (List (Int × T)) → Int → List qd → List Int → Option ((List (Int × T)) × Int)
 | 0, o19, i20, g21, g22 =>
 none
 | rest + 1, o19, i20, g21, g22 =>
 (bif (decide (i20 < (g21.length : Int))) then
 ((zj g22 i20).bind fun q26 =>
 ((zj g21 i20).bind fun q27 =>
 (bif (q27.f0_Kind != (1 : Int)) then
 (q7 k fuel r12 rest o19 (wr (i20 + (1 : Int))) g21 g22)
 else
 ((qI q26 g21 g22).bind fun r29 =>
 (bif (decide (r29 < (0 : Int))) then
 ((qbk q26 g21 g22).bind fun r31 =>
 (bif (r31 == q27.f1_Int) then
 (q7 k fuel r12 rest o19 (wr (i20 + (1 : Int))) g21 g22)
 else
 ((zj r12.1 q26).bind fun q_33 =>
 (bif (decide (q_33.f0_Size > (200 : Int))) then
 some ([], 6)
 else
 (bif (decide (q_33.f1_Depth > (20 : Int))) then
 some ([], 6)
 else
 ((qF fuel q26 g21 g22).bind fun r39 =>
 (qbs (fun k48 =>
 ((yt o19 0 k48).bind fun l51 =>
 ((zN 64 [] l51).bind fun l52 =>
 ((zN 64 l52 [(q27.f1_Int, r39)]).bind fun l54 =>
 ((yt o19 k48 (o19.length : Int)).bind fun l56 =>
 ((zN 64 l54 l56).bind fun l57 =>
 (q7 k fuel r12 rest l57 (wr (i20 + (1 : Int))) g21 g22))))))) q27 o19 0)))))))
 else
 ((zj r12.1 q26).bind fun q61 =>
 (bif (decide (q61.f0_Size > (200 : Int))) then
 some ([], 6)
 else
 (bif (decide (q61.f1_Depth > (20 : Int))) then
 some ([], 6)
 else
 ((qF fuel q26 g21 g22).bind fun r67 =>
 (qbu (fun k76 =>
 ((yt o19 0 k76).bind fun l79 =>
 ((zN 64 [] l79).bind fun l80 =>
 ((zN 64 l80 [(q27.f1_Int, r67)]).bind fun l82 =>
 ((yt o19 k76 (o19.length : Int)).bind fun l84 =>
 ((zN 64 l82 l84).bind fun l85 =>
 (q7 k fuel r12 rest l85 (wr (i20 + (1 : Int))) g21 g22))))))) q27 o19 0))))))))))
 else
 (k o19))
def qS (k : List qd → List Int → Option ((List (Int × T)) × Int)) (a1 : List T) (fuel : Nat) : List T → Nat → List qd → List Int → Option ((List (Int × T)) × Int)
 | [], i5, t19_6, t19_7 =>
 (k t19_6 t19_7)
 | q_89 :: rest, i5, t19_6, t19_7 =>
 ((qai fuel q_89 t19_6 t19_7).bind fun r90 =>
 ((zj a1 (i5 : Int)).bind fun q93 =>
 ((qai fuel q93 r90.2.1 r90.2.2).bind fun r94 =>
 ((q8 fuel r90.1 r94.1 r94.2.1 r94.2.2).bind fun r97 =>
 (bif (!r97.1) then
 some ([], 13)
 else
 (qS k a1 fuel rest (i5 + 1) r97.2.1 r97.2.2))))))
def qb8 (fuel : Nat) (a0 : List T) (a1 : List T) : Option ((List (Int × T)) × Int) :=
 (qS (fun t19_10 t19_11 =>
 ((qbD fuel t19_10 t19_11).bind fun r12 =>
 (bif (!r12.2) then
 some ([], 13)
 else
 (q7 (fun o24 =>
 some (o24, 0)) fuel r12 fuel [] 0 t19_10 t19_11)))) a1 fuel a0 0 [] [])
theorem qki (fuel : Nat) (a0 : List T) (a1 : List T) (res : (List (Int × T)) × Int) (hr : qb8 fuel a0 a1 = some res) : zf Tryz.prog 158 [.lst (a0.map zi), .lst (a1.map zi)] (.tup [.lst (res.1.map zo), .int .i64 res.2]) := by
 unfold qb8 at hr
 refine qY Tryz.func158 rfl fun K hK => (qe (zg 2 1 (ew rfl (qab 92 5 (.inl rfl)) ?_)))
 rintro _ _ ⟨u4_0, rfl, rfl⟩
 refine qa 1 rfl (qb (qe (qnL 215 4 (qzf 3 1 (by decide) (zg 3 4 (rd rfl (qbl rfl qiE .nil (.nil _)) (ew rfl (qmD rfl rfl rfl) ?_)))))))
 rintro _ _ ⟨b19_1, rfl, rfl⟩
 refine qa 1 rfl (qb (qf 3 rfl ?_))
 obtain ⟨kk0, hkk0, hr⟩ := exK (fun k => qS k a1 fuel a0 0 [] []) hr
 refine qcq 0 rfl (asl rfl) fun hla0 => ?_
 simp only [jb] at hla0
 refine qx (fun env σ => ∃ (t19_10 : List qd) (t19_11 : List Int) (u8 : Value) (u9 : Value), env = [(6, .ref b19_1 0 [])] ∧ σ = [.cell b19_1 (.agg [.own u8 (t19_10.map qc), .vec u9 t19_11.length]), .row u8 t19_10.length 215 4, .vec u9 (t19_11.map (D.int .i64)) 3 1] ∧ kk0 t19_10 t19_11 = some res) ?_ (fun HK0 => ?_)
 ·
  rintro _ _ ⟨t19_10, t19_11, u8, u9, rfl, rfl, hr⟩
  rw [hkk0] at hr
  refine qe (zg 7 8 (qa 1 rfl ?_))
  obtain ⟨r12, h12, hr⟩ := za hr
  refine r_r rfl rfl rfl (qib _ rfl qhF (.oc rfl .nil) (by exact (pf0 _)) (qgX fuel _ _ _ _ _ _ h12)) ?_
  refine qa 5 rfl (qb (qf 3 rfl ?_))
  refine zh 49 rfl hr (fun h49_12 hr => ?_) (fun h49_12 hr => ?_)
  ·
   refine qO rfl (qe (zg 2 1 (ew rfl (qab 92 5 (.inl rfl)) ?_)))
   rintro _ _ ⟨u4_13, rfl, rfl⟩
   refine qa 1 rfl (qb ?_)
   cases hr
   refine qbQ Tryz.func158 _ (.cons (zd rfl (Wk.own _ _)) (.cons (zd rfl (Wk.refl _)) .nil)) ?_
   rfl
  ·
   refine qf 3 rfl (zg 1 1 (ew rfl (qab 92 5 (.inl rfl)) ?_))
   rintro _ _ ⟨u12_14, rfl, rfl⟩
   refine qb (qf 3 rfl ?_)
   obtain ⟨kk1, hkk1, hr⟩ := exK (fun k => q7 k fuel r12 fuel [] 0 t19_10 t19_11) hr
   refine qx (fun env σ => ∃ (o24 : List (Int × T)) (u23 : Value), env = [(12, .own u23 (o24.map zo))] ∧ σ = [.row u23 o24.length 92 5] ∧ kk1 o24 = some res) ?_ (fun HK1 => ?_)
   ·
    rintro _ _ ⟨o24, u23, rfl, rfl, hr⟩
    rw [hkk1] at hr
    refine qf 2 rfl ?_
    cases hr
    refine qbQ Tryz.func158 _ (.cons (zd rfl (Wk.own _ _)) (.cons (zd rfl (Wk.refl _)) .nil)) ?_
    rfl
   ·
    refine qm [6, 10, 12, 13] rfl (qcA [_, _, _, _] _ (pS [0, 3, 3, 3] _) (q9 (fun n env σ => ∃ (o19 : List (Int × T)) (i20 : Int) (g21 : List qd) (g22 : List Int) (u16 : Value) (u17 : Value) (u18 : Value) (n1 : Nat), (n1 = n) ∧ (env = [(6, .ref b19_1 0 []), (10, .lst (r12.1.map qt)), (12, .own u18 (o19.map zo)), (13, .int .i64 i20)]) ∧ (σ = [.cell b19_1 (.agg [.own u16 (g21.map qc), .vec u17 g22.length]), .row u16 g21.length 215 4, .vec u17 (g22.map (D.int .i64)) 3 1, .row u18 o19.length 92 5]) ∧ (q7 kk1 fuel r12 n1 o19 i20 g21 g22 = some res)) _ ⟨[], 0, t19_10, t19_11, u8, u9, u12_14, _, rfl, rfl, rfl, hr⟩ ?_))
    rintro n _ _ ⟨o19, i20, g21, g22, u16, u17, u18, n1, rfl, rfl, rfl, hr⟩ IH1
    cases n1 with
    | zero => rw [q7] at hr; cases hr
    | succ n1 =>
     rw [q7] at hr
     refine qe (qe (zg 7 512 (qa 2 rfl (rd rfl (qP rfl rfl) (rd rfl (qr rfl qo rfl) (qcD 0 rfl (qz rfl (qa 1 rfl (qb ?_)))))))))
     refine zh 56 rfl hr (fun h56_24 hr => ?_) (fun h56_24 hr => ?_)
     ·
      refine qf 5 rfl (zg 8 10368 (qa 1 rfl (rd rfl (qP rfl rfl) (rd rfl (qr rfl q0 rfl) (qcD 0 rfl (qa 1 rfl ?_))))))
      obtain ⟨q26, h26, hr⟩ := za hr
      have hq_26_n := (qb6 h26).2
      refine r_r rfl rfl rfl (qfm (f := (D.int .i64)) g22 rfl qc7 rfl rfl h26 (.tail _ (.tail _ (.head _)))) (r_r rfl rfl rfl (qi6 rfl rfl (.tail _ (.tail _ (.head _))) (zay hq_26_n) rfl rfl (by exact qgQ) rfl) (qa 1 rfl (qb (qe (qe (qei 29 8830486315136 (qa 1 rfl (rd rfl (qP rfl rfl) (rd rfl (qr rfl qo rfl) (qcD 0 rfl (qa 1 rfl ?_)))))))))))
      obtain ⟨q27, h27, hr⟩ := za hr
      refine qN h27 rfl (qa 4 rfl ?_)
      refine zq 75 rfl hr (fun h75_27 hr => ?_) (fun h75_27 hr => ?_)
      ·
       refine qa 19 rfl (qb (qO rfl (qQ rfl (qg 3 (qa 1 rfl (rd rfl (qeF rfl rfl rfl rfl) (qa 1 rfl (qb (qm [6, 10, 12, 13] rfl ?_)))))))))
       exact IH1 _ _ _ (by omega) ⟨o19, (wr (i20 + (1 : Int))), g21, g22, u16, u17, u18, _, rfl, rfl, rfl, hr⟩
      ·
       refine qa 2 rfl ?_
       obtain ⟨r29, h29, hr⟩ := za hr
       refine r_r rfl rfl rfl (qib _ rfl qcU (.oc rfl (.oc rfl .nil)) (by exact (pf0 _)) (qcw _ _ _ _ _ _ _ h29)) ?_
       refine qa 2 rfl ?_
       refine zq 80 rfl hr (fun h80_29 hr => ?_) (fun h80_29 hr => ?_)
       ·
        refine qa 2 rfl ?_
        obtain ⟨r31, h31, hr⟩ := za hr
        refine r_r rfl rfl rfl (qib _ rfl qfA (.oc rfl (.oc rfl .nil)) (by exact (pf0 _)) (qfg _ _ _ _ _ _ _ h31)) ?_
        refine qa 1 rfl (rd rfl (qP rfl rfl) (rd rfl (qr rfl qo rfl) (qcD 0 rfl (qa 1 rfl (qN h27 rfl (qa 5 rfl (qb ?_)))))))
        refine zh 94 rfl hr (fun h94_31 hr => ?_) (fun h94_31 hr => ?_)
        ·
         refine qO rfl (qQ rfl (qg 3 (qa 1 rfl (rd rfl (qeF rfl rfl rfl rfl) (qa 1 rfl (qb (qm [6, 10, 12, 13] rfl ?_)))))))
         exact IH1 _ _ _ (by omega) ⟨o19, (wr (i20 + (1 : Int))), g21, g22, u16, u17, u18, _, rfl, rfl, rfl, hr⟩
        ·
         refine qf 4 rfl (qg 14 (qa 2 rfl ?_))
         obtain ⟨q_33, h33, hr⟩ := za hr
         refine qN h33 rfl (qa 4 rfl ?_)
         refine zq 101 rfl hr (fun h101_33 hr => ?_) (fun h101_33 hr => ?_)
         ·
          refine qa 7 rfl (qb (qO rfl (qe (zg 2 1 (ew rfl (qab 92 5 (.inl rfl)) ?_)))))
          rintro _ _ ⟨u4_34, rfl, rfl⟩
          refine qa 1 rfl (qb ?_)
          cases hr
          refine qbQ Tryz.func158 _ (.cons (zd rfl (Wk.own _ _)) (.cons (zd rfl (Wk.refl _)) .nil)) ?_
          rfl
         ·
          refine qa 2 rfl (qN h33 rfl (qa 4 rfl (qb ?_)))
          refine zh 108 rfl hr (fun h108_35 hr => ?_) (fun h108_35 hr => ?_)
          ·
           refine qO rfl (qe (zg 2 1 (ew rfl (qab 92 5 (.inl rfl)) ?_)))
           rintro _ _ ⟨u4_36, rfl, rfl⟩
           refine qa 1 rfl (qb ?_)
           cases hr
           refine qbQ Tryz.func158 _ (.cons (zd rfl (Wk.own _ _)) (.cons (zd rfl (Wk.refl _)) .nil)) ?_
           rfl
          ·
           refine qf 3 rfl ?_
           obtain ⟨r39, h39, hr⟩ := za hr
           refine qsv (by kernel_rfl) (by kernel_rfl) [(0, .d), (1, .d), (2, .d), (4, .d), (8, .d), (9, .d)] (.cons 3 [(5, .d), (6, .d), (7, .d)] (.cons 10 [(11, .d)] (.cons 12 [] (.cons 13 [] .nil .nil) .nil) (.cons 12 [] (.cons 10 [(11, .d)] (.cons 13 [] .nil .nil) .nil) .nil)) (.cons 10 [] (.cons 3 [(5, .d), (6, .d), (7, .d), (11, .d)] (.cons 12 [] (.cons 13 [] .nil .nil) .nil) (.cons 12 [] (.cons 3 [(5, .d), (6, .d), (7, .d), (11, .d)] (.cons 13 [] .nil .nil) .nil) .nil)) (.cons 12 [] (.cons 3 [(5, .d), (6, .d), (7, .d)] (.cons 10 [(11, .d)] (.cons 13 [] .nil .nil) .nil) (.cons 10 [] (.cons 3 [(5, .d), (6, .d), (7, .d), (11, .d)] (.cons 13 [] .nil .nil) .nil) .nil)) .nil))) (by kernel_rfl) (fun env σ => ∃ (b15_r20_37 : Nat), Sub [(6, .ref b19_1 0 []), (10, .lst (r12.1.map qt)), (12, .own u18 (o19.map zo)), (13, .int .i64 i20), (15, .ref b15_r20_37 0 [])] env ∧ σ.Perm [.cell b15_r20_37 (.agg [.int .i64 q27.f1_Int, zi r39]), .cell b19_1 (.agg [.own u16 (g21.map qc), .vec u17 g22.length]), .row u16 g21.length 215 4, .vec u17 (g22.map (D.int .i64)) 3 1, .row u18 o19.length 92 5]) ?_ ?_
           ·
            repeat' (first | exact p_no | refine qwQ ?_ ?_ | refine qb ?_ | refine qa 1 rfl ?_ | refine rd rfl (qP rfl rfl) ?_ | refine rd rfl (qr rfl qo rfl) ?_ | refine za4 0 rfl ?_ | refine qN h27 rfl ?_ | refine zbh rfl rfl rfl (qib _ rfl qcW (.oc rfl (.oc rfl .nil)) (by exact (pf0 _)) (qcE fuel _ _ _ _ _ _ _ h39)) ?_ | refine rd rfl (qbl rfl qkK (.oc rfl (.oc rfl .nil)) (.cons rfl rfl rfl (.cons rfl (qcl _) rfl (.nil _)))) ?_ | (refine ew rfl (qaJ rfl qoE) ?_; rintro _ _ ⟨b, rfl, rfl⟩) | refine qgZ rfl rfl rfl (qrr _ rfl rfl rfl (Wk.refl _) (pf0 _) (by exact qi0) (by first | rfl | simp [sz, szs, qmZ, qcl]) (by first | rfl | simp [sz, szs, qmZ, qcl]) rfl) ?_ | refine zbh rfl rfl rfl (qib _ rfl qcW (.oc rfl (.oc rfl .nil)) (by exact (pS [3, 3, 3] _)) (qcE fuel _ _ _ _ _ _ _ h39)) ?_ | refine za4 1 rfl ?_ | (refine qvY ?_; exact ⟨_, sbr rfl, pkz⟩))
           ·
            rintro _ _ ⟨b15_r20_37, hs, hp⟩
            refine qoo hs hp (qaR 15 b15_r20_37 rfl (pf0 _) (qe (zg 1 1 (ew rfl (qab 92 5 (.inl rfl)) ?_))))
            rintro _ _ ⟨u16_39, rfl, rfl⟩
            refine qb (qf 3 rfl ?_)
            obtain ⟨kk2, hkk2, hr⟩ := exK (fun k => qbs k q27 o19 0) hr
            refine qcq 12 rfl (asl rfl) fun hla2 => ?_
            simp only [jb] at hla2
            refine qx (fun env σ => ∃ (k48 : Int) (u46 : Value) (u47 : Value) (u49 : Value) (u50 : Value), env = [(6, .ref b19_1 0 []), (10, .lst (r12.1.map qt)), (12, .own u46 (o19.map zo)), (13, .int .i64 i20), (15, .ptr (.agg [.int .i64 q27.f1_Int, zi r39])), (16, .own u47 ([].map zo)), (17, .int .i64 k48)] ∧ σ = [.cell b19_1 (.agg [.own u49 (g21.map qc), .vec u50 g22.length]), .row u49 g21.length 215 4, .vec u50 (g22.map (D.int .i64)) 3 1, .row u46 o19.length 92 5, .row u47 ([] : (List (Int × T))).length 92 5] ∧ kk2 k48 = some res) ?_ (fun HK2 => ?_)
            ·
             rintro _ _ ⟨k48, u46, u47, u49, u50, rfl, rfl, hr⟩
             rw [hkk2] at hr
             refine qe (zg 6 256 (qa 3 rfl ?_))
             obtain ⟨l51, h51, hr⟩ := za hr
             refine rd rfl (qnv (f := zo) o19 0 k48 rfl qd4 rfl (asl rfl) qmf (qma rfl) qft h51) ?_
             obtain ⟨l52, h52, hr⟩ := za hr
             refine ew rfl (qaK (f := zo) [] l51 rfl qd4 rfl rfl (asl rfl) (pf4 _ _ _ _ _ _) rfl qft h52) ?_
             rintro _ _ ⟨u141_52, rfl, rfl⟩
             refine qa 1 rfl (qb (qe (zg 5 64 (qa 1 rfl (rd rfl (qwk rfl rfl (by exact qi0) (by first | rfl | simp [sz, szs, qmZ, qcl])) (rd rfl (qeS (f := zo) [.tmp 143] [(q27.f1_Int, r39)] rfl qd4 rfl rfl (by decide) (by decide) (.oc rfl .nil) qft (fun _ => rfl)) ?_))))))
             obtain ⟨l54, h54, hr⟩ := za hr
             refine ew rfl (qaK (f := zo) l52 [(q27.f1_Int, r39)] rfl qd4 rfl rfl (asl rfl) (pf0 _) rfl qft h54) ?_
             rintro _ _ ⟨u145_54, rfl, rfl⟩
             refine qa 1 rfl (qb (zg 6 256 (qa 3 rfl ?_)))
             obtain ⟨l56, h56, hr⟩ := za hr
             refine rd rfl (qnv (f := zo) o19 k48 (o19.length : Int) rfl qd4 rfl (asl rfl) (qox rfl) qoX qft h56) ?_
             obtain ⟨l57, h57, hr⟩ := za hr
             refine ew rfl (qaK (f := zo) l54 l56 rfl qd4 rfl rfl (asl rfl) (pf0 _) rfl qft h57) ?_
             rintro _ _ ⟨u150_57, rfl, rfl⟩
             refine qa 1 rfl (qb (qaa (qg 3 (qa 1 rfl (rd rfl (qeF rfl rfl rfl rfl) (qa 1 rfl (qb (qm [6, 10, 12, 13] rfl (qcA [_, _, _, _] _ (pS [0, 3, 3, 3] _) ?_)))))))))
             exact IH1 _ _ _ (by omega) ⟨l57, (wr (i20 + (1 : Int))), g21, g22, u49, u50, u150_57, _, rfl, rfl, rfl, hr⟩
            ·
             refine qm [6, 10, 12, 13, 15, 16, 17] rfl (qcA [_, _, _, _, _] _ (pS [0, 4, 4, 4, 4] _) (q9 (fun n env σ => ∃ (k45 : Nat) (u41 : Value) (u42 : Value) (u43 : Value) (u44 : Value), (n = o19.length - k45) ∧ (env = [(6, .ref b19_1 0 []), (10, .lst (r12.1.map qt)), (12, .own u43 (o19.map zo)), (13, .int .i64 i20), (15, .ptr (.agg [.int .i64 q27.f1_Int, zi r39])), (16, .own u44 ([].map zo)), (17, .int .i64 (k45 : Int))]) ∧ (σ = [.cell b19_1 (.agg [.own u41 (g21.map qc), .vec u42 g22.length]), .row u41 g21.length 215 4, .vec u42 (g22.map (D.int .i64)) 3 1, .row u43 o19.length 92 5, .row u44 ([] : (List (Int × T))).length 92 5]) ∧ (k45 ≤ o19.length) ∧ (qbs kk2 q27 (o19.drop k45) k45 = some res)) _ ⟨0, u16, u17, u18, u16_39, rfl, rfl, rfl, jc _, hr⟩ ?_))
             rintro n _ _ ⟨k45, u41, u42, u43, u44, rfl, rfl, rfl, hi2, hr⟩ IH2
             rcases zb o19 k45 hi2 with ⟨ht2, hd2, he2⟩ | ⟨q_59, ht2, hd2, hq2, hlt2⟩
             ·
              rw [hd2, qbs] at hr
              refine qe (qe (qei 14 0 (qa 2 rfl (qz rfl (qa 2 rfl (qiz 125 false rfl ht2 (qa 9 rfl (qb (qA rfl (qQ rfl (qm [6, 10, 12, 13, 15, 16, 17] rfl ?_)))))))))))
              exact HK2 _ _ ⟨(k45 : Int), u43, u44, u41, u42, rfl, rfl, hr⟩
             ·
              rw [hd2, qbs] at hr
              refine qe (qe (qei 14 0 (qa 2 rfl (qz rfl (qa 2 rfl (qiz 125 true rfl ht2 (qa 2 rfl (qN hq2 rfl (qa 6 rfl (qb ?_))))))))))
              refine zh 134 rfl hr (fun h134_59 hr => ?_) (fun h134_59 hr => ?_)
              ·
               refine qf 3 rfl (qg 3 (qa 1 rfl (qaj rfl (qa 1 rfl (qb (qaa (qm [6, 10, 12, 13, 15, 16, 17] rfl ?_)))))))
               exact IH2 _ _ _ (by omega) ⟨(k45 + 1), u41, u42, u43, u44, rfl, rfl, rfl, (by omega), hr⟩
              ·
               refine qA rfl (qQ rfl (qm [6, 10, 12, 13, 15, 16, 17] rfl ?_))
               exact HK2 _ _ ⟨(k45 : Int), u43, u44, u41, u42, rfl, rfl, hr⟩
       ·
        refine qa 14 rfl (qb (qf 4 rfl (qg 14 (qa 2 rfl ?_))))
        obtain ⟨q61, h61, hr⟩ := za hr
        refine qN h61 rfl (qa 4 rfl ?_)
        refine zq 101 rfl hr (fun h101_61 hr => ?_) (fun h101_61 hr => ?_)
        ·
         refine qa 7 rfl (qb (qO rfl (qe (zg 2 1 (ew rfl (qab 92 5 (.inl rfl)) ?_)))))
         rintro _ _ ⟨u4_62, rfl, rfl⟩
         refine qa 1 rfl (qb ?_)
         cases hr
         refine qbQ Tryz.func158 _ (.cons (zd rfl (Wk.own _ _)) (.cons (zd rfl (Wk.refl _)) .nil)) ?_
         rfl
        ·
         refine qa 2 rfl (qN h61 rfl (qa 4 rfl (qb ?_)))
         refine zh 108 rfl hr (fun h108_63 hr => ?_) (fun h108_63 hr => ?_)
         ·
          refine qO rfl (qe (zg 2 1 (ew rfl (qab 92 5 (.inl rfl)) ?_)))
          rintro _ _ ⟨u4_64, rfl, rfl⟩
          refine qa 1 rfl (qb ?_)
          cases hr
          refine qbQ Tryz.func158 _ (.cons (zd rfl (Wk.own _ _)) (.cons (zd rfl (Wk.refl _)) .nil)) ?_
          rfl
         ·
          refine qf 3 rfl ?_
          obtain ⟨r67, h67, hr⟩ := za hr
          refine qsv (by kernel_rfl) (by kernel_rfl) [(0, .d), (1, .d), (2, .d), (4, .d), (8, .d), (9, .d)] (.cons 3 [(5, .d), (6, .d), (7, .d)] (.cons 10 [(11, .d)] (.cons 12 [] (.cons 13 [] .nil .nil) .nil) (.cons 12 [] (.cons 10 [(11, .d)] (.cons 13 [] .nil .nil) .nil) .nil)) (.cons 10 [] (.cons 3 [(5, .d), (6, .d), (7, .d), (11, .d)] (.cons 12 [] (.cons 13 [] .nil .nil) .nil) (.cons 12 [] (.cons 3 [(5, .d), (6, .d), (7, .d), (11, .d)] (.cons 13 [] .nil .nil) .nil) .nil)) (.cons 12 [] (.cons 3 [(5, .d), (6, .d), (7, .d)] (.cons 10 [(11, .d)] (.cons 13 [] .nil .nil) .nil) (.cons 10 [] (.cons 3 [(5, .d), (6, .d), (7, .d), (11, .d)] (.cons 13 [] .nil .nil) .nil) .nil)) .nil))) (by kernel_rfl) (fun env σ => ∃ (b15_r20_65 : Nat), Sub [(6, .ref b19_1 0 []), (10, .lst (r12.1.map qt)), (12, .own u18 (o19.map zo)), (13, .int .i64 i20), (15, .ref b15_r20_65 0 [])] env ∧ σ.Perm [.cell b15_r20_65 (.agg [.int .i64 q27.f1_Int, zi r67]), .cell b19_1 (.agg [.own u16 (g21.map qc), .vec u17 g22.length]), .row u16 g21.length 215 4, .vec u17 (g22.map (D.int .i64)) 3 1, .row u18 o19.length 92 5]) ?_ ?_
          ·
           repeat' (first | exact p_no | refine qwQ ?_ ?_ | refine qb ?_ | refine qa 1 rfl ?_ | refine rd rfl (qP rfl rfl) ?_ | refine rd rfl (qr rfl qo rfl) ?_ | refine za4 0 rfl ?_ | refine qN h27 rfl ?_ | refine zbh rfl rfl rfl (qib _ rfl qcW (.oc rfl (.oc rfl .nil)) (by exact (pf0 _)) (qcE fuel _ _ _ _ _ _ _ h67)) ?_ | refine rd rfl (qbl rfl qkK (.oc rfl (.oc rfl .nil)) (.cons rfl rfl rfl (.cons rfl (qcl _) rfl (.nil _)))) ?_ | (refine ew rfl (qaJ rfl qoE) ?_; rintro _ _ ⟨b, rfl, rfl⟩) | refine qgZ rfl rfl rfl (qrr _ rfl rfl rfl (Wk.refl _) (pf0 _) (by exact qi0) (by first | rfl | simp [sz, szs, qmZ, qcl]) (by first | rfl | simp [sz, szs, qmZ, qcl]) rfl) ?_ | refine zbh rfl rfl rfl (qib _ rfl qcW (.oc rfl (.oc rfl .nil)) (by exact (pS [3, 3, 3] _)) (qcE fuel _ _ _ _ _ _ _ h67)) ?_ | refine za4 1 rfl ?_ | (refine qvY ?_; exact ⟨_, sbr rfl, pkz⟩))
          ·
           rintro _ _ ⟨b15_r20_65, hs, hp⟩
           refine qoo hs hp (qaR 15 b15_r20_65 rfl (pf0 _) (qe (zg 1 1 (ew rfl (qab 92 5 (.inl rfl)) ?_))))
           rintro _ _ ⟨u16_67, rfl, rfl⟩
           refine qb (qf 3 rfl ?_)
           obtain ⟨kk3, hkk3, hr⟩ := exK (fun k => qbu k q27 o19 0) hr
           refine qcq 12 rfl (asl rfl) fun hla3 => ?_
           simp only [jb] at hla3
           refine qx (fun env σ => ∃ (k76 : Int) (u74 : Value) (u75 : Value) (u77 : Value) (u78 : Value), env = [(6, .ref b19_1 0 []), (10, .lst (r12.1.map qt)), (12, .own u74 (o19.map zo)), (13, .int .i64 i20), (15, .ptr (.agg [.int .i64 q27.f1_Int, zi r67])), (16, .own u75 ([].map zo)), (17, .int .i64 k76)] ∧ σ = [.cell b19_1 (.agg [.own u77 (g21.map qc), .vec u78 g22.length]), .row u77 g21.length 215 4, .vec u78 (g22.map (D.int .i64)) 3 1, .row u74 o19.length 92 5, .row u75 ([] : (List (Int × T))).length 92 5] ∧ kk3 k76 = some res) ?_ (fun HK3 => ?_)
           ·
            rintro _ _ ⟨k76, u74, u75, u77, u78, rfl, rfl, hr⟩
            rw [hkk3] at hr
            refine qe (zg 6 256 (qa 3 rfl ?_))
            obtain ⟨l79, h79, hr⟩ := za hr
            refine rd rfl (qnv (f := zo) o19 0 k76 rfl qd4 rfl (asl rfl) qmf (qma rfl) qft h79) ?_
            obtain ⟨l80, h80, hr⟩ := za hr
            refine ew rfl (qaK (f := zo) [] l79 rfl qd4 rfl rfl (asl rfl) (pf4 _ _ _ _ _ _) rfl qft h80) ?_
            rintro _ _ ⟨u141_80, rfl, rfl⟩
            refine qa 1 rfl (qb (qe (zg 5 64 (qa 1 rfl (rd rfl (qwk rfl rfl (by exact qi0) (by first | rfl | simp [sz, szs, qmZ, qcl])) (rd rfl (qeS (f := zo) [.tmp 143] [(q27.f1_Int, r67)] rfl qd4 rfl rfl (by decide) (by decide) (.oc rfl .nil) qft (fun _ => rfl)) ?_))))))
            obtain ⟨l82, h82, hr⟩ := za hr
            refine ew rfl (qaK (f := zo) l80 [(q27.f1_Int, r67)] rfl qd4 rfl rfl (asl rfl) (pf0 _) rfl qft h82) ?_
            rintro _ _ ⟨u145_82, rfl, rfl⟩
            refine qa 1 rfl (qb (zg 6 256 (qa 3 rfl ?_)))
            obtain ⟨l84, h84, hr⟩ := za hr
            refine rd rfl (qnv (f := zo) o19 k76 (o19.length : Int) rfl qd4 rfl (asl rfl) (qox rfl) qoX qft h84) ?_
            obtain ⟨l85, h85, hr⟩ := za hr
            refine ew rfl (qaK (f := zo) l82 l84 rfl qd4 rfl rfl (asl rfl) (pf0 _) rfl qft h85) ?_
            rintro _ _ ⟨u150_85, rfl, rfl⟩
            refine qa 1 rfl (qb (qaa (qg 3 (qa 1 rfl (rd rfl (qeF rfl rfl rfl rfl) (qa 1 rfl (qb (qm [6, 10, 12, 13] rfl (qcA [_, _, _, _] _ (pS [0, 3, 3, 3] _) ?_)))))))))
            exact IH1 _ _ _ (by omega) ⟨l85, (wr (i20 + (1 : Int))), g21, g22, u77, u78, u150_85, _, rfl, rfl, rfl, hr⟩
           ·
            refine qm [6, 10, 12, 13, 15, 16, 17] rfl (qcA [_, _, _, _, _] _ (pS [0, 4, 4, 4, 4] _) (q9 (fun n env σ => ∃ (k73 : Nat) (u69 : Value) (u70 : Value) (u71 : Value) (u72 : Value), (n = o19.length - k73) ∧ (env = [(6, .ref b19_1 0 []), (10, .lst (r12.1.map qt)), (12, .own u71 (o19.map zo)), (13, .int .i64 i20), (15, .ptr (.agg [.int .i64 q27.f1_Int, zi r67])), (16, .own u72 ([].map zo)), (17, .int .i64 (k73 : Int))]) ∧ (σ = [.cell b19_1 (.agg [.own u69 (g21.map qc), .vec u70 g22.length]), .row u69 g21.length 215 4, .vec u70 (g22.map (D.int .i64)) 3 1, .row u71 o19.length 92 5, .row u72 ([] : (List (Int × T))).length 92 5]) ∧ (k73 ≤ o19.length) ∧ (qbu kk3 q27 (o19.drop k73) k73 = some res)) _ ⟨0, u16, u17, u18, u16_67, rfl, rfl, rfl, jc _, hr⟩ ?_))
            rintro n _ _ ⟨k73, u69, u70, u71, u72, rfl, rfl, rfl, hi3, hr⟩ IH3
            rcases zb o19 k73 hi3 with ⟨ht3, hd3, he3⟩ | ⟨q_87, ht3, hd3, hq3, hlt3⟩
            ·
             rw [hd3, qbu] at hr
             refine qe (qe (qei 14 0 (qa 2 rfl (qz rfl (qa 2 rfl (qiz 125 false rfl ht3 (qa 9 rfl (qb (qA rfl (qQ rfl (qm [6, 10, 12, 13, 15, 16, 17] rfl ?_)))))))))))
             exact HK3 _ _ ⟨(k73 : Int), u71, u72, u69, u70, rfl, rfl, hr⟩
            ·
             rw [hd3, qbu] at hr
             refine qe (qe (qei 14 0 (qa 2 rfl (qz rfl (qa 2 rfl (qiz 125 true rfl ht3 (qa 2 rfl (qN hq3 rfl (qa 6 rfl (qb ?_))))))))))
             refine zh 134 rfl hr (fun h134_87 hr => ?_) (fun h134_87 hr => ?_)
             ·
              refine qf 3 rfl (qg 3 (qa 1 rfl (qaj rfl (qa 1 rfl (qb (qaa (qm [6, 10, 12, 13, 15, 16, 17] rfl ?_)))))))
              exact IH3 _ _ _ (by omega) ⟨(k73 + 1), u69, u70, u71, u72, rfl, rfl, rfl, (by omega), hr⟩
             ·
              refine qA rfl (qQ rfl (qm [6, 10, 12, 13, 15, 16, 17] rfl ?_))
              exact HK3 _ _ ⟨(k73 : Int), u71, u72, u69, u70, rfl, rfl, hr⟩
     ·
      refine qA rfl (qQ rfl (qm [12] rfl (qcA [_] _ (pf3 _ _ _ _ _) ?_)))
      exact HK1 _ _ ⟨o19, u18, rfl, rfl, hr⟩
 ·
  refine qm [0, 1, 6, 7] rfl (qcA [_, _, _] _ (pS [1, 2, 2] _) (q9 (fun n env σ => ∃ (i5 : Nat) (t19_6 : List qd) (t19_7 : List Int) (u3 : Value) (u4 : Value), (n = a0.length - i5) ∧ (env = [(0, .lst (a0.map zi)), (1, .lst (a1.map zi)), (6, .ref b19_1 0 []), (7, .int .i64 (i5 : Int))]) ∧ (σ = [.cell b19_1 (.agg [.own u3 (t19_6.map qc), .vec u4 t19_7.length]), .row u3 t19_6.length 215 4, .vec u4 (t19_7.map (D.int .i64)) 3 1]) ∧ (i5 ≤ a0.length) ∧ (qS kk0 a1 fuel (a0.drop i5) i5 t19_6 t19_7 = some res)) _ ⟨0, [], [], (.slice none 0 0 ), (.slice none 0 0  ), rfl, rfl, rfl, jc _, hr⟩ ?_))
  rintro n _ _ ⟨i5, t19_6, t19_7, u3, u4, rfl, rfl, rfl, hi0, hr⟩ IH0
  rcases zb a0 i5 hi0 with ⟨ht0, hd0, he0⟩ | ⟨q_89, ht0, hd0, hq0, hlt0⟩
  ·
   rw [hd0, qS] at hr
   refine qe (qe (qg 4 (qa 2 rfl (qz rfl (qa 1 rfl (qb (qk 23 false rfl ht0 (qA rfl (qQ rfl (qm [6] rfl ?_))))))))))
   exact HK0 _ _ ⟨t19_6, t19_7, u3, u4, rfl, rfl, hr⟩
  ·
   rw [hd0, qS] at hr
   refine qe (qe (qg 4 (qa 2 rfl (qz rfl (qa 1 rfl (qb (qk 23 true rfl ht0 (qf 5 rfl (zg 7 1024 (qa 3 rfl (qN hq0 rfl (qa 1 rfl ?_))))))))))))
   obtain ⟨r90, h90, hr⟩ := za hr
   refine ew rfl (qiq _ rfl qdG (.oc rfl (.oc rfl .nil)) (by exact (pf0 _)) (qeh fuel _ _ _ _ _ _ _ h90)) ?_
   rintro _ _ ⟨_, ⟨u31_90, u31_91, rfl, rfl⟩, rfl⟩
   refine zaq ((.cell b19_1 (.agg [.own u31_90 (r90.2.1.map qc), .vec u31_91 r90.2.2.length])) :: (.row u31_90 r90.2.1.length 215 4) :: (.vec u31_91 (r90.2.2.map (D.int .i64)) 3 1) :: _) rfl (qa 1 rfl (qb (qe (zg 7 1024 (qa 3 rfl ?_)))))
   obtain ⟨q93, h93, hr⟩ := za hr
   refine qN h93 rfl (qa 1 rfl ?_)
   obtain ⟨r94, h94, hr⟩ := za hr
   refine ew rfl (qiq _ rfl qdG (.oc rfl (.oc rfl .nil)) (by exact (pf0 _)) (qeh fuel _ _ _ _ _ _ _ h94)) ?_
   rintro _ _ ⟨_, ⟨u37_94, u37_95, rfl, rfl⟩, rfl⟩
   refine zaq ((.cell b19_1 (.agg [.own u37_94 (r94.2.1.map qc), .vec u37_95 r94.2.2.length])) :: (.row u37_94 r94.2.1.length 215 4) :: (.vec u37_95 (r94.2.2.map (D.int .i64)) 3 1) :: _) rfl (qa 1 rfl (qb (qe (zg 5 64 (qa 3 rfl ?_)))))
   obtain ⟨r97, h97, hr⟩ := za hr
   refine ew rfl (qiq _ rfl qfR (.oc rfl (.oc rfl (.oc rfl .nil))) (by exact (pf0 _)) (qfo fuel _ _ _ _ _ _ _ _ h97)) ?_
   rintro _ _ ⟨_, ⟨u41_97, u41_98, rfl, rfl⟩, rfl⟩
   refine zaq ((.cell b19_1 (.agg [.own u41_97 (r97.2.1.map qc), .vec u41_98 r97.2.2.length])) :: (.row u41_97 r97.2.1.length 215 4) :: (.vec u41_98 (r97.2.2.map (D.int .i64)) 3 1) :: _) rfl (qa 1 rfl (qb ?_))
   refine zh 42 rfl hr (fun h42_99 hr => ?_) (fun h42_99 hr => ?_)
   ·
    refine qO rfl (qe (zg 2 1 (ew rfl (qab 92 5 (.inl rfl)) ?_)))
    rintro _ _ ⟨u4_100, rfl, rfl⟩
    refine qa 1 rfl (qb ?_)
    cases hr
    refine qbQ Tryz.func158 _ (.cons (zd rfl (Wk.own _ _)) (.cons (zd rfl (Wk.refl _)) .nil)) ?_
    rfl
   ·
    refine qf 3 rfl (qg 3 (qa 1 rfl (qaj rfl (qa 1 rfl (qb (qm [0, 1, 6, 7] rfl ?_))))))
    exact IH0 _ _ _ (by omega) ⟨(i5 + 1), r97.2.1, r97.2.2, u41_97, u41_98, rfl, rfl, rfl, (by omega), hr⟩
def qb2 (k : Option ((List (Int × T)) × Int)) : List T → Option ((List (Int × T)) × Int)
 | [] =>
 k
 | q_5 :: rest =>
 ((qjz q_5).bind fun r6 =>
 (bif (!r6) then
 some ([], 2)
 else
 (qb2 k rest)))
def qbW (k : Option ((List (Int × T)) × Int)) : List T → Option ((List (Int × T)) × Int)
 | [] =>
 k
 | q_8 :: rest =>
 ((qjz q_8).bind fun r9 =>
 (bif (!r9) then
 some ([], 2)
 else
 (qbW k rest)))
def qaD (fuel : Nat) (a0 : List T) (a1 : List T) : Option ((List (Int × T)) × Int) :=
 (qbW ((qb2 ((bif ((a0.length : Int) != (a1.length : Int)) then
 some ([], 9)
 else
 ((qb8 fuel a0 a1).bind fun r4 =>
 some (r4.1, r4.2)))) a1)) a0)
theorem qhZ (fuel : Nat) (a0 : List T) (a1 : List T) (res : (List (Int × T)) × Int) (hr : qaD fuel a0 a1 = some res) : zf Tryz.prog 143 [.lst (a0.map zi), .lst (a1.map zi)] (.tup [.lst (res.1.map zo), .int .i64 res.2]) := by
 unfold qaD at hr
 refine qY Tryz.func143 rfl fun K hK => (qf 5 rfl ?_)
 obtain ⟨kk0, hkk0, hr⟩ := exK (fun k => qbW k a0) hr
 refine qcq 0 rfl (asl rfl) fun hla0 => ?_
 simp only [jb] at hla0
 refine qx (fun env σ => env = [(0, .lst (a0.map zi)), (1, .lst (a1.map zi))] ∧ σ = [] ∧ kk0 = some res) ?_ (fun HK0 => ?_)
 ·
  rintro _ _ ⟨rfl, rfl, hr⟩
  rw [hkk0] at hr
  refine qf 3 rfl ?_
  obtain ⟨kk1, hkk1, hr⟩ := exK (fun k => qb2 k a1) hr
  refine qcq 1 rfl (asl rfl) fun hla1 => ?_
  simp only [jb] at hla1
  refine qx (fun env σ => env = [(0, .lst (a0.map zi)), (1, .lst (a1.map zi))] ∧ σ = [] ∧ kk1 = some res) ?_ (fun HK1 => ?_)
  ·
   rintro _ _ ⟨rfl, rfl, hr⟩
   rw [hkk1] at hr
   refine qe (qe (qg 5 (qa 1 rfl (qz rfl (qa 1 rfl (qz rfl (qa 1 rfl (qb ?_))))))))
   refine zh 36 rfl hr (fun h36_2 hr => ?_) (fun h36_2 hr => ?_)
   ·
    refine qf 3 rfl ?_
    cases hr
    refine qbQ Tryz.func143 _ (.cons (zd rfl (Wk.full _)) (.cons (zd rfl (Wk.refl _)) .nil)) ?_
    rfl
   ·
    refine qf 3 rfl (qg 7 (qa 2 rfl ?_))
    obtain ⟨r4, h4, hr⟩ := za hr
    refine qs rfl qj7 (qki fuel _ _ _ h4) (qa 4 rfl (qb ?_))
    cases hr
    refine qu Tryz.func143 rfl ?_
    rfl
  ·
   refine qm [0, 1, 7] rfl (q9 (fun n env σ => ∃ (i2 : Nat), (n = a1.length - i2) ∧ (env = [(0, .lst (a0.map zi)), (1, .lst (a1.map zi)), (7, .int .i64 (i2 : Int))]) ∧ (σ = []) ∧ (i2 ≤ a1.length) ∧ (qb2 kk1 (a1.drop i2) = some res)) _ ⟨0, rfl, rfl, rfl, jc _, hr⟩ ?_)
   rintro n _ _ ⟨i2, rfl, rfl, rfl, hi1, hr⟩ IH1
   rcases zb a1 i2 hi1 with ⟨ht1, hd1, he1⟩ | ⟨q_5, ht1, hd1, hq1, hlt1⟩
   ·
    rw [hd1, qb2] at hr
    refine qe (qe (qg 4 (qa 2 rfl (qz rfl (qa 1 rfl (qb (qk 23 false rfl ht1 (qA rfl (qQ rfl (qm [0, 1] rfl ?_))))))))))
    exact HK1 _ _ ⟨rfl, rfl, hr⟩
   ·
    rw [hd1, qb2] at hr
    refine qe (qe (qg 4 (qa 2 rfl (qz rfl (qa 1 rfl (qb (qk 23 true rfl ht1 (qf 5 rfl (qg 6 (qa 2 rfl (qN hq1 rfl (qa 1 rfl ?_))))))))))))
    obtain ⟨r6, h6, hr⟩ := za hr
    refine qs rfl qdt (qdm _ _ h6) (qa 1 rfl (qb ?_))
    refine zh 31 rfl hr (fun h31_6 hr => ?_) (fun h31_6 hr => ?_)
    ·
     refine qf 3 rfl ?_
     cases hr
     refine qbQ Tryz.func143 _ (.cons (zd rfl (Wk.full _)) (.cons (zd rfl (Wk.refl _)) .nil)) ?_
     rfl
    ·
     refine qf 3 rfl (qg 3 (qa 1 rfl (qaj rfl (qa 1 rfl (qb (qm [0, 1, 7] rfl ?_))))))
     exact IH1 _ _ _ (by omega) ⟨(i2 + 1), rfl, rfl, rfl, (by omega), hr⟩
 ·
  refine qm [0, 1, 6] rfl (q9 (fun n env σ => ∃ (i1 : Nat), (n = a0.length - i1) ∧ (env = [(0, .lst (a0.map zi)), (1, .lst (a1.map zi)), (6, .int .i64 (i1 : Int))]) ∧ (σ = []) ∧ (i1 ≤ a0.length) ∧ (qbW kk0 (a0.drop i1) = some res)) _ ⟨0, rfl, rfl, rfl, jc _, hr⟩ ?_)
  rintro n _ _ ⟨i1, rfl, rfl, rfl, hi0, hr⟩ IH0
  rcases zb a0 i1 hi0 with ⟨ht0, hd0, he0⟩ | ⟨q_8, ht0, hd0, hq0, hlt0⟩
  ·
   rw [hd0, qbW] at hr
   refine qe (qe (qg 4 (qa 2 rfl (qz rfl (qa 1 rfl (qb (qk 11 false rfl ht0 (qA rfl (qQ rfl (qm [0, 1] rfl ?_))))))))))
   exact HK0 _ _ ⟨rfl, rfl, hr⟩
  ·
   rw [hd0, qbW] at hr
   refine qe (qe (qg 4 (qa 2 rfl (qz rfl (qa 1 rfl (qb (qk 11 true rfl ht0 (qf 5 rfl (qg 6 (qa 2 rfl (qN hq0 rfl (qa 1 rfl ?_))))))))))))
   obtain ⟨r9, h9, hr⟩ := za hr
   refine qs rfl qdt (qdm _ _ h9) (qa 1 rfl (qb ?_))
   refine zh 19 rfl hr (fun h19_9 hr => ?_) (fun h19_9 hr => ?_)
   ·
    refine qf 3 rfl ?_
    cases hr
    refine qbQ Tryz.func143 _ (.cons (zd rfl (Wk.full _)) (.cons (zd rfl (Wk.refl _)) .nil)) ?_
    rfl
   ·
    refine qf 3 rfl (qg 3 (qa 1 rfl (qaj rfl (qa 1 rfl (qb (qm [0, 1, 6] rfl ?_))))))
    exact IH0 _ _ _ (by omega) ⟨(i1 + 1), rfl, rfl, rfl, (by omega), hr⟩
def qeT (fuel : Nat) (a0 : T) (a1 : T) : Option ((List (Int × T)) × Int) :=
 ((qaD fuel [a0] [a1]).bind fun r1 =>
 some (r1.1, r1.2))
theorem qj0 (fuel : Nat) (a0 : T) (a1 : T) (res : (List (Int × T)) × Int) (hr : qeT fuel a0 a1 = some res) : zf Tryz.prog 154 [zi a0, zi a1] (.tup [.lst (res.1.map zo), .int .i64 res.2]) := by
 unfold qeT at hr
 refine qY Tryz.func154 rfl fun K hK => (qe (qg 4 (rd rfl (qcK rfl rfl rfl) (rd rfl (qcK rfl rfl rfl) (qa 2 rfl (qb (qe (qg 9 (qa 1 rfl (rd rfl (qeS (f := zi) [.tmp 6] [a0] rfl qam rfl rfl (by decide) (by decide) (.oc rfl .nil) qcl (fun _ => rfl)) (qa 1 rfl (rd rfl (qeS (f := zi) [.tmp 8] [a1] rfl qam rfl rfl (by decide) (by decide) (.oc rfl .nil) qcl (fun _ => rfl)) ?_))))))))))))
 obtain ⟨r1, h1, hr⟩ := za hr
 refine rd rfl (by exact qhd rfl qh8 (.cons rfl (Wk.full _) (.cons rfl (Wk.full _) .nil)) (qhZ fuel _ _ _ h1)) ?_
 refine qa 4 rfl (qb ?_)
 cases hr
 refine qu Tryz.func154 rfl ?_
 rfl
def qbR (fuel : Nat) (a0 : T) (a1 : T) : Option Bool :=
 ((qeT fuel a0 a1).bind fun r1 =>
 (bif (r1.2 == (0 : Int)) then
 some (true)
 else
 some ((r1.2 == (6 : Int)))))
theorem qgj (fuel : Nat) (a0 : T) (a1 : T) (res : Bool) (hr : qbR fuel a0 a1 = some res) : zf Tryz.prog 141 [zi a0, zi a1] (.bool res) := by
 unfold qbR at hr
 refine qY Tryz.func141 rfl fun K hK => (qe (qg 3 (rd rfl (qcK rfl rfl rfl) (rd rfl (qcK rfl rfl rfl) (qa 1 rfl (qb (qe (qg 8 (qa 2 rfl ?_)))))))))
 obtain ⟨r1, h1, hr⟩ := za hr
 refine qs rfl qj1 (qj0 fuel _ _ _ h1) (qa 5 rfl (qb (qe (qg 7 (qa 3 rfl ?_)))))
 refine zq 15 rfl hr (fun h15_1 hr => ?_) (fun h15_1 hr => ?_)
 ·
  refine qa 4 rfl (qb ?_)
  cases hr
  refine qu Tryz.func141 rfl ?_
  rfl
 ·
  refine qa 4 rfl (qb ?_)
  cases hr
  refine qu Tryz.func141 rfl ?_
  rfl
end
end Go.Proofs.YtlfcjfiecoapoaaGreat
