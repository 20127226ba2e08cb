/-
 Texts of the seat, merged.
-/
import Derived.Test.YtamoolpdganckaaGreatLRD
set_option linter.unusedVariables false
set_option linter.unusedSimpArgs false
set_option linter.unnecessarySimpa false
set_option linter.all false
set_option maxHeartbeats 8000000
namespace Go.Proofs.YtamoolpdganckaaGreat
noncomputable section
set_option maxRecDepth 100000
open Go.RowKit
theorem qjA : zQ Tryz.prog 254 [.own (.slice none 0 0) [], .vec (.slice none 0 0) 0] := .mk rfl ob Tryz.underlying254 ob
structure qb where
 fa : Int
 fj : Int
 fF : ByteArray
 fe : (List Int)
def qa (x : qb) : D := .agg [.int .i64 x.fa, .int .i64 x.fj, .str x.fF, .lst (x.fe.map (D.int .i64))]
theorem qez (x : qb) : sz (qa x) = 4 := by
 simp only [qa, sz, szs]
theorem qla : zQ Tryz.prog 259 [.int .i64 0, .int .i64 0, .str ⟨#[]⟩, .own (.slice none 0 0) []] := .mk rfl ob Tryz.underlying259 ob
structure qj where
 fh : Int
 fm : Int
def qo (x : qj) : D := .agg [.int .i64 x.fh, .int .i64 x.fm]
theorem qcD (x : qj) : sz (qo x) = 2 := by
 simp only [qo, sz, szs]
theorem qtN : zQ Tryz.prog 78 [.int .i64 0, .int .i64 0, .str ⟨#[]⟩, .own (.slice none 0 0) []] := .mk rfl ob Tryz.underlying78 ob
def qdD (a0 : Gl) : Option Bool :=
 (bif (decide (a0.op ≥ (5 : Int))) then
 (bif (decide (a0.op ≤ (12 : Int))) then
 ((qjW a0).bind fun r3 =>
 some (r3))
 else
 some (false))
 else
 some (false))
theorem qh0 (a0 : Gl) (a : Bool) (hr : qdD a0 = some a) : zf Tryz.prog 167 [zE a0] (.bool a) := by
 unfold qdD at hr
 refine qx Tryz.func167 rfl fun K b c => ?_
 refine st ?_
 refine rd rfl (qcG rfl rfl rfl) ?_
 refine st ?_
 refine zo 6 rfl hr (fun _ hr => ?_) (fun _ hr => ?_)
 refine qd 5 rfl ?_
 refine zo 11 rfl hr (fun _ hr => ?_) (fun _ hr => ?_)
 refine qd 1 rfl ?_
 obtain ⟨r3, h3, hr⟩ := zd hr
 refine qdY rfl qcz (qcy _ _ h3) ?_
 exact fin hr
 exact fin hr
 exact fin hr
def qS (a0 : Bool) : Option Int :=
 (bif a0 then
 some (1)
 else
 some (2))
theorem qbo (a0 : Bool) (a : Int) (hr : qS a0 = some a) : zf Tryz.prog 181 [.bool a0] (.int .i64 a) := by
 unfold qS at hr
 refine qx Tryz.func181 rfl fun K b c => ?_
 refine st ?_
 refine zh 3 rfl hr (fun _ hr => ?_) (fun _ hr => ?_)
 exact fin hr
 exact fin hr
def qc1 (fuel : Nat) (a0 : T) : Option Bool :=
 ((qdA fuel a0).bind fun r1 =>
 some (((r1.length : Int) == (0 : Int))))
theorem qgr (fuel : Nat) (a0 : T) (a : Bool) (hr : qc1 fuel a0 = some a) : zf Tryz.prog 182 [zl a0] (.bool a) := by
 unfold qc1 at hr
 refine qx Tryz.func182 rfl fun K b c => ?_
 refine st ?_
 refine rd rfl (qcG rfl rfl rfl) ?_
 refine st ?_
 refine zj hr rfl qgV (qgX fuel _) (fun r1 h1 hr => ?_)
 exact fin hr
def qdh (a0 : ByteArray) : Option Bool :=
 (bif (a0.toList == (⟨#[43]⟩ : ByteArray).toList) then
 some (true)
 else
 (bif (a0.toList == (⟨#[45]⟩ : ByteArray).toList) then
 some (true)
 else
 (bif (a0.toList == (⟨#[42]⟩ : ByteArray).toList) then
 some (true)
 else
 (bif (a0.toList == (⟨#[47]⟩ : ByteArray).toList) then
 some (true)
 else
 some ((a0.toList == (⟨#[37]⟩ : ByteArray).toList))))))
theorem qj7 (a0 : ByteArray) (a : Bool) (hr : qdh a0 = some a) : zf Tryz.prog 154 [.str a0] (.bool a) := by
 unfold qdh at hr
 refine qx Tryz.func154 rfl fun K b c => ?_
 refine st ?_
 refine rd rfl (qgP rfl rfl rfl rfl) (qd 1 rfl ?_)
 refine zo 5 rfl hr (fun _ hr => ?_) (fun _ hr => ?_)
 exact fin hr
 refine qd 1 rfl (rd rfl (qgP rfl rfl rfl rfl) (qd 2 rfl ?_))
 refine zo 9 rfl hr (fun _ hr => ?_) (fun _ hr => ?_)
 exact fin hr
 refine qd 1 rfl (rd rfl (qgP rfl rfl rfl rfl) (qd 2 rfl ?_))
 refine zo 13 rfl hr (fun _ hr => ?_) (fun _ hr => ?_)
 exact fin hr
 refine qd 1 rfl (rd rfl (qgP rfl rfl rfl rfl) (qd 2 rfl ?_))
 refine zo 17 rfl hr (fun _ hr => ?_) (fun _ hr => ?_)
 exact fin hr
 refine qd 1 rfl (rd rfl (qgP rfl rfl rfl rfl) ?_)
 exact fin hr
def qcR : Nat → T → Option Bool
 | 0, _ => none
 | fuel + 1, a0 =>
  (fun (rec : T → Option Bool) =>
   (bif (a0.k == (0 : Int)) then
   some (true)
   else
   (bif (a0.k == (1 : Int)) then
   some (true)
   else
   (bif (a0.k == (2 : Int)) then
   ((qdh a0.s).bind fun r4 =>
   (bif r4 then
   (bif ((a0.ar.length : Int) == (2 : Int)) then
   ((zi a0.ar 0).bind fun q_7 =>
   ((rec q_7).bind fun r8 =>
   (bif r8 then
   ((zi a0.ar 1).bind fun q_10 =>
   ((rec q_10).bind fun r11 =>
   some (r11)))
   else
   some (false))))
   else
   some (false))
   else
   some (false)))
   else
   some (false))))) (qcR fuel)
theorem qkh (fuel : Nat) (rec : T → Option Bool) (IHR : ∀ (a0 : T) (a : Bool), rec a0 = some a → zf Tryz.prog 194 [zl a0] (.bool a)) (a0 : T) (a : Bool)
 (hr : (bif (a0.k == (0 : Int)) then
some (true)
else
(bif (a0.k == (1 : Int)) then
some (true)
else
(bif (a0.k == (2 : Int)) then
((qdh a0.s).bind fun r4 =>
(bif r4 then
(bif ((a0.ar.length : Int) == (2 : Int)) then
((zi a0.ar 0).bind fun q_7 =>
((rec q_7).bind fun r8 =>
(bif r8 then
((zi a0.ar 1).bind fun q_10 =>
((rec q_10).bind fun r11 =>
some (r11)))
else
some (false))))
else
some (false))
else
some (false)))
else
some (false)))) = some a) : zf Tryz.prog 194 [zl a0] (.bool a) := by
 refine qx Tryz.func194 rfl fun K b c => ?_
 refine st ?_
 refine rd rfl (qcG rfl rfl rfl) ?_
 refine st ?_
 refine rd rfl (qG rfl qcC rfl (qgp _) (qgk _) rfl) (qd 3 rfl ?_)
 refine zo 6 rfl hr (fun _ hr => ?_) (fun _ hr => ?_)
 exact fin hr
 refine rd rfl (qG rfl qcC rfl (qgp _) (qgk _) rfl) ?_
 refine st ?_
 refine zh 10 rfl hr (fun _ hr => ?_) (fun _ hr => ?_)
 exact fin hr
 refine st ?_
 refine rd rfl (qG rfl qcC rfl (qgp _) (qgk _) rfl) (qd 3 rfl ?_)
 refine zo 14 rfl hr (fun _ hr => ?_) (fun _ hr => ?_)
 refine rd rfl (qG rfl qgn rfl (qmo _) (qmn _) rfl) (qd 1 rfl ?_)
 refine zj hr rfl qkx (qj7 _) (fun r4 h4 hr => ?_)
 refine qd 2 rfl ?_
 refine zo 19 rfl hr (fun _ hr => ?_) (fun _ hr => ?_)
 refine rd rfl (qG rfl qcx rfl (qhm _) (qhl _) rfl) ?_
 refine st ?_
 refine zo 25 rfl hr (fun _ hr => ?_) (fun _ hr => ?_)
 refine rd rfl (qG rfl qcx rfl (qhm _) (qhl _) rfl) (qd 1 rfl ?_)
 obtain ⟨q_7, h7, hr⟩ := zd hr
 refine st ?_
 obtain ⟨r8, h8, hr⟩ := zd hr
 refine qdY rfl qff (IHR _ _ h8) (qd 2 rfl ?_)
 refine zo 32 rfl hr (fun _ hr => ?_) (fun _ hr => ?_)
 refine rd rfl (qG rfl qcx rfl (qhm _) (qhl _) rfl) (qd 1 rfl ?_)
 obtain ⟨q_10, h10, hr⟩ := zd hr
 refine st ?_
 obtain ⟨r11, h11, hr⟩ := zd hr
 refine qdY rfl qff (IHR _ _ h11) ?_
 exact fin hr
 exact fin hr
 exact fin hr
 exact fin hr
 exact fin hr
theorem qgf : ∀ (fuel : Nat) (a0 : T) (res : Bool), qcR fuel a0 = some res → zf Tryz.prog 194 [zl a0] (.bool res)
 | 0, _, _, h => by cases h
 | fuel + 1, a0, res, h => qkh fuel (qcR fuel) (qgf fuel) a0 res h
def qaH (a0 : Int) : Option Bool :=
 (bif (decide (a0 ≥ ((-2147483648) : Int))) then
 some ((decide (a0 ≤ (2147483648 : Int))))
 else
 some (false))
theorem qdo (a0 : Int) (a : Bool) (hr : qaH a0 = some a) : zf Tryz.prog 176 [.int .i64 a0] (.bool a) := by
 unfold qaH at hr
 refine qx Tryz.func176 rfl fun K b c => ?_
 refine st ?_
 refine zo 5 rfl hr (fun _ hr => ?_) (fun _ hr => ?_)
 exact fin hr
 exact fin hr
def qcH (a0 : ByteArray) : Option Bool :=
 (bif (a0.toList == (⟨#[43]⟩ : ByteArray).toList) then
 some (true)
 else
 (bif (a0.toList == (⟨#[45]⟩ : ByteArray).toList) then
 some (true)
 else
 (bif (a0.toList == (⟨#[42]⟩ : ByteArray).toList) then
 some (true)
 else
 (bif (a0.toList == (⟨#[47]⟩ : ByteArray).toList) then
 some (true)
 else
 some ((a0.toList == (⟨#[37]⟩ : ByteArray).toList))))))
theorem qhq (a0 : ByteArray) (a : Bool) (hr : qcH a0 = some a) : zf Tryz.prog 177 [.str a0] (.bool a) := by
 unfold qcH at hr
 refine qx Tryz.func177 rfl fun K b c => ?_
 refine st ?_
 refine rd rfl (qgP rfl rfl rfl rfl) (qd 1 rfl ?_)
 refine zo 5 rfl hr (fun _ hr => ?_) (fun _ hr => ?_)
 exact fin hr
 refine qd 1 rfl (rd rfl (qgP rfl rfl rfl rfl) (qd 2 rfl ?_))
 refine zo 9 rfl hr (fun _ hr => ?_) (fun _ hr => ?_)
 exact fin hr
 refine qd 1 rfl (rd rfl (qgP rfl rfl rfl rfl) (qd 2 rfl ?_))
 refine zo 13 rfl hr (fun _ hr => ?_) (fun _ hr => ?_)
 exact fin hr
 refine qd 1 rfl (rd rfl (qgP rfl rfl rfl rfl) (qd 2 rfl ?_))
 refine zo 17 rfl hr (fun _ hr => ?_) (fun _ hr => ?_)
 exact fin hr
 refine qd 1 rfl (rd rfl (qgP rfl rfl rfl rfl) ?_)
 exact fin hr
def qeJ (a0 : Int) (a1 : Int) : Option Int :=
 (bif (decide (a1 < (0 : Int))) then
 (bif (decide ((wr (-a0)) ≥ (0 : Int))) then
 ((zbW (wr (-a0)) (wr (-a1))).bind fun m3 =>
 some (m3))
 else
 ((zbW (wr ((wr ((wr (-a1)) - (1 : Int))) - (wr (-a0)))) (wr (-a1))).bind fun m4 =>
 some ((wr (-m4)))))
 else
 (bif (decide (a0 ≥ (0 : Int))) then
 ((zbW a0 a1).bind fun m6 =>
 some (m6))
 else
 ((zbW (wr ((wr (a1 - (1 : Int))) - a0)) a1).bind fun m7 =>
 some ((wr (-m7))))))
theorem qlH (a0 : Int) (a1 : Int) (a : Int) (hr : qeJ a0 a1 = some a) : zf Tryz.prog 190 [.int .i64 a0, .int .i64 a1] (.int .i64 a) := by
 unfold qeJ at hr
 refine qx Tryz.func190 rfl fun K b c => ?_
 refine st ?_
 refine zh 6 rfl hr (fun _ hr => ?_) (fun _ hr => ?_)
 refine st ?_
 refine rd rfl (qBO rfl rfl) (qd 1 rfl (rd rfl (qBO rfl rfl) ?_))
 refine st ?_
 refine zh 12 rfl hr (fun _ hr => ?_) (fun _ hr => ?_)
 refine st ?_
 obtain ⟨m3, h3, hr⟩ := zd hr
 refine rd rfl (qwC rfl rfl rfl h3) ?_
 exact fin hr
 refine st ?_
 refine rd rfl (qeg rfl rfl rfl rfl) (qd 1 rfl (rd rfl (qeg rfl rfl rfl rfl) (qd 1 rfl ?_)))
 obtain ⟨m4, h4, hr⟩ := zd hr
 refine rd rfl (qwC rfl rfl rfl h4) (rd rfl (qBO rfl rfl) ?_)
 exact fin hr
 refine st ?_
 refine zh 12 rfl hr (fun _ hr => ?_) (fun _ hr => ?_)
 refine st ?_
 obtain ⟨m6, h6, hr⟩ := zd hr
 refine rd rfl (qwC rfl rfl rfl h6) ?_
 exact fin hr
 refine st ?_
 refine rd rfl (qeg rfl rfl rfl rfl) (qd 1 rfl (rd rfl (qeg rfl rfl rfl rfl) (qd 1 rfl ?_)))
 obtain ⟨m7, h7, hr⟩ := zd hr
 refine rd rfl (qwC rfl rfl rfl h7) (rd rfl (qBO rfl rfl) ?_)
 exact fin hr
def qdZ (a0 : ByteArray) (a1 : Int) (a2 : Int) : Option (Int × Int) :=
 ((qcH a0).bind fun r1 =>
 (bif (!r1) then
 some (0, 7)
 else
 ((qaH a1).bind fun r3 =>
 (bif (!r3) then
 some (0, 5)
 else
 ((qaH a2).bind fun r5 =>
 (bif (!r5) then
 some (0, 5)
 else
 (bif (a0.toList == (⟨#[43]⟩ : ByteArray).toList) then
 ((qaH (wr (a1 + a2))).bind fun r8 =>
 (bif (!r8) then
 some (0, 5)
 else
 some ((wr (a1 + a2)), 0)))
 else
 (bif (a0.toList == (⟨#[45]⟩ : ByteArray).toList) then
 ((qaH (wr (a1 - a2))).bind fun r11 =>
 (bif (!r11) then
 some (0, 5)
 else
 some ((wr (a1 - a2)), 0)))
 else
 (bif (a0.toList == (⟨#[42]⟩ : ByteArray).toList) then
 ((qaH (wr (a1 * a2))).bind fun r14 =>
 (bif (!r14) then
 some (0, 5)
 else
 some ((wr (a1 * a2)), 0)))
 else
 (bif (a2 == (0 : Int)) then
 some (0, 12)
 else
 ((qeJ a1 a2).bind fun r17 =>
 (bif (a0.toList == (⟨#[37]⟩ : ByteArray).toList) then
 ((qaH (wr (a1 - (wr (r17 * a2))))).bind fun r19 =>
 (bif (!r19) then
 some (0, 5)
 else
 some ((wr (a1 - (wr (r17 * a2)))), 0)))
 else
 ((qaH r17).bind fun r21 =>
 (bif (!r21) then
 some (0, 5)
 else
 some (r17, 0)))))))))))))))
theorem qlD (a0 : ByteArray) (a1 : Int) (a2 : Int) (a : Int × Int) (hr : qdZ a0 a1 a2 = some a) : zf Tryz.prog 178 [.str a0, .int .i64 a1, .int .i64 a2] (.tup [.int .i64 a.1, .int .i64 a.2]) := by
 unfold qdZ at hr
 refine qx Tryz.func178 rfl fun K b c => ?_
 refine st ?_
 refine zj hr rfl qhC (qhq _) (fun r1 h1 hr => ?_)
 refine st ?_
 refine zh 11 rfl hr (fun _ hr => ?_) (fun _ hr => ?_)
 exact fin hr
 refine st ?_
 refine zj hr rfl qdm (qdo _) (fun r3 h3 hr => ?_)
 refine qd 2 rfl ?_
 refine zo 15 rfl hr (fun _ hr => ?_) (fun _ hr => ?_)
 exact fin hr
 refine qd 1 rfl ?_
 refine zj hr rfl qdm (qdo _) (fun r5 h5 hr => ?_)
 refine st ?_
 refine zh 19 rfl hr (fun _ hr => ?_) (fun _ hr => ?_)
 exact fin hr
 refine st ?_
 refine qy ?_
 refine st ?_
 refine rd rfl (qgP rfl rfl rfl rfl) ?_
 refine st ?_
 refine zh 33 rfl hr (fun _ hr => ?_) (fun _ hr => ?_)
 refine st ?_
 refine rd rfl (qeg rfl rfl rfl rfl) ?_
 refine st ?_
 refine zj hr rfl qdm (qdo _) (fun r8 h8 hr => ?_)
 refine st ?_
 refine zh 50 rfl hr (fun _ hr => ?_) (fun _ hr => ?_)
 exact fin hr
 exact fin hr
 refine st ?_
 refine rd rfl (qgP rfl rfl rfl rfl) ?_
 refine st ?_
 refine zh 38 rfl hr (fun _ hr => ?_) (fun _ hr => ?_)
 refine st ?_
 refine rd rfl (qeg rfl rfl rfl rfl) ?_
 refine st ?_
 refine zj hr rfl qdm (qdo _) (fun r11 h11 hr => ?_)
 refine st ?_
 refine zh 50 rfl hr (fun _ hr => ?_) (fun _ hr => ?_)
 exact fin hr
 exact fin hr
 refine st ?_
 refine rd rfl (qgP rfl rfl rfl rfl) ?_
 refine st ?_
 refine zh 43 rfl hr (fun _ hr => ?_) (fun _ hr => ?_)
 refine st ?_
 refine rd rfl (qeg rfl rfl rfl rfl) ?_
 refine st ?_
 refine zj hr rfl qdm (qdo _) (fun r14 h14 hr => ?_)
 refine st ?_
 refine zh 50 rfl hr (fun _ hr => ?_) (fun _ hr => ?_)
 exact fin hr
 exact fin hr
 refine st ?_
 refine zh 22 rfl hr (fun _ hr => ?_) (fun _ hr => ?_)
 exact fin hr
 refine st ?_
 refine zj hr rfl qlB (qlH _ _) (fun r17 h17 hr => ?_)
 refine st ?_
 refine rd rfl (qgP rfl rfl rfl rfl) (qac ?_)
 refine zh 27 rfl hr (fun _ hr => ?_) (fun _ hr => ?_)
 refine st ?_
 refine rd rfl (qeg rfl rfl rfl rfl) (rd rfl (qeg rfl rfl rfl rfl) ?_)
 refine st ?_
 refine zj hr rfl qdm (qdo _) (fun r19 h19 hr => ?_)
 refine st ?_
 refine zh 50 rfl hr (fun _ hr => ?_) (fun _ hr => ?_)
 exact fin hr
 exact fin hr
 refine st ?_
 refine zj hr rfl qdm (qdo _) (fun r21 h21 hr => ?_)
 refine st ?_
 refine zh 50 rfl hr (fun _ hr => ?_) (fun _ hr => ?_)
 exact fin hr
 exact fin hr
def qcX : Nat → T → Option (Int × Int)
 | 0, _ => none
 | fuel + 1, a0 =>
  (fun (rec : T → Option (Int × Int)) =>
   (bif (a0.k == (0 : Int)) then
   ((qaH a0.i).bind fun r2 =>
   (bif (!r2) then
   some (0, 5)
   else
   some (a0.i, 0)))
   else
   (bif (a0.k == (1 : Int)) then
   some (0, 17)
   else
   (bif (a0.k != (2 : Int)) then
   some (0, 11)
   else
   ((qcH a0.s).bind fun r6 =>
   (bif (!r6) then
   some (0, 11)
   else
   (bif ((a0.ar.length : Int) != (2 : Int)) then
   some (0, 11)
   else
   ((zi a0.ar 0).bind fun q_9 =>
   ((rec q_9).bind fun r10 =>
   (bif (r10.2 != (0 : Int)) then
   some (0, r10.2)
   else
   ((zi a0.ar 1).bind fun q_12 =>
   ((rec q_12).bind fun r13 =>
   (bif (r13.2 != (0 : Int)) then
   some (0, r13.2)
   else
   ((qdZ a0.s r10.1 r13.1).bind fun r15 =>
   some (r15.1, r15.2))))))))))))))) (qcX fuel)
theorem qlS (fuel : Nat) (rec : T → Option (Int × Int)) (IHR : ∀ (a0 : T) (a : Int × Int), rec a0 = some a → zf Tryz.prog 164 [zl a0] (.tup [.int .i64 a.1, .int .i64 a.2])) (a0 : T) (a : Int × Int)
 (hr : (bif (a0.k == (0 : Int)) then
((qaH a0.i).bind fun r2 =>
(bif (!r2) then
some (0, 5)
else
some (a0.i, 0)))
else
(bif (a0.k == (1 : Int)) then
some (0, 17)
else
(bif (a0.k != (2 : Int)) then
some (0, 11)
else
((qcH a0.s).bind fun r6 =>
(bif (!r6) then
some (0, 11)
else
(bif ((a0.ar.length : Int) != (2 : Int)) then
some (0, 11)
else
((zi a0.ar 0).bind fun q_9 =>
((rec q_9).bind fun r10 =>
(bif (r10.2 != (0 : Int)) then
some (0, r10.2)
else
((zi a0.ar 1).bind fun q_12 =>
((rec q_12).bind fun r13 =>
(bif (r13.2 != (0 : Int)) then
some (0, r13.2)
else
((qdZ a0.s r10.1 r13.1).bind fun r15 =>
some (r15.1, r15.2)))))))))))))) = some a) : zf Tryz.prog 164 [zl a0] (.tup [.int .i64 a.1, .int .i64 a.2]) := by
 refine qx Tryz.func164 rfl fun K b c => ?_
 refine st ?_
 refine rd rfl (qcG rfl rfl rfl) ?_
 refine st ?_
 refine rd rfl (qG rfl qcC rfl (qgp _) (qgk _) rfl) ?_
 refine st ?_
 refine qy ?_
 refine st ?_
 refine zh 10 rfl hr (fun _ hr => ?_) (fun _ hr => ?_)
 refine st ?_
 refine rd rfl (qG rfl qcI rfl (qgv _) (qgu _) rfl) (qd 1 rfl ?_)
 refine zj hr rfl qdm (qdo _) (fun r2 h2 hr => ?_)
 refine st ?_
 refine zh 15 rfl hr (fun _ hr => ?_) (fun _ hr => ?_)
 exact fin hr
 refine st ?_
 refine rd rfl (qG rfl qcI rfl (qgv _) (qgu _) rfl) ?_
 exact fin hr
 refine st ?_
 refine zh 18 rfl hr (fun _ hr => ?_) (fun _ hr => ?_)
 exact fin hr
 refine st ?_
 refine rd rfl (qG rfl qcC rfl (qgp _) (qgk _) rfl) (qd 3 rfl ?_)
 refine zo 23 rfl hr (fun _ hr => ?_) (fun _ hr => ?_)
 exact fin hr
 refine rd rfl (qG rfl qgn rfl (qmo _) (qmn _) rfl) (qd 1 rfl ?_)
 refine zj hr rfl qhC (qhq _) (fun r6 h6 hr => ?_)
 refine qd 3 rfl ?_
 refine zo 29 rfl hr (fun _ hr => ?_) (fun _ hr => ?_)
 exact fin hr
 refine rd rfl (qG rfl qcx rfl (qhm _) (qhl _) rfl) ?_
 refine st ?_
 refine zh 34 rfl hr (fun _ hr => ?_) (fun _ hr => ?_)
 exact fin hr
 refine st ?_
 refine rd rfl (qG rfl qcx rfl (qhm _) (qhl _) rfl) (qd 1 rfl ?_)
 obtain ⟨q_9, h9, hr⟩ := zd hr
 refine st ?_
 obtain ⟨r10, h10, hr⟩ := zd hr
 refine qdY rfl qe7 (IHR _ _ h10) ?_
 refine st ?_
 refine zh 44 rfl hr (fun _ hr => ?_) (fun _ hr => ?_)
 exact fin hr
 refine st ?_
 refine rd rfl (qG rfl qcx rfl (qhm _) (qhl _) rfl) (qd 1 rfl ?_)
 obtain ⟨q_12, h12, hr⟩ := zd hr
 refine st ?_
 obtain ⟨r13, h13, hr⟩ := zd hr
 refine qdY rfl qe7 (IHR _ _ h13) ?_
 refine st ?_
 refine zh 55 rfl hr (fun _ hr => ?_) (fun _ hr => ?_)
 exact fin hr
 refine st ?_
 refine rd rfl (qG rfl qgn rfl (qmo _) (qmn _) rfl) (qd 3 rfl ?_)
 refine zj hr rfl qlq (qlD _ _ _) (fun r15 h15 hr => ?_)
 exact fin hr
theorem qfS : ∀ (fuel : Nat) (a0 : T) (res : Int × Int), qcX fuel a0 = some res → zf Tryz.prog 164 [zl a0] (.tup [.int .i64 res.1, .int .i64 res.2])
 | 0, _, _, h => by cases h
 | fuel + 1, a0, res, h => qlS fuel (qcX fuel) (qfS fuel) a0 res h
def qeB (fuel : Nat) (a0 : Int) (a1 : T) (a2 : T) : Option Int :=
 ((qcR fuel a1).bind fun r1 =>
 (bif (!r1) then
 some (2)
 else
 ((qcR fuel a2).bind fun r3 =>
 (bif (!r3) then
 some (2)
 else
 ((qc1 fuel a1).bind fun r5 =>
 (bif (!r5) then
 some (0)
 else
 ((qc1 fuel a2).bind fun r7 =>
 (bif (!r7) then
 some (0)
 else
 ((qcX fuel a1).bind fun r9 =>
 ((qcX fuel a2).bind fun r10 =>
 (bif (r9.2 != (0 : Int)) then
 some (2)
 else
 (bif (r10.2 != (0 : Int)) then
 some (2)
 else
 (bif (a0 == (7 : Int)) then
 ((qS (decide (r9.1 < r10.1))).bind fun r14 =>
 some (r14))
 else
 (bif (a0 == (8 : Int)) then
 ((qS (decide (r9.1 ≤ r10.1))).bind fun r16 =>
 some (r16))
 else
 (bif (a0 == (9 : Int)) then
 ((qS (r9.1 == r10.1)).bind fun r18 =>
 some (r18))
 else
 ((qS (r9.1 != r10.1)).bind fun r19 =>
 some (r19)))))))))))))))))
theorem qk6 (fuel : Nat) (a0 : Int) (a1 : T) (a2 : T) (a : Int) (hr : qeB fuel a0 a1 a2 = some a) : zf Tryz.prog 183 [.int .i64 a0, zl a1, zl a2] (.int .i64 a) := by
 unfold qeB at hr
 refine qx Tryz.func183 rfl fun K b c => ?_
 refine st ?_
 refine rd rfl (qcG rfl rfl rfl) (rd rfl (qcG rfl rfl rfl) ?_)
 refine st ?_
 refine zj hr rfl qff (qgf fuel _) (fun r1 h1 hr => ?_)
 refine qd 2 rfl ?_
 refine zo 14 rfl hr (fun _ hr => ?_) (fun _ hr => ?_)
 exact fin hr
 refine qd 1 rfl ?_
 refine zj hr rfl qff (qgf fuel _) (fun r3 h3 hr => ?_)
 refine st ?_
 refine zh 18 rfl hr (fun _ hr => ?_) (fun _ hr => ?_)
 exact fin hr
 refine st ?_
 refine zj hr rfl qgt (qgr fuel _) (fun r5 h5 hr => ?_)
 refine qd 2 rfl ?_
 refine zo 22 rfl hr (fun _ hr => ?_) (fun _ hr => ?_)
 exact fin hr
 refine qd 1 rfl ?_
 refine zj hr rfl qgt (qgr fuel _) (fun r7 h7 hr => ?_)
 refine st ?_
 refine zh 26 rfl hr (fun _ hr => ?_) (fun _ hr => ?_)
 exact fin hr
 refine st ?_
 refine zj hr rfl qe7 (qfS fuel _) (fun r9 h9 hr => ?_)
 refine st ?_
 refine zj hr rfl qe7 (qfS fuel _) (fun r10 h10 hr => ?_)
 refine st ?_
 refine zo 39 rfl hr (fun _ hr => ?_) (fun _ hr => ?_)
 exact fin hr
 refine st ?_
 refine zh 42 rfl hr (fun _ hr => ?_) (fun _ hr => ?_)
 exact fin hr
 refine st ?_
 refine qy ?_
 refine st ?_
 refine zh 44 rfl hr (fun _ hr => ?_) (fun _ hr => ?_)
 refine st ?_
 refine zj hr rfl qbm (qbo _) (fun r14 h14 hr => ?_)
 exact fin hr
 refine st ?_
 refine zh 50 rfl hr (fun _ hr => ?_) (fun _ hr => ?_)
 refine st ?_
 refine zj hr rfl qbm (qbo _) (fun r16 h16 hr => ?_)
 exact fin hr
 refine st ?_
 refine zh 56 rfl hr (fun _ hr => ?_) (fun _ hr => ?_)
 refine st ?_
 refine zj hr rfl qbm (qbo _) (fun r18 h18 hr => ?_)
 exact fin hr
 refine st ?_
 refine zj hr rfl qbm (qbo _) (fun r19 h19 hr => ?_)
 exact fin hr
def qP (k : List qb → List Int → Int → Int → ByteArray → List Int → Option (Int × (List qb) × (List Int))) (rec : T → List qb → List Int → Option (Int × (List qb) × (List Int))) : List T → List qb → List Int → Int → Int → ByteArray → List Int → Option (Int × (List qb) × (List Int))
 | [], g10, g11, x12, x13, x14, x15 =>
 (k g10 g11 x12 x13 x14 x15)
 | q_29 :: rest, g10, g11, x12, x13, x14, x15 =>
 ((rec q_29 g10 g11).bind fun r31 =>
 ((zF 8 x15 [r31.1]).bind fun l32 =>
 (qP k rec rest r31.2.1 r31.2.2 x12 x13 x14 l32)))
def qE (k : Option (Int × (List qb) × (List Int))) (c_0_0 : List qb) (c_0_1 : List Int) (a1 : T) : List qb → Nat → Option (Int × (List qb) × (List Int))
 | [], i36 =>
 k
 | q_39 :: rest, i36 =>
 (bif (q_39.fa == (1 : Int)) then
 (bif (q_39.fj == a1.i) then
 some ((i36 : Int), c_0_0, c_0_1)
 else
 (qE k c_0_0 c_0_1 a1 rest (i36 + 1)))
 else
 (qE k c_0_0 c_0_1 a1 rest (i36 + 1)))
def qcv (k : List qb → List Int → Option (Int × (List qb) × (List Int))) (c_0_0 : List qb) (c_0_1 : List Int) (a1 : T) : Option (Int × (List qb) × (List Int)) :=
 (bif (a1.k == (1 : Int)) then
 (qE ((k c_0_0 c_0_1)) c_0_0 c_0_1 a1 c_0_0 0)
 else
 (k c_0_0 c_0_1))
def qar : Nat → T → List qb → List Int → Option (Int × (List qb) × (List Int))
 | 0, _, _, _ => none
 | fuel + 1, a1, c_0_0, c_0_1 =>
  (fun (rec : T → List qb → List Int → Option (Int × (List qb) × (List Int))) =>
   (qcv (fun g3 g4 =>
   (qP (fun g18 g19 x21 x22 x23 x24 =>
   ((zF 56 g18 [(⟨x21, x22, x23, x24⟩ : qb)]).bind fun l25 =>
   ((zF 8 g19 [(wr ((l25.length : Int) - (1 : Int)))]).bind fun l27 =>
   some ((wr ((l25.length : Int) - (1 : Int))), l25, l27)))) rec a1.ar g3 g4 a1.k a1.i a1.s [])) c_0_0 c_0_1 a1)) (qar fuel)
theorem qh6 (fuel : Nat) (rec : T → List qb → List Int → Option (Int × (List qb) × (List Int))) (IHR : ∀ (a1 : T) (b : List qb) (e : List Int) (a : Nat) (g : Value) (h : Value) (c : Int × (List qb) × (List Int)), rec a1 b e = some c → Spec Tryz.prog 199 [.ref a 0 [], zl a1] [.cell a (.agg [.own g (b.map qa), .vec h e.length]), .row g b.length 259 4, .vec h (e.map (D.int .i64)) 3 1] (fun d σ => ∃ (u_o1' : Value) (u_o2' : Value), d = .int .i64 c.1 ∧ σ = [.cell a (.agg [.own u_o1' (c.2.1.map qa), .vec u_o2' c.2.2.length]), .row u_o1' c.2.1.length 259 4, .vec u_o2' (c.2.2.map (D.int .i64)) 3 1])) (a1 : T) (b : List qb) (e : List Int) (a : Nat) (g : Value) (h : Value) (c : Int × (List qb) × (List Int))
 (hr : (qcv (fun g3 g4 =>
(qP (fun g18 g19 x21 x22 x23 x24 =>
((zF 56 g18 [(⟨x21, x22, x23, x24⟩ : qb)]).bind fun l25 =>
((zF 8 g19 [(wr ((l25.length : Int) - (1 : Int)))]).bind fun l27 =>
some ((wr ((l25.length : Int) - (1 : Int))), l25, l27)))) rec a1.ar g3 g4 a1.k a1.i a1.s [])) b e a1) = some c) : Spec Tryz.prog 199 [.ref a 0 [], zl a1] [.cell a (.agg [.own g (b.map qa), .vec h e.length]), .row g b.length 259 4, .vec h (e.map (D.int .i64)) 3 1] (fun d σ => ∃ (u_o1' : Value) (u_o2' : Value), d = .int .i64 c.1 ∧ σ = [.cell a (.agg [.own u_o1' (c.2.1.map qa), .vec u_o2' c.2.2.length]), .row u_o1' c.2.1.length 259 4, .vec u_o2' (c.2.2.map (D.int .i64)) 3 1]) := by
 refine qx Tryz.func199 rfl fun K E F => ?_
 refine st ?_
 refine rd rfl (qcG rfl rfl rfl) (qd 1 rfl (qac ?_))
 obtain ⟨kkJ0, hkkJ0, hr⟩ := exK (fun k => qcv k b e a1) hr
 refine qqs (fun env σ => ∃ (g3 : List qb) (g4 : List Int) (u1 : Value) (u2 : Value), env = [(0, .ref a 0 []), (3, .ptr (zl a1))] ∧ σ = [.cell a (.agg [.own u1 (g3.map qa), .vec u2 g4.length]), .row u1 g3.length 259 4, .vec u2 (g4.map (D.int .i64)) 3 1] ∧ kkJ0 g3 g4 = some c) ?_ (fun HKJ0 => ?_)
 rintro _ _ ⟨g3, g4, u1, u2, rfl, rfl, hr⟩
 rw [hkkJ0] at hr
 refine qai (qox 3 1 (ze 9 81920 (rd rfl (qG rfl qcC rfl (qgp _) (qgk _) rfl) (qd 1 rfl (rd rfl (qG rfl qcI rfl (qgv _) (qgu _) rfl) (qd 1 rfl (rd rfl (qG rfl qgn rfl (qmo _) (qmn _) rfl) (qd 1 rfl (rd rfl (qay rfl qla (.oc rfl (.oc rfl (.oc rfl .nil))) (.cons rfl rfl rfl (.cons rfl rfl rfl (.cons rfl rfl rfl (.nil _))))) (ew rfl (qau rfl qiX) ?_))))))))))
 rintro _ _ ⟨b6_4, rfl, rfl⟩
 refine qbZ rfl (pf0 _) ?_
 refine st ?_
 obtain ⟨o, q, hr⟩ := exK (fun k => qP k rec a1.ar g3 g4 a1.k a1.i a1.s []) hr
 refine qqZ 3 [3] (l := a1.ar.map zl) rfl (subT3 _) (asl rfl) fun r => ?_
 simp only [jb] at r
 refine qq (fun env σ => ∃ (g18 : List qb) (g19 : List Int) (x21 : Int) (x22 : Int) (x23 : ByteArray) (x24 : List Int) (u16 : Value) (u17 : Value) (u20 : Value), env = [(0, .ref a 0 []), (6, .ref b6_4 0 [])] ∧ σ = [.cell a (.agg [.own u16 (g18.map qa), .vec u17 g19.length]), .row u16 g18.length 259 4, .vec u17 (g19.map (D.int .i64)) 3 1, .cell b6_4 (.agg [.int .i64 x21, .int .i64 x22, .str x23, .own u20 (x24.map (D.int .i64))]), .row u20 x24.length 3 1] ∧ o g18 g19 x21 x22 x23 x24 = some c) ?_ (fun G => ?_)
 rintro _ _ ⟨g18, g19, x21, x22, x23, x24, u16, u17, u20, rfl, rfl, hr⟩
 rw [q] at hr
 refine qai (qdH 11 1067520 (qd 2 rfl (rd rfl (qM rfl rfl) (rd rfl (qg rfl qk rfl) (qbR 0 rfl (qbR 3 rfl (rd rfl (qet (f := qa) [.tmp 74] [(⟨x21, x22, x23, x24⟩ : qb)] rfl qgq rfl rfl od od (.cons rfl (Wk.agg (.cons (Wk.refl _) (.cons (Wk.refl _) (.cons (Wk.refl _) (.cons (Wk.own _ _) .nil))))) .nil) qez (fun _ => rfl)) ?_)))))))
 obtain ⟨l25, h25, hr⟩ := zd hr
 refine ew rfl (qah (f := qa) g18 [(⟨x21, x22, x23, x24⟩ : qb)] rfl qgq rfl rfl (asl rfl) (pf1 _ _ _) rfl qez h25) ?_
 rintro _ _ ⟨u76_25, rfl, rfl⟩
 refine rd rfl (qM rfl rfl) (rd rfl (qg rfl qk rfl) (z9 rfl (qc9 _ rfl rfl rfl (Wk.refl _) (pf1 _ _ _) rfl rfl (by exact qh2) rfl rfl rfl) ?_))
 refine st ?_
 refine qdH 16 1090650624 (qd 2 rfl (rd rfl (qM rfl rfl) (rd rfl (qg rfl qY rfl) (qbR 0 rfl (qd 1 rfl (rd rfl (qM rfl rfl) (rd rfl (qg rfl qk rfl) (qbR 0 rfl (qjz rfl (rd rfl (qeg rfl rfl rfl rfl) (rd rfl (qet (f := (D.int .i64)) [.tmp 89] [(wr ((l25.length : Int) - (1 : Int)))] rfl qaS rfl rfl od od (.oc rfl .nil) (fun _ => rfl) (fun _ => rfl)) ?_)))))))))))
 obtain ⟨l27, h27, hr⟩ := zd hr
 refine ew rfl (qBL (f := (D.int .i64)) g19 [(wr ((l25.length : Int) - (1 : Int)))] rfl qaS rfl rfl (asl rfl) (pf2 _ _ _ _) (fun _ => rfl) h27) ?_
 rintro _ _ ⟨u91_27, rfl, rfl⟩
 refine rd rfl (qM rfl rfl) (rd rfl (qg rfl qY rfl) (z9 rfl (qc9 _ rfl rfl rfl (Wk.refl _) (pf1 _ _ _) rfl rfl (by exact qkM) rfl rfl rfl) ?_))
 refine st0 ?_
 refine ze 7 128 (qd 1 rfl (rd rfl (qM rfl rfl) (rd rfl (qg rfl qk rfl) (qbR 0 rfl (qjz rfl (rd rfl (qeg rfl rfl rfl rfl) (qd 1 rfl (qac (qbA [_, _, _] _ (pS [1, 2, 2] _) ?_)))))))))
 cases hr
 refine qiZ Tryz.func199 rfl ?_
 exact ⟨u76_25, u91_27, rfl, rfl⟩
 refine qab [0, 3, 6, 7] rfl (qbA [_, _, _, _, _] _ (pS [1, 1, 4, 4, 4] _) (qR (fun n env σ => ∃ (i9 : Nat) (g10 : List qb) (g11 : List Int) (x12 : Int) (x13 : Int) (x14 : ByteArray) (x15 : List Int) (u6 : Value) (u7 : Value) (u8 : Value), n = a1.ar.length - i9 ∧ (env = [(0, .ref a 0 []), (3, .ptr (zl a1)), (6, .ref b6_4 0 []), (7, .int .i64 (i9 : Int))]) ∧ (σ = [.cell a (.agg [.own u6 (g10.map qa), .vec u7 g11.length]), .row u6 g10.length 259 4, .vec u7 (g11.map (D.int .i64)) 3 1, .cell b6_4 (.agg [.int .i64 x12, .int .i64 x13, .str x14, .own u8 (x15.map (D.int .i64))]), .row u8 x15.length 3 1]) ∧ (i9 ≤ a1.ar.length) ∧ (qP o rec (a1.ar.drop i9) g10 g11 x12 x13 x14 x15 = some c)) _ ⟨0, g3, g4, a1.k, a1.i, a1.s, [], u1, u2, (.slice none 0 0 ), rfl, rfl, rfl, jc _, hr⟩ ?_))
 rintro n _ _ ⟨i9, g10, g11, x12, x13, x14, x15, u6, u7, u8, rfl, rfl, rfl, t, hr⟩ u
 rcases zb a1.ar i9 t with ⟨v, j, H⟩ | ⟨q_29, v, j, y, I⟩
 rw [j, qP] at hr
 refine st ?_
 refine rd rfl (qG rfl qcx rfl (qhm _) (qhl _) rfl) ?_
 exact fin hr
 rw [j, qP] at hr
 refine st ?_
 refine rd rfl (qG rfl qcx rfl (qhm _) (qhl _) rfl) ?_
 refine st ?_
 refine qy ?_
 obtain ⟨r31, h31, hr⟩ := zd hr
 obtain ⟨l32, h32, hr⟩ := zd hr
 refine qBW ob ob [(0, .d), (2, .d), (3, .d), (4, .d), (5, .d), (6, .d), (7, .d)] [(1, .x), (8, .w), (9, .d), (10, .w), (11, .d), (12, .w)] [(8, .x), (9, .d), (1, .w), (10, .w), (11, .d), (12, .w)] ob (fun env σ => ∃ (u67_r11_29 : Value) (u65_r11_29_1 : Value) (u65_r11_29_2 : Value), Sub [(0, .ref a 0 []), (3, .ptr (zl a1)), (6, .ref b6_4 0 []), (7, .int .i64 (i9 : Int))] env ∧ σ.Perm [.cell b6_4 (.agg [.int .i64 x12, .int .i64 x13, .str x14, .own u67_r11_29 (l32.map (D.int .i64))]), .row u67_r11_29 l32.length 3 1, .cell a (.agg [.own u65_r11_29_1 (r31.2.1.map qa), .vec u65_r11_29_2 r31.2.2.length]), .row u65_r11_29_1 r31.2.1.length 259 4, .vec u65_r11_29_2 (r31.2.2.map (D.int .i64)) 3 1]) ?_ ?_
 refine rd rfl (qg rfl qfo rfl) (qd 1 rfl (rd rfl (qG rfl qcx rfl (qhm _) (qhl _) rfl) (qd 2 rfl (qps y rfl (qd 1 rfl ?_)))))
 refine qac ⟨?_, ?_⟩
 refine r_xr rfl rfl rfl (qey rfl rfl (.tail _ (.tail _ (.tail _ (.head _)))) rfl rfl (by exact qkM) rfl) (ew rfl (qiP _ rfl qei (.oc rfl (.oc rfl .nil)) (by exact (pf0 _)) (IHR _ _ _ _ _ _ _ h31)) ?_)
 rintro _ _ ⟨_, ⟨u65_r11_29_1, u65_r11_29_2, rfl, rfl⟩, rfl⟩
 refine y7 ((.cell a (.agg [.own u65_r11_29_1 (r31.2.1.map qa), .vec u65_r11_29_2 r31.2.2.length])) :: (.row u65_r11_29_1 r31.2.1.length 259 4) :: (.vec u65_r11_29_2 (r31.2.2.map (D.int .i64)) 3 1) :: _) rfl (rd rfl (qet (f := (D.int .i64)) [.tmp 65] [r31.1] rfl qaS rfl rfl od od (.oc rfl .nil) (fun _ => rfl) (fun _ => rfl)) (ew rfl (qah (f := (D.int .i64)) x15 [r31.1] rfl qaS rfl rfl (asl rfl) (pf4 _ _ _ _ _ _) rfl (fun _ => rfl) h32) ?_))
 rintro _ _ ⟨u67_r11_29, rfl, rfl⟩
 refine rd rfl (qg rfl qfo rfl) (z9 rfl (qc9 _ rfl rfl rfl (Wk.refl _) (pf4 _ _ _ _ _ _) rfl rfl (by exact qkM) rfl rfl rfl) (qac ?_))
 exact ⟨u67_r11_29, u65_r11_29_1, u65_r11_29_2, (sbr rfl), (pf0 _)⟩
 refine r_x rfl rfl rfl (qiP _ rfl qei (.oc rfl (.oc rfl .nil)) (by exact (pf0 _)) (IHR _ _ _ _ _ _ _ h31)) ?_
 rintro _ _ ⟨_, ⟨u65_r11_29_1, u65_r11_29_2, rfl, rfl⟩, rfl⟩
 refine y7 ((.cell a (.agg [.own u65_r11_29_1 (r31.2.1.map qa), .vec u65_r11_29_2 r31.2.2.length])) :: (.row u65_r11_29_1 r31.2.1.length 259 4) :: (.vec u65_r11_29_2 (r31.2.2.map (D.int .i64)) 3 1) :: _) rfl (rd rfl (qet (f := (D.int .i64)) [.tmp 65] [r31.1] rfl qaS rfl rfl od od (.oc rfl .nil) (fun _ => rfl) (fun _ => rfl)) (zbb 3 rfl (ew rfl (qah (f := (D.int .i64)) x15 [r31.1] rfl qaS rfl rfl (asl rfl) (pf4 _ _ _ _ _ _) rfl (fun _ => rfl) h32) ?_)))
 rintro _ _ ⟨u67_r11_29, rfl, rfl⟩
 refine rd rfl (qg rfl qfo rfl) (z9 rfl (qc9 _ rfl rfl rfl (Wk.refl _) (pf4 _ _ _ _ _ _) rfl rfl (by exact qkM) rfl rfl rfl) (qac ?_))
 exact ⟨u67_r11_29, u65_r11_29_1, u65_r11_29_2, (sbr rfl), (pf0 _)⟩
 rintro _ _ ⟨u67_r11_29, u65_r11_29_1, u65_r11_29_2, hs, hp⟩
 refine qob hs hp (qfZ (ze 3 0 (qd 1 rfl (qnL rfl (qd 1 rfl (qac (qab [0, 3, 6, 7] rfl (qbA [_, _, _, _, _] _ (pS [1, 1, 4, 4, 4] _) ?_))))))))
 exact u _ _ _ oa ⟨(i9 + 1), r31.2.1, r31.2.2, x12, x13, x14, l32, u65_r11_29_1, u65_r11_29_2, u67_r11_29, rfl, rfl, rfl, oa, hr⟩
 unfold qcv at hr
 refine st ?_
 refine rd rfl (qG rfl qcC rfl (qgp _) (qgk _) rfl) ?_
 refine st ?_
 refine zh 10 rfl hr (fun _ hr => ?_) (fun _ hr => ?_)
 refine st ?_
 obtain ⟨p, z, hr⟩ := exK (fun k => qE k b e a1 b 0) hr
 refine qw7 [0] (l := b.map qa) (.head _) (by first | rfl | simp [yX, qfk]) (asl rfl) fun A => ?_
 simp only [jb] at A
 refine qq (fun env σ => ∃ (u37 : Value) (u38 : Value), env = [(0, .ref a 0 []), (3, .ptr (zl a1))] ∧ σ = [.cell a (.agg [.own u37 (b.map qa), .vec u38 e.length]), .row u37 b.length 259 4, .vec u38 (e.map (D.int .i64)) 3 1] ∧ p = some c) ?_ (fun J => ?_)
 rintro _ _ ⟨u37, u38, rfl, rfl, hr⟩
 rw [z] at hr
 exact fin hr
 refine qab [0, 3, 5] rfl (qR (fun n env σ => ∃ (i36 : Nat) (u34 : Value) (u35 : Value), n = b.length - i36 ∧ (env = [(0, .ref a 0 []), (3, .ptr (zl a1)), (5, .int .i64 (i36 : Int))]) ∧ (σ = [.cell a (.agg [.own u34 (b.map qa), .vec u35 e.length]), .row u34 b.length 259 4, .vec u35 (e.map (D.int .i64)) 3 1]) ∧ (i36 ≤ b.length) ∧ (qE p b e a1 (b.drop i36) i36 = some c)) _ ⟨0, g, h, rfl, rfl, rfl, jc _, hr⟩ ?_)
 rintro n _ _ ⟨i36, u34, u35, rfl, rfl, rfl, B, hr⟩ L
 rcases zb b i36 B with ⟨C, m, M⟩ | ⟨q_39, C, m, N, O⟩
 rw [m, qE] at hr
 refine st0 ?_
 refine ze 7 512 (qd 2 rfl (rd rfl (qM rfl rfl) (rd rfl (qg rfl qk rfl) (qbR 0 rfl ?_))))
 exact fin hr
 rw [m, qE] at hr
 refine st0 ?_
 refine ze 7 512 (qd 2 rfl (rd rfl (qM rfl rfl) (rd rfl (qg rfl qk rfl) (qbR 0 rfl ?_))))
 refine st ?_
 refine qy (qai (qdH 22 134217856 (qd 1 rfl (rd rfl (qM rfl rfl) (rd rfl (qg rfl qk rfl) (qbR 0 rfl ?_))))))
 refine st ?_
 refine zo 29 rfl hr (fun _ hr => ?_) (fun _ hr => ?_)
 refine qd 1 rfl (rd rfl (qM rfl rfl) (rd rfl (qg rfl qk rfl) (qbR 0 rfl ?_)))
 refine st ?_
 refine rd rfl (qG rfl qcI rfl (qgv _) (qgu _) rfl) ?_
 refine st ?_
 refine zh 41 rfl hr (fun _ hr => ?_) (fun _ hr => ?_)
 refine st ?_
 cases hr
 refine qiZ Tryz.func199 rfl ?_
 exact ⟨u34, u35, rfl, rfl⟩
 exact fin hr
 exact fin hr
 exact fin hr
theorem qeX : ∀ (fuel : Nat) (a1 : T) (c_0_0 : List qb) (c_0_1 : List Int) (b_o0 : Nat) (u_o1 : Value) (u_o2 : Value) (res : Int × (List qb) × (List Int)), qar fuel a1 c_0_0 c_0_1 = some res → Spec Tryz.prog 199 [.ref b_o0 0 [], zl a1] [.cell b_o0 (.agg [.own u_o1 (c_0_0.map qa), .vec u_o2 c_0_1.length]), .row u_o1 c_0_0.length 259 4, .vec u_o2 (c_0_1.map (D.int .i64)) 3 1] (fun d σ => ∃ (u_o1' : Value) (u_o2' : Value), d = .int .i64 res.1 ∧ σ = [.cell b_o0 (.agg [.own u_o1' (res.2.1.map qa), .vec u_o2' res.2.2.length]), .row u_o1' res.2.1.length 259 4, .vec u_o2' (res.2.2.map (D.int .i64)) 3 1])
 | 0, _, _, _, _, _, _, _, h => by cases h
 | fuel + 1, a1, c_0_0, c_0_1, b_o0, u_o1, u_o2, res, h => qh6 fuel (qar fuel) (qeX fuel) a1 c_0_0 c_0_1 b_o0 u_o1 u_o2 res h
def qF (k : Option Int) (c_0_1 : List Int) (a1 : Int) : List qb → Nat → Option Int
 | [], i1 =>
 k
 | q_2 :: rest, i1 =>
 ((zi c_0_1 (i1 : Int)).bind fun q_3 =>
 (bif (q_3 == a1) then
 (bif (q_2.fa != (1 : Int)) then
 some ((i1 : Int))
 else
 (qF k c_0_1 a1 rest (i1 + 1)))
 else
 (qF k c_0_1 a1 rest (i1 + 1))))
def qC (a1 : Int) (c_0_0 : List qb) (c_0_1 : List Int) : Option Int :=
 (qF (some ((-1))) c_0_1 a1 c_0_0 0)
theorem qcQ (a1 : Int) (a : List qb) (b : List Int) (g : Nat) (c : Value) (e : Value) (h : Int) (hr : qC a1 a b = some h) : Spec Tryz.prog 202 [.ref g 0 [], .int .i64 a1] [.cell g (.agg [.own c (a.map qa), .vec e b.length]), .row c a.length 259 4, .vec e (b.map (D.int .i64)) 3 1] (fun d σ => d = .int .i64 h ∧ σ = [.cell g (.agg [.own c (a.map qa), .vec e b.length]), .row c a.length 259 4, .vec e (b.map (D.int .i64)) 3 1]) := by
 unfold qC at hr
 refine qx Tryz.func202 rfl fun K r s => ?_
 refine st ?_
 obtain ⟨j, m, hr⟩ := exK (fun k => qF k b a1 a 0) hr
 refine qw7 [0] (l := a.map qa) (.head _) (by first | rfl | simp [yX, qfk]) (asl rfl) fun o => ?_
 simp only [jb] at o
 refine qq (fun env σ => env = [] ∧ σ = [.cell g (.agg [.own c (a.map qa), .vec e b.length]), .row c a.length 259 4, .vec e (b.map (D.int .i64)) 3 1] ∧ j = some h) ?_ (fun t => ?_)
 rintro _ _ ⟨rfl, rfl, hr⟩
 rw [m] at hr
 refine st ?_
 cases hr
 refine qiZ Tryz.func202 rfl ?_
 exact ⟨rfl, rfl⟩
 refine qab [0, 1, 5] rfl (qR (fun n env σ => ∃ (i1 : Nat), n = a.length - i1 ∧ (env = [(0, .ref g 0 []), (1, .int .i64 a1), (5, .int .i64 (i1 : Int))]) ∧ (σ = [.cell g (.agg [.own c (a.map qa), .vec e b.length]), .row c a.length 259 4, .vec e (b.map (D.int .i64)) 3 1]) ∧ (i1 ≤ a.length) ∧ (qF j b a1 (a.drop i1) i1 = some h)) _ ⟨0, rfl, rfl, rfl, jc _, hr⟩ ?_)
 rintro n _ _ ⟨i1, rfl, rfl, rfl, p, hr⟩ u
 rcases zb a i1 p with ⟨q, i, v⟩ | ⟨q_2, q, i, w, x⟩
 rw [i, qF] at hr
 refine st0 ?_
 refine ze 7 512 (qd 2 rfl (rd rfl (qM rfl rfl) (rd rfl (qg rfl qk rfl) (qbR 0 rfl ?_))))
 exact fin hr
 rw [i, qF] at hr
 refine st0 ?_
 refine ze 7 512 (qd 2 rfl (rd rfl (qM rfl rfl) (rd rfl (qg rfl qk rfl) (qbR 0 rfl ?_))))
 refine st ?_
 refine qy (qai (ze 20 134228096 (qd 1 rfl (rd rfl (qM rfl rfl) (rd rfl (qg rfl qY rfl) (qbR 0 rfl (qd 1 rfl ?_)))))))
 obtain ⟨q_3, h3, hr⟩ := zd hr
 have hq_3_n := (qbV h3).2
 refine er rfl (qgg (f := (D.int .i64)) b rfl qaS rfl rfl h3 (.tail _ (.tail _ (.head _)))) (er rfl (qj6 rfl rfl (.tail _ (.tail _ (.head _))) (zao hq_3_n) rfl rfl (by exact qfj) rfl) (qd 3 rfl ?_))
 refine zo 24 rfl hr (fun _ hr => ?_) (fun _ hr => ?_)
 refine qd 1 rfl (rd rfl (qM rfl rfl) (rd rfl (qg rfl qk rfl) (qbR 0 rfl ?_)))
 refine st ?_
 refine zh 34 rfl hr (fun _ hr => ?_) (fun _ hr => ?_)
 refine st ?_
 cases hr
 refine qiZ Tryz.func202 rfl ?_
 exact ⟨rfl, rfl⟩
 exact fin hr
 exact fin hr
def qI (k : List qb → List Int → Option (Bool × (List qb) × (List Int))) (rec : Int → Int → List qb → List Int → Option (Bool × (List qb) × (List Int))) (q_19 : qb) : List Int → Nat → List qb → List Int → Option (Bool × (List qb) × (List Int))
 | [], i26, g27, g28 =>
 (k g27 g28)
 | q_33 :: rest, i26, g27, g28 =>
 ((zi q_19.fe (i26 : Int)).bind fun q_34 =>
 ((rec q_33 q_34 g27 g28).bind fun r35 =>
 (bif (!r35.1) then
 some (false, r35.2.1, r35.2.2)
 else
 (qI k rec q_19 rest (i26 + 1) r35.2.1 r35.2.2))))
def qT (k : List qb → List Int → Option (Bool × (List qb) × (List Int))) (q1 : Int) (q_2 : Int) : Nat → Int → List qb → List Int → Option (Bool × (List qb) × (List Int))
 | 0, i8, g9, g10 =>
 none
 | rest + 1, i8, g9, g10 =>
 (bif (decide (i8 < (g10.length : Int))) then
 ((zi g10 i8).bind fun q40 =>
 (bif (q40 == q_2) then
 (qT k q1 q_2 rest (wr (i8 + (1 : Int))) g9 (g10.set i8.toNat q1))
 else
 (qT k q1 q_2 rest (wr (i8 + (1 : Int))) g9 g10)))
 else
 (k g9 g10))
def q8 : Nat → Int → Int → List qb → List Int → Option (Bool × (List qb) × (List Int))
 | 0, _, _, _, _ => none
 | fuel + 1, a1, a2, c_0_0, c_0_1 =>
  (fun (rec : Int → Int → List qb → List Int → Option (Bool × (List qb) × (List Int))) =>
   ((zi c_0_1 a1).bind fun q1 =>
   ((zi c_0_1 a2).bind fun q_2 =>
   (bif (q1 == q_2) then
   some (true, c_0_0, c_0_1)
   else
   ((qC q1 c_0_0 c_0_1).bind fun r4 =>
   ((qC q_2 c_0_0 c_0_1).bind fun r5 =>
   (qT (fun g13 g14 =>
   (bif (decide (r4 < (0 : Int))) then
   some (true, g13, g14)
   else
   (bif (decide (r5 < (0 : Int))) then
   some (true, g13, g14)
   else
   ((zi g13 r4).bind fun q_18 =>
   ((zi g13 r5).bind fun q_19 =>
   (bif (q_18.fa != q_19.fa) then
   some (false, g13, g14)
   else
   (bif (q_18.fj != q_19.fj) then
   some (false, g13, g14)
   else
   (bif (!(q_18.fF.toList == q_19.fF.toList)) then
   some (false, g13, g14)
   else
   (bif ((q_18.fe.length : Int) != (q_19.fe.length : Int)) then
   some (false, g13, g14)
   else
   (qI (fun g31 g32 =>
   some (true, g31, g32)) rec q_19 q_18.fe 0 g13 g14)))))))))) q1 q_2 fuel 0 c_0_0 c_0_1))))))) (q8 fuel)
theorem qiA (fuel : Nat) (rec : Int → Int → List qb → List Int → Option (Bool × (List qb) × (List Int))) (IHR : ∀ (a1 : Int) (a2 : Int) (g : List qb) (e : List Int) (a : Nat) (h : Value) (i : Value) (c : Bool × (List qb) × (List Int)), rec a1 a2 g e = some c → Spec Tryz.prog 200 [.ref a 0 [], .int .i64 a1, .int .i64 a2] [.cell a (.agg [.own h (g.map qa), .vec i e.length]), .row h g.length 259 4, .vec i (e.map (D.int .i64)) 3 1] (fun d σ => ∃ (u_o1' : Value) (u_o2' : Value), d = .bool c.1 ∧ σ = [.cell a (.agg [.own u_o1' (c.2.1.map qa), .vec u_o2' c.2.2.length]), .row u_o1' c.2.1.length 259 4, .vec u_o2' (c.2.2.map (D.int .i64)) 3 1])) (a1 : Int) (a2 : Int) (g : List qb) (e : List Int) (a : Nat) (h : Value) (i : Value) (c : Bool × (List qb) × (List Int))
 (hr : ((zi e a1).bind fun q1 =>
((zi e a2).bind fun q_2 =>
(bif (q1 == q_2) then
some (true, g, e)
else
((qC q1 g e).bind fun r4 =>
((qC q_2 g e).bind fun r5 =>
(qT (fun g13 g14 =>
(bif (decide (r4 < (0 : Int))) then
some (true, g13, g14)
else
(bif (decide (r5 < (0 : Int))) then
some (true, g13, g14)
else
((zi g13 r4).bind fun q_18 =>
((zi g13 r5).bind fun q_19 =>
(bif (q_18.fa != q_19.fa) then
some (false, g13, g14)
else
(bif (q_18.fj != q_19.fj) then
some (false, g13, g14)
else
(bif (!(q_18.fF.toList == q_19.fF.toList)) then
some (false, g13, g14)
else
(bif ((q_18.fe.length : Int) != (q_19.fe.length : Int)) then
some (false, g13, g14)
else
(qI (fun g31 g32 =>
some (true, g31, g32)) rec q_19 q_18.fe 0 g13 g14)))))))))) q1 q_2 fuel 0 g e)))))) = some c) : Spec Tryz.prog 200 [.ref a 0 [], .int .i64 a1, .int .i64 a2] [.cell a (.agg [.own h (g.map qa), .vec i e.length]), .row h g.length 259 4, .vec i (e.map (D.int .i64)) 3 1] (fun d σ => ∃ (u_o1' : Value) (u_o2' : Value), d = .bool c.1 ∧ σ = [.cell a (.agg [.own u_o1' (c.2.1.map qa), .vec u_o2' c.2.2.length]), .row u_o1' c.2.1.length 259 4, .vec u_o2' (c.2.2.map (D.int .i64)) 3 1]) := by
 refine qx Tryz.func200 rfl fun K u v => ?_
 refine st ?_
 refine qdH 16 169879680 (qd 1 rfl (rd rfl (qM rfl rfl) (rd rfl (qg rfl qY rfl) (qbR 0 rfl (qd 1 rfl ?_)))))
 obtain ⟨q1, h1, hr⟩ := zd hr
 have hq_1_n := (qbV h1).2
 refine er rfl (qgg (f := (D.int .i64)) e rfl qaS rfl rfl h1 (.tail _ (.tail _ (.head _)))) (er rfl (qj6 rfl rfl (.tail _ (.tail _ (.head _))) (zao hq_1_n) rfl rfl (by exact qfj) rfl) (qd 1 rfl (rd rfl (qM rfl rfl) (rd rfl (qg rfl qY rfl) (qbR 0 rfl (qd 1 rfl ?_))))))
 obtain ⟨q_2, h2, hr⟩ := zd hr
 have hq_2_n := (qbV h2).2
 refine er rfl (qgg (f := (D.int .i64)) e rfl qaS rfl rfl h2 (.tail _ (.tail _ (.head _)))) (er rfl (qj6 rfl rfl (.tail _ (.tail _ (.head _))) (zao hq_2_n) rfl rfl (by exact qfj) rfl) ?_)
 refine st ?_
 refine zh 31 rfl hr (fun _ hr => ?_) (fun _ hr => ?_)
 refine st ?_
 cases hr
 refine qiZ Tryz.func200 rfl ?_
 exact ⟨h, i, rfl, rfl⟩
 ·
  refine st0 ?_
  refine ze 8 2080 (qd 2 rfl ?_)
  obtain ⟨r4, h4, hr⟩ := zd hr
  refine er rfl (qjf _ rfl qdl (.oc rfl (.oc rfl .nil)) (by exact (pf0 _)) (qcQ _ _ _ _ _ _ _ h4)) ?_
  refine qd 2 rfl ?_
  obtain ⟨r5, h5, hr⟩ := zd hr
  refine er rfl (qjf _ rfl qdl (.oc rfl (.oc rfl .nil)) (by exact (pf0 _)) (qcQ _ _ _ _ _ _ _ h5)) ?_
  refine st ?_
  obtain ⟨l, o, hr⟩ := exK (fun k => qT k q1 q_2 fuel 0 g e) hr
  refine qq (fun env σ => ∃ (g13 : List qb) (g14 : List Int) (u11 : Value) (u12 : Value), env = [(0, .ref a 0 []), (9, .int .i64 r4), (10, .int .i64 r5)] ∧ σ = [.cell a (.agg [.own u11 (g13.map qa), .vec u12 g14.length]), .row u11 g13.length 259 4, .vec u12 (g14.map (D.int .i64)) 3 1] ∧ l g13 g14 = some c) ?_ (fun w => ?_)
  ·
   rintro _ _ ⟨g13, g14, u11, u12, rfl, rfl, hr⟩
   rw [o] at hr
   refine st ?_
   refine zo 65 rfl hr (fun _ hr => ?_) (fun _ hr => ?_)
   ·
    refine st ?_
    cases hr
    refine qiZ Tryz.func200 rfl ?_
    exact ⟨u11, u12, rfl, rfl⟩
   ·
    refine st ?_
    refine zh 68 rfl hr (fun _ hr => ?_) (fun _ hr => ?_)
    ·
     refine st ?_
     cases hr
     refine qiZ Tryz.func200 rfl ?_
     exact ⟨u11, u12, rfl, rfl⟩
    ·
     refine st ?_
     obtain ⟨q_18, h18, hr⟩ := zd hr
     obtain ⟨q_19, h19, hr⟩ := zd hr
     refine quE ob ob [(0, .d), (1, .d), (2, .d), (4, .d), (7, .d), (8, .d), (9, .d), (11, .d)] (.cons 3 [(5, .d), (6, .d)] (.cons 10 [(12, .d), (13, .d)] (.cons 14 [] (.cons 15 [] (.cons 16 [] (.cons 17 [] .nil .nil) .nil) .nil) (.cons 15 [] (.cons 14 [] (.cons 16 [] (.cons 17 [] .nil .nil) .nil) .nil) .nil)) (.cons 14 [] (.cons 10 [(12, .d), (13, .d)] (.cons 15 [] (.cons 16 [] (.cons 17 [] .nil .nil) .nil) .nil) (.cons 15 [] (.cons 10 [(12, .d), (13, .d)] (.cons 16 [] (.cons 17 [] .nil .nil) .nil) (.cons 16 [] (.cons 10 [(12, .d), (13, .d)] (.cons 17 [] .nil .nil) .nil) .nil)) .nil)) (.cons 15 [] (.cons 10 [(12, .d), (13, .d)] (.cons 14 [] (.cons 16 [] (.cons 17 [] .nil .nil) .nil) .nil) (.cons 14 [] (.cons 10 [(12, .d), (13, .d)] (.cons 16 [] (.cons 17 [] .nil .nil) .nil) (.cons 16 [] (.cons 10 [(12, .d), (13, .d)] (.cons 17 [] .nil .nil) .nil) .nil)) .nil)) .nil))) (.cons 10 [(12, .d), (13, .d)] (.cons 3 [(5, .d), (6, .d)] (.cons 14 [] (.cons 15 [] (.cons 16 [] (.cons 17 [] .nil .nil) .nil) .nil) (.cons 15 [] (.cons 14 [] (.cons 16 [] (.cons 17 [] .nil .nil) .nil) .nil) .nil)) (.cons 14 [] (.cons 3 [(5, .d), (6, .d)] (.cons 15 [] (.cons 16 [] (.cons 17 [] .nil .nil) .nil) .nil) (.cons 15 [] (.cons 3 [(5, .d), (6, .d)] (.cons 16 [] (.cons 17 [] .nil .nil) .nil) .nil) .nil)) (.cons 15 [] (.cons 3 [(5, .d), (6, .d)] (.cons 14 [] (.cons 16 [] (.cons 17 [] .nil .nil) .nil) .nil) (.cons 14 [] (.cons 3 [(5, .d), (6, .d)] (.cons 16 [] (.cons 17 [] .nil .nil) .nil) .nil) .nil)) .nil))) (.cons 14 [] (.cons 3 [(5, .d), (6, .d)] (.cons 10 [(12, .d), (13, .d)] (.cons 15 [] (.cons 16 [] (.cons 17 [] .nil .nil) .nil) .nil) (.cons 15 [] (.cons 10 [(12, .d), (13, .d)] (.cons 16 [] (.cons 17 [] .nil .nil) .nil) (.cons 16 [] (.cons 10 [(12, .d), (13, .d)] (.cons 17 [] .nil .nil) .nil) .nil)) .nil)) (.cons 10 [(12, .d), (13, .d)] (.cons 3 [(5, .d), (6, .d)] (.cons 15 [] (.cons 16 [] (.cons 17 [] .nil .nil) .nil) .nil) (.cons 15 [] (.cons 3 [(5, .d), (6, .d)] (.cons 16 [] (.cons 17 [] .nil .nil) .nil) .nil) .nil)) (.cons 15 [] (.cons 3 [(5, .d), (6, .d)] (.cons 10 [(12, .d), (13, .d)] (.cons 16 [] (.cons 17 [] .nil .nil) .nil) (.cons 16 [] (.cons 10 [(12, .d), (13, .d)] (.cons 17 [] .nil .nil) .nil) .nil)) (.cons 10 [(12, .d), (13, .d)] (.cons 3 [(5, .d), (6, .d)] (.cons 16 [] (.cons 17 [] .nil .nil) .nil) .nil) .nil)) .nil))) (.cons 15 [] (.cons 3 [(5, .d), (6, .d)] (.cons 10 [(12, .d), (13, .d)] (.cons 14 [] (.cons 16 [] (.cons 17 [] .nil .nil) .nil) .nil) (.cons 14 [] (.cons 10 [(12, .d), (13, .d)] (.cons 16 [] (.cons 17 [] .nil .nil) .nil) (.cons 16 [] (.cons 10 [(12, .d), (13, .d)] (.cons 17 [] .nil .nil) .nil) .nil)) .nil)) (.cons 10 [(12, .d), (13, .d)] (.cons 3 [(5, .d), (6, .d)] (.cons 14 [] (.cons 16 [] (.cons 17 [] .nil .nil) .nil) .nil) (.cons 14 [] (.cons 3 [(5, .d), (6, .d)] (.cons 16 [] (.cons 17 [] .nil .nil) .nil) .nil) .nil)) (.cons 14 [] (.cons 3 [(5, .d), (6, .d)] (.cons 10 [(12, .d), (13, .d)] (.cons 16 [] (.cons 17 [] .nil .nil) .nil) (.cons 16 [] (.cons 10 [(12, .d), (13, .d)] (.cons 17 [] .nil .nil) .nil) .nil)) (.cons 10 [(12, .d), (13, .d)] (.cons 3 [(5, .d), (6, .d)] (.cons 16 [] (.cons 17 [] .nil .nil) .nil) .nil) .nil)) .nil))) .nil)))) ob (fun env σ => ∃ (b13_r12_16 : Nat) (b12_r12_16 : Nat), Sub [(0, .ref a 0 []), (12, .ref b12_r12_16 0 []), (13, .ref b13_r12_16 0 [])] env ∧ σ.Perm [.cell b13_r12_16 (qa q_19), .cell b12_r12_16 (qa q_18), .cell a (.agg [.own u11 (g13.map qa), .vec u12 g14.length]), .row u11 g13.length 259 4, .vec u12 (g14.map (D.int .i64)) 3 1]) ?_ ?_
     ·
      repeat' (first | exact p_no | refine qy3 ?_ ?_ | refine qac ?_ | refine qd 1 rfl ?_ | refine rd rfl (qM rfl rfl) ?_ | refine rd rfl (qg rfl qk rfl) ?_ | refine zbb 0 rfl ?_ | refine qps h18 rfl ?_ | refine qps h19 rfl ?_ | (refine ew rfl (qau rfl qiX) ?_; rintro _ _ ⟨b, rfl, rfl⟩) | refine qbZ rfl (pf1 _ _ _) ?_ | refine qbZ rfl (pf0 _) ?_ | refine zbb 1 rfl ?_ | refine zbb 2 rfl ?_ | (refine qyH ?_; exact ⟨_, _, sbr rfl, pkz⟩))
     ·
      rintro _ _ ⟨b13_r12_16, b12_r12_16, hs, hp⟩
      refine qob hs hp (qbb 12 b12_r12_16 rfl (pf1 _ _ _) (qbb 13 b13_r12_16 rfl (pf0 _) ?_))
      refine st ?_
      refine zo 88 rfl hr (fun _ hr => ?_) (fun _ hr => ?_)
      ·
       refine st ?_
       cases hr
       refine qiZ Tryz.func200 rfl ?_
       exact ⟨u11, u12, rfl, rfl⟩
      ·
       refine qd 7 rfl ?_
       refine zo 95 rfl hr (fun _ hr => ?_) (fun _ hr => ?_)
       ·
        refine st ?_
        cases hr
        refine qiZ Tryz.func200 rfl ?_
        exact ⟨u11, u12, rfl, rfl⟩
       ·
        refine qd 4 rfl (rd rfl (qgP rfl rfl rfl rfl) (qd 2 rfl ?_))
        refine zo 102 rfl hr (fun _ hr => ?_) (fun _ hr => ?_)
        ·
         refine st ?_
         cases hr
         refine qiZ Tryz.func200 rfl ?_
         exact ⟨u11, u12, rfl, rfl⟩
        ·
         refine st ?_
         refine zh 110 rfl hr (fun _ hr => ?_) (fun _ hr => ?_)
         ·
          refine st ?_
          cases hr
          refine qiZ Tryz.func200 rfl ?_
          exact ⟨u11, u12, rfl, rfl⟩
         ·
          refine st ?_
          obtain ⟨m, p, hr⟩ := exK (fun k => qI k rec q_19 q_18.fe 0 g13 g14) hr
          refine qct 104 rfl (asl rfl) fun q => ?_
          simp only [jb] at q
          refine qq (fun env σ => ∃ (g31 : List qb) (g32 : List Int) (u29 : Value) (u30 : Value), env = [] ∧ σ = [.cell a (.agg [.own u29 (g31.map qa), .vec u30 g32.length]), .row u29 g31.length 259 4, .vec u30 (g32.map (D.int .i64)) 3 1] ∧ m g31 g32 = some c) ?_ (fun x => ?_)
          ·
           rintro _ _ ⟨g31, g32, u29, u30, rfl, rfl, hr⟩
           rw [p] at hr
           refine st ?_
           cases hr
           refine qiZ Tryz.func200 rfl ?_
           exact ⟨u29, u30, rfl, rfl⟩
          ·
           refine qab [0, 12, 13, 14] rfl (qR (fun n env σ => ∃ (i26 : Nat) (g27 : List qb) (g28 : List Int) (u24 : Value) (u25 : Value), n = q_18.fe.length - i26 ∧ (env = [(0, .ref a 0 []), (12, .ptr (qa q_18)), (13, .ptr (qa q_19)), (14, .int .i64 (i26 : Int))]) ∧ (σ = [.cell a (.agg [.own u24 (g27.map qa), .vec u25 g28.length]), .row u24 g27.length 259 4, .vec u25 (g28.map (D.int .i64)) 3 1]) ∧ (i26 ≤ q_18.fe.length) ∧ (qI m rec q_19 (q_18.fe.drop i26) i26 g27 g28 = some c)) _ ⟨0, g13, g14, u11, u12, rfl, rfl, rfl, jc _, hr⟩ ?_)
           rintro n _ _ ⟨i26, g27, g28, u24, u25, rfl, rfl, rfl, r, hr⟩ y
           rcases zb q_18.fe i26 r with ⟨s, j, z⟩ | ⟨q_33, s, j, A, B⟩
           ·
            rw [j, qI] at hr
            exact fin hr
           ·
            rw [j, qI] at hr
            refine st ?_
            refine qy (qai (qdH 13 4194304 ?_))
            refine st ?_
            obtain ⟨q_34, h34, hr⟩ := zd hr
            refine st ?_
            obtain ⟨r35, h35, hr⟩ := zd hr
            refine ew rfl (qiP _ rfl qgO (.oc rfl (.oc rfl (.oc rfl .nil))) (by exact (pf0 _)) (IHR _ _ _ _ _ _ _ _ h35)) ?_
            rintro _ _ ⟨_, ⟨u129_35, u129_36, rfl, rfl⟩, rfl⟩
            refine y7 ((.cell a (.agg [.own u129_35 (r35.2.1.map qa), .vec u129_36 r35.2.2.length])) :: (.row u129_35 r35.2.1.length 259 4) :: (.vec u129_36 (r35.2.2.map (D.int .i64)) 3 1) :: _) rfl ?_
            refine st ?_
            refine zh 130 rfl hr (fun _ hr => ?_) (fun _ hr => ?_)
            ·
             refine st ?_
             cases hr
             refine qiZ Tryz.func200 rfl ?_
             exact ⟨u129_35, u129_36, rfl, rfl⟩
            ·
             exact fin hr
  ·
   refine qab [0, 7, 8, 9, 10, 11] rfl (qR (fun n env σ => ∃ (i8 : Int) (g9 : List qb) (g10 : List Int) (u6 : Value) (u7 : Value) (n0 : Nat), (n0 = n) ∧ (env = [(0, .ref a 0 []), (7, .int .i64 q1), (8, .int .i64 q_2), (9, .int .i64 r4), (10, .int .i64 r5), (11, .int .i64 i8)]) ∧ (σ = [.cell a (.agg [.own u6 (g9.map qa), .vec u7 g10.length]), .row u6 g9.length 259 4, .vec u7 (g10.map (D.int .i64)) 3 1]) ∧ (qT l q1 q_2 n0 i8 g9 g10 = some c)) _ ⟨0, g, e, h, i, _, rfl, rfl, rfl, hr⟩ ?_)
   rintro n _ _ ⟨i8, g9, g10, u6, u7, n0, rfl, rfl, rfl, hr⟩ t
   cases n0 with
   | zero => rw [qT] at hr; cases hr
   | succ n0 =>
    rw [qT] at hr
    refine st0 ?_
    refine ze 7 512 (qd 2 rfl (rd rfl (qM rfl rfl) (rd rfl (qg rfl qY rfl) (qbR 0 rfl (rd rfl (qD5 rfl Tryz.underlying60 rfl) ?_)))))
    refine st ?_
    refine zh 44 rfl hr (fun _ hr => ?_) (fun _ hr => ?_)
    ·
     refine st ?_
     refine qy (qai (ze 9 10368 (qd 1 rfl (rd rfl (qM rfl rfl) (rd rfl (qg rfl qY rfl) (qbR 0 rfl (qd 1 rfl ?_)))))))
     obtain ⟨q40, h40, hr⟩ := zd hr
     have hq_40_n := (qbV h40).2
     refine er rfl (qgg (f := (D.int .i64)) g10 rfl qaS rfl rfl h40 (.tail _ (.tail _ (.head _)))) (er rfl (qj6 rfl rfl (.tail _ (.tail _ (.head _))) (zao hq_40_n) rfl rfl (by exact qfj) rfl) ?_)
     refine st ?_
     refine zh 55 rfl hr (fun _ hr => ?_) (fun _ hr => ?_)
     ·
      refine qf1 rfl (ze 8 24704 (qd 1 rfl (rd rfl (qM rfl rfl) (rd rfl (qg rfl qY rfl) (qbR 0 rfl (qd 2 rfl ?_))))))
      have hq_40_n := (qbV h40).2
      refine er rfl (qgg (f := (D.int .i64)) g10 rfl qaS rfl rfl h40 (.tail _ (.tail _ (.head _)))) (z9 rfl (qBc _ rfl rfl rfl (Wk.refl _) (pf2 _ _ _ _) (zao hq_40_n) rfl rfl rfl (by exact qfj) rfl rfl rfl) (y7 [.vec u7 ((g10.set i8.toNat q1).map (D.int .i64)) 3 1, .cell a (.agg [.own u6 (g9.map qa), .vec u7 (g10.set i8.toNat q1).length]), .row u6 g9.length 259 4] (by simp [List.map_set, qoB]) ?_))
      refine st ?_
      refine rd rfl (qeg rfl rfl rfl rfl) (qd 1 rfl (qac (qab [0, 7, 8, 9, 10, 11] rfl (qbA [_, _, _] _ (pS [0, 2, 2] _) ?_))))
      exact t _ _ _ oa ⟨(wr (i8 + (1 : Int))), g9, (g10.set i8.toNat q1), u6, u7, _, rfl, rfl, rfl, hr⟩
     ·
      refine st ?_
      refine rd rfl (qeg rfl rfl rfl rfl) ?_
      exact fin hr
    ·
     exact fin hr
theorem qgi : ∀ (fuel : Nat) (a1 : Int) (a2 : Int) (c_0_0 : List qb) (c_0_1 : List Int) (b_o0 : Nat) (u_o1 : Value) (u_o2 : Value) (res : Bool × (List qb) × (List Int)), q8 fuel a1 a2 c_0_0 c_0_1 = some res → Spec Tryz.prog 200 [.ref b_o0 0 [], .int .i64 a1, .int .i64 a2] [.cell b_o0 (.agg [.own u_o1 (c_0_0.map qa), .vec u_o2 c_0_1.length]), .row u_o1 c_0_0.length 259 4, .vec u_o2 (c_0_1.map (D.int .i64)) 3 1] (fun d σ => ∃ (u_o1' : Value) (u_o2' : Value), d = .bool res.1 ∧ σ = [.cell b_o0 (.agg [.own u_o1' (res.2.1.map qa), .vec u_o2' res.2.2.length]), .row u_o1' res.2.1.length 259 4, .vec u_o2' (res.2.2.map (D.int .i64)) 3 1])
 | 0, _, _, _, _, _, _, _, _, h => by cases h
 | fuel + 1, a1, a2, c_0_0, c_0_1, b_o0, u_o1, u_o2, res, h => qiA fuel (q8 fuel) (qgi fuel) a1 a2 c_0_0 c_0_1 b_o0 u_o1 u_o2 res h
def qH (k : Bool → qj → Option ((List qj) × Bool)) (a12 : List qj) (c_0_0 : List qb) (c_0_1 : List Int) (r20 : Int) : Nat → Bool → Int → qj → Option ((List qj) × Bool)
 | 0, d22, j23, x24 =>
 none
 | rest + 1, d22, j23, x24 =>
 (bif (decide (r20 ≥ (0 : Int))) then
 ((zi c_0_0 r20).bind fun q_29 =>
 (bif (decide (j23 < (q_29.fe.length : Int))) then
 ((zi q_29.fe j23).bind fun q_32 =>
 ((zi c_0_1 q_32).bind fun q_33 =>
 ((zi a12 q_33).bind fun q_34 =>
 (bif d22 then
 (qH k a12 c_0_0 c_0_1 r20 rest (decide (q_34.fh > (0 : Int))) (wr (j23 + (1 : Int))) (⟨(zX (wr (x24.fh + q_34.fh)) (201 : Int)), (zX (yd x24.fm (wr (q_34.fm + (1 : Int)))) (21 : Int))⟩ : qj))
 else
 (qH k a12 c_0_0 c_0_1 r20 rest false (wr (j23 + (1 : Int))) (⟨(zX (wr (x24.fh + q_34.fh)) (201 : Int)), (zX (yd x24.fm (wr (q_34.fm + (1 : Int)))) (21 : Int))⟩ : qj))))))
 else
 (k d22 x24)))
 else
 (k d22 x24))
def qw (k : Int → List qj → Option ((List qj) × Bool)) (c_0_0 : List qb) (c_0_1 : List Int) (fuel : Nat) : List qb → Int → Nat → List qj → Option ((List qj) × Bool)
 | [], l10, i11, a12 =>
 (k l10 a12)
 | q_16 :: rest, l10, i11, a12 =>
 ((zi c_0_1 (i11 : Int)).bind fun q_17 =>
 ((zi a12 q_17).bind fun q_18 =>
 (bif (decide (q_18.fh > (0 : Int))) then
 (qw k c_0_0 c_0_1 fuel rest l10 (i11 + 1) a12)
 else
 ((qC q_17 c_0_0 c_0_1).bind fun r20 =>
 (qH (fun d25 x26 =>
 (bif d25 then
 (qw k c_0_0 c_0_1 fuel rest (wr (l10 - (1 : Int))) (i11 + 1) (a12.set q_17.toNat x26))
 else
 (qw k c_0_0 c_0_1 fuel rest l10 (i11 + 1) a12))) a12 c_0_0 c_0_1 r20 fuel true 0 (⟨1, 1⟩ : qj))))))
def qX (k : List qj → Option ((List qj) × Bool)) (c_0_0 : List qb) (c_0_1 : List Int) (fuel : Nat) : Nat → Int → List qj → Option ((List qj) × Bool)
 | 0, l6, a7 =>
 none
 | rest + 1, l6, a7 =>
 (bif (decide (l6 > (0 : Int))) then
 (qw (fun l13 a14 =>
 (bif (l13 == l6) then
 some ([], false)
 else
 (qX k c_0_0 c_0_1 fuel rest l13 a14))) c_0_0 c_0_1 fuel c_0_0 l6 0 a7)
 else
 (k a7))
def qQ (k : Int → Option ((List qj) × Bool)) (c_0_1 : List Int) : List qb → Int → Nat → Option ((List qj) × Bool)
 | [], l3, i4 =>
 (k l3)
 | q_36 :: rest, l3, i4 =>
 ((zi c_0_1 (i4 : Int)).bind fun q37 =>
 (bif (q37 == (i4 : Int)) then
 (qQ k c_0_1 rest (wr (l3 + (1 : Int))) (i4 + 1))
 else
 (qQ k c_0_1 rest l3 (i4 + 1))))
def qaY (fuel : Nat) (c_0_0 : List qb) (c_0_1 : List Int) : Option ((List qj) × Bool) :=
 ((zai 16 (c_0_0.length : Int)).bind fun n1 =>
 (qQ (fun l5 =>
 (qX (fun a8 =>
 some (a8, true)) c_0_0 c_0_1 fuel fuel l5 (List.replicate n1 (⟨0, 0⟩ : qj)))) c_0_1 c_0_0 0 0))
theorem qhS (fuel : Nat) (a : List qb) (c : List Int) (h : Nat) (e : Value) (g : Value) (i : (List qj) × Bool) (hr : qaY fuel a c = some i) : Spec Tryz.prog 201 [.ref h 0 []] [.cell h (.agg [.own e (a.map qa), .vec g c.length]), .row e a.length 259 4, .vec g (c.map (D.int .i64)) 3 1] (fun d σ => d = .tup [.lst (i.1.map qo), .bool i.2] ∧ σ = [.cell h (.agg [.own e (a.map qa), .vec g c.length]), .row e a.length 259 4, .vec g (c.map (D.int .i64)) 3 1]) := by
 unfold qaY at hr
 refine qx Tryz.func201 rfl fun K G H => ?_
 refine st0 ?_
 refine qt6 2 ?_
 refine st0 ?_
 refine ze 7 1152 (qd 1 rfl (rd rfl (qM rfl rfl) (rd rfl (qg rfl qk rfl) (qbR 0 rfl (qjz rfl ?_)))))
 obtain ⟨n_1, h1, hr⟩ := zd hr
 refine ew rfl (quU (f := qo) (⟨0, 0⟩ : qj) rfl qdS qgd rfl rfl h1) ?_
 rintro _ _ ⟨b20_1, rfl, rfl⟩
 refine st ?_
 obtain ⟨o, u, hr⟩ := exK (fun k => qQ k c a 0 0) hr
 refine qct 18 rfl (asl rfl) fun v => ?_
 simp only [jb] at v
 refine qq (fun env σ => ∃ (l5 : Int), env = [(0, .ref h 0 []), (4, .arr b20_1 2 0 n_1), (5, .int .i64 l5)] ∧ σ = [.cell h (.agg [.own e (a.map qa), .vec g c.length]), .row e a.length 259 4, .vec g (c.map (D.int .i64)) 3 1, .arr b20_1 ((List.replicate n_1 (⟨0, 0⟩ : qj)).map qo) 261 2] ∧ o l5 = some i) ?_ (fun I => ?_)
 ·
  rintro _ _ ⟨l5, rfl, rfl, hr⟩
  rw [u] at hr
  refine qai ?_
  obtain ⟨p, w, hr⟩ := exK (fun k => qX k a c fuel fuel l5 (List.replicate n_1 (⟨0, 0⟩ : qj))) hr
  refine qq (fun env σ => ∃ (a8 : List qj), env = [(4, .arr b20_1 2 0 n_1)] ∧ σ = [.arr b20_1 (a8.map qo) 261 2, .cell h (.agg [.own e (a.map qa), .vec g c.length]), .row e a.length 259 4, .vec g (c.map (D.int .i64)) 3 1] ∧ a8.length = n_1 ∧ p a8 = some i) ?_ (fun x => ?_)
  ·
   rintro _ _ ⟨a8, rfl, rfl, hl_a_8, hr⟩
   rw [w] at hr
   refine st ?_
   refine qnT (l := a8.map qo) 2 rfl (pf0 _) (by rw [jb]; exact Eq.symm hl_a_8) ?_
   cases hr
   refine qiZ Tryz.func201 rfl ?_
   exact ⟨rfl, rfl⟩
  ·
   refine qab [0, 4, 5] rfl (qR (fun n env σ => ∃ (l6 : Int) (a7 : List qj) (n1 : Nat), (n1 = n) ∧ (env = [(0, .ref h 0 []), (4, .arr b20_1 2 0 n_1), (5, .int .i64 l6)]) ∧ (σ = [.cell h (.agg [.own e (a.map qa), .vec g c.length]), .row e a.length 259 4, .vec g (c.map (D.int .i64)) 3 1, .arr b20_1 (a7.map qo) 261 2]) ∧ (a7.length = n_1) ∧ (qX p a c fuel n1 l6 a7 = some i)) _ ⟨l5, (List.replicate n_1 (⟨0, 0⟩ : qj)), _, rfl, rfl, rfl, og, hr⟩ ?_)
   rintro n _ _ ⟨l6, a7, n1, rfl, rfl, rfl, hl_a_7, hr⟩ J
   cases n1 with
   | zero => rw [qX] at hr; cases hr
   | succ n1 =>
    rw [qX] at hr
    refine st ?_
    refine zh 42 rfl hr (fun _ hr => ?_) (fun _ hr => ?_)
    ·
     refine st ?_
     refine qy ?_
     refine st ?_
     obtain ⟨q, y, hr⟩ := exK (fun k => qw k a c fuel a l6 0 a7) hr
     refine qw7 [0] (l := a.map qa) (.head _) (by first | rfl | simp [yX, qfk]) (asl rfl) fun z => ?_
     simp only [jb] at z
     refine qq (fun env σ => ∃ (l13 : Int) (a14 : List qj), env = [(0, .ref h 0 []), (4, .arr b20_1 2 0 n_1), (5, .int .i64 l13), (7, .int .i64 l6)] ∧ σ = [.cell h (.agg [.own e (a.map qa), .vec g c.length]), .row e a.length 259 4, .vec g (c.map (D.int .i64)) 3 1, .arr b20_1 (a14.map qo) 261 2] ∧ a14.length = n_1 ∧ q l13 a14 = some i) ?_ (fun L => ?_)
     ·
      rintro _ _ ⟨l13, a14, rfl, rfl, hl_a_14, hr⟩
      rw [y] at hr
      refine st ?_
      refine zh 137 rfl hr (fun _ hr => ?_) (fun _ hr => ?_)
      ·
       refine qf1 rfl (qai (ze 2 0 (qd 2 rfl (qac (qbA [_, _, _] _ (pf0 _) ?_)))))
       cases hr
       refine qaw Tryz.func201 _ (.cons (za rfl (Wk.full _)) (.cons (za rfl (Wk.refl _)) .nil)) ?_
       exact ⟨rfl, rfl⟩
      ·
       exact fin hr
     ·
      refine qab [0, 4, 7, 5, 8] rfl (qR (fun n env σ => ∃ (l10 : Int) (i11 : Nat) (a12 : List qj), n = a.length - i11 ∧ (env = [(0, .ref h 0 []), (4, .arr b20_1 2 0 n_1), (7, .int .i64 l6), (5, .int .i64 l10), (8, .int .i64 (i11 : Int))]) ∧ (σ = [.cell h (.agg [.own e (a.map qa), .vec g c.length]), .row e a.length 259 4, .vec g (c.map (D.int .i64)) 3 1, .arr b20_1 (a12.map qo) 261 2]) ∧ (a12.length = n_1) ∧ (i11 ≤ a.length) ∧ (qw q a c fuel (a.drop i11) l10 i11 a12 = some i)) _ ⟨l6, 0, a7, rfl, rfl, rfl, hl_a_7, jc _, hr⟩ ?_)
      rintro n _ _ ⟨l10, i11, a12, rfl, rfl, rfl, hl_a_12, A, hr⟩ r
      rcases zb a i11 A with ⟨B, j, M⟩ | ⟨q_16, B, j, N, O⟩
      ·
       rw [j, qw] at hr
       refine st0 ?_
       refine ze 7 512 (qd 2 rfl (rd rfl (qM rfl rfl) (rd rfl (qg rfl qk rfl) (qbR 0 rfl ?_))))
       exact fin hr
      ·
       rw [j, qw] at hr
       refine st0 ?_
       refine ze 7 512 (qd 2 rfl (rd rfl (qM rfl rfl) (rd rfl (qg rfl qk rfl) (qbR 0 rfl ?_))))
       refine st ?_
       refine qy (qai (ze 8 10368 (qd 1 rfl (rd rfl (qM rfl rfl) (rd rfl (qg rfl qY rfl) (qbR 0 rfl (qd 1 rfl ?_)))))))
       obtain ⟨q_17, h17, hr⟩ := zd hr
       have hq_17_n := (qbV h17).2
       refine er rfl (qgg (f := (D.int .i64)) c rfl qaS rfl rfl h17 (.tail _ (.tail _ (.head _)))) (er rfl (qj6 rfl rfl (.tail _ (.tail _ (.head _))) (zao hq_17_n) rfl rfl (by exact qfj) rfl) ?_)
       refine st0 ?_
       refine ze 6 512 (qd 2 rfl ?_)
       obtain ⟨q_18, h18, hr⟩ := zd hr
       have hq_18_n := (qbV h18).2
       refine rd rfl (qh7 a12 rfl qdS rfl rfl h18 hl_a_12) (rd rfl (qBZ rfl qc6 rfl) (er rfl (qq9 rfl rfl (.tail _ (.tail _ (.tail _ (.head _)))) (zao hq_18_n) rfl rfl (by exact qfj) rfl) ?_))
       refine st ?_
       refine zh 65 rfl hr (fun _ hr => ?_) (fun _ hr => ?_)
       ·
        exact fin hr
       ·
        refine st0 ?_
        refine ze 4 32 (qd 2 rfl ?_)
        obtain ⟨r20, h20, hr⟩ := zd hr
        refine er rfl (qjf _ rfl qdl (.oc rfl (.oc rfl .nil)) (by exact (pf0 _)) (qcQ _ _ _ _ _ _ _ h20)) ?_
        refine st0 ?_
        refine ze 3 20 (rd rfl (qay rfl qhN (.oc rfl (.oc rfl .nil)) (.cons rfl rfl rfl (.cons rfl rfl rfl (.nil _)))) (ew rfl (qau rfl qgd) ?_))
        rintro _ _ ⟨b11_20, rfl, rfl⟩
        refine qbZ rfl (pf0 _) ?_
        refine st ?_
        obtain ⟨s, C, hr⟩ := exK (fun k => qH k a12 a c r20 fuel true 0 (⟨1, 1⟩ : qj)) hr
        refine qq (fun env σ => ∃ (d25 : Bool) (x26 : qj), env = [(0, .ref h 0 []), (4, .arr b20_1 2 0 n_1), (5, .int .i64 l10), (7, .int .i64 l6), (8, .int .i64 (i11 : Int)), (9, .int .i64 q_17), (11, .ref b11_20 0 []), (12, .bool d25)] ∧ σ = [.cell h (.agg [.own e (a.map qa), .vec g c.length]), .row e a.length 259 4, .vec g (c.map (D.int .i64)) 3 1, .arr b20_1 (a12.map qo) 261 2, .cell b11_20 (qo x26)] ∧ a12.length = n_1 ∧ s d25 x26 = some i) ?_ (fun P => ?_)
        ·
         rintro _ _ ⟨d25, x26, rfl, rfl, hl_a_12, hr⟩
         rw [C] at hr
         refine st ?_
         refine zh 128 rfl hr (fun _ hr => ?_) (fun _ hr => ?_)
         ·
          refine st0 ?_
          refine ze 5 288 (qd 2 rfl (qbR 4 rfl ?_))
          have hq_18_n := (qbV h18).2
          refine rd rfl (qh7 a12 rfl qdS rfl rfl h18 hl_a_12) (z9 rfl (qs2 _ rfl rfl rfl (Wk.refl _) (pf3 _ _ _ _ _) (zao hq_18_n) rfl rfl rfl (by exact qfe) (qcD _) (qcD _) rfl) (y7 [.arr b20_1 ((a12.set q_17.toNat x26).map qo) 261 2, .cell h (.agg [.own e (a.map qa), .vec g c.length]), .row e a.length 259 4, .vec g (c.map (D.int .i64)) 3 1, .cell b11_20 (qo x26)] (by simp [List.map_set, qoB]) ?_))
          refine st ?_
          refine rd rfl (qeg rfl rfl rfl rfl) (qd 1 rfl (qac (qfZ (ze 3 0 (qd 1 rfl (qnL rfl (qd 1 rfl (qac (qab [0, 4, 7, 5, 8] rfl (qbA [_, _, _, _] _ (pS [0, 3, 3, 3] _) ?_))))))))))
          exact r _ _ _ oa ⟨(wr (l10 - (1 : Int))), (i11 + 1), (a12.set q_17.toNat x26), rfl, rfl, rfl, (List.length_set.trans hl_a_12), oa, hr⟩
         ·
          refine qyc 3 rfl (ze 3 0 (qd 1 rfl (qnL rfl (qd 1 rfl (qac (qab [0, 4, 7, 5, 8] rfl (qbA [_, _, _, _] _ (pf0 _) ?_)))))))
          exact r _ _ _ oa ⟨l10, (i11 + 1), a12, rfl, rfl, rfl, hl_a_12, oa, hr⟩
        ·
         refine qab [0, 4, 5, 7, 8, 9, 10, 11, 12, 13] rfl (qbA [_, _, _, _, _] _ (pS [0, 4, 4, 4, 4] _) (qR (fun n env σ => ∃ (d22 : Bool) (j23 : Int) (x24 : qj) (n3 : Nat), (n3 = n) ∧ (env = [(0, .ref h 0 []), (4, .arr b20_1 2 0 n_1), (5, .int .i64 l10), (7, .int .i64 l6), (8, .int .i64 (i11 : Int)), (9, .int .i64 q_17), (10, .int .i64 r20), (11, .ref b11_20 0 []), (12, .bool d22), (13, .int .i64 j23)]) ∧ (σ = [.cell h (.agg [.own e (a.map qa), .vec g c.length]), .row e a.length 259 4, .vec g (c.map (D.int .i64)) 3 1, .arr b20_1 (a12.map qo) 261 2, .cell b11_20 (qo x24)]) ∧ (a12.length = n_1) ∧ (qH s a12 a c r20 n3 d22 j23 x24 = some i)) _ ⟨true, 0, (⟨1, 1⟩ : qj), _, rfl, rfl, rfl, hl_a_12, hr⟩ ?_))
         rintro n _ _ ⟨d22, j23, x24, n3, rfl, rfl, rfl, hl_a_12, hr⟩ t
         cases n3 with
         | zero => rw [qH] at hr; cases hr
         | succ n3 =>
          rw [qH] at hr
          refine st0 ?_
          refine ze 15 32768 (qd 3 rfl ?_)
          refine zo 72 rfl hr (fun _ hr => ?_) (fun _ hr => ?_)
          ·
           refine qd 2 rfl (rd rfl (qM rfl rfl) (rd rfl (qg rfl qk rfl) (qbR 0 rfl (qd 1 rfl ?_))))
           obtain ⟨q_29, h29, hr⟩ := zd hr
           refine st ?_
           refine zh 84 rfl hr (fun _ hr => ?_) (fun _ hr => ?_)
           ·
            refine st ?_
            refine qy (qai ?_)
            obtain ⟨q_32, h32, hr⟩ := zd hr
            obtain ⟨q_33, h33, hr⟩ := zd hr
            obtain ⟨q_34, h34, hr⟩ := zd hr
            have hq_33_n := (qbV h33).2
            have hq_34_n := (qbV h34).2
            refine quE ob ob [(0, .d), (1, .d), (2, .d), (3, .d), (5, .d), (6, .d), (7, .d), (9, .d), (13, .d)] (.cons 4 [] (.cons 8 [(10, .d), (11, .d), (12, .d), (14, .d), (15, .d)] (.cons 16 [] (.cons 17 [(18, .d)] (.cons 19 [] (.cons 20 [] (.cons 21 [] .nil .nil) .nil) (.cons 20 [] (.cons 19 [] (.cons 21 [] .nil .nil) .nil) .nil)) (.cons 20 [] (.cons 17 [(18, .d)] (.cons 19 [] (.cons 21 [] .nil .nil) .nil) .nil) .nil)) (.cons 20 [] (.cons 16 [] (.cons 17 [(18, .d)] (.cons 19 [] (.cons 21 [] .nil .nil) .nil) .nil) .nil) .nil)) (.cons 20 [] (.cons 8 [(10, .d), (11, .d), (12, .d), (14, .d), (15, .d)] (.cons 16 [] (.cons 17 [(18, .d)] (.cons 19 [] (.cons 21 [] .nil .nil) .nil) .nil) .nil) .nil) .nil)) (.cons 8 [(10, .d), (11, .d), (12, .d), (14, .d), (15, .d)] (.cons 4 [] (.cons 16 [] (.cons 17 [(18, .d)] (.cons 19 [] (.cons 20 [] (.cons 21 [] .nil .nil) .nil) (.cons 20 [] (.cons 19 [] (.cons 21 [] .nil .nil) .nil) .nil)) (.cons 20 [] (.cons 17 [(18, .d)] (.cons 19 [] (.cons 21 [] .nil .nil) .nil) .nil) .nil)) (.cons 20 [] (.cons 16 [] (.cons 17 [(18, .d)] (.cons 19 [] (.cons 21 [] .nil .nil) .nil) .nil) .nil) .nil)) (.cons 20 [] (.cons 4 [] (.cons 16 [] (.cons 17 [(18, .d)] (.cons 19 [] (.cons 21 [] .nil .nil) .nil) .nil) .nil) .nil) .nil)) (.cons 20 [] (.cons 4 [] (.cons 8 [(10, .d), (11, .d), (12, .d), (14, .d), (15, .d)] (.cons 16 [] (.cons 17 [(18, .d)] (.cons 19 [] (.cons 21 [] .nil .nil) .nil) .nil) .nil) .nil) (.cons 8 [(10, .d), (11, .d), (12, .d), (14, .d), (15, .d)] (.cons 4 [] (.cons 16 [] (.cons 17 [(18, .d)] (.cons 19 [] (.cons 21 [] .nil .nil) .nil) .nil) .nil) .nil) .nil)) .nil))) ob (fun env σ => ∃ (b14_r21_30 : Nat), Sub [(0, .ref h 0 []), (4, .arr b20_1 2 0 n_1), (5, .int .i64 l10), (7, .int .i64 l6), (8, .int .i64 (i11 : Int)), (9, .int .i64 q_17), (10, .int .i64 r20), (11, .ref b11_20 0 []), (12, .bool d22), (13, .int .i64 j23), (14, .ref b14_r21_30 0 [])] env ∧ σ.Perm [.cell b14_r21_30 (qo q_34), .cell h (.agg [.own e (a.map qa), .vec g c.length]), .row e a.length 259 4, .vec g (c.map (D.int .i64)) 3 1, .arr b20_1 (a12.map qo) 261 2, .cell b11_20 (qo x24)]) ?_ ?_
            ·
             repeat' (first | exact p_no | refine qy3 ?_ ?_ | refine qac ?_ | refine qd 1 rfl ?_ | refine rd rfl (qM rfl rfl) ?_ | refine rd rfl (qg rfl qY rfl) ?_ | refine rd rfl (qg rfl qk rfl) ?_ | refine zbb 0 rfl ?_ | refine qps h29 rfl ?_ | refine qps h32 rfl ?_ | refine zbu rfl rfl rfl (qgg (f := (D.int .i64)) c rfl qaS rfl rfl h33 (.tail _ (.tail _ (.head _)))) ?_ | refine zbu rfl rfl rfl (qj6 rfl rfl (.tail _ (.tail _ (.head _))) (zao hq_33_n) rfl rfl (by exact qfj) rfl) ?_ | refine rd rfl (qh7 a12 rfl qdS rfl rfl h34 hl_a_12) ?_ | refine zbu rfl rfl rfl (qq9 rfl rfl (.tail _ (.tail _ (.tail _ (.head _)))) (zao hq_34_n) rfl rfl (by exact qfe) (qcD _)) ?_ | (refine ew rfl (qau rfl qgd) ?_; rintro _ _ ⟨b, rfl, rfl⟩) | refine qbZ rfl (pf0 _) ?_ | refine zbu rfl rfl rfl (qq9 rfl rfl (.tail _ (.tail _ (.tail _ (.tail _ (.head _))))) (zao hq_34_n) rfl rfl (by exact qfe) (qcD _)) ?_ | refine zbu rfl rfl rfl (qj6 rfl rfl (.tail _ (.tail _ (.tail _ (.head _)))) (zao hq_33_n) rfl rfl (by exact qfj) rfl) ?_ | refine zbu rfl rfl rfl (qgg (f := (D.int .i64)) c rfl qaS rfl rfl h33 (.tail _ (.tail _ (.tail _ (.head _))))) ?_ | refine zbb 1 rfl ?_ | (refine qyH ?_; exact ⟨_, sbr rfl, pkz⟩))
            ·
             rintro _ _ ⟨b14_r21_30, hs, hp⟩
             refine qob hs hp (qbb 14 b14_r21_30 rfl (pf0 _) ?_)
             refine st ?_
             refine zo 108 rfl hr (fun _ hr => ?_) (fun _ hr => ?_)
             ·
              refine st0 ?_
              refine ze 8 16392 (rd rfl (qg rfl qc6 rfl) (qbR 4 rfl (qd 2 rfl (rd rfl (qeg rfl rfl rfl rfl) (rd rfl (qAR rfl rfl rfl) (rd rfl (qg rfl qc6 rfl) (z9 rfl (qc9 _ rfl rfl rfl (Wk.refl _) (pf4 _ _ _ _ _ _) rfl rfl (by exact qfj) rfl rfl rfl) (qac (ze 9 65544 (rd rfl (qg rfl qdR rfl) (qbR 0 rfl (qd 2 rfl (rd rfl (qeg rfl rfl rfl rfl) ?_)))))))))))))
              refine rd rfl (qDA rfl rfl rfl) (rd rfl (qAR rfl rfl rfl) (rd rfl (qg rfl qdR rfl) (z9 rfl (qc9 _ rfl rfl rfl (Wk.refl _) (pf0 _) rfl rfl (by exact qfj) rfl rfl rfl) ?_)))
              refine st ?_
              refine rd rfl (qeg rfl rfl rfl rfl) (qd 1 rfl (qac (qab [0, 4, 5, 7, 8, 9, 10, 11, 12, 13] rfl (qbA [_, _, _, _, _] _ (pS [0, 4, 4, 4, 4] _) ?_))))
              exact t _ _ _ oa ⟨(decide (q_34.fh > (0 : Int))), (wr (j23 + (1 : Int))), (⟨(zX (wr (x24.fh + q_34.fh)) (201 : Int)), (zX (yd x24.fm (wr (q_34.fm + (1 : Int)))) (21 : Int))⟩ : qj), _, rfl, rfl, rfl, hl_a_12, hr⟩
             ·
              refine st0 ?_
              refine ze 8 16392 (rd rfl (qg rfl qc6 rfl) (qbR 4 rfl (qd 2 rfl (rd rfl (qeg rfl rfl rfl rfl) (rd rfl (qAR rfl rfl rfl) (rd rfl (qg rfl qc6 rfl) (z9 rfl (qc9 _ rfl rfl rfl (Wk.refl _) (pf4 _ _ _ _ _ _) rfl rfl (by exact qfj) rfl rfl rfl) (qac (ze 9 65544 (rd rfl (qg rfl qdR rfl) (qbR 0 rfl (qd 2 rfl (rd rfl (qeg rfl rfl rfl rfl) ?_)))))))))))))
              refine rd rfl (qDA rfl rfl rfl) (rd rfl (qAR rfl rfl rfl) (rd rfl (qg rfl qdR rfl) (z9 rfl (qc9 _ rfl rfl rfl (Wk.refl _) (pf0 _) rfl rfl (by exact qfj) rfl rfl rfl) ?_)))
              refine st ?_
              refine rd rfl (qeg rfl rfl rfl rfl) (qd 1 rfl (qac (qab [0, 4, 5, 7, 8, 9, 10, 11, 12, 13] rfl (qbA [_, _, _, _, _] _ (pS [0, 4, 4, 4, 4] _) ?_))))
              exact t _ _ _ oa ⟨false, (wr (j23 + (1 : Int))), (⟨(zX (wr (x24.fh + q_34.fh)) (201 : Int)), (zX (yd x24.fm (wr (q_34.fm + (1 : Int)))) (21 : Int))⟩ : qj), _, rfl, rfl, rfl, hl_a_12, hr⟩
           ·
            exact fin hr
          ·
           exact fin hr
    ·
     refine qhR rfl (qnJ rfl (qab [4] rfl (qbA [_, _, _, _] _ (pS [2, 2, 2, 3] _) ?_)))
     exact x _ _ ⟨a7, rfl, rfl, hl_a_7, hr⟩
 refine qab [0, 4, 5, 6] rfl (qbA [_, _, _, _] _ (pS [0, 3, 3, 3] _) (qR (fun n env σ => ∃ (l3 : Int) (i4 : Nat), n = a.length - i4 ∧ (env = [(0, .ref h 0 []), (4, .arr b20_1 2 0 n_1), (5, .int .i64 l3), (6, .int .i64 (i4 : Int))]) ∧ (σ = [.cell h (.agg [.own e (a.map qa), .vec g c.length]), .row e a.length 259 4, .vec g (c.map (D.int .i64)) 3 1, .arr b20_1 ((List.replicate n_1 (⟨0, 0⟩ : qj)).map qo) 261 2]) ∧ (i4 ≤ a.length) ∧ (qQ o c (a.drop i4) l3 i4 = some i)) _ ⟨0, 0, rfl, rfl, rfl, jc _, hr⟩ ?_))
 rintro n _ _ ⟨l3, i4, rfl, rfl, rfl, E, hr⟩ Q
 rcases zb a i4 E with ⟨F, m, R⟩ | ⟨q_36, F, m, S, T⟩
 rw [m, qQ] at hr
 refine st0 ?_
 refine ze 7 512 (qd 2 rfl (rd rfl (qM rfl rfl) (rd rfl (qg rfl qk rfl) (qbR 0 rfl ?_))))
 exact fin hr
 rw [m, qQ] at hr
 refine st0 ?_
 refine ze 7 512 (qd 2 rfl (rd rfl (qM rfl rfl) (rd rfl (qg rfl qk rfl) (qbR 0 rfl ?_))))
 refine st ?_
 refine qy (qai (ze 9 10368 (qd 1 rfl (rd rfl (qM rfl rfl) (rd rfl (qg rfl qY rfl) (qbR 0 rfl (qd 1 rfl ?_)))))))
 obtain ⟨q37, h37, hr⟩ := zd hr
 have hq_37_n := (qbV h37).2
 refine er rfl (qgg (f := (D.int .i64)) c rfl qaS rfl rfl h37 (.tail _ (.tail _ (.head _)))) (er rfl (qj6 rfl rfl (.tail _ (.tail _ (.head _))) (zao hq_37_n) rfl rfl (by exact qfj) rfl) ?_)
 refine st ?_
 refine zh 38 rfl hr (fun _ hr => ?_) (fun _ hr => ?_)
 refine st ?_
 refine rd rfl (qeg rfl rfl rfl rfl) ?_
 exact fin hr
 exact fin hr
def qp (k : Int → Option Int) (c_0_1 : List Int) (a1 : Int) : List qb → Int → Nat → Option Int
 | [], v1, i2 =>
 (k v1)
 | q_4 :: rest, v1, i2 =>
 ((zi c_0_1 (i2 : Int)).bind fun q_5 =>
 (bif (q_5 == a1) then
 (bif (q_4.fa == (1 : Int)) then
 (bif (decide (v1 < (0 : Int))) then
 (qp k c_0_1 a1 rest q_4.fj (i2 + 1))
 else
 (bif (decide (q_4.fj < v1)) then
 (qp k c_0_1 a1 rest q_4.fj (i2 + 1))
 else
 (qp k c_0_1 a1 rest v1 (i2 + 1))))
 else
 (qp k c_0_1 a1 rest v1 (i2 + 1)))
 else
 (qp k c_0_1 a1 rest v1 (i2 + 1))))
def qbz (a1 : Int) (c_0_0 : List qb) (c_0_1 : List Int) : Option Int :=
 (qp (fun v3 =>
 some (v3)) c_0_1 a1 c_0_0 (-1) 0)
theorem qga (a1 : Int) (a : List qb) (b : List Int) (g : Nat) (c : Value) (e : Value) (h : Int) (hr : qbz a1 a b = some h) : Spec Tryz.prog 203 [.ref g 0 [], .int .i64 a1] [.cell g (.agg [.own c (a.map qa), .vec e b.length]), .row c a.length 259 4, .vec e (b.map (D.int .i64)) 3 1] (fun d σ => d = .int .i64 h ∧ σ = [.cell g (.agg [.own c (a.map qa), .vec e b.length]), .row c a.length 259 4, .vec e (b.map (D.int .i64)) 3 1]) := by
 unfold qbz at hr
 refine qx Tryz.func203 rfl fun K r s => ?_
 refine st ?_
 obtain ⟨j, m, hr⟩ := exK (fun k => qp k b a1 a (-1) 0) hr
 refine qw7 [0] (l := a.map qa) (.head _) (by first | rfl | simp [yX, qfk]) (asl rfl) fun o => ?_
 simp only [jb] at o
 refine qq (fun env σ => ∃ (v3 : Int), env = [(5, .int .i64 v3)] ∧ σ = [.cell g (.agg [.own c (a.map qa), .vec e b.length]), .row c a.length 259 4, .vec e (b.map (D.int .i64)) 3 1] ∧ j v3 = some h) ?_ (fun t => ?_)
 rintro _ _ ⟨v3, rfl, rfl, hr⟩
 rw [m] at hr
 refine st ?_
 cases hr
 refine qiZ Tryz.func203 rfl ?_
 exact ⟨rfl, rfl⟩
 refine qab [0, 1, 5, 6] rfl (qR (fun n env σ => ∃ (v1 : Int) (i2 : Nat), n = a.length - i2 ∧ (env = [(0, .ref g 0 []), (1, .int .i64 a1), (5, .int .i64 v1), (6, .int .i64 (i2 : Int))]) ∧ (σ = [.cell g (.agg [.own c (a.map qa), .vec e b.length]), .row c a.length 259 4, .vec e (b.map (D.int .i64)) 3 1]) ∧ (i2 ≤ a.length) ∧ (qp j b a1 (a.drop i2) v1 i2 = some h)) _ ⟨(-1), 0, rfl, rfl, rfl, jc _, hr⟩ ?_)
 rintro n _ _ ⟨v1, i2, rfl, rfl, rfl, p, hr⟩ u
 rcases zb a i2 p with ⟨q, i, v⟩ | ⟨q_4, q, i, w, x⟩
 rw [i, qp] at hr
 refine st0 ?_
 refine ze 7 512 (qd 2 rfl (rd rfl (qM rfl rfl) (rd rfl (qg rfl qk rfl) (qbR 0 rfl ?_))))
 exact fin hr
 rw [i, qp] at hr
 refine st0 ?_
 refine ze 7 512 (qd 2 rfl (rd rfl (qM rfl rfl) (rd rfl (qg rfl qk rfl) (qbR 0 rfl ?_))))
 refine st ?_
 refine qy (qai (ze 36 36028797153192064 (qd 1 rfl (rd rfl (qM rfl rfl) (rd rfl (qg rfl qY rfl) (qbR 0 rfl (qd 1 rfl ?_)))))))
 obtain ⟨q_5, h5, hr⟩ := zd hr
 have hq_5_n := (qbV h5).2
 refine er rfl (qgg (f := (D.int .i64)) b rfl qaS rfl rfl h5 (.tail _ (.tail _ (.head _)))) (er rfl (qj6 rfl rfl (.tail _ (.tail _ (.head _))) (zao hq_5_n) rfl rfl (by exact qfj) rfl) (qd 3 rfl ?_))
 refine zo 25 rfl hr (fun _ hr => ?_) (fun _ hr => ?_)
 refine qd 1 rfl (rd rfl (qM rfl rfl) (rd rfl (qg rfl qk rfl) (qbR 0 rfl ?_)))
 refine st ?_
 refine zo 36 rfl hr (fun _ hr => ?_) (fun _ hr => ?_)
 refine qd 3 rfl ?_
 refine zo 39 rfl hr (fun _ hr => ?_) (fun _ hr => ?_)
 refine st0 ?_
 refine ze 9 128 (qd 1 rfl (rd rfl (qM rfl rfl) (rd rfl (qg rfl qk rfl) (qbR 0 rfl ?_))))
 exact fin hr
 refine qd 1 rfl (rd rfl (qM rfl rfl) (rd rfl (qg rfl qk rfl) (qbR 0 rfl ?_)))
 refine st ?_
 refine zh 51 rfl hr (fun _ hr => ?_) (fun _ hr => ?_)
 refine qf1 rfl (ze 9 128 (qd 1 rfl (rd rfl (qM rfl rfl) (rd rfl (qg rfl qk rfl) (qbR 0 rfl ?_)))))
 exact fin hr
 exact fin hr
 exact fin hr
 exact fin hr
def qt (k : Int → Int → ByteArray → List T → Option T) (rec : Int → List qb → List Int → Option T) (c_0_0 : List qb) (c_0_1 : List Int) (q_6 : qb) : Nat → Int → Int → Int → ByteArray → List T → Option T
 | 0, i8, t9, t10, t11, t12 =>
 none
 | rest + 1, i8, t9, t10, t11, t12 =>
 (bif (decide (i8 < (q_6.fe.length : Int))) then
 ((zi q_6.fe i8).bind fun q_19 =>
 ((zi c_0_1 q_19).bind fun q20 =>
 ((rec q20 c_0_0 c_0_1).bind fun r21 =>
 ((zF 56 t12 [r21]).bind fun l22 =>
 (qt k rec c_0_0 c_0_1 q_6 rest (wr (i8 + (1 : Int))) t9 t10 t11 l22)))))
 else
 (k t9 t10 t11 t12))
def qz : Nat → Int → List qb → List Int → Option T
 | 0, _, _, _ => none
 | fuel + 1, a1, c_0_0, c_0_1 =>
  (fun (rec : Int → List qb → List Int → Option T) =>
   ((qC a1 c_0_0 c_0_1).bind fun r2 =>
   (bif (decide (r2 < (0 : Int))) then
   ((qbz a1 c_0_0 c_0_1).bind fun r4 =>
   some ((T.mk 1 r4 ⟨#[]⟩ [])))
   else
   ((zi c_0_0 r2).bind fun q_6 =>
   (qt (fun t14 t15 t16 t17 =>
   some ((T.mk t14 t15 t16 t17))) rec c_0_0 c_0_1 q_6 fuel 0 q_6.fa q_6.fj q_6.fF []))))) (qz fuel)
theorem qiz (fuel : Nat) (rec : Int → List qb → List Int → Option T) (IHR : ∀ (a1 : Int) (c_0_0 : List qb) (c_0_1 : List Int) (b_o0 : Nat) (u_o1 : Value) (u_o2 : Value) (res : T), rec a1 c_0_0 c_0_1 = some res → Spec Tryz.prog 204 [.ref b_o0 0 [], .int .i64 a1] [.cell b_o0 (.agg [.own u_o1 (c_0_0.map qa), .vec u_o2 c_0_1.length]), .row u_o1 c_0_0.length 259 4, .vec u_o2 (c_0_1.map (D.int .i64)) 3 1] (fun d σ => d = zl res ∧ σ = [.cell b_o0 (.agg [.own u_o1 (c_0_0.map qa), .vec u_o2 c_0_1.length]), .row u_o1 c_0_0.length 259 4, .vec u_o2 (c_0_1.map (D.int .i64)) 3 1])) (a1 : Int) (c_0_0 : List qb) (c_0_1 : List Int) (b_o0 : Nat) (u_o1 : Value) (u_o2 : Value) (res : T)
 (hr : ((qC a1 c_0_0 c_0_1).bind fun r2 =>
(bif (decide (r2 < (0 : Int))) then
((qbz a1 c_0_0 c_0_1).bind fun r4 =>
some ((T.mk 1 r4 ⟨#[]⟩ [])))
else
((zi c_0_0 r2).bind fun q_6 =>
(qt (fun t14 t15 t16 t17 =>
some ((T.mk t14 t15 t16 t17))) rec c_0_0 c_0_1 q_6 fuel 0 q_6.fa q_6.fj q_6.fF [])))) = some res) : Spec Tryz.prog 204 [.ref b_o0 0 [], .int .i64 a1] [.cell b_o0 (.agg [.own u_o1 (c_0_0.map qa), .vec u_o2 c_0_1.length]), .row u_o1 c_0_0.length 259 4, .vec u_o2 (c_0_1.map (D.int .i64)) 3 1] (fun d σ => d = zl res ∧ σ = [.cell b_o0 (.agg [.own u_o1 (c_0_0.map qa), .vec u_o2 c_0_1.length]), .row u_o1 c_0_0.length 259 4, .vec u_o2 (c_0_1.map (D.int .i64)) 3 1]) := by
 refine qx Tryz.func204 rfl fun K hK hF => (qai (ze 1 1 (ew rfl (qau rfl qd8) ?_)))
 rintro _ _ ⟨b4_0, rfl, rfl⟩
 refine st0 ?_
 refine ze 4 32 (qd 2 rfl ?_)
 obtain ⟨r2, h2, hr⟩ := zd hr
 refine er rfl (qjf _ rfl qdl (.oc rfl (.oc rfl .nil)) (by exact (pS [3, 3, 3] _)) (qcQ _ _ _ _ _ _ _ h2)) ?_
 refine st ?_
 refine zh 12 rfl hr (fun h12_2 hr => ?_) (fun h12_2 hr => ?_)
 refine st0 ?_
 refine ze 5 288 (qd 2 rfl ?_)
 obtain ⟨r4, h4, hr⟩ := zd hr
 refine er rfl (qjf _ rfl qgF (.oc rfl (.oc rfl .nil)) (by exact (pS [3, 3, 3] _)) (qga _ _ _ _ _ _ _ h4)) ?_
 refine rd rfl (qay rfl qha (.oc rfl (.oc rfl .nil)) (.cons rfl rfl rfl (.cons rfl rfl rfl (.nil _)))) (qbZ rfl (pf0 _) (qac (qbb 4 b4_0 rfl (pf0 _) ?_)))
 cases hr
 refine qaw Tryz.func204 _ (.cons (zbS rfl (by exact qdI) rfl (Wk.refl _)) .nil) ?_
 exact ⟨(by first | rfl | (show _ = D.agg (fsT _); rw [qfk] <;> rfl)), rfl⟩
 ·
  refine qyc 3 rfl (qox 78 4 ?_)
  obtain ⟨q_6, h6, hr⟩ := zd hr
  refine quE ob ob [(0, .d), (1, .d), (2, .d), (4, .d), (8, .d), (9, .d), (10, .d), (12, .d), (16, .d), (17, .d), (18, .d), (20, .d)] (.cons 3 [(5, .d), (6, .d), (7, .d)] (.cons 11 [(13, .d), (14, .d), (15, .d)] (.cons 19 [(21, .d), (22, .d), (23, .d), (24, .d)] (.cons 25 [] (.cons 26 [] .nil .nil) .nil) (.cons 25 [] (.cons 19 [(21, .d), (22, .d), (23, .d), (24, .d)] (.cons 26 [] .nil .nil) .nil) .nil)) (.cons 19 [(21, .d), (22, .d), (23, .d)] (.cons 11 [(13, .d), (14, .d), (15, .d), (24, .d)] (.cons 25 [] (.cons 26 [] .nil .nil) .nil) (.cons 25 [] (.cons 11 [(13, .d), (14, .d), (15, .d), (24, .d)] (.cons 26 [] .nil .nil) .nil) .nil)) (.cons 25 [] (.cons 11 [(13, .d), (14, .d), (15, .d)] (.cons 19 [(21, .d), (22, .d), (23, .d), (24, .d)] (.cons 26 [] .nil .nil) .nil) (.cons 19 [(21, .d), (22, .d), (23, .d)] (.cons 11 [(13, .d), (14, .d), (15, .d), (24, .d)] (.cons 26 [] .nil .nil) .nil) .nil)) .nil))) (.cons 11 [(13, .d), (14, .d), (15, .d)] (.cons 3 [(5, .d), (6, .d), (7, .d)] (.cons 19 [(21, .d), (22, .d), (23, .d), (24, .d)] (.cons 25 [] (.cons 26 [] .nil .nil) .nil) (.cons 25 [] (.cons 19 [(21, .d), (22, .d), (23, .d), (24, .d)] (.cons 26 [] .nil .nil) .nil) .nil)) (.cons 19 [(21, .d), (22, .d), (23, .d)] (.cons 3 [(5, .d), (6, .d), (7, .d), (24, .d)] (.cons 25 [] (.cons 26 [] .nil .nil) .nil) (.cons 25 [] (.cons 3 [(5, .d), (6, .d), (7, .d), (24, .d)] (.cons 26 [] .nil .nil) .nil) .nil)) (.cons 25 [] (.cons 3 [(5, .d), (6, .d), (7, .d)] (.cons 19 [(21, .d), (22, .d), (23, .d), (24, .d)] (.cons 26 [] .nil .nil) .nil) (.cons 19 [(21, .d), (22, .d), (23, .d)] (.cons 3 [(5, .d), (6, .d), (7, .d), (24, .d)] (.cons 26 [] .nil .nil) .nil) .nil)) .nil))) (.cons 19 [(21, .d), (22, .d), (23, .d)] (.cons 3 [(5, .d), (6, .d), (7, .d)] (.cons 11 [(13, .d), (14, .d), (15, .d), (24, .d)] (.cons 25 [] (.cons 26 [] .nil .nil) .nil) (.cons 25 [] (.cons 11 [(13, .d), (14, .d), (15, .d), (24, .d)] (.cons 26 [] .nil .nil) .nil) .nil)) (.cons 11 [(13, .d), (14, .d), (15, .d)] (.cons 3 [(5, .d), (6, .d), (7, .d), (24, .d)] (.cons 25 [] (.cons 26 [] .nil .nil) .nil) (.cons 25 [] (.cons 3 [(5, .d), (6, .d), (7, .d), (24, .d)] (.cons 26 [] .nil .nil) .nil) .nil)) (.cons 25 [] (.cons 3 [(5, .d), (6, .d), (7, .d)] (.cons 11 [(13, .d), (14, .d), (15, .d), (24, .d)] (.cons 26 [] .nil .nil) .nil) (.cons 11 [(13, .d), (14, .d), (15, .d)] (.cons 3 [(5, .d), (6, .d), (7, .d), (24, .d)] (.cons 26 [] .nil .nil) .nil) .nil)) .nil))) (.cons 25 [] (.cons 3 [(5, .d), (6, .d), (7, .d)] (.cons 11 [(13, .d), (14, .d), (15, .d)] (.cons 19 [(21, .d), (22, .d), (23, .d), (24, .d)] (.cons 26 [] .nil .nil) .nil) (.cons 19 [(21, .d), (22, .d), (23, .d)] (.cons 11 [(13, .d), (14, .d), (15, .d), (24, .d)] (.cons 26 [] .nil .nil) .nil) .nil)) (.cons 11 [(13, .d), (14, .d), (15, .d)] (.cons 3 [(5, .d), (6, .d), (7, .d)] (.cons 19 [(21, .d), (22, .d), (23, .d), (24, .d)] (.cons 26 [] .nil .nil) .nil) (.cons 19 [(21, .d), (22, .d), (23, .d)] (.cons 3 [(5, .d), (6, .d), (7, .d), (24, .d)] (.cons 26 [] .nil .nil) .nil) .nil)) (.cons 19 [(21, .d), (22, .d), (23, .d)] (.cons 3 [(5, .d), (6, .d), (7, .d)] (.cons 11 [(13, .d), (14, .d), (15, .d), (24, .d)] (.cons 26 [] .nil .nil) .nil) (.cons 11 [(13, .d), (14, .d), (15, .d)] (.cons 3 [(5, .d), (6, .d), (7, .d), (24, .d)] (.cons 26 [] .nil .nil) .nil) .nil)) .nil))) .nil)))) ob (fun env σ => ∃ (b6_r4_4 : Nat), Sub [(0, .ref b_o0 0 []), (4, .ref b4_0 0 []), (5, .int .i64 r2), (6, .ref b6_r4_4 0 [])] env ∧ σ.Perm [.cell b6_r4_4 (.agg [.int .i64 q_6.fa, .int .i64 q_6.fj, .str q_6.fF, .own (.slice none 0 0 ) ([].map zl)]), .row (.slice none 0 0 ) ([] : List D).length 78 4, .cell b4_0 (.agg [.int .i64 0, .int .i64 0, .str ⟨#[]⟩, .lst ([].map zl)]), .cell b_o0 (.agg [.own u_o1 (c_0_0.map qa), .vec u_o2 c_0_1.length]), .row u_o1 c_0_0.length 259 4, .vec u_o2 (c_0_1.map (D.int .i64)) 3 1]) ?_ ?_
  ·
   repeat' (first | exact p_no | refine qy3 ?_ ?_ | refine qac ?_ | refine qd 1 rfl ?_ | refine rd rfl (qM rfl rfl) ?_ | refine rd rfl (qg rfl qk rfl) ?_ | refine zbb 2 rfl ?_ | refine qps h6 rfl ?_ | refine rd rfl (qay rfl qtN (.oc rfl (.oc rfl (.oc rfl .nil))) (.cons rfl rfl rfl (.cons rfl rfl rfl (.cons rfl rfl rfl (.nil _))))) ?_ | (refine ew rfl (qau rfl qd8) ?_; rintro _ _ ⟨b, rfl, rfl⟩) | refine qbZ rfl (pf0 _) ?_ | refine zbb 3 rfl ?_ | (refine qyH ?_; exact ⟨_, sbr rfl, pkz⟩))
  ·
   rintro _ _ ⟨b6_r4_4, hs, hp⟩
   refine qob hs hp ?_
   refine st ?_
   obtain ⟨kk0, hkk0, hr⟩ := exK (fun k => qt k rec c_0_0 c_0_1 q_6 fuel 0 q_6.fa q_6.fj q_6.fF []) hr
   refine qq (fun env σ => ∃ (t14 : Int) (t15 : Int) (t16 : ByteArray) (t17 : List T) (u13 : Value), env = [(4, .ref b4_0 0 []), (6, .ref b6_r4_4 0 [])] ∧ σ = [.cell b4_0 (.agg [.int .i64 0, .int .i64 0, .str ⟨#[]⟩, .lst ([].map zl)]), .cell b6_r4_4 (.agg [.int .i64 t14, .int .i64 t15, .str t16, .own u13 (t17.map zl)]), .row u13 t17.length 78 4, .cell b_o0 (.agg [.own u_o1 (c_0_0.map qa), .vec u_o2 c_0_1.length]), .row u_o1 c_0_0.length 259 4, .vec u_o2 (c_0_1.map (D.int .i64)) 3 1] ∧ kk0 t14 t15 t16 t17 = some res) ?_ (fun HK0 => ?_)
   ·
    rintro _ _ ⟨t14, t15, t16, t17, u13, rfl, rfl, hr⟩
    rw [hkk0] at hr
    refine qai (ze 2 6 (qbR 1 rfl (qbZ rfl (pf0 _) (qac (qbb 4 b4_0 rfl (pf0 _) (qbA [_, _, _] _ (pS [4, 4, 4] _) ?_))))))
    cases hr
    refine qaw Tryz.func204 _ (.cons (zbS rfl (by exact qdI) rfl (Wk.agg (.cons (Wk.refl _) (.cons (Wk.refl _) (.cons (Wk.refl _) (.cons (Wk.own _ _) .nil)))))) .nil) ?_
    exact ⟨(by first | rfl | (show _ = D.agg (fsT _); rw [qfk] <;> rfl)), rfl⟩
   ·
    refine qab [0, 4, 5, 6, 7] rfl (qbA [_, _, _, _, _, _] _ (pS [1, 1, 2, 5, 5, 5] _) (qR (fun n env σ => ∃ (i8 : Int) (t9 : Int) (t10 : Int) (t11 : ByteArray) (t12 : List T) (u7 : Value) (n0 : Nat), (n0 = n) ∧ (env = [(0, .ref b_o0 0 []), (4, .ref b4_0 0 []), (5, .int .i64 r2), (6, .ref b6_r4_4 0 []), (7, .int .i64 i8)]) ∧ (σ = [.cell b_o0 (.agg [.own u_o1 (c_0_0.map qa), .vec u_o2 c_0_1.length]), .row u_o1 c_0_0.length 259 4, .vec u_o2 (c_0_1.map (D.int .i64)) 3 1, .cell b4_0 (.agg [.int .i64 0, .int .i64 0, .str ⟨#[]⟩, .lst ([].map zl)]), .cell b6_r4_4 (.agg [.int .i64 t9, .int .i64 t10, .str t11, .own u7 (t12.map zl)]), .row u7 t12.length 78 4]) ∧ (qt kk0 rec c_0_0 c_0_1 q_6 n0 i8 t9 t10 t11 t12 = some res)) _ ⟨0, q_6.fa, q_6.fj, q_6.fF, [], (.slice none 0 0 ), _, rfl, rfl, rfl, hr⟩ ?_))
    rintro n _ _ ⟨i8, t9, t10, t11, t12, u7, n0, rfl, rfl, rfl, hr⟩ IH0
    cases n0 with
    | zero => rw [qt] at hr; cases hr
    | succ n0 =>
     rw [qt] at hr
     refine st0 ?_
     refine ze 11 512 (qd 2 rfl (rd rfl (qM rfl rfl) (rd rfl (qg rfl qk rfl) (qbR 0 rfl ?_))))
     refine st ?_
     refine zh 52 rfl hr (fun h52_17 hr => ?_) (fun h52_17 hr => ?_)
     ·
      refine st ?_
      refine qy (qdH 25 301953382883336 (rd rfl (qg rfl qcx rfl) (qbR 4 rfl (qd 2 rfl (rd rfl (qM rfl rfl) (rd rfl (qg rfl qY rfl) (qbR 0 rfl (qd 1 rfl (rd rfl (qM rfl rfl) (rd rfl (qg rfl qk rfl) (qbR 0 rfl ?_)))))))))))
      refine st ?_
      obtain ⟨q_19, h19, hr⟩ := zd hr
      refine st ?_
      obtain ⟨q20, h20, hr⟩ := zd hr
      have hq_20_n := (qbV h20).2
      refine er rfl (qgg (f := (D.int .i64)) c_0_1 rfl qaS rfl rfl h20 (.tail _ (.tail _ (.head _)))) (er rfl (qj6 rfl rfl (.tail _ (.tail _ (.head _))) (zao hq_20_n) rfl rfl (by exact qfj) rfl) ?_)
      obtain ⟨r21, h21, hr⟩ := zd hr
      refine er rfl (qjf _ rfl qdn (.oc rfl (.oc rfl .nil)) (by exact (pf0 _)) (IHR _ _ _ _ _ _ _ h21)) ?_
      refine rd rfl (qet (f := zl) [.tmp 75] [r21] rfl qbg rfl rfl od od (.oc rfl .nil) qc2 (fun _ => rfl)) ?_
      obtain ⟨l22, h22, hr⟩ := zd hr
      refine ew rfl (qah (f := zl) t12 [r21] rfl qbg rfl rfl (asl rfl) (pf5 _ _ _ _ _ _ _) rfl qc2 h22) ?_
      rintro _ _ ⟨u77_22, rfl, rfl⟩
      refine rd rfl (qg rfl qcx rfl) (z9 rfl (qc9 _ rfl rfl rfl (Wk.refl _) (pf5 _ _ _ _ _ _ _) rfl rfl (by exact qjT) rfl rfl rfl) ?_)
      refine st ?_
      refine rd rfl (qeg rfl rfl rfl rfl) (qd 1 rfl (qac (qab [0, 4, 5, 6, 7] rfl (qbA [_, _, _, _, _, _] _ (pS [1, 1, 5, 5, 5, 5] _) ?_))))
      exact IH0 _ _ _ oa ⟨(wr (i8 + (1 : Int))), t9, t10, t11, l22, u77_22, _, rfl, rfl, rfl, hr⟩
     ·
      refine qhR rfl (qnJ rfl (qab [4, 6] rfl (qbA [_, _, _, _, _, _] _ (pS [2, 2, 2, 5, 5, 5] _) ?_)))
      exact HK0 _ _ ⟨t9, t10, t11, t12, u7, rfl, rfl, hr⟩
theorem qc0 : ∀ (fuel : Nat) (a1 : Int) (c_0_0 : List qb) (c_0_1 : List Int) (b_o0 : Nat) (u_o1 : Value) (u_o2 : Value) (res : T), qz fuel a1 c_0_0 c_0_1 = some res → Spec Tryz.prog 204 [.ref b_o0 0 [], .int .i64 a1] [.cell b_o0 (.agg [.own u_o1 (c_0_0.map qa), .vec u_o2 c_0_1.length]), .row u_o1 c_0_0.length 259 4, .vec u_o2 (c_0_1.map (D.int .i64)) 3 1] (fun d σ => d = zl res ∧ σ = [.cell b_o0 (.agg [.own u_o1 (c_0_0.map qa), .vec u_o2 c_0_1.length]), .row u_o1 c_0_0.length 259 4, .vec u_o2 (c_0_1.map (D.int .i64)) 3 1])
 | 0, _, _, _, _, _, _, _, h => by cases h
 | fuel + 1, a1, c_0_0, c_0_1, b_o0, u_o1, u_o2, res, h => qiz fuel (qz fuel) (qc0 fuel) a1 c_0_0 c_0_1 b_o0 u_o1 u_o2 res h
def qbT (k : Int → Option ((List (Int × T)) × Int)) (q27 : qb) : List (Int × T) → Nat → Option ((List (Int × T)) × Int)
 | [], k45 =>
 (k (k45 : Int))
 | q_59 :: rest, k45 =>
 (bif (decide (q_59.1 < q27.fj)) then
 (qbT k q27 rest (k45 + 1))
 else
 (k (k45 : Int)))
def qbO (k : Int → Option ((List (Int × T)) × Int)) (q27 : qb) : List (Int × T) → Nat → Option ((List (Int × T)) × Int)
 | [], k73 =>
 (k (k73 : Int))
 | q_87 :: rest, k73 =>
 (bif (decide (q_87.1 < q27.fj)) then
 (qbO k q27 rest (k73 + 1))
 else
 (k (k73 : Int)))
def q0 (k : ((List (Int × T))) → Option ((List (Int × T)) × Int)) (fuel : Nat) (r12 : (List qj) × Bool) : Nat → (List (Int × T)) → Int → List qb → List Int → Option ((List (Int × T)) × Int)
 | 0, o19, i20, g21, g22 =>
 none
 | rest + 1, o19, i20, g21, g22 =>
 (bif (decide (i20 < (g21.length : Int))) then
 ((zi g22 i20).bind fun q26 =>
 ((zi g21 i20).bind fun q27 =>
 (bif (q27.fa != (1 : Int)) then
 (q0 k fuel r12 rest o19 (wr (i20 + (1 : Int))) g21 g22)
 else
 ((qC q26 g21 g22).bind fun r29 =>
 (bif (decide (r29 < (0 : Int))) then
 ((qbz q26 g21 g22).bind fun r31 =>
 (bif (r31 == q27.fj) then
 (q0 k fuel r12 rest o19 (wr (i20 + (1 : Int))) g21 g22)
 else
 ((zi r12.1 q26).bind fun q_33 =>
 (bif (decide (q_33.fh > (200 : Int))) then
 some ([], 6)
 else
 (bif (decide (q_33.fm > (20 : Int))) then
 some ([], 6)
 else
 ((qz fuel q26 g21 g22).bind fun r39 =>
 (qbT (fun k48 =>
 ((zZ o19 0 k48).bind fun l51 =>
 ((zF 64 [] l51).bind fun l52 =>
 ((zF 64 l52 [(q27.fj, r39)]).bind fun l54 =>
 ((zZ o19 k48 (o19.length : Int)).bind fun l56 =>
 ((zF 64 l54 l56).bind fun l57 =>
 (q0 k fuel r12 rest l57 (wr (i20 + (1 : Int))) g21 g22))))))) q27 o19 0)))))))
 else
 ((zi r12.1 q26).bind fun q61 =>
 (bif (decide (q61.fh > (200 : Int))) then
 some ([], 6)
 else
 (bif (decide (q61.fm > (20 : Int))) then
 some ([], 6)
 else
 ((qz fuel q26 g21 g22).bind fun r67 =>
 (qbO (fun k76 =>
 ((zZ o19 0 k76).bind fun l79 =>
 ((zF 64 [] l79).bind fun l80 =>
 ((zF 64 l80 [(q27.fj, r67)]).bind fun l82 =>
 ((zZ o19 k76 (o19.length : Int)).bind fun l84 =>
 ((zF 64 l82 l84).bind fun l85 =>
 (q0 k fuel r12 rest l85 (wr (i20 + (1 : Int))) g21 g22))))))) q27 o19 0))))))))))
 else
 (k o19))
def qO (k : List qb → List Int → Option ((List (Int × T)) × Int)) (a1 : List T) (fuel : Nat) : List T → Nat → List qb → List Int → Option ((List (Int × T)) × Int)
 | [], i5, t19_6, t19_7 =>
 (k t19_6 t19_7)
 | q_89 :: rest, i5, t19_6, t19_7 =>
 ((qar fuel q_89 t19_6 t19_7).bind fun r90 =>
 ((zi a1 (i5 : Int)).bind fun q93 =>
 ((qar fuel q93 r90.2.1 r90.2.2).bind fun r94 =>
 ((q8 fuel r90.1 r94.1 r94.2.1 r94.2.2).bind fun r97 =>
 (bif (!r97.1) then
 some ([], 13)
 else
 (qO k a1 fuel rest (i5 + 1) r97.2.1 r97.2.2))))))
def qcs (fuel : Nat) (a0 : List T) (a1 : List T) : Option ((List (Int × T)) × Int) :=
 (qO (fun t19_10 t19_11 =>
 ((qaY fuel t19_10 t19_11).bind fun r12 =>
 (bif (!r12.2) then
 some ([], 13)
 else
 (q0 (fun o24 =>
 some (o24, 0)) fuel r12 fuel [] 0 t19_10 t19_11)))) a1 fuel a0 0 [] [])
theorem qlA (fuel : Nat) (a0 : List T) (a1 : List T) (a : (List (Int × T)) × Int) (hr : qcs fuel a0 a1 = some a) : zf Tryz.prog 189 [.lst (a0.map zl), .lst (a1.map zl)] (.tup [.lst (a.1.map zr), .int .i64 a.2]) := by
 unfold qcs at hr
 refine qx Tryz.func189 rfl fun K C E => (qai (ze 2 1 (ew rfl (qN 165 5 (.inl rfl)) ?_)))
 rintro _ _ ⟨u4_0, rfl, rfl⟩
 refine qd 1 rfl (qac (qai (qox 259 4 (qA9 3 1 od (ze 3 4 (rd rfl (qay rfl qjA .nil (.nil _)) (ew rfl (ql8 rfl rfl rfl) ?_)))))))
 rintro _ _ ⟨b19_1, rfl, rfl⟩
 refine st ?_
 obtain ⟨j, q, hr⟩ := exK (fun k => qO k a1 fuel a0 0 [] []) hr
 refine qct 0 rfl (asl rfl) fun r => ?_
 simp only [jb] at r
 refine qq (fun env σ => ∃ (t19_10 : List qb) (t19_11 : List Int) (u8 : Value) (u9 : Value), env = [(6, .ref b19_1 0 [])] ∧ σ = [.cell b19_1 (.agg [.own u8 (t19_10.map qa), .vec u9 t19_11.length]), .row u8 t19_10.length 259 4, .vec u9 (t19_11.map (D.int .i64)) 3 1] ∧ j t19_10 t19_11 = some a) ?_ (fun F => ?_)
 ·
  rintro _ _ ⟨t19_10, t19_11, u8, u9, rfl, rfl, hr⟩
  rw [q] at hr
  refine qai (ze 7 8 (qd 1 rfl ?_))
  obtain ⟨r12, h12, hr⟩ := zd hr
  refine er rfl (qjf _ rfl qiB (.oc rfl .nil) (by exact (pf0 _)) (qhS fuel _ _ _ _ _ _ h12)) ?_
  refine st ?_
  refine zh 49 rfl hr (fun _ hr => ?_) (fun _ hr => ?_)
  ·
   refine st0 ?_
   refine ze 2 1 (ew rfl (qN 165 5 (.inl rfl)) ?_)
   rintro _ _ ⟨u4_13, rfl, rfl⟩
   refine st ?_
   cases hr
   refine qaw Tryz.func189 _ (.cons (za rfl (Wk.own _ _)) (.cons (za rfl (Wk.refl _)) .nil)) ?_
   rfl
  ·
   refine st0 ?_
   refine ze 1 1 (ew rfl (qN 165 5 (.inl rfl)) ?_)
   rintro _ _ ⟨u12_14, rfl, rfl⟩
   refine st ?_
   obtain ⟨l, s, hr⟩ := exK (fun k => q0 k fuel r12 fuel [] 0 t19_10 t19_11) hr
   refine qq (fun env σ => ∃ (o24 : List (Int × T)) (u23 : Value), env = [(12, .own u23 (o24.map zr))] ∧ σ = [.row u23 o24.length 165 5] ∧ l o24 = some a) ?_ (fun t => ?_)
   ·
    rintro _ _ ⟨o24, u23, rfl, rfl, hr⟩
    rw [s] at hr
    refine st ?_
    cases hr
    refine qaw Tryz.func189 _ (.cons (za rfl (Wk.own _ _)) (.cons (za rfl (Wk.refl _)) .nil)) ?_
    rfl
   ·
    refine qab [6, 10, 12, 13] rfl (qbA [_, _, _, _] _ (pS [0, 3, 3, 3] _) (qR (fun n env σ => ∃ (o19 : List (Int × T)) (i20 : Int) (g21 : List qb) (g22 : List Int) (u16 : Value) (u17 : Value) (u18 : Value) (n1 : Nat), (n1 = n) ∧ (env = [(6, .ref b19_1 0 []), (10, .lst (r12.1.map qo)), (12, .own u18 (o19.map zr)), (13, .int .i64 i20)]) ∧ (σ = [.cell b19_1 (.agg [.own u16 (g21.map qa), .vec u17 g22.length]), .row u16 g21.length 259 4, .vec u17 (g22.map (D.int .i64)) 3 1, .row u18 o19.length 165 5]) ∧ (q0 l fuel r12 n1 o19 i20 g21 g22 = some a)) _ ⟨[], 0, t19_10, t19_11, u8, u9, u12_14, _, rfl, rfl, rfl, hr⟩ ?_))
    rintro n _ _ ⟨o19, i20, g21, g22, u16, u17, u18, n1, rfl, rfl, rfl, hr⟩ m
    cases n1 with
    | zero => rw [q0] at hr; cases hr
    | succ n1 =>
     rw [q0] at hr
     refine st0 ?_
     refine ze 7 512 (qd 2 rfl (rd rfl (qM rfl rfl) (rd rfl (qg rfl qk rfl) (qbR 0 rfl ?_))))
     refine st ?_
     refine zh 56 rfl hr (fun _ hr => ?_) (fun _ hr => ?_)
     ·
      refine st ?_
      refine qy (qai (ze 8 10368 (qd 1 rfl (rd rfl (qM rfl rfl) (rd rfl (qg rfl qY rfl) (qbR 0 rfl (qd 1 rfl ?_)))))))
      obtain ⟨q26, h26, hr⟩ := zd hr
      have hq_26_n := (qbV h26).2
      refine er rfl (qgg (f := (D.int .i64)) g22 rfl qaS rfl rfl h26 (.tail _ (.tail _ (.head _)))) (er rfl (qj6 rfl rfl (.tail _ (.tail _ (.head _))) (zao hq_26_n) rfl rfl (by exact qfj) rfl) ?_)
      refine st ?_
      refine qdH 29 8830486315136 (qd 1 rfl (rd rfl (qM rfl rfl) (rd rfl (qg rfl qk rfl) (qbR 0 rfl (qd 1 rfl ?_)))))
      obtain ⟨q27, h27, hr⟩ := zd hr
      refine st ?_
      refine zo 75 rfl hr (fun _ hr => ?_) (fun _ hr => ?_)
      ·
       refine st ?_
       refine rd rfl (qeg rfl rfl rfl rfl) ?_
       exact fin hr
      ·
       refine qd 2 rfl ?_
       obtain ⟨r29, h29, hr⟩ := zd hr
       refine er rfl (qjf _ rfl qdl (.oc rfl (.oc rfl .nil)) (by exact (pf0 _)) (qcQ _ _ _ _ _ _ _ h29)) ?_
       refine qd 2 rfl ?_
       refine zo 80 rfl hr (fun _ hr => ?_) (fun _ hr => ?_)
       ·
        refine qd 2 rfl ?_
        obtain ⟨r31, h31, hr⟩ := zd hr
        refine er rfl (qjf _ rfl qgF (.oc rfl (.oc rfl .nil)) (by exact (pf0 _)) (qga _ _ _ _ _ _ _ h31)) ?_
        refine qd 1 rfl (rd rfl (qM rfl rfl) (rd rfl (qg rfl qk rfl) (qbR 0 rfl ?_)))
        refine st ?_
        refine zh 94 rfl hr (fun _ hr => ?_) (fun _ hr => ?_)
        ·
         refine st ?_
         refine rd rfl (qeg rfl rfl rfl rfl) ?_
         exact fin hr
        ·
         refine st ?_
         obtain ⟨q_33, h33, hr⟩ := zd hr
         refine st ?_
         refine zo 101 rfl hr (fun _ hr => ?_) (fun _ hr => ?_)
         ·
          refine st0 ?_
          refine ze 2 1 (ew rfl (qN 165 5 (.inl rfl)) ?_)
          rintro _ _ ⟨u4_34, rfl, rfl⟩
          refine st ?_
          cases hr
          refine qaw Tryz.func189 _ (.cons (za rfl (Wk.own _ _)) (.cons (za rfl (Wk.refl _)) .nil)) ?_
          rfl
         ·
          refine st ?_
          refine zh 108 rfl hr (fun _ hr => ?_) (fun _ hr => ?_)
          ·
           refine st0 ?_
           refine ze 2 1 (ew rfl (qN 165 5 (.inl rfl)) ?_)
           rintro _ _ ⟨u4_36, rfl, rfl⟩
           refine st ?_
           cases hr
           refine qaw Tryz.func189 _ (.cons (za rfl (Wk.own _ _)) (.cons (za rfl (Wk.refl _)) .nil)) ?_
           rfl
          ·
           refine st ?_
           obtain ⟨r39, h39, hr⟩ := zd hr
           refine quE ob ob [(0, .d), (1, .d), (2, .d), (4, .d), (8, .d), (9, .d)] (.cons 3 [(5, .d), (6, .d), (7, .d)] (.cons 10 [(11, .d)] (.cons 12 [] (.cons 13 [] .nil .nil) .nil) (.cons 12 [] (.cons 10 [(11, .d)] (.cons 13 [] .nil .nil) .nil) .nil)) (.cons 10 [] (.cons 3 [(5, .d), (6, .d), (7, .d), (11, .d)] (.cons 12 [] (.cons 13 [] .nil .nil) .nil) (.cons 12 [] (.cons 3 [(5, .d), (6, .d), (7, .d), (11, .d)] (.cons 13 [] .nil .nil) .nil) .nil)) (.cons 12 [] (.cons 3 [(5, .d), (6, .d), (7, .d)] (.cons 10 [(11, .d)] (.cons 13 [] .nil .nil) .nil) (.cons 10 [] (.cons 3 [(5, .d), (6, .d), (7, .d), (11, .d)] (.cons 13 [] .nil .nil) .nil) .nil)) .nil))) ob (fun env σ => ∃ (b15_r20_37 : Nat), Sub [(6, .ref b19_1 0 []), (10, .lst (r12.1.map qo)), (12, .own u18 (o19.map zr)), (13, .int .i64 i20), (15, .ref b15_r20_37 0 [])] env ∧ σ.Perm [.cell b15_r20_37 (.agg [.int .i64 q27.fj, zl r39]), .cell b19_1 (.agg [.own u16 (g21.map qa), .vec u17 g22.length]), .row u16 g21.length 259 4, .vec u17 (g22.map (D.int .i64)) 3 1, .row u18 o19.length 165 5]) ?_ ?_
           ·
            repeat' (first | exact p_no | refine qy3 ?_ ?_ | refine qac ?_ | refine qd 1 rfl ?_ | refine rd rfl (qM rfl rfl) ?_ | refine rd rfl (qg rfl qk rfl) ?_ | refine zbb 0 rfl ?_ | refine qps h27 rfl ?_ | refine zbu rfl rfl rfl (qjf _ rfl qdn (.oc rfl (.oc rfl .nil)) (by exact (pf0 _)) (qc0 fuel _ _ _ _ _ _ _ h39)) ?_ | refine rd rfl (qay rfl ql7 (.oc rfl (.oc rfl .nil)) (.cons rfl rfl rfl (.cons rfl (qc2 _) rfl (.nil _)))) ?_ | (refine ew rfl (qau rfl qpW) ?_; rintro _ _ ⟨b, rfl, rfl⟩) | refine z9 rfl (qjX _ rfl rfl rfl (Wk.refl _) (pf0 _) (by exact qkd) (by first | rfl | simp [sz, szs, qed, qc2]) (by first | rfl | simp [sz, szs, qed, qc2]) rfl) ?_ | refine zbu rfl rfl rfl (qjf _ rfl qdn (.oc rfl (.oc rfl .nil)) (by exact (pS [3, 3, 3] _)) (qc0 fuel _ _ _ _ _ _ _ h39)) ?_ | refine zbb 1 rfl ?_ | (refine qyH ?_; exact ⟨_, sbr rfl, pkz⟩))
           ·
            rintro _ _ ⟨b15_r20_37, hs, hp⟩
            refine qob hs hp (qbb 15 b15_r20_37 rfl (pf0 _) (qai (ze 1 1 (ew rfl (qN 165 5 (.inl rfl)) ?_))))
            rintro _ _ ⟨u16_39, rfl, rfl⟩
            refine st ?_
            obtain ⟨o, u, hr⟩ := exK (fun k => qbT k q27 o19 0) hr
            refine qct 12 rfl (asl rfl) fun v => ?_
            simp only [jb] at v
            refine qq (fun env σ => ∃ (k48 : Int) (u46 : Value) (u47 : Value) (u49 : Value) (u50 : Value), env = [(6, .ref b19_1 0 []), (10, .lst (r12.1.map qo)), (12, .own u46 (o19.map zr)), (13, .int .i64 i20), (15, .ptr (.agg [.int .i64 q27.fj, zl r39])), (16, .own u47 ([].map zr)), (17, .int .i64 k48)] ∧ σ = [.cell b19_1 (.agg [.own u49 (g21.map qa), .vec u50 g22.length]), .row u49 g21.length 259 4, .vec u50 (g22.map (D.int .i64)) 3 1, .row u46 o19.length 165 5, .row u47 ([] : (List (Int × T))).length 165 5] ∧ o k48 = some a) ?_ (fun G => ?_)
            ·
             rintro _ _ ⟨k48, u46, u47, u49, u50, rfl, rfl, hr⟩
             rw [u] at hr
             refine qai (ze 6 256 (qd 3 rfl ?_))
             obtain ⟨l51, h51, hr⟩ := zd hr
             refine rd rfl (qjy (f := zr) o19 0 k48 rfl qeP rfl (asl rfl) qg0 (qg7 rfl) qgs h51) ?_
             obtain ⟨l52, h52, hr⟩ := zd hr
             refine ew rfl (qah (f := zr) [] l51 rfl qeP rfl rfl (asl rfl) (pf4 _ _ _ _ _ _) rfl qgs h52) ?_
             rintro _ _ ⟨u141_52, rfl, rfl⟩
             refine st0 ?_
             refine ze 5 64 (qd 1 rfl (rd rfl (qzV rfl rfl (by exact qkd) (by first | rfl | simp [sz, szs, qed, qc2])) (rd rfl (qet (f := zr) [.tmp 143] [(q27.fj, r39)] rfl qeP rfl rfl od od (.oc rfl .nil) qgs (fun _ => rfl)) ?_)))
             obtain ⟨l54, h54, hr⟩ := zd hr
             refine ew rfl (qah (f := zr) l52 [(q27.fj, r39)] rfl qeP rfl rfl (asl rfl) (pf0 _) rfl qgs h54) ?_
             rintro _ _ ⟨u145_54, rfl, rfl⟩
             refine st0 ?_
             refine ze 6 256 (qd 3 rfl ?_)
             obtain ⟨l56, h56, hr⟩ := zd hr
             refine rd rfl (qjy (f := zr) o19 k48 (o19.length : Int) rfl qeP rfl (asl rfl) (qnZ rfl) qnV qgs h56) ?_
             obtain ⟨l57, h57, hr⟩ := zd hr
             refine ew rfl (qah (f := zr) l54 l56 rfl qeP rfl rfl (asl rfl) (pf0 _) rfl qgs h57) ?_
             rintro _ _ ⟨u150_57, rfl, rfl⟩
             refine st ?_
             refine rd rfl (qeg rfl rfl rfl rfl) (qd 1 rfl (qac (qab [6, 10, 12, 13] rfl (qbA [_, _, _, _] _ (pS [0, 3, 3, 3] _) ?_))))
             exact m _ _ _ oa ⟨l57, (wr (i20 + (1 : Int))), g21, g22, u49, u50, u150_57, _, rfl, rfl, rfl, hr⟩
            ·
             refine qab [6, 10, 12, 13, 15, 16, 17] rfl (qbA [_, _, _, _, _] _ (pS [0, 4, 4, 4, 4] _) (qR (fun n env σ => ∃ (k45 : Nat) (u41 : Value) (u42 : Value) (u43 : Value) (u44 : Value), n = o19.length - k45 ∧ (env = [(6, .ref b19_1 0 []), (10, .lst (r12.1.map qo)), (12, .own u43 (o19.map zr)), (13, .int .i64 i20), (15, .ptr (.agg [.int .i64 q27.fj, zl r39])), (16, .own u44 ([].map zr)), (17, .int .i64 (k45 : Int))]) ∧ (σ = [.cell b19_1 (.agg [.own u41 (g21.map qa), .vec u42 g22.length]), .row u41 g21.length 259 4, .vec u42 (g22.map (D.int .i64)) 3 1, .row u43 o19.length 165 5, .row u44 ([] : (List (Int × T))).length 165 5]) ∧ (k45 ≤ o19.length) ∧ (qbT o q27 (o19.drop k45) k45 = some a)) _ ⟨0, u16, u17, u18, u16_39, rfl, rfl, rfl, jc _, hr⟩ ?_))
             rintro n _ _ ⟨k45, u41, u42, u43, u44, rfl, rfl, rfl, w, hr⟩ H
             rcases zb o19 k45 w with ⟨c, e, I⟩ | ⟨q_59, c, e, J, L⟩
             ·
              rw [e, qbT] at hr
              refine st ?_
              refine qdH 14 0 (qd 2 rfl (qjz rfl (qd 2 rfl (qhh 125 false rfl c ?_))))
              exact fin hr
             ·
              rw [e, qbT] at hr
              refine st ?_
              refine qdH 14 0 (qd 2 rfl (qjz rfl (qd 2 rfl (qhh 125 true rfl c ?_))))
              refine st ?_
              refine zh 134 rfl hr (fun _ hr => ?_) (fun _ hr => ?_)
              ·
               refine st ?_
               refine qy ?_
               exact fin hr
              ·
               exact fin hr
       ·
        refine st ?_
        obtain ⟨q61, h61, hr⟩ := zd hr
        refine st ?_
        refine zo 101 rfl hr (fun _ hr => ?_) (fun _ hr => ?_)
        ·
         refine st0 ?_
         refine ze 2 1 (ew rfl (qN 165 5 (.inl rfl)) ?_)
         rintro _ _ ⟨u4_62, rfl, rfl⟩
         refine st ?_
         cases hr
         refine qaw Tryz.func189 _ (.cons (za rfl (Wk.own _ _)) (.cons (za rfl (Wk.refl _)) .nil)) ?_
         rfl
        ·
         refine st ?_
         refine zh 108 rfl hr (fun _ hr => ?_) (fun _ hr => ?_)
         ·
          refine st0 ?_
          refine ze 2 1 (ew rfl (qN 165 5 (.inl rfl)) ?_)
          rintro _ _ ⟨u4_64, rfl, rfl⟩
          refine st ?_
          cases hr
          refine qaw Tryz.func189 _ (.cons (za rfl (Wk.own _ _)) (.cons (za rfl (Wk.refl _)) .nil)) ?_
          rfl
         ·
          refine st ?_
          obtain ⟨r67, h67, hr⟩ := zd hr
          refine quE ob ob [(0, .d), (1, .d), (2, .d), (4, .d), (8, .d), (9, .d)] (.cons 3 [(5, .d), (6, .d), (7, .d)] (.cons 10 [(11, .d)] (.cons 12 [] (.cons 13 [] .nil .nil) .nil) (.cons 12 [] (.cons 10 [(11, .d)] (.cons 13 [] .nil .nil) .nil) .nil)) (.cons 10 [] (.cons 3 [(5, .d), (6, .d), (7, .d), (11, .d)] (.cons 12 [] (.cons 13 [] .nil .nil) .nil) (.cons 12 [] (.cons 3 [(5, .d), (6, .d), (7, .d), (11, .d)] (.cons 13 [] .nil .nil) .nil) .nil)) (.cons 12 [] (.cons 3 [(5, .d), (6, .d), (7, .d)] (.cons 10 [(11, .d)] (.cons 13 [] .nil .nil) .nil) (.cons 10 [] (.cons 3 [(5, .d), (6, .d), (7, .d), (11, .d)] (.cons 13 [] .nil .nil) .nil) .nil)) .nil))) ob (fun env σ => ∃ (b15_r20_65 : Nat), Sub [(6, .ref b19_1 0 []), (10, .lst (r12.1.map qo)), (12, .own u18 (o19.map zr)), (13, .int .i64 i20), (15, .ref b15_r20_65 0 [])] env ∧ σ.Perm [.cell b15_r20_65 (.agg [.int .i64 q27.fj, zl r67]), .cell b19_1 (.agg [.own u16 (g21.map qa), .vec u17 g22.length]), .row u16 g21.length 259 4, .vec u17 (g22.map (D.int .i64)) 3 1, .row u18 o19.length 165 5]) ?_ ?_
          ·
           repeat' (first | exact p_no | refine qy3 ?_ ?_ | refine qac ?_ | refine qd 1 rfl ?_ | refine rd rfl (qM rfl rfl) ?_ | refine rd rfl (qg rfl qk rfl) ?_ | refine zbb 0 rfl ?_ | refine qps h27 rfl ?_ | refine zbu rfl rfl rfl (qjf _ rfl qdn (.oc rfl (.oc rfl .nil)) (by exact (pf0 _)) (qc0 fuel _ _ _ _ _ _ _ h67)) ?_ | refine rd rfl (qay rfl ql7 (.oc rfl (.oc rfl .nil)) (.cons rfl rfl rfl (.cons rfl (qc2 _) rfl (.nil _)))) ?_ | (refine ew rfl (qau rfl qpW) ?_; rintro _ _ ⟨b, rfl, rfl⟩) | refine z9 rfl (qjX _ rfl rfl rfl (Wk.refl _) (pf0 _) (by exact qkd) (by first | rfl | simp [sz, szs, qed, qc2]) (by first | rfl | simp [sz, szs, qed, qc2]) rfl) ?_ | refine zbu rfl rfl rfl (qjf _ rfl qdn (.oc rfl (.oc rfl .nil)) (by exact (pS [3, 3, 3] _)) (qc0 fuel _ _ _ _ _ _ _ h67)) ?_ | refine zbb 1 rfl ?_ | (refine qyH ?_; exact ⟨_, sbr rfl, pkz⟩))
          ·
           rintro _ _ ⟨b15_r20_65, hs, hp⟩
           refine qob hs hp (qbb 15 b15_r20_65 rfl (pf0 _) (qai (ze 1 1 (ew rfl (qN 165 5 (.inl rfl)) ?_))))
           rintro _ _ ⟨u16_67, rfl, rfl⟩
           refine st ?_
           obtain ⟨p, x, hr⟩ := exK (fun k => qbO k q27 o19 0) hr
           refine qct 12 rfl (asl rfl) fun y => ?_
           simp only [jb] at y
           refine qq (fun env σ => ∃ (k76 : Int) (u74 : Value) (u75 : Value) (u77 : Value) (u78 : Value), env = [(6, .ref b19_1 0 []), (10, .lst (r12.1.map qo)), (12, .own u74 (o19.map zr)), (13, .int .i64 i20), (15, .ptr (.agg [.int .i64 q27.fj, zl r67])), (16, .own u75 ([].map zr)), (17, .int .i64 k76)] ∧ σ = [.cell b19_1 (.agg [.own u77 (g21.map qa), .vec u78 g22.length]), .row u77 g21.length 259 4, .vec u78 (g22.map (D.int .i64)) 3 1, .row u74 o19.length 165 5, .row u75 ([] : (List (Int × T))).length 165 5] ∧ p k76 = some a) ?_ (fun M => ?_)
           ·
            rintro _ _ ⟨k76, u74, u75, u77, u78, rfl, rfl, hr⟩
            rw [x] at hr
            refine qai (ze 6 256 (qd 3 rfl ?_))
            obtain ⟨l79, h79, hr⟩ := zd hr
            refine rd rfl (qjy (f := zr) o19 0 k76 rfl qeP rfl (asl rfl) qg0 (qg7 rfl) qgs h79) ?_
            obtain ⟨l80, h80, hr⟩ := zd hr
            refine ew rfl (qah (f := zr) [] l79 rfl qeP rfl rfl (asl rfl) (pf4 _ _ _ _ _ _) rfl qgs h80) ?_
            rintro _ _ ⟨u141_80, rfl, rfl⟩
            refine st0 ?_
            refine ze 5 64 (qd 1 rfl (rd rfl (qzV rfl rfl (by exact qkd) (by first | rfl | simp [sz, szs, qed, qc2])) (rd rfl (qet (f := zr) [.tmp 143] [(q27.fj, r67)] rfl qeP rfl rfl od od (.oc rfl .nil) qgs (fun _ => rfl)) ?_)))
            obtain ⟨l82, h82, hr⟩ := zd hr
            refine ew rfl (qah (f := zr) l80 [(q27.fj, r67)] rfl qeP rfl rfl (asl rfl) (pf0 _) rfl qgs h82) ?_
            rintro _ _ ⟨u145_82, rfl, rfl⟩
            refine st0 ?_
            refine ze 6 256 (qd 3 rfl ?_)
            obtain ⟨l84, h84, hr⟩ := zd hr
            refine rd rfl (qjy (f := zr) o19 k76 (o19.length : Int) rfl qeP rfl (asl rfl) (qnZ rfl) qnV qgs h84) ?_
            obtain ⟨l85, h85, hr⟩ := zd hr
            refine ew rfl (qah (f := zr) l82 l84 rfl qeP rfl rfl (asl rfl) (pf0 _) rfl qgs h85) ?_
            rintro _ _ ⟨u150_85, rfl, rfl⟩
            refine st ?_
            refine rd rfl (qeg rfl rfl rfl rfl) (qd 1 rfl (qac (qab [6, 10, 12, 13] rfl (qbA [_, _, _, _] _ (pS [0, 3, 3, 3] _) ?_))))
            exact m _ _ _ oa ⟨l85, (wr (i20 + (1 : Int))), g21, g22, u77, u78, u150_85, _, rfl, rfl, rfl, hr⟩
           ·
            refine qab [6, 10, 12, 13, 15, 16, 17] rfl (qbA [_, _, _, _, _] _ (pS [0, 4, 4, 4, 4] _) (qR (fun n env σ => ∃ (k73 : Nat) (u69 : Value) (u70 : Value) (u71 : Value) (u72 : Value), n = o19.length - k73 ∧ (env = [(6, .ref b19_1 0 []), (10, .lst (r12.1.map qo)), (12, .own u71 (o19.map zr)), (13, .int .i64 i20), (15, .ptr (.agg [.int .i64 q27.fj, zl r67])), (16, .own u72 ([].map zr)), (17, .int .i64 (k73 : Int))]) ∧ (σ = [.cell b19_1 (.agg [.own u69 (g21.map qa), .vec u70 g22.length]), .row u69 g21.length 259 4, .vec u70 (g22.map (D.int .i64)) 3 1, .row u71 o19.length 165 5, .row u72 ([] : (List (Int × T))).length 165 5]) ∧ (k73 ≤ o19.length) ∧ (qbO p q27 (o19.drop k73) k73 = some a)) _ ⟨0, u16, u17, u18, u16_67, rfl, rfl, rfl, jc _, hr⟩ ?_))
            rintro n _ _ ⟨k73, u69, u70, u71, u72, rfl, rfl, rfl, z, hr⟩ N
            rcases zb o19 k73 z with ⟨g, h, O⟩ | ⟨q_87, g, h, P, Q⟩
            ·
             rw [h, qbO] at hr
             refine st ?_
             refine qdH 14 0 (qd 2 rfl (qjz rfl (qd 2 rfl (qhh 125 false rfl g ?_))))
             exact fin hr
            ·
             rw [h, qbO] at hr
             refine st ?_
             refine qdH 14 0 (qd 2 rfl (qjz rfl (qd 2 rfl (qhh 125 true rfl g ?_))))
             refine st ?_
             refine zh 134 rfl hr (fun _ hr => ?_) (fun _ hr => ?_)
             ·
              refine st ?_
              refine qy ?_
              exact fin hr
             ·
              exact fin hr
     ·
      refine qhR rfl (qnJ rfl (qab [12] rfl (qbA [_] _ (pf3 _ _ _ _ _) ?_)))
      exact t _ _ ⟨o19, u18, rfl, rfl, hr⟩
 refine qab [0, 1, 6, 7] rfl (qbA [_, _, _] _ (pS [1, 2, 2] _) (qR (fun n env σ => ∃ (i5 : Nat) (t19_6 : List qb) (t19_7 : List Int) (u3 : Value) (u4 : Value), n = a0.length - i5 ∧ (env = [(0, .lst (a0.map zl)), (1, .lst (a1.map zl)), (6, .ref b19_1 0 []), (7, .int .i64 (i5 : Int))]) ∧ (σ = [.cell b19_1 (.agg [.own u3 (t19_6.map qa), .vec u4 t19_7.length]), .row u3 t19_6.length 259 4, .vec u4 (t19_7.map (D.int .i64)) 3 1]) ∧ (i5 ≤ a0.length) ∧ (qO j a1 fuel (a0.drop i5) i5 t19_6 t19_7 = some a)) _ ⟨0, [], [], (.slice none 0 0 ), (.slice none 0 0  ), rfl, rfl, rfl, jc _, hr⟩ ?_))
 rintro n _ _ ⟨i5, t19_6, t19_7, u3, u4, rfl, rfl, rfl, A, hr⟩ R
 rcases zb a0 i5 A with ⟨B, i, S⟩ | ⟨q_89, B, i, U, V⟩
 rw [i, qO] at hr
 exact fin hr
 rw [i, qO] at hr
 refine st ?_
 refine qy (qai (ze 7 1024 ?_))
 refine st ?_
 obtain ⟨r90, h90, hr⟩ := zd hr
 refine ew rfl (qiP _ rfl qei (.oc rfl (.oc rfl .nil)) (by exact (pf0 _)) (qeX fuel _ _ _ _ _ _ _ h90)) ?_
 rintro _ _ ⟨_, ⟨u31_90, u31_91, rfl, rfl⟩, rfl⟩
 refine y7 ((.cell b19_1 (.agg [.own u31_90 (r90.2.1.map qa), .vec u31_91 r90.2.2.length])) :: (.row u31_90 r90.2.1.length 259 4) :: (.vec u31_91 (r90.2.2.map (D.int .i64)) 3 1) :: _) rfl ?_
 refine st0 ?_
 refine ze 7 1024 (qd 3 rfl ?_)
 obtain ⟨q93, h93, hr⟩ := zd hr
 refine st ?_
 obtain ⟨r94, h94, hr⟩ := zd hr
 refine ew rfl (qiP _ rfl qei (.oc rfl (.oc rfl .nil)) (by exact (pf0 _)) (qeX fuel _ _ _ _ _ _ _ h94)) ?_
 rintro _ _ ⟨_, ⟨u37_94, u37_95, rfl, rfl⟩, rfl⟩
 refine y7 ((.cell b19_1 (.agg [.own u37_94 (r94.2.1.map qa), .vec u37_95 r94.2.2.length])) :: (.row u37_94 r94.2.1.length 259 4) :: (.vec u37_95 (r94.2.2.map (D.int .i64)) 3 1) :: _) rfl ?_
 refine st0 ?_
 refine ze 5 64 (qd 3 rfl ?_)
 obtain ⟨r97, h97, hr⟩ := zd hr
 refine ew rfl (qiP _ rfl qgO (.oc rfl (.oc rfl (.oc rfl .nil))) (by exact (pf0 _)) (qgi fuel _ _ _ _ _ _ _ _ h97)) ?_
 rintro _ _ ⟨_, ⟨u41_97, u41_98, rfl, rfl⟩, rfl⟩
 refine y7 ((.cell b19_1 (.agg [.own u41_97 (r97.2.1.map qa), .vec u41_98 r97.2.2.length])) :: (.row u41_97 r97.2.1.length 259 4) :: (.vec u41_98 (r97.2.2.map (D.int .i64)) 3 1) :: _) rfl ?_
 refine st ?_
 refine zh 42 rfl hr (fun _ hr => ?_) (fun _ hr => ?_)
 refine st0 ?_
 refine ze 2 1 (ew rfl (qN 165 5 (.inl rfl)) ?_)
 rintro _ _ ⟨u4_100, rfl, rfl⟩
 refine st ?_
 cases hr
 refine qaw Tryz.func189 _ (.cons (za rfl (Wk.own _ _)) (.cons (za rfl (Wk.refl _)) .nil)) ?_
 rfl
 exact fin hr
def qb9 (k : Option ((List (Int × T)) × Int)) : List T → Option ((List (Int × T)) × Int)
 | [] =>
 k
 | q_5 :: rest =>
 ((qkN q_5).bind fun r6 =>
 (bif (!r6) then
 some ([], 2)
 else
 (qb9 k rest)))
def qcj (k : Option ((List (Int × T)) × Int)) : List T → Option ((List (Int × T)) × Int)
 | [] =>
 k
 | q_8 :: rest =>
 ((qkN q_8).bind fun r9 =>
 (bif (!r9) then
 some ([], 2)
 else
 (qcj k rest)))
def qaQ (fuel : Nat) (a0 : List T) (a1 : List T) : Option ((List (Int × T)) × Int) :=
 (qcj ((qb9 ((bif ((a0.length : Int) != (a1.length : Int)) then
 some ([], 9)
 else
 ((qcs fuel a0 a1).bind fun r4 =>
 some (r4.1, r4.2)))) a1)) a0)
theorem qi7 (fuel : Nat) (a0 : List T) (a1 : List T) (a : (List (Int × T)) × Int) (hr : qaQ fuel a0 a1 = some a) : zf Tryz.prog 175 [.lst (a0.map zl), .lst (a1.map zl)] (.tup [.lst (a.1.map zr), .int .i64 a.2]) := by
 unfold qaQ at hr
 refine qx Tryz.func175 rfl fun K q r => ?_
 refine st ?_
 obtain ⟨d, g, hr⟩ := exK (fun k => qcj k a0) hr
 refine qct 0 rfl (asl rfl) fun h => ?_
 simp only [jb] at h
 refine qq (fun env σ => env = [(0, .lst (a0.map zl)), (1, .lst (a1.map zl))] ∧ σ = [] ∧ d = some a) ?_ (fun s => ?_)
 rintro _ _ ⟨rfl, rfl, hr⟩
 rw [g] at hr
 refine st ?_
 obtain ⟨e, i, hr⟩ := exK (fun k => qb9 k a1) hr
 refine qct 1 rfl (asl rfl) fun j => ?_
 simp only [jb] at j
 refine qq (fun env σ => env = [(0, .lst (a0.map zl)), (1, .lst (a1.map zl))] ∧ σ = [] ∧ e = some a) ?_ (fun t => ?_)
 rintro _ _ ⟨rfl, rfl, hr⟩
 rw [i] at hr
 refine st ?_
 refine zh 36 rfl hr (fun _ hr => ?_) (fun _ hr => ?_)
 refine st ?_
 cases hr
 refine qaw Tryz.func175 _ (.cons (za rfl (Wk.full _)) (.cons (za rfl (Wk.refl _)) .nil)) ?_
 rfl
 refine st ?_
 refine zj hr rfl qlK (qlA fuel _ _) (fun r4 h4 hr => ?_)
 exact fin hr
 refine qab [0, 1, 7] rfl (qR (fun n env σ => ∃ (i2 : Nat), n = a1.length - i2 ∧ (env = [(0, .lst (a0.map zl)), (1, .lst (a1.map zl)), (7, .int .i64 (i2 : Int))]) ∧ (σ = []) ∧ (i2 ≤ a1.length) ∧ (qb9 e (a1.drop i2) = some a)) _ ⟨0, rfl, rfl, rfl, jc _, hr⟩ ?_)
 rintro n _ _ ⟨i2, rfl, rfl, rfl, l, hr⟩ u
 rcases zb a1 i2 l with ⟨m, b, v⟩ | ⟨q_5, m, b, w, x⟩
 rw [b, qb9] at hr
 exact fin hr
 rw [b, qb9] at hr
 refine st ?_
 refine qy ?_
 refine st ?_
 obtain ⟨r6, h6, hr⟩ := zd hr
 refine qdY rfl qd4 (qd7 _ _ h6) ?_
 refine st ?_
 refine zh 31 rfl hr (fun _ hr => ?_) (fun _ hr => ?_)
 refine st ?_
 cases hr
 refine qaw Tryz.func175 _ (.cons (za rfl (Wk.full _)) (.cons (za rfl (Wk.refl _)) .nil)) ?_
 rfl
 exact fin hr
 refine qab [0, 1, 6] rfl (qR (fun n env σ => ∃ (i1 : Nat), n = a0.length - i1 ∧ (env = [(0, .lst (a0.map zl)), (1, .lst (a1.map zl)), (6, .int .i64 (i1 : Int))]) ∧ (σ = []) ∧ (i1 ≤ a0.length) ∧ (qcj d (a0.drop i1) = some a)) _ ⟨0, rfl, rfl, rfl, jc _, hr⟩ ?_)
 rintro n _ _ ⟨i1, rfl, rfl, rfl, o, hr⟩ y
 rcases zb a0 i1 o with ⟨p, c, z⟩ | ⟨q_8, p, c, A, B⟩
 rw [c, qcj] at hr
 exact fin hr
 rw [c, qcj] at hr
 refine st ?_
 refine qy ?_
 refine st ?_
 obtain ⟨r9, h9, hr⟩ := zd hr
 refine qdY rfl qd4 (qd7 _ _ h9) ?_
 refine st ?_
 refine zh 19 rfl hr (fun _ hr => ?_) (fun _ hr => ?_)
 refine st ?_
 cases hr
 refine qaw Tryz.func175 _ (.cons (za rfl (Wk.full _)) (.cons (za rfl (Wk.refl _)) .nil)) ?_
 rfl
 exact fin hr
def qfC (fuel : Nat) (a0 : T) (a1 : T) : Option ((List (Int × T)) × Int) :=
 ((qaQ fuel [a0] [a1]).bind fun r1 =>
 some (r1.1, r1.2))
theorem qlp (fuel : Nat) (a0 : T) (a1 : T) (a : (List (Int × T)) × Int) (hr : qfC fuel a0 a1 = some a) : zf Tryz.prog 196 [zl a0, zl a1] (.tup [.lst (a.1.map zr), .int .i64 a.2]) := by
 unfold qfC at hr
 refine qx Tryz.func196 rfl fun K b c => ?_
 refine st ?_
 refine rd rfl (qcG rfl rfl rfl) (rd rfl (qcG rfl rfl rfl) ?_)
 refine st ?_
 refine rd rfl (qet (f := zl) [.tmp 6] [a0] rfl qbg rfl rfl od od (.oc rfl .nil) qc2 (fun _ => rfl)) (qd 1 rfl (rd rfl (qet (f := zl) [.tmp 8] [a1] rfl qbg rfl rfl od od (.oc rfl .nil) qc2 (fun _ => rfl)) ?_))
 obtain ⟨r1, h1, hr⟩ := zd hr
 refine rd rfl (by exact qhg rfl qi4 (.cons rfl (Wk.full _) (.cons rfl (Wk.full _) .nil)) (qi7 fuel _ _ _ h1)) ?_
 exact fin hr
def qb6 (fuel : Nat) (a0 : T) (a1 : T) : Option Bool :=
 ((qfC fuel a0 a1).bind fun r1 =>
 (bif (r1.2 == (0 : Int)) then
 some (true)
 else
 some ((r1.2 == (6 : Int)))))
theorem qhk (fuel : Nat) (a0 : T) (a1 : T) (a : Bool) (hr : qb6 fuel a0 a1 = some a) : zf Tryz.prog 185 [zl a0, zl a1] (.bool a) := by
 unfold qb6 at hr
 refine qx Tryz.func185 rfl fun K b c => ?_
 refine st ?_
 refine rd rfl (qcG rfl rfl rfl) (rd rfl (qcG rfl rfl rfl) ?_)
 refine st ?_
 refine zj hr rfl ql0 (qlp fuel _ _) (fun r1 h1 hr => ?_)
 refine st ?_
 refine zo 15 rfl hr (fun _ hr => ?_) (fun _ hr => ?_)
 exact fin hr
 exact fin hr
def qeh (fuel : Nat) (a0 : Gl) : Option Int :=
 ((qdD a0).bind fun r1 =>
 (bif (!r1) then
 (bif (a0.op == (1 : Int)) then
 ((qjW a0).bind fun r4 =>
 ((qS r4).bind fun r5 =>
 some (r5)))
 else
 ((qS false).bind fun r6 =>
 some (r6)))
 else
 ((zi a0.ts 0).bind fun q_7 =>
 (bif (a0.op == (11 : Int)) then
 (bif (q_7.k == (1 : Int)) then
 some (0)
 else
 ((qS (q_7.k == (0 : Int))).bind fun r11 =>
 some (r11)))
 else
 (bif (a0.op == (12 : Int)) then
 ((qc1 fuel q_7).bind fun r13 =>
 (bif r13 then
 some (1)
 else
 some (0)))
 else
 ((zi a0.ts 1).bind fun q_15 =>
 (bif (a0.op != (5 : Int)) then
 (bif (a0.op != (6 : Int)) then
 ((qeB fuel a0.op q_7 q_15).bind fun r19 =>
 some (r19))
 else
 ((qm6 q_7 q_15).bind fun r20 =>
 (bif r20 then
 ((qS (a0.op == (5 : Int))).bind fun r22 =>
 some (r22))
 else
 ((qb6 fuel q_7 q_15).bind fun r23 =>
 (bif (!r23) then
 ((qS (a0.op == (6 : Int))).bind fun r25 =>
 some (r25))
 else
 some (0))))))
 else
 ((qm6 q_7 q_15).bind fun r26 =>
 (bif r26 then
 ((qS (a0.op == (5 : Int))).bind fun r28 =>
 some (r28))
 else
 ((qb6 fuel q_7 q_15).bind fun r29 =>
 (bif (!r29) then
 ((qS (a0.op == (6 : Int))).bind fun r31 =>
 some (r31))
 else
 some (0))))))))))))
theorem qmf (fuel : Nat) (a0 : Gl) (a : Int) (hr : qeh fuel a0 = some a) : zf Tryz.prog 169 [zE a0] (.int .i64 a) := by
 unfold qeh at hr
 refine qx Tryz.func169 rfl fun K b c => ?_
 refine st ?_
 refine rd rfl (qcG rfl rfl rfl) ?_
 refine st ?_
 refine zj hr rfl qhZ (qh0 _) (fun r1 h1 hr => ?_)
 refine st ?_
 refine zh 7 rfl hr (fun _ hr => ?_) (fun _ hr => ?_)
 refine st ?_
 refine zo 11 rfl hr (fun _ hr => ?_) (fun _ hr => ?_)
 refine qd 1 rfl ?_
 obtain ⟨r4, h4, hr⟩ := zd hr
 refine qdY rfl qcz (qcy _ _ h4) (qd 1 rfl ?_)
 refine zj hr rfl qbm (qbo _) (fun r5 h5 hr => ?_)
 exact fin hr
 refine qd 3 rfl ?_
 refine zj hr rfl qbm (qbo _) (fun r6 h6 hr => ?_)
 exact fin hr
 refine st0 ?_
 refine ze 6 1280 (qd 2 rfl ?_)
 obtain ⟨q_7, h7, hr⟩ := zd hr
 refine st ?_
 refine ew rfl (qau rfl qd8) ?_
 rintro _ _ ⟨b3_7, rfl, rfl⟩
 refine qbZ rfl (pf0 _) (qac (qbb 3 b3_7 rfl (pf0 _) ?_))
 refine st ?_
 refine qy ?_
 refine st ?_
 refine zh 22 rfl hr (fun _ hr => ?_) (fun _ hr => ?_)
 refine st ?_
 refine rd rfl (qG rfl qcC rfl (qgp _) (qgk _) rfl) ?_
 refine st ?_
 refine zh 26 rfl hr (fun _ hr => ?_) (fun _ hr => ?_)
 exact fin hr
 refine st ?_
 refine rd rfl (qG rfl qcC rfl (qgp _) (qgk _) rfl) (qd 2 rfl ?_)
 refine zj hr rfl qbm (qbo _) (fun r11 h11 hr => ?_)
 exact fin hr
 refine st ?_
 refine zh 31 rfl hr (fun _ hr => ?_) (fun _ hr => ?_)
 refine st ?_
 refine zj hr rfl qgt (qgr fuel _) (fun r13 h13 hr => ?_)
 refine qac ?_
 refine zh 34 rfl hr (fun _ hr => ?_) (fun _ hr => ?_)
 exact fin hr
 exact fin hr
 refine st0 ?_
 refine ze 6 1280 (qd 2 rfl ?_)
 obtain ⟨q_15, h15, hr⟩ := zd hr
 refine st ?_
 refine ew rfl (qau rfl qd8) ?_
 rintro _ _ ⟨b4_15, rfl, rfl⟩
 refine qbZ rfl (pf0 _) (qac (qbb 4 b4_15 rfl (pf0 _) ?_))
 refine st ?_
 refine zo 42 rfl hr (fun _ hr => ?_) (fun _ hr => ?_)
 refine st ?_
 refine zh 46 rfl hr (fun _ hr => ?_) (fun _ hr => ?_)
 refine st ?_
 refine zj hr rfl qk3 (qk6 fuel _ _ _) (fun r19 h19 hr => ?_)
 exact fin hr
 refine st ?_
 obtain ⟨r20, h20, hr⟩ := zd hr
 refine qdY rfl qfN (qfK _ _ _ h20) (qac ?_)
 refine zh 54 rfl hr (fun _ hr => ?_) (fun _ hr => ?_)
 refine st ?_
 refine zj hr rfl qbm (qbo _) (fun r22 h22 hr => ?_)
 exact fin hr
 refine st ?_
 refine zj hr rfl qho (qhk fuel _ _) (fun r23 h23 hr => ?_)
 refine st ?_
 refine zh 62 rfl hr (fun _ hr => ?_) (fun _ hr => ?_)
 refine st ?_
 refine zj hr rfl qbm (qbo _) (fun r25 h25 hr => ?_)
 exact fin hr
 exact fin hr
 refine st ?_
 obtain ⟨r26, h26, hr⟩ := zd hr
 refine qdY rfl qfN (qfK _ _ _ h26) (qac ?_)
 refine zh 54 rfl hr (fun _ hr => ?_) (fun _ hr => ?_)
 refine st ?_
 refine zj hr rfl qbm (qbo _) (fun r28 h28 hr => ?_)
 exact fin hr
 refine st ?_
 refine zj hr rfl qho (qhk fuel _ _) (fun r29 h29 hr => ?_)
 refine st ?_
 refine zh 62 rfl hr (fun _ hr => ?_) (fun _ hr => ?_)
 refine st ?_
 refine zj hr rfl qbm (qbo _) (fun r31 h31 hr => ?_)
 exact fin hr
 exact fin hr
end
end Go.Proofs.YtamoolpdganckaaGreat
