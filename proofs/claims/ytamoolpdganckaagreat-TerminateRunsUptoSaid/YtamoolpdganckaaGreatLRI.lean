/-
 Texts of the seat, merged.
-/
import Derived.Test.YtamoolpdganckaaGreatLRH
set_option linter.unusedVariables false
set_option linter.unusedSimpArgs false
set_option linter.unnecessarySimpa false
set_option linter.all false
set_option maxHeartbeats 8000000
namespace Go.Proofs.YtamoolpdganckaaGreat
set_option maxRecDepth 100000
open Go.RowKit
structure qh where
 fA : ByteArray
 fL : Int
 fp : (List Int)
def qu (x : qh) : D := .agg [.str x.fA, .int .i64 x.fL, .lst (x.fp.map (D.int .i64))]
theorem qfO (x : qh) : sz (qu x) = 3 := by
 simp only [qu, sz, szs]
theorem qoz : zQ Tryz.prog 103 [.str ⟨#[]⟩, .int .i64 0, .own (.slice none 0 0) []] := .mk rfl ob Tryz.underlying103 ob
theorem qoV : zca Tryz.prog 4 (.bool false) := ⟨.bool false, by kernel_rfl, fun _ _ => by simp only [Rep]⟩
theorem qn9 : zQ Tryz.prog 192 [.int .i64 0, .nilm] := .mk rfl ob Tryz.underlying192 ob
theorem qEI : zca Tryz.prog 3 (.int .i64 0) := ⟨.int .i64 0, by kernel_rfl, fun _ _ => by simp only [Rep]; exact ⟨trivial, rfl⟩⟩
noncomputable def qaX (k : Int → Option Int) : List qB → Int → Nat → Option Int
 | [], n1, i2 =>
 (k n1)
 | q_4 :: rest, n1, i2 =>
 (bif (decide ((i2 : Int) < (12 : Int))) then
 (bif (decide (q_4.fI > (6 : Int))) then
 (qaX k rest n1 (i2 + 1))
 else
 (bif (decide (q_4.fI < (0 : Int))) then
 (qaX k rest n1 (i2 + 1))
 else
 (qaX k rest (wr ((wr (n1 + (1 : Int))) + q_4.fI)) (i2 + 1))))
 else
 (k n1))
noncomputable def qg1 (a0 : List qB) : Option Int :=
 (qaX (fun n3 =>
 some (n3)) a0 0 0)
theorem qdz (a0 : List qB) (a : Int) (hr : qg1 a0 = some a) : zf Tryz.prog 38 [.lst (a0.map qD)] (.int .i64 a) := by
 unfold qg1 at hr
 refine qx Tryz.func38 rfl fun K i j => ?_
 refine st ?_
 obtain ⟨d, e, hr⟩ := exK (fun k => qaX k a0 0 0) hr
 refine qct 0 rfl (asl rfl) fun g => ?_
 simp only [jb] at g
 refine qq (fun env σ => ∃ (n3 : Int), env = [(3, .int .i64 n3)] ∧ σ = [] ∧ d n3 = some a) ?_ (fun l => ?_)
 rintro _ _ ⟨n3, rfl, rfl, hr⟩
 rw [e] at hr
 exact fin hr
 refine qab [0, 3, 4] rfl (qR (fun n env σ => ∃ (n1 : Int) (i2 : Nat), n = a0.length - i2 ∧ (env = [(0, .lst (a0.map qD)), (3, .int .i64 n1), (4, .int .i64 (i2 : Int))]) ∧ (σ = []) ∧ (i2 ≤ a0.length) ∧ (qaX d (a0.drop i2) n1 i2 = some a)) _ ⟨0, 0, rfl, rfl, rfl, jc _, hr⟩ ?_)
 rintro n _ _ ⟨n1, i2, rfl, rfl, rfl, h, hr⟩ m
 rcases zb a0 i2 h with ⟨b, c, o⟩ | ⟨q_4, b, c, p, q⟩
 rw [c, qaX] at hr
 refine qai (qai (ze 8 0 (qd 2 rfl (qjz rfl (qd 2 rfl (qhh 9 false rfl b ?_))))))
 exact fin hr
 rw [c, qaX] at hr
 refine qai (qai (ze 8 0 (qd 2 rfl (qjz rfl (qd 2 rfl (qhh 9 true rfl b ?_))))))
 refine st ?_
 refine zh 12 rfl hr (fun _ hr => ?_) (fun _ hr => ?_)
 refine st ?_
 refine qy ?_
 refine st ?_
 refine zo 21 rfl hr (fun _ hr => ?_) (fun _ hr => ?_)
 exact fin hr
 refine st ?_
 refine zh 28 rfl hr (fun _ hr => ?_) (fun _ hr => ?_)
 exact fin hr
 refine st ?_
 refine rd rfl (qeg rfl rfl rfl rfl) ?_
 refine st ?_
 refine rd rfl (qeg rfl rfl rfl rfl) ?_
 exact fin hr
 exact fin hr
noncomputable def qeU (a0 : qc) (a1 : Int) : Option Bool :=
 ((qd9 a0).bind fun r1 =>
 (bif r1 then
 ((qg1 a0.fx).bind fun r3 =>
 (bif (decide (r3 ≤ (4 : Int))) then
 (bif (decide (a1 ≤ (3 : Int))) then
 some (true)
 else
 (bif (decide (r3 ≤ (6 : Int))) then
 (bif (decide (a1 ≤ (1 : Int))) then
 some (true)
 else
 (bif (decide (r3 > (8 : Int))) then
 some (true)
 else
 some ((decide (a1 > (3 : Int))))))
 else
 (bif (decide (r3 > (8 : Int))) then
 some (true)
 else
 some ((decide (a1 > (3 : Int)))))))
 else
 (bif (decide (r3 ≤ (6 : Int))) then
 (bif (decide (a1 ≤ (1 : Int))) then
 some (true)
 else
 (bif (decide (r3 > (8 : Int))) then
 some (true)
 else
 some ((decide (a1 > (3 : Int))))))
 else
 (bif (decide (r3 > (8 : Int))) then
 some (true)
 else
 some ((decide (a1 > (3 : Int))))))))
 else
 some (false)))
theorem qlP (a0 : qc) (a1 : Int) (a : Bool) (hr : qeU a0 a1 = some a) : zf Tryz.prog 13 [qi a0, .int .i64 a1] (.bool a) := by
 unfold qeU at hr
 refine qx Tryz.func13 rfl fun K b c => ?_
 refine st ?_
 refine rd rfl (qcG rfl rfl rfl) ?_
 refine st ?_
 refine zj hr rfl qkn (qkq _) (fun r1 h1 hr => ?_)
 refine qd 1 rfl ?_
 refine zo 7 rfl hr (fun _ hr => ?_) (fun _ hr => ?_)
 refine qd 2 rfl ?_
 refine zj hr rfl qdB (qdz _) (fun r3 h3 hr => ?_)
 refine qd 2 rfl ?_
 refine zo 12 rfl hr (fun _ hr => ?_) (fun _ hr => ?_)
 refine qd 4 rfl ?_
 refine zo 16 rfl hr (fun _ hr => ?_) (fun _ hr => ?_)
 exact fin hr
 refine qd 2 rfl (qdY rfl qdB (qdz _ _ h3) (qd 2 rfl ?_))
 refine zo 21 rfl hr (fun _ hr => ?_) (fun _ hr => ?_)
 refine qd 5 rfl ?_
 refine zo 26 rfl hr (fun _ hr => ?_) (fun _ hr => ?_)
 exact fin hr
 refine qd 2 rfl (qdY rfl qdB (qdz _ _ h3) (qd 3 rfl ?_))
 refine zo 32 rfl hr (fun _ hr => ?_) (fun _ hr => ?_)
 exact fin hr
 exact fin hr
 refine qd 7 rfl (qdY rfl qdB (qdz _ _ h3) (qd 3 rfl ?_))
 refine zo 32 rfl hr (fun _ hr => ?_) (fun _ hr => ?_)
 exact fin hr
 exact fin hr
 refine qd 6 rfl (qdY rfl qdB (qdz _ _ h3) (qd 2 rfl ?_))
 refine zo 21 rfl hr (fun _ hr => ?_) (fun _ hr => ?_)
 refine qd 5 rfl ?_
 refine zo 26 rfl hr (fun _ hr => ?_) (fun _ hr => ?_)
 exact fin hr
 refine qd 2 rfl (qdY rfl qdB (qdz _ _ h3) (qd 3 rfl ?_))
 refine zo 32 rfl hr (fun _ hr => ?_) (fun _ hr => ?_)
 exact fin hr
 exact fin hr
 refine qd 7 rfl (qdY rfl qdB (qdz _ _ h3) (qd 3 rfl ?_))
 refine zo 32 rfl hr (fun _ hr => ?_) (fun _ hr => ?_)
 exact fin hr
 exact fin hr
 exact fin hr
noncomputable def qcN (a0 : ByteArray) (a1 : ByteArray) (a2 : T) : Option (qr) :=
 ((qdc 0).bind fun r2 =>
 some ((⟨⟨#[]⟩, [], [(⟨a0, [a2]⟩ : At)], [], [(⟨0, a1, [r2]⟩ : Gl)], 1⟩ : qr)))
theorem qil (a0 : ByteArray) (a1 : ByteArray) (a2 : T) (res : qr) (hr : qcN a0 a1 a2 = some res) : zf Tryz.prog 39 [.str a0, .str a1, zl a2] (ql res) := by
 unfold qcN at hr
 refine qx Tryz.func39 rfl fun K hK hF => (qai (ze 2 4 (rd rfl (qcG rfl rfl rfl) (ew rfl (qau rfl qhr) ?_))))
 rintro _ _ ⟨b6_0, rfl, rfl⟩
 refine st ?_
 refine qdH 12 4194304 (qd 2 rfl (rd rfl (qet (f := zl) [.tmp 8] [a2] rfl qbg rfl rfl od od (.oc rfl .nil) qc2 (fun _ => rfl)) (rd rfl (qay rfl qhz (.oc rfl (.cons rfl (Wk.full _) .nil)) (.cons rfl rfl rfl (.cons rfl rfl rfl (.nil _)))) (rd rfl (qet (f := zY) [.tmp 10] [(⟨a0, [a2]⟩ : At)] rfl qeG rfl rfl od od (.oc rfl .nil) qeW (fun _ => rfl)) (qd 1 rfl ?_)))))
 refine zj hr rfl qf7 (qf4 _) (fun r2 h2 hr => ?_)
 refine rd rfl (qet (f := zl) [.tmp 13] [r2] rfl qbg rfl rfl od od (.oc rfl .nil) qc2 (fun _ => rfl)) (rd rfl (qay rfl qmF (.oc rfl (.cons rfl (Wk.full _) .nil)) (.cons rfl rfl rfl (.cons rfl rfl rfl (.nil _)))) (rd rfl (qet (f := zE) [.tmp 15] [(⟨0, a1, [r2]⟩ : Gl)] rfl qgW rfl rfl od od (.oc rfl .nil) qcW (fun _ => rfl)) (rd rfl (qay rfl qpZ (.cons rfl (Wk.full _) (.cons rfl (Wk.full _) (.oc rfl .nil))) (.cons rfl rfl rfl (.cons rfl rfl rfl (.cons rfl rfl rfl (.nil _))))) (qbZ rfl (pf0 _) (qac ?_)))))
 cases hr
 refine qaw Tryz.func39 _ (.cons (zm rfl (.head _) (by exact qp1) rfl (Wk.refl _)) .nil) ?_
 rfl
noncomputable def qfh (a0 : ByteArray) (a1 : List T) : Option T :=
 ((zF 56 [] a1).bind fun l3 =>
 some ((T.mk 2 0 a0 l3)))
theorem qmX (a0 : ByteArray) (a1 : List T) (res : T) (hr : qfh a0 a1 = some res) : zf Tryz.prog 27 [.str a0, .lst (a1.map zl)] (zl res) := by
 unfold qfh at hr
 refine qx Tryz.func27 rfl fun K hK hF => (qai (ze 1 1 (ew rfl (qau rfl qd8) ?_)))
 rintro _ _ ⟨b4_0, rfl, rfl⟩
 refine st0 ?_
 refine ze 6 1092 (qd 1 rfl (ew rfl (qol rfl qbg rfl) ?_))
 rintro _ _ ⟨u6_1, rfl, rfl⟩
 refine qd 1 rfl ?_
 obtain ⟨l3, h3, hr⟩ := zd hr
 refine ew rfl (qah (f := zl) [] a1 rfl qbg rfl rfl (asl rfl) (pf0 _) rfl qc2 h3) ?_
 rintro _ _ ⟨u8_3, rfl, rfl⟩
 refine rd rfl (qay rfl qha (.oc rfl (.oc rfl (.cons rfl (Wk.own _ _) .nil))) (.cons rfl rfl rfl (.cons rfl rfl rfl (.cons rfl rfl rfl (.nil _))))) (qbZ rfl (pf1 _ _ _) (qac ?_))
 cases hr
 refine qaw Tryz.func27 _ (.cons (zm rfl (.head _) (by exact qdI) rfl (Wk.refl _)) .nil) ?_
 first | rfl | (show _ = D.agg (fsT _); rw [qfk] <;> rfl) | simp [yI, zl, qfk, T.k, T.i, T.s, T.ar]
noncomputable def qcU (k : Int → Option (Int × Bool)) : List qB → Int → Option (Int × Bool)
 | [], n1 =>
 (k n1)
 | q_4 :: rest, n1 =>
 (bif (decide (q_4.fI < (0 : Int))) then
 some (0, false)
 else
 (bif (decide (q_4.fI > (6 : Int))) then
 some (0, false)
 else
 (qcU k rest (wr (n1 + (wr ((1 : Int) + q_4.fI)))))))
noncomputable def qhj (a0 : List qB) : Option (Int × Bool) :=
 (qcU (fun n3 =>
 some (n3, true)) a0 0)
theorem qn2 (a0 : List qB) (a : Int × Bool) (hr : qhj a0 = some a) : zf Tryz.prog 44 [.lst (a0.map qD)] (.tup [.int .i64 a.1, .bool a.2]) := by
 unfold qhj at hr
 refine qx Tryz.func44 rfl fun K i j => ?_
 refine st ?_
 obtain ⟨c, d, hr⟩ := exK (fun k => qcU k a0 0) hr
 refine qct 0 rfl (asl rfl) fun e => ?_
 simp only [jb] at e
 refine qq (fun env σ => ∃ (n3 : Int), env = [(4, .int .i64 n3)] ∧ σ = [] ∧ c n3 = some a) ?_ (fun l => ?_)
 rintro _ _ ⟨n3, rfl, rfl, hr⟩
 rw [d] at hr
 exact fin hr
 refine qab [7, 8, 4, 9] rfl (qR (fun n env σ => ∃ (n1 : Int) (i2 : Nat), n = a0.length - i2 ∧ (env = [(7, .lst (a0.map qD)), (8, .int .i64 (a0.length : Int)), (4, .int .i64 n1), (9, .int .i64 (i2 : Int))]) ∧ (σ = []) ∧ (i2 ≤ a0.length) ∧ (qcU c (a0.drop i2) n1 = some a)) _ ⟨0, 0, rfl, rfl, rfl, jc _, hr⟩ ?_)
 rintro n _ _ ⟨n1, i2, rfl, rfl, rfl, g, hr⟩ m
 rcases zb a0 i2 g with ⟨h, b, o⟩ | ⟨q_4, h, b, p, q⟩
 rw [b, qcU] at hr
 exact fin hr
 rw [b, qcU] at hr
 refine st ?_
 refine qy (qai (ze 4 80 ?_))
 refine st ?_
 refine ew rfl (qau rfl qmj) ?_
 rintro _ _ ⟨b6_4, rfl, rfl⟩
 refine qbZ rfl (pf0 _) (qac (qbb 6 b6_4 rfl (pf0 _) ?_))
 refine st ?_
 refine zo 16 rfl hr (fun _ hr => ?_) (fun _ hr => ?_)
 exact fin hr
 refine st ?_
 refine zh 20 rfl hr (fun _ hr => ?_) (fun _ hr => ?_)
 exact fin hr
 refine st ?_
 refine rd rfl (qeg rfl rfl rfl rfl) (rd rfl (qeg rfl rfl rfl rfl) ?_)
 exact fin hr
noncomputable def qem (c0 : List Int) : Option (Int × (List Int)) :=
 (bif ((c0.length : Int) == (0 : Int)) then
 some (0, c0)
 else
 ((zi c0 0).bind fun q_2 =>
 ((zZ c0 1 (c0.length : Int)).bind fun l3 =>
 some (q_2, l3))))
theorem qfP (c0 : List Int) (b_o0 : Nat) (res : Int × (List Int)) (hr : qem c0 = some res) : Spec Tryz.prog 86 [.ref b_o0 0 []] [.cell b_o0 (.lst (c0.map (D.int .i64)))] (fun d σ => d = .int .i64 res.1 ∧ σ = [.cell b_o0 (.lst (res.2.map (D.int .i64)))]) := by
 unfold qem at hr
 refine qx Tryz.func86 rfl fun K hK hF => ?_
 refine st0 ?_
 refine qt6 1 ?_
 refine st0 ?_
 refine ze 3 2 (qbR 0 rfl ?_)
 refine st ?_
 refine zh 5 rfl hr (fun h5_0 hr => ?_) (fun h5_0 hr => ?_)
 refine st ?_
 cases hr
 refine qiZ Tryz.func86 rfl ?_
 exact ⟨rfl, rfl⟩
 refine st0 ?_
 refine ze 4 2 (qbR 0 rfl ?_)
 obtain ⟨q_2, h2, hr⟩ := zd hr
 refine st0 ?_
 refine ze 3 18 (qbR 0 rfl ?_)
 obtain ⟨l3, h3, hr⟩ := zd hr
 refine rd rfl (qjy (f := (D.int .i64)) c0 1 (c0.length : Int) rfl qaS rfl (asl rfl) (qnZ rfl) qnV (fun _ => rfl) h3) (qbZ rfl (pf0 _) ?_)
 refine st ?_
 cases hr
 refine qiZ Tryz.func86 rfl ?_
 exact ⟨rfl, rfl⟩
noncomputable def qcV (k : List Int → ByteArray → Int → List Int → Option (List qh)) : Nat → List Int → ByteArray → Int → List Int → Option (List qh)
 | 0, d17, r18, r19, r20 =>
 (k d17 r18 r19 r20)
 | rest + 1, d17, r18, r19, r20 =>
 ((qem d17).bind fun r30 =>
 ((zF 8 r20 [r30.1]).bind fun l31 =>
 (qcV k rest r30.2 r18 r19 l31)))
noncomputable def qcZ (k : List qh → Option (List qh)) : List qB → List qh → List Int → Option (List qh)
 | [], o5, d7 =>
 (k o5)
 | q_10 :: rest, o5, d7 =>
 ((qem d7).bind fun r13 =>
 (qcV (fun d22 r24 r25 r26 =>
 ((zF 48 o5 [(⟨r24, r25, r26⟩ : qh)]).bind fun l27 =>
 (qcZ k rest l27 d22))) ((zX (yd q_10.fI (0 : Int)) (6 : Int)) - 0 : Int).toNat r13.2 q_10.fA r13.1 []))
noncomputable def qe9 (a0 : List qB) (a1 : List Int) : Option (List qh) :=
 (qcZ (fun o9 =>
 some (o9)) a0 [] a1)
theorem qkW (a0 : List qB) (a1 : List Int) (a : List qh) (hr : qe9 a0 a1 = some a) : zf Tryz.prog 43 [.lst (a0.map qD), .lst (a1.map (D.int .i64))] (.lst (a.map qu)) := by
 unfold qe9 at hr
 refine qx Tryz.func43 rfl fun K u v => (qai (ze 2 5 (ew rfl (ql8 rfl rfl rfl) ?_)))
 rintro _ _ ⟨b3_0, rfl, rfl⟩
 refine ew rfl (qN 103 3 (.inl rfl)) ?_
 rintro _ _ ⟨u4_1, rfl, rfl⟩
 refine st0 ?_
 refine ze 1 1 (ew rfl (qN 103 3 (.inl rfl)) ?_)
 rintro _ _ ⟨u5_2, rfl, rfl⟩
 refine st ?_
 refine rd rfl (qoY rfl rfl rfl) ?_
 refine st ?_
 obtain ⟨e, i, hr⟩ := exK (fun k => qcZ k a0 [] a1) hr
 refine qct 0 rfl (asl rfl) fun j => ?_
 simp only [jb] at j
 refine qq (fun env σ => ∃ (o9 : List qh) (u8 : Value), env = [(5, .own u8 (o9.map qu))] ∧ σ = [.row u8 o9.length 103 3] ∧ e o9 = some a) ?_ (fun l => ?_)
 rintro _ _ ⟨o9, u8, rfl, rfl, hr⟩
 rw [i] at hr
 refine st ?_
 cases hr
 refine qaw Tryz.func43 _ (.cons (za rfl (Wk.own _ _)) .nil) ?_
 rfl
 refine qab [6, 11, 12, 5, 13] rfl (qbA [_, _] _ (pS [0, 2] _) (qR (fun n env σ => ∃ (o5 : List qh) (i6 : Nat) (d7 : List Int) (u4 : Value), n = a0.length - i6 ∧ (env = [(6, .clo (.func 86) [] [.ref b3_0 0 []]), (11, .lst (a0.map qD)), (12, .int .i64 (a0.length : Int)), (5, .own u4 (o5.map qu)), (13, .int .i64 (i6 : Int))]) ∧ (σ = [.cell b3_0 (.lst (d7.map (D.int .i64))), .row u4 o5.length 103 3]) ∧ (i6 ≤ a0.length) ∧ (qcZ e (a0.drop i6) o5 d7 = some a)) _ ⟨[], 0, a1, u5_2, rfl, rfl, rfl, jc _, hr⟩ ?_))
 rintro n _ _ ⟨o5, i6, d7, u4, rfl, rfl, rfl, m, hr⟩ o
 rcases zb a0 i6 m with ⟨g, b, y⟩ | ⟨q_10, g, b, z, A⟩
 rw [b, qcZ] at hr
 refine qai (ze 1 0 (qd 1 rfl (qac (qai (qvN 14 false rfl g (qhR rfl (qnJ rfl (qab [5] rfl (qbA [_] _ (pf1 _ _ _) ?_)))))))))
 exact l _ _ ⟨o5, u4, rfl, rfl, hr⟩
 rw [b, qcZ] at hr
 refine st ?_
 refine qy (qai (ze 4 80 ?_))
 refine st ?_
 refine ew rfl (qau rfl qmj) ?_
 rintro _ _ ⟨b8_10, rfl, rfl⟩
 refine qbZ rfl (pf0 _) (qac (qbb 8 b8_10 rfl (pf0 _) (qai (qox 3 1 ?_))))
 obtain ⟨r13, h13, hr⟩ := zd hr
 refine qBW ob ob [(0, .d), (1, .d), (2, .d)] [(3, .x), (4, .d), (5, .w), (6, .w)] [(5, .x), (3, .w), (4, .d), (6, .w)] ob (fun env σ => ∃ (b9_r6_11 : Nat), Sub [(5, .own u4 (o5.map qu)), (6, .clo (.func 86) [] [.ref b3_0 0 []]), (8, .ptr (qD q_10)), (9, .ref b9_r6_11 0 []), (11, .lst (a0.map qD)), (12, .int .i64 (a0.length : Int)), (13, .int .i64 (i6 : Int))] env ∧ σ.Perm [.cell b9_r6_11 (.agg [.str q_10.fA, .int .i64 r13.1, .own (.slice none 0 0 ) ([].map (D.int .i64))]), .cell b3_0 (.lst (r13.2.map (D.int .i64))), .row (.slice none 0 0 ) ([] : List D).length 3 1, .row u4 o5.length 103 3]) ?_ ?_
 refine qd 3 rfl ?_
 refine qac ⟨?_, ?_⟩
 refine r_x rfl rfl rfl (qqk _ rfl rfl qgw .nil rfl (by exact (pf1 _ _ _)) (qfP _ _ _ h13)) ?_
 rintro _ _ ⟨_, ⟨rfl, rfl⟩, rfl⟩
 refine y7 ((.cell b3_0 (.lst (r13.2.map (D.int .i64)))) :: _) rfl (rd rfl (qay rfl qoz (.oc rfl (.oc rfl .nil)) (.cons rfl rfl rfl (.cons rfl rfl rfl (.nil _)))) (ew rfl (qau rfl qg9) ?_))
 rintro _ _ ⟨b9_r6_11, rfl, rfl⟩
 refine qbZ rfl (pf0 _) (qac ?_)
 exact ⟨b9_r6_11, (sbr rfl), (pf0 _)⟩
 refine r_x rfl rfl rfl (qau rfl qg9) ?_
 rintro _ _ ⟨b9_r6_11, rfl, rfl⟩
 refine ew rfl (qqk _ rfl rfl qgw .nil rfl (by exact (pf2 _ _ _ _)) (qfP _ _ _ h13)) ?_
 rintro _ _ ⟨_, ⟨rfl, rfl⟩, rfl⟩
 refine y7 ((.cell b3_0 (.lst (r13.2.map (D.int .i64)))) :: _) rfl (rd rfl (qay rfl qoz (.oc rfl (.oc rfl .nil)) (.cons rfl rfl rfl (.cons rfl rfl rfl (.nil _)))) (qbZ rfl (pf1 _ _ _) (qac ?_)))
 exact ⟨b9_r6_11, (sbr rfl), (pf0 _)⟩
 rintro _ _ ⟨b9_r6_11, hs, hp⟩
 refine qob hs hp ?_
 refine st ?_
 refine rd rfl (qDA rfl rfl rfl) (rd rfl (qAR rfl rfl rfl) ?_)
 refine st ?_
 obtain ⟨h, p, hr⟩ := exK (fun k => qcV k ((zX (yd q_10.fI (0 : Int)) (6 : Int)) - 0 : Int).toNat r13.2 q_10.fA r13.1 []) hr
 refine qou 25 rfl fun B => ?_
 refine qq (fun env σ => ∃ (d22 : List Int) (r24 : ByteArray) (r25 : Int) (r26 : List Int) (u21 : Value) (u23 : Value), env = [(5, .own u21 (o5.map qu)), (6, .clo (.func 86) [] [.ref b3_0 0 []]), (9, .ref b9_r6_11 0 []), (11, .lst (a0.map qD)), (12, .int .i64 (a0.length : Int)), (13, .int .i64 (i6 : Int))] ∧ σ = [.row u21 o5.length 103 3, .cell b3_0 (.lst (d22.map (D.int .i64))), .cell b9_r6_11 (.agg [.str r24, .int .i64 r25, .own u23 (r26.map (D.int .i64))]), .row u23 r26.length 3 1] ∧ h d22 r24 r25 r26 = some a) ?_ (fun C => ?_)
 rintro _ _ ⟨d22, r24, r25, r26, u21, u23, rfl, rfl, hr⟩
 rw [p] at hr
 refine ze 5 72 (qd 1 rfl (qbR 2 rfl (rd rfl (qet (f := qu) [.tmp 37] [(⟨r24, r25, r26⟩ : qh)] rfl qiO rfl rfl od od (.cons rfl (Wk.agg (.cons (Wk.refl _) (.cons (Wk.refl _) (.cons (Wk.own _ _) .nil)))) .nil) qfO (fun _ => rfl)) ?_)))
 obtain ⟨l27, h27, hr⟩ := zd hr
 refine ew rfl (qah (f := qu) o5 [(⟨r24, r25, r26⟩ : qh)] rfl qiO rfl rfl (asl rfl) (pf0 _) rfl qfO h27) ?_
 rintro _ _ ⟨u39_27, rfl, rfl⟩
 refine qd 1 rfl (qac (qfZ (ze 2 0 (qnL rfl (qd 1 rfl (qac (qab [6, 11, 12, 5, 13] rfl (qbA [_, _] _ (pS [0, 1] _) ?_))))))))
 exact o _ _ _ oa ⟨l27, (i6 + 1), d22, u39_27, rfl, rfl, rfl, oa, hr⟩
 refine qab [5, 6, 9, 11, 12, 13, 25, 26] rfl (qbA [_, _, _, _] _ (pS [2, 1, 2, 3] _) (qR (fun n env σ => ∃ (t26_16 : Int) (d17 : List Int) (r18 : ByteArray) (r19 : Int) (r20 : List Int) (u14 : Value) (u15 : Value) (m1 : Nat), (m1 = n) ∧ (env = [(5, .own u14 (o5.map qu)), (6, .clo (.func 86) [] [.ref b3_0 0 []]), (9, .ref b9_r6_11 0 []), (11, .lst (a0.map qD)), (12, .int .i64 (a0.length : Int)), (13, .int .i64 (i6 : Int)), (25, .int .i64 (zX (yd q_10.fI (0 : Int)) (6 : Int))), (26, .int .i64 t26_16)]) ∧ (σ = [.row u14 o5.length 103 3, .cell b3_0 (.lst (d17.map (D.int .i64))), .cell b9_r6_11 (.agg [.str r18, .int .i64 r19, .own u15 (r20.map (D.int .i64))]), .row u15 r20.length 3 1]) ∧ (m1 = ((zX (yd q_10.fI (0 : Int)) (6 : Int)) - t26_16 : Int).toNat) ∧ (qcV h m1 d17 r18 r19 r20 = some a)) _ ⟨0, r13.2, q_10.fA, r13.1, [], u4, (.slice none 0 0 ), _, rfl, rfl, rfl, rfl, hr⟩ ?_))
 rintro n _ _ ⟨t26_16, d17, r18, r19, r20, u14, u15, m1, rfl, rfl, rfl, q, hr⟩ s
 refine qou 26 rfl fun E => ?_
 rcases zav t26_16 (zX (yd q_10.fI (0 : Int)) (6 : Int)) m1 q with ⟨c, t⟩ | ⟨m1', c, t, hi1', F⟩
 rw [c, qcV] at hr
 exact fin hr
 rw [c, qcV] at hr
 refine qai (ze 1 0 (qd 1 rfl (qac (qai (qou 25 rfl fun hbN25 => ?_)))))
 refine st ?_
 refine qy ?_
 obtain ⟨r30, h30, hr⟩ := zd hr
 obtain ⟨l31, h31, hr⟩ := zd hr
 refine qBW ob ob [(0, .d), (2, .d)] [(1, .x), (3, .w), (4, .d), (5, .w), (6, .d), (7, .w)] [(3, .x), (4, .d), (1, .w), (5, .w), (6, .d), (7, .w)] ob (fun env σ => ∃ (u33_r9_28 : Value), Sub [(5, .own u14 (o5.map qu)), (6, .clo (.func 86) [] [.ref b3_0 0 []]), (9, .ref b9_r6_11 0 []), (11, .lst (a0.map qD)), (12, .int .i64 (a0.length : Int)), (13, .int .i64 (i6 : Int)), (25, .int .i64 (zX (yd q_10.fI (0 : Int)) (6 : Int))), (26, .int .i64 t26_16)] env ∧ σ.Perm [.cell b9_r6_11 (.agg [.str r18, .int .i64 r19, .own u33_r9_28 (l31.map (D.int .i64))]), .row u33_r9_28 l31.length 3 1, .cell b3_0 (.lst (r30.2.map (D.int .i64))), .row u14 o5.length 103 3]) ?_ ?_
 refine rd rfl (qg rfl qjV rfl) (qd 1 rfl ?_)
 refine qac ⟨?_, ?_⟩
 refine r_xr rfl rfl rfl (qey rfl rfl (.tail _ (.tail _ (.head _))) rfl rfl (by exact qkM) rfl) (ew rfl (qqk _ rfl rfl qgw .nil rfl (by exact (pf1 _ _ _)) (qfP _ _ _ h30)) ?_)
 rintro _ _ ⟨_, ⟨rfl, rfl⟩, rfl⟩
 refine y7 ((.cell b3_0 (.lst (r30.2.map (D.int .i64)))) :: _) rfl (rd rfl (qet (f := (D.int .i64)) [.tmp 31] [r30.1] rfl qaS rfl rfl od od (.oc rfl .nil) (fun _ => rfl) (fun _ => rfl)) (ew rfl (qah (f := (D.int .i64)) r20 [r30.1] rfl qaS rfl rfl (asl rfl) (pf3 _ _ _ _ _) rfl (fun _ => rfl) h31) ?_))
 rintro _ _ ⟨u33_r9_28, rfl, rfl⟩
 refine rd rfl (qg rfl qjV rfl) (z9 rfl (qc9 _ rfl rfl rfl (Wk.refl _) (pf3 _ _ _ _ _) rfl rfl (by exact qkM) rfl rfl rfl) (qac ?_))
 exact ⟨u33_r9_28, (sbr rfl), (pf0 _)⟩
 refine r_x rfl rfl rfl (qqk _ rfl rfl qgw .nil rfl (by exact (pf1 _ _ _)) (qfP _ _ _ h30)) ?_
 rintro _ _ ⟨_, ⟨rfl, rfl⟩, rfl⟩
 refine y7 ((.cell b3_0 (.lst (r30.2.map (D.int .i64)))) :: _) rfl (rd rfl (qet (f := (D.int .i64)) [.tmp 31] [r30.1] rfl qaS rfl rfl od od (.oc rfl .nil) (fun _ => rfl) (fun _ => rfl)) (zbb 2 rfl (ew rfl (qah (f := (D.int .i64)) r20 [r30.1] rfl qaS rfl rfl (asl rfl) (pf3 _ _ _ _ _) rfl (fun _ => rfl) h31) ?_)))
 rintro _ _ ⟨u33_r9_28, rfl, rfl⟩
 refine rd rfl (qg rfl qjV rfl) (z9 rfl (qc9 _ rfl rfl rfl (Wk.refl _) (pf3 _ _ _ _ _) rfl rfl (by exact qkM) rfl rfl rfl) (qac ?_))
 exact ⟨u33_r9_28, (sbr rfl), (pf0 _)⟩
 rintro _ _ ⟨u33_r9_28, hs, hp⟩
 refine qob hs hp ?_
 refine st ?_
 refine rd rfl (zbs (r := t26_16 + 1) rfl rfl rfl rfl oa) (qd 1 rfl (qac (qab [5, 6, 9, 11, 12, 13, 25, 26] rfl (qbA [_, _, _, _] _ (pS [1, 1, 2, 3] _) ?_))))
 exact s _ _ _ oa ⟨(t26_16 + 1), r30.2, r18, r19, l31, u14, u33_r9_28, _, rfl, rfl, rfl, hi1', hr⟩
noncomputable def qgG (a0 : Int) : Option Bool :=
 (bif (decide (a0 < (0 : Int))) then
 some (true)
 else
 some ((decide (a0 > (1048576 : Int)))))
theorem qnb (a0 : Int) (a : Bool) (hr : qgG a0 = some a) : zf Tryz.prog 152 [.int .i64 a0] (.bool a) := by
 unfold qgG at hr
 refine qx Tryz.func152 rfl fun K b c => ?_
 refine st ?_
 refine zo 5 rfl hr (fun _ hr => ?_) (fun _ hr => ?_)
 exact fin hr
 exact fin hr
noncomputable def qcb (k : Option Int) : List Int → Nat → Option Int
 | [], i1 =>
 k
 | q_2 :: rest, i1 =>
 ((qgG q_2).bind fun r3 =>
 (bif r3 then
 some ((i1 : Int))
 else
 (qcb k rest (i1 + 1))))
noncomputable def qf5 (a0 : List Int) : Option Int :=
 (qcb (some ((-1))) a0 0)
theorem qm5 (a0 : List Int) (a : Int) (hr : qf5 a0 = some a) : zf Tryz.prog 120 [.lst (a0.map (D.int .i64)), .clo (.func 152) [] []] (.int .i64 a) := by
 unfold qf5 at hr
 refine qx Tryz.func120 rfl fun K i j => ?_
 refine st ?_
 obtain ⟨c, d, hr⟩ := exK (fun k => qcb k a0 0) hr
 refine qct 0 rfl (asl rfl) fun e => ?_
 simp only [jb] at e
 refine qq (fun env σ => env = [] ∧ σ = [] ∧ c = some a) ?_ (fun l => ?_)
 rintro _ _ ⟨rfl, rfl, hr⟩
 rw [d] at hr
 exact fin hr
 refine qab [0, 1, 7, 8] rfl (qR (fun n env σ => ∃ (i1 : Nat), n = a0.length - i1 ∧ (env = [(0, .lst (a0.map (D.int .i64))), (1, .clo (.func 152) [] []), (7, .int .i64 (a0.length : Int)), (8, .int .i64 (i1 : Int))]) ∧ (σ = []) ∧ (i1 ≤ a0.length) ∧ (qcb c (a0.drop i1) i1 = some a)) _ ⟨0, rfl, rfl, rfl, jc _, hr⟩ ?_)
 rintro n _ _ ⟨i1, rfl, rfl, rfl, g, hr⟩ m
 rcases zb a0 i1 g with ⟨h, b, o⟩ | ⟨q_2, h, b, p, q⟩
 rw [b, qcb] at hr
 exact fin hr
 rw [b, qcb] at hr
 refine st ?_
 refine qy ?_
 refine st ?_
 obtain ⟨r3, h3, hr⟩ := zd hr
 refine rd rfl (qpF rfl rfl qnm (.oc rfl .nil) rfl (qnb _ _ h3)) (qac ?_)
 refine zh 16 rfl hr (fun _ hr => ?_) (fun _ hr => ?_)
 exact fin hr
 exact fin hr
noncomputable def qfn (a0 : List Int) : Option Bool :=
 ((qf5 a0).bind fun r1 =>
 some ((decide (r1 ≥ (0 : Int)))))
theorem qk0 (a0 : List Int) (a : Bool) (hr : qfn a0 = some a) : zf Tryz.prog 83 [.lst (a0.map (D.int .i64)), .clo (.func 152) [] []] (.bool a) := by
 unfold qfn at hr
 refine qx Tryz.func83 rfl fun K b c => ?_
 refine st ?_
 refine zj hr rfl qhx (qm5 _) (fun r1 h1 hr => ?_)
 exact fin hr
noncomputable def qhL (a0 : qh) : Option Bool :=
 ((qgG a0.fL).bind fun r1 =>
 (bif (!r1) then
 (bif (decide ((a0.fp.length : Int) ≤ (6 : Int))) then
 ((qfn a0.fp).bind fun r4 =>
 some ((!r4)))
 else
 some (false))
 else
 some (false)))
theorem qn1 (a0 : qh) (a : Bool) (hr : qhL a0 = some a) : zf Tryz.prog 121 [qu a0] (.bool a) := by
 unfold qhL at hr
 refine qx Tryz.func121 rfl fun K b c => ?_
 refine st ?_
 refine rd rfl (qcG rfl rfl rfl) ?_
 refine st ?_
 obtain ⟨r1, h1, hr⟩ := zd hr
 refine rd rfl (qpF rfl rfl qnm (.oc rfl .nil) rfl (qnb _ _ h1)) (qd 2 rfl ?_)
 refine zo 9 rfl hr (fun _ hr => ?_) (fun _ hr => ?_)
 refine st ?_
 refine zo 15 rfl hr (fun _ hr => ?_) (fun _ hr => ?_)
 refine qd 3 rfl ?_
 refine zj hr rfl qgN (qk0 _) (fun r4 h4 hr => ?_)
 exact fin hr
 exact fin hr
 exact fin hr
noncomputable def qfc (k : Option Bool) : List qh → Option Bool
 | [] =>
 k
 | q_2 :: rest =>
 ((qhL q_2).bind fun r4 =>
 (bif (!r4) then
 some (false)
 else
 (qfc k rest)))
noncomputable def qhK (a0 : List qh) : Option Bool :=
 (qfc (some (true)) a0)
theorem qtU (a0 : List qh) (a : Bool) (hr : qhK a0 = some a) : zf Tryz.prog 87 [.lst (a0.map qu)] (.bool a) := by
 unfold qhK at hr
 refine qx Tryz.func87 rfl fun K i j => ?_
 refine st ?_
 obtain ⟨c, d, hr⟩ := exK (fun k => qfc k a0) hr
 refine qct 0 rfl (asl rfl) fun e => ?_
 simp only [jb] at e
 refine qq (fun env σ => env = [] ∧ σ = [] ∧ c = some a) ?_ (fun l => ?_)
 rintro _ _ ⟨rfl, rfl, hr⟩
 rw [d] at hr
 exact fin hr
 refine qab [5, 6, 7] rfl (qR (fun n env σ => ∃ (i1 : Nat), n = a0.length - i1 ∧ (env = [(5, .lst (a0.map qu)), (6, .int .i64 (a0.length : Int)), (7, .int .i64 (i1 : Int))]) ∧ (σ = []) ∧ (i1 ≤ a0.length) ∧ (qfc c (a0.drop i1) = some a)) _ ⟨0, rfl, rfl, rfl, jc _, hr⟩ ?_)
 rintro n _ _ ⟨i1, rfl, rfl, rfl, g, hr⟩ m
 rcases zb a0 i1 g with ⟨h, b, o⟩ | ⟨q_2, h, b, p, q⟩
 rw [b, qfc] at hr
 exact fin hr
 rw [b, qfc] at hr
 refine st ?_
 refine qy (qai (ze 4 80 ?_))
 refine st ?_
 refine ew rfl (qau rfl qg9) ?_
 rintro _ _ ⟨b4_2, rfl, rfl⟩
 refine qbZ rfl (pf0 _) (qac (qbb 4 b4_2 rfl (pf0 _) ?_))
 refine st ?_
 refine zj hr rfl qn4 (qn1 _) (fun r4 h4 hr => ?_)
 refine st ?_
 refine zh 13 rfl hr (fun _ hr => ?_) (fun _ hr => ?_)
 exact fin hr
 exact fin hr
noncomputable def qhX (a0 : qh) (t1_a1 : ByteArray) (t2_a2 : Int) : Option Bool :=
 (bif (a0.fA.toList == t1_a1.toList) then
 some (((a0.fp.length : Int) == t2_a2))
 else
 some (false))
theorem qrq (a0 : qh) (t1_a1 : ByteArray) (t2_a2 : Int) (a : Bool) (hr : qhX a0 t1_a1 t2_a2 = some a) : zf Tryz.prog 123 [qu a0, .ptr (.str t1_a1), .ptr (.int .i64 t2_a2)] (.bool a) := by
 unfold qhX at hr
 refine qx Tryz.func123 rfl fun K b c => ?_
 refine st ?_
 refine rd rfl (qcG rfl rfl rfl) ?_
 refine st ?_
 refine rd rfl (qgP rfl rfl rfl rfl) (qd 1 rfl ?_)
 refine zo 9 rfl hr (fun _ hr => ?_) (fun _ hr => ?_)
 exact fin hr
 exact fin hr
noncomputable def qbC (k : Option Int) (f_a1_c0 : ByteArray) (f_a1_c1 : Int) : List qh → Nat → Option Int
 | [], i1 =>
 k
 | q_2 :: rest, i1 =>
 ((qhX q_2 f_a1_c0 f_a1_c1).bind fun r3 =>
 (bif r3 then
 some ((i1 : Int))
 else
 (qbC k f_a1_c0 f_a1_c1 rest (i1 + 1))))
noncomputable def qf6 (a0 : List qh) (f_a1_c0 : ByteArray) (f_a1_c1 : Int) : Option Int :=
 (qbC (some ((-1))) f_a1_c0 f_a1_c1 a0 0)
theorem qm1 (a0 : List qh) (f_a1_c0 : ByteArray) (f_a1_c1 : Int) (a : Int) (hr : qf6 a0 f_a1_c0 f_a1_c1 = some a) : zf Tryz.prog 122 [.lst (a0.map qu), .clo (.func 123) [] [.ptr (.str f_a1_c0), .ptr (.int .i64 f_a1_c1)]] (.int .i64 a) := by
 unfold qf6 at hr
 refine qx Tryz.func122 rfl fun K i j => ?_
 refine st ?_
 obtain ⟨c, d, hr⟩ := exK (fun k => qbC k f_a1_c0 f_a1_c1 a0 0) hr
 refine qct 0 rfl (asl rfl) fun e => ?_
 simp only [jb] at e
 refine qq (fun env σ => env = [] ∧ σ = [] ∧ c = some a) ?_ (fun l => ?_)
 rintro _ _ ⟨rfl, rfl, hr⟩
 rw [d] at hr
 exact fin hr
 refine qab [0, 1, 7, 8] rfl (qR (fun n env σ => ∃ (i1 : Nat), n = a0.length - i1 ∧ (env = [(0, .lst (a0.map qu)), (1, .clo (.func 123) [] [.ptr (.str f_a1_c0), .ptr (.int .i64 f_a1_c1)]), (7, .int .i64 (a0.length : Int)), (8, .int .i64 (i1 : Int))]) ∧ (σ = []) ∧ (i1 ≤ a0.length) ∧ (qbC c f_a1_c0 f_a1_c1 (a0.drop i1) i1 = some a)) _ ⟨0, rfl, rfl, rfl, jc _, hr⟩ ?_)
 rintro n _ _ ⟨i1, rfl, rfl, rfl, g, hr⟩ m
 rcases zb a0 i1 g with ⟨h, b, o⟩ | ⟨q_2, h, b, p, q⟩
 rw [b, qbC] at hr
 exact fin hr
 rw [b, qbC] at hr
 refine st ?_
 refine qy ?_
 refine st ?_
 obtain ⟨r3, h3, hr⟩ := zd hr
 refine rd rfl (qpF rfl rfl qrv (.oc rfl .nil) rfl (qrq _ _ _ _ h3)) (qac ?_)
 refine zh 16 rfl hr (fun _ hr => ?_) (fun _ hr => ?_)
 exact fin hr
 exact fin hr
noncomputable def qii (a0 : List qh) (a1 : ByteArray) (a2 : Int) : Option (qh × Bool) :=
 ((qf6 a0 a1 a2).bind fun r2 =>
 (bif (decide (r2 < (0 : Int))) then
 some ((⟨⟨#[]⟩, 0, []⟩ : qh), false)
 else
 ((zi a0 r2).bind fun q_4 =>
 some (q_4, true))))
theorem qpj (a0 : List qh) (a1 : ByteArray) (a2 : Int) (res : qh × Bool) (hr : qii a0 a1 a2 = some res) : zf Tryz.prog 88 [.lst (a0.map qu), .str a1, .int .i64 a2] (.tup [qu res.1, .bool res.2]) := by
 unfold qii at hr
 refine qx Tryz.func88 rfl fun K hK hF => (qai (ze 4 16 (rd rfl (qcG rfl rfl rfl) (rd rfl (qcG rfl rfl rfl) (ew rfl (qau rfl qg9) ?_)))))
 rintro _ _ ⟨b6_0, rfl, rfl⟩
 refine st ?_
 refine rd rfl (qoY rfl rfl rfl) ?_
 refine zj hr rfl qhU (qm1 _ _ _) (fun r2 h2 hr => ?_)
 refine st ?_
 refine zh 13 rfl hr (fun h13_2 hr => ?_) (fun h13_2 hr => ?_)
 refine st0 ?_
 refine ze 3 4 (rd rfl (qay rfl qjg .nil (.nil _)) (qbZ rfl (pf0 _) ?_))
 refine st ?_
 cases hr
 refine qaw Tryz.func88 _ (.cons (zm rfl (.head _) (by exact qka) rfl (Wk.refl _)) (.cons (za rfl (Wk.refl _)) .nil)) ?_
 rfl
 refine st0 ?_
 refine ze 6 256 (qd 2 rfl ?_)
 obtain ⟨q_4, h4, hr⟩ := zd hr
 refine st ?_
 refine qbZ rfl (pf0 _) ?_
 refine st ?_
 cases hr
 refine qaw Tryz.func88 _ (.cons (zm rfl (.head _) (by exact qka) (qfO _) (Wk.refl _)) (.cons (za rfl (Wk.refl _)) .nil)) ?_
 rfl
noncomputable def qjm (a0 : qr) : Option Int :=
 some ((wr ((a0.fi.length : Int) + (a0.ff.length : Int))))
theorem qrt (a0 : qr) (a : Int) (hr : qjm a0 = some a) : zf Tryz.prog 97 [ql a0] (.int .i64 a) := by
 unfold qjm at hr
 refine qx Tryz.func97 rfl fun K b c => ?_
 refine st ?_
 refine rd rfl (qcG rfl rfl rfl) ?_
 refine st ?_
 refine rd rfl (qeg rfl rfl rfl rfl) ?_
 exact fin hr
noncomputable def qh3 (a0 : qr) : Option (List At) :=
 ((qjm a0).bind fun r2 =>
 ((zai 40 r2).bind fun c3 =>
 ((zF 40 [] a0.fi).bind fun l5 =>
 ((zF 40 l5 a0.ff).bind fun l7 =>
 some (l7)))))
theorem qr6 (a0 : qr) (res : List At) (hr : qh3 a0 = some res) : zf Tryz.prog 63 [ql a0] (.lst (res.map zY)) := by
 unfold qh3 at hr
 refine qx Tryz.func63 rfl fun K hK hF => (qai (ze 2 4 (rd rfl (qcG rfl rfl rfl) (ew rfl (qN 48 2 (.inl rfl)) ?_))))
 rintro _ _ ⟨u2_0, rfl, rfl⟩
 refine st0 ?_
 refine ze 4 16 (qd 1 rfl ?_)
 refine zj hr rfl qrA (qrt _) (fun r2 h2 hr => ?_)
 obtain ⟨c3, h3, hr⟩ := zd hr
 refine ew rfl (qC7 (f := zY) rfl qeG rfl rfl h3) ?_
 rintro _ _ ⟨u6_3, rfl, rfl⟩
 refine st0 ?_
 refine ze 5 64 (qd 3 rfl ?_)
 obtain ⟨l5, h5, hr⟩ := zd hr
 refine ew rfl (qah (f := zY) [] a0.fi rfl qeG rfl rfl (asl rfl) (pf0 _) rfl qeW h5) ?_
 rintro _ _ ⟨u10_5, rfl, rfl⟩
 refine st0 ?_
 refine ze 5 64 (qd 3 rfl ?_)
 obtain ⟨l7, h7, hr⟩ := zd hr
 refine ew rfl (qah (f := zY) l5 a0.ff rfl qeG rfl rfl (asl rfl) (pf0 _) rfl qeW h7) ?_
 rintro _ _ ⟨u14_7, rfl, rfl⟩
 refine st ?_
 cases hr
 refine qaw Tryz.func63 _ (.cons (za rfl (Wk.own _ _)) .nil) ?_
 rfl
noncomputable def qV (k : ((List (Int × Bool))) → Option ((List (Int × Bool)) × (List (Int × Bool)))) (m6 : List (Int × Bool)) : List Gl → (List (Int × Bool)) → Option ((List (Int × Bool)) × (List (Int × Bool)))
 | [], m8 =>
 (k m8)
 | q_10 :: rest, m8 =>
 (bif (q_10.op == (4 : Int)) then
 (bif (decide ((q_10.ts.length : Int) > (0 : Int))) then
 ((zi q_10.ts 0).bind fun q_14 =>
 (bif (q_14.k == (1 : Int)) then
 (bif (!((zt m6 q_14.i).getD false)) then
 ((zax m8 q_14.i true).bind fun m17 =>
 (qV k m6 rest m17))
 else
 (qV k m6 rest m8))
 else
 (qV k m6 rest m8)))
 else
 (qV k m6 rest m8))
 else
 (qV k m6 rest m8))
noncomputable def qdg (k : ((List (Int × Bool))) → Option ((List (Int × Bool)) × (List (Int × Bool)))) : List Int → (List (Int × Bool)) → Option ((List (Int × Bool)) × (List (Int × Bool)))
 | [], m22 =>
 (k m22)
 | q_24 :: rest, m22 =>
 ((zax m22 q_24 true).bind fun m25 =>
 (qdg k rest m25))
noncomputable def qcP (k : ((List (Int × Bool))) → Option ((List (Int × Bool)) × (List (Int × Bool)))) : List At → (List (Int × Bool)) → Option ((List (Int × Bool)) × (List (Int × Bool)))
 | [], m5 =>
 (k m5)
 | q_18 :: rest, m5 =>
 ((qp9 q_18).bind fun r20 =>
 (qdg (fun m23 =>
 (qcP k rest m23)) r20 m5))
noncomputable def qfT (a0 : qr) : Option ((List (Int × Bool)) × (List (Int × Bool))) :=
 ((qh3 a0).bind fun r3 =>
 (qcP (fun m6 =>
 (qV (fun m9 =>
 some (m6, m9)) m6 a0.fg [])) r3 []))
theorem qoC (a0 : qr) (a : (List (Int × Bool)) × (List (Int × Bool))) (hr : qfT a0 = some a) : Spec Tryz.prog 124 [ql a0] [] (fun d σ => ∃ (n_o0 : Nat) (n_o1 : Nat), d = .tup [.map n_o0, .map n_o1] ∧ σ = [.map n_o0 (zw (D.int .i64) D.bool a.1), .map n_o1 (zw (D.int .i64) D.bool a.2)]) := by
 unfold qfT at hr
 refine qx Tryz.func124 rfl fun K A B => ?_
 refine st ?_
 refine rd rfl (qcG rfl rfl rfl) ?_
 refine st0 ?_
 refine ze 4 5 (ew rfl (qqO (α := Int) (β := Bool) (key := (D.int .i64)) (g := D.bool) rfl) ?_)
 rintro _ _ ⟨m10_0, rfl, rfl⟩
 refine ew rfl (qqO (α := Int) (β := Bool) (key := (D.int .i64)) (g := D.bool) rfl) ?_
 rintro _ _ ⟨m11_1, rfl, rfl⟩
 refine st ?_
 refine zj hr rfl qrn (qr6 _) (fun r3 h3 hr => ?_)
 refine st ?_
 obtain ⟨h, m, hr⟩ := exK (fun k => qcP k r3 []) hr
 refine qct 13 rfl (asl rfl) fun o => ?_
 simp only [jb] at o
 refine qq (fun env σ => ∃ (m6 : List (Int × Bool)), env = [(1, .ptr (ql a0)), (2, .map m10_0), (3, .map m11_1)] ∧ σ = [.map m10_0 (zw (D.int .i64) D.bool m6), .map m11_1 (zw (D.int .i64) D.bool ([] : (List (Int × Bool))))] ∧ h m6 = some a) ?_ (fun C => ?_)
 rintro _ _ ⟨m6, rfl, rfl, hr⟩
 rw [m] at hr
 refine st ?_
 obtain ⟨j, p, hr⟩ := exK (fun k => qV k m6 a0.fg []) hr
 refine qct 31 rfl (asl rfl) fun q => ?_
 simp only [jb] at q
 refine qq (fun env σ => ∃ (m9 : List (Int × Bool)), env = [(2, .map m10_0), (3, .map m11_1)] ∧ σ = [.map m10_0 (zw (D.int .i64) D.bool m6), .map m11_1 (zw (D.int .i64) D.bool m9)] ∧ j m9 = some a) ?_ (fun E => ?_)
 rintro _ _ ⟨m9, rfl, rfl, hr⟩
 rw [p] at hr
 refine st ?_
 cases hr
 refine qiZ Tryz.func124 rfl ?_
 exact ⟨m10_0, m11_1, rfl, rfl⟩
 refine qab [2, 3, 31, 32, 33] rfl (qR (fun n env σ => ∃ (i7 : Nat) (m8 : List (Int × Bool)), n = a0.fg.length - i7 ∧ (env = [(2, .map m10_0), (3, .map m11_1), (31, .lst (a0.fg.map zE)), (32, .int .i64 (a0.fg.length : Int)), (33, .int .i64 (i7 : Int))]) ∧ (σ = [.map m10_0 (zw (D.int .i64) D.bool m6), .map m11_1 (zw (D.int .i64) D.bool m8)]) ∧ (i7 ≤ a0.fg.length) ∧ (qV j m6 (a0.fg.drop i7) m8 = some a)) _ ⟨0, [], rfl, rfl, rfl, jc _, hr⟩ ?_)
 rintro n _ _ ⟨i7, m8, rfl, rfl, rfl, r, hr⟩ s
 rcases zb a0.fg i7 r with ⟨t, b, F⟩ | ⟨q_10, t, b, G, H⟩
 rw [b, qV] at hr
 exact fin hr
 rw [b, qV] at hr
 refine st ?_
 refine qy (qai (ze 4 80 ?_))
 refine st ?_
 refine ew rfl (qau rfl qjh) ?_
 rintro _ _ ⟨b9_10, rfl, rfl⟩
 refine qbZ rfl (pf0 _) (qac (qbb 9 b9_10 rfl (pf0 _) (qai (ze 27 562949953421312 (qd 4 rfl ?_)))))
 refine zo 40 rfl hr (fun _ hr => ?_) (fun _ hr => ?_)
 refine st ?_
 refine zo 46 rfl hr (fun _ hr => ?_) (fun _ hr => ?_)
 refine qd 2 rfl ?_
 obtain ⟨q_14, h14, hr⟩ := zd hr
 refine qps h14 rfl (rd rfl (qG rfl qcC rfl (qgp _) (qgk _) rfl) (qd 4 rfl ?_))
 refine zo 54 rfl hr (fun _ hr => ?_) (fun _ hr => ?_)
 refine st ?_
 refine rd rfl (qG rfl qcI rfl (qgv _) (qgu _) rfl) (qd 1 rfl (er rfl (qkk (key := (D.int .i64)) (g := D.bool) m6 q_14.i false rfl Tryz.underlying187 (yQ Tryz.underlying3) qoV rfl rfl (.head _)) ?_))
 refine st ?_
 refine zh 63 rfl hr (fun _ hr => ?_) (fun _ hr => ?_)
 refine qf1 rfl (ze 7 4096 ?_)
 refine st ?_
 refine rd rfl (qG rfl qcI rfl (qgv _) (qgu _) rfl) (qd 1 rfl ?_)
 obtain ⟨m17, h17, hr⟩ := zd hr
 refine z9 rfl (qnW (key := (D.int .i64)) (g := D.bool) m8 q_14.i true rfl Tryz.underlying187 (yQ Tryz.underlying3) rfl rfl rfl (Wk.refl _) (pf1 _ _ _) h17) (qac (qfZ (ze 2 0 (qnL rfl (qd 1 rfl (qac (qab [2, 3, 31, 32, 33] rfl (qbA [_, _] _ (pS [0, 1] _) ?_))))))))
 exact s _ _ _ oa ⟨(i7 + 1), m17, rfl, rfl, rfl, oa, hr⟩
 exact fin hr
 exact fin hr
 exact fin hr
 exact fin hr
 refine qab [1, 2, 3, 13, 14, 15] rfl (qbA [_, _] _ (pS [0, 1] _) (qR (fun n env σ => ∃ (i4 : Nat) (m5 : List (Int × Bool)), n = r3.length - i4 ∧ (env = [(1, .ptr (ql a0)), (2, .map m10_0), (3, .map m11_1), (13, .lst (r3.map zY)), (14, .int .i64 (r3.length : Int)), (15, .int .i64 (i4 : Int))]) ∧ (σ = [.map m10_0 (zw (D.int .i64) D.bool m5), .map m11_1 (zw (D.int .i64) D.bool ([] : (List (Int × Bool))))]) ∧ (i4 ≤ r3.length) ∧ (qcP h (r3.drop i4) m5 = some a)) _ ⟨0, [], rfl, rfl, rfl, jc _, hr⟩ ?_))
 rintro n _ _ ⟨i4, m5, rfl, rfl, rfl, u, hr⟩ I
 rcases zb r3 i4 u with ⟨v, c, J⟩ | ⟨q_18, v, c, L, M⟩
 rw [c, qcP] at hr
 exact fin hr
 rw [c, qcP] at hr
 refine st ?_
 refine qy (qai (ze 4 80 ?_))
 refine st ?_
 refine ew rfl (qau rfl qfI) ?_
 rintro _ _ ⟨b5_18, rfl, rfl⟩
 refine qbZ rfl (pf0 _) (qac (qbb 5 b5_18 rfl (pf0 _) ?_))
 refine st ?_
 obtain ⟨r20, h20, hr⟩ := zd hr
 refine qdY rfl qjC (qjG _ _ h20) ?_
 refine st ?_
 obtain ⟨l, w, hr⟩ := exK (fun k => qdg k r20 m5) hr
 refine qct 20 rfl (asl rfl) fun x => ?_
 simp only [jb] at x
 refine qq (fun env σ => ∃ (m23 : List (Int × Bool)), env = [(1, .ptr (ql a0)), (2, .map m10_0), (3, .map m11_1), (13, .lst (r3.map zY)), (14, .int .i64 (r3.length : Int)), (15, .int .i64 (i4 : Int))] ∧ σ = [.map m10_0 (zw (D.int .i64) D.bool m23), .map m11_1 (zw (D.int .i64) D.bool ([] : (List (Int × Bool))))] ∧ l m23 = some a) ?_ (fun N => ?_)
 rintro _ _ ⟨m23, rfl, rfl, hr⟩
 rw [w] at hr
 exact fin hr
 refine qab [1, 2, 3, 13, 14, 15, 20, 21, 22] rfl (qR (fun n env σ => ∃ (i21 : Nat) (m22 : List (Int × Bool)), n = r20.length - i21 ∧ (env = [(1, .ptr (ql a0)), (2, .map m10_0), (3, .map m11_1), (13, .lst (r3.map zY)), (14, .int .i64 (r3.length : Int)), (15, .int .i64 (i4 : Int)), (20, .lst (r20.map (D.int .i64))), (21, .int .i64 (r20.length : Int)), (22, .int .i64 (i21 : Int))]) ∧ (σ = [.map m10_0 (zw (D.int .i64) D.bool m22), .map m11_1 (zw (D.int .i64) D.bool ([] : (List (Int × Bool))))]) ∧ (i21 ≤ r20.length) ∧ (qdg l (r20.drop i21) m22 = some a)) _ ⟨0, m5, rfl, rfl, rfl, jc _, hr⟩ ?_)
 rintro n _ _ ⟨i21, m22, rfl, rfl, rfl, y, hr⟩ O
 rcases zb r20 i21 y with ⟨z, e, P⟩ | ⟨q_24, z, e, Q, R⟩
 rw [e, qdg] at hr
 exact fin hr
 rw [e, qdg] at hr
 refine st ?_
 refine qy ?_
 refine st0 ?_
 refine qt6 3 ?_
 refine st0 ?_
 refine ze 3 16 (qd 2 rfl ?_)
 obtain ⟨m25, h25, hr⟩ := zd hr
 refine z9 rfl (qnW (key := (D.int .i64)) (g := D.bool) m22 q_24 true rfl Tryz.underlying187 (yQ Tryz.underlying3) rfl rfl rfl (Wk.refl _) (pf0 _) h25) ?_
 exact fin hr
noncomputable def qbX (k : Int → ((List (Int × Int))) → Option (Int × (List (Int × Int)))) (rec : T → Int → Int → (List (Int × Int)) → Option (Int × (List (Int × Int)))) (a2 : Int) : List T → Int → (List (Int × Int)) → Option (Int × (List (Int × Int)))
 | [], f4, m5 =>
 (k f4 m5)
 | q_8 :: rest, f4, m5 =>
 ((rec q_8 a2 f4 m5).bind fun r10 =>
 (qbX k rec a2 rest r10.1 r10.2))
noncomputable def qdp : Nat → T → Int → Int → (List (Int × Int)) → Option (Int × (List (Int × Int)))
 | 0, _, _, _, _ => none
 | fuel + 1, a1, a2, c_0_0, s1 =>
  (fun (rec : T → Int → Int → (List (Int × Int)) → Option (Int × (List (Int × Int)))) =>
   (bif (a1.k == (1 : Int)) then
   ((zax s1 a1.i (wr (((zt s1 a1.i).getD 0) + a2))).bind fun m2 =>
   some (c_0_0, m2))
   else
   (qbX (fun f6 m7 =>
   some (f6, m7)) rec a2 a1.ar (wr (c_0_0 + a2)) s1))) (qdp fuel)
theorem qmY (fuel : Nat) (rec : T → Int → Int → (List (Int × Int)) → Option (Int × (List (Int × Int)))) (IHR : ∀ (a1 : T) (a2 : Int) (c : Int) (s1 : List (Int × Int)) (a : Nat) (m_o1 : Nat) (b : Int × (List (Int × Int))), rec a1 a2 c s1 = some b → Spec Tryz.prog 153 [.ref a 0 [], zl a1, .int .i64 a2] [.cell a (.agg [.int .i64 c, .map m_o1]), .map m_o1 (zw (D.int .i64) (D.int .i64) s1)] (fun d σ => d = .tup [] ∧ σ = [.cell a (.agg [.int .i64 b.1, .map m_o1]), .map m_o1 (zw (D.int .i64) (D.int .i64) b.2)])) (a1 : T) (a2 : Int) (c : Int) (s1 : List (Int × Int)) (a : Nat) (m_o1 : Nat) (b : Int × (List (Int × Int)))
 (hr : (bif (a1.k == (1 : Int)) then
((zax s1 a1.i (wr (((zt s1 a1.i).getD 0) + a2))).bind fun m2 =>
some (c, m2))
else
(qbX (fun f6 m7 =>
some (f6, m7)) rec a2 a1.ar (wr (c + a2)) s1)) = some b) : Spec Tryz.prog 153 [.ref a 0 [], zl a1, .int .i64 a2] [.cell a (.agg [.int .i64 c, .map m_o1]), .map m_o1 (zw (D.int .i64) (D.int .i64) s1)] (fun d σ => d = .tup [] ∧ σ = [.cell a (.agg [.int .i64 b.1, .map m_o1]), .map m_o1 (zw (D.int .i64) (D.int .i64) b.2)]) := by
 refine qx Tryz.func153 rfl fun K p q => ?_
 refine st ?_
 refine rd rfl (qcG rfl rfl rfl) ?_
 refine st ?_
 refine rd rfl (qG rfl qcC rfl (qgp _) (qgk _) rfl) ?_
 refine st ?_
 refine zh 10 rfl hr (fun _ hr => ?_) (fun _ hr => ?_)
 refine st ?_
 refine qdH 10 270464 (qd 1 rfl (rd rfl (qM rfl rfl) (rd rfl (qg rfl qlf rfl) (qbR 0 rfl (rd rfl (qG rfl qcI rfl (qgv _) (qgu _) rfl) (qd 1 rfl (er rfl (qkk (key := (D.int .i64)) (g := (D.int .i64)) s1 a1.i 0 rfl Tryz.underlying190 (yQ Tryz.underlying3) qEI rfl rfl (.tail _ (.head _))) (qd 1 rfl (rd rfl (qeg rfl rfl rfl rfl) ?_)))))))))
 obtain ⟨m2, h2, hr⟩ := zd hr
 refine z9 rfl (qnW (key := (D.int .i64)) (g := (D.int .i64)) s1 a1.i (wr (((zt s1 a1.i).getD 0) + a2)) rfl Tryz.underlying190 (yQ Tryz.underlying3) rfl rfl rfl (Wk.refl _) (pf1 _ _ _) h2) (qac (qbA [_, _] _ (pS [0, 1] _) ?_))
 cases hr
 refine qiZ Tryz.func153 rfl ?_
 exact ⟨rfl, rfl⟩
 refine st0 ?_
 refine ze 9 65664 (qd 1 rfl (rd rfl (qM rfl rfl) (rd rfl (qg rfl qhe rfl) (qbR 0 rfl (qd 1 rfl (rd rfl (qeg rfl rfl rfl rfl) (rd rfl (qM rfl rfl) (rd rfl (qg rfl qhe rfl) (z9 rfl (qc9 _ rfl rfl rfl (Wk.refl _) (pf0 _) rfl rfl (by exact qfj) rfl rfl rfl) ?_)))))))))
 refine st ?_
 refine rd rfl (qG rfl qcx rfl (qhm _) (qhl _) rfl) ?_
 refine st ?_
 obtain ⟨h, j, hr⟩ := exK (fun k => qbX k rec a2 a1.ar (wr (c + a2)) s1) hr
 refine qct 29 rfl (asl rfl) fun l => ?_
 simp only [jb] at l
 refine qq (fun env σ => ∃ (f6 : Int) (m7 : List (Int × Int)), env = [] ∧ σ = [.cell a (.agg [.int .i64 f6, .map m_o1]), .map m_o1 (zw (D.int .i64) (D.int .i64) m7)] ∧ h f6 m7 = some b) ?_ (fun r => ?_)
 rintro _ _ ⟨f6, m7, rfl, rfl, hr⟩
 rw [j] at hr
 cases hr
 refine qEZ Tryz.func153 _ .nil ?_
 exact ⟨rfl, rfl⟩
 refine qab [0, 2, 29, 30, 31] rfl (qR (fun n env σ => ∃ (i3 : Nat) (f4 : Int) (m5 : List (Int × Int)), n = a1.ar.length - i3 ∧ (env = [(0, .ref a 0 []), (2, .int .i64 a2), (29, .lst (a1.ar.map zl)), (30, .int .i64 (a1.ar.length : Int)), (31, .int .i64 (i3 : Int))]) ∧ (σ = [.cell a (.agg [.int .i64 f4, .map m_o1]), .map m_o1 (zw (D.int .i64) (D.int .i64) m5)]) ∧ (i3 ≤ a1.ar.length) ∧ (qbX h rec a2 (a1.ar.drop i3) f4 m5 = some b)) _ ⟨0, (wr (c + a2)), s1, rfl, rfl, rfl, jc _, hr⟩ ?_)
 rintro n _ _ ⟨i3, f4, m5, rfl, rfl, rfl, m, hr⟩ s
 rcases zb a1.ar i3 m with ⟨o, e, t⟩ | ⟨q_8, o, e, u, v⟩
 rw [e, qbX] at hr
 exact fin hr
 rw [e, qbX] at hr
 refine st ?_
 refine qy (qai (ze 4 80 ?_))
 refine st ?_
 refine ew rfl (qau rfl qd8) ?_
 rintro _ _ ⟨b7_8, rfl, rfl⟩
 refine qbZ rfl (pf0 _) (qac (qbb 7 b7_8 rfl (pf0 _) (ze 4 64 (qd 3 rfl ?_))))
 obtain ⟨r10, h10, hr⟩ := zd hr
 refine ew rfl (qiP _ rfl qkR (.oc rfl (.oc rfl (.oc rfl .nil))) (by exact (pf0 _)) (IHR _ _ _ _ _ _ _ h10)) ?_
 rintro _ _ ⟨_, ⟨rfl, rfl⟩, rfl⟩
 refine y7 ((.cell a (.agg [.int .i64 r10.1, .map m_o1])) :: (.map m_o1 (zw (D.int .i64) (D.int .i64) r10.2)) :: _) rfl ?_
 exact fin hr
theorem qjo : ∀ (fuel : Nat) (a1 : T) (a2 : Int) (c_0_0 : Int) (s1 : List (Int × Int)) (b_o0 : Nat) (m_o1 : Nat) (res : Int × (List (Int × Int))), qdp fuel a1 a2 c_0_0 s1 = some res → Spec Tryz.prog 153 [.ref b_o0 0 [], zl a1, .int .i64 a2] [.cell b_o0 (.agg [.int .i64 c_0_0, .map m_o1]), .map m_o1 (zw (D.int .i64) (D.int .i64) s1)] (fun d σ => d = .tup [] ∧ σ = [.cell b_o0 (.agg [.int .i64 res.1, .map m_o1]), .map m_o1 (zw (D.int .i64) (D.int .i64) res.2)])
 | 0, _, _, _, _, _, _, _, h => by cases h
 | fuel + 1, a1, a2, c_0_0, s1, b_o0, m_o1, res, h => qmY fuel (qdp fuel) (qjo fuel) a1 a2 c_0_0 s1 b_o0 m_o1 res h
noncomputable def qcA (k : Int → ((List (Int × Int))) → Option (Bool × Int × (List (Int × Int)))) (fuel : Nat) (r1 : qh × Bool) (a3 : Int) : List T → Nat → Int → (List (Int × Int)) → Option (Bool × Int × (List (Int × Int)))
 | [], i8, f9, m10 =>
 (k f9 m10)
 | q_13 :: rest, i8, f9, m10 =>
 ((zi r1.1.fp (i8 : Int)).bind fun q_15 =>
 ((qdp fuel q_13 (wr (a3 * q_15)) f9 m10).bind fun r16 =>
 (qcA k fuel r1 a3 rest (i8 + 1) r16.1 r16.2)))
noncomputable def qeq (fuel : Nat) (a1 : List qh) (a2 : At) (a3 : Int) (c_0_0 : Int) (s1 : List (Int × Int)) : Option (Bool × Int × (List (Int × Int))) :=
 ((qii a1 a2.n (a2.ts.length : Int)).bind fun r1 =>
 (bif (!r1.2) then
 some (false, c_0_0, s1)
 else
 ((qhL r1.1).bind fun r4 =>
 (bif (!r4) then
 some (false, c_0_0, s1)
 else
 ((qj0 a2).bind fun r6 =>
 (bif (!r6) then
 some (false, c_0_0, s1)
 else
 (qcA (fun f11 m12 =>
 some (true, f11, m12)) fuel r1 a3 a2.ts 0 (wr (c_0_0 + (wr (a3 * r1.1.fL)))) s1)))))))
theorem qhT (fuel : Nat) (a1 : List qh) (a2 : At) (a3 : Int) (c : Int) (s1 : List (Int × Int)) (a : Nat) (m_o1 : Nat) (b : Bool × Int × (List (Int × Int))) (hr : qeq fuel a1 a2 a3 c s1 = some b) : Spec Tryz.prog 125 [.ref a 0 [], .lst (a1.map qu), zY a2, .int .i64 a3] [.cell a (.agg [.int .i64 c, .map m_o1]), .map m_o1 (zw (D.int .i64) (D.int .i64) s1)] (fun d σ => d = .bool b.1 ∧ σ = [.cell a (.agg [.int .i64 b.2.1, .map m_o1]), .map m_o1 (zw (D.int .i64) (D.int .i64) b.2.2)]) := by
 unfold qeq at hr
 refine qx Tryz.func125 rfl fun K m o => ?_
 refine st ?_
 refine rd rfl (qcG rfl rfl rfl) ?_
 refine st0 ?_
 refine ze 13 5242880 ?_
 refine st ?_
 refine zj hr rfl qo6 (qpj _ _ _) (fun r1 h1 hr => ?_)
 refine qd 3 rfl (ew rfl (qau rfl qg9) ?_)
 rintro _ _ ⟨b9_1, rfl, rfl⟩
 refine qbZ rfl (pf0 _) (qd 1 rfl (qac (qbb 9 b9_1 rfl (pf0 _) ?_)))
 refine st ?_
 refine zo 25 rfl hr (fun _ hr => ?_) (fun _ hr => ?_)
 refine st ?_
 cases hr
 refine qiZ Tryz.func125 rfl ?_
 exact ⟨rfl, rfl⟩
 refine qd 1 rfl ?_
 refine zj hr rfl qn4 (qn1 _) (fun r4 h4 hr => ?_)
 refine qd 3 rfl ?_
 refine zo 30 rfl hr (fun _ hr => ?_) (fun _ hr => ?_)
 refine st ?_
 cases hr
 refine qiZ Tryz.func125 rfl ?_
 exact ⟨rfl, rfl⟩
 refine qd 1 rfl ?_
 obtain ⟨r6, h6, hr⟩ := zd hr
 refine qdY rfl qoO (qoL _ _ h6) ?_
 refine st ?_
 refine zh 34 rfl hr (fun _ hr => ?_) (fun _ hr => ?_)
 refine st ?_
 cases hr
 refine qiZ Tryz.func125 rfl ?_
 exact ⟨rfl, rfl⟩
 refine st ?_
 refine qdH 12 4194432 (qd 1 rfl (rd rfl (qM rfl rfl) (rd rfl (qg rfl qhe rfl) (qbR 0 rfl (qd 3 rfl (rd rfl (qeg rfl rfl rfl rfl) (rd rfl (qeg rfl rfl rfl rfl) (rd rfl (qM rfl rfl) (rd rfl (qg rfl qhe rfl) (z9 rfl (qc9 _ rfl rfl rfl (Wk.refl _) (pf0 _) rfl rfl (by exact qfj) rfl rfl rfl) ?_))))))))))
 refine st ?_
 obtain ⟨g, h, hr⟩ := exK (fun k => qcA k fuel r1 a3 a2.ts 0 (wr (c + (wr (a3 * r1.1.fL)))) s1) hr
 refine qct 18 rfl (asl rfl) fun i => ?_
 simp only [jb] at i
 refine qq (fun env σ => ∃ (f11 : Int) (m12 : List (Int × Int)), env = [] ∧ σ = [.cell a (.agg [.int .i64 f11, .map m_o1]), .map m_o1 (zw (D.int .i64) (D.int .i64) m12)] ∧ g f11 m12 = some b) ?_ (fun p => ?_)
 rintro _ _ ⟨f11, m12, rfl, rfl, hr⟩
 rw [h] at hr
 refine st ?_
 cases hr
 refine qiZ Tryz.func125 rfl ?_
 exact ⟨rfl, rfl⟩
 refine qab [0, 3, 9, 47, 48, 49] rfl (qR (fun n env σ => ∃ (i8 : Nat) (f9 : Int) (m10 : List (Int × Int)), n = a2.ts.length - i8 ∧ (env = [(0, .ref a 0 []), (3, .int .i64 a3), (9, .ptr (qu r1.1)), (47, .lst (a2.ts.map zl)), (48, .int .i64 (a2.ts.length : Int)), (49, .int .i64 (i8 : Int))]) ∧ (σ = [.cell a (.agg [.int .i64 f9, .map m_o1]), .map m_o1 (zw (D.int .i64) (D.int .i64) m10)]) ∧ (i8 ≤ a2.ts.length) ∧ (qcA g fuel r1 a3 (a2.ts.drop i8) i8 f9 m10 = some b)) _ ⟨0, (wr (c + (wr (a3 * r1.1.fL)))), s1, rfl, rfl, rfl, jc _, hr⟩ ?_)
 rintro n _ _ ⟨i8, f9, m10, rfl, rfl, rfl, j, hr⟩ q
 rcases zb a2.ts i8 j with ⟨l, e, r⟩ | ⟨q_13, l, e, s, t⟩
 rw [e, qcA] at hr
 exact fin hr
 rw [e, qcA] at hr
 refine st ?_
 refine qy (qai (ze 6 1088 ?_))
 refine st ?_
 refine ew rfl (qau rfl qd8) ?_
 rintro _ _ ⟨b12_13, rfl, rfl⟩
 refine qd 1 rfl (qbZ rfl (pf0 _) (qac (qbb 12 b12_13 rfl (pf0 _) (qdH 10 262144 (qd 6 rfl ?_)))))
 obtain ⟨q_15, h15, hr⟩ := zd hr
 refine st ?_
 refine rd rfl (qeg rfl rfl rfl rfl) ?_
 obtain ⟨r16, h16, hr⟩ := zd hr
 refine ew rfl (qiP _ rfl qkR (.oc rfl (.oc rfl (.oc rfl .nil))) (by exact (pf0 _)) (qjo fuel _ _ _ _ _ _ _ h16)) ?_
 rintro _ _ ⟨_, ⟨rfl, rfl⟩, rfl⟩
 refine y7 ((.cell a (.agg [.int .i64 r16.1, .map m_o1])) :: (.map m_o1 (zw (D.int .i64) (D.int .i64) r16.2)) :: _) rfl ?_
 exact fin hr
noncomputable def qdb (k : Int → Option Bool) (r1 : (List (Int × Bool)) × (List (Int × Bool))) (l17 : Int) : Option Bool :=
 (k l17)
noncomputable def qda (k : Int → Option Bool) (r1 : (List (Int × Bool)) × (List (Int × Bool))) (q20 : Int × Int) (l17 : Int) : Option ((Bool) ⊕ (Int)) :=
 (bif (decide (q20.2 < (0 : Int))) then
 (bif (!((zt r1.2 q20.1).getD false)) then
 (Option.map Sum.inl (some (false)))
 else
 some (.inr ((wr (l17 + q20.2)))))
 else
 some (.inr ((wr (l17 + q20.2)))))
noncomputable def qfJ (k : Int → Option Bool) (r1 : (List (Int × Bool)) × (List (Int × Bool))) (l : List (Int × Int)) (l17 : Int) : Option Bool :=
 zbr (fun l' => zU (fun q (v : Int) => qda k r1 q v) (fun v => qdb k r1 v) l' (l17)) l
noncomputable def qae (k : Option Bool) (r1 : (List (Int × Bool)) × (List (Int × Bool))) : List Int → Option Bool
 | [] =>
 k
 | q_34 :: rest =>
 (bif (!((zt r1.1 q_34).getD false)) then
 (bif (!((zt r1.2 q_34).getD false)) then
 some (false)
 else
 (qae k r1 rest))
 else
 (qae k r1 rest))
noncomputable def qaD (k : Option Bool) (r1 : (List (Int × Bool)) × (List (Int × Bool))) : List Int → Option Bool
 | [] =>
 k
 | q_43 :: rest =>
 (bif (!((zt r1.1 q_43).getD false)) then
 (bif (!((zt r1.2 q_43).getD false)) then
 some (false)
 else
 (qaD k r1 rest))
 else
 (qaD k r1 rest))
noncomputable def qJ (k : Int → ((List (Int × Int))) → Option Bool) (fuel : Nat) (r1 : (List (Int × Bool)) × (List (Int × Bool))) (a1 : qr) (a0 : List qh) : List Gl → Int → (List (Int × Int)) → Option Bool
 | [], c12, m13 =>
 (k c12 m13)
 | q_23 :: rest, c12, m13 =>
 (bif (q_23.op == (3 : Int)) then
 some (false)
 else
 (bif (q_23.op == (0 : Int)) then
 (bif ((a1.ff.length : Int) == (0 : Int)) then
 some (false)
 else
 (bif (q_23.op != (0 : Int)) then
 (qJ k fuel r1 a1 a0 rest c12 m13)
 else
 ((qp9 (⟨q_23.n, q_23.ts⟩ : At)).bind fun r30 =>
 (qae (((qeq fuel a0 (⟨q_23.n, q_23.ts⟩ : At) (-1) c12 m13).bind fun r32 =>
 (bif (!r32.1) then
 some (false)
 else
 (qJ k fuel r1 a1 a0 rest r32.2.1 r32.2.2)))) r1 r30))))
 else
 (bif (q_23.op != (0 : Int)) then
 (qJ k fuel r1 a1 a0 rest c12 m13)
 else
 ((qp9 (⟨q_23.n, q_23.ts⟩ : At)).bind fun r39 =>
 (qaD (((qeq fuel a0 (⟨q_23.n, q_23.ts⟩ : At) (-1) c12 m13).bind fun r41 =>
 (bif (!r41.1) then
 some (false)
 else
 (qJ k fuel r1 a1 a0 rest r41.2.1 r41.2.2)))) r1 r39)))))
noncomputable def q9 (k : Int → ((List (Int × Int))) → Option Bool) (fuel : Nat) (a0 : List qh) : List At → Int → (List (Int × Int)) → Option Bool
 | [], c7, m8 =>
 (k c7 m8)
 | q_46 :: rest, c7, m8 =>
 ((qeq fuel a0 q_46 1 c7 m8).bind fun r48 =>
 (bif (!r48.1) then
 some (false)
 else
 (q9 k fuel a0 rest r48.2.1 r48.2.2)))
noncomputable def qeN (fuel : Nat) (a0 : List qh) (a1 : qr) : Option Bool :=
 ((qfT a1).bind fun r1 =>
 (q9 (fun c9 m10 =>
 (qJ (fun c14 m15 =>
 (qfJ (fun l18 =>
 (bif (decide (l18 ≥ (1 : Int))) then
 some (true)
 else
 some (((a1.ff.length : Int) == (0 : Int))))) r1 m15 c14)) fuel r1 a1 a0 a1.fg c9 m10)) fuel a0 a1.ff 0 []))
theorem qoM (fuel : Nat) (a0 : List qh) (a1 : qr) (a : Bool) (hr : qeN fuel a0 a1 = some a) : zf Tryz.prog 89 [.lst (a0.map qu), ql a1] (.bool a) := by
 unfold qeN at hr
 refine qx Tryz.func89 rfl fun K Q R => ?_
 refine st ?_
 refine rd rfl (qcG rfl rfl rfl) ?_
 refine st0 ?_
 refine ze 7 4 (qd 1 rfl ?_)
 obtain ⟨r1, h1, hr⟩ := zd hr
 refine ew rfl (qiP _ rfl qoZ (.oc rfl .nil) (by exact (List.Perm.refl _)) (qoC _ _ h1)) ?_
 rintro _ _ ⟨_, ⟨m20_1, m20_2, rfl, rfl⟩, rfl⟩
 refine y7 ((.map m20_1 (zw (D.int .i64) D.bool r1.1)) :: (.map m20_2 (zw (D.int .i64) D.bool r1.2)) :: _) rfl ?_
 refine st0 ?_
 refine ze 4 81 (ew rfl (qqO (α := Int) (β := Int) (key := (D.int .i64)) (g := (D.int .i64)) rfl) ?_)
 rintro _ _ ⟨m23_3, rfl, rfl⟩
 refine rd rfl (qay rfl qn9 (.oc rfl .nil) (.cons rfl rfl rfl (.nil _))) (ew rfl (qau rfl (ym.agg qn9)) ?_)
 rintro _ _ ⟨b7_4, rfl, rfl⟩
 refine qbZ rfl (pf0 _) ?_
 refine st ?_
 obtain ⟨i, t, hr⟩ := exK (fun k => q9 k fuel a0 a1.ff 0 []) hr
 refine qct 26 rfl (asl rfl) fun u => ?_
 simp only [jb] at u
 refine qq (fun env σ => ∃ (c9 : Int) (m10 : List (Int × Int)), env = [(0, .lst (a0.map qu)), (3, .ptr (ql a1)), (5, .map m20_1), (6, .map m20_2), (7, .ref b7_4 0 [])] ∧ σ = [.map m20_1 (zw (D.int .i64) D.bool r1.1), .map m20_2 (zw (D.int .i64) D.bool r1.2), .cell b7_4 (.agg [.int .i64 c9, .map m23_3]), .map m23_3 (zw (D.int .i64) (D.int .i64) m10)] ∧ i c9 m10 = some a) ?_ (fun S => ?_)
 rintro _ _ ⟨c9, m10, rfl, rfl, hr⟩
 rw [t] at hr
 refine st ?_
 obtain ⟨j, w, hr⟩ := exK (fun k => qJ k fuel r1 a1 a0 a1.fg c9 m10) hr
 refine qct 38 rfl (asl rfl) fun x => ?_
 simp only [jb] at x
 refine qq (fun env σ => ∃ (c14 : Int) (m15 : List (Int × Int)), env = [(3, .ptr (ql a1)), (6, .map m20_2), (7, .ref b7_4 0 [])] ∧ σ = [.map m20_2 (zw (D.int .i64) D.bool r1.2), .cell b7_4 (.agg [.int .i64 c14, .map m23_3]), .map m23_3 (zw (D.int .i64) (D.int .i64) m15)] ∧ j c14 m15 = some a) ?_ (fun y => ?_)
 rintro _ _ ⟨c14, m15, rfl, rfl, hr⟩
 rw [w] at hr
 refine qai (ze 3 8 (rd rfl (qg rfl qhe rfl) (qbR 1 rfl ?_)))
 refine st0 ?_
 refine ze 3 24 (rd rfl (qg rfl qlf rfl) (qbR 1 rfl (ew rfl (qDD (key := (D.int .i64)) (g := (D.int .i64)) (l := m15) rfl Tryz.underlying190 rfl (pf2 _ _ _ _)) ?_)))
 rintro _ _ ⟨b93_15, es_b93_15, cl_b93_15, rfl, rfl, hes_b93_15⟩
 refine qac ?_
 obtain ⟨b, z, hr⟩ := exK (fun k => qfJ k r1 m15 c14) hr
 refine qq (fun env σ => ∃ (l18 : Int), env = [(3, .ptr (ql a1)), (15, .int .i64 l18)] ∧ σ = [] ∧ b l18 = some a) ?_ (fun A => ?_)
 rintro _ _ ⟨l18, rfl, rfl, hr⟩
 rw [z] at hr
 refine st ?_
 refine zo 112 rfl hr (fun _ hr => ?_) (fun _ hr => ?_)
 exact fin hr
 exact fin hr
 refine qab [3, 6, 93, 15] rfl (qbA [_, _, _] _ (pS [1, 1, 2] _) (qR (fun n env σ => ∃ (l17 : Int) (seen2 : Array Nat) (last2 : Nat), n = (zaE es_b93_15 seen2 m15).length ∧ (env = [(3, .ptr (ql a1)), (6, .map m20_2), (93, .ref b93_15 0 []), (15, .int .i64 l17)]) ∧ (σ = [.map m20_2 (zw (D.int .i64) D.bool r1.2), .iter b93_15 m23_3 cl_b93_15 seen2 last2, .mapE m23_3 (zw (D.int .i64) (D.int .i64) m15) es_b93_15 cl_b93_15]) ∧ (cl_b93_15 ≤ last2) ∧ (∀ l', l'.Perm (zaE es_b93_15 seen2 m15) → zU (fun q (v : Int) => qda b r1 q v) (fun v => qdb b r1 v) l' (l17) = some a)) _ ⟨c14, #[], cl_b93_15, rfl, rfl, rfl, jk _, fun l hl => qz9 hr l (by rw [qvw hes_b93_15] at hl; exact hl)⟩ ?_))
 rintro n _ _ ⟨l17, seen2, last2, rfl, rfl, rfl, B, hr⟩ m
 refine qai (ze 2 1 (ew rfl (qEc rfl rfl (pS [2, 2] _) B) ?_))
 rintro _ _ (⟨hrem2, rfl, rfl⟩ | ⟨q20, e_q_20, hp_q_20, hc_q_20, rfl, rfl⟩)
 have hr : qdb b r1 l17 = some a := mapEnd hrem2 hr
 unfold qdb at hr
 refine qd 1 rfl (qac (qyc 3 rfl (qab [3, 15] rfl (qbA [] _ (pf0 _) ?_))))
 exact A _ _ ⟨l17, rfl, rfl, hr⟩
 obtain ⟨z2, hr, hz2⟩ := zb3 hp_q_20 hr
 have hr : qda b r1 q20 l17 = some z2 := hr
 unfold qda at hr
 refine st ?_
 refine qy (qai (ze 5 2 (er rfl (qCY (key := (D.int .i64)) (g := (D.int .i64)) rfl rfl (.head _) (.tail _ (.head _)) hc_q_20) ?_)))
 refine st0 ?_
 refine ze 8 2048 (qd 3 rfl ?_)
 refine zo 101 rfl hr (fun _ hr => ?_) (fun _ hr => ?_)
 refine qd 2 rfl (er rfl (qkk (key := (D.int .i64)) (g := D.bool) r1.2 q20.1 false rfl Tryz.underlying187 (yQ Tryz.underlying3) qoV rfl rfl (.tail _ (.tail _ (.head _)))) ?_)
 refine st ?_
 refine zh 106 rfl hr (fun _ hr => ?_) (fun _ hr => ?_)
 refine st ?_
 refine qxM (pf0 _) ?_
 have hr := mapOut hz2 hr
 exact fin hr
 refine st ?_
 refine rd rfl (qeg rfl rfl rfl rfl) (qd 1 rfl (qac (qfZ (qab [3, 6, 93, 15] rfl (qbA [_, _, _] _ (pS [1, 1, 2] _) ?_)))))
 exact m _ _ _ (by have := (hp_q_20).length_eq; simp only [jg] at this; omega) ⟨(wr (l17 + q20.2)), _, _, rfl, rfl, rfl, jk _, zbp hz2 hr⟩
 refine st ?_
 refine rd rfl (qeg rfl rfl rfl rfl) (qd 1 rfl (qac (qfZ (qab [3, 6, 93, 15] rfl (qbA [_, _, _] _ (pS [1, 1, 2] _) ?_)))))
 exact m _ _ _ (by have := (hp_q_20).length_eq; simp only [jg] at this; omega) ⟨(wr (l17 + q20.2)), _, _, rfl, rfl, rfl, jk _, zbp hz2 hr⟩
 refine qab [0, 3, 5, 6, 7, 38, 39, 40] rfl (qR (fun n env σ => ∃ (i11 : Nat) (c12 : Int) (m13 : List (Int × Int)), n = a1.fg.length - i11 ∧ (env = [(0, .lst (a0.map qu)), (3, .ptr (ql a1)), (5, .map m20_1), (6, .map m20_2), (7, .ref b7_4 0 []), (38, .lst (a1.fg.map zE)), (39, .int .i64 (a1.fg.length : Int)), (40, .int .i64 (i11 : Int))]) ∧ (σ = [.map m20_1 (zw (D.int .i64) D.bool r1.1), .map m20_2 (zw (D.int .i64) D.bool r1.2), .cell b7_4 (.agg [.int .i64 c12, .map m23_3]), .map m23_3 (zw (D.int .i64) (D.int .i64) m13)]) ∧ (i11 ≤ a1.fg.length) ∧ (qJ j fuel r1 a1 a0 (a1.fg.drop i11) c12 m13 = some a)) _ ⟨0, c9, m10, rfl, rfl, rfl, jc _, hr⟩ ?_)
 rintro n _ _ ⟨i11, c12, m13, rfl, rfl, rfl, C, hr⟩ o
 rcases zb a1.fg i11 C with ⟨p, c, T⟩ | ⟨q_23, p, c, U, V⟩
 rw [c, qJ] at hr
 refine qai (ze 1 0 (qd 1 rfl (qac (qai (qvN 41 false rfl p (qhR rfl (qnJ rfl (qab [3, 6, 7] rfl (qbA [_, _, _] _ (pS [3, 3, 3] _) ?_)))))))))
 exact y _ _ ⟨c12, m13, rfl, rfl, hr⟩
 rw [c, qJ] at hr
 refine st ?_
 refine qy (qai (ze 4 80 ?_))
 refine st ?_
 refine ew rfl (qau rfl qjh) ?_
 rintro _ _ ⟨b11_23, rfl, rfl⟩
 refine qbZ rfl (pf0 _) (qac (qbb 11 b11_23 rfl (pf0 _) (qai (qy ?_))))
 refine st ?_
 refine zh 44 rfl hr (fun _ hr => ?_) (fun _ hr => ?_)
 exact fin hr
 refine st ?_
 refine zo 51 rfl hr (fun _ hr => ?_) (fun _ hr => ?_)
 refine st ?_
 refine zh 44 rfl hr (fun _ hr => ?_) (fun _ hr => ?_)
 exact fin hr
 refine st ?_
 refine zh 57 rfl hr (fun _ hr => ?_) (fun _ hr => ?_)
 exact fin hr
 refine st0 ?_
 refine ze 7 5120 (qd 4 rfl (rd rfl (qay rfl qhz (.oc rfl (.oc rfl .nil)) (.cons rfl rfl rfl (.cons rfl rfl rfl (.nil _)))) (ew rfl (qau rfl qfI) ?_)))
 rintro _ _ ⟨b12_28, rfl, rfl⟩
 refine qbZ rfl (pf0 _) (qac (qbb 12 b12_28 rfl (pf0 _) ?_))
 refine st ?_
 obtain ⟨r30, h30, hr⟩ := zd hr
 refine qdY rfl qjC (qjG _ _ h30) ?_
 refine st ?_
 obtain ⟨r, E, hr⟩ := exK (fun k => qae k r1 r30) hr
 refine qct 67 rfl (asl rfl) fun F => ?_
 simp only [jb] at F
 refine qq (fun env σ => env = [(0, .lst (a0.map qu)), (3, .ptr (ql a1)), (5, .map m20_1), (6, .map m20_2), (7, .ref b7_4 0 []), (12, .ptr (.agg [.str q_23.n, .lst (q_23.ts.map zl)])), (38, .lst (a1.fg.map zE)), (39, .int .i64 (a1.fg.length : Int)), (40, .int .i64 (i11 : Int))] ∧ σ = [.map m20_1 (zw (D.int .i64) D.bool r1.1), .map m20_2 (zw (D.int .i64) D.bool r1.2), .cell b7_4 (.agg [.int .i64 c12, .map m23_3]), .map m23_3 (zw (D.int .i64) (D.int .i64) m13)] ∧ r = some a) ?_ (fun W => ?_)
 rintro _ _ ⟨rfl, rfl, hr⟩
 rw [E] at hr
 refine qai (ze 4 16 (qd 2 rfl ?_))
 obtain ⟨r32, h32, hr⟩ := zd hr
 refine ew rfl (qiP _ rfl qje (.oc rfl (.oc rfl (.oc rfl (.oc rfl .nil)))) (by exact (pS [3, 3] _)) (qhT fuel _ _ _ _ _ _ _ _ h32)) ?_
 rintro _ _ ⟨_, ⟨rfl, rfl⟩, rfl⟩
 refine y7 ((.cell b7_4 (.agg [.int .i64 r32.2.1, .map m23_3])) :: (.map m23_3 (zw (D.int .i64) (D.int .i64) r32.2.2)) :: _) rfl ?_
 refine st ?_
 refine zh 87 rfl hr (fun _ hr => ?_) (fun _ hr => ?_)
 exact fin hr
 refine qyc 3 rfl (ze 2 0 (qnL rfl (qd 1 rfl (qac (qab [0, 3, 5, 6, 7, 38, 39, 40] rfl (qbA [_, _, _, _] _ (pS [1, 1, 3, 3] _) ?_))))))
 exact o _ _ _ oa ⟨(i11 + 1), r32.2.1, r32.2.2, rfl, rfl, rfl, oa, hr⟩
 refine qab [0, 3, 5, 6, 7, 12, 38, 39, 40, 67, 68, 69] rfl (qR (fun n env σ => ∃ (i31 : Nat), n = r30.length - i31 ∧ (env = [(0, .lst (a0.map qu)), (3, .ptr (ql a1)), (5, .map m20_1), (6, .map m20_2), (7, .ref b7_4 0 []), (12, .ptr (.agg [.str q_23.n, .lst (q_23.ts.map zl)])), (38, .lst (a1.fg.map zE)), (39, .int .i64 (a1.fg.length : Int)), (40, .int .i64 (i11 : Int)), (67, .lst (r30.map (D.int .i64))), (68, .int .i64 (r30.length : Int)), (69, .int .i64 (i31 : Int))]) ∧ (σ = [.map m20_1 (zw (D.int .i64) D.bool r1.1), .map m20_2 (zw (D.int .i64) D.bool r1.2), .cell b7_4 (.agg [.int .i64 c12, .map m23_3]), .map m23_3 (zw (D.int .i64) (D.int .i64) m13)]) ∧ (i31 ≤ r30.length) ∧ (qae r r1 (r30.drop i31) = some a)) _ ⟨0, rfl, rfl, rfl, jc _, hr⟩ ?_)
 rintro n _ _ ⟨i31, rfl, rfl, rfl, G, hr⟩ X
 rcases zb r30 i31 G with ⟨H, d, Y⟩ | ⟨q_34, H, d, Z, a9⟩
 rw [d, qae] at hr
 exact fin hr
 rw [d, qae] at hr
 refine st ?_
 refine qy ?_
 refine st0 ?_
 refine qt6 3 ?_
 refine st0 ?_
 refine ze 10 32800 (qd 2 rfl (er rfl (qkk (key := (D.int .i64)) (g := D.bool) r1.1 q_34 false rfl Tryz.underlying187 (yQ Tryz.underlying3) qoV rfl rfl (.head _)) (qd 2 rfl ?_)))
 refine zo 77 rfl hr (fun _ hr => ?_) (fun _ hr => ?_)
 refine qd 2 rfl (er rfl (qkk (key := (D.int .i64)) (g := D.bool) r1.2 q_34 false rfl Tryz.underlying187 (yQ Tryz.underlying3) qoV rfl rfl (.tail _ (.head _))) ?_)
 refine st ?_
 refine zh 82 rfl hr (fun _ hr => ?_) (fun _ hr => ?_)
 exact fin hr
 exact fin hr
 exact fin hr
 refine st ?_
 refine zh 57 rfl hr (fun _ hr => ?_) (fun _ hr => ?_)
 exact fin hr
 refine st0 ?_
 refine ze 7 5120 (qd 4 rfl (rd rfl (qay rfl qhz (.oc rfl (.oc rfl .nil)) (.cons rfl rfl rfl (.cons rfl rfl rfl (.nil _)))) (ew rfl (qau rfl qfI) ?_)))
 rintro _ _ ⟨b12_37, rfl, rfl⟩
 refine qbZ rfl (pf0 _) (qac (qbb 12 b12_37 rfl (pf0 _) ?_))
 refine st ?_
 obtain ⟨r39, h39, hr⟩ := zd hr
 refine qdY rfl qjC (qjG _ _ h39) ?_
 refine st ?_
 obtain ⟨s, I, hr⟩ := exK (fun k => qaD k r1 r39) hr
 refine qct 67 rfl (asl rfl) fun J => ?_
 simp only [jb] at J
 refine qq (fun env σ => env = [(0, .lst (a0.map qu)), (3, .ptr (ql a1)), (5, .map m20_1), (6, .map m20_2), (7, .ref b7_4 0 []), (12, .ptr (.agg [.str q_23.n, .lst (q_23.ts.map zl)])), (38, .lst (a1.fg.map zE)), (39, .int .i64 (a1.fg.length : Int)), (40, .int .i64 (i11 : Int))] ∧ σ = [.map m20_1 (zw (D.int .i64) D.bool r1.1), .map m20_2 (zw (D.int .i64) D.bool r1.2), .cell b7_4 (.agg [.int .i64 c12, .map m23_3]), .map m23_3 (zw (D.int .i64) (D.int .i64) m13)] ∧ s = some a) ?_ (fun b5 => ?_)
 rintro _ _ ⟨rfl, rfl, hr⟩
 rw [I] at hr
 refine qai (ze 4 16 (qd 2 rfl ?_))
 obtain ⟨r41, h41, hr⟩ := zd hr
 refine ew rfl (qiP _ rfl qje (.oc rfl (.oc rfl (.oc rfl (.oc rfl .nil)))) (by exact (pS [3, 3] _)) (qhT fuel _ _ _ _ _ _ _ _ h41)) ?_
 rintro _ _ ⟨_, ⟨rfl, rfl⟩, rfl⟩
 refine y7 ((.cell b7_4 (.agg [.int .i64 r41.2.1, .map m23_3])) :: (.map m23_3 (zw (D.int .i64) (D.int .i64) r41.2.2)) :: _) rfl ?_
 refine st ?_
 refine zh 87 rfl hr (fun _ hr => ?_) (fun _ hr => ?_)
 exact fin hr
 refine qyc 3 rfl (ze 2 0 (qnL rfl (qd 1 rfl (qac (qab [0, 3, 5, 6, 7, 38, 39, 40] rfl (qbA [_, _, _, _] _ (pS [1, 1, 3, 3] _) ?_))))))
 exact o _ _ _ oa ⟨(i11 + 1), r41.2.1, r41.2.2, rfl, rfl, rfl, oa, hr⟩
 refine qab [0, 3, 5, 6, 7, 12, 38, 39, 40, 67, 68, 69] rfl (qR (fun n env σ => ∃ (i40 : Nat), n = r39.length - i40 ∧ (env = [(0, .lst (a0.map qu)), (3, .ptr (ql a1)), (5, .map m20_1), (6, .map m20_2), (7, .ref b7_4 0 []), (12, .ptr (.agg [.str q_23.n, .lst (q_23.ts.map zl)])), (38, .lst (a1.fg.map zE)), (39, .int .i64 (a1.fg.length : Int)), (40, .int .i64 (i11 : Int)), (67, .lst (r39.map (D.int .i64))), (68, .int .i64 (r39.length : Int)), (69, .int .i64 (i40 : Int))]) ∧ (σ = [.map m20_1 (zw (D.int .i64) D.bool r1.1), .map m20_2 (zw (D.int .i64) D.bool r1.2), .cell b7_4 (.agg [.int .i64 c12, .map m23_3]), .map m23_3 (zw (D.int .i64) (D.int .i64) m13)]) ∧ (i40 ≤ r39.length) ∧ (qaD s r1 (r39.drop i40) = some a)) _ ⟨0, rfl, rfl, rfl, jc _, hr⟩ ?_)
 rintro n _ _ ⟨i40, rfl, rfl, rfl, L, hr⟩ b6
 rcases zb r39 i40 L with ⟨M, e, b8⟩ | ⟨q_43, M, e, b9, c4⟩
 rw [e, qaD] at hr
 exact fin hr
 rw [e, qaD] at hr
 refine st ?_
 refine qy ?_
 refine st0 ?_
 refine qt6 3 ?_
 refine st0 ?_
 refine ze 10 32800 (qd 2 rfl (er rfl (qkk (key := (D.int .i64)) (g := D.bool) r1.1 q_43 false rfl Tryz.underlying187 (yQ Tryz.underlying3) qoV rfl rfl (.head _)) (qd 2 rfl ?_)))
 refine zo 77 rfl hr (fun _ hr => ?_) (fun _ hr => ?_)
 refine qd 2 rfl (er rfl (qkk (key := (D.int .i64)) (g := D.bool) r1.2 q_43 false rfl Tryz.underlying187 (yQ Tryz.underlying3) qoV rfl rfl (.tail _ (.head _))) ?_)
 refine st ?_
 refine zh 82 rfl hr (fun _ hr => ?_) (fun _ hr => ?_)
 exact fin hr
 exact fin hr
 exact fin hr
 refine qab [0, 3, 5, 6, 7, 26, 27, 28] rfl (qbA [_, _, _, _] _ (pS [1, 1, 3, 3] _) (qR (fun n env σ => ∃ (i6 : Nat) (c7 : Int) (m8 : List (Int × Int)), n = a1.ff.length - i6 ∧ (env = [(0, .lst (a0.map qu)), (3, .ptr (ql a1)), (5, .map m20_1), (6, .map m20_2), (7, .ref b7_4 0 []), (26, .lst (a1.ff.map zY)), (27, .int .i64 (a1.ff.length : Int)), (28, .int .i64 (i6 : Int))]) ∧ (σ = [.map m20_1 (zw (D.int .i64) D.bool r1.1), .map m20_2 (zw (D.int .i64) D.bool r1.2), .cell b7_4 (.agg [.int .i64 c7, .map m23_3]), .map m23_3 (zw (D.int .i64) (D.int .i64) m8)]) ∧ (i6 ≤ a1.ff.length) ∧ (q9 i fuel a0 (a1.ff.drop i6) c7 m8 = some a)) _ ⟨0, 0, [], rfl, rfl, rfl, jc _, hr⟩ ?_))
 rintro n _ _ ⟨i6, c7, m8, rfl, rfl, rfl, N, hr⟩ O
 rcases zb a1.ff i6 N with ⟨P, h, c6⟩ | ⟨q_46, P, h, c8, d4⟩
 rw [h, q9] at hr
 exact fin hr
 rw [h, q9] at hr
 refine st ?_
 refine qy (qai (ze 4 80 ?_))
 refine st ?_
 refine ew rfl (qau rfl qfI) ?_
 rintro _ _ ⟨b9_46, rfl, rfl⟩
 refine qbZ rfl (pf0 _) (qac (qbb 9 b9_46 rfl (pf0 _) (qai (ze 4 16 (qd 2 rfl ?_)))))
 obtain ⟨r48, h48, hr⟩ := zd hr
 refine ew rfl (qiP _ rfl qje (.oc rfl (.oc rfl (.oc rfl (.oc rfl .nil)))) (by exact (pS [3, 3] _)) (qhT fuel _ _ _ _ _ _ _ _ h48)) ?_
 rintro _ _ ⟨_, ⟨rfl, rfl⟩, rfl⟩
 refine y7 ((.cell b7_4 (.agg [.int .i64 r48.2.1, .map m23_3])) :: (.map m23_3 (zw (D.int .i64) (D.int .i64) r48.2.2)) :: _) rfl ?_
 refine st ?_
 refine zh 35 rfl hr (fun _ hr => ?_) (fun _ hr => ?_)
 exact fin hr
 refine qyc 3 rfl (ze 2 0 (qnL rfl (qd 1 rfl (qac (qab [0, 3, 5, 6, 7, 26, 27, 28] rfl (qbA [_, _, _, _] _ (pS [1, 1, 3, 3] _) ?_))))))
 exact O _ _ _ oa ⟨(i6 + 1), r48.2.1, r48.2.2, rfl, rfl, rfl, oa, hr⟩
noncomputable def qbW (k : Option Int) (fuel : Nat) (a1 : List qh) : List qr → Option Int
 | [] =>
 k
 | q_5 :: rest =>
 ((qeN fuel a1 q_5).bind fun r7 =>
 (bif (!r7) then
 some (19)
 else
 (qbW k fuel a1 rest)))
noncomputable def qbc (k : Option Int) (a1 : List qh) : List qB → Option Int
 | [] =>
 k
 | q_9 :: rest =>
 ((qii a1 q_9.fA q_9.fI).bind fun r11 =>
 (bif (!r11.2) then
 some (13)
 else
 (qbc k a1 rest)))
noncomputable def qg4 (fuel : Nat) (a0 : qc) (a1 : List qh) : Option Int :=
 ((qhK a1).bind fun r1 =>
 (bif (!r1) then
 some (2)
 else
 (qbc ((qbW (some (0)) fuel a1 a0.fd)) a1 a0.fx)))
theorem qtR (fuel : Nat) (a0 : qc) (a1 : List qh) (a : Int) (hr : qg4 fuel a0 a1 = some a) : zf Tryz.prog 45 [qi a0, .lst (a1.map qu)] (.int .i64 a) := by
 unfold qg4 at hr
 refine qx Tryz.func45 rfl fun K q r => ?_
 refine st ?_
 refine rd rfl (qcG rfl rfl rfl) ?_
 refine st ?_
 refine zj hr rfl qtw (qtU _) (fun r1 h1 hr => ?_)
 refine st ?_
 refine zh 13 rfl hr (fun _ hr => ?_) (fun _ hr => ?_)
 exact fin hr
 refine st ?_
 obtain ⟨d, g, hr⟩ := exK (fun k => qbc k a1 a0.fx) hr
 refine qct 15 rfl (asl rfl) fun h => ?_
 simp only [jb] at h
 refine qq (fun env σ => env = [(1, .lst (a1.map qu)), (2, .ptr (qi a0))] ∧ σ = [] ∧ d = some a) ?_ (fun s => ?_)
 rintro _ _ ⟨rfl, rfl, hr⟩
 rw [g] at hr
 refine st ?_
 obtain ⟨e, i, hr⟩ := exK (fun k => qbW k fuel a1 a0.fd) hr
 refine qct 34 rfl (asl rfl) fun j => ?_
 simp only [jb] at j
 refine qq (fun env σ => env = [] ∧ σ = [] ∧ e = some a) ?_ (fun t => ?_)
 rintro _ _ ⟨rfl, rfl, hr⟩
 rw [i] at hr
 exact fin hr
 refine qab [1, 34, 35, 36] rfl (qR (fun n env σ => ∃ (i4 : Nat), n = a0.fd.length - i4 ∧ (env = [(1, .lst (a1.map qu)), (34, .lst (a0.fd.map ql)), (35, .int .i64 (a0.fd.length : Int)), (36, .int .i64 (i4 : Int))]) ∧ (σ = []) ∧ (i4 ≤ a0.fd.length) ∧ (qbW e fuel a1 (a0.fd.drop i4) = some a)) _ ⟨0, rfl, rfl, rfl, jc _, hr⟩ ?_)
 rintro n _ _ ⟨i4, rfl, rfl, rfl, l, hr⟩ u
 rcases zb a0.fd i4 l with ⟨m, b, v⟩ | ⟨q_5, m, b, w, x⟩
 rw [b, qbW] at hr
 exact fin hr
 rw [b, qbW] at hr
 refine st ?_
 refine qy (qai (ze 4 80 ?_))
 refine st ?_
 refine ew rfl (qau rfl qhr) ?_
 rintro _ _ ⟨b10_5, rfl, rfl⟩
 refine qbZ rfl (pf0 _) (qac (qbb 10 b10_5 rfl (pf0 _) ?_))
 refine st ?_
 refine zj hr rfl qoF (qoM fuel _ _) (fun r7 h7 hr => ?_)
 refine st ?_
 refine zh 43 rfl hr (fun _ hr => ?_) (fun _ hr => ?_)
 exact fin hr
 exact fin hr
 refine qab [1, 2, 15, 16, 17] rfl (qR (fun n env σ => ∃ (i3 : Nat), n = a0.fx.length - i3 ∧ (env = [(1, .lst (a1.map qu)), (2, .ptr (qi a0)), (15, .lst (a0.fx.map qD)), (16, .int .i64 (a0.fx.length : Int)), (17, .int .i64 (i3 : Int))]) ∧ (σ = []) ∧ (i3 ≤ a0.fx.length) ∧ (qbc d a1 (a0.fx.drop i3) = some a)) _ ⟨0, rfl, rfl, rfl, jc _, hr⟩ ?_)
 rintro n _ _ ⟨i3, rfl, rfl, rfl, o, hr⟩ y
 rcases zb a0.fx i3 o with ⟨p, c, z⟩ | ⟨q_9, p, c, A, B⟩
 rw [c, qbc] at hr
 exact fin hr
 rw [c, qbc] at hr
 refine st ?_
 refine qy (qai (ze 4 80 ?_))
 refine st ?_
 refine ew rfl (qau rfl qmj) ?_
 rintro _ _ ⟨b6_9, rfl, rfl⟩
 refine qbZ rfl (pf0 _) (qac (qbb 6 b6_9 rfl (pf0 _) (qai (ze 12 1310720 (qd 5 rfl ?_)))))
 refine zj hr rfl qo6 (qpj _ _ _) (fun r11 h11 hr => ?_)
 refine qd 3 rfl (ew rfl (qau rfl qg9) ?_)
 rintro _ _ ⟨b7_11, rfl, rfl⟩
 refine qbZ rfl (pf0 _) (qd 1 rfl (qac (qbb 7 b7_11 rfl (pf0 _) ?_)))
 refine st ?_
 refine zh 31 rfl hr (fun _ hr => ?_) (fun _ hr => ?_)
 exact fin hr
 exact fin hr
noncomputable def qfY (a0 : Int) (t1_a1 : Int) : Option Bool :=
 (bif (decide (a0 < (0 : Int))) then
 some (true)
 else
 some ((decide (a0 > t1_a1))))
theorem qnM (a0 : Int) (t1_a1 : Int) (a : Bool) (hr : qfY a0 t1_a1 = some a) : zf Tryz.prog 84 [.int .i64 a0, .ptr (.int .i64 t1_a1)] (.bool a) := by
 unfold qfY at hr
 refine qx Tryz.func84 rfl fun K b c => ?_
 refine st ?_
 refine zo 6 rfl hr (fun _ hr => ?_) (fun _ hr => ?_)
 exact fin hr
 exact fin hr
noncomputable def qbE (k : Option Int) (f_a1_c0 : Int) : List Int → Nat → Option Int
 | [], i1 =>
 k
 | q_2 :: rest, i1 =>
 ((qfY q_2 f_a1_c0).bind fun r3 =>
 (bif r3 then
 some ((i1 : Int))
 else
 (qbE k f_a1_c0 rest (i1 + 1))))
noncomputable def qf2 (a0 : List Int) (f_a1_c0 : Int) : Option Int :=
 (qbE (some ((-1))) f_a1_c0 a0 0)
theorem qmP (a0 : List Int) (f_a1_c0 : Int) (a : Int) (hr : qf2 a0 f_a1_c0 = some a) : zf Tryz.prog 120 [.lst (a0.map (D.int .i64)), .clo (.func 84) [] [.ptr (.int .i64 f_a1_c0)]] (.int .i64 a) := by
 unfold qf2 at hr
 refine qx Tryz.func120 rfl fun K i j => ?_
 refine st ?_
 obtain ⟨c, d, hr⟩ := exK (fun k => qbE k f_a1_c0 a0 0) hr
 refine qct 0 rfl (asl rfl) fun e => ?_
 simp only [jb] at e
 refine qq (fun env σ => env = [] ∧ σ = [] ∧ c = some a) ?_ (fun l => ?_)
 rintro _ _ ⟨rfl, rfl, hr⟩
 rw [d] at hr
 exact fin hr
 refine qab [0, 1, 7, 8] rfl (qR (fun n env σ => ∃ (i1 : Nat), n = a0.length - i1 ∧ (env = [(0, .lst (a0.map (D.int .i64))), (1, .clo (.func 84) [] [.ptr (.int .i64 f_a1_c0)]), (7, .int .i64 (a0.length : Int)), (8, .int .i64 (i1 : Int))]) ∧ (σ = []) ∧ (i1 ≤ a0.length) ∧ (qbE c f_a1_c0 (a0.drop i1) i1 = some a)) _ ⟨0, rfl, rfl, rfl, jc _, hr⟩ ?_)
 rintro n _ _ ⟨i1, rfl, rfl, rfl, g, hr⟩ m
 rcases zb a0 i1 g with ⟨h, b, o⟩ | ⟨q_2, h, b, p, q⟩
 rw [b, qbE] at hr
 exact fin hr
 rw [b, qbE] at hr
 refine st ?_
 refine qy ?_
 refine st ?_
 obtain ⟨r3, h3, hr⟩ := zd hr
 refine rd rfl (qpF rfl rfl qn0 (.oc rfl .nil) rfl (qnM _ _ _ h3)) (qac ?_)
 refine zh 16 rfl hr (fun _ hr => ?_) (fun _ hr => ?_)
 exact fin hr
 exact fin hr
noncomputable def qft (a0 : List Int) (f_a1_c0 : Int) : Option Bool :=
 ((qf2 a0 f_a1_c0).bind fun r1 =>
 some ((decide (r1 ≥ (0 : Int)))))
theorem qld (a0 : List Int) (f_a1_c0 : Int) (a : Bool) (hr : qft a0 f_a1_c0 = some a) : zf Tryz.prog 83 [.lst (a0.map (D.int .i64)), .clo (.func 84) [] [.ptr (.int .i64 f_a1_c0)]] (.bool a) := by
 unfold qft at hr
 refine qx Tryz.func83 rfl fun K b c => ?_
 refine st ?_
 refine zj hr rfl qhx (qmP _ _) (fun r1 h1 hr => ?_)
 exact fin hr
theorem qme (l : List Int) (res : List Int) (hr : zF 8 ([] : (List Int)) l = some res) : Spec Tryz.prog 85 [.lst (l.map (D.int .i64))] [] (fun d σ => ∃ b, d = .arr b 1 0 res.length ∧ σ = [.arr b (res.map (D.int .i64)) 3 1]) := by
 obtain ⟨hb1, hb2, hres⟩ := qqh hr
 obtain rfl : l = res := by simpa using hres.symm
 simp only [jV, ju] at hb1 hb2
 refine qx Tryz.func85 rfl fun K hK hF => ?_
 refine st0 ?_
 refine qt6 1 ?_
 refine st0 ?_
 refine ze 2 4 (qd 1 rfl (ew rfl (qDd rfl qaS rfl (asl rfl) (zbJ (fun _ => rfl))) ?_))
 rintro _ _ ⟨q4, rfl, hq4, rfl⟩
 refine qac ?_
 refine qtW 4 rfl (fun h4 => ?_) (fun h4 => ?_)
 have hn : l = [] := by simpa using hq4 h4
 refine st0 ?_
 refine ze 1 1 (ew rfl (qBv (e := 3) (s := 1) od (.inl rfl)) ?_)
 rintro _ _ ⟨b2, rfl, rfl⟩
 refine qac (qiZ Tryz.func85 rfl ?_)
 exact ⟨_, by rw [hn]; rfl, by rw [hn]; rfl⟩
 refine st0 ?_
 refine ze 4 16 (rd rfl (qDU rfl qaS rfl) (qd 1 rfl (ew rfl (qAW rfl qaS rfl rfl (asl rfl) (zbJ (fun _ => rfl)) (by rw [jb]; exact hb1)) ?_)))
 rintro _ _ ⟨b7, rfl, rfl⟩
 refine st ?_
 refine qiZ Tryz.func85 rfl ?_
 exact ⟨_, by simp [yI], rfl⟩
noncomputable def qdf (k : Option ((List Int) × Bool)) (a1 : Int) : Nat → List Int → Option ((List Int) × Bool)
 | 0, a6 =>
 k
 | k7 + 1, a6 =>
 ((zi a6 (k7 : Int)).bind fun q_8 =>
 (bif (decide (q_8 < a1)) then
 some ((a6.set (k7 : Int).toNat (wr (q_8 + (1 : Int)))), true)
 else
 (qdf k a1 k7 (a6.set (k7 : Int).toNat 0))))
noncomputable def qeR (a0 : List Int) (a1 : Int) : Option ((List Int) × Bool) :=
 ((qft a0 a1).bind fun r1 =>
 (bif r1 then
 some ([], false)
 else
 ((zF 8 [] a0).bind fun l3 =>
 ((zab (wr ((l3.length : Int) - (1 : Int)))).bind fun m10 =>
 (qdf (some ([], false)) a1 m10 l3)))))
theorem qjd (a0 : List Int) (a1 : Int) (a : (List Int) × Bool) (hr : qeR a0 a1 = some a) : zf Tryz.prog 40 [.lst (a0.map (D.int .i64)), .int .i64 a1] (.tup [.lst (a.1.map (D.int .i64)), .bool a.2]) := by
 unfold qeR at hr
 refine qx Tryz.func40 rfl fun K h i => ?_
 refine st ?_
 refine rd rfl (qcG rfl rfl rfl) ?_
 refine st ?_
 refine rd rfl (qoY rfl rfl rfl) ?_
 refine zj hr rfl qgN (qld _ _) (fun r1 h1 hr => ?_)
 refine qac ?_
 refine zh 10 rfl hr (fun _ hr => ?_) (fun _ hr => ?_)
 refine st ?_
 cases hr
 refine qaw Tryz.func40 _ (.cons (za rfl (Wk.full _)) (.cons (za rfl (Wk.refl _)) .nil)) ?_
 rfl
 refine st0 ?_
 refine ze 3 4 (qd 1 rfl ?_)
 obtain ⟨l3, h3, hr⟩ := zd hr
 refine ew rfl (qiP _ rfl qmH (.oc rfl .nil) (by exact List.Perm.refl _) (qme a0 _ h3)) ?_
 rintro _ _ ⟨_, ⟨b12_3, rfl, rfl⟩, rfl⟩
 refine y7 ((.arr b12_3 (l3.map (D.int .i64)) 3 1) :: _) rfl ?_
 refine st ?_
 refine rd rfl (qD7 rfl Tryz.underlying60 rfl) (rd rfl (qeg rfl rfl rfl rfl) ?_)
 refine st ?_
 obtain ⟨m10, h10, hr⟩ := zd hr
 have hm_10' := qlZ h10
 obtain ⟨d, e, hr⟩ := exK (fun k => qdf k a1 m10 l3) hr
 refine qq (fun env σ => env = [] ∧ σ = [] ∧ d = some a) ?_ (fun g => ?_)
 rintro _ _ ⟨rfl, rfl, hr⟩
 rw [e] at hr
 refine st ?_
 cases hr
 refine qaw Tryz.func40 _ (.cons (za rfl (Wk.full _)) (.cons (za rfl (Wk.refl _)) .nil)) ?_
 rfl
 refine qr7 7 (d' := .int .i64 ((m10 : Int) - 1)) rfl (congrArg (D.int .i64) hm_10') (qab [3, 6, 7] rfl (qR (fun n env σ => ∃ (i5 : Nat) (a6 : List Int), (i5 = n) ∧ (env = [(3, .ptr (.int .i64 a1)), (6, .arr b12_3 1 0 l3.length), (7, .int .i64 ((i5 : Int) - 1))]) ∧ (σ = [.arr b12_3 (a6.map (D.int .i64)) 3 1]) ∧ (a6.length = l3.length) ∧ (qdf d a1 i5 a6 = some a)) _ ⟨m10, l3, rfl, rfl, rfl, rfl, hr⟩ ?_))
 rintro n _ _ ⟨i5, a6, rfl, rfl, rfl, hl_a_6, hr⟩ j
 refine qou 7 rfl fun m => ?_
 rcases yT i5 with ⟨b, c⟩ | ⟨k7, b, c⟩
 rw [b, qdf] at hr
 refine qai (qai (ze 2 0 (qd 2 rfl (qac (qvN 17 false rfl c (qhR rfl (qnJ rfl (qab [] rfl (qbA [] _ (pf0 _) ?_)))))))))
 exact g _ _ ⟨rfl, rfl, hr⟩
 rw [b, qdf] at hr
 have c : decide ((k7 : Int) ≥ (0 : Int)) = true := decide_eq_true oa
 refine qr7 7 (d' := .int .i64 (k7 : Int)) rfl (by subst b; congr 1; omega) ?_
 refine st ?_
 refine qy ?_
 refine st ?_
 refine qdH 6 128 (qd 2 rfl ?_)
 obtain ⟨q_8, h8, hr⟩ := zd hr
 have hq_8_n := (qbV h8).2
 refine rd rfl (qh7 a6 rfl qaS rfl rfl h8 hl_a_6) (er rfl (qq9 rfl rfl (.head _) (zao hq_8_n) rfl rfl (by exact qfj) rfl) ?_)
 refine st ?_
 refine zh 25 rfl hr (fun _ hr => ?_) (fun _ hr => ?_)
 refine st0 ?_
 refine ze 7 4224 (qd 2 rfl ?_)
 have hq_8_n := (qbV h8).2
 refine rd rfl (qh7 a6 rfl qaS rfl rfl h8 hl_a_6) (er rfl (qq9 rfl rfl (.head _) (zao hq_8_n) rfl rfl (by exact qfj) rfl) (rd rfl (qeg rfl rfl rfl rfl) ?_))
 have hq_8_n := (qbV h8).2
 refine rd rfl (qh7 a6 rfl qaS rfl rfl h8 hl_a_6) (z9 rfl (qs2 _ rfl rfl rfl (Wk.refl _) (pf0 _) (zao hq_8_n) rfl rfl rfl (by exact qfj) rfl rfl rfl) (y7 [.arr b12_3 ((a6.set (k7 : Int).toNat (wr (q_8 + (1 : Int)))).map (D.int .i64)) 3 1] (by simp [List.map_set, qoB]) ?_))
 refine st ?_
 refine qnT (l := (a6.set (k7 : Int).toNat (wr (q_8 + (1 : Int)))).map (D.int .i64)) 4 rfl (pf0 _) (by rw [jb]; exact Eq.symm (List.length_set.trans hl_a_6)) ?_
 exact fin hr
 refine st0 ?_
 refine ze 4 64 (qd 2 rfl ?_)
 have hq_8_n := (qbV h8).2
 refine rd rfl (qh7 a6 rfl qaS rfl rfl h8 hl_a_6) (z9 rfl (qs2 _ rfl rfl rfl (Wk.refl _) (pf0 _) (zao hq_8_n) rfl rfl rfl (by exact qfj) rfl rfl rfl) (y7 [.arr b12_3 ((a6.set (k7 : Int).toNat 0).map (D.int .i64)) 3 1] (by simp [List.map_set, qoB]) ?_))
 refine st ?_
 refine rd rfl (zbs (r := (k7 : Int) - 1) rfl rfl rfl rfl oa) ?_
 have hls : (a6.set (k7 : Int).toNat 0).length = l3.length := List.length_set.trans hl_a_6
 exact fin hr
noncomputable def qbU (k : Option ((List qh) × Int)) (fuel : Nat) (a1 : Int) (a0 : qc) : Nat → List Int → Bool → Option ((List qh) × Int)
 | 0, d8, m9 =>
 none
 | rest + 1, d8, m9 =>
 (bif m9 then
 ((qe9 a0.fx d8).bind fun r11 =>
 ((qg4 fuel a0 r11).bind fun r12 =>
 (bif (r12 == (0 : Int)) then
 some (r11, 0)
 else
 ((qeR d8 a1).bind fun r14 =>
 (qbU k fuel a1 a0 rest r14.1 r14.2)))))
 else
 k)
noncomputable def qep (fuel : Nat) (a0 : qc) (a1 : Int) : Option ((List qh) × Int) :=
 ((qhj a0.fx).bind fun r1 =>
 (bif (!r1.2) then
 some ([], 2)
 else
 (bif (decide (r1.1 > (8 : Int))) then
 some ([], 6)
 else
 (bif (decide (a1 < (1 : Int))) then
 some ([], 6)
 else
 (bif (decide (a1 > (3 : Int))) then
 some ([], 6)
 else
 ((zai 8 r1.1).bind fun n6 =>
 (qbU (some ([], 13)) fuel a1 a0 fuel (List.replicate n6 0) true)))))))
theorem qjb (fuel : Nat) (a0 : qc) (a1 : Int) (a : (List qh) × Int) (hr : qep fuel a0 a1 = some a) : zf Tryz.prog 15 [qi a0, .int .i64 a1] (.tup [.lst (a.1.map qu), .int .i64 a.2]) := by
 unfold qep at hr
 refine qx Tryz.func15 rfl fun K d e => ?_
 refine st ?_
 refine rd rfl (qcG rfl rfl rfl) ?_
 refine st ?_
 refine zj hr rfl qot (qn2 _) (fun r1 h1 hr => ?_)
 refine st ?_
 refine qy ?_
 refine st ?_
 refine zh 17 rfl hr (fun _ hr => ?_) (fun _ hr => ?_)
 refine st ?_
 cases hr
 refine qaw Tryz.func15 _ (.cons (za rfl (Wk.full _)) (.cons (za rfl (Wk.refl _)) .nil)) ?_
 rfl
 refine st ?_
 refine zo 23 rfl hr (fun _ hr => ?_) (fun _ hr => ?_)
 refine st ?_
 cases hr
 refine qaw Tryz.func15 _ (.cons (za rfl (Wk.full _)) (.cons (za rfl (Wk.refl _)) .nil)) ?_
 rfl
 refine qd 4 rfl ?_
 refine zo 27 rfl hr (fun _ hr => ?_) (fun _ hr => ?_)
 refine st ?_
 cases hr
 refine qaw Tryz.func15 _ (.cons (za rfl (Wk.full _)) (.cons (za rfl (Wk.refl _)) .nil)) ?_
 rfl
 refine st ?_
 refine zh 20 rfl hr (fun _ hr => ?_) (fun _ hr => ?_)
 refine st ?_
 cases hr
 refine qaw Tryz.func15 _ (.cons (za rfl (Wk.full _)) (.cons (za rfl (Wk.refl _)) .nil)) ?_
 rfl
 refine st0 ?_
 refine ze 3 4 (qd 1 rfl ?_)
 obtain ⟨n6, h6, hr⟩ := zd hr
 refine ew rfl (quU (f := (D.int .i64)) 0 rfl qaS qEx rfl rfl h6) ?_
 rintro _ _ ⟨b32_6, rfl, rfl⟩
 refine st ?_
 refine qnT (l := (List.replicate n6 0).map (D.int .i64)) 8 rfl (pf0 _) og ?_
 refine st ?_
 obtain ⟨b, c, hr⟩ := exK (fun k => qbU k fuel a1 a0 fuel (List.replicate n6 0) true) hr
 refine qq (fun env σ => env = [] ∧ σ = [] ∧ b = some a) ?_ (fun g => ?_)
 rintro _ _ ⟨rfl, rfl, hr⟩
 rw [c] at hr
 refine st ?_
 cases hr
 refine qaw Tryz.func15 _ (.cons (za rfl (Wk.full _)) (.cons (za rfl (Wk.refl _)) .nil)) ?_
 rfl
 refine qab [1, 2, 8, 9] rfl (qR (fun n env σ => ∃ (d8 : List Int) (m9 : Bool) (n0 : Nat), (n0 = n) ∧ (env = [(1, .int .i64 a1), (2, .ptr (qi a0)), (8, .lst (d8.map (D.int .i64))), (9, .bool m9)]) ∧ (σ = []) ∧ (qbU b fuel a1 a0 n0 d8 m9 = some a)) _ ⟨(List.replicate n6 0), true, _, rfl, rfl, rfl, hr⟩ ?_)
 rintro n _ _ ⟨d8, m9, n0, rfl, rfl, rfl, hr⟩ h
 cases n0 with
 | zero => rw [qbU] at hr; cases hr
 | succ n0 =>
  rw [qbU] at hr
  refine st ?_
  refine zh 33 rfl hr (fun _ hr => ?_) (fun _ hr => ?_)
  refine st ?_
  refine qy ?_
  refine st ?_
  refine zj hr rfl qkS (qkW _ _) (fun r11 h11 hr => ?_)
  refine st ?_
  refine zj hr rfl qtA (qtR fuel _ _) (fun r12 h12 hr => ?_)
  refine st ?_
  refine zh 47 rfl hr (fun _ hr => ?_) (fun _ hr => ?_)
  exact fin hr
  refine st ?_
  refine zj hr rfl qjc (qjd _ _) (fun r14 h14 hr => ?_)
  exact fin hr
  exact fin hr
noncomputable def qdv (k : Option Bool) (q_4 : qh) : List Int → Nat → Option Bool
 | [], k8 =>
 k
 | q_9 :: rest, k8 =>
 ((zi q_4.fp (k8 : Int)).bind fun q_10 =>
 (bif (q_9 != q_10) then
 some (false)
 else
 (qdv k q_4 rest (k8 + 1))))
noncomputable def qdw (k : Option Bool) (a1 : List qh) : List qh → Nat → Option Bool
 | [], i2 =>
 k
 | q_3 :: rest, i2 =>
 ((zi a1 (i2 : Int)).bind fun q_4 =>
 (bif (!(q_3.fA.toList == q_4.fA.toList)) then
 some (false)
 else
 (bif (q_3.fL != q_4.fL) then
 some (false)
 else
 (bif ((q_3.fp.length : Int) != (q_4.fp.length : Int)) then
 some (false)
 else
 (qdv ((qdw k a1 rest (i2 + 1))) q_4 q_3.fp 0)))))
noncomputable def qfL (a0 : List qh) (a1 : List qh) : Option Bool :=
 (bif ((a0.length : Int) != (a1.length : Int)) then
 some (false)
 else
 (qdw (some (true)) a1 a0 0))
theorem qiD (a0 : List qh) (a1 : List qh) (a : Bool) (hr : qfL a0 a1 = some a) : zf Tryz.prog 41 [.lst (a0.map qu), .lst (a1.map qu)] (.bool a) := by
 unfold qfL at hr
 refine qx Tryz.func41 rfl fun K q r => ?_
 refine st ?_
 refine zh 11 rfl hr (fun _ hr => ?_) (fun _ hr => ?_)
 exact fin hr
 refine st ?_
 obtain ⟨d, g, hr⟩ := exK (fun k => qdw k a1 a0 0) hr
 refine qct 0 rfl (asl rfl) fun h => ?_
 simp only [jb] at h
 refine qq (fun env σ => env = [] ∧ σ = [] ∧ d = some a) ?_ (fun s => ?_)
 rintro _ _ ⟨rfl, rfl, hr⟩
 rw [g] at hr
 exact fin hr
 refine qab [0, 1, 5] rfl (qR (fun n env σ => ∃ (i2 : Nat), n = a0.length - i2 ∧ (env = [(0, .lst (a0.map qu)), (1, .lst (a1.map qu)), (5, .int .i64 (i2 : Int))]) ∧ (σ = []) ∧ (i2 ≤ a0.length) ∧ (qdw d a1 (a0.drop i2) i2 = some a)) _ ⟨0, rfl, rfl, rfl, jc _, hr⟩ ?_)
 rintro n _ _ ⟨i2, rfl, rfl, rfl, i, hr⟩ t
 rcases zb a0 i2 i with ⟨j, b, u⟩ | ⟨q_3, j, b, v, w⟩
 rw [b, qdw] at hr
 exact fin hr
 rw [b, qdw] at hr
 refine st ?_
 refine qy ?_
 refine st ?_
 refine qdH 39 0 ?_
 refine st ?_
 obtain ⟨q_4, h4, hr⟩ := zd hr
 refine st ?_
 refine rd rfl (qgP rfl rfl rfl rfl) (qd 1 rfl ?_)
 refine zo 29 rfl hr (fun _ hr => ?_) (fun _ hr => ?_)
 exact fin hr
 refine st ?_
 refine zo 42 rfl hr (fun _ hr => ?_) (fun _ hr => ?_)
 exact fin hr
 refine st ?_
 refine zh 56 rfl hr (fun _ hr => ?_) (fun _ hr => ?_)
 exact fin hr
 refine st ?_
 obtain ⟨e, l, hr⟩ := exK (fun k => qdv k q_4 q_3.fp 0) hr
 refine qct 47 rfl (asl rfl) fun m => ?_
 simp only [jb] at m
 refine qq (fun env σ => env = [(0, .lst (a0.map qu)), (1, .lst (a1.map qu)), (5, .int .i64 (i2 : Int))] ∧ σ = [] ∧ e = some a) ?_ (fun x => ?_)
 rintro _ _ ⟨rfl, rfl, hr⟩
 rw [l] at hr
 exact fin hr
 refine qab [0, 1, 5, 6] rfl (qR (fun n env σ => ∃ (k8 : Nat), n = q_3.fp.length - k8 ∧ (env = [(0, .lst (a0.map qu)), (1, .lst (a1.map qu)), (5, .int .i64 (i2 : Int)), (6, .int .i64 (k8 : Int))]) ∧ (σ = []) ∧ (k8 ≤ q_3.fp.length) ∧ (qdv e q_4 (q_3.fp.drop k8) k8 = some a)) _ ⟨0, rfl, rfl, rfl, jc _, hr⟩ ?_)
 rintro n _ _ ⟨k8, rfl, rfl, rfl, o, hr⟩ y
 rcases zb q_3.fp k8 o with ⟨p, c, z⟩ | ⟨q_9, p, c, A, B⟩
 rw [c, qdv] at hr
 exact fin hr
 rw [c, qdv] at hr
 refine st ?_
 refine qy (qai (qdH 17 0 ?_))
 refine st ?_
 obtain ⟨q_10, h10, hr⟩ := zd hr
 refine st ?_
 refine zh 83 rfl hr (fun _ hr => ?_) (fun _ hr => ?_)
 exact fin hr
 exact fin hr
noncomputable def qcL (k : Option Bool) (a1 : List Int) : List Int → Nat → Option Bool
 | [], i2 =>
 k
 | q_3 :: rest, i2 =>
 (bif (decide ((i2 : Int) < (a1.length : Int))) then
 ((zi a1 (i2 : Int)).bind fun q_5 =>
 (bif (q_3 != q_5) then
 some (false)
 else
 (qcL k a1 rest (i2 + 1))))
 else
 k)
noncomputable def qfW (a0 : List Int) (a1 : List Int) : Option Bool :=
 (bif ((a0.length : Int) != (a1.length : Int)) then
 some (false)
 else
 (qcL (some (true)) a1 a0 0))
theorem qkt (a0 : List Int) (a1 : List Int) (a : Bool) (hr : qfW a0 a1 = some a) : zf Tryz.prog 42 [.lst (a0.map (D.int .i64)), .lst (a1.map (D.int .i64))] (.bool a) := by
 unfold qfW at hr
 refine qx Tryz.func42 rfl fun K i j => ?_
 refine st ?_
 refine zh 10 rfl hr (fun _ hr => ?_) (fun _ hr => ?_)
 exact fin hr
 refine st ?_
 obtain ⟨d, e, hr⟩ := exK (fun k => qcL k a1 a0 0) hr
 refine qct 0 rfl (asl rfl) fun g => ?_
 simp only [jb] at g
 refine qq (fun env σ => env = [] ∧ σ = [] ∧ d = some a) ?_ (fun l => ?_)
 rintro _ _ ⟨rfl, rfl, hr⟩
 rw [e] at hr
 exact fin hr
 refine qab [0, 1, 5] rfl (qR (fun n env σ => ∃ (i2 : Nat), n = a0.length - i2 ∧ (env = [(0, .lst (a0.map (D.int .i64))), (1, .lst (a1.map (D.int .i64))), (5, .int .i64 (i2 : Int))]) ∧ (σ = []) ∧ (i2 ≤ a0.length) ∧ (qcL d a1 (a0.drop i2) i2 = some a)) _ ⟨0, rfl, rfl, rfl, jc _, hr⟩ ?_)
 rintro n _ _ ⟨i2, rfl, rfl, rfl, h, hr⟩ m
 rcases zb a0 i2 h with ⟨b, c, o⟩ | ⟨q_3, b, c, p, q⟩
 rw [c, qcL] at hr
 refine qai (qai (ze 10 0 (qd 2 rfl (qjz rfl (qd 2 rfl (qhh 15 false rfl b ?_))))))
 exact fin hr
 rw [c, qcL] at hr
 refine qai (qai (ze 10 0 (qd 2 rfl (qjz rfl (qd 2 rfl (qhh 15 true rfl b ?_))))))
 refine st ?_
 refine zh 20 rfl hr (fun _ hr => ?_) (fun _ hr => ?_)
 refine st ?_
 refine qy (qai (qdH 9 0 ?_))
 refine st ?_
 obtain ⟨q_5, h5, hr⟩ := zd hr
 refine st ?_
 refine zh 31 rfl hr (fun _ hr => ?_) (fun _ hr => ?_)
 exact fin hr
 exact fin hr
 exact fin hr
noncomputable def qK (fuel : Nat) : Option Bool :=
 ((qdc 0).bind fun r1 =>
 ((qcN ⟨#[112]⟩ ⟨#[113]⟩ r1).bind fun r3 =>
 ((qfh ⟨#[102]⟩ [r1]).bind fun r5 =>
 ((qcN ⟨#[112]⟩ ⟨#[112]⟩ r5).bind fun r6 =>
 ((qep fuel (⟨[(⟨⟨#[112]⟩, 1⟩ : qB), (⟨⟨#[113]⟩, 1⟩ : qB)], [r3]⟩ : qc) 2).bind fun r8 =>
 ((qep fuel (⟨[(⟨⟨#[112]⟩, 1⟩ : qB)], [r6]⟩ : qc) 1).bind fun r9 =>
 ((qeR [0, 2, 2] 2).bind fun r10 =>
 ((qeR [2, 2] 2).bind fun r11 =>
 (bif (r8.2 == (0 : Int)) then
 ((qfL r8.1 [(⟨⟨#[112]⟩, 0, [1]⟩ : qh), (⟨⟨#[113]⟩, 0, [0]⟩ : qh)]).bind fun r13 =>
 (bif r13 then
 (bif (r9.2 == (0 : Int)) then
 ((qfL r9.1 [(⟨⟨#[112]⟩, 0, [1]⟩ : qh)]).bind fun r16 =>
 (bif r16 then
 (bif r10.2 then
 ((qfW r10.1 [1, 0, 0]).bind fun r19 =>
 (bif r19 then
 (bif (!r11.2) then
 ((qe9 [(⟨⟨#[112]⟩, 2⟩ : qB)] [1]).bind fun r22 =>
 some (((r22.length : Int) == (1 : Int))))
 else
 some (false))
 else
 some (false)))
 else
 some (false))
 else
 some (false)))
 else
 some (false))
 else
 some (false)))
 else
 some (false))))))))))
theorem qb8 (fuel : Nat) (a : Bool) (hr : qK fuel = some a) : zf Tryz.prog 14 [] (.bool a) := by
 unfold qK at hr
 refine qx Tryz.func14 rfl fun K b c => ?_
 refine st0 ?_
 refine qt6 1 ?_
 refine st0 ?_
 refine ze 3 20 ?_
 refine zj hr rfl qf7 (qf4 _) (fun r1 h1 hr => ?_)
 refine ew rfl (qau rfl qd8) ?_
 rintro _ _ ⟨b1_1, rfl, rfl⟩
 refine qbZ rfl (pf0 _) (qac (qbb 1 b1_1 rfl (pf0 _) (qai (ze 4 80 (qd 1 rfl ?_)))))
 refine zj hr rfl qiy (qil _ _ _) (fun r3 h3 hr => ?_)
 refine ew rfl (qau rfl qhr) ?_
 rintro _ _ ⟨b2_3, rfl, rfl⟩
 refine qbZ rfl (pf0 _) (qac (qbb 2 b2_3 rfl (pf0 _) (qai (ze 6 1280 (qd 1 rfl (rd rfl (qet (f := zl) [.tmp 15] [r1] rfl qbg rfl rfl od od (.oc rfl .nil) qc2 (fun _ => rfl)) ?_))))))
 obtain ⟨r5, h5, hr⟩ := zd hr
 refine rd rfl (by exact qhg rfl qmV (.oc rfl (.cons rfl (Wk.full _) .nil)) (qmX _ _ _ h5)) ?_
 refine zj hr rfl qiy (qil _ _ _) (fun r6 h6 hr => ?_)
 refine ew rfl (qau rfl qhr) ?_
 rintro _ _ ⟨b3_6, rfl, rfl⟩
 refine qbZ rfl (pf0 _) (qac (qbb 3 b3_6 rfl (pf0 _) ?_))
 refine st ?_
 refine rd rfl (qay rfl qkp (.oc rfl (.oc rfl .nil)) (.cons rfl rfl rfl (.cons rfl rfl rfl (.nil _)))) (rd rfl (qay rfl qkp (.oc rfl (.oc rfl .nil)) (.cons rfl rfl rfl (.cons rfl rfl rfl (.nil _)))) (rd rfl (qet (f := qD) [.tmp 20, .tmp 21] [(⟨⟨#[112]⟩, 1⟩ : qB), (⟨⟨#[113]⟩, 1⟩ : qB)] rfl qiH rfl rfl od od (.oc rfl (.oc rfl .nil)) qg5 (fun _ => rfl)) (qd 1 rfl (rd rfl (qet (f := ql) [.tmp 23] [r3] rfl qmm rfl rfl od od (.oc rfl .nil) qiG (fun _ => rfl)) (rd rfl (qay rfl qnG (.cons rfl (Wk.full _) (.cons rfl (Wk.full _) .nil)) (.cons rfl rfl rfl (.cons rfl rfl rfl (.nil _)))) ?_)))))
 refine zj hr rfl qjk (qjb fuel _ _) (fun r8 h8 hr => ?_)
 refine st ?_
 refine rd rfl (qay rfl qkp (.oc rfl (.oc rfl .nil)) (.cons rfl rfl rfl (.cons rfl rfl rfl (.nil _)))) (rd rfl (qet (f := qD) [.tmp 30] [(⟨⟨#[112]⟩, 1⟩ : qB)] rfl qiH rfl rfl od od (.oc rfl .nil) qg5 (fun _ => rfl)) (qd 1 rfl (rd rfl (qet (f := ql) [.tmp 32] [r6] rfl qmm rfl rfl od od (.oc rfl .nil) qiG (fun _ => rfl)) (rd rfl (qay rfl qnG (.cons rfl (Wk.full _) (.cons rfl (Wk.full _) .nil)) (.cons rfl rfl rfl (.cons rfl rfl rfl (.nil _)))) ?_))))
 refine zj hr rfl qjk (qjb fuel _ _) (fun r9 h9 hr => ?_)
 refine st ?_
 refine rd rfl (qet (f := (D.int .i64)) [.const (.int .i64 (0)), .const (.int .i64 (2)), .const (.int .i64 (2))] [0, 2, 2] rfl qaS rfl rfl od od (.oc rfl (.oc rfl (.oc rfl .nil))) (fun _ => rfl) (fun _ => rfl)) ?_
 obtain ⟨r10, h10, hr⟩ := zd hr
 refine rd rfl (by exact qhg rfl qjc (.cons rfl (Wk.full _) (.oc rfl .nil)) (qjd _ _ _ h10)) ?_
 refine st ?_
 refine rd rfl (qet (f := (D.int .i64)) [.const (.int .i64 (2)), .const (.int .i64 (2))] [2, 2] rfl qaS rfl rfl od od (.oc rfl (.oc rfl .nil)) (fun _ => rfl) (fun _ => rfl)) ?_
 obtain ⟨r11, h11, hr⟩ := zd hr
 refine rd rfl (by exact qhg rfl qjc (.cons rfl (Wk.full _) (.oc rfl .nil)) (qjd _ _ _ h11)) ?_
 refine st ?_
 refine zo 50 rfl hr (fun _ hr => ?_) (fun _ hr => ?_)
 refine qd 1 rfl (rd rfl (qet (f := (D.int .i64)) [.const (.int .i64 (1))] [1] rfl qaS rfl rfl od od (.oc rfl .nil) (fun _ => rfl) (fun _ => rfl)) (rd rfl (qay rfl qjg (.oc rfl (.cons rfl (Wk.full _) .nil)) (.cons rfl rfl rfl (.cons rfl rfl rfl (.nil _)))) (rd rfl (qet (f := (D.int .i64)) [.const (.int .i64 (0))] [0] rfl qaS rfl rfl od od (.oc rfl .nil) (fun _ => rfl) (fun _ => rfl)) (rd rfl (qay rfl qjg (.oc rfl (.cons rfl (Wk.full _) .nil)) (.cons rfl rfl rfl (.cons rfl rfl rfl (.nil _)))) (rd rfl (qet (f := qu) [.tmp 53, .tmp 55] [(⟨⟨#[112]⟩, 0, [1]⟩ : qh), (⟨⟨#[113]⟩, 0, [0]⟩ : qh)] rfl qiO rfl rfl od od (.oc rfl (.oc rfl .nil)) qfO (fun _ => rfl)) ?_)))))
 obtain ⟨r13, h13, hr⟩ := zd hr
 refine rd rfl (by exact qhg rfl qiT (.oc rfl (.cons rfl (Wk.full _) .nil)) (qiD _ _ _ h13)) ?_
 refine qd 2 rfl ?_
 refine zo 59 rfl hr (fun _ hr => ?_) (fun _ hr => ?_)
 refine qd 4 rfl ?_
 refine zo 63 rfl hr (fun _ hr => ?_) (fun _ hr => ?_)
 refine qd 1 rfl (rd rfl (qet (f := (D.int .i64)) [.const (.int .i64 (1))] [1] rfl qaS rfl rfl od od (.oc rfl .nil) (fun _ => rfl) (fun _ => rfl)) (rd rfl (qay rfl qjg (.oc rfl (.cons rfl (Wk.full _) .nil)) (.cons rfl rfl rfl (.cons rfl rfl rfl (.nil _)))) (rd rfl (qet (f := qu) [.tmp 66] [(⟨⟨#[112]⟩, 0, [1]⟩ : qh)] rfl qiO rfl rfl od od (.oc rfl .nil) qfO (fun _ => rfl)) ?_)))
 obtain ⟨r16, h16, hr⟩ := zd hr
 refine rd rfl (by exact qhg rfl qiT (.oc rfl (.cons rfl (Wk.full _) .nil)) (qiD _ _ _ h16)) ?_
 refine qd 2 rfl ?_
 refine zo 70 rfl hr (fun _ hr => ?_) (fun _ hr => ?_)
 refine qd 3 rfl ?_
 refine zo 73 rfl hr (fun _ hr => ?_) (fun _ hr => ?_)
 refine qd 1 rfl (rd rfl (qet (f := (D.int .i64)) [.const (.int .i64 (1)), .const (.int .i64 (0)), .const (.int .i64 (0))] [1, 0, 0] rfl qaS rfl rfl od od (.oc rfl (.oc rfl (.oc rfl .nil))) (fun _ => rfl) (fun _ => rfl)) ?_)
 obtain ⟨r19, h19, hr⟩ := zd hr
 refine rd rfl (by exact qhg rfl qko (.oc rfl (.cons rfl (Wk.full _) .nil)) (qkt _ _ _ h19)) ?_
 refine qd 2 rfl ?_
 refine zo 78 rfl hr (fun _ hr => ?_) (fun _ hr => ?_)
 refine qd 4 rfl ?_
 refine zo 82 rfl hr (fun _ hr => ?_) (fun _ hr => ?_)
 refine rd rfl (qay rfl qkp (.oc rfl (.oc rfl .nil)) (.cons rfl rfl rfl (.cons rfl rfl rfl (.nil _)))) (rd rfl (qet (f := qD) [.tmp 83] [(⟨⟨#[112]⟩, 2⟩ : qB)] rfl qiH rfl rfl od od (.oc rfl .nil) qg5 (fun _ => rfl)) (rd rfl (qet (f := (D.int .i64)) [.const (.int .i64 (1))] [1] rfl qaS rfl rfl od od (.oc rfl .nil) (fun _ => rfl) (fun _ => rfl)) ?_))
 obtain ⟨r22, h22, hr⟩ := zd hr
 refine rd rfl (by exact qhg rfl qkS (.cons rfl (Wk.full _) (.cons rfl (Wk.full _) .nil)) (qkW _ _ _ h22)) ?_
 exact fin hr
 exact fin hr
 exact fin hr
 exact fin hr
 exact fin hr
 exact fin hr
 exact fin hr
 exact fin hr
noncomputable def qbJ (k : Option Bool) : List Int → Option Bool
 | [] =>
 k
 | q_5 :: rest =>
 (bif (decide (q_5 < (0 : Int))) then
 some (false)
 else
 (bif (decide (q_5 > (1048576 : Int))) then
 some (false)
 else
 (qbJ k rest)))
noncomputable def qeO (a0 : qh) : Option Bool :=
 (bif (decide (a0.fL < (0 : Int))) then
 some (false)
 else
 (bif (decide (a0.fL > (1048576 : Int))) then
 some (false)
 else
 (bif (decide ((a0.fp.length : Int) > (6 : Int))) then
 some (false)
 else
 (qbJ (some (true)) a0.fp))))
theorem qlM (a0 : qh) (a : Bool) (hr : qeO a0 = some a) : zf Tryz.prog 90 [qu a0] (.bool a) := by
 unfold qeO at hr
 refine qx Tryz.func90 rfl fun K i j => ?_
 refine st ?_
 refine rd rfl (qcG rfl rfl rfl) ?_
 refine st ?_
 refine zo 7 rfl hr (fun _ hr => ?_) (fun _ hr => ?_)
 exact fin hr
 refine qd 5 rfl ?_
 refine zo 12 rfl hr (fun _ hr => ?_) (fun _ hr => ?_)
 exact fin hr
 refine st ?_
 refine zh 17 rfl hr (fun _ hr => ?_) (fun _ hr => ?_)
 exact fin hr
 refine st ?_
 obtain ⟨c, d, hr⟩ := exK (fun k => qbJ k a0.fp) hr
 refine qct 14 rfl (asl rfl) fun e => ?_
 simp only [jb] at e
 refine qq (fun env σ => env = [] ∧ σ = [] ∧ c = some a) ?_ (fun l => ?_)
 rintro _ _ ⟨rfl, rfl, hr⟩
 rw [d] at hr
 exact fin hr
 refine qab [1, 3] rfl (qR (fun n env σ => ∃ (i4 : Nat), n = a0.fp.length - i4 ∧ (env = [(1, .ptr (qu a0)), (3, .int .i64 (i4 : Int))]) ∧ (σ = []) ∧ (i4 ≤ a0.fp.length) ∧ (qbJ c (a0.fp.drop i4) = some a)) _ ⟨0, rfl, rfl, rfl, jc _, hr⟩ ?_)
 rintro n _ _ ⟨i4, rfl, rfl, rfl, g, hr⟩ m
 rcases zb a0.fp i4 g with ⟨h, b, o⟩ | ⟨q_5, h, b, p, q⟩
 rw [b, qbJ] at hr
 exact fin hr
 rw [b, qbJ] at hr
 refine st ?_
 refine qy ?_
 refine st ?_
 refine zo 31 rfl hr (fun _ hr => ?_) (fun _ hr => ?_)
 exact fin hr
 refine st ?_
 refine zh 38 rfl hr (fun _ hr => ?_) (fun _ hr => ?_)
 exact fin hr
 exact fin hr
noncomputable def qcp (k : Option Bool) : List qh → Option Bool
 | [] =>
 k
 | q_2 :: rest =>
 ((qeO q_2).bind fun r3 =>
 (bif (!r3) then
 some (false)
 else
 (qcp k rest)))
noncomputable def qeQ (a0 : List qh) : Option Bool :=
 (qcp (some (true)) a0)
theorem qlo (a0 : List qh) (a : Bool) (hr : qeQ a0 = some a) : zf Tryz.prog 46 [.lst (a0.map qu)] (.bool a) := by
 unfold qeQ at hr
 refine qx Tryz.func46 rfl fun K i j => ?_
 refine st ?_
 obtain ⟨c, d, hr⟩ := exK (fun k => qcp k a0) hr
 refine qct 0 rfl (asl rfl) fun e => ?_
 simp only [jb] at e
 refine qq (fun env σ => env = [] ∧ σ = [] ∧ c = some a) ?_ (fun l => ?_)
 rintro _ _ ⟨rfl, rfl, hr⟩
 rw [d] at hr
 exact fin hr
 refine qab [0, 3] rfl (qR (fun n env σ => ∃ (i1 : Nat), n = a0.length - i1 ∧ (env = [(0, .lst (a0.map qu)), (3, .int .i64 (i1 : Int))]) ∧ (σ = []) ∧ (i1 ≤ a0.length) ∧ (qcp c (a0.drop i1) = some a)) _ ⟨0, rfl, rfl, rfl, jc _, hr⟩ ?_)
 rintro n _ _ ⟨i1, rfl, rfl, rfl, g, hr⟩ m
 rcases zb a0 i1 g with ⟨h, b, o⟩ | ⟨q_2, h, b, p, q⟩
 rw [b, qcp] at hr
 exact fin hr
 rw [b, qcp] at hr
 refine st ?_
 refine qy ?_
 refine st ?_
 refine zj hr rfl qlY (qlM _) (fun r3 h3 hr => ?_)
 refine st ?_
 refine zh 15 rfl hr (fun _ hr => ?_) (fun _ hr => ?_)
 exact fin hr
 exact fin hr
noncomputable def qb1 (k : Option (qh × Bool)) (a2 : Int) (a1 : ByteArray) : List qh → Option (qh × Bool)
 | [] =>
 k
 | q_3 :: rest =>
 (bif (q_3.fA.toList == a1.toList) then
 (bif ((q_3.fp.length : Int) == a2) then
 some (q_3, true)
 else
 (qb1 k a2 a1 rest))
 else
 (qb1 k a2 a1 rest))
noncomputable def qen (a0 : List qh) (a1 : ByteArray) (a2 : Int) : Option (qh × Bool) :=
 (qb1 (some ((⟨⟨#[]⟩, 0, []⟩ : qh), false)) a2 a1 a0)
theorem qiW (a0 : List qh) (a1 : ByteArray) (a2 : Int) (a : qh × Bool) (hr : qen a0 a1 a2 = some a) : zf Tryz.prog 48 [.lst (a0.map qu), .str a1, .int .i64 a2] (.tup [qu a.1, .bool a.2]) := by
 unfold qen at hr
 refine qx Tryz.func48 rfl fun K i j => (qai (ze 2 1 (ew rfl (qau rfl qg9) ?_)))
 rintro _ _ ⟨b6_0, rfl, rfl⟩
 refine st ?_
 obtain ⟨c, d, hr⟩ := exK (fun k => qb1 k a2 a1 a0) hr
 refine qct 0 rfl (asl rfl) fun e => ?_
 simp only [jb] at e
 refine qq (fun env σ => env = [(6, .ref b6_0 0 [])] ∧ σ = [.cell b6_0 (.agg [.str ⟨#[]⟩, .int .i64 0, .lst ([].map (D.int .i64))])] ∧ c = some a) ?_ (fun l => ?_)
 rintro _ _ ⟨rfl, rfl, hr⟩
 rw [d] at hr
 refine qai (ze 3 4 (rd rfl (qay rfl qjg .nil (.nil _)) (qbZ rfl (pf0 _) ?_)))
 refine st ?_
 cases hr
 refine qaw Tryz.func48 _ (.cons (zm rfl (.head _) (by exact qka) rfl (Wk.refl _)) (.cons (za rfl (Wk.refl _)) .nil)) ?_
 rfl
 refine qab [0, 1, 2, 6, 8] rfl (qR (fun n env σ => ∃ (i2 : Nat), n = a0.length - i2 ∧ (env = [(0, .lst (a0.map qu)), (1, .str a1), (2, .int .i64 a2), (6, .ref b6_0 0 []), (8, .int .i64 (i2 : Int))]) ∧ (σ = [.cell b6_0 (.agg [.str ⟨#[]⟩, .int .i64 0, .lst ([].map (D.int .i64))])]) ∧ (i2 ≤ a0.length) ∧ (qb1 c a2 a1 (a0.drop i2) = some a)) _ ⟨0, rfl, rfl, rfl, jc _, hr⟩ ?_)
 rintro n _ _ ⟨i2, rfl, rfl, rfl, g, hr⟩ m
 rcases zb a0 i2 g with ⟨h, b, o⟩ | ⟨q_3, h, b, p, q⟩
 rw [b, qb1] at hr
 exact fin hr
 rw [b, qb1] at hr
 refine st ?_
 refine qy ?_
 refine st ?_
 refine rd rfl (qgP rfl rfl rfl rfl) (qd 1 rfl ?_)
 refine zo 22 rfl hr (fun _ hr => ?_) (fun _ hr => ?_)
 refine st ?_
 refine zh 31 rfl hr (fun _ hr => ?_) (fun _ hr => ?_)
 refine st0 ?_
 refine ze 6 256 ?_
 refine st ?_
 refine qbZ rfl (pf0 _) ?_
 refine st ?_
 cases hr
 refine qaw Tryz.func48 _ (.cons (zm rfl (.head _) (by exact qka) (qfO _) (Wk.refl _)) (.cons (za rfl (Wk.refl _)) .nil)) ?_
 rfl
 exact fin hr
 exact fin hr
noncomputable def qaN (k : Int → Option Int) (a2 : List T) : List Int → Int → Nat → Option Int
 | [], n3, i4 =>
 (k n3)
 | q_6 :: rest, n3, i4 =>
 ((zi a2 (i4 : Int)).bind fun q_7 =>
 ((qsT q_7).bind fun r8 =>
 (qaN k a2 rest (wr (n3 + (wr (q_6 * r8)))) (i4 + 1))))
noncomputable def qdt (a0 : List qh) (a1 : ByteArray) (a2 : List T) : Option Int :=
 ((qen a0 a1 (a2.length : Int)).bind fun r1 =>
 (qaN (fun n5 =>
 some (n5)) a2 r1.1.fp r1.1.fL 0))
theorem qkD (a0 : List qh) (a1 : ByteArray) (a2 : List T) (a : Int) (hr : qdt a0 a1 a2 = some a) : zf Tryz.prog 50 [.lst (a0.map qu), .str a1, .lst (a2.map zl)] (.int .i64 a) := by
 unfold qdt at hr
 refine qx Tryz.func50 rfl fun K i j => ?_
 refine st0 ?_
 refine qt6 1 ?_
 refine st0 ?_
 refine ze 11 327680 ?_
 refine st ?_
 refine zj hr rfl qiC (qiW _ _ _) (fun r1 h1 hr => ?_)
 refine qd 3 rfl (ew rfl (qau rfl qg9) ?_)
 rintro _ _ ⟨b7_1, rfl, rfl⟩
 refine qbZ rfl (pf0 _) (qd 1 rfl (qac (qbb 7 b7_1 rfl (pf0 _) ?_)))
 refine st ?_
 obtain ⟨c, d, hr⟩ := exK (fun k => qaN k a2 r1.1.fp r1.1.fL 0) hr
 refine qCM 17 [2] (l := r1.1.fp.map (D.int .i64)) rfl rfl (asl rfl) fun e => ?_
 simp only [jb] at e
 refine qq (fun env σ => ∃ (n5 : Int), env = [(9, .int .i64 n5)] ∧ σ = [] ∧ c n5 = some a) ?_ (fun m => ?_)
 rintro _ _ ⟨n5, rfl, rfl, hr⟩
 rw [d] at hr
 exact fin hr
 refine qab [2, 7, 9, 10] rfl (qR (fun n env σ => ∃ (n3 : Int) (i4 : Nat), n = r1.1.fp.length - i4 ∧ (env = [(2, .lst (a2.map zl)), (7, .ptr (qu r1.1)), (9, .int .i64 n3), (10, .int .i64 (i4 : Int))]) ∧ (σ = []) ∧ (i4 ≤ r1.1.fp.length) ∧ (qaN c a2 (r1.1.fp.drop i4) n3 i4 = some a)) _ ⟨r1.1.fL, 0, rfl, rfl, rfl, jc _, hr⟩ ?_)
 rintro n _ _ ⟨n3, i4, rfl, rfl, rfl, g, hr⟩ o
 rcases zb r1.1.fp i4 g with ⟨h, b, p⟩ | ⟨q_6, h, b, q, r⟩
 rw [b, qaN] at hr
 exact fin hr
 rw [b, qaN] at hr
 refine st ?_
 refine qy (qdH 14 0 ?_)
 refine st ?_
 obtain ⟨q_7, h7, hr⟩ := zd hr
 refine st ?_
 obtain ⟨r8, h8, hr⟩ := zd hr
 refine qdY rfl qiU (qiM _ _ h8) (rd rfl (qeg rfl rfl rfl rfl) (rd rfl (qeg rfl rfl rfl rfl) ?_))
 exact fin hr
noncomputable def qbP (k : Int → Option (Int × Int)) (fuel : Nat) (a0 : List qh) : List At → Int → Option (Int × Int)
 | [], n3 =>
 (k n3)
 | q_6 :: rest, n3 =>
 ((qj0 q_6).bind fun r7 =>
 (bif (!r7) then
 some (0, 2)
 else
 ((qen a0 q_6.n (q_6.ts.length : Int)).bind fun r9 =>
 (bif (!r9.2) then
 some (0, 13)
 else
 ((qbM fuel q_6).bind fun r12 =>
 (bif (decide ((r12.length : Int) > (0 : Int))) then
 some (0, 17)
 else
 ((qdt a0 q_6.n q_6.ts).bind fun r14 =>
 (qbP k fuel a0 rest (wr (n3 + r14))))))))))
noncomputable def qfB (fuel : Nat) (a0 : List qh) (a1 : List At) : Option (Int × Int) :=
 ((qeQ a0).bind fun r1 =>
 (bif (!r1) then
 some (0, 2)
 else
 (qbP (fun n5 =>
 some (n5, 0)) fuel a0 a1 0)))
theorem qlV (fuel : Nat) (a0 : List qh) (a1 : List At) (a : Int × Int) (hr : qfB fuel a0 a1 = some a) : zf Tryz.prog 16 [.lst (a0.map qu), .lst (a1.map zY)] (.tup [.int .i64 a.1, .int .i64 a.2]) := by
 unfold qfB at hr
 refine qx Tryz.func16 rfl fun K i j => ?_
 refine st ?_
 refine zj hr rfl qlm (qlo _) (fun r1 h1 hr => ?_)
 refine st ?_
 refine zh 12 rfl hr (fun _ hr => ?_) (fun _ hr => ?_)
 exact fin hr
 refine st ?_
 obtain ⟨c, d, hr⟩ := exK (fun k => qbP k fuel a0 a1 0) hr
 refine qct 1 rfl (asl rfl) fun e => ?_
 simp only [jb] at e
 refine qq (fun env σ => ∃ (n5 : Int), env = [(6, .int .i64 n5)] ∧ σ = [] ∧ c n5 = some a) ?_ (fun l => ?_)
 rintro _ _ ⟨n5, rfl, rfl, hr⟩
 rw [d] at hr
 exact fin hr
 refine qab [0, 1, 6, 7] rfl (qR (fun n env σ => ∃ (n3 : Int) (i4 : Nat), n = a1.length - i4 ∧ (env = [(0, .lst (a0.map qu)), (1, .lst (a1.map zY)), (6, .int .i64 n3), (7, .int .i64 (i4 : Int))]) ∧ (σ = []) ∧ (i4 ≤ a1.length) ∧ (qbP c fuel a0 (a1.drop i4) n3 = some a)) _ ⟨0, 0, rfl, rfl, rfl, jc _, hr⟩ ?_)
 rintro n _ _ ⟨n3, i4, rfl, rfl, rfl, g, hr⟩ m
 rcases zb a1 i4 g with ⟨h, b, o⟩ | ⟨q_6, h, b, p, q⟩
 rw [b, qbP] at hr
 exact fin hr
 rw [b, qbP] at hr
 refine st ?_
 refine qy ?_
 refine st ?_
 obtain ⟨r7, h7, hr⟩ := zd hr
 refine qdY rfl qdK (qdM _ _ h7) ?_
 refine st ?_
 refine zh 24 rfl hr (fun _ hr => ?_) (fun _ hr => ?_)
 exact fin hr
 refine st ?_
 refine qdH 19 21474836480 ?_
 refine st ?_
 refine zj hr rfl qiC (qiW _ _ _) (fun r9 h9 hr => ?_)
 refine qd 3 rfl (ew rfl (qau rfl qg9) ?_)
 rintro _ _ ⟨b8_9, rfl, rfl⟩
 refine qbZ rfl (pf0 _) (qd 1 rfl (qac (qbb 8 b8_9 rfl (pf0 _) ?_)))
 refine st ?_
 refine zh 42 rfl hr (fun _ hr => ?_) (fun _ hr => ?_)
 exact fin hr
 refine st ?_
 refine zj hr rfl qf0 (qfU fuel _) (fun r12 h12 hr => ?_)
 refine st ?_
 refine zh 49 rfl hr (fun _ hr => ?_) (fun _ hr => ?_)
 exact fin hr
 refine st ?_
 refine qdH 15 0 ?_
 refine st ?_
 refine zj hr rfl qkC (qkD _ _ _) (fun r14 h14 hr => ?_)
 refine rd rfl (qeg rfl rfl rfl rfl) ?_
 exact fin hr
noncomputable def qA (k : Int → Option Bool) (a0 : qc) : List qv → Int → Option Bool
 | [], n27 =>
 (k n27)
 | q_32 :: rest, n27 =>
 (bif (q_32.fa == (4 : Int)) then
 ((zi a0.fd q_32.fJ).bind fun q_34 =>
 (bif (decide ((q_34.ff.length : Int) > (0 : Int))) then
 (qA k a0 rest (wr (n27 + (1 : Int))))
 else
 (qA k a0 rest n27)))
 else
 (bif (q_32.fa == (5 : Int)) then
 ((zi a0.fd q_32.fJ).bind fun q37 =>
 (bif (decide ((q37.ff.length : Int) > (0 : Int))) then
 (qA k a0 rest (wr (n27 + (1 : Int))))
 else
 (qA k a0 rest n27)))
 else
 (qA k a0 rest n27)))
noncomputable def qam (k : List At → Option Bool) (fuel : Nat) : List Gl → List At → Option Bool
 | [], c15 =>
 (k c15)
 | q_39 :: rest, c15 =>
 (bif (q_39.op != (0 : Int)) then
 ((qK fuel).bind fun r41 =>
 some (r41))
 else
 ((zF 40 c15 [(⟨q_39.n, q_39.ts⟩ : At)]).bind fun l42 =>
 (qam k fuel rest l42)))
noncomputable def qc8 (fuel : Nat) (a0 : qc) (a1 : List Gl) (a2 : Int) : Option Bool :=
 ((qdW fuel a0).bind fun r1 =>
 ((qeU a0 a2).bind fun r2 =>
 (bif (!r2) then
 ((qK fuel).bind fun r4 =>
 some (r4))
 else
 ((qdi a1 6).bind fun r5 =>
 (bif (!r5) then
 ((qK fuel).bind fun r7 =>
 some (r7))
 else
 (bif (r1.2 != (0 : Int)) then
 ((qK fuel).bind fun r9 =>
 some (r9))
 else
 ((qdC fuel a0.fx a1 0).bind fun r10 =>
 (bif (r10 != (0 : Int)) then
 ((qK fuel).bind fun r12 =>
 some (r12))
 else
 (qam (fun c18 =>
 ((qep fuel a0 a2).bind fun r19 =>
 (bif (r19.2 != (0 : Int)) then
 ((qK fuel).bind fun r21 =>
 some (r21))
 else
 ((qfB fuel r19.1 c18).bind fun r22 =>
 (bif (r22.2 != (0 : Int)) then
 some (false)
 else
 ((qeK a1 0).bind fun r24 =>
 ((qfg fuel a0 r24 150).bind fun r25 =>
 (qA (fun n29 =>
 (bif (decide (n29 ≤ r22.1)) then
 ((qK fuel).bind fun r31 =>
 some (r31))
 else
 some (false))) a0 r25.2.1 0)))))))) fuel a1 [])))))))))
theorem qi0 (fuel : Nat) (a0 : qc) (a1 : List Gl) (a2 : Int) (a : Bool) (hr : qc8 fuel a0 a1 a2 = some a) : zf Tryz.prog 4 [qi a0, .lst (a1.map zE), .int .i64 a2] (.bool a) := by
 unfold qc8 at hr
 refine qx Tryz.func4 rfl fun K q r => ?_
 refine st ?_
 refine rd rfl (qcG rfl rfl rfl) ?_
 refine st ?_
 refine zj hr rfl qiq (qig fuel _) (fun r1 h1 hr => ?_)
 refine st ?_
 refine zj hr rfl qlJ (qlP _ _) (fun r2 h2 hr => ?_)
 refine qd 2 rfl ?_
 refine zo 29 rfl hr (fun _ hr => ?_) (fun _ hr => ?_)
 refine st ?_
 refine zj hr rfl qb7 (qb8 fuel) (fun r4 h4 hr => ?_)
 exact fin hr
 refine qd 1 rfl ?_
 refine zj hr rfl qgD (qgL _ _) (fun r5 h5 hr => ?_)
 refine qd 3 rfl ?_
 refine zo 34 rfl hr (fun _ hr => ?_) (fun _ hr => ?_)
 refine st ?_
 refine zj hr rfl qb7 (qb8 fuel) (fun r7 h7 hr => ?_)
 exact fin hr
 refine qd 4 rfl ?_
 refine zo 38 rfl hr (fun _ hr => ?_) (fun _ hr => ?_)
 refine st ?_
 refine zj hr rfl qb7 (qb8 fuel) (fun r9 h9 hr => ?_)
 exact fin hr
 refine qd 3 rfl ?_
 refine zj hr rfl qjF (qjD fuel _ _ _) (fun r10 h10 hr => ?_)
 refine st ?_
 refine zh 44 rfl hr (fun _ hr => ?_) (fun _ hr => ?_)
 refine st ?_
 refine zj hr rfl qb7 (qb8 fuel) (fun r12 h12 hr => ?_)
 exact fin hr
 refine st0 ?_
 refine ze 1 1 (ew rfl (qN 48 2 (.inl rfl)) ?_)
 rintro _ _ ⟨u9_12, rfl, rfl⟩
 refine st ?_
 obtain ⟨d, g, hr⟩ := exK (fun k => qam k fuel a1 []) hr
 refine qct 1 rfl (asl rfl) fun h => ?_
 simp only [jb] at h
 refine qq (fun env σ => ∃ (c18 : List At) (u17 : Value), env = [(1, .lst (a1.map zE)), (2, .int .i64 a2), (3, .ptr (qi a0)), (9, .own u17 (c18.map zY))] ∧ σ = [.row u17 c18.length 48 2] ∧ d c18 = some a) ?_ (fun s => ?_)
 rintro _ _ ⟨c18, u17, rfl, rfl, hr⟩
 rw [g] at hr
 refine st ?_
 refine zj hr rfl qjk (qjb fuel _ _) (fun r19 h19 hr => ?_)
 refine st ?_
 refine zh 80 rfl hr (fun _ hr => ?_) (fun _ hr => ?_)
 refine st ?_
 refine zj hr rfl qb7 (qb8 fuel) (fun r21 h21 hr => ?_)
 exact fin hr
 refine st ?_
 obtain ⟨r22, h22, hr⟩ := zd hr
 refine rd rfl (qhg rfl qlr (.oc rfl (.cons rfl (Wk.own _ _) .nil)) (qlV fuel _ _ _ h22)) ?_
 refine st ?_
 refine zh 89 rfl hr (fun _ hr => ?_) (fun _ hr => ?_)
 exact fin hr
 refine st ?_
 refine qdH 12 327680 (qd 2 rfl ?_)
 refine zj hr rfl qlz (qln _ _) (fun r24 h24 hr => ?_)
 refine zj hr rfl qmL (qmT fuel _ _ _) (fun r25 h25 hr => ?_)
 refine qd 4 rfl (ew rfl (qau rfl qg8) ?_)
 rintro _ _ ⟨b15_25, rfl, rfl⟩
 refine qbZ rfl (pf0 _) (qd 2 rfl (qac (qbb 15 b15_25 rfl (pf0 _) ?_)))
 refine st ?_
 obtain ⟨e, i, hr⟩ := exK (fun k => qA k a0 r25.2.1 0) hr
 refine qct 96 rfl (asl rfl) fun j => ?_
 simp only [jb] at j
 refine qq (fun env σ => ∃ (n29 : Int), env = [(13, .int .i64 r22.1), (18, .int .i64 n29)] ∧ σ = [] ∧ e n29 = some a) ?_ (fun t => ?_)
 rintro _ _ ⟨n29, rfl, rfl, hr⟩
 rw [i] at hr
 refine st ?_
 refine zo 137 rfl hr (fun _ hr => ?_) (fun _ hr => ?_)
 refine zj hr rfl qb7 (qb8 fuel) (fun r31 h31 hr => ?_)
 exact fin hr
 exact fin hr
 refine qab [3, 13, 16, 18, 19] rfl (qbA [] _ (pf0 _) (qR (fun n env σ => ∃ (n27 : Int) (i28 : Nat), n = r25.2.1.length - i28 ∧ (env = [(3, .ptr (qi a0)), (13, .int .i64 r22.1), (16, .lst (r25.2.1.map qL)), (18, .int .i64 n27), (19, .int .i64 (i28 : Int))]) ∧ (σ = []) ∧ (i28 ≤ r25.2.1.length) ∧ (qA e a0 (r25.2.1.drop i28) n27 = some a)) _ ⟨0, 0, rfl, rfl, rfl, jc _, hr⟩ ?_))
 rintro n _ _ ⟨n27, i28, rfl, rfl, rfl, l, hr⟩ u
 rcases zb r25.2.1 i28 l with ⟨m, b, v⟩ | ⟨q_32, m, b, w, x⟩
 rw [b, qA] at hr
 exact fin hr
 rw [b, qA] at hr
 refine st ?_
 refine qy (qai (qdH 28 0 ?_))
 refine st ?_
 refine zo 110 rfl hr (fun _ hr => ?_) (fun _ hr => ?_)
 refine st ?_
 obtain ⟨q_34, h34, hr⟩ := zd hr
 refine st ?_
 refine zh 131 rfl hr (fun _ hr => ?_) (fun _ hr => ?_)
 refine st ?_
 refine rd rfl (qeg rfl rfl rfl rfl) ?_
 exact fin hr
 exact fin hr
 refine st ?_
 refine zo 118 rfl hr (fun _ hr => ?_) (fun _ hr => ?_)
 refine st ?_
 obtain ⟨q37, h37, hr⟩ := zd hr
 refine st ?_
 refine zh 131 rfl hr (fun _ hr => ?_) (fun _ hr => ?_)
 refine st ?_
 refine rd rfl (qeg rfl rfl rfl rfl) ?_
 exact fin hr
 exact fin hr
 exact fin hr
 refine qab [1, 2, 3, 9, 10] rfl (qR (fun n env σ => ∃ (c15 : List At) (i16 : Nat) (u14 : Value), n = a1.length - i16 ∧ (env = [(1, .lst (a1.map zE)), (2, .int .i64 a2), (3, .ptr (qi a0)), (9, .own u14 (c15.map zY)), (10, .int .i64 (i16 : Int))]) ∧ (σ = [.row u14 c15.length 48 2]) ∧ (i16 ≤ a1.length) ∧ (qam d fuel (a1.drop i16) c15 = some a)) _ ⟨[], 0, u9_12, rfl, rfl, rfl, jc _, hr⟩ ?_)
 rintro n _ _ ⟨c15, i16, u14, rfl, rfl, rfl, o, hr⟩ y
 rcases zb a1 i16 o with ⟨p, c, z⟩ | ⟨q_39, p, c, A, B⟩
 rw [c, qam] at hr
 exact fin hr
 rw [c, qam] at hr
 refine st ?_
 refine qy ?_
 refine st ?_
 refine zh 57 rfl hr (fun _ hr => ?_) (fun _ hr => ?_)
 refine st ?_
 refine zj hr rfl qb7 (qb8 fuel) (fun r41 h41 hr => ?_)
 exact fin hr
 refine st ?_
 refine qdH 15 67108864 ?_
 refine st ?_
 refine rd rfl (qay rfl qhz (.oc rfl (.oc rfl .nil)) (.cons rfl rfl rfl (.cons rfl rfl rfl (.nil _)))) (rd rfl (qet (f := zY) [.tmp 70] [(⟨q_39.n, q_39.ts⟩ : At)] rfl qeG rfl rfl od od (.oc rfl .nil) qeW (fun _ => rfl)) ?_)
 obtain ⟨l42, h42, hr⟩ := zd hr
 refine ew rfl (qah (f := zY) c15 [(⟨q_39.n, q_39.ts⟩ : At)] rfl qeG rfl rfl (asl rfl) (pf0 _) rfl qeW h42) ?_
 rintro _ _ ⟨u72_42, rfl, rfl⟩
 exact fin hr
end Go.Proofs.YtamoolpdganckaaGreat
namespace Go.Proofs.YtamoolpdganckaaGreat
set_option maxRecDepth 100000
open Go.ChangeShapes Go.WideShapes Go.ChangeAt Go.RowKit
mutual
def z4 : D → Nat
 | .str s => s.size + 1
 | .agg l => zG l + 1
 | .lst l => zG l + 1
 | _ => 1
def zG : List D → Nat
 | [] => 0
 | d :: l => z4 d + zG l
end
def OpB (N : Nat) (t : TypeId) (n : Nat) (S : D → Prop) : Prop := ∀ (H : Type) (enc : TypeId × Value → H) (W : World) (base : Nat) (sp : Nat → Bool) (hd : Bool) (fuel : Nat) (cs : List Value) (x : DataW H × List MemPlace), fuel < N →
 DataW.trod enc Tryz.prog W base sp hd fuel t cs = some x → ∃ d v, S d ∧ d.plain = true ∧ sz d = n ∧ Rep (live W) W d v ∧ cs = v.cells.toList ∧ z4 d ≤ Rows.uptoBulk x.1
theorem OpB.to {N : Nat} {t : TypeId} {n : Nat} {S S' : D → Prop} (h : OpB N t n S) (k : ∀ d, S d → S' d) : OpB N t n S' := fun H enc W base sp hd fuel cs x hN hx => by
 obtain ⟨d, v, h1, h2⟩ := h H enc W base sp hd fuel cs x hN hx
 exact ⟨d, v, k d h1, h2⟩
theorem OpB.less {N M : Nat} {t : TypeId} {n : Nat} {S : D → Prop} (h : OpB N t n S) (hM : M ≤ N) : OpB M t n S := fun H enc W base sp hd fuel cs x hN hx => h H enc W base sp hd fuel cs x oa hx
theorem qEg {H : Type} (d : DataW H) : 1 ≤ Rows.uptoBulk d := by
 cases d with
 | lit l => cases l <;> simp [Rows.uptoBulk]
 | nil => simp [Rows.uptoBulk]
 | ptr d => simp [Rows.uptoBulk]
 | slice elems spare => simp [Rows.uptoBulk]
 | agg parts => simp [Rows.uptoBulk]
 | iface t d => simp [Rows.uptoBulk]
 | map entries => simp [Rows.uptoBulk]
 | held h => simp [Rows.uptoBulk]
theorem qoG {N : Nat} {t : TypeId} (ht : (Tryz.prog).underlying t = some (.int .i64)) : OpB N t 1 fun d => ∃ n, d = .int .i64 n := fun H enc W base sp hd fuel cs x _ hx => by
 obtain ⟨d, v, ⟨n, rfl⟩, h2, h3, h4, h5⟩ := qD6 ht H enc W base sp hd fuel cs x hx
 exact ⟨_, v, ⟨n, rfl⟩, h2, h3, h4, h5, by simp only [z4]; exact qEg _⟩
theorem qp3 {N : Nat} {t : TypeId} (ht : (Tryz.prog).underlying t = some .string) : OpB N t 1 fun d => ∃ s, d = .str s := fun H enc W base sp hd fuel cs x _ hx => by
 obtain ⟨s, rfl, hxe, w0⟩ := DataW.trod_string ht hx
 refine ⟨.str s, .string s, ⟨s, rfl⟩, rfl, rfl, ?_, by simp [Value.cells], ?_⟩
 simp only [Rep]
 exact ⟨trivial, by unfold maxLen at w0; omega⟩
 rw [hxe]
 simp only [z4, Rows.uptoBulk]
 exact jk _
def OpsB (N : Nat) : List Field → List (D → Prop) → Prop
 | [], [] => True
 | f :: fs, S :: ss => OpB N f.type ((Tryz.prog).cellsOf f.type) S ∧ OpsB N fs ss
 | _, _ => False
theorem qpd {H : Type} {enc : TypeId × Value → H} {W : World} {base : Nat} {sp : Nat → Bool} {hd : Bool} {N n : Nat} (hn : n < N) {cs : List Value} :
 ∀ (fs : List Field) (ss : List (D → Prop)) (o : Nat) (xs : List (DataW H × List MemPlace)), OpsB N fs ss → tight Tryz.prog o fs = true → o + total Tryz.prog fs = cs.length → xs.length = fs.length →
  (∀ (i : Nat) (f : Field), fs[i]? = some f → DataW.trod enc Tryz.prog W base sp hd n f.type ((cs.drop f.offset).take ((Tryz.prog).cellsOf f.type)) = xs[i]?) →
  ∃ ds, Fits ss ds ∧ (∀ d ∈ ds, d.plain = true) ∧ szs ds = total Tryz.prog fs ∧ zz (live W) W ds (cs.drop o) ∧ zG ds ≤ Rows.uptoBulkAll (xs.map (·.1))
 | [], [], o, xs, _, _, hl, _, _ => ⟨[], trivial, by simp, rfl, by simp only [total] at hl; rw [j9 oa]; exact zz.nil _ _, by simp [zG]⟩
 | f :: fs, S :: ss, o, x :: xs, hop, ht, hl, hlen, hx => by
  simp only [tight, jj, beq_iff_eq] at ht
  simp only [total] at hl
  obtain ⟨ds, h1, h2, h3, h4, h5⟩ := qpd hn fs ss (o + (Tryz.prog).cellsOf f.type) xs hop.2 ht.2 oa (by simpa using hlen) fun i g hg => hx (i + 1) g hg
  have h6 := hx 0 f rfl
  rw [ht.1] at h6
  obtain ⟨d, v, g1, g2, g3, g4, g5, g6⟩ := hop.1 H enc W base sp hd n _ x hn h6
  refine ⟨d :: ds, ⟨g1, h1⟩, ?_, by simp only [szs, total, g3, h3], ?_, ?_⟩
  intro e he
  rcases jh.1 he with rfl | he
  exact g2
  exact h2 e he
  have := zz.cons g4 h4
  rw [← g5, ← List.drop_drop, vc] at this
  exact this
  simp only [zG, jm, Rows.uptoBulkAll]
  omega
 | _ :: _, _ :: _, _, [], _, _, _, h, _ => by simp at h
 | [], _ :: _, _, _, h, _, _, _, _ => h.elim
 | _ :: _, [], _, _, h, _, _, _, _ => h.elim
theorem qj3 {N : Nat} {t : TypeId} {fs : Array Field} {n : Nat} (ht : (Tryz.prog).underlying t = some (.struct fs)) (ss : List (D → Prop)) (hs : OpsB N fs.toList ss) (h1 : tight Tryz.prog 0 fs.toList = true) (h2 : total Tryz.prog fs.toList = n) (h3 : (Tryz.prog).cellsOf t = n) :
 OpB (N + 1) t n fun d => ∃ ds, d = .agg ds ∧ Fits ss ds := fun H enc W base sp hd fuel cs x hN hx => by
 obtain ⟨xs, m, hm, hxe, hl, hlen, hf⟩ := DataW.trod_struct ht hx
 obtain ⟨ds, g1, g2, g3, g4, g5⟩ := qpd (enc := enc) (W := W) (base := base) (sp := sp) (hd := hd) (N := N) (n := m) oa (cs := cs) fs.toList ss 0 xs hs h1 oa (by simpa using hlen) fun i f hi => hf i f (by simpa using hi)
 refine ⟨.agg ds, .agg cs.toArray, ⟨ds, rfl, g1⟩, rfl, by simp only [sz]; omega, ?_, by simp [Value.cells], ?_⟩
 · simp only [Rep]
   rw [vo] at g4
   exact ⟨cs, rfl, g4, qqd g4 g2⟩
 · rw [hxe]
   simp only [z4, Rows.uptoBulk]
   omega
theorem za8 {n : Nat} {hn : 0 < n} {S : D → Prop} {w : World} {ad : Addr} (Q : Nat → D → Prop) : ∀ (len : Nat), (∀ i, i < len → ∃ a cs, Q i a ∧ (layD n hn S).C w a cs ∧ ∀ j, j < n → w.cell? (ad.add (i * n + j)) = cs[j]?) → ∃ l xs, l.length = len ∧ (∀ i d, l[i]? = some d → Q i d) ∧ (layD n hn S).Ls w l xs ∧ ∀ j u, xs[j]? = some u → w.cell? (ad.add j) = some u
 | 0, _ => ⟨[], [], rfl, by simp, Lay.Ls.nil w, by simp⟩
 | len + 1, h => by
  obtain ⟨l, xs, h1, h0, h2, h3⟩ := za8 (hn := hn) (S := S) (w := w) (ad := ad) Q len fun i hi => h i oa
  obtain ⟨a, cs, h7, h4, h5⟩ := h len oa
  refine ⟨l ++ [a], xs ++ cs, by simp [h1], fun i d hd => ?_, Lay.Ls.app h2 (Lay.Ls.single h4), fun j u hu => ?_⟩
  by_cases hi : i < l.length
  rw [jT hi] at hd
  exact h0 i d hd
  rw [vp oa] at hd
  have hlt := (jt.1 hd).1
  simp at hlt
  have hi' : i = len := by omega
  subst hi'
  rw [h1, Nat.sub_self] at hd
  injection hd with hd
  subst hd
  exact h7
  have hx := Lay.Ls.len h2
  have hx : xs.length = l.length * n := hx
  by_cases hj : j < xs.length
  rw [jT hj] at hu
  exact h3 j u hu
  rw [vp oa] at hu
  have hlt := (jt.1 hu).1
  rw [(layD n hn S).len h4] at hlt
  have h6 := h5 (j - xs.length) hlt
  rw [hu] at h6
  rw [← h6, hx, h1]
  rw [hx, h1] at hj
  congr 2
  omega
theorem qxg {H : Type} : ∀ (l : List D) (es : List (DataW H)), l.length = es.length → (∀ (i : Nat) (d : D), l[i]? = some d → ∃ e : DataW H, es[i]? = some e ∧ z4 d ≤ Rows.uptoBulk e) → zG l ≤ Rows.uptoBulkAll es
 | [], es, _, _ => by simp [zG]
 | d :: l, [], h, _ => by simp at h
 | d :: l, e :: es, h, hp => by
  obtain ⟨e', h1, h2⟩ := hp 0 d rfl
  have h1 : e = e' := by simpa using h1
  subst h1
  have := qxg l es (by simpa using h) fun i x hx => by simpa using hp (i + 1) x (by simpa using hx)
  simp only [zG, Rows.uptoBulkAll]
  omega
theorem qzc {N : Nat} {t e : TypeId} {n : Nat} {S : D → Prop} (ht : (Tryz.prog).underlying t = some (.slice e)) (hn : (Tryz.prog).cellsOf e = n) (hp : 0 < n) (he : OpB N e n S) : OpB (N + 1) t 1 fun d => ∃ l, d = .lst l ∧ ∀ x ∈ l, S x := fun H enc W base sp hd fuel cs x hN hx => by
 rcases DataW.trod_slice ht hx with ⟨rfl, hxe⟩ | ⟨a, len, cap, elems, rest, m, hf, rfl, hxe, _, hl, hm, hlen, hel, _, _⟩
 refine ⟨.lst [], .slice none 0 0, ⟨[], rfl, by simp⟩, rfl, rfl, ?_, by simp [Value.cells], by rw [hxe]; simp [z4, zG, Rows.uptoBulk]⟩
 simp only [Rep]
 exact ⟨none, 0, [], rfl, by simp, by omega, .inl rfl, zz.nil _ _, by simp⟩
 obtain ⟨l, xs, h1, h0, h2, h3⟩ := za8 (hn := hp) (S := S) (w := W) (ad := a) (fun i d => ∃ y, elems[i]? = some y ∧ z4 d ≤ Rows.uptoBulk y.1) len fun i hi => by
  have g1 := hel i hi
  rw [jq oa, hn] at g1
  obtain ⟨cs', g2, g3⟩ := jN.1 g1
  obtain ⟨d, v, k1, k2, k3, k4, k5, k6⟩ := he H enc W base sp hd m cs' _ oa g3
  obtain ⟨_, g5, g6⟩ := World.cells?_some g2
  refine ⟨d, cs', ⟨_, jq oa, k6⟩, ⟨k1, k2, k3, v, k4, k5⟩, fun j hj => ?_⟩
  rw [← qwt]
  exact g6 j hj
 obtain ⟨h6, h7⟩ := qAd h2
 refine ⟨.lst l, .slice (some a) l.length cap, ⟨l, rfl, fun d hd => (h6 d hd).1⟩, rfl, rfl, ?_, by rw [h1]; simp [Value.cells], ?_⟩
 simp only [Rep]
 exact ⟨some a, cap, xs, rfl, by omega, by unfold maxLen at hm; omega, qDP (.inr ⟨a, rfl, h3⟩), h7, qqd h7 fun d hd => (h6 d hd).2⟩
 rw [hxe]
 simp only [z4, Rows.uptoBulk]
 have := qxg l (elems.map (·.1)) (by simp [h1, hlen]) fun i d hd => by
  obtain ⟨y, y1, y2⟩ := h0 i d hd
  exact ⟨y.1, by simp [y1], y2⟩
 omega
theorem qnu {α : Type} {f : α → D} {N : Nat} {t e : TypeId} {n : Nat} (ht : (Tryz.prog).underlying t = some (.slice e)) (hn : (Tryz.prog).cellsOf e = n) (hp : 0 < n) (he : OpB N e n fun d => ∃ a, d = f a) : OpB (N + 1) t 1 fun d => ∃ av : List α, d = .lst (av.map f) :=
 (qzc ht hn hp he).to fun d ⟨l, hl, h⟩ => by
  obtain ⟨av, rfl⟩ := qwP h
  exact ⟨av, hl⟩
theorem qw0 : ∀ N, OpB N 78 4 fun d => ∃ t, d = zl t
 | 0 => fun H enc W base sp hd fuel cs x hN => by omega
 | N + 1 => (qj3 (N := N) Tryz.underlying78 [fun d => ∃ n, d = .int .i64 n, fun d => ∃ n, d = .int .i64 n, fun d => ∃ s, d = .str s, fun d => ∃ l : List T, d = .lst (l.map zl)] ⟨qoG Tryz.underlying3, qoG Tryz.underlying3, qp3 Tryz.underlying9, (qnu Tryz.underlying46 qsi oa (qw0 N)).less oa, trivial⟩ ob ob ob).to fun d ⟨ds, hd, h⟩ => by
  match ds, h with
  | [_, _, _, _], ⟨⟨k, rfl⟩, ⟨i, rfl⟩, ⟨s, rfl⟩, ⟨l, rfl⟩, _⟩ => exact ⟨.mk k i s l, by rw [hd, zl, qfk]; rfl⟩
theorem quK (N : Nat) : OpB N 46 1 fun d => ∃ l : List T, d = .lst (l.map zl) := (qnu Tryz.underlying46 qsi oa (qw0 N)).less oa
theorem qA7 (N : Nat) : OpB N 48 2 fun d => ∃ a, d = zY a :=
 ((qj3 (N := N) Tryz.underlying48 [fun d => ∃ s, d = .str s, fun d => ∃ l : List T, d = .lst (l.map zl)] ⟨qp3 Tryz.underlying9, quK N, trivial⟩ ob ob ob).less oa).to fun d ⟨ds, hd, h⟩ => by
  match ds, h with
  | [_, _], ⟨⟨s, rfl⟩, ⟨l, rfl⟩, _⟩ => exact ⟨⟨s, l⟩, hd⟩
theorem quJ (N : Nat) : OpB N 53 1 fun d => ∃ l : List At, d = .lst (l.map zY) := (qnu Tryz.underlying53 ob oa (qA7 N)).less oa
theorem qAT (N : Nat) : OpB N 55 3 fun d => ∃ g, d = zE g :=
 ((qj3 (N := N) Tryz.underlying55 [fun d => ∃ n, d = .int .i64 n, fun d => ∃ s, d = .str s, fun d => ∃ l : List T, d = .lst (l.map zl)] ⟨qoG Tryz.underlying3, qp3 Tryz.underlying9, quK N, trivial⟩ ob ob qsp).less oa).to fun d ⟨ds, hd, h⟩ => by
  match ds, h with
  | [_, _, _], ⟨⟨n, rfl⟩, ⟨s, rfl⟩, ⟨l, rfl⟩, _⟩ => exact ⟨⟨n, s, l⟩, hd⟩
theorem qrd (N : Nat) : OpB N 26 1 fun d => ∃ l : List Gl, d = .lst (l.map zE) := (qnu Tryz.underlying26 qsp oa (qAT N)).less oa
theorem qA4 (N : Nat) : OpB N 64 6 fun d => ∃ r, d = ql r :=
 ((qj3 (N := N) Tryz.underlying64 [fun d => ∃ s, d = .str s, fun d => ∃ l : List At, d = .lst (l.map zY), fun d => ∃ l : List At, d = .lst (l.map zY), fun d => ∃ l : List Gl, d = .lst (l.map zE), fun d => ∃ l : List Gl, d = .lst (l.map zE), fun d => ∃ n, d = .int .i64 n] ⟨qp3 Tryz.underlying9, quJ N, quJ N, qrd N, qrd N, qoG Tryz.underlying3, trivial⟩ ob ob ob).less oa).to fun d ⟨ds, hd, h⟩ => by
  match ds, h with
  | [_, _, _, _, _, _], ⟨⟨s, rfl⟩, ⟨a, rfl⟩, ⟨b, rfl⟩, ⟨c, rfl⟩, ⟨e, rfl⟩, ⟨n, rfl⟩, _⟩ => exact ⟨⟨s, a, b, c, e, n⟩, hd⟩
theorem qzs (N : Nat) : OpB N 23 1 fun d => ∃ l : List qr, d = .lst (l.map ql) := (qnu Tryz.underlying23 ob oa (qA4 N)).less oa
theorem qCa (N : Nat) : OpB N 67 2 fun d => ∃ q, d = qD q :=
 ((qj3 (N := N) Tryz.underlying67 [fun d => ∃ s, d = .str s, fun d => ∃ n, d = .int .i64 n] ⟨qp3 Tryz.underlying9, qoG Tryz.underlying3, trivial⟩ ob ob ob).less oa).to fun d ⟨ds, hd, h⟩ => by
  match ds, h with
  | [_, _], ⟨⟨s, rfl⟩, ⟨n, rfl⟩, _⟩ => exact ⟨⟨s, n⟩, hd⟩
theorem qy6 (N : Nat) : OpB N 22 1 fun d => ∃ l : List qB, d = .lst (l.map qD) := (qnu Tryz.underlying22 ob oa (qCa N)).less oa
theorem qvQ (N : Nat) : OpB N 25 2 fun d => ∃ q, d = qi q :=
 ((qj3 (N := N) Tryz.underlying25 [fun d => ∃ l : List qB, d = .lst (l.map qD), fun d => ∃ l : List qr, d = .lst (l.map ql)] ⟨qy6 N, qzs N, trivial⟩ ob ob ob).less oa).to fun d ⟨ds, hd, h⟩ => by
  match ds, h with
  | [_, _], ⟨⟨s, rfl⟩, ⟨n, rfl⟩, _⟩ => exact ⟨⟨s, n⟩, hd⟩
/-! ### what the bulk bounds -/
mutual
theorem qC9 : ∀ t : T, wt t ≤ z4 (zl t)
 | .mk k i s ar => by
  have := qpI ar
  rw [zl, qfk]
  simp only [z4, zG, wt, T.ar]
  omega
theorem qpI : ∀ l : List T, wtL l ≤ zG (l.map zl)
 | [] => by simp [wtL]
 | t :: l => by
  have h1 := qC9 t
  have h2 := qpI l
  simp only [wtL, jm, zG]
  omega
end
theorem qjO {α : Type} {f : α → D} {a : α} : ∀ {l : List α}, a ∈ l → z4 (f a) ≤ zG (l.map f)
 | b :: l, h => by
  simp only [jm, zG]
  rcases jh.1 h with rfl | h
  omega
  have := qjO (f := f) h; omega
theorem qzq {a : At} (h : z4 (zY a) ≤ 1048576) : wtL a.ts ≤ 1048576 := by
 have := qpI a.ts
 simp only [zY, z4, zG] at h
 omega
theorem qv0 {g : Gl} (h : z4 (zE g) ≤ 1048576) : wtL g.ts ≤ 1048576 := by
 have := qpI g.ts
 simp only [zE, z4, zG] at h
 omega
theorem qux {p : qc} (h : z4 (qi p) ≤ 1048576) : ∀ r ∈ p.fd, (∀ a ∈ r.fi, wtL a.ts ≤ 1048576) ∧ (∀ a ∈ r.ff, wtL a.ts ≤ 1048576) ∧ (∀ g ∈ r.fy, wtL g.ts ≤ 1048576) ∧ ∀ g ∈ r.fg, wtL g.ts ≤ 1048576 := fun r hr => by
 simp only [qi, z4, zG] at h
 have h1 := qjO (f := ql) hr
 simp only [ql, z4, zG] at h1
 refine ⟨fun a ha => ?_, fun a ha => ?_, fun a ha => ?_, fun a ha => ?_⟩
 have := qjO (f := zY) ha
 exact qzq oa
 have := qjO (f := zY) ha
 exact qzq oa
 have := qjO (f := zE) ha
 exact qv0 oa
 have := qjO (f := zE) ha
 exact qv0 oa
/-! ### a law's arguments -/
structure zbF where
 t : TypeId
 n : Nat
 S : D → Prop
 op : ∀ N, OpB N t n S
 cl : Cl t S
def zbM : zbF := ⟨_, _, _, qvQ, (qAp Tryz.underlying25).to fun _ ⟨_, h⟩ => ⟨_, h⟩⟩
def bGoals : zbF := ⟨_, _, _, qrd, (qBk Tryz.underlying26).to fun _ ⟨_, h⟩ => ⟨_, h⟩⟩
def bInt : zbF := ⟨_, _, _, fun _ => qoG Tryz.underlying3, qEr Tryz.underlying3⟩
theorem qsH {H : Type} {enc : TypeId × Value → H} {W : World} {base b : Nat} {sp : Nat → Bool} {hd : Bool} : ∀ (av : List zbF) (vs : List Value) (ds : List (DataW H)) (ps : List MemPlace),
 DataW.TrodAll enc Tryz.prog W base sp hd (av.map zbF.t) vs ds ps → (∀ (j : Nat) t v, (av.map zbF.t)[j]? = some t → vs[j]? = some v → Value.okWide Tryz.prog W .any b t v) → ∃ es, Fits (av.map zbF.S) es ∧ zH (live W) W es vs ∧ zG es ≤ Rows.uptoBulkAll ds
 | [], vs, ds, ps, h, _ => by
  obtain ⟨rfl, rfl, _⟩ := trodAll_nil h
  exact ⟨[], trivial, zH.nil _ _, by simp [zG]⟩
 | a :: av, vs, ds, ps, h, hv => by
  obtain ⟨v, vs', d, ds', p, q, rfl, rfl, rfl, ⟨fuel, h1⟩, h2⟩ := trodAll_cons h
  obtain ⟨es, g1, g2, g3⟩ := qsH av vs' ds' q h2 fun j t u ht hu => hv (j + 1) t u ht hu
  obtain ⟨e, u, k1, k2, k3, k4, k5, k6⟩ := a.op (fuel + 1) H enc W base sp hd fuel _ _ oa h1
  have e1 := a.cl W b v (hv 0 a.t v rfl rfl) e k1
  have e2 := k4.back
  rw [← k5] at e2
  rw [← e2] at e1
  subst e1
  refine ⟨e :: es, ⟨k1, g1⟩, zH.cons k4 g2, ?_⟩
  simp only [zG, Rows.uptoBulkAll]
  have k6 : z4 e ≤ Rows.uptoBulk d := k6
  omega
def zbC (k : FuncId) (F : Func) : Prop := ∀ (H : Type) (enc : TypeId × Value → H) (W : World) (base : Nat) (args : Array Value) (ds : List (DataW H)) (p : List MemPlace),
 (∀ (j : Nat) t v, F.params[j]? = some t → args[j]? = some v → Value.okWide Tryz.prog W .any base t v) → DataW.TrodAll enc Tryz.prog W 0 (fun _ => true) true F.params.toList args.toList ds p → Rows.uptoSmall H ds = true →
 Calls Tryz.prog k args W (Ret W (Is (.bool true)))
theorem qz4 {k : FuncId} {F : Func} (av : List zbF) (hp : F.params.toList = av.map zbF.t) (hg : ∀ es, Fits (av.map zbF.S) es → zG es ≤ 1048576 → zf Tryz.prog k es (.bool true)) : zbC k F := by
 intro H enc W base args ds p hval hA hk
 rw [hp] at hA
 obtain ⟨es, h1, h2, h3⟩ := qsH (b := base) av args.toList ds p hA fun j t v ht hv => hval j t v (by rw [← vr, hp]; exact ht) (by simpa using hv)
 have hk' : Rows.uptoBulkAll ds ≤ 1048576 := of_decide_eq_true hk
 have hI : Inv (ctx W (live W) []) (live W) [] W := ⟨by simp, by simp [yR], by simp [yR], fun a ha => ha, zT.refl _ _, fun a ha => .inl ha, rfl, rfl, rfl, jk _, fun b _ _ => rfl⟩
 refine (hg es h1 (vt h3 hk') W (live W) args.toList hI h2).mono ?_
 rintro e w' (⟨v, d, σ, q, rfl, rfl, hr, hi⟩ | ⟨_, _, _, _, _, hx, _⟩)
 rotate_left
 exact hx.elim
 simp only [Rep] at hr
 subst hr
 exact Ret.mk rfl ⟨hi.os, hi.tape, hi.output, hi.size, fun b hb => hi.block b hb (by simp [ctx, yR])⟩
theorem qtm {k : FuncId} {F : Func} (h : zbC k F) {s : ChangeSpec} (hv : s.vars = [])
 (hts0 : (F.params.toList.all fun t => (Tryz.prog).readableRec t && decide (t < (Tryz.prog).types.size)) = true) (hres : F.resultTypes.toList = [4]) (hrs : F.resultTypes.size = 1)
 (hsp : ∀ (H : Type) (ds : List (DataW H)), ds.length = F.params.toList.length → s.fn H ds = { results := [.lit (.bool true)], args := ds })
 {H : Type} {enc : TypeId × Value → H} (W : World) (base : Nat) (args : Array Value) (ds gs : List (DataW H)) (before : List MemPlace)
 (hval : ∀ (j : Nat) t v, F.params[j]? = some t → args[j]? = some v → Value.okWide Tryz.prog W .any base t v)
 (hW : DataW.Whole enc Tryz.prog F.params.toList s.vars false W args.toList ds gs before) (hk : Rows.uptoSmall H (ds ++ gs) = true) :
 Calls Tryz.prog k args W fun e W' => ∃ v, e = .returned v ∧ s.post enc Tryz.prog F false true false false W args v W' := by
 have hts : ∀ t ∈ F.params.toList, (Tryz.prog).readableRec t = true ∧ t < (Tryz.prog).types.size := fun t ht => by
  have := jv.1 hts0 t ht
  simpa using this
 have hW' := hW
 obtain ⟨p, q, hA, hV, rfl, hfz, hnd⟩ := hW
 rw [hv] at hV
 obtain ⟨rfl, rfl⟩ := trodVars_none hV
 rw [js] at hk
 refine (h H enc W base args ds p hval hA hk).mono ?_
 rintro e W' ⟨v, rfl, hvv, hb⟩
 have hvv : v = .bool true := hvv
 subst hvv
 have hlen := qqz hA
 have hspec := hsp H ds hlen
 refine ⟨_, rfl, ds, [], p ++ [], [], p, [], hW', ?_, ?_, ?_, ?_, fun h => by cases h⟩
 · rw [js, hspec, hres, hrs]
   exact trodAll_cons_mk (shut_bool Tryz.underlying4 _) trodAll_mk0
 · rw [js, hspec]
   exact qoi qE3 hb hts (fun x hx => hW'.lt x (by simpa using hx)) hA
 · rw [js, hspec, hv]; rfl
 · exact World.keptBut_mono (fun x hx => ⟨by simpa using hx, .inr (.inl (by simpa using hx))⟩) (Below.frame hb (fun x => x ∈ p))
end Go.Proofs.YtamoolpdganckaaGreat
namespace Go.Proofs.YtamoolpdganckaaGreat
set_option maxRecDepth 100000
open Go.RowKit
abbrev Nd := qb
theorem uT {a b : Int} (h : a = b) : (a == b) = true := by simpa using h
theorem uF {a b : Int} (h : a ≠ b) : (a == b) = false := by simpa using h
theorem qAu {α : Type} {done ts : List α} {q : α} : zi (done ++ q :: ts) (done.length : Int) = some q := by
 rw [qdQ]
 simp
theorem qE1 {α : Type} {done ts : List α} {q x : α} : (done ++ q :: ts).set (done.length : Int).toNat x = (done ++ [x]) ++ ts := by
 rw [vC, List.set_append_right _ _ (jk _)]
 simp
theorem yo {α : Type} {l : List α} {i : Int} (h0 : 0 ≤ i) (h : i < l.length) : ∃ q, zi l i = some q ∧ q ∈ l := by
 have hn : i.toNat < l.length := by omega
 refine ⟨l[i.toNat], ?_, List.getElem_mem hn⟩
 unfold zi
 rw [if_pos h0]
 simp [hn]
theorem qf9 {α : Type} {b : Nat} (hb : b ≤ 100) {l : List α} {x : α} {n : Nat} (h : l.length + (n + 1) ≤ 10000000000) : zF b l [x] = some (l ++ [x]) := by
 refine qk5 ?_ oe
 have : (l.length + [x].length) * b ≤ 10000000000 * 100 := Nat.mul_le_mul oe hb
 omega
theorem qnC {α : Type} {b : Nat} (hb : b ≤ 100) {l m : List α} (h : l.length + m.length ≤ 10000000000) : zF b l m = some (l ++ m) := by
 refine qk5 ?_ oa
 have : (l.length + m.length) * b ≤ 10000000000 * 100 := Nat.mul_le_mul h hb
 omega
theorem qkT {α : Type} {l : List α} {i : Int} {q : α} (h : zi l i = some q) : 0 ≤ i ∧ i < l.length ∧ q ∈ l := by
 obtain ⟨h0, h1⟩ := qbV h
 have := (jt.1 h1).1
 exact ⟨h0, by omega, List.mem_of_getElem? h1⟩
theorem qyr {α β : Type} {l : List α} {i : Int} {q : α} (f : α → β) (h : zi l i = some q) : zi (l.map f) i = some (f q) := by
 obtain ⟨h0, h1⟩ := qbV h
 unfold zi
 rw [if_pos h0, List.getElem?_map, h1]
 rfl
theorem qCJ {α : Type} {l m : List α} {i : Int} {q : α} (h : zi l i = some q) : zi (l ++ m) i = some q := by
 obtain ⟨h0, h1⟩ := qbV h
 have := (jt.1 h1).1
 unfold zi
 rw [if_pos h0, jT this, h1]
structure StG (g : List Nd) (c : List Int) : Prop where
 len : c.length = g.length
 cls : ∀ v ∈ c, 0 ≤ v ∧ v < g.length
 idem : ∀ v ∈ c, zi c v = some v
 kid : ∀ q ∈ g, ∀ k ∈ q.fe, 0 ≤ k ∧ k < g.length
/-! ### shape -/
theorem qws (c : List Int) (cl : Int) : ∀ (l : List Nd) (i : Nat), i + l.length = c.length → ∃ r : Int, qF (some (-1)) c cl l i = some r ∧ (r = -1 ∨ (∃ q, (i : Int) ≤ r ∧ l[r.toNat - i]? = some q ∧ zi c r = some cl ∧ q.fa ≠ 1))
 | [], i, _ => ⟨-1, by rw [qF], .inl rfl⟩
 | q :: l, i, h => by
  rw [jg] at h
  obtain ⟨v, hv, _⟩ := yo (l := c) (i := (i : Int)) oa oa
  obtain ⟨r, e, hr⟩ := qws c cl l (i + 1) oa
  rw [qF, hv, ja]
  have next : ∃ r : Int, qF (some (-1)) c cl l (i + 1) = some r ∧ (r = -1 ∨ (∃ q', (i : Int) ≤ r ∧ (q :: l)[r.toNat - i]? = some q' ∧ zi c r = some cl ∧ q'.fa ≠ 1)) := by
   refine ⟨r, e, hr.imp id ?_⟩
   rintro ⟨q', h1, h2, h3, h4⟩
   refine ⟨q', by omega, ?_, h3, h4⟩
   rw [show r.toNat - i = (r.toNat - (i + 1)) + 1 by omega, v8]
   exact h2
  by_cases h1 : v = cl
  · rw [uT h1, cond_true]
    by_cases h2 : q.fa = 1
    · rw [show (q.fa != 1) = false by simp [h2], cond_false]
      exact next
    · rw [show (q.fa != 1) = true by simp [h2], cond_true]
      exact ⟨i, rfl, .inr ⟨q, jX _, by simp, by rw [hv, h1], h2⟩⟩
  · rw [uF h1, cond_false]
    exact next
theorem qjs {g : List Nd} {c : List Int} (h : StG g c) (cl : Int) : ∃ r : Int, qC cl g c = some r ∧ (r = -1 ∨ ∃ q, zi g r = some q ∧ zi c r = some cl ∧ q.fa ≠ 1) := by
 obtain ⟨r, e, hr⟩ := qws c cl g 0 (by have := h.len; omega)
 refine ⟨r, e, hr.imp id ?_⟩
 rintro ⟨q, h1, h2, h3, h4⟩
 refine ⟨q, ?_, h3, h4⟩
 unfold zi
 rw [if_pos oa]
 simpa using h2
/-! ### joining -/
def mrg (y x v : Int) : Int := if v = y then x else v
theorem qtu (k : List Nd → List Int → Option (Bool × List Nd × List Int)) (x y : Int) (g : List Nd) : ∀ (r done : List Int) (m : Nat), r.length < m → done.length + r.length ≤ 10000000000 → qT k x y m (done.length : Int) g (done ++ r) = k g (done ++ r.map (mrg y x))
 | [], done, m, hm, _ => by
  obtain ⟨m, rfl⟩ : ∃ n, m = n + 1 := ⟨m - 1, by omega⟩
  rw [qT, decide_eq_false og, cond_false]
  rfl
 | v :: r, done, m, hm, hl => by
  rw [jg] at hm hl
  obtain ⟨m, rfl⟩ : ∃ n, m = n + 1 := ⟨m - 1, by omega⟩
  have e : wr ((done.length : Int) + 1) = ((done ++ [mrg y x v]).length : Int) := by
   rw [qgA oa, je, jp]
   omega
  have ih := qtu k x y g r (done ++ [mrg y x v]) m oa (by rw [je, jp]; omega)
  rw [ji, ji, vz, vz] at ih
  rw [qT, decide_eq_true oe, cond_true, qAu, ja, e]
  by_cases h : v = y
  have hm : mrg y x v = x := if_pos h
  rw [uT h, cond_true, qE1, ji, vz]
  rw [hm] at ih ⊢
  rw [ih, jm, hm]
  have hm : mrg y x v = v := if_neg h
  rw [uF h, cond_false]
  rw [hm] at ih ⊢
  rw [ih, jm, hm]
def cnt (c : List Int) : Nat := (yj [] c).length
theorem qy0 {c : List Int} {x : Int} : x ∈ yj [] c ↔ x ∈ c := by simp [qjM]
theorem qzW : ∀ {a b : List Int}, a.Nodup → (∀ x ∈ a, x ∈ b) → a.length ≤ b.length
 | [], _, _, _ => jc _
 | x :: a, b, hn, h => by
  obtain ⟨h1, h2⟩ := jP.1 hn
  have hx := h x (jd ..)
  have := qzW (b := b.erase x) h2 fun y hy => (List.mem_erase_of_ne (fun e : y = x => h1 (by rw [← e]; exact hy))).2 (h y (jf _ hy))
  have hl := List.length_erase_of_mem hx
  have hp := vX hx
  rw [jg]
  omega
theorem StG.merge {g : List Nd} {c : List Int} (h : StG g c) {x y : Int} (hx : x ∈ c) (hxy : x ≠ y) : StG g (c.map (mrg y x)) := by
 refine ⟨by rw [jb]; exact h.len, fun v hv => ?_, fun v hv => ?_, h.kid⟩
 obtain ⟨u, hu, rfl⟩ := jx.1 hv
 unfold mrg
 split
 exact h.cls x hx
 exact h.cls u hu
 obtain ⟨u, hu, rfl⟩ := jx.1 hv
 by_cases e : u = y
 have hm : mrg y x u = x := if_pos e
 rw [hm, qyr (mrg y x) (h.idem x hx)]
 congr 1
 exact if_neg hxy
 have hm : mrg y x u = u := if_neg e
 rw [hm, qyr (mrg y x) (h.idem u hu), hm]
theorem qEC (c : List Int) (f : Int → Int) (x y : Int) (hy : y ∈ c) (hx : x ∈ c) (hxy : x ≠ y) : cnt (c.map (mrg y x)) < cnt c := by
 have hn : (yj [] (c.map (mrg y x))).Nodup := qsA _ _ List.nodup_nil
 have hsub : ∀ v ∈ (yj [] (c.map (mrg y x))), v ∈ (yj [] c).erase y := fun v hv => by
  obtain ⟨u, hu, rfl⟩ := jx.1 (qy0.1 hv)
  have hne : mrg y x u ≠ y := by
   unfold mrg
   split
   exact hxy
   assumption
  refine (List.mem_erase_of_ne hne).2 (qy0.2 ?_)
  unfold mrg
  split
  exact hx
  exact hu
 have h1 := qzW hn hsub
 have hy' := qy0.2 hy
 have h2 := List.length_erase_of_mem hy'
 have h3 := vX hy'
 unfold cnt
 omega
def Resp (g : List Nd) (E : Int → Int → Prop) : Prop := (∀ i, E i i) ∧ (∀ i j, E i j → E j i) ∧ (∀ i j k, E i j → E j k → E i k) ∧ ∀ i j p q, E i j → zi g i = some p → zi g j = some q → p.fa ≠ 1 → q.fa ≠ 1 → p.fa = q.fa ∧ p.fj = q.fj ∧ p.fF = q.fF ∧ p.fe.length = q.fe.length ∧ ∀ n a b, zi p.fe n = some a → zi q.fe n = some b → E a b
def zbh (c : List Int) (E : Int → Int → Prop) : Prop := ∀ i j v, zi c i = some v → zi c j = some v → E i j
def zbw (g : List Nd) (c : List Int) (a b : Int) (r : Option (Bool × List Nd × List Int)) : Prop := ∃ ok c', r = some (ok, g, c') ∧ StG g c' ∧ cnt c' ≤ cnt c ∧ ∀ E, Resp g E → zbh c E → E a b → ok = true ∧ zbh c' E
theorem qzQ {rec : Int → Int → List Nd → List Int → Option (Bool × List Nd × List Int)} {g : List Nd} (q : Nd) (n : Nat) (hrec : ∀ (a b : Int) (c : List Int), StG g c → cnt c < n → 0 ≤ a → a < g.length → 0 ≤ b → b < g.length → zbw g c a b (rec a b g c)) :
 ∀ (l : List Int) (i : Nat) (c : List Int), StG g c → cnt c < n → i + l.length = q.fe.length → (∀ x ∈ l, 0 ≤ x ∧ x < g.length) → (∀ x ∈ q.fe, 0 ≤ x ∧ x < g.length) →
 ∃ ok c', qI (fun g31 g32 => some (true, g31, g32)) rec q l i g c = some (ok, g, c') ∧ StG g c' ∧ cnt c' ≤ cnt c ∧ ∀ E, Resp g E → zbh c E → (∀ (m : Nat) x y, l[m]? = some x → zi q.fe ((i + m : Nat) : Int) = some y → E x y) → ok = true ∧ zbh c' E
 | [], i, c, hs, _, _, _, _ => ⟨true, c, by rw [qI], hs, jk _, fun E _ hf _ => ⟨rfl, hf⟩⟩
 | x :: l, i, c, hs, hc, hl, hx, hq => by
  rw [jg] at hl
  obtain ⟨y, hy, hym⟩ := yo (l := q.fe) (i := (i : Int)) oa oa
  have h1 := hx x (jd ..)
  have h2 := hq y hym
  obtain ⟨ok, c', e, s', le', f'⟩ := hrec x y c hs hc h1.1 h1.2 h2.1 h2.2
  rw [qI, hy, ja, e, ja]
  dsimp only
  cases ok with
  | false =>
   rw [Bool.not_false, cond_true]
   refine ⟨false, c', rfl, s', le', fun E hE hF hm => ?_⟩
   have := (f' E hE hF (hm 0 x y rfl (by simpa using hy))).1
   cases this
  | true =>
   rw [jL, cond_false]
   obtain ⟨ok2, c2, e2, s2, le2, f2⟩ := qzQ q n hrec l (i + 1) c' s' oa oa (fun z hz => hx z (jf _ hz)) hq
   refine ⟨ok2, c2, e2, s2, by omega, fun E hE hF hm => ?_⟩
   refine f2 E hE (f' E hE hF (hm 0 x y rfl (by simpa using hy))).2 fun m u v hu hv => hm (m + 1) u v (by simpa using hu) ?_
   rw [show i + (m + 1) = i + 1 + m by omega]
   exact hv
theorem qpB {g : List Nd} (hg : g.length ≤ 1000000000) : ∀ (fuel : Nat) (a b : Int) (c : List Int), StG g c → cnt c < fuel → g.length + cnt c + 1 < fuel → 0 ≤ a → a < g.length → 0 ≤ b → b < g.length → zbw g c a b (q8 fuel a b g c)
 | 0, _, _, _, _, h, _, _, _, _, _ => absurd h (vh _)
 | fuel + 1, a, b, c, hs, hf, hf2, ha, ha2, hb, hb2 => by
  have hlen := hs.len
  obtain ⟨x, ex, hx⟩ := yo (l := c) ha oa
  obtain ⟨y, ey, hy⟩ := yo (l := c) hb oa
  rw [q8]
  dsimp only
  rw [ex, ja, ey, ja]
  by_cases hxy : x = y
  rw [uT hxy, cond_true]
  exact ⟨true, c, rfl, hs, jk _, fun E _ hF _ => ⟨rfl, hF⟩⟩
  rw [uF hxy, cond_false]
  obtain ⟨m, em, hm⟩ := qjs hs x
  obtain ⟨n, en, hn⟩ := qjs hs y
  have hs' := hs.merge hx hxy
  have hc := qEC c id x y hy hx hxy
  have hl := qtu (fun g13 g14 => (bif (decide (m < (0 : Int))) then some (true, g13, g14) else (bif (decide (n < (0 : Int))) then some (true, g13, g14) else ((zi g13 m).bind fun q_18 => ((zi g13 n).bind fun q_19 => (bif (q_18.fa != q_19.fa) then some (false, g13, g14) else (bif (q_18.fj != q_19.fj) then some (false, g13, g14) else (bif (!(q_18.fF.toList == q_19.fF.toList)) then some (false, g13, g14) else (bif ((q_18.fe.length : Int) != (q_19.fe.length : Int)) then some (false, g13, g14) else (qI (fun g31 g32 => some (true, g31, g32)) (q8 fuel) q_19 q_18.fe 0 g13 g14)))))))))) x y g c [] fuel oa oe
  rw [jo, jo] at hl
  rw [em, ja, en, ja]
  refine (congrArg (zbw g c a b) hl).mpr ?_
  have fit : ∀ E, Resp g E → zbh c E → E a b → zbh (c.map (mrg y x)) E := fun E hE hF hab i j v hi hj => by
   obtain ⟨i0, i1, _⟩ := qkT hi
   obtain ⟨j0, j1, _⟩ := qkT hj
   rw [jb] at i1 j1
   obtain ⟨p, ep, _⟩ := yo i0 i1
   obtain ⟨q, eq, _⟩ := yo j0 j1
   have e1 := qyr (mrg y x) ep
   have e2 := qyr (mrg y x) eq
   rw [hi] at e1
   rw [hj] at e2
   have e1 := Option.some.inj e1
   have e2 := Option.some.inj e2
   have toA : ∀ k w, zi c k = some w → w = x ∨ w = y → E k a := fun k w hk hw => by
    rcases hw with rfl | rfl
    exact hF k a _ hk ex
    exact hE.2.2.1 _ _ _ (hF k b _ hk ey) (hE.2.1 _ _ hab)
   unfold mrg at e1 e2
   by_cases hp : p = y
   rw [if_pos hp] at e1
   have hq : q = x ∨ q = y := by
    by_cases hq : q = y
    exact .inr hq
    rw [if_neg hq] at e2
    exact .inl (e2.symm.trans e1)
   exact hE.2.2.1 _ _ _ (toA i p ep (.inr hp)) (hE.2.1 _ _ (toA j q eq hq))
   rw [if_neg hp] at e1
   by_cases hq : q = y
   rw [if_pos hq] at e2
   exact hE.2.2.1 _ _ _ (toA i p ep (.inl (e1.symm.trans e2))) (hE.2.1 _ _ (toA j q eq (.inr hq)))
   rw [if_neg hq] at e2
   exact hF i j p ep (by rw [eq, ← e2, e1])
  have easy : zbw g c a b (some (true, g, c.map (mrg y x))) := ⟨true, _, rfl, hs', by omega, fun E hE hF hab => ⟨rfl, fit E hE hF hab⟩⟩
  rcases hm with rfl | ⟨p, hp, cp, kp⟩
  rw [decide_eq_true oa, cond_true]
  exact easy
  have m0 := (qkT hp).1
  rw [decide_eq_false oa, cond_false]
  rcases hn with rfl | ⟨q, hq, cq, kq⟩
  rw [decide_eq_true oa, cond_true]
  exact easy
  have n0 := (qkT hq).1
  rw [decide_eq_false oa, cond_false, hp, ja, hq, ja]
  have rel : ∀ E, Resp g E → zbh c E → E a b → E m n := fun E hE hF hab => hE.2.2.1 _ _ _ (hF m a x cp ex) (hE.2.2.1 _ _ _ hab (hF b n y ey cq))
  have bad : (∀ E, Resp g E → zbh c E → E a b → False) → zbw g c a b (some (false, g, c.map (mrg y x))) := fun h => ⟨false, _, rfl, hs', by omega, fun E hE hF hab => (h E hE hF hab).elim⟩
  by_cases e1 : p.fa = q.fa
  rotate_left
  rw [show (p.fa != q.fa) = true by simpa using e1, cond_true]
  exact bad fun E hE hF hab => e1 (hE.2.2.2 m n p q (rel E hE hF hab) hp hq kp kq).1
  rw [show (p.fa != q.fa) = false by simpa using e1, cond_false]
  by_cases e2 : p.fj = q.fj
  rotate_left
  rw [show (p.fj != q.fj) = true by simpa using e2, cond_true]
  exact bad fun E hE hF hab => e2 (hE.2.2.2 m n p q (rel E hE hF hab) hp hq kp kq).2.1
  rw [show (p.fj != q.fj) = false by simpa using e2, cond_false]
  by_cases e3 : p.fF.toList = q.fF.toList
  rotate_left
  rw [show (!(p.fF.toList == q.fF.toList)) = true by simpa using e3, cond_true]
  exact bad fun E hE hF hab => e3 (by rw [(hE.2.2.2 m n p q (rel E hE hF hab) hp hq kp kq).2.2.1])
  rw [show (!(p.fF.toList == q.fF.toList)) = false by simpa using e3, cond_false]
  by_cases e4 : p.fe.length = q.fe.length
  rotate_left
  rw [show ((p.fe.length : Int) != (q.fe.length : Int)) = true by simp; omega, cond_true]
  exact bad fun E hE hF hab => e4 (hE.2.2.2 m n p q (rel E hE hF hab) hp hq kp kq).2.2.2.1
  rw [show ((p.fe.length : Int) != (q.fe.length : Int)) = false by simp; omega, cond_false]
  obtain ⟨ok, c2, e5, s2, le2, f2⟩ := qzQ (rec := q8 fuel) (g := g) q (cnt (c.map (mrg y x)) + 1) (fun a b c3 h1 h2 h3 h4 h5 h6 => qpB hg fuel a b c3 h1 oa oa h3 h4 h5 h6) p.fe 0 (c.map (mrg y x)) hs' oa oa (hs.kid p (qkT hp).2.2) (hs.kid q (qkT hq).2.2)
  refine ⟨ok, c2, e5, s2, by omega, fun E hE hF hab => ?_⟩
  refine f2 E hE (fit E hE hF hab) fun k u v hu hv => ?_
  rw [ju] at hv
  exact (hE.2.2.2 m n p q (rel E hE hF hab) hp hq kp kq).2.2.2.2 k u v (by rw [qdQ]; exact hu) hv
/-! ### entering -/
def Kd (M : Nat) (g : List Nd) : Prop := ∀ q ∈ g, q.fe.length ≤ M
def Ent (M : Nat) (g : List Nd) (c : List Int) (n : Nat) (i : Int) (g' : List Nd) (c' : List Int) : Prop := StG g' c' ∧ Kd M g' ∧ (∃ e, g' = g ++ e ∧ e.length ≤ n ∧ c' = c ++ (List.range' g.length e.length).map fun (x : Nat) => (x : Int)) ∧ 0 ≤ i ∧ i < g'.length
def zah (M : Nat) (g : List Nd) (c : List Int) (n : Nat) (g' : List Nd) (c' : List Int) : Prop := StG g' c' ∧ Kd M g' ∧ ∃ e, g' = g ++ e ∧ e.length ≤ n ∧ c' = c ++ (List.range' g.length e.length).map fun (x : Nat) => (x : Int)
theorem zah.rfl' {M : Nat} {g : List Nd} {c : List Int} (h : StG g c) (k : Kd M g) (n : Nat) : zah M g c n g c := ⟨h, k, [], by simp, by simp, by simp⟩
theorem zah.trans {M : Nat} {g g1 g2 : List Nd} {c c1 c2 : List Int} {m n : Nat} (h : zah M g c m g1 c1) (k : zah M g1 c1 n g2 c2) : zah M g c (m + n) g2 c2 := by
 obtain ⟨_, _, e, rfl, he, rfl⟩ := h
 obtain ⟨a, b, f, rfl, hf, rfl⟩ := k
 refine ⟨a, b, e ++ f, by rw [ji], by rw [je]; omega, ?_⟩
 rw [je, je, ← List.range'_append, jK, ji]
 simp
theorem zah.more {M : Nat} {g g1 : List Nd} {c c1 : List Int} {m n : Nat} (h : zah M g c m g1 c1) (hm : m ≤ n) : zah M g c n g1 c1 := by
 obtain ⟨a, b, e, rfl, he, rfl⟩ := h
 exact ⟨a, b, e, rfl, by omega, rfl⟩
theorem zah.le {M : Nat} {g g1 : List Nd} {c c1 : List Int} {m : Nat} (h : zah M g c m g1 c1) : g.length ≤ g1.length ∧ g1.length ≤ g.length + m := by
 obtain ⟨a, b, e, rfl, he, rfl⟩ := h
 rw [je]
 omega
theorem StG.snoc {g : List Nd} {c : List Int} (h : StG g c) {q : Nd} (hq : ∀ k ∈ q.fe, 0 ≤ k ∧ k < g.length) : StG (g ++ [q]) (c ++ [(g.length : Int)]) := by
 have hl := h.len
 refine ⟨by simp [hl], fun v hv => ?_, fun v hv => ?_, fun p hp k hk => ?_⟩
 rw [je, jp]
 rcases jl.1 hv with hv | hv
 have := h.cls v hv
 omega
 rw [jn.1 hv]
 omega
 rcases jl.1 hv with hv | hv
 exact qCJ (h.idem v hv)
 rw [jn.1 hv, ← hl]
 exact qAu
 rw [je, jp]
 rcases jl.1 hp with hp | hp
 have := h.kid p hp k hk
 omega
 rw [jn.1 hp] at hk
 have := hq k hk
 omega
abbrev EnR := Option (Int × List Nd × List Int)
theorem qw3 (t : T) (g0 : List Nd) (c0 : List Int) (k : EnR) : ∀ (l : List Nd) (i : Nat), qE k g0 c0 t l i = k ∨ ∃ j q, qE k g0 c0 t l i = some (((i + j : Nat) : Int), g0, c0) ∧ l[j]? = some q ∧ q.fa = 1 ∧ q.fj = t.i
 | [], i => .inl (by rw [qE])
 | q :: l, i => by
  rw [qE]
  have next : qE k g0 c0 t l (i + 1) = k ∨ ∃ j q', qE k g0 c0 t l (i + 1) = some (((i + j : Nat) : Int), g0, c0) ∧ (q :: l)[j]? = some q' ∧ q'.fa = 1 ∧ q'.fj = t.i := by
   rcases qw3 t g0 c0 k l (i + 1) with h | ⟨j, q', h1, h2, h3⟩
   exact .inl h
   exact .inr ⟨j + 1, q', by rw [h1, show i + 1 + j = i + (j + 1) by omega], by simpa using h2, h3⟩
  by_cases h1 : q.fa = 1
  · rw [uT h1, cond_true]
    by_cases h2 : q.fj = t.i
    · rw [uT h2, cond_true]
      exact .inr ⟨0, q, rfl, rfl, h1, h2⟩
    · rw [uF h2, cond_false]
      exact next
  · rw [uF h1, cond_false]
    exact next
inductive Rp (g : List Nd) : Int → T → Prop
 | mk (i : Int) (q : Nd) (t : T) : zi g i = some q → q.fa = t.k → q.fj = t.i → q.fF = t.s → q.fe.length = t.ar.length → (∀ n a u, zi q.fe n = some a → zi t.ar n = some u → Rp g a u) → Rp g i t
theorem Rp.more {g : List Nd} (e : List Nd) {i : Int} {t : T} (h : Rp g i t) : Rp (g ++ e) i t := by
 induction h with
 | mk i q t h1 h2 h3 h4 h5 _ ih => exact .mk i q t (qCJ h1) h2 h3 h4 h5 ih
def zbG (g : List Nd) : Prop := ∀ q ∈ g, q.fa = 1 → q.fF = ⟨#[]⟩ ∧ q.fe = []
def zaN (g : List Nd) : Prop := ∀ i q, zi g i = some q → ∃ t, Rp g i t
theorem zaN.nil : zaN [] := fun i q h => absurd (qfM h) og
theorem zaN.snoc {g : List Nd} (h : zaN g) {q : Nd} {t : T} (hr : Rp (g ++ [q]) (g.length : Int) t) : zaN (g ++ [q]) := fun i p hp => by
 obtain ⟨h0, h1, _⟩ := qkT hp
 rw [je, jp] at h1
 by_cases e : i = (g.length : Int)
 rw [e]
 exact ⟨t, hr⟩
 obtain ⟨p', hp', _⟩ := yo (l := g) (i := i) h0 oa
 obtain ⟨u, hu⟩ := h i p' hp'
 exact ⟨u, hu.more _⟩
theorem qxt {M : Nat} {rec : T → List Nd → List Int → EnR} (k : List Nd → List Int → Int → Int → ByteArray → List Int → EnR) (k1 k2 : Int) (s : ByteArray) :
 ∀ (l : List T) (g : List Nd) (c : List Int) (kids : List Int), (∀ t ∈ l, ∀ g c, StG g c → Kd M g → zbG g → g.length + wt t ≤ 1000000000 → ∃ i g' c', rec t g c = some (i, g', c') ∧ Ent M g c (wt t) i g' c' ∧ zbG g' ∧ Rp g' i t ∧ (zaN g → zaN g')) → StG g c → Kd M g → zbG g → g.length + wtL l ≤ 1000000000 → kids.length + l.length ≤ 1000000000 → (∀ a ∈ kids, 0 ≤ a ∧ a < g.length) →
 ∃ g' c' ks, qP k rec l g c k1 k2 s kids = k g' c' k1 k2 s (kids ++ ks) ∧ zah M g c (wtL l) g' c' ∧ zbG g' ∧ ks.length = l.length ∧ (∀ a ∈ kids ++ ks, 0 ≤ a ∧ a < g'.length) ∧ (∀ (n : Nat) a u, ks[n]? = some a → l[n]? = some u → Rp g' a u) ∧ (zaN g → zaN g')
 | [], g, c, kids, _, hs, hk, hv, _, _, hb => ⟨g, c, [], by rw [qP, js], zah.rfl' hs hk _, hv, rfl, by simpa using hb, fun n a u h => by simp at h, id⟩
 | t :: l, g, c, kids, hr, hs, hk, hv, hw, hl, hb => by
  rw [wtL] at hw
  rw [jg] at hl
  obtain ⟨i, g1, c1, e1, h1, v1, r1, q1⟩ := hr t (jd ..) g c hs hk hv oa
  obtain ⟨a1, b1, x1, i0, i1⟩ := h1
  have E1 : zah M g c (wt t) g1 c1 := ⟨a1, b1, x1⟩
  have hle := E1.le
  obtain ⟨g2, c2, ks, e2, E2, v2, l2, b2, r2, q2⟩ := qxt k k1 k2 s l g1 c1 (kids ++ [i]) (fun t ht => hr t (jf _ ht)) a1 b1 v1 oa (by rw [je, jp]; omega) (fun a ha => by
   rcases jl.1 ha with ha | ha
   have := hb a ha
   omega
   rw [jn.1 ha]
   exact ⟨i0, i1⟩)
  refine ⟨g2, c2, i :: ks, ?_, E1.trans E2, v2, by simp [l2], by simpa using b2, ?_, fun h => q2 (q1 h)⟩
  rw [qP, e1, ja, qf9 oa (n := l.length) oa, ja, e2, ji, vz]
  intro n a u ha hu
  cases n with
  | zero =>
   simp only [vJ, Option.some.injEq] at ha hu
   subst ha hu
   obtain ⟨_, _, e, rfl, _⟩ := E2
   exact r1.more e
  | succ n => exact r2 n a u (by simpa using ha) (by simpa using hu)
inductive yM : T → Prop
 | mk (t : T) : (t.k = 1 → t.s = ⟨#[]⟩ ∧ t.ar = []) → (∀ u ∈ t.ar, yM u) → yM t
theorem qiF {M : Nat} : ∀ (fuel : Nat) (t : T) (g : List Nd) (c : List Int), yM t → wt t < fuel → wt t ≤ M → StG g c → Kd M g → zbG g → g.length + wt t ≤ 1000000000 →
 ∃ i g' c', qar fuel t g c = some (i, g', c') ∧ Ent M g c (wt t) i g' c' ∧ zbG g' ∧ Rp g' i t ∧ (zaN g → zaN g')
 | 0, _, _, _, _, h, _, _, _, _, _ => absurd h (vh _)
 | fuel + 1, t, g, c, hok, hf, hM, hs, hk, hv, hw => by
  obtain ⟨_, hv1, hv2⟩ := hok
  have hwt := qiI t
  have hlen := qhi t.ar
  have main : ∃ i g' c', qP (fun g18 g19 x21 x22 x23 x24 => ((zF 56 g18 [(⟨x21, x22, x23, x24⟩ : qb)]).bind fun l25 => ((zF 8 g19 [(wr ((l25.length : Int) - (1 : Int)))]).bind fun l27 => some ((wr ((l25.length : Int) - (1 : Int))), l25, l27)))) (qar fuel) t.ar g c t.k t.i t.s [] = some (i, g', c') ∧ Ent M g c (wt t) i g' c' ∧ zbG g' ∧ Rp g' i t ∧ (zaN g → zaN g') := by
   obtain ⟨g1, c1, ks, e1, E1, v1, l1, b1, r1, q1⟩ := qxt (M := M) (rec := qar fuel) (fun g18 g19 x21 x22 x23 x24 => ((zF 56 g18 [(⟨x21, x22, x23, x24⟩ : qb)]).bind fun l25 => ((zF 8 g19 [(wr ((l25.length : Int) - (1 : Int)))]).bind fun l27 => some ((wr ((l25.length : Int) - (1 : Int))), l25, l27)))) t.k t.i t.s t.ar g c [] (fun u hu g c h1 h2 h3 h4 => qiF fuel u g c (hv2 u hu) (by have := qyg hu; omega) (by have := qyg hu; omega) h1 h2 h3 h4) hs hk hv oa oe og
   rw [jo] at e1 b1
   obtain ⟨s1, k1, x, hx, hxl, hc⟩ := E1
   have hl1 := s1.len
   have hg1 : g1.length ≤ g.length + wtL t.ar := by rw [hx, je]; omega
   have ha : zF 56 g1 [(⟨t.k, t.i, t.s, ks⟩ : Nd)] = some (g1 ++ [⟨t.k, t.i, t.s, ks⟩]) := qf9 oa (n := 0) oa
   have hwr : wr (((g1 ++ [(⟨t.k, t.i, t.s, ks⟩ : Nd)]).length : Int) - 1) = (g1.length : Int) := by
    rw [je, jp, qgA oa]
    omega
   have hb : zF 8 c1 [((g1.length : Nat) : Int)] = some (c1 ++ [((g1.length : Nat) : Int)]) := qf9 oa (n := 0) oa
   have hR : Rp (g1 ++ [(⟨t.k, t.i, t.s, ks⟩ : Nd)]) (g1.length : Int) t := by
    refine .mk _ ⟨t.k, t.i, t.s, ks⟩ t ?_ rfl rfl rfl l1 fun n a u ha hu => ?_
    rw [← js [(⟨t.k, t.i, t.s, ks⟩ : Nd)]]
    exact qAu (done := g1) (ts := [])
    exact (r1 n.toNat a u (qbV ha).2 (qbV hu).2).more _
   refine ⟨(g1.length : Int), g1 ++ [⟨t.k, t.i, t.s, ks⟩], c1 ++ [(g1.length : Int)], ?_, ⟨s1.snoc b1, ?_, ⟨x ++ [⟨t.k, t.i, t.s, ks⟩], ?_, ?_, ?_⟩, by omega, ?_⟩, ?_, hR, fun h => (q1 h).snoc hR⟩
   rw [e1, ha, ja, hwr, hb, ja]
   intro q hq
   rcases jl.1 hq with hq | hq
   exact k1 q hq
   rw [jn.1 hq]
   show ks.length ≤ M
   omega
   rw [hx, ji]
   rw [je, jp]
   omega
   rw [hc, je, jp, List.range'_concat, jK, ji]
   congr 3
   simp [hx]
   rw [je, jp]
   omega
   intro q hq hq1
   rcases jl.1 hq with hq | hq
   exact v1 q hq hq1
   rw [jn.1 hq] at hq1 ⊢
   obtain ⟨h1, h2⟩ := hv1 hq1
   refine ⟨h1, ?_⟩
   rw [h2] at l1
   exact jA l1
  rw [qar]
  dsimp only
  unfold qcv
  by_cases h1 : t.k = 1
  rw [uT h1, cond_true]
  rcases qw3 t g c _ g 0 with h | ⟨j, q, h, hj, hq1, hq2⟩
  rw [h]
  exact main
  have hjl := (jt.1 hj).1
  obtain ⟨hs1, hs2⟩ := hv1 h1
  obtain ⟨hn1, hn2⟩ := hv q (List.mem_of_getElem? hj) hq1
  refine ⟨_, g, c, h, ⟨hs, hk, ⟨[], by simp, by simp, by simp⟩, by omega, by omega⟩, hv, .mk _ q t (by rw [qdQ, ju]; exact hj) (by rw [hq1, h1]) hq2 (by rw [hn1, hs1]) (by rw [hn2, hs2]; rfl) fun n a u ha => ?_, id⟩
  rw [hn2] at ha
  exact absurd (qfM ha) og
  rw [uF h1, cond_false]
  exact main
end Go.Proofs.YtamoolpdganckaaGreat
