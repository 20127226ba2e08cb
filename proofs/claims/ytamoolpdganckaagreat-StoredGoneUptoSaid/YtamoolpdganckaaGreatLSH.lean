/-
 Texts of the seat, merged.
-/
import Derived.Test.YtamoolpdganckaaGreatLSG
set_option linter.unusedVariables false
set_option linter.unusedSimpArgs false
set_option linter.unnecessarySimpa false
set_option linter.all false
set_option maxHeartbeats 8000000
namespace Go.Proofs.YtamoolpdganckaaGreat
set_option maxRecDepth 100000
open Go.RowKit
theorem qCb : ZeroM Tryz.prog 154 (.agg []) := ⟨.agg #[], by kernel_rfl, fun _ _ => by simp only [Rep]; exact ⟨[], rfl, zu.nil _ _, by simp⟩⟩
structure qA where
 fM : qt
 f1_rule : qk
def qbb (x : qA) : D := .agg [qbn x.fM, ql x.f1_rule]
theorem qed (x : qA) : sz (qbb x) = 9 := by
 simp only [qbb, sz, szs, qd8, qek]
theorem qmG : z7 Tryz.prog 124 (.nilm) := .val (.map none) rfl ob rfl
noncomputable def qgA (a0 : ByteArray) (a1 : List T) : Option T :=
 ((zz 56 [] a1).bind fun l3 =>
 some ((T.mk 2 0 a0 l3)))
theorem ql4 (a0 : ByteArray) (a1 : List T) (res : T) (hr : qgA a0 a1 = some res) : zg Tryz.prog 27 [.str a0, .lst (a1.map zl)] (zl res) := by
 unfold qgA at hr
 refine qC Tryz.func27 rfl fun K hK hF => (qaC (zf 1 1 (ew rfl (qbi rfl qeH) ?_)))
 rintro _ _ ⟨b4_0, rfl, rfl⟩
 refine st0 ?_
 refine zf 6 1092 (qg 1 rfl (ew rfl (qnj rfl qba rfl) ?_))
 rintro _ _ ⟨u6_1, rfl, rfl⟩
 refine qg 1 rfl ?_
 obtain ⟨l3, h3, hr⟩ := zb hr
 refine ew rfl (qau (f := zl) [] a1 rfl qba rfl rfl (asl rfl) (pf0 _) rfl qcR h3) ?_
 rintro _ _ ⟨u8_3, rfl, rfl⟩
 refine rd rfl (qbz rfl qgd (.oc rfl (.oc rfl (.cons rfl (Wk.own _ _) .nil))) (.cons rfl rfl rfl (.cons rfl rfl rfl (.cons rfl rfl rfl (.nil _))))) (qcw rfl (pf1 _ _ _) (qax ?_))
 cases hr
 refine qbg Tryz.func27 _ (.cons (zp rfl (.head _) (by exact qdy) rfl (Wk.refl _)) .nil) ?_
 first | rfl | (show _ = D.agg (fsT _); rw [qeS] <;> rfl) | simp [yL, zl, qeS, T.k, T.i, T.s, T.ar]
noncomputable def qgS (a0 : Int) : Option (List At) :=
 ((qdA a0).bind fun r1 =>
 some ([(⟨⟨#[112]⟩, [r1]⟩ : At)]))
theorem qgV (a0 : Int) (res : List At) (hr : qgS a0 = some res) : zg Tryz.prog 29 [.int .i64 a0] (.lst (res.map zU)) := by
 unfold qgS at hr
 refine qC Tryz.func29 rfl fun K hK hF => ?_
 refine st ?_
 refine zk hr rfl qec (qee _) (fun r1 h1 hr => ?_)
 refine rd rfl (qe2 (f := zl) [.tmp 4] [r1] rfl qba rfl rfl od od (.oc rfl .nil) qcR (fun _ => rfl)) (rd rfl (qbz rfl qjH (.oc rfl (.cons rfl (Wk.full _) .nil)) (.cons rfl rfl rfl (.cons rfl rfl rfl (.nil _)))) (rd rfl (qe2 (f := zU) [.tmp 6] [(⟨⟨#[112]⟩, [r1]⟩ : At)] rfl qd5 rfl rfl od od (.oc rfl .nil) qen (fun _ => rfl)) ?_))
 refine st ?_
 cases hr
 refine qbg Tryz.func29 _ (.cons (za rfl (Wk.full _)) .nil) ?_
 rfl
noncomputable def qcL (a1 : Int) (s0 : List (Int × Unit)) : Option (Bool × (List (Int × Unit))) :=
 (bif ((zx s0 a1).isSome) then
 some (false, s0)
 else
 ((zbr s0 a1 ()).bind fun m3 =>
 some (true, m3)))
theorem qfE (a1 : Int) (s0 : List (Int × Unit)) (m_o0 : Nat) (res : Bool × (List (Int × Unit))) (hr : qcL a1 s0 = some res) : Spec Tryz.prog 65 [.map m_o0, .int .i64 a1] [.map m_o0 (z9 (D.int .i64) y4 s0)] (fun d σ => d = .bool res.1 ∧ σ = [.map m_o0 (z9 (D.int .i64) y4 res.2)]) := by
 unfold qcL at hr
 refine qC Tryz.func65 rfl fun K hK hF => ?_
 refine st0 ?_
 refine quP 1 ?_
 refine st0 ?_
 refine zf 9 20512 (qg 2 rfl (er rfl (qx7 (key := (D.int .i64)) (g := y4) s0 a1 () rfl Tryz.underlying124 (zbS Tryz.underlying3) qCb rfl rfl (.head _)) (qg 3 rfl (ew rfl (qbi rfl qCF) ?_))))
 rintro _ _ ⟨b5_0, rfl, rfl⟩
 refine z8 rfl (qgk _ rfl rfl rfl (Wk.refl _) (pf0 _) (by exact qB0) (qCc _) rfl rfl) (qg 1 rfl (qax (qbR 5 b5_0 rfl (pf0 _) ?_)))
 refine st ?_
 refine zi 13 rfl hr (fun h13_1 hr => ?_) (fun h13_1 hr => ?_)
 refine st ?_
 cases hr
 refine qiP Tryz.func65 rfl ?_
 exact ⟨rfl, rfl⟩
 refine st0 ?_
 refine zf 4 64 (qg 2 rfl (rd rfl (qbz rfl qx0 .nil (.nil _)) ?_))
 obtain ⟨m3, h3, hr⟩ := zb hr
 refine z8 rfl (quH (key := (D.int .i64)) (g := y4) s0 a1 () rfl Tryz.underlying124 (zbS Tryz.underlying3) rfl rfl rfl (Wk.refl _) (pf0 _) h3) ?_
 refine st ?_
 cases hr
 refine qiP Tryz.func65 rfl ?_
 exact ⟨rfl, rfl⟩
noncomputable def qcN (k : Option Bool) : List Gl → (List (Int × Unit)) → Option Bool
 | [], m7 =>
 k
 | q_8 :: rest, m7 =>
 ((qhY q_8).bind fun r10 =>
 (bif (!r10) then
 some (false)
 else
 (bif (q_8.op == (1 : Int)) then
 (qcN k rest m7)
 else
 (bif (q_8.op != (4 : Int)) then
 some (false)
 else
 ((zh q_8.ts 0).bind fun q_14 =>
 (bif (q_14.k != (1 : Int)) then
 some (false)
 else
 ((qcL q_14.i m7).bind fun r16 =>
 (bif (!r16.1) then
 some (false)
 else
 (qcN k rest r16.2)))))))))
noncomputable def qdI (k : ((List (Int × Unit))) → Option Bool) : List Int → (List (Int × Unit)) → Option Bool
 | [], m22 =>
 (k m22)
 | q_24 :: rest, m22 =>
 ((qcL q_24 m22).bind fun r25 =>
 (qdI k rest r25.2))
noncomputable def qde (k : ((List (Int × Unit))) → Option Bool) : List At → (List (Int × Unit)) → Option Bool
 | [], m4 =>
 (k m4)
 | q_18 :: rest, m4 =>
 ((qu4 q_18).bind fun r20 =>
 (qdI (fun m23 =>
 (qde k rest m23)) r20 m4))
noncomputable def qfu (a0 : qk) : Option Bool :=
 ((qfU a0).bind fun r2 =>
 (qde (fun m5 =>
 (qcN (some (true)) a0.fp m5)) r2 []))
theorem qjL (a0 : qk) (a : Bool) (hr : qfu a0 = some a) : zg Tryz.prog 30 [ql a0] (.bool a) := by
 unfold qfu at hr
 refine qC Tryz.func30 rfl fun K y z => ?_
 refine st ?_
 refine rd rfl (qcA rfl rfl rfl) ?_
 refine st0 ?_
 refine zf 2 1 (ew rfl (qtn (α := Int) (β := Unit) (key := (D.int .i64)) (g := y4) rfl) ?_)
 rintro _ _ ⟨m10_0, rfl, rfl⟩
 refine st ?_
 refine zk hr rfl qkp (qko _) (fun r2 h2 hr => ?_)
 refine st ?_
 obtain ⟨e, l, hr⟩ := exK (fun k => qde k r2 []) hr
 refine qc5 12 rfl (asl rfl) fun m => ?_
 simp only [jd] at m
 refine qz (fun env σ => ∃ (m5 : List (Int × Unit)), env = [(1, .ptr (ql a0)), (3, .map m10_0)] ∧ σ = [.map m10_0 (z9 (D.int .i64) y4 m5)] ∧ e m5 = some a) ?_ (fun A => ?_)
 rintro _ _ ⟨m5, rfl, rfl, hr⟩
 rw [l] at hr
 refine st ?_
 obtain ⟨h, o, hr⟩ := exK (fun k => qcN k a0.fp m5) hr
 refine qc5 31 rfl (asl rfl) fun p => ?_
 simp only [jd] at p
 refine qz (fun env σ => env = [] ∧ σ = [] ∧ h = some a) ?_ (fun q => ?_)
 rintro _ _ ⟨rfl, rfl, hr⟩
 rw [o] at hr
 exact fin hr
 refine qbc [3, 31, 32, 33] rfl (qal (fun n env σ => ∃ (i6 : Nat) (m7 : List (Int × Unit)), n = a0.fp.length - i6 ∧ (env = [(3, .map m10_0), (31, .lst (a0.fp.map zB)), (32, .int .i64 (a0.fp.length : Int)), (33, .int .i64 (i6 : Int))]) ∧ (σ = [.map m10_0 (z9 (D.int .i64) y4 m7)]) ∧ (i6 ≤ a0.fp.length) ∧ (qcN h (a0.fp.drop i6) m7 = some a)) _ ⟨0, m5, rfl, rfl, rfl, jf _, hr⟩ ?_)
 rintro n _ _ ⟨i6, m7, rfl, rfl, rfl, r, hr⟩ B
 rcases zd a0.fp i6 r with ⟨i, b, C⟩ | ⟨q_8, i, b, E, F⟩
 rw [b, qcN] at hr
 refine qaC (zf 1 0 (qg 1 rfl (qax (qaC (qp0 34 false rfl i (qf4 rfl (qmL rfl (qbc [] rfl (qcz [] _ (pf0 _) ?_)))))))))
 exact q _ _ ⟨rfl, rfl, hr⟩
 rw [b, qcN] at hr
 refine st ?_
 refine qD (qaC (zf 4 80 ?_))
 refine st ?_
 refine ew rfl (qbi rfl qiw) ?_
 rintro _ _ ⟨b9_8, rfl, rfl⟩
 refine qcw rfl (pf0 _) (qax (qbR 9 b9_8 rfl (pf0 _) (qD ?_)))
 refine st ?_
 obtain ⟨r10, h10, hr⟩ := zb hr
 refine qem rfl qnM (qnP _ _ h10) ?_
 refine st ?_
 refine zi 37 rfl hr (fun _ hr => ?_) (fun _ hr => ?_)
 exact fin hr
 refine st ?_
 refine zi 41 rfl hr (fun _ hr => ?_) (fun _ hr => ?_)
 exact fin hr
 refine st ?_
 refine zi 45 rfl hr (fun _ hr => ?_) (fun _ hr => ?_)
 exact fin hr
 refine st ?_
 obtain ⟨q_14, h14, hr⟩ := zb hr
 refine qop h14 rfl (rd rfl (qH rfl qcn rfl (qfJ _) (qfM _) rfl) ?_)
 refine st ?_
 refine zi 45 rfl hr (fun _ hr => ?_) (fun _ hr => ?_)
 exact fin hr
 refine qf4 rfl (zf 9 4096 ?_)
 refine st ?_
 refine rd rfl (qH rfl qcP rfl (qgx _) (qge _) rfl) (qg 1 rfl ?_)
 obtain ⟨r16, h16, hr⟩ := zb hr
 refine ew rfl (qiL _ rfl qgw (.oc rfl (.oc rfl .nil)) (by exact (pf0 _)) (qfE _ _ _ _ h16)) ?_
 rintro _ _ ⟨_, ⟨rfl, rfl⟩, rfl⟩
 refine zav ((.map m10_0 (z9 (D.int .i64) y4 r16.2)) :: _) rfl ?_
 refine st ?_
 refine zi 45 rfl hr (fun _ hr => ?_) (fun _ hr => ?_)
 exact fin hr
 exact fin hr
 refine qbc [1, 3, 12, 13, 14] rfl (qal (fun n env σ => ∃ (i3 : Nat) (m4 : List (Int × Unit)), n = r2.length - i3 ∧ (env = [(1, .ptr (ql a0)), (3, .map m10_0), (12, .lst (r2.map zU)), (13, .int .i64 (r2.length : Int)), (14, .int .i64 (i3 : Int))]) ∧ (σ = [.map m10_0 (z9 (D.int .i64) y4 m4)]) ∧ (i3 ≤ r2.length) ∧ (qde e (r2.drop i3) m4 = some a)) _ ⟨0, [], rfl, rfl, rfl, jf _, hr⟩ ?_)
 rintro n _ _ ⟨i3, m4, rfl, rfl, rfl, s, hr⟩ G
 rcases zd r2 i3 s with ⟨t, c, H⟩ | ⟨q_18, t, c, I, J⟩
 rw [c, qde] at hr
 exact fin hr
 rw [c, qde] at hr
 refine st ?_
 refine qD (qaC (zf 4 80 ?_))
 refine st ?_
 refine ew rfl (qbi rfl qfQ) ?_
 rintro _ _ ⟨b5_18, rfl, rfl⟩
 refine qcw rfl (pf0 _) (qax (qbR 5 b5_18 rfl (pf0 _) ?_))
 refine st ?_
 obtain ⟨r20, h20, hr⟩ := zb hr
 refine qem rfl qot (qos _ _ h20) ?_
 refine st ?_
 obtain ⟨j, u, hr⟩ := exK (fun k => qdI k r20 m4) hr
 refine qc5 19 rfl (asl rfl) fun v => ?_
 simp only [jd] at v
 refine qz (fun env σ => ∃ (m23 : List (Int × Unit)), env = [(1, .ptr (ql a0)), (3, .map m10_0), (12, .lst (r2.map zU)), (13, .int .i64 (r2.length : Int)), (14, .int .i64 (i3 : Int))] ∧ σ = [.map m10_0 (z9 (D.int .i64) y4 m23)] ∧ j m23 = some a) ?_ (fun L => ?_)
 rintro _ _ ⟨m23, rfl, rfl, hr⟩
 rw [u] at hr
 exact fin hr
 refine qbc [1, 3, 12, 13, 14, 19, 20, 21] rfl (qal (fun n env σ => ∃ (i21 : Nat) (m22 : List (Int × Unit)), n = r20.length - i21 ∧ (env = [(1, .ptr (ql a0)), (3, .map m10_0), (12, .lst (r2.map zU)), (13, .int .i64 (r2.length : Int)), (14, .int .i64 (i3 : Int)), (19, .lst (r20.map (D.int .i64))), (20, .int .i64 (r20.length : Int)), (21, .int .i64 (i21 : Int))]) ∧ (σ = [.map m10_0 (z9 (D.int .i64) y4 m22)]) ∧ (i21 ≤ r20.length) ∧ (qdI j (r20.drop i21) m22 = some a)) _ ⟨0, m4, rfl, rfl, rfl, jf _, hr⟩ ?_)
 rintro n _ _ ⟨i21, m22, rfl, rfl, rfl, w, hr⟩ M
 rcases zd r20 i21 w with ⟨x, d, N⟩ | ⟨q_24, x, d, O, P⟩
 rw [d, qdI] at hr
 exact fin hr
 rw [d, qdI] at hr
 refine st ?_
 refine qD ?_
 refine st0 ?_
 refine quP 3 ?_
 refine st0 ?_
 refine zf 3 16 (qg 2 rfl ?_)
 obtain ⟨r25, h25, hr⟩ := zb hr
 refine ew rfl (qiL _ rfl qgw (.oc rfl (.oc rfl .nil)) (by exact (pf0 _)) (qfE _ _ _ _ h25)) ?_
 rintro _ _ ⟨_, ⟨rfl, rfl⟩, rfl⟩
 refine zav ((.map m10_0 (z9 (D.int .i64) y4 r25.2)) :: _) rfl ?_
 exact fin hr
noncomputable def qeG (k : List qA → Option (List qA)) (a0 : qc) : List qt → List qA → Option (List qA)
 | [], l5 =>
 (k l5)
 | q_9 :: rest, l5 =>
 ((zh a0.fc q_9.fy).bind fun q_11 =>
 ((zz 144 l5 [(⟨q_9, q_11⟩ : qA)]).bind fun l12 =>
 (qeG k a0 rest l12)))
noncomputable def qhA (a0 : qc) (a1 : ByteArray) (a2 : Int) : Option (List qA) :=
 ((qpa a0 a1 a2).bind fun r3 =>
 (qeG (fun l8 =>
 some (l8)) a0 r3 []))
theorem qoi (a0 : qc) (a1 : ByteArray) (a2 : Int) (a : List qA) (hr : qhA a0 a1 a2 = some a) : zg Tryz.prog 35 [qf a0, .str a1, .int .i64 a2] (.lst (a.map qbb)) := by
 unfold qhA at hr
 refine qC Tryz.func35 rfl fun K i j => (qaC (zf 2 4 (rd rfl (qcA rfl rfl rfl) (ew rfl (qL 96 9 (.inl rfl)) ?_))))
 rintro _ _ ⟨u6_0, rfl, rfl⟩
 refine st0 ?_
 refine zf 1 1 (ew rfl (qL 96 9 (.inl rfl)) ?_)
 rintro _ _ ⟨u7_1, rfl, rfl⟩
 refine st ?_
 obtain ⟨r3, h3, hr⟩ := zb hr
 refine qem rfl quS (quu _ _ _ _ h3) ?_
 refine st ?_
 obtain ⟨c, d, hr⟩ := exK (fun k => qeG k a0 r3 []) hr
 refine qc5 13 rfl (asl rfl) fun e => ?_
 simp only [jd] at e
 refine qz (fun env σ => ∃ (l8 : List qA) (u7 : Value), env = [(7, .own u7 (l8.map qbb))] ∧ σ = [.row u7 l8.length 96 9] ∧ c l8 = some a) ?_ (fun l => ?_)
 rintro _ _ ⟨l8, u7, rfl, rfl, hr⟩
 rw [d] at hr
 refine st ?_
 cases hr
 refine qbg Tryz.func35 _ (.cons (za rfl (Wk.own _ _)) .nil) ?_
 rfl
 refine qbc [3, 13, 14, 7, 15] rfl (qcz [_] _ (pf0 _) (qal (fun n env σ => ∃ (l5 : List qA) (i6 : Nat) (u4 : Value), n = r3.length - i6 ∧ (env = [(3, .ptr (qf a0)), (13, .lst (r3.map qbn)), (14, .int .i64 (r3.length : Int)), (7, .own u4 (l5.map qbb)), (15, .int .i64 (i6 : Int))]) ∧ (σ = [.row u4 l5.length 96 9]) ∧ (i6 ≤ r3.length) ∧ (qeG c a0 (r3.drop i6) l5 = some a)) _ ⟨[], 0, u7_1, rfl, rfl, rfl, jf _, hr⟩ ?_))
 rintro n _ _ ⟨l5, i6, u4, rfl, rfl, rfl, g, hr⟩ m
 rcases zd r3 i6 g with ⟨h, b, o⟩ | ⟨q_9, h, b, p, q⟩
 rw [b, qeG] at hr
 exact fin hr
 rw [b, qeG] at hr
 refine st ?_
 refine qD (qaC (zf 4 80 ?_))
 refine st ?_
 refine ew rfl (qbi rfl qrk) ?_
 rintro _ _ ⟨b9_9, rfl, rfl⟩
 refine qcw rfl (pf0 _) (qax (qbR 9 b9_9 rfl (pf0 _) (qea 12 1048576 (qg 6 rfl ?_))))
 obtain ⟨q_11, h11, hr⟩ := zb hr
 refine st ?_
 refine rd rfl (qbz rfl qiZ (.oc rfl (.oc rfl .nil)) (.cons rfl (qd8 _) rfl (.cons rfl (qek _) rfl (.nil _)))) (rd rfl (qe2 (f := qbb) [.tmp 27] [(⟨q_9, q_11⟩ : qA)] rfl qgz rfl rfl od od (.oc rfl .nil) qed (fun _ => rfl)) ?_)
 obtain ⟨l12, h12, hr⟩ := zb hr
 refine ew rfl (qau (f := qbb) l5 [(⟨q_9, q_11⟩ : qA)] rfl qgz rfl rfl (asl rfl) (pf0 _) rfl qed h12) ?_
 rintro _ _ ⟨u29_12, rfl, rfl⟩
 exact fin hr
noncomputable def qdE (a0 : T) (s0 : List (Int × Unit)) : Option (Bool × (List (Int × Unit))) :=
 (bif (a0.k != (1 : Int)) then
 some (true, s0)
 else
 ((qcL a0.i s0).bind fun r2 =>
 some ((!r2.1), r2.2)))
theorem qh8 (a0 : T) (s0 : List (Int × Unit)) (m_o0 : Nat) (res : Bool × (List (Int × Unit))) (hr : qdE a0 s0 = some res) : Spec Tryz.prog 82 [zl a0, .ptr (.map m_o0)] [.map m_o0 (z9 (D.int .i64) y4 s0)] (fun d σ => d = .bool res.1 ∧ σ = [.map m_o0 (z9 (D.int .i64) y4 res.2)]) := by
 unfold qdE at hr
 refine qC Tryz.func82 rfl fun K hK hF => ?_
 refine st ?_
 refine rd rfl (qcA rfl rfl rfl) ?_
 refine st0 ?_
 refine zf 11 16384 (rd rfl (qH rfl qcn rfl (qfJ _) (qfM _) rfl) (qg 3 rfl ?_))
 refine zt 7 rfl hr (fun h7_0 hr => ?_) (fun h7_0 hr => ?_)
 refine st ?_
 cases hr
 refine qiP Tryz.func82 rfl ?_
 exact ⟨rfl, rfl⟩
 refine qg 1 rfl (rd rfl (qH rfl qcP rfl (qgx _) (qge _) rfl) (qg 1 rfl ?_))
 obtain ⟨r2, h2, hr⟩ := zb hr
 refine ew rfl (qiL _ rfl qgw (.oc rfl (.oc rfl .nil)) (by exact (pf0 _)) (qfE _ _ _ _ h2)) ?_
 rintro _ _ ⟨_, ⟨rfl, rfl⟩, rfl⟩
 refine zav ((.map m_o0 (z9 (D.int .i64) y4 r2.2)) :: _) rfl ?_
 refine st ?_
 cases hr
 refine qiP Tryz.func82 rfl ?_
 exact ⟨rfl, rfl⟩
noncomputable def qb5 (k : ((List (Int × Unit))) → Option (Int × (List (Int × Unit)))) : List T → Nat → (List (Int × Unit)) → Option (Int × (List (Int × Unit)))
 | [], i1, m2 =>
 (k m2)
 | q_4 :: rest, i1, m2 =>
 ((qdE q_4 m2).bind fun r5 =>
 (bif r5.1 then
 some ((i1 : Int), r5.2)
 else
 (qb5 k rest (i1 + 1) r5.2)))
noncomputable def qfv (a0 : List T) (s0 : List (Int × Unit)) : Option (Int × (List (Int × Unit))) :=
 (qb5 (fun m3 =>
 some ((-1), m3)) a0 0 s0)
theorem ql8 (a0 : List T) (s0 : List (Int × Unit)) (m_o0 : Nat) (a : Int × (List (Int × Unit))) (hr : qfv a0 s0 = some a) : Spec Tryz.prog 119 [.lst (a0.map zl), .clo (.func 82) [] [.ptr (.map m_o0)]] [.map m_o0 (z9 (D.int .i64) y4 s0)] (fun d σ => d = .int .i64 a.1 ∧ σ = [.map m_o0 (z9 (D.int .i64) y4 a.2)]) := by
 unfold qfv at hr
 refine qC Tryz.func119 rfl fun K j l => ?_
 refine st ?_
 obtain ⟨c, e, hr⟩ := exK (fun k => qb5 k a0 0 s0) hr
 refine qc5 0 rfl (asl rfl) fun g => ?_
 simp only [jd] at g
 refine qz (fun env σ => ∃ (m3 : List (Int × Unit)), env = [] ∧ σ = [.map m_o0 (z9 (D.int .i64) y4 m3)] ∧ c m3 = some a) ?_ (fun m => ?_)
 rintro _ _ ⟨m3, rfl, rfl, hr⟩
 rw [e] at hr
 refine st ?_
 cases hr
 refine qiP Tryz.func119 rfl ?_
 exact ⟨rfl, rfl⟩
 refine qbc [0, 1, 7, 8] rfl (qal (fun n env σ => ∃ (i1 : Nat) (m2 : List (Int × Unit)), n = a0.length - i1 ∧ (env = [(0, .lst (a0.map zl)), (1, .clo (.func 82) [] [.ptr (.map m_o0)]), (7, .int .i64 (a0.length : Int)), (8, .int .i64 (i1 : Int))]) ∧ (σ = [.map m_o0 (z9 (D.int .i64) y4 m2)]) ∧ (i1 ≤ a0.length) ∧ (qb5 c (a0.drop i1) i1 m2 = some a)) _ ⟨0, s0, rfl, rfl, rfl, jf _, hr⟩ ?_)
 rintro n _ _ ⟨i1, m2, rfl, rfl, rfl, h, hr⟩ o
 rcases zd a0 i1 h with ⟨i, b, p⟩ | ⟨q_4, i, b, q, r⟩
 rw [b, qb5] at hr
 exact fin hr
 rw [b, qb5] at hr
 refine st ?_
 refine qD ?_
 refine st0 ?_
 refine quP 2 ?_
 refine st0 ?_
 refine zf 6 1024 ?_
 refine st ?_
 obtain ⟨r5, h5, hr⟩ := zb hr
 refine ew rfl (qxY _ rfl rfl qiD (.oc rfl .nil) rfl (by exact (pf0 _)) (qh8 _ _ _ _ h5)) ?_
 rintro _ _ ⟨_, ⟨rfl, rfl⟩, rfl⟩
 refine zav ((.map m_o0 (z9 (D.int .i64) y4 r5.2)) :: _) rfl (qax ?_)
 refine zi 16 rfl hr (fun _ hr => ?_) (fun _ hr => ?_)
 refine st ?_
 cases hr
 refine qiP Tryz.func119 rfl ?_
 exact ⟨rfl, rfl⟩
 exact fin hr
noncomputable def qe0 (a0 : List T) (s0 : List (Int × Unit)) : Option (Bool × (List (Int × Unit))) :=
 ((qfv a0 s0).bind fun r1 =>
 some ((decide (r1.1 ≥ (0 : Int))), r1.2))
theorem qka (a0 : List T) (s0 : List (Int × Unit)) (m_o0 : Nat) (res : Bool × (List (Int × Unit))) (hr : qe0 a0 s0 = some res) : Spec Tryz.prog 81 [.lst (a0.map zl), .clo (.func 82) [] [.ptr (.map m_o0)]] [.map m_o0 (z9 (D.int .i64) y4 s0)] (fun d σ => d = .bool res.1 ∧ σ = [.map m_o0 (z9 (D.int .i64) y4 res.2)]) := by
 unfold qe0 at hr
 refine qC Tryz.func81 rfl fun K hK hF => ?_
 refine st0 ?_
 refine quP 1 ?_
 refine st0 ?_
 refine zf 5 16 (qg 2 rfl ?_)
 obtain ⟨r1, h1, hr⟩ := zb hr
 refine ew rfl (qiL _ rfl qhg (.oc rfl (.oc rfl .nil)) (by exact (pf0 _)) (ql8 _ _ _ _ h1)) ?_
 rintro _ _ ⟨_, ⟨rfl, rfl⟩, rfl⟩
 refine zav ((.map m_o0 (z9 (D.int .i64) y4 r1.2)) :: _) rfl ?_
 refine st ?_
 cases hr
 refine qiP Tryz.func81 rfl ?_
 exact ⟨rfl, rfl⟩
noncomputable def qc0 (a0 : qA) : Option Bool :=
 (bif a0.fM.fI then
 some (false)
 else
 (bif (decide ((a0.f1_rule.fx.length : Int) > (0 : Int))) then
 some (false)
 else
 ((qfU a0.f1_rule).bind fun r3 =>
 (bif ((r3.length : Int) != (1 : Int)) then
 some (false)
 else
 ((zh r3 0).bind fun q_7 =>
 ((qe0 q_7.ts []).bind fun r8 =>
 some ((!r8.1))))))))
theorem qi8 (a0 : qA) (a : Bool) (hr : qc0 a0 = some a) : zg Tryz.prog 36 [qbb a0] (.bool a) := by
 unfold qc0 at hr
 refine qC Tryz.func36 rfl fun K b c => ?_
 refine st ?_
 refine rd rfl (qcA rfl rfl rfl) ?_
 refine st ?_
 refine zt 8 rfl hr (fun _ hr => ?_) (fun _ hr => ?_)
 exact fin hr
 refine st ?_
 refine zi 14 rfl hr (fun _ hr => ?_) (fun _ hr => ?_)
 exact fin hr
 refine st ?_
 refine zk hr rfl qkp (qko _) (fun r3 h3 hr => ?_)
 refine st ?_
 refine zi 20 rfl hr (fun _ hr => ?_) (fun _ hr => ?_)
 exact fin hr
 refine st0 ?_
 refine zf 3 21 (ew rfl (qtn (α := Int) (β := Unit) (key := (D.int .i64)) (g := y4) rfl) ?_)
 rintro _ _ ⟨m21_4, rfl, rfl⟩
 refine ew rfl (qbi rfl qmG) ?_
 rintro _ _ ⟨b4_5, rfl, rfl⟩
 refine qcw rfl (pf0 _) (qax (qbR 4 b4_5 rfl (pf0 _) (qaC (zf 8 1024 (qg 1 rfl ?_)))))
 obtain ⟨q_7, h7, hr⟩ := zb hr
 refine st ?_
 refine rd rfl (qrf rfl rfl rfl) ?_
 obtain ⟨r8, h8, hr⟩ := zb hr
 refine ew rfl (qiL _ rfl qgH (.oc rfl (.oc rfl .nil)) (by exact (pf0 _)) (qka _ _ _ _ h8)) ?_
 rintro _ _ ⟨_, ⟨rfl, rfl⟩, rfl⟩
 refine zav ((.map m21_4 (z9 (D.int .i64) y4 r8.2)) :: _) rfl ?_
 exact fin hr
noncomputable def qdb (a0 : qA) : Option Bool :=
 (bif (!a0.fM.fI) then
 some (true)
 else
 ((qfu a0.f1_rule).bind fun r2 =>
 some (r2)))
theorem qgM (a0 : qA) (a : Bool) (hr : qdb a0 = some a) : zg Tryz.prog 37 [qbb a0] (.bool a) := by
 unfold qdb at hr
 refine qC Tryz.func37 rfl fun K b c => ?_
 refine st ?_
 refine rd rfl (qcA rfl rfl rfl) ?_
 refine st ?_
 refine zt 7 rfl hr (fun _ hr => ?_) (fun _ hr => ?_)
 exact fin hr
 refine qg 2 rfl ?_
 refine zk hr rfl qjl (qjL _) (fun r2 h2 hr => ?_)
 exact fin hr
noncomputable def qdG (k : Option Bool) : List qA → Option Bool
 | [] =>
 k
 | q_3 :: rest =>
 ((qc0 q_3).bind fun r5 =>
 (bif r5 then
 some (true)
 else
 ((qdb q_3).bind fun r7 =>
 (bif (!r7) then
 some (false)
 else
 (qdG k rest)))))
noncomputable def qeg (a0 : qc) (a1 : ByteArray) (a2 : Int) : Option Bool :=
 ((qhA a0 a1 a2).bind fun r1 =>
 (qdG (some (false)) r1))
theorem qhZ (a0 : qc) (a1 : ByteArray) (a2 : Int) (a : Bool) (hr : qeg a0 a1 a2 = some a) : zg Tryz.prog 12 [qf a0, .str a1, .int .i64 a2] (.bool a) := by
 unfold qeg at hr
 refine qC Tryz.func12 rfl fun K i j => ?_
 refine st ?_
 refine rd rfl (qcA rfl rfl rfl) ?_
 refine st ?_
 refine zk hr rfl qn5 (qoi _ _ _) (fun r1 h1 hr => ?_)
 refine st ?_
 obtain ⟨c, d, hr⟩ := exK (fun k => qdG k r1) hr
 refine qc5 12 rfl (asl rfl) fun e => ?_
 simp only [jd] at e
 refine qz (fun env σ => env = [] ∧ σ = [] ∧ c = some a) ?_ (fun l => ?_)
 rintro _ _ ⟨rfl, rfl, hr⟩
 rw [d] at hr
 exact fin hr
 refine qbc [12, 13, 14] rfl (qal (fun n env σ => ∃ (i2 : Nat), n = r1.length - i2 ∧ (env = [(12, .lst (r1.map qbb)), (13, .int .i64 (r1.length : Int)), (14, .int .i64 (i2 : Int))]) ∧ (σ = []) ∧ (i2 ≤ r1.length) ∧ (qdG c (r1.drop i2) = some a)) _ ⟨0, rfl, rfl, rfl, jf _, hr⟩ ?_)
 rintro n _ _ ⟨i2, rfl, rfl, rfl, g, hr⟩ m
 rcases zd r1 i2 g with ⟨h, b, o⟩ | ⟨q_3, h, b, p, q⟩
 rw [b, qdG] at hr
 exact fin hr
 rw [b, qdG] at hr
 refine st ?_
 refine qD (qaC (zf 4 80 ?_))
 refine st ?_
 refine ew rfl (qbi rfl qmF) ?_
 rintro _ _ ⟨b8_3, rfl, rfl⟩
 refine z8 rfl (qgk _ rfl rfl rfl (Wk.refl _) (pf0 _) (by exact qiY) (qed _) (by first | rfl | simp [sz, szs, qdK, qd8, qek]) rfl) (qax (qbR 8 b8_3 rfl (pf0 _) (qD ?_)))
 refine st ?_
 refine zk hr rfl qi3 (qi8 _) (fun r5 h5 hr => ?_)
 refine st ?_
 refine zi 18 rfl hr (fun _ hr => ?_) (fun _ hr => ?_)
 exact fin hr
 refine st ?_
 refine zk hr rfl qgY (qgM _) (fun r7 h7 hr => ?_)
 refine st ?_
 refine zi 21 rfl hr (fun _ hr => ?_) (fun _ hr => ?_)
 exact fin hr
 exact fin hr
noncomputable def qiW (a0 : qA) : Option Bool :=
 ((qdb a0).bind fun r1 =>
 some ((!r1)))
theorem qov (a0 : qA) (a : Bool) (hr : qiW a0 = some a) : zg Tryz.prog 68 [qbb a0] (.bool a) := by
 unfold qiW at hr
 refine qC Tryz.func68 rfl fun K b c => ?_
 refine st ?_
 refine rd rfl (qcA rfl rfl rfl) ?_
 refine st ?_
 refine zk hr rfl qgY (qgM _) (fun r1 h1 hr => ?_)
 exact fin hr
noncomputable def qdw (k : Option Int) : List qA → Nat → Option Int
 | [], i1 =>
 k
 | q_2 :: rest, i1 =>
 ((qiW q_2).bind fun r3 =>
 (bif r3 then
 some ((i1 : Int))
 else
 (qdw k rest (i1 + 1))))
noncomputable def qgB (a0 : List qA) : Option Int :=
 (qdw (some ((-1))) a0 0)
theorem qlZ (a0 : List qA) (a : Int) (hr : qgB a0 = some a) : zg Tryz.prog 67 [.lst (a0.map qbb), .clo (.func 68) [] []] (.int .i64 a) := by
 unfold qgB at hr
 refine qC Tryz.func67 rfl fun K i j => ?_
 refine st ?_
 obtain ⟨c, d, hr⟩ := exK (fun k => qdw k a0 0) hr
 refine qc5 0 rfl (asl rfl) fun e => ?_
 simp only [jd] at e
 refine qz (fun env σ => env = [] ∧ σ = [] ∧ c = some a) ?_ (fun l => ?_)
 rintro _ _ ⟨rfl, rfl, hr⟩
 rw [d] at hr
 exact fin hr
 refine qbc [0, 1, 7, 8] rfl (qal (fun n env σ => ∃ (i1 : Nat), n = a0.length - i1 ∧ (env = [(0, .lst (a0.map qbb)), (1, .clo (.func 68) [] []), (7, .int .i64 (a0.length : Int)), (8, .int .i64 (i1 : Int))]) ∧ (σ = []) ∧ (i1 ≤ a0.length) ∧ (qdw c (a0.drop i1) i1 = some a)) _ ⟨0, rfl, rfl, rfl, jf _, hr⟩ ?_)
 rintro n _ _ ⟨i1, rfl, rfl, rfl, g, hr⟩ m
 rcases zd a0 i1 g with ⟨h, b, o⟩ | ⟨q_2, h, b, p, q⟩
 rw [b, qdw] at hr
 exact fin hr
 rw [b, qdw] at hr
 refine st ?_
 refine qD ?_
 refine st ?_
 obtain ⟨r3, h3, hr⟩ := zb hr
 refine rd rfl (qzR rfl rfl qor (.oc rfl .nil) rfl (qov _ _ h3)) (qax ?_)
 refine zi 16 rfl hr (fun _ hr => ?_) (fun _ hr => ?_)
 exact fin hr
 exact fin hr
noncomputable def qiz (a0 : qc) (a1 : ByteArray) (a2 : Int) : Option Int :=
 ((qhA a0 a1 a2).bind fun r1 =>
 ((qgB r1).bind fun r2 =>
 (bif (decide (r2 < (0 : Int))) then
 some ((r1.length : Int))
 else
 some (r2))))
theorem qmN (a0 : qc) (a1 : ByteArray) (a2 : Int) (a : Int) (hr : qiz a0 a1 a2 = some a) : zg Tryz.prog 31 [qf a0, .str a1, .int .i64 a2] (.int .i64 a) := by
 unfold qiz at hr
 refine qC Tryz.func31 rfl fun K b c => ?_
 refine st ?_
 refine rd rfl (qcA rfl rfl rfl) ?_
 refine st ?_
 refine zk hr rfl qn5 (qoi _ _ _) (fun r1 h1 hr => ?_)
 refine st ?_
 refine zk hr rfl qfg (qlZ _) (fun r2 h2 hr => ?_)
 refine st ?_
 refine zi 16 rfl hr (fun _ hr => ?_) (fun _ hr => ?_)
 exact fin hr
 exact fin hr
noncomputable def qaj : Option Bool :=
 ((qdA 1).bind fun r1 =>
 ((qdA 0).bind fun r2 =>
 ((qfx 1).bind fun r3 =>
 ((qgA ⟨#[43]⟩ [r2, r3]).bind fun r4 =>
 ((qgS 0).bind fun r6 =>
 ((qfu (⟨⟨#[]⟩, r6, [], [], [(⟨4, ⟨#[]⟩, [r1, r4]⟩ : Gl)], 2⟩ : qk)).bind fun r11 =>
 (bif r11 then
 ((qfu (⟨⟨#[]⟩, r6, [], [], [(⟨0, ⟨#[113]⟩, [r2]⟩ : Gl)], 1⟩ : qk)).bind fun r13 =>
 (bif (!r13) then
 ((qeg (⟨[], [(⟨⟨#[]⟩, r6, [], [], [(⟨4, ⟨#[]⟩, [r1, r4]⟩ : Gl)], 2⟩ : qk), (⟨⟨#[]⟩, [], r6, [], [], 1⟩ : qk)]⟩ : qc) ⟨#[112]⟩ 1).bind fun r15 =>
 (bif r15 then
 ((qeg (⟨[], [(⟨⟨#[]⟩, r6, [], [], [(⟨0, ⟨#[113]⟩, [r2]⟩ : Gl)], 1⟩ : qk), (⟨⟨#[]⟩, [], r6, [], [], 1⟩ : qk)]⟩ : qc) ⟨#[112]⟩ 1).bind fun r17 =>
 (bif (!r17) then
 ((qiz (⟨[], [(⟨⟨#[]⟩, r6, [], [], [(⟨4, ⟨#[]⟩, [r1, r4]⟩ : Gl)], 2⟩ : qk), (⟨⟨#[]⟩, [], r6, [], [], 1⟩ : qk)]⟩ : qc) ⟨#[112]⟩ 1).bind fun r19 =>
 (bif (r19 == (2 : Int)) then
 ((qiz (⟨[], [(⟨⟨#[]⟩, r6, [], [], [(⟨0, ⟨#[113]⟩, [r2]⟩ : Gl)], 1⟩ : qk), (⟨⟨#[]⟩, [], r6, [], [], 1⟩ : qk)]⟩ : qc) ⟨#[112]⟩ 1).bind fun r21 =>
 (bif (r21 == (0 : Int)) then
 ((qeg (⟨[], [(⟨⟨#[]⟩, r6, [], [], [(⟨4, ⟨#[]⟩, [r1, r4]⟩ : Gl)], 2⟩ : qk), (⟨⟨#[]⟩, [], r6, [], [], 1⟩ : qk)]⟩ : qc) ⟨#[112]⟩ 2).bind fun r23 =>
 some ((!r23)))
 else
 some (false)))
 else
 some (false)))
 else
 some (false)))
 else
 some (false)))
 else
 some (false)))
 else
 some (false))))))))
theorem qb1 (a : Bool) (hr : qaj = some a) : zg Tryz.prog 9 [] (.bool a) := by
 unfold qaj at hr
 refine qC Tryz.func9 rfl fun K b c => ?_
 refine st0 ?_
 refine quP 1 ?_
 refine st0 ?_
 refine zf 9 81920 ?_
 refine zk hr rfl qec (qee _) (fun r1 h1 hr => ?_)
 refine zk hr rfl qec (qee _) (fun r2 h2 hr => ?_)
 refine zk hr rfl qiq (qij _) (fun r3 h3 hr => ?_)
 refine rd rfl (qe2 (f := zl) [.tmp 8, .tmp 9] [r2, r3] rfl qba rfl rfl od od (.oc rfl (.oc rfl .nil)) qcR (fun _ => rfl)) ?_
 obtain ⟨r4, h4, hr⟩ := zb hr
 refine rd rfl (by exact qiv rfl ql2 (.oc rfl (.cons rfl (Wk.full _) .nil)) (ql4 _ _ _ h4)) ?_
 refine rd rfl (qe2 (f := zl) [.tmp 7, .tmp 11] [r1, r4] rfl qba rfl rfl od od (.oc rfl (.oc rfl .nil)) qcR (fun _ => rfl)) (rd rfl (qbz rfl qjm (.oc rfl (.cons rfl (Wk.full _) .nil)) (.cons rfl rfl rfl (.cons rfl rfl rfl (.nil _)))) (ew rfl (qbi rfl qiw) ?_))
 rintro _ _ ⟨b1_4, rfl, rfl⟩
 refine qcw rfl (pf0 _) (qax (qbR 1 b1_4 rfl (pf0 _) (qaC (qea 6 1280 ?_))))
 refine zk hr rfl qgR (qgV _) (fun r6 h6 hr => ?_)
 refine qg 1 rfl (rd rfl (qe2 (f := zB) [.tmp 15] [(⟨4, ⟨#[]⟩, [r1, r4]⟩ : Gl)] rfl qfL rfl rfl od od (.oc rfl .nil) qcJ (fun _ => rfl)) (rd rfl (qbz rfl qlm (.oc rfl (.cons rfl (Wk.full _) (.oc rfl .nil))) (.cons rfl rfl rfl (.cons rfl rfl rfl (.cons rfl rfl rfl (.nil _))))) (ew rfl (qbi rfl qgX) ?_)))
 rintro _ _ ⟨b2_6, rfl, rfl⟩
 refine qcw rfl (pf0 _) (qax (qbR 2 b2_6 rfl (pf0 _) (qaC (zf 8 20480 (qem rfl qgR (qgV _ _ h6) (qem rfl qec (qee _ _ h2) (rd rfl (qe2 (f := zl) [.tmp 19] [r2] rfl qba rfl rfl od od (.oc rfl .nil) qcR (fun _ => rfl)) (rd rfl (qbz rfl qjm (.oc rfl (.cons rfl (Wk.full _) .nil)) (.cons rfl rfl rfl (.cons rfl rfl rfl (.nil _)))) (rd rfl (qe2 (f := zB) [.tmp 21] [(⟨0, ⟨#[113]⟩, [r2]⟩ : Gl)] rfl qfL rfl rfl od od (.oc rfl .nil) qcJ (fun _ => rfl)) (rd rfl (qbz rfl qlm (.oc rfl (.cons rfl (Wk.full _) (.oc rfl .nil))) (.cons rfl rfl rfl (.cons rfl rfl rfl (.cons rfl rfl rfl (.nil _))))) (ew rfl (qbi rfl qgX) ?_)))))))))))
 rintro _ _ ⟨b3_7, rfl, rfl⟩
 refine qcw rfl (pf0 _) (qax (qbR 3 b3_7 rfl (pf0 _) (qaC (zf 4 80 (qem rfl qgR (qgV _ _ h6) (rd rfl (qbz rfl qlm (.oc rfl (.oc rfl .nil)) (.cons rfl rfl rfl (.cons rfl rfl rfl (.nil _)))) (ew rfl (qbi rfl qgX) ?_)))))))
 rintro _ _ ⟨b4_8, rfl, rfl⟩
 refine qcw rfl (pf0 _) (qax (qbR 4 b4_8 rfl (pf0 _) (qaC ?_)))
 refine qBH ob ob [(0, .d), (1, .d), (2, .d), (3, .d), (4, .d), (5, .d), (6, .d), (7, .d)] [(8, .x), (9, .w), (10, .w), (11, .w)] [(9, .x), (8, .w), (10, .w), (11, .w)] ob (fun env σ => ∃ (b6_r5_9 : Nat) (b5_r5_9 : Nat), Sub [(2, .ptr (.agg [.str ⟨#[]⟩, .lst (r6.map zU), .lst ([].map zU), .lst ([].map zB), .lst ([(⟨4, ⟨#[]⟩, [r1, r4]⟩ : Gl)].map zB), .int .i64 2])), (3, .ptr (.agg [.str ⟨#[]⟩, .lst (r6.map zU), .lst ([].map zU), .lst ([].map zB), .lst ([(⟨0, ⟨#[113]⟩, [r2]⟩ : Gl)].map zB), .int .i64 1])), (5, .ref b5_r5_9 0 []), (6, .ref b6_r5_9 0 [])] env ∧ σ.Perm [.cell b6_r5_9 (.agg [.lst ([].map qad), .lst ([(⟨⟨#[]⟩, r6, [], [], [(⟨0, ⟨#[113]⟩, [r2]⟩ : Gl)], 1⟩ : qk), (⟨⟨#[]⟩, [], r6, [], [], 1⟩ : qk)].map ql)]), .cell b5_r5_9 (.agg [.lst ([].map qad), .lst ([(⟨⟨#[]⟩, r6, [], [], [(⟨4, ⟨#[]⟩, [r1, r4]⟩ : Gl)], 2⟩ : qk), (⟨⟨#[]⟩, [], r6, [], [], 1⟩ : qk)].map ql)])]) ?_ ?_
 refine qg 2 rfl (rd rfl (qe2 (f := ql) [.tmp 26, .tmp 27] [(⟨⟨#[]⟩, r6, [], [], [(⟨4, ⟨#[]⟩, [r1, r4]⟩ : Gl)], 2⟩ : qk), (⟨⟨#[]⟩, [], r6, [], [], 1⟩ : qk)] rfl qid rfl rfl od od (.oc rfl (.oc rfl .nil)) qek (fun _ => rfl)) (rd rfl (qbz rfl qku (.cons rfl (Wk.full _) .nil) (.cons rfl rfl rfl (.nil _))) (qg 2 rfl (rd rfl (qe2 (f := ql) [.tmp 30, .tmp 31] [(⟨⟨#[]⟩, r6, [], [], [(⟨0, ⟨#[113]⟩, [r2]⟩ : Gl)], 1⟩ : qk), (⟨⟨#[]⟩, [], r6, [], [], 1⟩ : qk)] rfl qid rfl rfl od od (.oc rfl (.oc rfl .nil)) qek (fun _ => rfl)) (rd rfl (qbz rfl qku (.cons rfl (Wk.full _) .nil) (.cons rfl rfl rfl (.nil _))) ?_)))))
 refine qax ⟨?_, ?_⟩
 refine r_x rfl rfl rfl (qbi rfl qiy) ?_
 rintro _ _ ⟨b5_r5_9, rfl, rfl⟩
 refine ew rfl (qbi rfl qiy) ?_
 rintro _ _ ⟨b6_r5_9, rfl, rfl⟩
 refine qcw rfl (pf1 _ _ _) (qcw rfl (pf1 _ _ _) (qax ?_))
 exact ⟨b6_r5_9, b5_r5_9, (sbr rfl), (pf0 _)⟩
 refine r_x rfl rfl rfl (qbi rfl qiy) ?_
 rintro _ _ ⟨b6_r5_9, rfl, rfl⟩
 refine ew rfl (qbi rfl qiy) ?_
 rintro _ _ ⟨b5_r5_9, rfl, rfl⟩
 refine qcw rfl (pf0 _) (qcw rfl (pf1 _ _ _) (qax ?_))
 exact ⟨b6_r5_9, b5_r5_9, (sbr rfl), (pf0 _)⟩
 rintro _ _ ⟨b6_r5_9, b5_r5_9, hs, hp⟩
 refine qn6 hs hp (qbR 5 b5_r5_9 rfl (pf1 _ _ _) (qbR 6 b6_r5_9 rfl (pf0 _) ?_))
 refine st ?_
 refine zk hr rfl qjl (qjL _) (fun r11 h11 hr => ?_)
 refine qg 1 rfl ?_
 refine zt 36 rfl hr (fun _ hr => ?_) (fun _ hr => ?_)
 refine qg 1 rfl ?_
 refine zk hr rfl qjl (qjL _) (fun r13 h13 hr => ?_)
 refine qg 3 rfl ?_
 refine zt 41 rfl hr (fun _ hr => ?_) (fun _ hr => ?_)
 refine qg 1 rfl ?_
 refine zk hr rfl qia (qhZ _ _ _) (fun r15 h15 hr => ?_)
 refine qg 2 rfl ?_
 refine zt 45 rfl hr (fun _ hr => ?_) (fun _ hr => ?_)
 refine qg 1 rfl ?_
 refine zk hr rfl qia (qhZ _ _ _) (fun r17 h17 hr => ?_)
 refine qg 3 rfl ?_
 refine zt 50 rfl hr (fun _ hr => ?_) (fun _ hr => ?_)
 refine qg 1 rfl ?_
 refine zk hr rfl qmI (qmN _ _ _) (fun r19 h19 hr => ?_)
 refine qg 3 rfl ?_
 refine zt 55 rfl hr (fun _ hr => ?_) (fun _ hr => ?_)
 refine qg 1 rfl ?_
 refine zk hr rfl qmI (qmN _ _ _) (fun r21 h21 hr => ?_)
 refine qg 3 rfl ?_
 refine zt 60 rfl hr (fun _ hr => ?_) (fun _ hr => ?_)
 refine qg 1 rfl ?_
 refine zk hr rfl qia (qhZ _ _ _) (fun r23 h23 hr => ?_)
 exact fin hr
 exact fin hr
 exact fin hr
 exact fin hr
 exact fin hr
 exact fin hr
 exact fin hr
noncomputable def qa1 (k : Option Bool) (a0 : qc) : List (Int × At) → Option Bool
 | [] =>
 k
 | q_22 :: rest =>
 ((qeg a0 q_22.2.n (q_22.2.ts.length : Int)).bind fun r23 =>
 (bif r23 then
 some (false)
 else
 (qa1 k a0 rest)))
noncomputable def qdp (fuel : Nat) (a0 : qc) (a1 : List Gl) : Option Bool :=
 ((qcj fuel a0).bind fun r1 =>
 ((qdX a0).bind fun r2 =>
 (bif (!r2) then
 (qaj.bind fun r4 =>
 some (r4))
 else
 ((qcg a1 6).bind fun r5 =>
 (bif (!r5) then
 (qaj.bind fun r7 =>
 some (r7))
 else
 (bif (r1.2 != (0 : Int)) then
 (qaj.bind fun r9 =>
 some (r9))
 else
 ((qdt fuel a0.fH a1 5).bind fun r10 =>
 (bif (r10 != (0 : Int)) then
 (qaj.bind fun r12 =>
 some (r12))
 else
 ((qer a1 5).bind fun r13 =>
 ((qeR fuel a0 r13 150).bind fun r14 =>
 (bif (r14.2.2 != (0 : Int)) then
 (qaj.bind fun r17 =>
 some (r17))
 else
 (bif r14.1.fF then
 (qaj.bind fun r19 =>
 some (r19))
 else
 (qa1 ((qaj.bind fun r21 =>
 some (r21))) a0 r14.1.fj)))))))))))))
theorem qiU (fuel : Nat) (a0 : qc) (a1 : List Gl) (a : Bool) (hr : qdp fuel a0 a1 = some a) : zg Tryz.prog 3 [qf a0, .lst (a1.map zB)] (.bool a) := by
 unfold qdp at hr
 refine qC Tryz.func3 rfl fun K i j => ?_
 refine st ?_
 refine rd rfl (qcA rfl rfl rfl) ?_
 refine st ?_
 refine zk hr rfl qhG (qhS fuel _) (fun r1 h1 hr => ?_)
 refine st ?_
 refine zk hr rfl qji (qjw _) (fun r2 h2 hr => ?_)
 refine qg 2 rfl ?_
 refine zt 19 rfl hr (fun _ hr => ?_) (fun _ hr => ?_)
 refine st ?_
 refine zk hr rfl qb2 qb1 (fun r4 h4 hr => ?_)
 exact fin hr
 refine qg 1 rfl ?_
 refine zk hr rfl qf9 (qf7 _ _) (fun r5 h5 hr => ?_)
 refine qg 3 rfl ?_
 refine zt 24 rfl hr (fun _ hr => ?_) (fun _ hr => ?_)
 refine st ?_
 refine zk hr rfl qb2 qb1 (fun r7 h7 hr => ?_)
 exact fin hr
 refine qg 4 rfl ?_
 refine zt 28 rfl hr (fun _ hr => ?_) (fun _ hr => ?_)
 refine st ?_
 refine zk hr rfl qb2 qb1 (fun r9 h9 hr => ?_)
 exact fin hr
 refine qg 3 rfl ?_
 refine zk hr rfl qiO (qiN fuel _ _ _) (fun r10 h10 hr => ?_)
 refine st ?_
 refine zi 34 rfl hr (fun _ hr => ?_) (fun _ hr => ?_)
 refine st ?_
 refine zk hr rfl qb2 qb1 (fun r12 h12 hr => ?_)
 exact fin hr
 refine st ?_
 refine qea 12 327680 (qg 2 rfl ?_)
 refine zk hr rfl qkL (qk8 _ _) (fun r13 h13 hr => ?_)
 refine zk hr rfl qlU (qlW fuel _ _ _) (fun r14 h14 hr => ?_)
 refine qg 4 rfl (ew rfl (qbi rfl qgl) ?_)
 rintro _ _ ⟨b7_14, rfl, rfl⟩
 refine qcw rfl (pf0 _) (qg 2 rfl (qax (qbR 7 b7_14 rfl (pf0 _) ?_)))
 refine st ?_
 refine zt 46 rfl hr (fun _ hr => ?_) (fun _ hr => ?_)
 refine st ?_
 refine zk hr rfl qb2 qb1 (fun r17 h17 hr => ?_)
 exact fin hr
 refine st ?_
 refine zi 49 rfl hr (fun _ hr => ?_) (fun _ hr => ?_)
 refine st ?_
 refine zk hr rfl qb2 qb1 (fun r19 h19 hr => ?_)
 exact fin hr
 refine st ?_
 obtain ⟨c, d, hr⟩ := exK (fun k => qa1 k a0 r14.1.fj) hr
 refine qy4 41 [1] (l := r14.1.fj.map zm) rfl rfl (asl rfl) fun e => ?_
 simp only [jd] at e
 refine qz (fun env σ => env = [] ∧ σ = [] ∧ c = some a) ?_ (fun m => ?_)
 rintro _ _ ⟨rfl, rfl, hr⟩
 rw [d] at hr
 refine st ?_
 refine zk hr rfl qb2 qb1 (fun r21 h21 hr => ?_)
 exact fin hr
 refine qbc [2, 7, 10] rfl (qal (fun n env σ => ∃ (i20 : Nat), n = r14.1.fj.length - i20 ∧ (env = [(2, .ptr (qf a0)), (7, .ptr (qW r14.1)), (10, .int .i64 (i20 : Int))]) ∧ (σ = []) ∧ (i20 ≤ r14.1.fj.length) ∧ (qa1 c a0 (r14.1.fj.drop i20) = some a)) _ ⟨0, rfl, rfl, rfl, jf _, hr⟩ ?_)
 rintro n _ _ ⟨i20, rfl, rfl, rfl, g, hr⟩ o
 rcases zd r14.1.fj i20 g with ⟨h, b, p⟩ | ⟨q_22, h, b, q, r⟩
 rw [b, qa1] at hr
 exact fin hr
 rw [b, qa1] at hr
 refine st ?_
 refine qD (qaC (qea 17 0 ?_))
 refine st ?_
 refine zk hr rfl qia (qhZ _ _ _) (fun r23 h23 hr => ?_)
 refine qax ?_
 refine zi 74 rfl hr (fun _ hr => ?_) (fun _ hr => ?_)
 exact fin hr
 exact fin hr
end Go.Proofs.YtamoolpdganckaaGreat
namespace Go.Proofs.YtamoolpdganckaaGreat
set_option maxRecDepth 100000
open Go.ChangeShapes Go.WideShapes Go.ChangeAt Go.RowKit
mutual
def zX : D → Nat
 | .str s => s.size + 1
 | .agg l => zG l + 1
 | .lst l => zG l + 1
 | _ => 1
def zG : List D → Nat
 | [] => 0
 | d :: l => zX d + zG l
end
def OpB (N : Nat) (t : TypeId) (n : Nat) (S : D → Prop) : Prop := ∀ (H : Type) (enc : TypeId × Value → H) (W : World) (base : Nat) (sp : Nat → Bool) (hd : Bool) (fuel : Nat) (cs : List Value) (x : DataW H × List MemPlace), fuel < N →
 DataW.trod enc Tryz.prog W base sp hd fuel t cs = some x → ∃ d v, S d ∧ d.plain = true ∧ sz d = n ∧ Rep (live W) W d v ∧ cs = v.cells.toList ∧ zX d ≤ Rows.uptoBulk x.1
theorem OpB.to {N : Nat} {t : TypeId} {n : Nat} {S S' : D → Prop} (h : OpB N t n S) (k : ∀ d, S d → S' d) : OpB N t n S' := fun H enc W base sp hd fuel cs x hN hx => by
 obtain ⟨d, v, h1, h2⟩ := h H enc W base sp hd fuel cs x hN hx
 exact ⟨d, v, k d h1, h2⟩
theorem OpB.less {N M : Nat} {t : TypeId} {n : Nat} {S : D → Prop} (h : OpB N t n S) (hM : M ≤ N) : OpB M t n S := fun H enc W base sp hd fuel cs x hN hx => h H enc W base sp hd fuel cs x oa hx
theorem qDj {H : Type} (d : DataW H) : 1 ≤ Rows.uptoBulk d := by
 cases d with
 | lit l => cases l <;> simp [Rows.uptoBulk]
 | nil => simp [Rows.uptoBulk]
 | ptr d => simp [Rows.uptoBulk]
 | slice elems spare => simp [Rows.uptoBulk]
 | agg parts => simp [Rows.uptoBulk]
 | iface t d => simp [Rows.uptoBulk]
 | map entries => simp [Rows.uptoBulk]
 | held h => simp [Rows.uptoBulk]
theorem qpW {N : Nat} {t : TypeId} (ht : (Tryz.prog).underlying t = some (.int .i64)) : OpB N t 1 fun d => ∃ n, d = .int .i64 n := fun H enc W base sp hd fuel cs x _ hx => by
 obtain ⟨d, v, ⟨n, rfl⟩, h2, h3, h4, h5⟩ := qCZ ht H enc W base sp hd fuel cs x hx
 exact ⟨_, v, ⟨n, rfl⟩, h2, h3, h4, h5, by simp only [zX]; exact qDj _⟩
theorem qpl {N : Nat} {t : TypeId} (ht : (Tryz.prog).underlying t = some .string) : OpB N t 1 fun d => ∃ s, d = .str s := fun H enc W base sp hd fuel cs x _ hx => by
 obtain ⟨s, rfl, hxe, w0⟩ := DataW.trod_string ht hx
 refine ⟨.str s, .string s, ⟨s, rfl⟩, rfl, rfl, ?_, by simp [Value.cells], ?_⟩
 simp only [Rep]
 exact ⟨trivial, by unfold maxLen at w0; omega⟩
 rw [hxe]
 simp only [zX, Rows.uptoBulk]
 exact jn _
def OpsB (N : Nat) : List Field → List (D → Prop) → Prop
 | [], [] => True
 | f :: fs, S :: ss => OpB N f.type ((Tryz.prog).cellsOf f.type) S ∧ OpsB N fs ss
 | _, _ => False
theorem qn9 {H : Type} {enc : TypeId × Value → H} {W : World} {base : Nat} {sp : Nat → Bool} {hd : Bool} {N n : Nat} (hn : n < N) {cs : List Value} :
 ∀ (fs : List Field) (ss : List (D → Prop)) (o : Nat) (xs : List (DataW H × List MemPlace)), OpsB N fs ss → tight Tryz.prog o fs = true → o + total Tryz.prog fs = cs.length → xs.length = fs.length →
  (∀ (i : Nat) (f : Field), fs[i]? = some f → DataW.trod enc Tryz.prog W base sp hd n f.type ((cs.drop f.offset).take ((Tryz.prog).cellsOf f.type)) = xs[i]?) →
  ∃ ds, Fits ss ds ∧ (∀ d ∈ ds, d.plain = true) ∧ szs ds = total Tryz.prog fs ∧ zu (live W) W ds (cs.drop o) ∧ zG ds ≤ Rows.uptoBulkAll (xs.map (·.1))
 | [], [], o, xs, _, _, hl, _, _ => ⟨[], trivial, by simp, rfl, by simp only [total] at hl; rw [va oa]; exact zu.nil _ _, by simp [zG]⟩
 | f :: fs, S :: ss, o, x :: xs, hop, ht, hl, hlen, hx => by
  simp only [tight, jm, beq_iff_eq] at ht
  simp only [total] at hl
  obtain ⟨ds, h1, h2, h3, h4, h5⟩ := qn9 hn fs ss (o + (Tryz.prog).cellsOf f.type) xs hop.2 ht.2 oa (by simpa using hlen) fun i g hg => hx (i + 1) g hg
  have h6 := hx 0 f rfl
  rw [ht.1] at h6
  obtain ⟨d, v, g1, g2, g3, g4, g5, g6⟩ := hop.1 H enc W base sp hd n _ x hn h6
  refine ⟨d :: ds, ⟨g1, h1⟩, ?_, by simp only [szs, total, g3, h3], ?_, ?_⟩
  intro e he
  rcases jh.1 he with rfl | he
  exact g2
  exact h2 e he
  have := zu.cons g4 h4
  rw [← g5, ← List.drop_drop, j6] at this
  exact this
  simp only [zG, jr, Rows.uptoBulkAll]
  omega
 | _ :: _, _ :: _, _, [], _, _, _, h, _ => by simp at h
 | [], _ :: _, _, _, h, _, _, _, _ => h.elim
 | _ :: _, [], _, _, h, _, _, _, _ => h.elim
theorem qjg {N : Nat} {t : TypeId} {fs : Array Field} {n : Nat} (ht : (Tryz.prog).underlying t = some (.struct fs)) (ss : List (D → Prop)) (hs : OpsB N fs.toList ss) (h1 : tight Tryz.prog 0 fs.toList = true) (h2 : total Tryz.prog fs.toList = n) (h3 : (Tryz.prog).cellsOf t = n) :
 OpB (N + 1) t n fun d => ∃ ds, d = .agg ds ∧ Fits ss ds := fun H enc W base sp hd fuel cs x hN hx => by
 obtain ⟨xs, m, hm, hxe, hl, hlen, hf⟩ := DataW.trod_struct ht hx
 obtain ⟨ds, g1, g2, g3, g4, g5⟩ := qn9 (enc := enc) (W := W) (base := base) (sp := sp) (hd := hd) (N := N) (n := m) oa (cs := cs) fs.toList ss 0 xs hs h1 oa (by simpa using hlen) fun i f hi => hf i f (by simpa using hi)
 refine ⟨.agg ds, .agg cs.toArray, ⟨ds, rfl, g1⟩, rfl, by simp only [sz]; omega, ?_, by simp [Value.cells], ?_⟩
 · simp only [Rep]
   rw [vz] at g4
   exact ⟨cs, rfl, g4, qpQ g4 g2⟩
 · rw [hxe]
   simp only [zX, Rows.uptoBulk]
   omega
theorem za0 {n : Nat} {hn : 0 < n} {S : D → Prop} {w : World} {ad : Addr} (Q : Nat → D → Prop) : ∀ (len : Nat), (∀ i, i < len → ∃ a cs, Q i a ∧ (layD n hn S).C w a cs ∧ ∀ j, j < n → w.cell? (ad.add (i * n + j)) = cs[j]?) → ∃ l xs, l.length = len ∧ (∀ i d, l[i]? = some d → Q i d) ∧ (layD n hn S).Ls w l xs ∧ ∀ j u, xs[j]? = some u → w.cell? (ad.add j) = some u
 | 0, _ => ⟨[], [], rfl, by simp, Lay.Ls.nil w, by simp⟩
 | len + 1, h => by
  obtain ⟨l, xs, h1, h0, h2, h3⟩ := za0 (hn := hn) (S := S) (w := w) (ad := ad) Q len fun i hi => h i oa
  obtain ⟨a, cs, h7, h4, h5⟩ := h len oa
  refine ⟨l ++ [a], xs ++ cs, by simp [h1], fun i d hd => ?_, Lay.Ls.app h2 (Lay.Ls.single h4), fun j u hu => ?_⟩
  by_cases hi : i < l.length
  rw [jT hi] at hd
  exact h0 i d hd
  rw [vo oa] at hd
  have hlt := (ju.1 hd).1
  simp at hlt
  have hi' : i = len := by omega
  subst hi'
  rw [h1, Nat.sub_self] at hd
  injection hd with hd
  subst hd
  exact h7
  have hx := Lay.Ls.len h2
  have hx : xs.length = l.length * n := hx
  by_cases hj : j < xs.length
  rw [jT hj] at hu
  exact h3 j u hu
  rw [vo oa] at hu
  have hlt := (ju.1 hu).1
  rw [(layD n hn S).len h4] at hlt
  have h6 := h5 (j - xs.length) hlt
  rw [hu] at h6
  rw [← h6, hx, h1]
  rw [hx, h1] at hj
  congr 2
  omega
theorem qwc {H : Type} : ∀ (l : List D) (es : List (DataW H)), l.length = es.length → (∀ (i : Nat) (d : D), l[i]? = some d → ∃ e : DataW H, es[i]? = some e ∧ zX d ≤ Rows.uptoBulk e) → zG l ≤ Rows.uptoBulkAll es
 | [], es, _, _ => by simp [zG]
 | d :: l, [], h, _ => by simp at h
 | d :: l, e :: es, h, hp => by
  obtain ⟨e', h1, h2⟩ := hp 0 d rfl
  have h1 : e = e' := by simpa using h1
  subst h1
  have := qwc l es (by simpa using h) fun i x hx => by simpa using hp (i + 1) x (by simpa using hx)
  simp only [zG, Rows.uptoBulkAll]
  omega
theorem qxH {N : Nat} {t e : TypeId} {n : Nat} {S : D → Prop} (ht : (Tryz.prog).underlying t = some (.slice e)) (hn : (Tryz.prog).cellsOf e = n) (hp : 0 < n) (he : OpB N e n S) : OpB (N + 1) t 1 fun d => ∃ l, d = .lst l ∧ ∀ x ∈ l, S x := fun H enc W base sp hd fuel cs x hN hx => by
 rcases DataW.trod_slice ht hx with ⟨rfl, hxe⟩ | ⟨a, len, cap, elems, rest, m, hf, rfl, hxe, _, hl, hm, hlen, hel, _, _⟩
 refine ⟨.lst [], .slice none 0 0, ⟨[], rfl, by simp⟩, rfl, rfl, ?_, by simp [Value.cells], by rw [hxe]; simp [zX, zG, Rows.uptoBulk]⟩
 simp only [Rep]
 exact ⟨none, 0, [], rfl, by simp, by omega, .inl rfl, zu.nil _ _, by simp⟩
 obtain ⟨l, xs, h1, h0, h2, h3⟩ := za0 (hn := hp) (S := S) (w := W) (ad := a) (fun i d => ∃ y, elems[i]? = some y ∧ zX d ≤ Rows.uptoBulk y.1) len fun i hi => by
  have g1 := hel i hi
  rw [js oa, hn] at g1
  obtain ⟨cs', g2, g3⟩ := jX.1 g1
  obtain ⟨d, v, k1, k2, k3, k4, k5, k6⟩ := he H enc W base sp hd m cs' _ oa g3
  obtain ⟨_, g5, g6⟩ := World.cells?_some g2
  refine ⟨d, cs', ⟨_, js oa, k6⟩, ⟨k1, k2, k3, v, k4, k5⟩, fun j hj => ?_⟩
  rw [← qvs]
  exact g6 j hj
 obtain ⟨h6, h7⟩ := qyn h2
 refine ⟨.lst l, .slice (some a) l.length cap, ⟨l, rfl, fun d hd => (h6 d hd).1⟩, rfl, rfl, ?_, by rw [h1]; simp [Value.cells], ?_⟩
 simp only [Rep]
 exact ⟨some a, cap, xs, rfl, by omega, by unfold maxLen at hm; omega, qBU (.inr ⟨a, rfl, h3⟩), h7, qpQ h7 fun d hd => (h6 d hd).2⟩
 rw [hxe]
 simp only [zX, Rows.uptoBulk]
 have := qwc l (elems.map (·.1)) (by simp [h1, hlen]) fun i d hd => by
  obtain ⟨y, y1, y2⟩ := h0 i d hd
  exact ⟨y.1, by simp [y1], y2⟩
 omega
theorem qmA {α : Type} {f : α → D} {N : Nat} {t e : TypeId} {n : Nat} (ht : (Tryz.prog).underlying t = some (.slice e)) (hn : (Tryz.prog).cellsOf e = n) (hp : 0 < n) (he : OpB N e n fun d => ∃ a, d = f a) : OpB (N + 1) t 1 fun d => ∃ av : List α, d = .lst (av.map f) :=
 (qxH ht hn hp he).to fun d ⟨l, hl, h⟩ => by
  obtain ⟨av, rfl⟩ := qwp h
  exact ⟨av, hl⟩
theorem qwj : ∀ N, OpB N 78 4 fun d => ∃ t, d = zl t
 | 0 => fun H enc W base sp hd fuel cs x hN => by omega
 | N + 1 => (qjg (N := N) Tryz.underlying78 [fun d => ∃ n, d = .int .i64 n, fun d => ∃ n, d = .int .i64 n, fun d => ∃ s, d = .str s, fun d => ∃ l : List T, d = .lst (l.map zl)] ⟨qpW Tryz.underlying3, qpW Tryz.underlying3, qpl Tryz.underlying9, (qmA Tryz.underlying46 qrc oa (qwj N)).less oa, trivial⟩ ob ob ob).to fun d ⟨ds, hd, h⟩ => by
  match ds, h with
  | [_, _, _, _], ⟨⟨k, rfl⟩, ⟨i, rfl⟩, ⟨s, rfl⟩, ⟨l, rfl⟩, _⟩ => exact ⟨.mk k i s l, by rw [hd, zl, qeS]; rfl⟩
theorem qtO (N : Nat) : OpB N 46 1 fun d => ∃ l : List T, d = .lst (l.map zl) := (qmA Tryz.underlying46 qrc oa (qwj N)).less oa
theorem qzY (N : Nat) : OpB N 48 2 fun d => ∃ a, d = zU a :=
 ((qjg (N := N) Tryz.underlying48 [fun d => ∃ s, d = .str s, fun d => ∃ l : List T, d = .lst (l.map zl)] ⟨qpl Tryz.underlying9, qtO N, trivial⟩ ob ob ob).less oa).to fun d ⟨ds, hd, h⟩ => by
  match ds, h with
  | [_, _], ⟨⟨s, rfl⟩, ⟨l, rfl⟩, _⟩ => exact ⟨⟨s, l⟩, hd⟩
theorem qt0 (N : Nat) : OpB N 53 1 fun d => ∃ l : List At, d = .lst (l.map zU) := (qmA Tryz.underlying53 ob oa (qzY N)).less oa
theorem qz1 (N : Nat) : OpB N 55 3 fun d => ∃ g, d = zB g :=
 ((qjg (N := N) Tryz.underlying55 [fun d => ∃ n, d = .int .i64 n, fun d => ∃ s, d = .str s, fun d => ∃ l : List T, d = .lst (l.map zl)] ⟨qpW Tryz.underlying3, qpl Tryz.underlying9, qtO N, trivial⟩ ob ob qq7).less oa).to fun d ⟨ds, hd, h⟩ => by
  match ds, h with
  | [_, _, _], ⟨⟨n, rfl⟩, ⟨s, rfl⟩, ⟨l, rfl⟩, _⟩ => exact ⟨⟨n, s, l⟩, hd⟩
theorem qpA (N : Nat) : OpB N 26 1 fun d => ∃ l : List Gl, d = .lst (l.map zB) := (qmA Tryz.underlying26 qq7 oa (qz1 N)).less oa
theorem qAL (N : Nat) : OpB N 64 6 fun d => ∃ r, d = ql r :=
 ((qjg (N := N) Tryz.underlying64 [fun d => ∃ s, d = .str s, fun d => ∃ l : List At, d = .lst (l.map zU), fun d => ∃ l : List At, d = .lst (l.map zU), fun d => ∃ l : List Gl, d = .lst (l.map zB), fun d => ∃ l : List Gl, d = .lst (l.map zB), fun d => ∃ n, d = .int .i64 n] ⟨qpl Tryz.underlying9, qt0 N, qt0 N, qpA N, qpA N, qpW Tryz.underlying3, trivial⟩ ob ob ob).less oa).to fun d ⟨ds, hd, h⟩ => by
  match ds, h with
  | [_, _, _, _, _, _], ⟨⟨s, rfl⟩, ⟨a, rfl⟩, ⟨b, rfl⟩, ⟨c, rfl⟩, ⟨e, rfl⟩, ⟨n, rfl⟩, _⟩ => exact ⟨⟨s, a, b, c, e, n⟩, hd⟩
theorem qyN (N : Nat) : OpB N 23 1 fun d => ∃ l : List qk, d = .lst (l.map ql) := (qmA Tryz.underlying23 ob oa (qAL N)).less oa
theorem qzK (N : Nat) : OpB N 67 2 fun d => ∃ q, d = qad q :=
 ((qjg (N := N) Tryz.underlying67 [fun d => ∃ s, d = .str s, fun d => ∃ n, d = .int .i64 n] ⟨qpl Tryz.underlying9, qpW Tryz.underlying3, trivial⟩ ob ob ob).less oa).to fun d ⟨ds, hd, h⟩ => by
  match ds, h with
  | [_, _], ⟨⟨s, rfl⟩, ⟨n, rfl⟩, _⟩ => exact ⟨⟨s, n⟩, hd⟩
theorem qxP (N : Nat) : OpB N 22 1 fun d => ∃ l : List qaS, d = .lst (l.map qad) := (qmA Tryz.underlying22 ob oa (qzK N)).less oa
theorem qu9 (N : Nat) : OpB N 25 2 fun d => ∃ q, d = qf q :=
 ((qjg (N := N) Tryz.underlying25 [fun d => ∃ l : List qaS, d = .lst (l.map qad), fun d => ∃ l : List qk, d = .lst (l.map ql)] ⟨qxP N, qyN N, trivial⟩ ob ob ob).less oa).to fun d ⟨ds, hd, h⟩ => by
  match ds, h with
  | [_, _], ⟨⟨s, rfl⟩, ⟨n, rfl⟩, _⟩ => exact ⟨⟨s, n⟩, hd⟩
/-! ### what the bulk bounds -/
mutual
theorem qB5 : ∀ t : T, wt t ≤ zX (zl t)
 | .mk k i s ar => by
  have := qoC ar
  rw [zl, qeS]
  simp only [zX, zG, wt, T.ar]
  omega
theorem qoC : ∀ l : List T, wtL l ≤ zG (l.map zl)
 | [] => by simp [wtL]
 | t :: l => by
  have h1 := qB5 t
  have h2 := qoC l
  simp only [wtL, jr, zG]
  omega
end
theorem qi4 {α : Type} {f : α → D} {a : α} : ∀ {l : List α}, a ∈ l → zX (f a) ≤ zG (l.map f)
 | b :: l, h => by
  simp only [jr, zG]
  rcases jh.1 h with rfl | h
  omega
  have := qi4 (f := f) h; omega
theorem qyz {a : At} (h : zX (zU a) ≤ 1048576) : wtL a.ts ≤ 1048576 := by
 have := qoC a.ts
 simp only [zU, zX, zG] at h
 omega
theorem quk {g : Gl} (h : zX (zB g) ≤ 1048576) : wtL g.ts ≤ 1048576 := by
 have := qoC g.ts
 simp only [zB, zX, zG] at h
 omega
theorem qxQ {p : qc} (h : zX (qf p) ≤ 1048576) : ∀ r ∈ p.fc, (∀ a ∈ r.fg, wtL a.ts ≤ 1048576) ∧ (∀ a ∈ r.ft, wtL a.ts ≤ 1048576) ∧ (∀ g ∈ r.fx, wtL g.ts ≤ 1048576) ∧ ∀ g ∈ r.fp, wtL g.ts ≤ 1048576 := fun r hr => by
 simp only [qf, zX, zG] at h
 have h1 := qi4 (f := ql) hr
 simp only [ql, zX, zG] at h1
 refine ⟨fun a ha => ?_, fun a ha => ?_, fun a ha => ?_, fun a ha => ?_⟩
 have := qi4 (f := zU) ha
 exact qyz oa
 have := qi4 (f := zU) ha
 exact qyz oa
 have := qi4 (f := zB) ha
 exact quk oa
 have := qi4 (f := zB) ha
 exact quk oa
/-! ### a law's arguments -/
structure zbF where
 t : TypeId
 n : Nat
 S : D → Prop
 op : ∀ N, OpB N t n S
 cl : Cl t S
def zbK : zbF := ⟨_, _, _, qu9, (qyH Tryz.underlying25).to fun _ ⟨_, h⟩ => ⟨_, h⟩⟩
def bGoals : zbF := ⟨_, _, _, qpA, (qzL Tryz.underlying26).to fun _ ⟨_, h⟩ => ⟨_, h⟩⟩
theorem qrx {H : Type} {enc : TypeId × Value → H} {W : World} {base b : Nat} {sp : Nat → Bool} {hd : Bool} : ∀ (av : List zbF) (vs : List Value) (ds : List (DataW H)) (ps : List MemPlace),
 DataW.TrodAll enc Tryz.prog W base sp hd (av.map zbF.t) vs ds ps → (∀ (j : Nat) t v, (av.map zbF.t)[j]? = some t → vs[j]? = some v → Value.okWide Tryz.prog W .any b t v) → ∃ es, Fits (av.map zbF.S) es ∧ zC (live W) W es vs ∧ zG es ≤ Rows.uptoBulkAll ds
 | [], vs, ds, ps, h, _ => by
  obtain ⟨rfl, rfl, _⟩ := trodAll_nil h
  exact ⟨[], trivial, zC.nil _ _, by simp [zG]⟩
 | a :: av, vs, ds, ps, h, hv => by
  obtain ⟨v, vs', d, ds', p, q, rfl, rfl, rfl, ⟨fuel, h1⟩, h2⟩ := trodAll_cons h
  obtain ⟨es, g1, g2, g3⟩ := qrx av vs' ds' q h2 fun j t u ht hu => hv (j + 1) t u ht hu
  obtain ⟨e, u, k1, k2, k3, k4, k5, k6⟩ := a.op (fuel + 1) H enc W base sp hd fuel _ _ oa h1
  have e1 := a.cl W b v (hv 0 a.t v rfl rfl) e k1
  have e2 := k4.back
  rw [← k5] at e2
  rw [← e2] at e1
  subst e1
  refine ⟨e :: es, ⟨k1, g1⟩, zC.cons k4 g2, ?_⟩
  simp only [zG, Rows.uptoBulkAll]
  have k6 : zX e ≤ Rows.uptoBulk d := k6
  omega
def zbn (k : FuncId) (F : Func) : Prop := ∀ (H : Type) (enc : TypeId × Value → H) (W : World) (base : Nat) (args : Array Value) (ds : List (DataW H)) (p : List MemPlace),
 (∀ (j : Nat) t v, F.params[j]? = some t → args[j]? = some v → Value.okWide Tryz.prog W .any base t v) → DataW.TrodAll enc Tryz.prog W 0 (fun _ => true) true F.params.toList args.toList ds p → Rows.uptoSmall H ds = true →
 Calls Tryz.prog k args W (Ret W (Is (.bool true)))
theorem qze {k : FuncId} {F : Func} (av : List zbF) (hp : F.params.toList = av.map zbF.t) (hg : ∀ es, Fits (av.map zbF.S) es → zG es ≤ 1048576 → zg Tryz.prog k es (.bool true)) : zbn k F := by
 intro H enc W base args ds p hval hA hk
 rw [hp] at hA
 obtain ⟨es, h1, h2, h3⟩ := qrx (b := base) av args.toList ds p hA fun j t v ht hv => hval j t v (by rw [← vr, hp]; exact ht) (by simpa using hv)
 have hk' : Rows.uptoBulkAll ds ≤ 1048576 := of_decide_eq_true hk
 have hI : Inv (ctx W (live W) []) (live W) [] W := ⟨by simp, by simp [yM], by simp [yM], fun a ha => ha, zT.refl _ _, fun a ha => .inl ha, rfl, rfl, rfl, jn _, fun b _ _ => rfl⟩
 refine (hg es h1 (j5 h3 hk') W (live W) args.toList hI h2).mono ?_
 rintro e w' (⟨v, d, σ, q, rfl, rfl, hr, hi⟩ | ⟨_, _, _, _, _, hx, _⟩)
 rotate_left
 exact hx.elim
 simp only [Rep] at hr
 subst hr
 exact Ret.mk rfl ⟨hi.os, hi.tape, hi.output, hi.size, fun b hb => hi.block b hb (by simp [ctx, yM])⟩
theorem qrT {k : FuncId} {F : Func} (h : zbn k F) {s : ChangeSpec} (hv : s.vars = [])
 (hts0 : (F.params.toList.all fun t => (Tryz.prog).readableRec t && decide (t < (Tryz.prog).types.size)) = true) (hres : F.resultTypes.toList = [4]) (hrs : F.resultTypes.size = 1)
 (hsp : ∀ (H : Type) (ds : List (DataW H)), ds.length = F.params.toList.length → s.fn H ds = { results := [.lit (.bool true)], args := ds })
 {H : Type} {enc : TypeId × Value → H} (W : World) (base : Nat) (args : Array Value) (ds gs : List (DataW H)) (before : List MemPlace)
 (hval : ∀ (j : Nat) t v, F.params[j]? = some t → args[j]? = some v → Value.okWide Tryz.prog W .any base t v)
 (hW : DataW.Whole enc Tryz.prog F.params.toList s.vars false W args.toList ds gs before) (hk : Rows.uptoSmall H (ds ++ gs) = true) :
 Calls Tryz.prog k args W fun e W' => ∃ v, e = .returned v ∧ s.post enc Tryz.prog F false true false false W args v W' := by
 have hts : ∀ t ∈ F.params.toList, (Tryz.prog).readableRec t = true ∧ t < (Tryz.prog).types.size := fun t ht => by
  have := jB.1 hts0 t ht
  simpa using this
 have hW' := hW
 obtain ⟨p, q, hA, hV, rfl, hfz, hnd⟩ := hW
 rw [hv] at hV
 obtain ⟨rfl, rfl⟩ := trodVars_none hV
 rw [jv] at hk
 refine (h H enc W base args ds p hval hA hk).mono ?_
 rintro e W' ⟨v, rfl, hvv, hb⟩
 have hvv : v = .bool true := hvv
 subst hvv
 have hlen := qoV hA
 have hspec := hsp H ds hlen
 refine ⟨_, rfl, ds, [], p ++ [], [], p, [], hW', ?_, ?_, ?_, ?_, fun h => by cases h⟩
 · rw [jv, hspec, hres, hrs]
   exact trodAll_cons_mk (shut_bool Tryz.underlying4 _) trodAll_mk0
 · rw [jv, hspec]
   exact qm2 qDD hb hts (fun x hx => hW'.lt x (by simpa using hx)) hA
 · rw [jv, hspec, hv]; rfl
 · exact World.keptBut_mono (fun x hx => ⟨by simpa using hx, .inr (.inl (by simpa using hx))⟩) (Below.frame hb (fun x => x ∈ p))
end Go.Proofs.YtamoolpdganckaaGreat
namespace Go.Proofs.YtamoolpdganckaaGreat
set_option maxRecDepth 100000
open Go.RowKit
abbrev Nd := qb
theorem uT {a b : Int} (h : a = b) : (a == b) = true := by simpa using h
theorem uF {a b : Int} (h : a ≠ b) : (a == b) = false := by simpa using h
theorem qys {α : Type} {done ts : List α} {q : α} : zh (done ++ q :: ts) (done.length : Int) = some q := by
 rw [qdl]
 simp
theorem qDL {α : Type} {done ts : List α} {q x : α} : (done ++ q :: ts).set (done.length : Int).toNat x = (done ++ [x]) ++ ts := by
 rw [vI, List.set_append_right _ _ (jn _)]
 simp
theorem ye {α : Type} {l : List α} {i : Int} (h0 : 0 ≤ i) (h : i < l.length) : ∃ q, zh l i = some q ∧ q ∈ l := by
 have hn : i.toNat < l.length := by omega
 refine ⟨l[i.toNat], ?_, List.getElem_mem hn⟩
 unfold zh
 rw [if_pos h0]
 simp [hn]
theorem qfo {α : Type} {b : Nat} (hb : b ≤ 100) {l : List α} {x : α} {n : Nat} (h : l.length + (n + 1) ≤ 10000000000) : zz b l [x] = some (l ++ [x]) := by
 refine qjj ?_ oe
 have : (l.length + [x].length) * b ≤ 10000000000 * 100 := Nat.mul_le_mul oe hb
 omega
theorem ql9 {α : Type} {b : Nat} (hb : b ≤ 100) {l m : List α} (h : l.length + m.length ≤ 10000000000) : zz b l m = some (l ++ m) := by
 refine qjj ?_ oa
 have : (l.length + m.length) * b ≤ 10000000000 * 100 := Nat.mul_le_mul h hb
 omega
theorem qhd {α : Type} {l : List α} {i : Int} {q : α} (h : zh l i = some q) : 0 ≤ i ∧ i < l.length ∧ q ∈ l := by
 obtain ⟨h0, h1⟩ := qb3 h
 have := (ju.1 h1).1
 exact ⟨h0, by omega, List.mem_of_getElem? h1⟩
theorem qwD {α β : Type} {l : List α} {i : Int} {q : α} (f : α → β) (h : zh l i = some q) : zh (l.map f) i = some (f q) := by
 obtain ⟨h0, h1⟩ := qb3 h
 unfold zh
 rw [if_pos h0, v7, h1]
 rfl
theorem qBe {α : Type} {l m : List α} {i : Int} {q : α} (h : zh l i = some q) : zh (l ++ m) i = some q := by
 obtain ⟨h0, h1⟩ := qb3 h
 have := (ju.1 h1).1
 unfold zh
 rw [if_pos h0, jT this, h1]
structure StG (g : List Nd) (c : List Int) : Prop where
 len : c.length = g.length
 cls : ∀ v ∈ c, 0 ≤ v ∧ v < g.length
 idem : ∀ v ∈ c, zh c v = some v
 kid : ∀ q ∈ g, ∀ k ∈ q.ff, 0 ≤ k ∧ k < g.length
/-! ### shape -/
theorem qvK (c : List Int) (cl : Int) : ∀ (l : List Nd) (i : Nat), i + l.length = c.length → ∃ r : Int, qG (some (-1)) c cl l i = some r ∧ (r = -1 ∨ (∃ q, (i : Int) ≤ r ∧ l[r.toNat - i]? = some q ∧ zh c r = some cl ∧ q.fa ≠ 1))
 | [], i, _ => ⟨-1, by rw [qG], .inl rfl⟩
 | q :: l, i, h => by
  rw [jg] at h
  obtain ⟨v, hv, _⟩ := ye (l := c) (i := (i : Int)) oa oa
  obtain ⟨r, e, hr⟩ := qvK c cl l (i + 1) oa
  rw [qG, hv, ja]
  have next : ∃ r : Int, qG (some (-1)) c cl l (i + 1) = some r ∧ (r = -1 ∨ (∃ q', (i : Int) ≤ r ∧ (q :: l)[r.toNat - i]? = some q' ∧ zh c r = some cl ∧ q'.fa ≠ 1)) := by
   refine ⟨r, e, hr.imp id ?_⟩
   rintro ⟨q', h1, h2, h3, h4⟩
   refine ⟨q', by omega, ?_, h3, h4⟩
   rw [show r.toNat - i = (r.toNat - (i + 1)) + 1 by omega, Jd]
   exact h2
  by_cases h1 : v = cl
  · rw [uT h1, cond_true]
    by_cases h2 : q.fa = 1
    · rw [show (q.fa != 1) = false by simp [h2], cond_false]
      exact next
    · rw [show (q.fa != 1) = true by simp [h2], cond_true]
      exact ⟨i, rfl, .inr ⟨q, vl _, by simp, by rw [hv, h1], h2⟩⟩
  · rw [uF h1, cond_false]
    exact next
theorem qhi {g : List Nd} {c : List Int} (h : StG g c) (cl : Int) : ∃ r : Int, qy cl g c = some r ∧ (r = -1 ∨ ∃ q, zh g r = some q ∧ zh c r = some cl ∧ q.fa ≠ 1) := by
 obtain ⟨r, e, hr⟩ := qvK c cl g 0 (by have := h.len; omega)
 refine ⟨r, e, hr.imp id ?_⟩
 rintro ⟨q, h1, h2, h3, h4⟩
 refine ⟨q, ?_, h3, h4⟩
 unfold zh
 rw [if_pos oa]
 simpa using h2
/-! ### joining -/
def mrg (y x v : Int) : Int := if v = y then x else v
theorem qsY (k : List Nd → List Int → Option (Bool × List Nd × List Int)) (x y : Int) (g : List Nd) : ∀ (r done : List Int) (m : Nat), r.length < m → done.length + r.length ≤ 10000000000 → qQ k x y m (done.length : Int) g (done ++ r) = k g (done ++ r.map (mrg y x))
 | [], done, m, hm, _ => by
  obtain ⟨m, rfl⟩ : ∃ n, m = n + 1 := ⟨m - 1, by omega⟩
  rw [qQ, decide_eq_false og, cond_false]
  rfl
 | v :: r, done, m, hm, hl => by
  rw [jg] at hm hl
  obtain ⟨m, rfl⟩ : ∃ n, m = n + 1 := ⟨m - 1, by omega⟩
  have e : wr ((done.length : Int) + 1) = ((done ++ [mrg y x v]).length : Int) := by
   rw [qgI oa, jb, jl]
   omega
  have ih := qsY k x y g r (done ++ [mrg y x v]) m oa (by rw [jb, jl]; omega)
  rw [jk, jk, vA, vA] at ih
  rw [qQ, decide_eq_true oe, cond_true, qys, ja, e]
  by_cases h : v = y
  have hm : mrg y x v = x := if_pos h
  rw [uT h, cond_true, qDL, jk, vA]
  rw [hm] at ih ⊢
  rw [ih, jr, hm]
  have hm : mrg y x v = v := if_neg h
  rw [uF h, cond_false]
  rw [hm] at ih ⊢
  rw [ih, jr, hm]
def cnt (c : List Int) : Nat := (yn [] c).length
theorem qzv {c : List Int} {x : Int} : x ∈ yn [] c ↔ x ∈ c := by simp [qg5]
theorem qxz : ∀ {a b : List Int}, a.Nodup → (∀ x ∈ a, x ∈ b) → a.length ≤ b.length
 | [], _, _, _ => jf _
 | x :: a, b, hn, h => by
  obtain ⟨h1, h2⟩ := jQ.1 hn
  have hx := h x (jc ..)
  have := qxz (b := b.erase x) h2 fun y hy => (List.mem_erase_of_ne (fun e : y = x => h1 (by rw [← e]; exact hy))).2 (h y (je _ hy))
  have hl := List.length_erase_of_mem hx
  have hp := vW hx
  rw [jg]
  omega
theorem StG.merge {g : List Nd} {c : List Int} (h : StG g c) {x y : Int} (hx : x ∈ c) (hxy : x ≠ y) : StG g (c.map (mrg y x)) := by
 refine ⟨by rw [jd]; exact h.len, fun v hv => ?_, fun v hv => ?_, h.kid⟩
 obtain ⟨u, hu, rfl⟩ := jq.1 hv
 unfold mrg
 split
 exact h.cls x hx
 exact h.cls u hu
 obtain ⟨u, hu, rfl⟩ := jq.1 hv
 by_cases e : u = y
 have hm : mrg y x u = x := if_pos e
 rw [hm, qwD (mrg y x) (h.idem x hx)]
 congr 1
 exact if_neg hxy
 have hm : mrg y x u = u := if_neg e
 rw [hm, qwD (mrg y x) (h.idem u hu), hm]
theorem qCM (c : List Int) (f : Int → Int) (x y : Int) (hy : y ∈ c) (hx : x ∈ c) (hxy : x ≠ y) : cnt (c.map (mrg y x)) < cnt c := by
 have hn : (yn [] (c.map (mrg y x))).Nodup := qrv _ _ List.nodup_nil
 have hsub : ∀ v ∈ (yn [] (c.map (mrg y x))), v ∈ (yn [] c).erase y := fun v hv => by
  obtain ⟨u, hu, rfl⟩ := jq.1 (qzv.1 hv)
  have hne : mrg y x u ≠ y := by
   unfold mrg
   split
   exact hxy
   assumption
  refine (List.mem_erase_of_ne hne).2 (qzv.2 ?_)
  unfold mrg
  split
  exact hx
  exact hu
 have h1 := qxz hn hsub
 have hy' := qzv.2 hy
 have h2 := List.length_erase_of_mem hy'
 have h3 := vW hy'
 unfold cnt
 omega
def Resp (g : List Nd) (E : Int → Int → Prop) : Prop := (∀ i, E i i) ∧ (∀ i j, E i j → E j i) ∧ (∀ i j k, E i j → E j k → E i k) ∧ ∀ i j p q, E i j → zh g i = some p → zh g j = some q → p.fa ≠ 1 → q.fa ≠ 1 → p.fa = q.fa ∧ p.fe = q.fe ∧ p.fE = q.fE ∧ p.ff.length = q.ff.length ∧ ∀ n a b, zh p.ff n = some a → zh q.ff n = some b → E a b
def zbh (c : List Int) (E : Int → Int → Prop) : Prop := ∀ i j v, zh c i = some v → zh c j = some v → E i j
def zbw (g : List Nd) (c : List Int) (a b : Int) (r : Option (Bool × List Nd × List Int)) : Prop := ∃ ok c', r = some (ok, g, c') ∧ StG g c' ∧ cnt c' ≤ cnt c ∧ ∀ E, Resp g E → zbh c E → E a b → ok = true ∧ zbh c' E
theorem qxy {rec : Int → Int → List Nd → List Int → Option (Bool × List Nd × List Int)} {g : List Nd} (q : Nd) (n : Nat) (hrec : ∀ (a b : Int) (c : List Int), StG g c → cnt c < n → 0 ≤ a → a < g.length → 0 ≤ b → b < g.length → zbw g c a b (rec a b g c)) :
 ∀ (l : List Int) (i : Nat) (c : List Int), StG g c → cnt c < n → i + l.length = q.ff.length → (∀ x ∈ l, 0 ≤ x ∧ x < g.length) → (∀ x ∈ q.ff, 0 ≤ x ∧ x < g.length) →
 ∃ ok c', qK (fun g31 g32 => some (true, g31, g32)) rec q l i g c = some (ok, g, c') ∧ StG g c' ∧ cnt c' ≤ cnt c ∧ ∀ E, Resp g E → zbh c E → (∀ (m : Nat) x y, l[m]? = some x → zh q.ff ((i + m : Nat) : Int) = some y → E x y) → ok = true ∧ zbh c' E
 | [], i, c, hs, _, _, _, _ => ⟨true, c, by rw [qK], hs, jn _, fun E _ hf _ => ⟨rfl, hf⟩⟩
 | x :: l, i, c, hs, hc, hl, hx, hq => by
  rw [jg] at hl
  obtain ⟨y, hy, hym⟩ := ye (l := q.ff) (i := (i : Int)) oa oa
  have h1 := hx x (jc ..)
  have h2 := hq y hym
  obtain ⟨ok, c', e, s', le', f'⟩ := hrec x y c hs hc h1.1 h1.2 h2.1 h2.2
  rw [qK, hy, ja, e, ja]
  dsimp only
  cases ok with
  | false =>
   rw [Bool.not_false, cond_true]
   refine ⟨false, c', rfl, s', le', fun E hE hF hm => ?_⟩
   have := (f' E hE hF (hm 0 x y rfl (by simpa using hy))).1
   cases this
  | true =>
   rw [jy, cond_false]
   obtain ⟨ok2, c2, e2, s2, le2, f2⟩ := qxy q n hrec l (i + 1) c' s' oa oa (fun z hz => hx z (je _ hz)) hq
   refine ⟨ok2, c2, e2, s2, by omega, fun E hE hF hm => ?_⟩
   refine f2 E hE (f' E hE hF (hm 0 x y rfl (by simpa using hy))).2 fun m u v hu hv => hm (m + 1) u v (by simpa using hu) ?_
   rw [show i + (m + 1) = i + 1 + m by omega]
   exact hv
theorem qm5 {g : List Nd} (hg : g.length ≤ 1000000000) : ∀ (fuel : Nat) (a b : Int) (c : List Int), StG g c → cnt c < fuel → g.length + cnt c + 1 < fuel → 0 ≤ a → a < g.length → 0 ≤ b → b < g.length → zbw g c a b (qab fuel a b g c)
 | 0, _, _, _, _, h, _, _, _, _, _ => absurd h (vq _)
 | fuel + 1, a, b, c, hs, hf, hf2, ha, ha2, hb, hb2 => by
  have hlen := hs.len
  obtain ⟨x, ex, hx⟩ := ye (l := c) ha oa
  obtain ⟨y, ey, hy⟩ := ye (l := c) hb oa
  rw [qab]
  dsimp only
  rw [ex, ja, ey, ja]
  by_cases hxy : x = y
  rw [uT hxy, cond_true]
  exact ⟨true, c, rfl, hs, jn _, fun E _ hF _ => ⟨rfl, hF⟩⟩
  rw [uF hxy, cond_false]
  obtain ⟨m, em, hm⟩ := qhi hs x
  obtain ⟨n, en, hn⟩ := qhi hs y
  have hs' := hs.merge hx hxy
  have hc := qCM c id x y hy hx hxy
  have hl := qsY (fun g13 g14 => (bif (decide (m < (0 : Int))) then some (true, g13, g14) else (bif (decide (n < (0 : Int))) then some (true, g13, g14) else ((zh g13 m).bind fun q_18 => ((zh g13 n).bind fun q_19 => (bif (q_18.fa != q_19.fa) then some (false, g13, g14) else (bif (q_18.fe != q_19.fe) then some (false, g13, g14) else (bif (!(q_18.fE.toList == q_19.fE.toList)) then some (false, g13, g14) else (bif ((q_18.ff.length : Int) != (q_19.ff.length : Int)) then some (false, g13, g14) else (qK (fun g31 g32 => some (true, g31, g32)) (qab fuel) q_19 q_18.ff 0 g13 g14)))))))))) x y g c [] fuel oa oe
  rw [jp, jp] at hl
  rw [em, ja, en, ja]
  refine (congrArg (zbw g c a b) hl).mpr ?_
  have fit : ∀ E, Resp g E → zbh c E → E a b → zbh (c.map (mrg y x)) E := fun E hE hF hab i j v hi hj => by
   obtain ⟨i0, i1, _⟩ := qhd hi
   obtain ⟨j0, j1, _⟩ := qhd hj
   rw [jd] at i1 j1
   obtain ⟨p, ep, _⟩ := ye i0 i1
   obtain ⟨q, eq, _⟩ := ye j0 j1
   have e1 := qwD (mrg y x) ep
   have e2 := qwD (mrg y x) eq
   rw [hi] at e1
   rw [hj] at e2
   have e1 := Option.some.inj e1
   have e2 := Option.some.inj e2
   have toA : ∀ k w, zh c k = some w → w = x ∨ w = y → E k a := fun k w hk hw => by
    rcases hw with rfl | rfl
    exact hF k a _ hk ex
    exact hE.2.2.1 _ _ _ (hF k b _ hk ey) (hE.2.1 _ _ hab)
   unfold mrg at e1 e2
   by_cases hp : p = y
   rw [if_pos hp] at e1
   have hq : q = x ∨ q = y := by
    by_cases hq : q = y
    exact .inr hq
    rw [if_neg hq] at e2
    exact .inl (e2.symm.trans e1)
   exact hE.2.2.1 _ _ _ (toA i p ep (.inr hp)) (hE.2.1 _ _ (toA j q eq hq))
   rw [if_neg hp] at e1
   by_cases hq : q = y
   rw [if_pos hq] at e2
   exact hE.2.2.1 _ _ _ (toA i p ep (.inl (e1.symm.trans e2))) (hE.2.1 _ _ (toA j q eq (.inr hq)))
   rw [if_neg hq] at e2
   exact hF i j p ep (by rw [eq, ← e2, e1])
  have easy : zbw g c a b (some (true, g, c.map (mrg y x))) := ⟨true, _, rfl, hs', by omega, fun E hE hF hab => ⟨rfl, fit E hE hF hab⟩⟩
  rcases hm with rfl | ⟨p, hp, cp, kp⟩
  rw [decide_eq_true oa, cond_true]
  exact easy
  have m0 := (qhd hp).1
  rw [decide_eq_false oa, cond_false]
  rcases hn with rfl | ⟨q, hq, cq, kq⟩
  rw [decide_eq_true oa, cond_true]
  exact easy
  have n0 := (qhd hq).1
  rw [decide_eq_false oa, cond_false, hp, ja, hq, ja]
  have rel : ∀ E, Resp g E → zbh c E → E a b → E m n := fun E hE hF hab => hE.2.2.1 _ _ _ (hF m a x cp ex) (hE.2.2.1 _ _ _ hab (hF b n y ey cq))
  have bad : (∀ E, Resp g E → zbh c E → E a b → False) → zbw g c a b (some (false, g, c.map (mrg y x))) := fun h => ⟨false, _, rfl, hs', by omega, fun E hE hF hab => (h E hE hF hab).elim⟩
  by_cases e1 : p.fa = q.fa
  rotate_left
  rw [show (p.fa != q.fa) = true by simpa using e1, cond_true]
  exact bad fun E hE hF hab => e1 (hE.2.2.2 m n p q (rel E hE hF hab) hp hq kp kq).1
  rw [show (p.fa != q.fa) = false by simpa using e1, cond_false]
  by_cases e2 : p.fe = q.fe
  rotate_left
  rw [show (p.fe != q.fe) = true by simpa using e2, cond_true]
  exact bad fun E hE hF hab => e2 (hE.2.2.2 m n p q (rel E hE hF hab) hp hq kp kq).2.1
  rw [show (p.fe != q.fe) = false by simpa using e2, cond_false]
  by_cases e3 : p.fE.toList = q.fE.toList
  rotate_left
  rw [show (!(p.fE.toList == q.fE.toList)) = true by simpa using e3, cond_true]
  exact bad fun E hE hF hab => e3 (by rw [(hE.2.2.2 m n p q (rel E hE hF hab) hp hq kp kq).2.2.1])
  rw [show (!(p.fE.toList == q.fE.toList)) = false by simpa using e3, cond_false]
  by_cases e4 : p.ff.length = q.ff.length
  rotate_left
  rw [show ((p.ff.length : Int) != (q.ff.length : Int)) = true by simp; omega, cond_true]
  exact bad fun E hE hF hab => e4 (hE.2.2.2 m n p q (rel E hE hF hab) hp hq kp kq).2.2.2.1
  rw [show ((p.ff.length : Int) != (q.ff.length : Int)) = false by simp; omega, cond_false]
  obtain ⟨ok, c2, e5, s2, le2, f2⟩ := qxy (rec := qab fuel) (g := g) q (cnt (c.map (mrg y x)) + 1) (fun a b c3 h1 h2 h3 h4 h5 h6 => qm5 hg fuel a b c3 h1 oa oa h3 h4 h5 h6) p.ff 0 (c.map (mrg y x)) hs' oa oa (hs.kid p (qhd hp).2.2) (hs.kid q (qhd hq).2.2)
  refine ⟨ok, c2, e5, s2, by omega, fun E hE hF hab => ?_⟩
  refine f2 E hE (fit E hE hF hab) fun k u v hu hv => ?_
  rw [jx] at hv
  exact (hE.2.2.2 m n p q (rel E hE hF hab) hp hq kp kq).2.2.2.2 k u v (by rw [qdl]; exact hu) hv
/-! ### entering -/
def Kd (M : Nat) (g : List Nd) : Prop := ∀ q ∈ g, q.ff.length ≤ M
def Ent (M : Nat) (g : List Nd) (c : List Int) (n : Nat) (i : Int) (g' : List Nd) (c' : List Int) : Prop := StG g' c' ∧ Kd M g' ∧ (∃ e, g' = g ++ e ∧ e.length ≤ n ∧ c' = c ++ (List.range' g.length e.length).map fun (x : Nat) => (x : Int)) ∧ 0 ≤ i ∧ i < g'.length
def y6 (M : Nat) (g : List Nd) (c : List Int) (n : Nat) (g' : List Nd) (c' : List Int) : Prop := StG g' c' ∧ Kd M g' ∧ ∃ e, g' = g ++ e ∧ e.length ≤ n ∧ c' = c ++ (List.range' g.length e.length).map fun (x : Nat) => (x : Int)
theorem y6.rfl' {M : Nat} {g : List Nd} {c : List Int} (h : StG g c) (k : Kd M g) (n : Nat) : y6 M g c n g c := ⟨h, k, [], by simp, by simp, by simp⟩
theorem y6.trans {M : Nat} {g g1 g2 : List Nd} {c c1 c2 : List Int} {m n : Nat} (h : y6 M g c m g1 c1) (k : y6 M g1 c1 n g2 c2) : y6 M g c (m + n) g2 c2 := by
 obtain ⟨_, _, e, rfl, he, rfl⟩ := h
 obtain ⟨a, b, f, rfl, hf, rfl⟩ := k
 refine ⟨a, b, e ++ f, by rw [jk], by rw [jb]; omega, ?_⟩
 rw [jb, jb, ← List.range'_append, jM, jk]
 simp
theorem y6.more {M : Nat} {g g1 : List Nd} {c c1 : List Int} {m n : Nat} (h : y6 M g c m g1 c1) (hm : m ≤ n) : y6 M g c n g1 c1 := by
 obtain ⟨a, b, e, rfl, he, rfl⟩ := h
 exact ⟨a, b, e, rfl, by omega, rfl⟩
theorem y6.le {M : Nat} {g g1 : List Nd} {c c1 : List Int} {m : Nat} (h : y6 M g c m g1 c1) : g.length ≤ g1.length ∧ g1.length ≤ g.length + m := by
 obtain ⟨a, b, e, rfl, he, rfl⟩ := h
 rw [jb]
 omega
theorem StG.snoc {g : List Nd} {c : List Int} (h : StG g c) {q : Nd} (hq : ∀ k ∈ q.ff, 0 ≤ k ∧ k < g.length) : StG (g ++ [q]) (c ++ [(g.length : Int)]) := by
 have hl := h.len
 refine ⟨by simp [hl], fun v hv => ?_, fun v hv => ?_, fun p hp k hk => ?_⟩
 rw [jb, jl]
 rcases jj.1 hv with hv | hv
 have := h.cls v hv
 omega
 rw [ji.1 hv]
 omega
 rcases jj.1 hv with hv | hv
 exact qBe (h.idem v hv)
 rw [ji.1 hv, ← hl]
 exact qys
 rw [jb, jl]
 rcases jj.1 hp with hp | hp
 have := h.kid p hp k hk
 omega
 rw [ji.1 hp] at hk
 have := hq k hk
 omega
abbrev EnR := Option (Int × List Nd × List Int)
theorem qvP (t : T) (g0 : List Nd) (c0 : List Int) (k : EnR) : ∀ (l : List Nd) (i : Nat), qu k g0 c0 t l i = k ∨ ∃ j q, qu k g0 c0 t l i = some (((i + j : Nat) : Int), g0, c0) ∧ l[j]? = some q ∧ q.fa = 1 ∧ q.fe = t.i
 | [], i => .inl (by rw [qu])
 | q :: l, i => by
  rw [qu]
  have next : qu k g0 c0 t l (i + 1) = k ∨ ∃ j q', qu k g0 c0 t l (i + 1) = some (((i + j : Nat) : Int), g0, c0) ∧ (q :: l)[j]? = some q' ∧ q'.fa = 1 ∧ q'.fe = t.i := by
   rcases qvP t g0 c0 k l (i + 1) with h | ⟨j, q', h1, h2, h3⟩
   exact .inl h
   exact .inr ⟨j + 1, q', by rw [h1, show i + 1 + j = i + (j + 1) by omega], by simpa using h2, h3⟩
  by_cases h1 : q.fa = 1
  · rw [uT h1, cond_true]
    by_cases h2 : q.fe = t.i
    · rw [uT h2, cond_true]
      exact .inr ⟨0, q, rfl, rfl, h1, h2⟩
    · rw [uF h2, cond_false]
      exact next
  · rw [uF h1, cond_false]
    exact next
inductive Rp (g : List Nd) : Int → T → Prop
 | mk (i : Int) (q : Nd) (t : T) : zh g i = some q → q.fa = t.k → q.fe = t.i → q.fE = t.s → q.ff.length = t.ar.length → (∀ n a u, zh q.ff n = some a → zh t.ar n = some u → Rp g a u) → Rp g i t
theorem Rp.more {g : List Nd} (e : List Nd) {i : Int} {t : T} (h : Rp g i t) : Rp (g ++ e) i t := by
 induction h with
 | mk i q t h1 h2 h3 h4 h5 _ ih => exact .mk i q t (qBe h1) h2 h3 h4 h5 ih
def zbA (g : List Nd) : Prop := ∀ q ∈ g, q.fa = 1 → q.fE = ⟨#[]⟩ ∧ q.ff = []
def zaz (g : List Nd) : Prop := ∀ i q, zh g i = some q → ∃ t, Rp g i t
theorem zaz.nil : zaz [] := fun i q h => absurd (qdB h) og
theorem zaz.snoc {g : List Nd} (h : zaz g) {q : Nd} {t : T} (hr : Rp (g ++ [q]) (g.length : Int) t) : zaz (g ++ [q]) := fun i p hp => by
 obtain ⟨h0, h1, _⟩ := qhd hp
 rw [jb, jl] at h1
 by_cases e : i = (g.length : Int)
 rw [e]
 exact ⟨t, hr⟩
 obtain ⟨p', hp', _⟩ := ye (l := g) (i := i) h0 oa
 obtain ⟨u, hu⟩ := h i p' hp'
 exact ⟨u, hu.more _⟩
theorem qws {M : Nat} {rec : T → List Nd → List Int → EnR} (k : List Nd → List Int → Int → Int → ByteArray → List Int → EnR) (k1 k2 : Int) (s : ByteArray) :
 ∀ (l : List T) (g : List Nd) (c : List Int) (kids : List Int), (∀ t ∈ l, ∀ g c, StG g c → Kd M g → zbA g → g.length + wt t ≤ 1000000000 → ∃ i g' c', rec t g c = some (i, g', c') ∧ Ent M g c (wt t) i g' c' ∧ zbA g' ∧ Rp g' i t ∧ (zaz g → zaz g')) → StG g c → Kd M g → zbA g → g.length + wtL l ≤ 1000000000 → kids.length + l.length ≤ 1000000000 → (∀ a ∈ kids, 0 ≤ a ∧ a < g.length) →
 ∃ g' c' ks, qB k rec l g c k1 k2 s kids = k g' c' k1 k2 s (kids ++ ks) ∧ y6 M g c (wtL l) g' c' ∧ zbA g' ∧ ks.length = l.length ∧ (∀ a ∈ kids ++ ks, 0 ≤ a ∧ a < g'.length) ∧ (∀ (n : Nat) a u, ks[n]? = some a → l[n]? = some u → Rp g' a u) ∧ (zaz g → zaz g')
 | [], g, c, kids, _, hs, hk, hv, _, _, hb => ⟨g, c, [], by rw [qB, jv], y6.rfl' hs hk _, hv, rfl, by simpa using hb, fun n a u h => by simp at h, id⟩
 | t :: l, g, c, kids, hr, hs, hk, hv, hw, hl, hb => by
  rw [wtL] at hw
  rw [jg] at hl
  obtain ⟨i, g1, c1, e1, h1, v1, r1, q1⟩ := hr t (jc ..) g c hs hk hv oa
  obtain ⟨a1, b1, x1, i0, i1⟩ := h1
  have E1 : y6 M g c (wt t) g1 c1 := ⟨a1, b1, x1⟩
  have hle := E1.le
  obtain ⟨g2, c2, ks, e2, E2, v2, l2, b2, r2, q2⟩ := qws k k1 k2 s l g1 c1 (kids ++ [i]) (fun t ht => hr t (je _ ht)) a1 b1 v1 oa (by rw [jb, jl]; omega) (fun a ha => by
   rcases jj.1 ha with ha | ha
   have := hb a ha
   omega
   rw [ji.1 ha]
   exact ⟨i0, i1⟩)
  refine ⟨g2, c2, i :: ks, ?_, E1.trans E2, v2, by simp [l2], by simpa using b2, ?_, fun h => q2 (q1 h)⟩
  rw [qB, e1, ja, qfo oa (n := l.length) oa, ja, e2, jk, vA]
  intro n a u ha hu
  cases n with
  | zero =>
   simp only [vK, Option.some.injEq] at ha hu
   subst ha hu
   obtain ⟨_, _, e, rfl, _⟩ := E2
   exact r1.more e
  | succ n => exact r2 n a u (by simpa using ha) (by simpa using hu)
inductive yF : T → Prop
 | mk (t : T) : (t.k = 1 → t.s = ⟨#[]⟩ ∧ t.ar = []) → (∀ u ∈ t.ar, yF u) → yF t
theorem qgQ {M : Nat} : ∀ (fuel : Nat) (t : T) (g : List Nd) (c : List Int), yF t → wt t < fuel → wt t ≤ M → StG g c → Kd M g → zbA g → g.length + wt t ≤ 1000000000 →
 ∃ i g' c', qJ fuel t g c = some (i, g', c') ∧ Ent M g c (wt t) i g' c' ∧ zbA g' ∧ Rp g' i t ∧ (zaz g → zaz g')
 | 0, _, _, _, _, h, _, _, _, _, _ => absurd h (vq _)
 | fuel + 1, t, g, c, hok, hf, hM, hs, hk, hv, hw => by
  obtain ⟨_, hv1, hv2⟩ := hok
  have hwt := qie t
  have hlen := qfR t.ar
  have main : ∃ i g' c', qB (fun g18 g19 x21 x22 x23 x24 => ((zz 56 g18 [(⟨x21, x22, x23, x24⟩ : qb)]).bind fun l25 => ((zz 8 g19 [(wr ((l25.length : Int) - (1 : Int)))]).bind fun l27 => some ((wr ((l25.length : Int) - (1 : Int))), l25, l27)))) (qJ fuel) t.ar g c t.k t.i t.s [] = some (i, g', c') ∧ Ent M g c (wt t) i g' c' ∧ zbA g' ∧ Rp g' i t ∧ (zaz g → zaz g') := by
   obtain ⟨g1, c1, ks, e1, E1, v1, l1, b1, r1, q1⟩ := qws (M := M) (rec := qJ fuel) (fun g18 g19 x21 x22 x23 x24 => ((zz 56 g18 [(⟨x21, x22, x23, x24⟩ : qb)]).bind fun l25 => ((zz 8 g19 [(wr ((l25.length : Int) - (1 : Int)))]).bind fun l27 => some ((wr ((l25.length : Int) - (1 : Int))), l25, l27)))) t.k t.i t.s t.ar g c [] (fun u hu g c h1 h2 h3 h4 => qgQ fuel u g c (hv2 u hu) (by have := qxd hu; omega) (by have := qxd hu; omega) h1 h2 h3 h4) hs hk hv oa oe og
   rw [jp] at e1 b1
   obtain ⟨s1, k1, x, hx, hxl, hc⟩ := E1
   have hl1 := s1.len
   have hg1 : g1.length ≤ g.length + wtL t.ar := by rw [hx, jb]; omega
   have ha : zz 56 g1 [(⟨t.k, t.i, t.s, ks⟩ : Nd)] = some (g1 ++ [⟨t.k, t.i, t.s, ks⟩]) := qfo oa (n := 0) oa
   have hwr : wr (((g1 ++ [(⟨t.k, t.i, t.s, ks⟩ : Nd)]).length : Int) - 1) = (g1.length : Int) := by
    rw [jb, jl, qgI oa]
    omega
   have hb : zz 8 c1 [((g1.length : Nat) : Int)] = some (c1 ++ [((g1.length : Nat) : Int)]) := qfo oa (n := 0) oa
   have hR : Rp (g1 ++ [(⟨t.k, t.i, t.s, ks⟩ : Nd)]) (g1.length : Int) t := by
    refine .mk _ ⟨t.k, t.i, t.s, ks⟩ t ?_ rfl rfl rfl l1 fun n a u ha hu => ?_
    rw [← jv [(⟨t.k, t.i, t.s, ks⟩ : Nd)]]
    exact qys (done := g1) (ts := [])
    exact (r1 n.toNat a u (qb3 ha).2 (qb3 hu).2).more _
   refine ⟨(g1.length : Int), g1 ++ [⟨t.k, t.i, t.s, ks⟩], c1 ++ [(g1.length : Int)], ?_, ⟨s1.snoc b1, ?_, ⟨x ++ [⟨t.k, t.i, t.s, ks⟩], ?_, ?_, ?_⟩, by omega, ?_⟩, ?_, hR, fun h => (q1 h).snoc hR⟩
   rw [e1, ha, ja, hwr, hb, ja]
   intro q hq
   rcases jj.1 hq with hq | hq
   exact k1 q hq
   rw [ji.1 hq]
   show ks.length ≤ M
   omega
   rw [hx, jk]
   rw [jb, jl]
   omega
   rw [hc, jb, jl, List.range'_concat, jM, jk]
   congr 3
   simp [hx]
   rw [jb, jl]
   omega
   intro q hq hq1
   rcases jj.1 hq with hq | hq
   exact v1 q hq hq1
   rw [ji.1 hq] at hq1 ⊢
   obtain ⟨h1, h2⟩ := hv1 hq1
   refine ⟨h1, ?_⟩
   rw [h2] at l1
   exact jz l1
  rw [qJ]
  dsimp only
  unfold qbQ
  by_cases h1 : t.k = 1
  rw [uT h1, cond_true]
  rcases qvP t g c _ g 0 with h | ⟨j, q, h, hj, hq1, hq2⟩
  rw [h]
  exact main
  have hjl := (ju.1 hj).1
  obtain ⟨hs1, hs2⟩ := hv1 h1
  obtain ⟨hn1, hn2⟩ := hv q (List.mem_of_getElem? hj) hq1
  refine ⟨_, g, c, h, ⟨hs, hk, ⟨[], by simp, by simp, by simp⟩, by omega, by omega⟩, hv, .mk _ q t (by rw [qdl, jx]; exact hj) (by rw [hq1, h1]) hq2 (by rw [hn1, hs1]) (by rw [hn2, hs2]; rfl) fun n a u ha => ?_, id⟩
  rw [hn2] at ha
  exact absurd (qdB ha) og
  rw [uF h1, cond_false]
  exact main
abbrev Ms := qj
/-! ### least, term -/
theorem qwv (c : List Int) (cl : Int) (k : Int → Option Int) : ∀ (l : List Nd) (v : Int) (i : Nat), i + l.length ≤ c.length → ∃ r, qr k c cl l v i = k r
 | [], v, i, _ => ⟨v, by rw [qr]⟩
 | q :: l, v, i, h => by
  rw [jg] at h
  obtain ⟨x, hx, _⟩ := ye (l := c) (i := (i : Int)) oa oa
  have next := fun v => qwv c cl k l v (i + 1) oa
  rw [qr, hx, ja]
  cases (x == cl) with
  | false => exact next v
  | true =>
   cases (q.fa == (1 : Int)) with
   | false => exact next v
   | true =>
    cases (decide (v < 0)) with
    | true => exact next _
    | false =>
     cases (decide (q.fe < v)) with
     | true => exact next _
     | false => exact next _
theorem qng {g : List Nd} {c : List Int} (h : StG g c) (cl : Int) : ∃ r, qaO cl g c = some r := by
 obtain ⟨r, e⟩ := qwv c cl (fun v => some v) g (-1) 0 (by have := h.len; omega)
 exact ⟨r, e⟩
theorem qyQ {rec : Int → List Nd → List Int → Option T} {g : List Nd} {c : List Int} (h : StG g c) {q : Nd} (hq : q ∈ g) (hM : q.ff.length ≤ 1000000000) (k : Int → Int → ByteArray → List T → Option T) (a b : Int) (s : ByteArray) (hr : ∀ x ∈ q.ff, ∀ v, zh c x = some v → ∃ t, rec v g c = some t) :
 ∀ (n i : Nat) (l : List T), q.ff.length < n + i → i ≤ q.ff.length → l.length = i → ∃ l', qp k rec g c q n (i : Int) a b s l = k a b s l'
 | 0, i, l, h1, h2, _ => by omega
 | n + 1, i, l, h1, h2, h3 => by
  have hl := h.len
  rw [qp]
  by_cases hi : i < q.ff.length
  obtain ⟨x, hx, hxm⟩ := ye (l := q.ff) (i := (i : Int)) oa oa
  have hxb := h.kid q hq x hxm
  obtain ⟨v, hv, _⟩ := ye (l := c) hxb.1 oa
  obtain ⟨t, ht⟩ := hr x hxm v hv
  have hi' : wr ((i : Int) + 1) = ((i + 1 : Nat) : Int) := by
   rw [qgI oa]
   omega
  obtain ⟨l', e⟩ := qyQ h hq hM k a b s hr n (i + 1) (l ++ [t]) oa oa (by simp [h3])
  refine ⟨l', ?_⟩
  rw [decide_eq_true oa, cond_true, hx, ja, hv, ja, ht, ja, qfo oa (n := 0) oa, ja, hi', e]
  rw [decide_eq_false oa, cond_false]
  exact ⟨l, rfl⟩
def yy (M : Nat) (g : List Nd) (c : List Int) (K : Nat) (v : Int) : Prop := ∀ fuel, K + M + 2 ≤ fuel → ∃ t, qq fuel v g c = some t
theorem yy.more {M : Nat} {g : List Nd} {c : List Int} {K L : Nat} {v : Int} (h : yy M g c K v) (hl : K ≤ L) : yy M g c L v := fun fuel hf => h fuel oa
theorem qtR {M : Nat} (hM : M ≤ 1000000000) {g : List Nd} {c : List Int} (h : StG g c) (hk : Kd M g) {K : Nat} {v r : Int} (hr : qy v g c = some r) (hs : r < 0 ∨ ∃ q, zh g r = some q ∧ ∀ x ∈ q.ff, ∀ w, zh c x = some w → yy M g c K w) : yy M g c (K + 1) v := by
 intro fuel hf
 obtain ⟨fuel, rfl⟩ : ∃ n, fuel = n + 1 := ⟨fuel - 1, by omega⟩
 rw [qq]
 dsimp only
 rw [hr, ja]
 by_cases h0 : r < 0
 rw [decide_eq_true h0, cond_true]
 obtain ⟨x, e⟩ := qng h v
 exact ⟨_, by rw [e, ja]⟩
 rcases hs with hs | ⟨q, hq, hx⟩
 exact absurd hs h0
 rw [decide_eq_false h0, cond_false, hq, ja]
 have hqm := qdB hq
 have hkq := hk q hqm
 obtain ⟨l', e⟩ := qyQ h hqm oa (rec := qq fuel) (fun t14 t15 t16 t17 => some ((T.mk t14 t15 t16 t17))) q.fa q.fe q.fE (fun x hxm w hw => hx x hxm w hw fuel oa) fuel 0 [] oa oa rfl
 exact ⟨_, e⟩
/-! ### measured -/
def AllM (a : List Ms) : Prop := ∀ y ∈ a, 0 ≤ y.fh ∧ y.fh ≤ 201 ∧ 0 ≤ y.fo ∧ y.fo ≤ 21
def SetM (a : List Ms) (v : Int) : Prop := ∃ y, zh a v = some y ∧ 0 < y.fh
abbrev MsR := Option (List Ms × Bool)
noncomputable def ks (a : List Ms) (c : List Int) : List Int → Int
 | [] => 0
 | x :: l => (((zh c x).bind fun w => zh a w).map fun y => y.fh).getD 0 + ks a c l
theorem qCh {a : List Ms} (ha : AllM a) (c : List Int) : ∀ l : List Int, 0 ≤ ks a c l
 | [] => vl _
 | x :: l => by
  have := qCh ha c l
  rw [ks]
  cases h : (zh c x).bind fun w => zh a w with
  | none =>
   show 0 ≤ 0 + _
   omega
  | some y =>
   obtain ⟨w, _, hy⟩ := jX.1 h
   have := (ha y (qdB hy)).1
   show 0 ≤ y.fh + _
   omega
theorem quL {a : List Ms} {c : List Int} {x w : Int} {y : Ms} (h1 : zh c x = some w) (h2 : zh a w = some y) (l : List Int) : ks a c (x :: l) = y.fh + ks a c l := by
 rw [ks, h1, ja, h2]
 rfl
theorem qA3 {a : List Ms} (ha : AllM a) {c : List Int} {x w : Int} {y : Ms} (h1 : zh c x = some w) (h2 : zh a w = some y) : ∀ {l : List Int}, x ∈ l → y.fh ≤ ks a c l
 | z :: l, h => by
  have hl := qCh ha c l
  rcases jh.1 h with rfl | h
  rw [quL h1 h2]
  omega
  have := qA3 ha h1 h2 h
  rw [ks]
  cases hz : (zh c z).bind fun w => zh a w with
  | none =>
   show _ ≤ 0 + _
   omega
  | some y' =>
   obtain ⟨w', _, hy⟩ := jX.1 hz
   have := (ha y' (qdB hy)).1
   show _ ≤ y'.fh + _
   omega
def zaK (g : List Nd) (c : List Int) (v s : Int) : Prop := ∀ fuel t, qq fuel v g c = some t → (wt t : Int) ≤ s
theorem qvB {rec : Int → List Nd → List Int → Option T} {g : List Nd} {c : List Int} {a : List Ms} {q : Nd} (hl : q.ff.length ≤ 1000000000) (hr : ∀ x ∈ q.ff, ∀ w, zh c x = some w → ∃ y, zh a w = some y ∧ ∀ t, rec w g c = some t → (wt t : Int) ≤ y.fh) (k1 k2 : Int) (nm : ByteArray) :
 ∀ (n i : Nat) (l : List T) (t : T), i ≤ q.ff.length → qp (fun t14 t15 t16 t17 => some (T.mk t14 t15 t16 t17)) rec g c q n (i : Int) k1 k2 nm l = some t → (wt t : Int) ≤ 1 + wtL l + ks a c (q.ff.drop i)
 | 0, i, l, t, _, h => by
  rw [qp] at h
  cases h
 | n + 1, i, l, t, hi, h => by
  rw [qp] at h
  by_cases h1 : (i : Int) < (q.ff.length : Int)
  rw [decide_eq_true h1, cond_true] at h
  obtain ⟨x, hx, h⟩ := jX.1 h
  obtain ⟨v, hv, h⟩ := jX.1 h
  obtain ⟨y, hy, h⟩ := jX.1 h
  obtain ⟨l2, hl2, h⟩ := jX.1 h
  obtain ⟨z, hz, hw⟩ := hr x (qhd hx).2.2 v hv
  have hwy := hw y hy
  have hl2' : l2 = l ++ [y] := by
   unfold zz at hl2
   split at hl2
   exact (Option.some.inj hl2).symm
   cases hl2
  subst hl2'
  have hi' : wr ((i : Int) + 1) = ((i + 1 : Nat) : Int) := by
   rw [qgI oa]
   omega
  rw [hi'] at h
  have ih := qvB hl hr k1 k2 nm n (i + 1) (l ++ [y]) t oa h
  have hd : q.ff.drop i = x :: q.ff.drop (i + 1) := by
   rw [qdl] at hx
   rw [j2 oa]
   rw [js oa] at hx
   rw [Option.some.inj hx]
  rw [hd, quL hv hz]
  rw [qks] at ih
  simp only [wtL] at ih
  omega
  rw [decide_eq_false h1, cond_false] at h
  rw [← Option.some.inj h, va oa, ks, wt]
  omega
theorem qrr {g : List Nd} {c : List Int} {a : List Ms} {v r s : Int} (hr : qy v g c = some r) (h1 : 1 ≤ s) (hs : r < 0 ∨ ∃ q, zh g r = some q ∧ q.ff.length ≤ 1000000000 ∧ (∀ x ∈ q.ff, ∀ w, zh c x = some w → ∃ y, zh a w = some y ∧ zaK g c w y.fh) ∧ 1 + ks a c q.ff ≤ s) : zaK g c v s := by
 intro fuel t ht
 cases fuel with
 | zero =>
  rw [qq] at ht
  cases ht
 | succ fuel =>
  rw [qq] at ht
  dsimp only at ht
  rw [hr, ja] at ht
  by_cases h0 : r < 0
  rw [decide_eq_true h0, cond_true] at ht
  obtain ⟨x, _, ht⟩ := jX.1 ht
  rw [← Option.some.inj ht, wt, wtL]
  omega
  rcases hs with hs | ⟨q, hq, hl, hk, hsum⟩
  exact absurd hs h0
  rw [decide_eq_false h0, cond_false, hq, ja] at ht
  have := qvB (a := a) hl (fun x hx w hw => by
   obtain ⟨y, hy, hy2⟩ := hk x hx w hw
   exact ⟨y, hy, fun t h => hy2 fuel t h⟩) _ _ _ fuel 0 [] t (jf _) ht
  rw [vz] at this
  simp only [wtL] at this
  omega
def zbf (g : List Nd) (c : List Int) (v s : Int) : Prop := ∀ fuel t, qq fuel v g c = some t → (yb t : Int) ≤ s
theorem qwa {rec : Int → List Nd → List Int → Option T} {g : List Nd} {c : List Int} {q : Nd} {d : Int} (h1 : 1 ≤ d) (hr : ∀ x ∈ q.ff, ∀ w, zh c x = some w → ∀ t, rec w g c = some t → (yb t : Int) + 1 ≤ d) (k1 k2 : Int) (nm : ByteArray) :
 ∀ (n : Nat) (i : Int) (l : List T) (t : T), qp (fun t14 t15 t16 t17 => some (T.mk t14 t15 t16 t17)) rec g c q n i k1 k2 nm l = some t → (zK l : Int) + 1 ≤ d → (yb t : Int) ≤ d
 | 0, i, l, t, h, _ => by
  rw [qp] at h
  cases h
 | n + 1, i, l, t, h, hd => by
  rw [qp] at h
  by_cases h2 : i < (q.ff.length : Int)
  rw [decide_eq_true h2, cond_true] at h
  obtain ⟨x, hx, h⟩ := jX.1 h
  obtain ⟨v, hv, h⟩ := jX.1 h
  obtain ⟨y, hy, h⟩ := jX.1 h
  obtain ⟨l2, hl2, h⟩ := jX.1 h
  have hwy := hr x (qhd hx).2.2 v hv y hy
  have hl2' : l2 = l ++ [y] := by
   unfold zz at hl2
   split at hl2
   exact (Option.some.inj hl2).symm
   cases hl2
  subst hl2'
  refine qwa h1 hr k1 k2 nm n _ _ t h ?_
  rw [qmw]
  simp only [zK]
  omega
  rw [decide_eq_false h2, cond_false] at h
  rw [← Option.some.inj h, yb]
  split <;> omega
theorem qrF {g : List Nd} {c : List Int} {v r s : Int} (hr : qy v g c = some r) (h1 : 1 ≤ s) (hs : r < 0 ∨ ∃ q, zh g r = some q ∧ ∀ x ∈ q.ff, ∀ w, zh c x = some w → ∃ y, zbf g c w y ∧ y + 1 ≤ s) : zbf g c v s := by
 intro fuel t ht
 cases fuel with
 | zero =>
  rw [qq] at ht
  cases ht
 | succ fuel =>
  rw [qq] at ht
  dsimp only at ht
  rw [hr, ja] at ht
  by_cases h0 : r < 0
  rw [decide_eq_true h0, cond_true] at ht
  obtain ⟨x, _, ht⟩ := jX.1 ht
  rw [← Option.some.inj ht, yb, if_neg oa]
  omega
  rcases hs with hs | ⟨q, hq, hk⟩
  exact absurd hs h0
  rw [decide_eq_false h0, cond_false, hq, ja] at ht
  exact qwa h1 (fun x hx w hw t ht => by
   obtain ⟨y, h3, h4⟩ := hk x hx w hw
   have := h3 fuel t ht
   omega) _ _ _ fuel 0 [] t ht (by simp only [zK]; omega)
theorem qzV (k : Bool → Ms → MsR) (a : List Ms) (g : List Nd) (c : List Int) {r : Int} (hr : r < 0) (n : Nat) (hn : 0 < n) (d : Bool) (j : Int) (x : Ms) : qI k a g c r n d j x = k d x := by
 obtain ⟨n, rfl⟩ : ∃ m, n = m + 1 := ⟨n - 1, by omega⟩
 rw [qI, decide_eq_false oa, cond_false]
theorem qzE {g : List Nd} {c : List Int} (h : StG g c) {a : List Ms} (ha : AllM a) (hal : a.length = g.length) (k : Bool → Ms → MsR) {r : Int} {q : Nd} (hq : zh g r = some q) (hM : q.ff.length ≤ 1000000000) :
 ∀ (n j : Nat) (d : Bool) (x : Ms), q.ff.length < n + j → j ≤ q.ff.length → 1 ≤ x.fh → x.fh ≤ 201 → 1 ≤ x.fo → x.fo ≤ 21 → ∃ d' x', qI k a g c r n d (j : Int) x = k d' x' ∧ (1 ≤ x'.fh ∧ x'.fh ≤ 201 ∧ 1 ≤ x'.fo ∧ x'.fo ≤ 21 ∧ x.fo ≤ x'.fo) ∧ (d' = true → d = true ∧ ∀ (i : Nat) y, j ≤ i → q.ff[i]? = some y → ∀ w, zh c y = some w → SetM a w) ∧ (x'.fh ≤ 200 → x.fh + ks a c (q.ff.drop j) ≤ x'.fh) ∧ (x'.fo ≤ 20 → ∀ (i : Nat) y, j ≤ i → q.ff[i]? = some y → ∀ w z, zh c y = some w → zh a w = some z → z.fo + 1 ≤ x'.fo)
 | 0, j, d, x, h1, h2, _, _, _, _ => by omega
 | n + 1, j, d, x, h1, h2, h3, h4, h5', h6' => by
  have hl := h.len
  have hr0 := (qhd hq).1
  rw [qI, decide_eq_true oa, cond_true, hq, ja]
  by_cases hj : j < q.ff.length
  · obtain ⟨y, hy, hym⟩ := ye (l := q.ff) (i := (j : Int)) oa oa
    have hyb := h.kid q (qdB hq) y hym
    obtain ⟨w, hw, hwm⟩ := ye (l := c) hyb.1 oa
    have hwb := h.cls w hwm
    obtain ⟨z, hz, hzm⟩ := ye (l := a) hwb.1 oa
    have hzb := ha z hzm
    have hj' : wr ((j : Int) + 1) = ((j + 1 : Nat) : Int) := by
     rw [qgI oa]
     omega
    have hsz : wr (x.fh + z.fh) = x.fh + z.fh := qgI oa
    rw [decide_eq_true oa, cond_true, hy, ja, hw, ja, hz, ja, hj', hsz]
    have hx1 : 1 ≤ yf (x.fh + z.fh) 201 := by rw [qlj]; omega
    have hx2 : yf (x.fh + z.fh) 201 ≤ 201 := by rw [qlj]; omega
    have hdz : wr (z.fo + 1) = z.fo + 1 := qgI oa
    have hd1 : 1 ≤ yf (yH x.fo (wr (z.fo + (1 : Int)))) 21 := by rw [qlj, qrS, hdz]; omega
    have hd2 : yf (yH x.fo (wr (z.fo + (1 : Int)))) 21 ≤ 21 := by rw [qlj]; omega
    have hd3 : x.fo ≤ yf (yH x.fo (wr (z.fo + (1 : Int)))) 21 := by rw [qlj, qrS, hdz]; omega
    have hd4 : yf (yH x.fo (wr (z.fo + (1 : Int)))) 21 ≤ 20 → z.fo + 1 ≤ yf (yH x.fo (wr (z.fo + (1 : Int)))) 21 := by rw [qlj, qrS, hdz]; omega
    have next := fun d => qzE h ha hal k hq hM n (j + 1) d ⟨yf (x.fh + z.fh) 201, (yf (yH x.fo (wr (z.fo + (1 : Int)))) (21 : Int))⟩ oa oa hx1 hx2 hd1 hd2
    have hdr : q.ff.drop j = y :: q.ff.drop (j + 1) := by
     have hy := hy
     rw [qdl] at hy
     rw [j2 oa]
     rw [js oa] at hy
     rw [Option.some.inj hy]
    have hnn := qCh ha c (q.ff.drop (j + 1))
    have sum : ∀ x' : Ms, (x'.fh ≤ 200 → yf (x.fh + z.fh) 201 + ks a c (q.ff.drop (j + 1)) ≤ x'.fh) → x'.fh ≤ 200 → x.fh + ks a c (q.ff.drop j) ≤ x'.fh := fun x' h h2 => by
     have := h h2
     rw [hdr, quL hw hz]
     rw [qlj] at this
     omega
    have deep : ∀ x' : Ms, yf (yH x.fo (wr (z.fo + (1 : Int)))) 21 ≤ x'.fo → (x'.fo ≤ 20 → ∀ (i : Nat) y, j + 1 ≤ i → q.ff[i]? = some y → ∀ w z, zh c y = some w → zh a w = some z → z.fo + 1 ≤ x'.fo) → x'.fo ≤ 20 → ∀ (i : Nat) y, j ≤ i → q.ff[i]? = some y → ∀ w z, zh c y = some w → zh a w = some z → z.fo + 1 ≤ x'.fo := fun x' hle h h2 i y' hi hy' w' z' hw' hz' => by
     by_cases hij : i = j
     · subst hij
       rw [qdl] at hy
       obtain rfl := Option.some.inj (hy.symm.trans hy')
       obtain rfl := Option.some.inj (hw.symm.trans hw')
       obtain rfl := Option.some.inj (hz.symm.trans hz')
       have := hd4 oa
       omega
     · exact h h2 i y' oa hy' w' z' hw' hz'
    cases d with
    | true =>
     rw [cond_true]
     obtain ⟨d', x', e, ⟨a1, a2, a3, a4, a5⟩, hd, hsm, hdp⟩ := next (decide (z.fh > 0))
     dsimp only at a5
     refine ⟨d', x', e, ⟨a1, a2, a3, a4, by omega⟩, fun hd' => ⟨rfl, fun i y' hi hy' w' hw' => ?_⟩, sum x' hsm, deep x' a5 hdp⟩
     obtain ⟨h5, h6⟩ := hd hd'
     by_cases hij : i = j
     · subst hij
       rw [qdl] at hy
       obtain rfl := Option.some.inj (hy.symm.trans hy')
       obtain rfl := Option.some.inj (hw.symm.trans hw')
       exact ⟨z, hz, by simpa using h5⟩
     · exact h6 i y' oa hy' w' hw'
    | false =>
     rw [cond_false]
     obtain ⟨d', x', e, ⟨a1, a2, a3, a4, a5⟩, hd, hsm, hdp⟩ := next false
     dsimp only at a5
     exact ⟨d', x', e, ⟨a1, a2, a3, a4, by omega⟩, (fun hd' => by cases (hd hd').1), sum x' hsm, deep x' a5 hdp⟩
  rw [decide_eq_false oa, cond_false]
  refine ⟨d, x, rfl, ⟨h3, h4, h5', h6', vl _⟩, fun hd => ⟨hd, fun i y hi hy => ?_⟩, fun _ => by rw [va oa, ks]; omega, fun _ i y hi hy => ?_⟩
  have := (ju.1 hy).1
  omega
  have := (ju.1 hy).1
  omega
noncomputable def y9 (c : List Int) (j : Nat) : Bool := (c[j]? == some (j : Int))
noncomputable def unS (a : List Ms) (j : Nat) : Bool := match a[j]? with
 | some y => decide (¬ 0 < y.fh)
 | none => true
noncomputable def un (c : List Int) (a : List Ms) (n : Nat) : Nat := (List.range n).countP fun j => y9 c j && unS a j
theorem qpI {p p' : Nat → Bool} {v : Nat} : ∀ {l : List Nat}, l.Nodup → v ∈ l → p v = true → p' v = false → (∀ x, x ≠ v → p' x = p x) → l.countP p = l.countP p' + 1
 | [], _, h, _, _, _ => by cases h
 | x :: l, hn, h, h1, h2, h3 => by
  obtain ⟨hx, hn⟩ := jQ.1 hn
  by_cases e : x = v
  subst e
  have : l.countP p = l.countP p' := List.countP_congr fun y hy => by rw [h3 y fun e => hx (e ▸ hy)]
  rw [vM, vM, h1, h2, this]
  simp
  have := qpI hn ((jh.1 h).resolve_left fun k => e k.symm) h1 h2 h3
  rw [vM, vM, h3 x e, this]
  omega
theorem qDu {c : List Int} {a : List Ms} {n : Nat} {v : Int} {y x : Ms} (hv : 0 ≤ v ∧ v < n) (hal : a.length = n) (hc : zh c v = some v) (ha : zh a v = some y) (hy : ¬ 0 < y.fh) (hx : 0 < x.fh) : un c a n = un c (a.set v.toNat x) n + 1 := by
 have hc := (qb3 hc).2
 have ha := (qb3 ha).2
 refine qpI (v := v.toNat) List.nodup_range (List.mem_range.2 oa) ?_ ?_ fun j hj => ?_
 unfold y9 unS
 rw [hc, ha]
 simp
 omega
 unfold unS
 rw [List.getElem?_set_self oa]
 simp [hx]
 unfold unS
 rw [Jb oa]
structure MI (M : Nat) (g : List Nd) (c : List Int) (left : Int) (a : List Ms) : Prop where
 len : a.length = g.length
 all : AllM a
 cnt : left = un c a g.length
 term : ∀ v, SetM a v → yy M g c (g.length - left.toNat) v
 wgt : ∀ v y, zh a v = some y → 0 < y.fh → y.fh ≤ 200 → zaK g c v y.fh
 dep : ∀ v y, zh a v = some y → 0 < y.fh → y.fo ≤ 20 → zbf g c v y.fo
theorem qCN (c : List Int) (a : List Ms) (n : Nat) : un c a n ≤ n := by
 have := List.countP_le_length (p := fun j => y9 c j && unS a j) (l := List.range n)
 unfold un
 simpa using this
theorem qsI {M : Nat} (hM : M ≤ 1000000000) {g : List Nd} (hg : g.length ≤ 1000000000) {c : List Int} (h : StG g c) (hk : Kd M g) (fuel : Nat) (hf : M + 1 < fuel) (k : Int → List Ms → MsR) :
 ∀ (l : List Nd) (left : Int) (i : Nat) (a : List Ms), i + l.length = g.length → MI M g c left a → ∃ left' a', qv k g c fuel l left i a = k left' a' ∧ MI M g c left' a' ∧ left' ≤ left
 | [], left, i, a, _, hI => ⟨left, a, by rw [qv], hI, vl _⟩
 | q :: l, left, i, a, hi, hI => by
  have hl := h.len
  rw [jg] at hi
  obtain ⟨v, hv, hvm⟩ := ye (l := c) (i := (i : Int)) oa oa
  have hvb := h.cls v hvm
  have hvi := h.idem v hvm
  obtain ⟨y, hy, hym⟩ := ye (l := a) hvb.1 (by rw [hI.len]; exact hvb.2)
  rw [qv, hv, ja, hy, ja]
  by_cases hs : y.fh > 0
  rw [decide_eq_true hs, cond_true]
  exact qsI hM hg h hk fuel hf k l left (i + 1) a oa hI
  rw [decide_eq_false hs, cond_false]
  obtain ⟨r, hr, hrq⟩ := qhi h v
  rw [hr, ja]
  have hun := qCN c a g.length
  have hle := hI.cnt
  have both : ∀ d (x : Ms), (1 ≤ x.fh ∧ x.fh ≤ 201 ∧ 1 ≤ x.fo ∧ x.fo ≤ 21) → (d = true → yy M g c (g.length - left.toNat + 1) v) → (d = true → x.fh ≤ 200 → zaK g c v x.fh) → (d = true → x.fo ≤ 20 → zbf g c v x.fo) → ∃ left' a', (bif d then qv k g c fuel l (wr (left - (1 : Int))) (i + 1) (a.set v.toNat x) else qv k g c fuel l left (i + 1) a) = k left' a' ∧ MI M g c left' a' ∧ left' ≤ left := by
   intro d x hx hd hwg hdg
   cases d with
   | false =>
    rw [cond_false]
    exact qsI hM hg h hk fuel hf k l left (i + 1) a oa hI
   | true =>
    rw [cond_true]
    have hu := qDu (x := x) hvb hI.len hvi hy hs oa
    have hw : wr (left - 1) = left - 1 := qgI oa
    rw [hw]
    obtain ⟨left', a', e, hI', hl'⟩ := qsI hM hg h hk fuel hf k l (left - 1) (i + 1) (a.set v.toNat x) oa ⟨by rw [List.length_set]; exact hI.len, fun z hz => by
     rcases vZ hz with hz | rfl
     exact hI.all z hz
     omega, by omega, fun w hw => by
     by_cases e : w = v
     subst e
     exact (hd rfl).more oa
     refine (hI.term w ?_).more oa
     obtain ⟨z, hz, hz0⟩ := hw
     have hw0 := (qb3 hz).1
     refine ⟨z, ?_, hz0⟩
     unfold zh at hz ⊢
     rw [if_pos hw0] at hz ⊢
     rwa [Jb oa] at hz, fun w z hz hz0 hz2 => by
     by_cases e : w = v
     subst e
     have : z = x := by
      unfold zh at hz
      rw [if_pos hvb.1, List.getElem?_set_self (by have := hI.len; omega)] at hz
      exact (Option.some.inj hz).symm
     rw [this] at hz2 ⊢
     exact hwg rfl hz2
     refine hI.wgt w z ?_ hz0 hz2
     have hw0 := (qb3 hz).1
     unfold zh at hz ⊢
     rw [if_pos hw0] at hz ⊢
     rwa [Jb oa] at hz, fun w z hz hz0 hz2 => by
     by_cases e : w = v
     subst e
     have : z = x := by
      unfold zh at hz
      rw [if_pos hvb.1, List.getElem?_set_self (by have := hI.len; omega)] at hz
      exact (Option.some.inj hz).symm
     rw [this] at hz2 ⊢
     exact hdg rfl hz2
     refine hI.dep w z ?_ hz0 hz2
     have hw0 := (qb3 hz).1
     unfold zh at hz ⊢
     rw [if_pos hw0] at hz ⊢
     rwa [Jb oa] at hz⟩
    exact ⟨left', a', e, hI', by omega⟩
  rcases hrq with rfl | ⟨p, hp, hpc, hpk⟩
  rw [qzV _ a g c oa fuel oa]
  exact both true ⟨1, 1⟩ og (fun _ => qtR hM h hk hr (.inl oa)) (fun _ _ => qrr (a := a) hr og (.inl oa)) fun _ _ => qrF hr og (.inl oa)
  have hpm := qdB hp
  have hkp := hk p hpm
  obtain ⟨d, x, e, hx, hd, hsm, hdp⟩ := qzE h hI.all hI.len (fun d25 x26 => bif d25 then qv k g c fuel l (wr (left - (1 : Int))) (i + 1) (a.set v.toNat x26) else qv k g c fuel l left (i + 1) a) hp oa fuel 0 true ⟨1, 1⟩ oa oa og og og og
  refine Exists.imp (fun left' h => h.imp fun a' h => ⟨e.trans h.1, h.2⟩) (both d x ⟨hx.1, hx.2.1, hx.2.2.1, hx.2.2.2.1⟩ (fun hd' => qtR hM h hk hr (.inr ⟨p, hp, fun z hz w hw => ?_⟩)) (fun hd' hx2 => ?_) fun hd' hx2 => ?_)
  obtain ⟨n, hn⟩ := List.mem_iff_getElem?.1 hz
  exact hI.term w ((hd hd').2 n z (jf _) hn w hw)
  have hsm := hsm hx2
  rw [vz] at hsm
  refine qrr (a := a) hr hx.1 (.inr ⟨p, hp, by omega, fun z hz w hw => ?_, hsm⟩)
  obtain ⟨n, hn⟩ := List.mem_iff_getElem?.1 hz
  obtain ⟨y', hy', hy0⟩ := (hd hd').2 n z (jf _) hn w hw
  have := qA3 hI.all hw hy' hz
  have h1 : (⟨1, 1⟩ : Ms).fh = 1 := rfl
  exact ⟨y', hy', hI.wgt w y' hy' hy0 oa⟩
  refine qrF hr hx.2.2.1 (.inr ⟨p, hp, fun z hz w hw => ?_⟩)
  obtain ⟨n, hn⟩ := List.mem_iff_getElem?.1 hz
  obtain ⟨y', hy', hy0⟩ := (hd hd').2 n z (jf _) hn w hw
  have h1 := hdp hx2 n z (jf _) hn w y' hw hy'
  exact ⟨_, hI.dep w y' hy' hy0 oa, h1⟩
theorem qyw {M : Nat} (hM : M ≤ 1000000000) {g : List Nd} (hg : g.length ≤ 1000000000) {c : List Int} (h : StG g c) (hk : Kd M g) (fuel : Nat) (hf : M + 1 < fuel) :
 ∀ (n : Nat) (left : Int) (a : List Ms), left < n → MI M g c left a → ∃ m ok, qU (fun a8 => some (a8, true)) g c fuel n left a = some (m, ok) ∧ (ok = true → ∃ left', left' ≤ 0 ∧ MI M g c left' m)
 | 0, left, a, h1, hI => by
  have := hI.cnt
  omega
 | n + 1, left, a, h1, hI => by
  rw [qU]
  by_cases h0 : left > 0
  rw [decide_eq_true h0, cond_true]
  obtain ⟨left', a', e, hI', hle⟩ := qsI hM hg h hk fuel hf (fun l13 a14 => bif (l13 == left) then some ([], false) else qU (fun a8 => some (a8, true)) g c fuel n l13 a14) g left 0 a oa hI
  rw [e]
  by_cases he : left' = left
  rw [uT he, cond_true]
  exact ⟨_, _, rfl, fun h => by cases h⟩
  rw [uF he, cond_false]
  exact qyw hM hg h hk fuel hf n left' a' oa hI'
  rw [decide_eq_false h0, cond_false]
  exact ⟨a, true, rfl, fun _ => ⟨left, by omega, hI⟩⟩
theorem quD (c : List Int) (k : Int → MsR) : ∀ (l : List Nd) (left : Int) (i : Nat), i + l.length = c.length → 0 ≤ left → left + l.length ≤ 1000000000 → qN k c l left i = k (left + (List.range' i l.length).countP (y9 c))
 | [], left, i, _, _, _ => by
  rw [qN]
  simp
 | q :: l, left, i, h, h0, h1 => by
  rw [jg] at h h1
  obtain ⟨v, hv, _⟩ := ye (l := c) (i := (i : Int)) oa oa
  rw [qN, hv, ja, jg, List.range'_succ, vM]
  rw [qdl] at hv
  by_cases e : v = (i : Int)
  have hi : y9 c i = true := by
   unfold y9
   rw [hv, e]
   simp
  rw [uT e, cond_true, qgI oa, quD c k l (left + 1) (i + 1) oa oa oa, hi]
  congr 1
  simp
  omega
  have hi : y9 c i = false := by
   unfold y9
   rw [hv]
   simpa using e
  rw [uF e, cond_false, quD c k l left (i + 1) oa oa oa, hi]
  simp
theorem qs8 {M : Nat} (hM : M ≤ 1000000000) {g : List Nd} (hg : g.length ≤ 1000000000) {c : List Int} (h : StG g c) (hk : Kd M g) (fuel : Nat) (hf : g.length + M + 1 < fuel) : ∃ m ok, qbj fuel g c = some (m, ok) ∧ (ok = true → ∀ v ∈ c, ((∃ y, zh m v = some y) ∧ yy M g c g.length v) ∧ ∀ y, zh m v = some y → (y.fh ≤ 200 → zaK g c v y.fh) ∧ (y.fo ≤ 20 → zbf g c v y.fo)) := by
 have hl := h.len
 unfold qbj
 have hm : zap 16 (g.length : Int) = some g.length := by
  unfold zap
  rw [vI, if_pos oa]
 rw [hm, ja, quD c _ g 0 0 oa oa oa]
 have hrep : ∀ y ∈ List.replicate g.length (⟨0, 0⟩ : Ms), y = ⟨0, 0⟩ := fun y hy => Jg hy
 have hun : un c (List.replicate g.length ⟨0, 0⟩) g.length = (List.range' 0 g.length).countP (y9 c) := by
  unfold un
  rw [← v8]
  refine List.countP_congr fun j hj => ?_
  have hu : unS (List.replicate g.length ⟨0, 0⟩) j = true := by
   unfold unS
   rw [List.getElem?_replicate]
   split
   rename_i y hy
   split at hy
   obtain rfl := Option.some.inj hy
   simp
   cases hy
   rfl
  rw [hu, Bool.and_true]
 have hule := qCN c (List.replicate g.length ⟨0, 0⟩) g.length
 obtain ⟨m, ok, e, hok⟩ := qyw hM oa h hk fuel oa fuel (0 + ((List.range' 0 g.length).countP (y9 c) : Int)) (List.replicate g.length ⟨0, 0⟩) oa ⟨by simp, fun y hy => by
  rw [hrep y hy]
  simp, by omega, fun v hv => by
  obtain ⟨y, hy, hy0⟩ := hv
  rw [hrep y (qdB hy)] at hy0
  exact absurd hy0 og, fun v y hy hy0 => by
  rw [hrep y (qdB hy)] at hy0
  exact absurd hy0 og, fun v y hy hy0 => by
  rw [hrep y (qdB hy)] at hy0
  exact absurd hy0 og⟩
 refine ⟨m, ok, e, fun h1 v hv => ?_⟩
 obtain ⟨left, hle, hI⟩ := hok h1
 have hvb := h.cls v hv
 obtain ⟨y, hy, _⟩ := ye (l := m) hvb.1 (by rw [hI.len]; exact hvb.2)
 have pos : 0 < y.fh := ?_
 refine ⟨⟨⟨y, hy⟩, (hI.term v ⟨y, hy, pos⟩).more oa⟩, fun y' hy' => ?_⟩
 obtain rfl := Option.some.inj (hy.symm.trans hy')
 exact ⟨hI.wgt v y hy pos, hI.dep v y hy pos⟩
 have h0 : un c m g.length = 0 := by
  have := hI.cnt
  omega
 have hall := List.countP_eq_zero.1 h0 v.toNat (List.mem_range.2 oa)
 have hc := (qb3 (h.idem v hv)).2
 have hy' := (qb3 hy).2
 have hr : y9 c v.toNat = true := by
  unfold y9
  rw [hc]
  simp
  omega
 rw [hr, jV] at hall
 unfold unS at hall
 rw [hy'] at hall
 simpa using hall
theorem qpg {M : Nat} (hM : M ≤ 1000000000) {g : List Nd} (hg : g.length ≤ 1000000000) {c : List Int} (h : StG g c) (hk : Kd M g) (fuel : Nat) (hf : g.length + M + 1 < fuel) : ∃ m ok, qbj fuel g c = some (m, ok) ∧ (ok = true → ∀ v ∈ c, ((∃ y, zh m v = some y) ∧ yy M g c g.length v) ∧ ∀ y, zh m v = some y → y.fh ≤ 200 → zaK g c v y.fh) := by
 obtain ⟨m, ok, e, h⟩ := qs8 hM hg h hk fuel hf
 exact ⟨m, ok, e, fun h1 v hv => ⟨(h h1 v hv).1, fun y hy => ((h h1 v hv).2 y hy).1⟩⟩
theorem qAh {M : Nat} (hM : M ≤ 1000000000) {g : List Nd} (hg : g.length ≤ 1000000000) {c : List Int} (h : StG g c) (hk : Kd M g) (fuel : Nat) (hf : g.length + M + 1 < fuel) : ∃ m ok, qbj fuel g c = some (m, ok) ∧ (ok = true → ∀ v ∈ c, (∃ y, zh m v = some y) ∧ yy M g c g.length v) := by
 obtain ⟨m, ok, e, h⟩ := qpg hM hg h hk fuel hf
 exact ⟨m, ok, e, fun h1 v hv => (h h1 v hv).1⟩
/-! ### the variables of the reference -/
theorem qBq (n : Int) : ∀ l : List Int, qcc (some false) n l = some (decide (n ∈ l))
 | [] => by rw [qcc]; rfl
 | x :: l => by
  rw [qcc, qBq n l]
  by_cases h : x = n
  subst h; simp
  have h' : n ≠ x := fun e => h e.symm
  rw [beq_false_of_ne h]
  simp [h']
theorem qC8 (l : List Int) (n : Int) : qfw l n = some (decide (n ∈ l)) := qBq n l
theorem qwO (t : T) : qd2 t = some t.used := by
 rw [qd2, T.used]
 by_cases h : t.k = 2
 rw [if_pos h, show (t.k == (2 : Int)) = true by simpa using h]; rfl
 rw [if_neg h, show (t.k == (2 : Int)) = false by simpa using h]; rfl
theorem qzG {rec : List Int → T → Option (List Int)} (k : List Int → Option (List Int)) : ∀ (ts : List T) (l : List Int) (m : Nat), (∀ t ∈ ts, ∀ l : List Int, l.length + wt t ≤ m → rec l t = some (yn l (zP t))) → l.length + wtL ts ≤ m → qaF k rec ts l = k (yn l (zo ts))
 | [], l, m, _, _ => by rw [qaF]; simp [zo, qoN]
 | t :: ts, l, m, h, hm => by
  simp only [wtL] at hm
  rw [qaF, h t (jc ..) l oa]
  simp only [ja]
  have hl := qlx (zP t) l
  have ho := qyD t
  rw [qzG k ts _ m (fun u hu => h u (je _ hu)) oa, ← qrQ]
  simp [zo]
theorem quf : ∀ (fuel : Nat) (t : T) (l : List Int), wt t < fuel → l.length + wt t ≤ 1000000000 → qcl fuel l t = some (yn l (zP t))
 | 0, _, _, h, _ => by omega
 | fuel + 1, t, l, h, hm => by
  rw [qcl]
  have hwt := qie t
  have key : ∀ l' : List Int, l'.length ≤ l.length + 1 → qaF (fun l9 => some l9) (qcl fuel) t.used l' = some (yn l' (zo t.used)) := fun l' hl' => by
   have hu := qna t
   refine qzG _ t.used l' (l'.length + wtL t.used) (fun u hu' l2 hl2 => quf fuel u l2 ?_ ?_) (jn _)
   have := qBx hu'; omega
   omega
  show qcM _ _ _ = _
  unfold qcM
  rw [qC8]
  simp only [ja, qwO]
  by_cases hk : t.k = 1
  rw [show (t.k == (1 : Int)) = true by simpa using hk]
  have hused : t.used = [] := by unfold T.used; rw [if_neg oa]
  have hocc := qr7 hk
  simp only [cond_true]
  by_cases hx : t.i ∈ l
  rw [decide_eq_true hx]
  simp only [jy, cond_false]
  rw [key l oa, hocc, hused]
  simp [zo, yn, zaX, hx]
  rw [decide_eq_false hx]
  simp only [Bool.not_false, cond_true]
  rw [qjj oe oe]
  simp only [ja]
  rw [key _ og, hocc, hused]
  simp [zo, yn, zaX, hx]
  rw [show (t.k == (1 : Int)) = false by simpa using hk]
  simp only [cond_false]
  rw [key l oa, qyR hk]
theorem qtN (fuel : Nat) (k : List Int → Option (List Int)) : ∀ (ts : List T) (l : List Int), wtL ts < fuel → l.length + wtL ts ≤ 1000000000 → qbE k fuel ts l = k (yn l (zo ts))
 | [], l, _, _ => by rw [qbE]; simp [zo, qoN]
 | t :: ts, l, h, hm => by
  simp only [wtL] at h hm
  rw [qbE, quf fuel t l oa oa]
  simp only [ja]
  have hl := qlx (zP t) l
  have ho := qyD t
  rw [qtN fuel k ts _ oa oa, ← qrQ]
  simp [zo]
theorem qiI (fuel : Nat) (ts : List T) (h : wtL ts < fuel) (hm : wtL ts ≤ 1000000000) : qcd fuel ts = some (yn [] (zo ts)) := by
 rw [qcd, qtN fuel _ ts [] h (by simpa using hm)]
theorem qse (c : List Int) : cnt c ≤ c.length := by
 have := qlx c []
 simpa [cnt] using this
abbrev BsR := Option (List (Int × T) × Int)
theorem qsR (k : Int → BsR) (q : Nd) : ∀ (l : List (Int × T)) (i : Nat), ∃ j : Nat, i ≤ j ∧ j ≤ i + l.length ∧ qaL k q l i = k (j : Int)
 | [], i => ⟨i, jn _, jn _, by rw [qaL]⟩
 | x :: l, i => by
  rw [qaL, jg]
  by_cases h : x.1 < q.fe
  obtain ⟨j, h1, h2, e⟩ := qsR k q l (i + 1)
  exact ⟨j, by omega, by omega, by rw [decide_eq_true h, cond_true, e]⟩
  exact ⟨i, jn _, by omega, by rw [decide_eq_false h, cond_false]⟩
theorem qsE (k : Int → BsR) (q : Nd) : ∀ (l : List (Int × T)) (i : Nat), ∃ j : Nat, i ≤ j ∧ j ≤ i + l.length ∧ qaI k q l i = k (j : Int)
 | [], i => ⟨i, jn _, jn _, by rw [qaI]⟩
 | x :: l, i => by
  rw [qaI, jg]
  by_cases h : x.1 < q.fe
  obtain ⟨j, h1, h2, e⟩ := qsE k q l (i + 1)
  exact ⟨j, by omega, by omega, by rw [decide_eq_true h, cond_true, e]⟩
  exact ⟨i, jn _, by omega, by rw [decide_eq_false h, cond_false]⟩
theorem qkB (k : List (Int × T) → BsR) (out : List (Int × T)) (x : Int × T) (j : Nat) (hj : j ≤ out.length) (hl : out.length ≤ 1000000000) :
 ((zS out 0 (j : Int)).bind fun l51 => ((zz 64 [] l51).bind fun l52 => ((zz 64 l52 [x]).bind fun l54 => ((zS out (j : Int) (out.length : Int)).bind fun l56 => ((zz 64 l54 l56).bind fun l57 => k l57))))) = k (out.take j ++ [x] ++ out.drop j) := by
 have h1 : zS out 0 (j : Int) = some (out.take j) := by
  unfold zS
  rw [if_pos oa]
  simp
 have h2 : zS out (j : Int) (out.length : Int) = some (out.drop j) := by
  unfold zS
  rw [if_pos oa]
  simp
 rw [h1, ja, ql9 oa oe, ja, jp, ql9 oa oe, ja, h2, ja, ql9 oa oe, ja]
theorem qv3 {M : Nat} {g : List Nd} (hg : g.length ≤ 1000000000) {c : List Int} (h : StG g c) (fuel : Nat) (hf : g.length + M + 2 ≤ fuel) (m : List Ms × Bool) (hm : ∀ v ∈ c, (∃ y, zh m.1 v = some y) ∧ yy M g c g.length v) :
 ∀ (n i : Nat) (out : List (Int × T)), g.length < n + i → i ≤ g.length → out.length ≤ i → ∃ r, qE (fun o24 => some (o24, 0)) fuel m n out (i : Int) g c = some r
 | 0, i, out, h1, h2, _ => by omega
 | n + 1, i, out, h1, h2, h3 => by
  have hl := h.len
  rw [qE]
  by_cases hi : i < g.length
  · obtain ⟨v, hv, hvm⟩ := ye (l := c) (i := (i : Int)) oa oa
    obtain ⟨q, hq, hqm⟩ := ye (l := g) (i := (i : Int)) oa oa
    obtain ⟨⟨y, hy⟩, ht⟩ := hm v hvm
    obtain ⟨t, ht⟩ := ht fuel hf
    obtain ⟨r, hr, _⟩ := qhi h v
    obtain ⟨s, hs⟩ := qng h v
    have hi' : wr ((i : Int) + 1) = ((i + 1 : Nat) : Int) := by
     rw [qgI oa]
     omega
    have next := fun out ho => qv3 hg h fuel hf m hm n (i + 1) out oa oa ho
    rw [decide_eq_true oa, cond_true, hv, ja, hq, ja, hi']
    cases (q.fa != (1 : Int)) with
    | true => exact next out oa
    | false =>
     rw [cond_false, hr, ja]
     cases (decide (r < 0)) with
     | true =>
      rw [cond_true, hs, ja]
      cases (s == q.fe) with
      | true => exact next out oa
      | false =>
       rw [cond_false, hy, ja]
       cases (decide (y.fh > 200)) with
       | true => exact ⟨_, rfl⟩
       | false =>
        rw [cond_false]
        cases (decide (y.fo > 20)) with
        | true => exact ⟨_, rfl⟩
        | false =>
         rw [cond_false, ht, ja]
         obtain ⟨j, _, hj, e⟩ := qsR _ q out 0
         rw [e, qkB _ out _ j oa oa]
         exact next _ oe
     | false =>
      rw [cond_false, hy, ja]
      cases (decide (y.fh > 200)) with
      | true => exact ⟨_, rfl⟩
      | false =>
       rw [cond_false]
       cases (decide (y.fo > 20)) with
       | true => exact ⟨_, rfl⟩
       | false =>
        rw [cond_false, ht, ja]
        obtain ⟨j, _, hj, e⟩ := qsE _ q out 0
        rw [e, qkB _ out _ j oa oa]
        exact next _ oe
  rw [decide_eq_false oa, cond_false]
  exact ⟨_, rfl⟩
theorem qvl {M : Nat} (b : List T) (fuel : Nat) (hf : 1500000000 < fuel) (hM : M ≤ 300000000) (k : List Nd → List Int → BsR) (hk : ∀ g c, StG g c → Kd M g → g.length ≤ 600000000 → ∃ r, k g c = some r) (hb : ∀ t ∈ b, yF t ∧ wt t ≤ M) :
 ∀ (l : List T) (i : Nat) (g : List Nd) (c : List Int), i + l.length = b.length → (∀ t ∈ l, yF t ∧ wt t ≤ M) → StG g c → Kd M g → zbA g → g.length + wtL l + wtL (b.drop i) ≤ 600000000 → ∃ r, qF k b fuel l i g c = some r
 | [], i, g, c, _, _, hs, hkd, _, hw => by
  rw [qF]
  exact hk g c hs hkd oa
 | t :: l, i, g, c, hi, ht, hs, hkd, hv, hw => by
  rw [jg] at hi
  obtain ⟨u, hu, hum⟩ := ye (l := b) (i := (i : Int)) oa oa
  have hdrop : wtL (b.drop i) = wt u + wtL (b.drop (i + 1)) := by
   rw [qdl] at hu
   rw [j2 oa, wtL]
   congr 1
   rw [js oa] at hu
   exact congrArg wt (Option.some.inj hu)
  rw [wtL, hdrop] at hw
  obtain ⟨x, g1, c1, e1, E1, v1, _⟩ := qgQ fuel t g c (ht t (jc ..)).1 oa (ht t (jc ..)).2 hs hkd hv oa
  obtain ⟨s1, k1, m1, x0, x1⟩ := E1
  have hl1 := y6.le (M := M) (c := c) (c1 := c1) ⟨s1, k1, m1⟩
  obtain ⟨y, g2, c2, e2, E2, v2, _⟩ := qgQ fuel u g1 c1 (hb u hum).1 (by have := (hb u hum).2; omega) (hb u hum).2 s1 k1 v1 oa
  obtain ⟨s2, k2, m2, y0, y1⟩ := E2
  have hl2 := y6.le (M := M) (c := c1) (c1 := c2) ⟨s2, k2, m2⟩
  have hc := qse c2
  have hcl := s2.len
  obtain ⟨ok, c3, e3, s3, _, _⟩ := qm5 (g := g2) oa fuel x y c2 s2 oa oa x0 oa y0 y1
  rw [qF, e1, ja, hu, ja]
  dsimp only
  rw [e2, ja]
  dsimp only
  rw [e3, ja]
  cases ok with
  | false => exact ⟨_, rfl⟩
  | true =>
   rw [jy, cond_false]
   exact qvl b fuel hf hM k hk hb l (i + 1) g2 c3 oa (fun t h => ht t (je _ h)) s3 k2 v2 oa
theorem qxu (fuel : Nat) (hf : 1500000000 < fuel) (a b : List T) (hl : a.length = b.length) (ha : ∀ t ∈ a, yF t) (hb : ∀ t ∈ b, yF t) (wa : wtL a ≤ 300000000) (wb : wtL b ≤ 300000000) : ∃ r, qbV fuel a b = some r := by
 unfold qbV
 refine qvl (M := 300000000) b fuel hf (jn _) _ (fun g c hs hk hg => ?_) (fun t ht => ⟨hb t ht, by have := qft ht; omega⟩) a 0 [] [] oa (fun t ht => ⟨ha t ht, by have := qft ht; omega⟩) ⟨rfl, fun v hv => by simp at hv, fun v hv => by simp at hv, fun q hq => by simp at hq⟩ (fun q hq => by simp at hq) (fun q hq => by simp at hq) oe
 obtain ⟨m, ok, e, hok⟩ := qAh (M := 300000000) oa oa hs hk fuel oa
 rw [e, ja]
 cases ok with
 | false => exact ⟨_, rfl⟩
 | true =>
  dsimp only
  rw [jy, cond_false]
  exact qv3 (M := 300000000) oa hs fuel oa (m, true) (hok rfl) fuel 0 [] oa oa og
mutual
theorem qrg : ∀ t : T, zF t = true → yF t
 | .mk k i s ar, h => by
  refine .mk _ (fun h1 => ?_) fun u hu => ?_
  rw [qlP h1] at h
  have h := of_decide_eq_true h
  refine ⟨qmW (h.2.2.1.trans (by rw [Lib.toList_data])), jz h.2.2.2⟩
  by_cases h2 : k = 2
  subst h2
  rw [qmi rfl, jm] at h
  exact qpx ar h.2 u hu
  have h0 : ar.length = 0 := by
   rcases Classical.em (k = 0) with e | e
   subst e
   rw [qmY rfl] at h
   exact (of_decide_eq_true h).2.2.2
   rcases Classical.em (k = 1) with e1 | e1
   subst e1
   rw [qlP rfl] at h
   exact (of_decide_eq_true h).2.2.2
   rw [qnV (t := .mk k i s ar) e e1 h2] at h
   cases h
  rw [jz h0] at hu
  cases hu
theorem qpx : ∀ l : List T, zN l = true → ∀ t ∈ l, yF t
 | [], _, t, ht => by cases ht
 | u :: l, h, t, ht => by
  rw [zN, jm] at h
  rcases jh.1 ht with e | ht
  rw [e]
  exact qrg u h.1
  exact qpx l h.2 t ht
end
theorem qfW {t : T} (h : zJ t = true) : yF t := by
 unfold zJ at h
 simp only [jm] at h
 exact qrg t h.1.1
theorem qnK (k : BsR) (Q : BsR → Prop) (hno : Q (some ([], 2))) : ∀ l : List T, wtL l ≤ 300000000 → ((∀ t ∈ l, zJ t = true) → Q k) → Q (qb6 k l)
 | [], _, h => by
  rw [qb6]
  exact h fun t ht => by cases ht
 | t :: l, hw, h => by
  rw [wtL] at hw
  rw [qb6, qgU t oa, ja]
  cases hr : zJ t with
  | false => exact hno
  | true =>
   rw [jy, cond_false]
   refine qnK k Q hno l oa fun hl => h fun u hu => ?_
   rcases jh.1 hu with rfl | hu
   exact hr
   exact hl u hu
theorem qnJ (k : BsR) (Q : BsR → Prop) (hno : Q (some ([], 2))) : ∀ l : List T, wtL l ≤ 300000000 → ((∀ t ∈ l, zJ t = true) → Q k) → Q (qca k l)
 | [], _, h => by
  rw [qca]
  exact h fun t ht => by cases ht
 | t :: l, hw, h => by
  rw [wtL] at hw
  rw [qca, qgU t oa, ja]
  cases hr : zJ t with
  | false => exact hno
  | true =>
   rw [jy, cond_false]
   refine qnJ k Q hno l oa fun hl => h fun u hu => ?_
   rcases jh.1 hu with rfl | hu
   exact hr
   exact hl u hu
theorem qzU (fuel : Nat) (hf : 1500000000 < fuel) (a b : List T) (wa : wtL a ≤ 300000000) (wb : wtL b ≤ 300000000) : ∃ r, qaz fuel a b = some r := by
 unfold qaz
 refine qnK _ (fun x => ∃ r, x = some r) ⟨_, rfl⟩ a wa fun ha => qnJ _ (fun x => ∃ r, x = some r) ⟨_, rfl⟩ b wb fun hb => ?_
 by_cases h : a.length = b.length
 rw [show ((a.length : Int) != (b.length : Int)) = false by simp [h], cond_false]
 obtain ⟨r, e⟩ := qxu fuel hf a b h (fun t ht => qfW (ha t ht)) (fun t ht => qfW (hb t ht)) wa wb
 exact ⟨_, by rw [e, ja]⟩
 rw [show ((a.length : Int) != (b.length : Int)) = true by simp; omega, cond_true]
 exact ⟨_, rfl⟩
theorem qsS (fuel : Nat) (hf : 1500000000 < fuel) (a b : T) (wa : wt a ≤ 300000000) (wb : wt b ≤ 300000000) : ∃ r, qb0 fuel a b = some r := by
 unfold qb0 qff
 obtain ⟨r, e⟩ := qzU fuel hf [a] [b] (by simp [wtL]; omega) (by simp [wtL]; omega)
 rw [e, ja, ja]
 cases (r.2 == (0 : Int)) with
 | true => exact ⟨_, rfl⟩
 | false => exact ⟨_, rfl⟩
/-! ### arithmetic -/
theorem qmn (n : Int) : ∃ b, qa2 n = some b := by
 unfold qa2
 cases (decide (n ≥ -2147483648)) with
 | true => exact ⟨_, rfl⟩
 | false => exact ⟨_, rfl⟩
theorem qtq (s : ByteArray) : ∃ b, qcy s = some b := by
 unfold qcy
 cases (s.toList == (⟨#[43]⟩ : ByteArray).toList) with
 | true => exact ⟨_, rfl⟩
 | false =>
  cases (s.toList == (⟨#[45]⟩ : ByteArray).toList) with
  | true => exact ⟨_, rfl⟩
  | false =>
   cases (s.toList == (⟨#[42]⟩ : ByteArray).toList) with
   | true => exact ⟨_, rfl⟩
   | false =>
    cases (s.toList == (⟨#[47]⟩ : ByteArray).toList) with
    | true => exact ⟨_, rfl⟩
    | false => exact ⟨_, rfl⟩
theorem qxG (s : ByteArray) : ∃ b, qdd s = some b := by
 unfold qdd
 cases (s.toList == (⟨#[43]⟩ : ByteArray).toList) with
 | true => exact ⟨_, rfl⟩
 | false =>
  cases (s.toList == (⟨#[45]⟩ : ByteArray).toList) with
  | true => exact ⟨_, rfl⟩
  | false =>
   cases (s.toList == (⟨#[42]⟩ : ByteArray).toList) with
   | true => exact ⟨_, rfl⟩
   | false =>
    cases (s.toList == (⟨#[47]⟩ : ByteArray).toList) with
    | true => exact ⟨_, rfl⟩
    | false => exact ⟨_, rfl⟩
theorem qr2 (a : Int) {b : Int} (h : b ≠ 0) : ∃ r, zbN a b = some r := by
 unfold zbN
 rw [if_neg h]
 exact ⟨_, rfl⟩
theorem qyM {n : Int} (h : qa2 n = some true) : -2147483648 ≤ n ∧ n ≤ 2147483648 := by
 unfold qa2 at h
 by_cases h1 : n ≥ -2147483648
 rw [decide_eq_true h1, cond_true] at h
 have := of_decide_eq_true (Option.some.inj h)
 omega
 rw [decide_eq_false h1, cond_false] at h
 cases h
theorem qyp (a b : Int) (hb : b ≠ 0) (h : -2147483648 ≤ b ∧ b ≤ 2147483648) : ∃ r, qep a b = some r := by
 unfold qep
 have hw : wr (-b) = -b := qgI oa
 rw [hw]
 cases (decide (b < 0)) with
 | true =>
  cases (decide (wr (-a) ≥ 0)) with
  | true =>
   obtain ⟨r, e⟩ := qr2 (wr (-a)) (b := -b) oa
   exact ⟨_, by rw [cond_true, cond_true, e, ja]⟩
  | false =>
   obtain ⟨r, e⟩ := qr2 (wr (wr (-b - 1) - wr (-a))) (b := -b) oa
   exact ⟨_, by rw [cond_true, cond_false, e, ja]⟩
 | false =>
  cases (decide (a ≥ 0)) with
  | true =>
   obtain ⟨r, e⟩ := qr2 a hb
   exact ⟨_, by rw [cond_false, cond_true, e, ja]⟩
  | false =>
   obtain ⟨r, e⟩ := qr2 (wr (wr (b - 1) - a)) hb
   exact ⟨_, by rw [cond_false, cond_false, e, ja]⟩
theorem qbB {α β : Type} {x : Option α} {f : α → Option β} (h : ∃ r, x = some r) (k : ∀ r, x = some r → ∃ s, f r = some s) : ∃ s, x.bind f = some s := by
 obtain ⟨r, e⟩ := h
 obtain ⟨s, e2⟩ := k r e
 exact ⟨s, by rw [e, ja, e2]⟩
theorem qa9 {β : Type} {b : Bool} {x y : Option β} (h : b = true → ∃ s, x = some s) (k : b = false → ∃ s, y = some s) : ∃ s, (bif b then x else y) = some s := by
 cases b with
 | true => exact h rfl
 | false => exact k rfl
theorem qaq {β : Type} (a : β) : ∃ s, some a = some s := ⟨a, rfl⟩
theorem qyu (s : ByteArray) (a b : Int) : ∃ r, qdL s a b = some r := by
 unfold qdL
 refine qbB (qtq s) fun r _ => qa9 (fun _ => qaq _) fun _ => qbB (qmn a) fun r2 _ => qa9 (fun _ => qaq _) fun _ => qbB (qmn b) fun r3 hr3 => qa9 (fun _ => qaq _) fun h3 => ?_
 have hb := qyM (n := b) (by
  rw [hr3]
  simpa using h3)
 refine qa9 (fun _ => qbB (qmn _) fun _ _ => qa9 (fun _ => qaq _) fun _ => qaq _) fun _ => qa9 (fun _ => qbB (qmn _) fun _ _ => qa9 (fun _ => qaq _) fun _ => qaq _) fun _ => qa9 (fun _ => qbB (qmn _) fun _ _ => qa9 (fun _ => qaq _) fun _ => qaq _) fun _ => qa9 (fun _ => qaq _) fun hz => ?_
 refine qbB (qyp a b (by simpa using hz) hb) fun _ _ => qa9 (fun _ => qbB (qmn _) fun _ _ => qa9 (fun _ => qaq _) fun _ => qaq _) fun _ => qbB (qmn _) fun _ _ => qa9 (fun _ => qaq _) fun _ => qaq _
theorem args2 {α : Type} {l : List α} (h : (l.length : Int) = 2) : ∃ a b, l = [a, b] := by
 have h : l.length = 2 := by omega
 match l, h with
 | [a, b], _ => exact ⟨a, b, rfl⟩
theorem qmy : ∀ (fuel : Nat) (t : T), wt t < fuel → ∃ r, qcQ fuel t = some r
 | 0, _, h => absurd h (vq _)
 | fuel + 1, t, h => by
  rw [qcQ]
  dsimp only
  refine qa9 (fun _ => qbB (qmn _) fun _ _ => qa9 (fun _ => qaq _) fun _ => qaq _) fun _ => qa9 (fun _ => qaq _) fun _ => qa9 (fun _ => qaq _) fun _ => qbB (qtq _) fun _ _ => qa9 (fun _ => qaq _) fun _ => qa9 (fun _ => qaq _) fun hl => ?_
  obtain ⟨a, b, hab⟩ := args2 (l := t.ar) (by simpa using hl)
  have ha := qxd (t := t) (u := a) (by rw [hab]; simp)
  have hb := qxd (t := t) (u := b) (by rw [hab]; simp)
  rw [hab]
  refine qbB (qaq a) fun q hq => ?_
  obtain rfl := Option.some.inj hq
  refine qbB (qmy fuel a oa) fun _ _ => qa9 (fun _ => qaq _) fun _ => qbB (qaq b) fun q hq => ?_
  obtain rfl := Option.some.inj hq
  exact qbB (qmy fuel b oa) fun _ _ => qa9 (fun _ => qaq _) fun _ => qbB (qyu _ _ _) fun _ _ => qaq _
theorem qll : ∀ (fuel : Nat) (t : T), wt t < fuel → ∃ r, qcI fuel t = some r
 | 0, _, h => absurd h (vq _)
 | fuel + 1, t, h => by
  rw [qcI]
  dsimp only
  refine qa9 (fun _ => qaq _) fun _ => qa9 (fun _ => qaq _) fun _ => qa9 (fun _ => qbB (qxG _) fun _ _ => qa9 (fun _ => qa9 (fun hl => ?_) fun _ => qaq _) fun _ => qaq _) fun _ => qaq _
  obtain ⟨a, b, hab⟩ := args2 (l := t.ar) (by simpa using hl)
  have ha := qxd (t := t) (u := a) (by rw [hab]; simp)
  have hb := qxd (t := t) (u := b) (by rw [hab]; simp)
  rw [hab]
  refine qbB (qaq a) fun q hq => ?_
  obtain rfl := Option.some.inj hq
  refine qbB (qll fuel a oa) fun _ _ => qa9 (fun _ => qbB (qaq b) fun q hq => ?_) fun _ => qaq _
  obtain rfl := Option.some.inj hq
  exact qbB (qll fuel b oa) fun _ _ => qaq _
theorem qm7 (fuel : Nat) (t : T) (h : wt t < fuel) (hm : wt t ≤ 1000000000) : qdn fuel t = some (yn [] (zP t)) := by
 unfold qdn
 rw [quf fuel t [] h (by simpa using hm), ja]
theorem qnO (fuel : Nat) (t : T) (h : wt t < fuel) (hm : wt t ≤ 1000000000) : ∃ b, qcW fuel t = some b := by
 unfold qcW
 rw [qm7 fuel t h hm, ja]
 exact ⟨_, rfl⟩
theorem qAz (b : Bool) : qP b = some (if b = true then 1 else 2) := by
 cases b <;> rfl
theorem qh6 (b : Bool) : ∃ r, qP b = some r := ⟨_, qAz b⟩
theorem qxe (fuel : Nat) (op : Int) (a b : T) (ha : wt a < fuel) (hb : wt b < fuel) (ha2 : wt a ≤ 1000000000) (hb2 : wt b ≤ 1000000000) : ∃ r, qei fuel op a b = some r := by
 unfold qei
 refine qbB (qll fuel a ha) fun _ _ => qa9 (fun _ => qaq _) fun _ => qbB (qll fuel b hb) fun _ _ => qa9 (fun _ => qaq _) fun _ => qbB (qnO fuel a ha oa) fun _ _ => qa9 (fun _ => qaq _) fun _ => qbB (qnO fuel b hb oa) fun _ _ => qa9 (fun _ => qaq _) fun _ => qbB (qmy fuel a ha) fun _ _ => qbB (qmy fuel b hb) fun _ _ => qa9 (fun _ => qaq _) fun _ => qa9 (fun _ => qaq _) fun _ => qa9 (fun _ => qbB (qh6 _) fun _ _ => qaq _) fun _ => qa9 (fun _ => qbB (qh6 _) fun _ _ => qaq _) fun _ => qa9 (fun _ => qbB (qh6 _) fun _ _ => qaq _) fun _ => qbB (qh6 _) fun _ _ => qaq _
/-! ### Test -/
theorem qs7 (g : Gl) (h : wtL g.ts ≤ 1000000000) : qdu g = some (decide (5 ≤ g.op ∧ g.op ≤ 12) && zn g) := by
 unfold qdu
 by_cases h1 : g.op ≥ 5
 rw [decide_eq_true h1, cond_true]
 by_cases h2 : g.op ≤ 12
 rw [decide_eq_true h2, cond_true, qgu g oa, ja, decide_eq_true ⟨h1, h2⟩, jV]
 rw [decide_eq_false h2, cond_false, decide_eq_false fun h => h2 h.2, Bool.false_and]
 rw [decide_eq_false h1, cond_false, decide_eq_false fun h => h1 h.1, Bool.false_and]
theorem qnS {g : Gl} (h0 : g.op ≠ 0) (h : zn g = true) : zR g.op = (g.ts.length : Int) ∧ ya g.ts = true := by
 unfold zn at h
 rw [if_neg h0] at h
 simp only [jm, decide_eq_true_eq] at h
 exact ⟨h.1.2, h.2⟩
theorem qAj (fuel : Nat) (hf : 1500000000 < fuel) (g : Gl) (h : wtL g.ts ≤ 300000000) : ∃ r, qd1 fuel g = some r := by
 unfold qd1
 rw [qs7 g oa, ja]
 refine qa9 (fun _ => qa9 (fun _ => qbB ⟨_, qgu g oa⟩ fun _ _ => qbB (qh6 _) fun _ _ => qaq _) fun _ => qbB (qh6 _) fun _ _ => qaq _) fun hT => ?_
 have hT : (5 ≤ g.op ∧ g.op ≤ 12) ∧ zn g = true := by
  simpa only [Bool.not_eq_false', jm, decide_eq_true_eq] using hT
 obtain ⟨⟨h5, h12⟩, hr⟩ := hT
 obtain ⟨hlen, _⟩ := qnS oa hr
 have hpos : 0 < g.ts.length := by
  unfold zR at hlen
  repeat' split at hlen
  all_goals omega
 obtain ⟨a, ha, ham⟩ := ye (l := g.ts) (i := 0) oa oa
 have hwa := qft ham
 rw [ha, ja]
 refine qa9 (fun _ => qa9 (fun _ => qaq _) fun _ => qbB (qh6 _) fun _ _ => qaq _) fun h11 => qa9 (fun _ => qbB (qnO fuel a oa oa) fun _ _ => qa9 (fun _ => qaq _) fun _ => qaq _) fun h12' => ?_
 have e11 : g.op ≠ 11 := by simpa using h11
 have e12 : g.op ≠ 12 := by simpa using h12'
 have h2 : g.ts.length = 2 := by
  unfold zR at hlen
  repeat' split at hlen
  all_goals omega
 obtain ⟨b, hb, hbm⟩ := ye (l := g.ts) (i := 1) oa oa
 have hwb := qft hbm
 have uni : ∃ r, ((qb0 fuel a b).bind fun r23 => (bif (!r23) then ((qP (g.op == (6 : Int))).bind fun r25 => some (r25)) else some (0))) = some r := qbB (qsS fuel hf a b oa oa) fun _ _ => qa9 (fun _ => qbB (qh6 _) fun _ _ => qaq _) fun _ => qaq _
 have sam : ∃ r, ((qmc a b).bind fun r20 => (bif r20 then ((qP (g.op == (5 : Int))).bind fun r22 => some (r22)) else ((qb0 fuel a b).bind fun r23 => (bif (!r23) then ((qP (g.op == (6 : Int))).bind fun r25 => some (r25)) else some (0))))) = some r := qbB ⟨_, qrG a b oa⟩ fun _ _ => qa9 (fun _ => qbB (qh6 _) fun _ _ => qaq _) fun _ => uni
 rw [hb, ja]
 exact qa9 (fun _ => qa9 (fun _ => qbB (qxe fuel g.op a b oa oa oa oa) fun _ _ => qaq _) fun _ => sam) fun _ => sam
theorem qlS {t : T} (h : t.k = 1) : zP t = [t.i] := qr7 h
theorem qlT {t : T} (h : t.k = 2) : zP t = zo t.ar := by cases t; simp only [T.k] at h; subst h; simp [zP, T.ar]
theorem qrB {t : T} (h1 : t.k ≠ 1) (h2 : t.k ≠ 2) : zP t = [] := by cases t; simp only [T.k] at h1 h2; simp [zP, h1, h2]
theorem qoM {β : Type} : ∀ (l m : List (Int × β)) (v : Int), zx (l ++ m) v = (zx l v).or (zx m v)
 | [], m, v => rfl
 | q :: l, m, v => by
  rw [jC, zx, zx]
  split
  rfl
  exact qoM l m v
abbrev En := List (Int × T)
/-! ### environments -/
theorem qv8 (v : Int) (k : Option Int) : ∀ (l : En) (i : Nat), (zx l v = none ∧ qbr k v l i = k) ∨ ∃ (j : Nat) (q : Int × T), qbr k v l i = some ((i + j : Nat) : Int) ∧ l[j]? = some q ∧ zx l v = some q.2
 | [], i => .inl ⟨rfl, by rw [qbr]⟩
 | q :: l, i => by
  rw [qbr, zx]
  by_cases h : q.1 = v
  rw [if_pos h, uT h, cond_true]
  exact .inr ⟨0, q, rfl, rfl, rfl⟩
  rw [if_neg h, uF h, cond_false]
  rcases qv8 v k l (i + 1) with h | ⟨j, p, h1, h2, h3⟩
  exact .inl h
  exact .inr ⟨j + 1, p, by rw [h1, show i + 1 + j = i + (j + 1) by omega], by simpa using h2, h3⟩
theorem qvy (env : En) (v : Int) : (zx env v = none ∧ qdP env v = some (-1)) ∨ ∃ (r : Int) (q : Int × T), qdP env v = some r ∧ 0 ≤ r ∧ zh env r = some q ∧ zx env v = some q.2 ∧ q ∈ env := by
 rcases qv8 v (some (-1)) env 0 with h | ⟨j, q, h1, h2, h3⟩
 exact .inl h
 rw [jx] at h1
 exact .inr ⟨_, q, h1, by omega, by rw [qdl]; exact h2, h3, List.mem_of_getElem? h2⟩
theorem qte (k : Int → Option En) (b : Int × T) : ∀ (l : En) (i : Nat), ∃ j : Nat, i ≤ j ∧ j ≤ i + l.length ∧ qbF k b l i = k (j : Int)
 | [], i => ⟨i, jn _, jn _, by rw [qbF]⟩
 | x :: l, i => by
  rw [qbF, jg]
  by_cases h : x.1 ≤ b.1
  obtain ⟨j, h1, h2, e⟩ := qte k b l (i + 1)
  exact ⟨j, by omega, by omega, by rw [decide_eq_true h, cond_true, e]⟩
  exact ⟨i, jn _, by omega, by rw [decide_eq_false h, cond_false]⟩
def upd (f : Int → Option T) (v : Int) (u : T) : Int → Option T := fun x => if x = v then some u else f x
theorem qxm (l : En) (j : Nat) (v : Int) : zx l v = (zx (l.take j) v).or (zx (l.drop j) v) := by rw [← qoM, j6]
theorem qxU (env : En) (v : Int) (u : T) (hl : env.length ≤ 1000000) (h : zx env v = none) : ∃ env', qef env (v, u) = some env' ∧ env'.length = env.length + 1 ∧ zx env' = upd (zx env) v u ∧ ∀ q ∈ env', q ∈ env ∨ q = (v, u) := by
 unfold qef
 obtain ⟨j, _, hj, e⟩ := qte (fun k3 => ((zS env 0 k3).bind fun l5 => ((zz 64 [] l5).bind fun l6 => ((zz 64 l6 [(v, u)]).bind fun l8 => ((zS env k3 (env.length : Int)).bind fun l10 => ((zz 64 l8 l10).bind fun l11 => some (l11))))))) (v, u) env 0
 have h1 : zS env 0 (j : Int) = some (env.take j) := by
  unfold zS
  rw [if_pos oa]
  simp
 have h2 : zS env (j : Int) (env.length : Int) = some (env.drop j) := by
  unfold zS
  rw [if_pos oa]
  simp
 refine ⟨env.take j ++ [(v, u)] ++ env.drop j, ?_, by simp; omega, funext fun x => ?_, fun q hq => ?_⟩
 rw [e, h1, ja, ql9 oa oe, ja, jp, ql9 oa oe, ja, h2, ja, ql9 oa oe, ja]
 have hs := qxm env j
 rw [jk, qoM, qoM]
 unfold upd
 by_cases hx : x = v
 subst hx
 have h0 := hs x
 rw [h] at h0
 have h3 : zx (env.take j) x = none := by
  cases hc : zx (env.take j) x with
  | none => rfl
  | some a =>
   rw [hc] at h0
   cases h0
 rw [h3, if_pos rfl]
 simp [zx]
 rw [if_neg hx, hs x]
 have : zx [(v, u)] x = none := by
  rw [zx, if_neg (fun e => hx e.symm), zx]
 rw [this, Option.none_or]
 simp only [jj, ji] at hq
 rcases hq with (hq | hq) | hq
 exact .inl (j4 hq)
 exact .inr hq
 exact .inl (jW hq)
/-! ### what stands where a pattern has its variables -/
open Classical in
mutual
noncomputable def vT : T → T → Option (List T)
 | .mk k i s ar, t => if k = 2 then (if t.k = 2 ∧ s = t.s then vL ar t.ar else none) else if k = 1 then some [t] else if yV (.mk k i s ar) t = true then some [] else none
noncomputable def vL : List T → List T → Option (List T)
 | [], [] => some []
 | p :: ps, t :: ts => (vT p t).bind fun a => (vL ps ts).bind fun b => some (a ++ b)
 | [], _ :: _ => none
 | _ :: _, [] => none
end
theorem qvH {p : T} (h : p.k = 2) (t : T) : vT p t = if t.k = 2 ∧ p.s = t.s then vL p.ar t.ar else none := by
 cases p
 simp only [T.k] at h
 subst h
 rw [vT, if_pos rfl]
 rfl
theorem qt3 {p : T} (h : p.k = 1) (t : T) : vT p t = some [t] := by
 cases p
 simp only [T.k] at h
 subst h
 rw [vT, if_neg oa, if_pos rfl]
theorem qwt {p : T} (h1 : p.k ≠ 1) (h2 : p.k ≠ 2) (t : T) : vT p t = if yV p t = true then some [] else none := by
 cases p
 simp only [T.k] at h1 h2
 rw [vT, if_neg h2, if_neg h1]
mutual
theorem qs5 : ∀ (p t : T) (l : List T), vT p t = some l → l.length = (zP p).length
 | .mk k i s ar, t, l, h => by
  rcases zae k with h1 | h2 | ⟨h1, h2⟩
  subst h1
  rw [qt3 rfl] at h
  obtain rfl := Option.some.inj h
  rw [qCk]
  rfl
  subst h2
  rw [qvH rfl] at h
  split at h
  rw [qBM]
  exact qzI ar t.ar l h
  cases h
  rw [qwt (p := .mk k i s ar) h1 h2] at h
  split at h
  obtain rfl := Option.some.inj h
  rw [qCI h1 h2]
  rfl
  cases h
theorem qzI : ∀ (ps ts l : List T), vL ps ts = some l → l.length = (zo ps).length
 | [], [], l, h => by
  rw [vL] at h
  obtain rfl := Option.some.inj h
  rfl
 | p :: ps, t :: ts, l, h => by
  rw [vL] at h
  cases ha : vT p t with
  | none =>
   rw [ha] at h
   cases h
  | some a =>
   cases hb : vL ps ts with
   | none =>
    rw [ha, hb] at h
    cases h
   | some b =>
    rw [ha, hb] at h
    obtain rfl := Option.some.inj h
    rw [zo, jb, jb, qs5 p t a ha, qzI ps ts b hb]
 | [], _ :: _, l, h => by
  rw [vL] at h
  cases h
 | _ :: _, [], l, h => by
  rw [vL] at h
  cases h
end
/-! ### binding -/
open Classical in
noncomputable def rn : (Int → Option T) → List (Int × T) → Option (Int → Option T)
 | f, [] => some f
 | f, (v, u) :: ps => match f v with
  | none => rn (upd f v u) ps
  | some u' => if yV u' u = true then rn f ps else none
theorem qmR {f : Int → Option T} {v : Int} (h : f v = none) (u : T) (ps : List (Int × T)) : rn f ((v, u) :: ps) = rn (upd f v u) ps := by rw [rn, h]
theorem qnI {f : Int → Option T} {v : Int} {w : T} (h : f v = some w) (u : T) (ps : List (Int × T)) : rn f ((v, u) :: ps) = if yV w u = true then rn f ps else none := by rw [rn, h]
theorem qzh : ∀ (a b : List (Int × T)) (f : Int → Option T), rn f (a ++ b) = (rn f a).bind fun g => rn g b
 | [], b, f => by rw [jp, rn, ja]
 | (v, u) :: a, b, f => by
  cases h : f v with
  | none => rw [jC, qmR h, qmR h, qzh a b]
  | some w =>
   rw [jC, qnI h, qnI h]
   split
   exact qzh a b f
   rfl
noncomputable def mtc (f : Int → Option T) (o : List Int) (v : Option (List T)) : Option (Int → Option T) := v.bind fun l => rn f (o.zip l)
theorem qyf {f : Int → Option T} {o1 o2 : List Int} {v1 v2 : Option (List T)} (h : ∀ l, v1 = some l → l.length = o1.length) : mtc f (o1 ++ o2) (v1.bind fun a => v2.bind fun b => some (a ++ b)) = (mtc f o1 v1).bind fun g => mtc g o2 v2 := by
 unfold mtc
 cases v1 with
 | none => rfl
 | some a =>
  have ha := h a rfl
  cases v2 with
  | none =>
   simp only [ja, Option.bind_none]
   cases rn f (o1.zip a) <;> rfl
  | some b =>
   simp only [ja]
   rw [List.zip_append ha.symm, qzh]
def EnW (W : Nat) (env : En) : Prop := ∀ q ∈ env, wt q.2 ≤ W
def zca (W : Nat) (env : En) (n : Nat) (x : Option (Int → Option T)) (r : Option (En × Bool)) : Prop := ∃ env' ok, r = some (env', ok) ∧ ((ok = false ∧ x = none) ∨ (ok = true ∧ x = some (zx env') ∧ env'.length ≤ env.length + n ∧ EnW W env'))
theorem qxZ (a b : T) (h : wt a ≤ 1000000) : qmc a b = some (yV a b) := qrG a b oa
theorem qBQ {W : Nat} (hW : W ≤ 1000000) {rec : En → List T → List T → Option (En × Bool)} {p t : T} {env : En} (hr : p.k = 2 → t.k = 2 → zca W env (zo p.ar).length (mtc (zx env) (zo p.ar) (vL p.ar t.ar)) (rec env p.ar t.ar)) (he : EnW W env) (hp : wt p ≤ 1000000) (ht : wt t ≤ W) (hl : env.length ≤ 1000000) :
 zca W env (zP p).length (mtc (zx env) (zP p) (vT p t)) (qev rec env p t) := by
 unfold qev
 rcases zae p.k with h1 | h2 | ⟨h1, h2⟩
 · rw [uF (show p.k ≠ 2 by omega), cond_false, show (p.k != (1 : Int)) = false by simp [h1], cond_false, qt3 h1, qlS h1]
   unfold mtc
   rw [ja]
   show zca W env 1 (rn (zx env) [(p.i, t)]) _
   rcases qvy env p.i with ⟨hn, e⟩ | ⟨r, q, e, h0, hq, hm, hqm⟩
   · rw [e, ja, decide_eq_true oa, cond_true, qmR hn]
     obtain ⟨env', e', hl', hg, hmem⟩ := qxU env p.i t hl hn
     refine ⟨env', true, by rw [e', ja], .inr ⟨rfl, by rw [rn, hg], by omega, fun q hq => ?_⟩⟩
     rcases hmem q hq with hq | rfl
     · exact he q hq
     · exact ht
   · have hqw := he q hqm
     rw [e, ja, decide_eq_false oa, cond_false, hq, ja, qxZ _ _ oa, ja, qnI hm]
     cases hs : yV q.2 t with
     | false => exact ⟨_, _, rfl, .inl ⟨rfl, rfl⟩⟩
     | true => exact ⟨_, _, rfl, .inr ⟨rfl, by rw [if_pos rfl, rn], by omega, he⟩⟩
 · rw [uT h2, cond_true, qvH h2, qlT h2]
   by_cases ht2 : t.k = 2
   · rw [show (t.k != (2 : Int)) = false by simp [ht2], cond_false]
     by_cases hs : p.s = t.s
     · rw [if_pos ⟨ht2, hs⟩, show (!(p.s.toList == t.s.toList)) = false by simp [hs], cond_false]
       obtain ⟨env', ok, e, h⟩ := hr h2 ht2
       exact ⟨env', ok, by rw [e, ja], h⟩
     · rw [if_neg fun h => hs h.2, show (!(p.s.toList == t.s.toList)) = true by
        simp only [vV, beq_eq_false_iff_ne]
        exact fun e => hs (qmW e), cond_true]
       exact ⟨_, _, rfl, .inl ⟨rfl, rfl⟩⟩
   · rw [show (t.k != (2 : Int)) = true by simp [ht2], cond_true, if_neg fun h => ht2 h.1]
     exact ⟨_, _, rfl, .inl ⟨rfl, rfl⟩⟩
 · rw [uF h2, cond_false, show (p.k != (1 : Int)) = true by simp [h1], cond_true, qwt h1 h2, qrB h1 h2, qxZ _ _ hp, ja]
   cases hs : yV p t with
   | false => exact ⟨_, _, rfl, .inl ⟨rfl, rfl⟩⟩
   | true => exact ⟨_, _, rfl, .inr ⟨rfl, by rw [if_pos rfl]; rfl, by omega, he⟩⟩
theorem qwd {W : Nat} (hW : W ≤ 1000000) {rec : En → List T → List T → Option (En × Bool)} (all : List T) (N : Nat) (hN : N ≤ 1000000) :
 ∀ (ps ts : List T) (i : Nat) (env : En), all.drop i = ps → ps.length = ts.length → (∀ p ∈ ps, ∀ t ∈ ts, ∀ env : En, EnW W env → env.length + (zo p.ar).length ≤ N → p.k = 2 → t.k = 2 → zca W env (zo p.ar).length (mtc (zx env) (zo p.ar) (vL p.ar t.ar)) (rec env p.ar t.ar)) → EnW W env → (∀ p ∈ ps, wt p ≤ 1000000) → (∀ t ∈ ts, wt t ≤ W) → env.length + (zo ps).length ≤ N →
  zca W env (zo ps).length (mtc (zx env) (zo ps) (vL ps ts)) (qaK (fun e5 o6 => some (e5, o6)) rec all ts env true i)
 | [], [], i, env, _, _, _, he, _, _, _ => by
  rw [qaK, vL]
  exact ⟨env, true, rfl, .inr ⟨rfl, rfl, by omega, he⟩⟩
 | [], _ :: _, i, env, _, h, _, _, _, _, _ => by cases h
 | _ :: _, [], i, env, _, h, _, _, _, _, _ => by cases h
 | p :: ps, t :: ts, i, env, hd, hl, hr, he, hp, ht, hn => by
  rw [zo, jb] at hn
  have hi : i < all.length := by
   rcases Nat.lt_or_ge i all.length with h | h
   exact h
   rw [va h] at hd
   cases hd
  rw [j2 hi] at hd
  obtain ⟨hd1, hd2⟩ := List.cons.inj hd
  have hg : zh all (i : Int) = some p := by rw [qdl, js hi, hd1]
  have hfun : p.k = 2 → (zo p.ar).length = (zP p).length := fun h => by rw [qlT h]
  obtain ⟨env1, ok1, e1, h1⟩ := qBQ hW (rec := rec) (p := p) (t := t) (env := env) (fun h2 ht2 => hr p (jc ..) t (jc ..) env he (by have := hfun h2; omega) h2 ht2) he (hp p (jc ..)) (ht t (jc ..)) oa
  rw [qaK, cond_true, hg, ja, e1, ja, vL, zo, qyf fun l hl => qs5 p t l hl]
  dsimp only
  rcases h1 with ⟨rfl, hx⟩ | ⟨rfl, hx, hlen, he1⟩
  refine ⟨env1, false, ?_, .inl ⟨rfl, by rw [hx]; rfl⟩⟩
  cases ts with
  | nil => rw [qaK]
  | cons t2 ts => rw [qaK, cond_false]
  rw [hx, ja]
  obtain ⟨env2, ok2, e2, h2⟩ := qwd hW all N hN ps ts (i + 1) env1 hd2 (by simpa using hl) (fun p hp t ht => hr p (je _ hp) t (je _ ht)) he1 (fun p h => hp p (je _ h)) (fun t h => ht t (je _ h)) oa
  refine ⟨env2, ok2, e2, h2.imp id fun ⟨a, b, c, d⟩ => ⟨a, b, ?_, d⟩⟩
  rw [jb]
  omega
theorem qzA : ∀ (ps ts : List T), ps.length ≠ ts.length → vL ps ts = none
 | [], [], h => absurd rfl h
 | p :: ps, t :: ts, h => by
  rw [vL, qzA ps ts (by simpa using h)]
  cases vT p t <;> rfl
 | [], _ :: _, _ => by rw [vL]
 | _ :: _, [], _ => by rw [vL]
theorem qv1 {W : Nat} (hW : W ≤ 1000000) (N : Nat) (hN : N ≤ 1000000) : ∀ (fuel : Nat) (ps ts : List T) (env : En), wtL ps < fuel → wtL ps ≤ 1000000 → wtL ts ≤ W → EnW W env → env.length + (zo ps).length ≤ N →
 zca W env (zo ps).length (mtc (zx env) (zo ps) (vL ps ts)) (qdO fuel env ps ts)
 | 0, _, _, _, h, _, _, _, _ => absurd h (vq _)
 | fuel + 1, ps, ts, env, hf, hp, ht, he, hn => by
  rw [qdO]
  dsimp only
  by_cases h : ps.length = ts.length
  rw [show ((ps.length : Int) != (ts.length : Int)) = false by simp [h], cond_false]
  refine qwd hW ps N hN ps ts 0 env rfl h (fun p hpm t htm env he hn h2 ht2 => ?_) he (fun p hpm => by have := qft hpm; omega) (fun t htm => by have := qft htm; omega) hn
  have h1 := qft hpm
  have h3 := qft htm
  have h4 := qie p
  have h5 := qie t
  exact qv1 hW N hN fuel p.ar t.ar env oa oa oa he hn
  rw [show ((ps.length : Int) != (ts.length : Int)) = true by simp; omega, cond_true, qzA ps ts h]
  exact ⟨_, _, rfl, .inl ⟨rfl, rfl⟩⟩
theorem quQ {W : Nat} (hW : W ≤ 1000000) (fuel : Nat) (p a : At) (env : En) (hf : wtL p.ts < fuel) (hp : wtL p.ts ≤ 1000000) (ha : wtL a.ts ≤ W) (he : EnW W env) (hn : env.length + (zo p.ts).length ≤ 1000000) :
 zca W env (zo p.ts).length (mtc (zx env) (zo p.ts) (if p.n = a.n then vL p.ts a.ts else none)) (qeJ fuel env p a) := by
 unfold qeJ
 by_cases h : p.n = a.n
 · rw [if_pos h, show (!(p.n.toList == a.n.toList)) = false by simp [h], cond_false]
   obtain ⟨env', ok, e, h⟩ := qv1 hW 1000000 (jn _) fuel p.ts a.ts env hf hp ha he hn
   exact ⟨env', ok, by rw [e, ja], h⟩
 · rw [if_neg h, show (!(p.n.toList == a.n.toList)) = true by
    simp only [vV, beq_eq_false_iff_ne]
    exact fun e => h (qmW e), cond_true]
   exact ⟨_, _, rfl, .inl ⟨rfl, rfl⟩⟩
/-! ### a function ends with a value of a kind -/
def Yl {α : Type} (x : Option α) (Q : α → Prop) : Prop := ∃ a, x = some a ∧ Q a
theorem Yl.pure {α : Type} {a : α} {Q : α → Prop} (h : Q a) : Yl (some a) Q := ⟨a, rfl, h⟩
theorem Yl.bind {α β : Type} {x : Option α} {R : α → Prop} {f : α → Option β} {Q : β → Prop} (h : Yl x R) (hf : ∀ a, R a → Yl (f a) Q) : Yl (x.bind f) Q := by
 obtain ⟨a, rfl, ha⟩ := h
 exact hf a ha
theorem Yl.cond {α : Type} {b : Bool} {x y : Option α} {Q : α → Prop} (h1 : b = true → Yl x Q) (h2 : b = false → Yl y Q) : Yl (bif b then x else y) Q := by
 cases b with
 | true => exact h1 rfl
 | false => exact h2 rfl
theorem Yl.mono {α : Type} {x : Option α} {Q R : α → Prop} (h : Yl x Q) (k : ∀ a, Q a → R a) : Yl x R := by
 obtain ⟨a, e, ha⟩ := h
 exact ⟨a, e, k a ha⟩
theorem Yl.of {α : Type} {x : Option α} {a : α} {Q : α → Prop} (e : x = some a) (h : Q a) : Yl x Q := ⟨a, e, h⟩
theorem dT {p : Prop} [Decidable p] (h : decide p = true) : p := of_decide_eq_true h
theorem dF {p : Prop} [Decidable p] (h : decide p = false) : ¬ p := of_decide_eq_false h
theorem nT {b : Bool} (h : (!b) = true) : b = false := by simpa using h
theorem nF {b : Bool} (h : (!b) = false) : b = true := by simpa using h
theorem eT {a b : Int} (h : (a == b) = true) : a = b := by simpa using h
theorem eF {a b : Int} (h : (a == b) = false) : a ≠ b := by simpa using h
theorem bT {a b : Int} (h : (a != b) = true) : a ≠ b := by simpa using h
theorem bF {a b : Int} (h : (a != b) = false) : a = b := by simpa using h
theorem sT {a b : ByteArray} (h : (a.toList == b.toList) = true) : a = b := qmW (by simpa using h)
theorem sF {a b : ByteArray} (h : (a.toList == b.toList) = false) : a ≠ b := fun e => by subst e; simp at h
/-! ### looking up -/
theorem qtS (v : Int) : ∀ b : En, qbG (some ((T.mk 0 0 ⟨#[]⟩ []), false)) v b = some ((zx b v).getD (T.mk 0 0 ⟨#[]⟩ []), (zx b v).isSome)
 | [] => by rw [qbG]; rfl
 | q :: b => by
  rw [qbG, zx, qtS v b]
  by_cases h : q.1 = v
  rw [if_pos h, uT h, cond_true]
  rfl
  rw [if_neg h, uF h, cond_false]
theorem qkW (b : En) (v : Int) : qcY b v = some ((zx b v).getD (T.mk 0 0 ⟨#[]⟩ []), (zx b v).isSome) := qtS v b
theorem qnB {b : En} {v : Int} {u : T} (h : zx b v = some u) : (v, u) ∈ b := by
 induction b with
 | nil => cases h
 | cons q b ih =>
  rw [zx] at h
  split at h
  rename_i e
  cases h
  rw [← e]
  exact jc ..
  exact je _ (ih h)
/-! ### substitutions -/
mutual
def apT (b : En) : T → T
 | .mk k i s ar => if k = 1 then (zx b i).getD (.mk k i s ar) else if k = 2 then .mk k i s (apL b ar) else .mk k i s ar
def apL (b : En) : List T → List T
 | [] => []
 | t :: ts => apT b t :: apL b ts
end
theorem qBE {b : En} {t : T} (h : t.k = 1) : apT b t = (zx b t.i).getD t := by cases t; simp only [T.k] at h; subst h; simp [apT, T.i]
theorem qBz {b : En} {t : T} (h : t.k = 2) : apT b t = .mk t.k t.i t.s (apL b t.ar) := by cases t; simp only [T.k] at h; subst h; simp [apT, T.i, T.s, T.ar, T.k]
theorem qCg {b : En} {t : T} (h1 : t.k ≠ 1) (h2 : t.k ≠ 2) : apT b t = t := by cases t; simp only [T.k] at h1 h2; simp [apT, h1, h2]
theorem quJ (t : T) : T.mk t.k t.i t.s t.ar = t := by cases t; rfl
theorem qsx (b : En) : ∀ l : List T, (apL b l).length = l.length
 | [] => rfl
 | t :: l => by rw [apL, jg, jg, qsx b l]
theorem zbO {rec : En → List T → Option (List T)} {b : En} {t : T} (hr : t.k = 2 → rec b t.ar = some (apL b t.ar)) : qdx rec b t = some (apT b t) := by
 unfold qdx
 rcases zae t.k with h1 | h2 | ⟨h1, h2⟩
 rw [uT h1, cond_true, qkW, ja, qBE h1]
 cases zx b t.i with
 | none =>
  show some (T.mk t.k t.i t.s t.ar) = some t
  rw [quJ]
 | some u => rfl
 rw [uF (show t.k ≠ 1 by omega), cond_false, uT h2, cond_true, hr h2, ja, qBz h2]
 rw [uF h1, cond_false, uF h2, cond_false, quJ, qCg h1 h2]
theorem qt5 {rec : En → List T → Option (List T)} {b : En} : ∀ (l out : List T), (∀ t ∈ l, t.k = 2 → rec b t.ar = some (apL b t.ar)) → out.length + l.length ≤ 10000000000 → qaA (fun o7 => some o7) rec b l out = some (out ++ apL b l)
 | [], out, _, _ => by rw [qaA, apL, jv]
 | t :: l, out, hr, hl => by
  rw [jg] at hl
  rw [qaA, zbO (hr t (jc ..)), ja, qfo oa hl, ja, qt5 l _ (fun u h => hr u (je _ h)) (by rw [jb, jl]; omega), apL, jk, vA]
theorem qno (b : En) : ∀ (fuel : Nat) (l : List T), wtL l < fuel → wtL l ≤ 10000000000 → qbw fuel b l = some (apL b l)
 | 0, _, h, _ => absurd h (vq _)
 | fuel + 1, l, h, hw => by
  have := qfR l
  rw [qbw]
  dsimp only
  rw [qt5 l [] (fun t ht _ => ?_) oe, jp]
  have h1 := qft ht
  have h3 := qie t
  exact qno b fuel t.ar oa oa
theorem qwh (b : En) (fuel : Nat) (t : T) (h : wt t < fuel) (hw : wt t ≤ 10000000000) : qfX fuel b t = some (apT b t) := by
 have := qie t
 exact zbO fun _ => qno b fuel t.ar oa oa
theorem qpk (b : En) (fuel : Nat) (g : Gl) (h : wtL g.ts < fuel) (hw : wtL g.ts ≤ 10000000000) : qcr fuel b g = some ⟨g.op, g.n, apL b g.ts⟩ := by
 rw [qcr, qno b fuel g.ts h hw, ja]
theorem qxK (b : En) (fuel : Nat) (a : At) (h : wtL a.ts < fuel) (hw : wtL a.ts ≤ 10000000000) : qdD fuel b a = some ⟨a.n, apL b a.ts⟩ := by
 rw [qdD, qno b fuel a.ts h hw, ja]
mutual
theorem qBB {W : Nat} (hW : 1 ≤ W) {b : En} (hb : ∀ q ∈ b, wt q.2 ≤ W) : ∀ t : T, wt (apT b t) ≤ wt t * W
 | .mk k i s ar => by
  have hm : wt (.mk k i s ar) * 1 ≤ wt (.mk k i s ar) * W := vx _ hW
  rcases zae k with h1 | h2 | ⟨h1, h2⟩
  rw [qBE (t := .mk k i s ar) h1]
  cases hu : zx b i with
  | none =>
   show wt ((zx b i).getD _) ≤ _
   rw [hu]
   show wt (.mk k i s ar) ≤ _
   omega
  | some u =>
   show wt ((zx b i).getD _) ≤ _
   rw [hu]
   have := hb _ (qnB hu)
   have h3 : 1 * W ≤ wt (.mk k i s ar) * W := jK _ (by rw [qie]; omega)
   show wt u ≤ _
   simp only at this
   omega
  rw [qBz (t := .mk k i s ar) h2]
  have := qro hW hb ar
  rw [wt, wt, jA]
  show 1 + wtL (apL b ar) ≤ 1 * W + wtL ar * W
  omega
  rw [qCg (t := .mk k i s ar) h1 h2]
  omega
theorem qro {W : Nat} (hW : 1 ≤ W) {b : En} (hb : ∀ q ∈ b, wt q.2 ≤ W) : ∀ l : List T, wtL (apL b l) ≤ wtL l * W
 | [] => by rw [apL, wtL]; omega
 | t :: l => by
  have h1 := qBB hW hb t
  have h2 := qro hW hb l
  rw [apL, wtL, wtL, jA]
  omega
end
/-! ### instances -/
mutual
def inT (f : Int → T) : T → T
 | .mk k i s ar => if k = 2 then .mk 2 0 s (inL f ar) else if k = 1 then f i else if k = 0 then .mk 0 i ⟨#[]⟩ [] else .mk k i s ar
def inL (f : Int → T) : List T → List T
 | [] => []
 | t :: ts => inT f t :: inL f ts
end
theorem qCt (f : Int → T) {t : T} (h : t.k = 2) : inT f t = .mk 2 0 t.s (inL f t.ar) := by cases t; simp only [T.k] at h; subst h; rw [inT, if_pos rfl]; rfl
theorem qBN (f : Int → T) {t : T} (h : t.k = 1) : inT f t = f t.i := by cases t; simp only [T.k] at h; subst h; rw [inT, if_neg oa, if_pos rfl]; rfl
theorem qCA (f : Int → T) {t : T} (h1 : t.k ≠ 1) (h2 : t.k ≠ 2) : inT f t = if t.k = 0 then .mk 0 t.i ⟨#[]⟩ [] else t := by cases t; simp only [T.k] at h1 h2; rw [inT, if_neg h2, if_neg h1]; rfl
noncomputable def ef (env : En) (fresh : Int) (v : Int) : T := (zx env v).getD (.mk 1 (if (qb9 fresh v) = some true then v else wr (fresh + v)) ⟨#[]⟩ [])
theorem qxR (a b : Int) : ∃ r, qb9 a b = some r := by
 unfold qb9
 cases (decide (a > 0)) <;> cases (decide (b > 0)) <;> cases (decide (wr (a + b) < 0)) <;> cases (decide (a < 0)) <;> cases (decide (b < 0)) <;> exact ⟨_, rfl⟩
theorem inst1 {rec : En → Int → List T → Option (List T)} {env : En} {fresh : Int} {t : T} (hr : t.k = 2 → rec env fresh t.ar = some (inL (ef env fresh) t.ar)) : qdJ rec env fresh t = some (inT (ef env fresh) t) := by
 unfold qdJ
 rcases zae t.k with h1 | h2 | ⟨h1, h2⟩
 rw [uF (show t.k ≠ 2 by omega), cond_false, uT h1, cond_true, qBN _ h1]
 unfold ef
 rcases qvy env t.i with ⟨hn, e⟩ | ⟨r, q, e, h0, hq, hm, _⟩
 obtain ⟨l, hl⟩ := qxR fresh t.i
 rw [e, ja, decide_eq_false oa, cond_false, hl, ja, hn]
 cases l with
 | true => rfl
 | false => rfl
 rw [e, ja, decide_eq_true oa, cond_true, hq, ja, hm]
 rfl
 rw [uT h2, cond_true, hr h2, ja, qCt _ h2]
 rw [uF h2, cond_false, uF h1, cond_false, qCA _ h1 h2]
 by_cases h0 : t.k = 0
 rw [uT h0, cond_true, if_pos h0]
 rfl
 rw [uF h0, cond_false, if_neg h0]
theorem qvJ {rec : En → Int → List T → Option (List T)} {env : En} {fresh : Int} : ∀ (ts out : List T), (∀ t ∈ ts, t.k = 2 → rec env fresh t.ar = some (inL (ef env fresh) t.ar)) → out.length + ts.length ≤ 10000000000 → qaQ (fun o7 => some o7) rec env fresh ts out = some (out ++ inL (ef env fresh) ts)
 | [], out, _, _ => by rw [qaQ, inL, jv]
 | t :: ts, out, hr, hl => by
  rw [jg] at hl
  rw [qaQ, inst1 (fun h => hr t (jc ..) h), ja, qfo oa hl, ja,
   qvJ ts _ (fun t h => hr t (je _ h)) (by rw [jb, jl]; omega), inL, jk, vA]
theorem qwb (env : En) (fresh : Int) : ∀ (fuel : Nat) (ts : List T), wtL ts < fuel → wtL ts ≤ 10000000000 → qc1 fuel env fresh ts = some (inL (ef env fresh) ts)
 | 0, _, h, _ => absurd h (vq _)
 | fuel + 1, ts, h, hw => by
  have := qfR ts
  rw [qc1]
  dsimp only
  rw [qvJ ts [] (fun t ht h2 => ?_) oe, jp]
  have h1 := qft ht
  have h3 := qie t
  exact qwb env fresh fuel t.ar oa oa
theorem qr9 (env : En) (fresh : Int) (fuel : Nat) (g : Gl) (h : wtL g.ts < fuel) (hw : wtL g.ts ≤ 10000000000) : qcv fuel env fresh g = some ⟨g.op, g.n, inL (ef env fresh) g.ts⟩ := by
 rw [qcv, qwb env fresh fuel g.ts h hw, ja]
mutual
theorem qDQ {W : Nat} (hW : 1 ≤ W) {f : Int → T} (hf : ∀ v, wt (f v) ≤ W) : ∀ t : T, wt (inT f t) ≤ wt t * W
 | .mk k i s ar => by
  have hm : wt (.mk k i s ar) * 1 ≤ wt (.mk k i s ar) * W := vx _ hW
  have h3 : 1 * W ≤ wt (.mk k i s ar) * W := jK _ (by rw [qie]; omega)
  rcases zae k with h1 | h2 | ⟨h1, h2⟩
  rw [qBN (t := .mk k i s ar) _ h1]
  have := hf (T.mk k i s ar).i
  omega
  rw [qCt (t := .mk k i s ar) _ h2]
  have := qt4 hW hf ar
  rw [wt, wt, jA]
  show 1 + wtL (inL f ar) ≤ 1 * W + wtL ar * W
  omega
  rw [qCA (t := .mk k i s ar) _ h1 h2]
  split
  rw [wt, wtL]
  omega
  omega
theorem qt4 {W : Nat} (hW : 1 ≤ W) {f : Int → T} (hf : ∀ v, wt (f v) ≤ W) : ∀ l : List T, wtL (inL f l) ≤ wtL l * W
 | [] => by rw [inL, wtL]; omega
 | t :: l => by
  have h1 := qDQ hW hf t
  have h2 := qt4 hW hf l
  rw [inL, wtL, wtL, jA]
  omega
end
theorem qBF {W : Nat} (hW : 1 ≤ W) {env : En} (he : EnW W env) (fresh v : Int) : wt (ef env fresh v) ≤ W := by
 unfold ef
 cases h : zx env v with
 | none =>
  show wt (T.mk 1 _ _ []) ≤ W
  rw [wt, wtL]
  omega
 | some u => exact he _ (qnB h)
/-! ### sizes -/
mutual
def szT (f : Int → Nat) : T → Nat
 | .mk k i _ ar => if k = 1 then f i else if k = 2 then 1 + szL f ar else 1
def szL (f : Int → Nat) : List T → Nat
 | [] => 0
 | t :: ts => szT f t + szL f ts
end
theorem qBL (f : Int → Nat) {t : T} (h : t.k = 1) : szT f t = f t.i := by cases t; simp only [T.k] at h; subst h; simp [szT, T.i]
theorem qBI (f : Int → Nat) {t : T} (h : t.k = 2) : szT f t = 1 + szL f t.ar := by cases t; simp only [T.k] at h; subst h; simp [szT, T.ar]
theorem qCE (f : Int → Nat) {t : T} (h1 : t.k ≠ 1) (h2 : t.k ≠ 2) : szT f t = 1 := by cases t; simp only [T.k] at h1 h2; simp [szT, h1, h2]
theorem qre {t : T} (h : t.k = 2) : zD t = 1 + zw t.ar := by rw [qj5, T.used, if_pos h]
theorem qnm {t : T} (h : t.k ≠ 2) : zD t = 1 := by rw [qj5, T.used, if_neg h, zw]
mutual
theorem qv9 {f g : Int → Nat} : ∀ t : T, (∀ v ∈ zP t, f v = g v) → szT f t = szT g t
 | .mk k i s ar, h => by
  rcases zae k with h1 | h2 | ⟨h1, h2⟩
  rw [qBL (t := .mk k i s ar) _ h1, qBL (t := .mk k i s ar) _ h1]
  exact h i (by rw [qlS (t := .mk k i s ar) h1]; exact ji.2 rfl)
  rw [qBI (t := .mk k i s ar) _ h2, qBI (t := .mk k i s ar) _ h2]
  show 1 + szL f ar = 1 + szL g ar
  rw [qtp ar fun v hv => h v (by rw [qlT (t := .mk k i s ar) h2]; exact hv)]
  rw [qCE (t := .mk k i s ar) _ h1 h2, qCE (t := .mk k i s ar) _ h1 h2]
theorem qtp {f g : Int → Nat} : ∀ l : List T, (∀ v ∈ zo l, f v = g v) → szL f l = szL g l
 | [], _ => by rw [szL, szL]
 | t :: l, h => by rw [szL, szL, qv9 t fun v hv => h v (by rw [zo]; exact jo _ hv), qtp l fun v hv => h v (by rw [zo]; exact jt _ hv)]
end
theorem qsg (t : T) : 1 ≤ zD t := by rw [qj5]; omega
mutual
theorem qnN : ∀ t : T, zD (clean t) = zD t
 | .mk k i s ar => by
  have hk := qCG (.mk k i s ar)
  by_cases h2 : k = 2
  rw [qre (t := clean _) (by rw [hk]; exact h2), qre (t := .mk k i s ar) h2, qvr, if_neg (show ¬ ((T.mk k i s ar).k = 1 ∨ (T.mk k i s ar).k = 0) from (show ¬ (k = 1 ∨ k = 0) by omega)), if_pos (show (T.mk k i s ar).k = 2 from h2)]
  show 1 + zw (ym ar) = 1 + zw ar
  rw [qpH ar]
  rw [qnm (by rw [hk]; exact h2), qnm (t := .mk k i s ar) h2]
theorem qpH : ∀ l : List T, zw (ym l) = zw l
 | [] => by rw [ym]
 | t :: l => by rw [ym, zw, zw, qnN t, qpH l]
end
theorem qw9 {a b : T} (h : yV a b = true) : clean a = clean b := (qtu a b).1 (by unfold yV at h; simpa using h)
theorem qtJ {a b : T} (h : yV a b = true) : zD a = zD b := by rw [← qnN a, qw9 h, qnN]
mutual
theorem quV : ∀ t : T, zF t = true → wt t = zD t
 | .mk k i s ar, h => by
  by_cases h2 : k = 2
  subst h2
  rw [qmi rfl, jm] at h
  rw [qre rfl, wt]
  show 1 + wtL ar = 1 + zw ar
  rw [qsc ar h.2]
  have h0 : ar.length = 0 := by
   by_cases e : k = 0
   subst e
   rw [qmY rfl] at h
   exact (of_decide_eq_true h).2.2.2
   by_cases e1 : k = 1
   subst e1
   rw [qlP rfl] at h
   exact (of_decide_eq_true h).2.2.2
   rw [qnV (t := .mk k i s ar) e e1 h2] at h
   cases h
  rw [qnm (t := .mk k i s ar) h2, jz h0, wt, wtL]
theorem qsc : ∀ l : List T, zN l = true → wtL l = zw l
 | [], _ => by rw [wtL, zw]
 | t :: l, h => by
  rw [zN, jm] at h
  rw [wtL, zw, quV t h.1, qsc l h.2]
end
theorem qpK {l : List T} (h : ya l = true) : zN l = true ∧ wtL l ≤ 200 := by
 obtain ⟨h1, h2, _⟩ := (qnZ l).1 h
 exact ⟨h1, by rw [qsc l h1]; omega⟩
theorem qe7 {t : T} (h : zJ t = true) : zF t = true ∧ wt t ≤ 200 := by
 obtain ⟨h1, h2, _⟩ := (qw5 t).1 h
 exact ⟨h1, by rw [quV t h1]; omega⟩
theorem qeC {a : At} (h : zy a = true) : zN a.ts = true ∧ wtL a.ts ≤ 200 ∧ a.ts.length ≤ 6 := by
 unfold zy at h
 simp only [jm, decide_eq_true_eq] at h
 obtain ⟨h1, h2⟩ := qpK h.2
 exact ⟨h1, h2, h.1.2⟩
theorem qe8 {g : Gl} (h : zn g = true) : zN g.ts = true ∧ wtL g.ts ≤ 200 := by
 unfold zn at h
 split at h
 have := qeC h
 exact ⟨this.1, this.2.1⟩
 simp only [jm] at h
 exact qpK h.2
/-! ### what fits has the size of the instance -/
theorem qoL : ∀ (l : List (Int × T)) (f g : Int → Option T), rn f l = some g → (∀ v u, f v = some u → g v = some u) ∧ ∀ q ∈ l, ∃ u, g q.1 = some u ∧ zD u = zD q.2
 | [], f, g, h => by
  rw [rn] at h
  cases h
  exact ⟨fun _ _ h => h, fun q hq => by cases hq⟩
 | (v, u) :: l, f, g, h => by
  cases hf : f v with
  | none =>
   rw [qmR hf] at h
   obtain ⟨h1, h2⟩ := qoL l _ g h
   have hv : g v = some u := h1 v u (by unfold upd; rw [if_pos rfl])
   refine ⟨fun x w hx => h1 x w ?_, fun q hq => ?_⟩
   unfold upd
   rw [if_neg (fun e => by rw [e, hf] at hx; cases hx)]
   exact hx
   rcases jh.1 hq with rfl | hq
   exact ⟨u, hv, rfl⟩
   exact h2 q hq
  | some w =>
   rw [qnI hf] at h
   split at h
   rename_i hs
   obtain ⟨h1, h2⟩ := qoL l _ g h
   refine ⟨h1, fun q hq => ?_⟩
   rcases jh.1 hq with rfl | hq
   exact ⟨w, h1 v w hf, qtJ hs⟩
   exact h2 q hq
   cases h
def gz (g : Int → Option T) (v : Int) : Nat := ((g v).map zD).getD 1
mutual
theorem qzD (g : Int → Option T) : ∀ (p t : T) (l : List T), vT p t = some l → (∀ q ∈ (zP p).zip l, ∃ u, g q.1 = some u ∧ zD u = zD q.2) → zD t = szT (gz g) p
 | .mk k i s ar, t, l, h, hq => by
  rcases zae k with h1 | h2 | ⟨h1, h2⟩
  rw [qt3 (p := .mk k i s ar) h1] at h
  cases h
  rw [qlS (t := .mk k i s ar) h1] at hq
  obtain ⟨u, hu, hs⟩ := hq ((T.mk k i s ar).i, t) og
  rw [qBL (t := .mk k i s ar) _ h1, gz, hu]
  exact hs.symm
  rw [qvH (p := .mk k i s ar) h2] at h
  split at h
  rename_i ht
  rw [qBI (t := .mk k i s ar) _ h2, qre ht.1]
  rw [qlT (t := .mk k i s ar) h2] at hq
  exact congrArg (1 + ·) (qvb g ar t.ar l h hq)
  cases h
  rw [qwt (p := .mk k i s ar) h1 h2] at h
  split at h
  rename_i hs
  rw [qCE (t := .mk k i s ar) _ h1 h2, ← qtJ hs, qnm (t := .mk k i s ar) h2]
  cases h
theorem qvb (g : Int → Option T) : ∀ (ps ts l : List T), vL ps ts = some l → (∀ q ∈ (zo ps).zip l, ∃ u, g q.1 = some u ∧ zD u = zD q.2) → zw ts = szL (gz g) ps
 | [], [], l, h, hq => by rw [zw, szL]
 | p :: ps, t :: ts, l, h, hq => by
  rw [vL] at h
  cases ha : vT p t with
  | none =>
   rw [ha] at h
   cases h
  | some a =>
   cases hb : vL ps ts with
   | none =>
    rw [ha, hb] at h
    cases h
   | some b =>
    rw [ha, hb] at h
    obtain rfl := Option.some.inj h
    have hl := qs5 p t a ha
    rw [zo, List.zip_append hl.symm] at hq
    rw [zw, szL, qzD g p t a ha fun q h => hq q (jo _ h), qvb g ps ts b hb fun q h => hq q (jt _ h)]
 | [], _ :: _, l, h, _ => by
  rw [vL] at h
  cases h
 | _ :: _, [], l, h, _ => by
  rw [vL] at h
  cases h
end
theorem qAN {f g : Int → Option T} {ps ts : List T} (h : mtc f (zo ps) (vL ps ts) = some g) : (∀ v u, f v = some u → g v = some u) ∧ (∀ v ∈ zo ps, (g v).isSome = true) ∧ zw ts = szL (gz g) ps := by
 unfold mtc at h
 cases hv : vL ps ts with
 | none =>
  rw [hv] at h
  cases h
 | some l =>
  rw [hv, ja] at h
  obtain ⟨h1, h2⟩ := qoL _ f g h
  refine ⟨h1, fun v hvm => ?_, qvb g ps ts l hv h2⟩
  obtain ⟨i, hi, rfl⟩ := List.getElem_of_mem hvm
  have hl := qzI ps ts l hv
  obtain ⟨u, hu, _⟩ := h2 ((zo ps)[i], l[i]'(by omega)) (by
   rw [List.mem_iff_getElem]
   exact ⟨i, by rw [List.length_zip]; omega, by rw [List.getElem_zip]⟩)
  rw [hu]
  rfl
end Go.Proofs.YtamoolpdganckaaGreat
