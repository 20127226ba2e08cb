/-
 Texts of the seat, merged.
-/
import Derived.Test.YtamoolpdganckaaGreatLSC
set_option linter.unusedVariables false
set_option linter.unusedSimpArgs false
set_option linter.unnecessarySimpa false
set_option linter.all false
set_option maxHeartbeats 8000000
namespace Go.Proofs.YtamoolpdganckaaGreat
noncomputable section
set_option maxRecDepth 100000
open Go.RowKit
def qcc (k : Option Bool) (a1 : Int) : List Int → Option Bool
 | [] =>
 k
 | q_2 :: rest =>
 (bif (q_2 == a1) then
 some (true)
 else
 (qcc k a1 rest))
def qfw (a0 : List Int) (a1 : Int) : Option Bool :=
 (qcc (some (false)) a1 a0)
theorem ql5 (a0 : List Int) (a1 : Int) (a : Bool) (hr : qfw a0 a1 = some a) : zg Tryz.prog 128 [.lst (a0.map (D.int .i64)), .int .i64 a1] (.bool a) := by
 unfold qfw at hr
 refine qC Tryz.func128 rfl fun K i j => ?_
 refine st ?_
 obtain ⟨c, d, hr⟩ := exK (fun k => qcc k a1 a0) hr
 refine qc5 0 rfl (asl rfl) fun e => ?_
 simp only [jd] at e
 refine qz (fun env σ => env = [] ∧ σ = [] ∧ c = some a) ?_ (fun l => ?_)
 rintro _ _ ⟨rfl, rfl, hr⟩
 rw [d] at hr
 exact fin hr
 refine qbc [0, 1, 5] rfl (qal (fun n env σ => ∃ (i1 : Nat), n = a0.length - i1 ∧ (env = [(0, .lst (a0.map (D.int .i64))), (1, .int .i64 a1), (5, .int .i64 (i1 : Int))]) ∧ (σ = []) ∧ (i1 ≤ a0.length) ∧ (qcc c a1 (a0.drop i1) = some a)) _ ⟨0, rfl, rfl, rfl, jf _, hr⟩ ?_)
 rintro n _ _ ⟨i1, rfl, rfl, rfl, g, hr⟩ m
 rcases zd a0 i1 g with ⟨h, b, o⟩ | ⟨q_2, h, b, p, q⟩
 rw [b, qcc] at hr
 exact fin hr
 rw [b, qcc] at hr
 refine st ?_
 refine qD ?_
 refine st ?_
 refine zi 17 rfl hr (fun _ hr => ?_) (fun _ hr => ?_)
 exact fin hr
 exact fin hr
def qd2 (a0 : T) : Option (List T) :=
 (bif (a0.k == (2 : Int)) then
 some (a0.ar)
 else
 some ([]))
theorem qlJ (a0 : T) (a : List T) (hr : qd2 a0 = some a) : zg Tryz.prog 94 [zl a0] (.lst (a.map zl)) := by
 unfold qd2 at hr
 refine qC Tryz.func94 rfl fun K b c => ?_
 refine st ?_
 refine rd rfl (qcA rfl rfl rfl) ?_
 refine st ?_
 refine rd rfl (qH rfl qcn rfl (qfJ _) (qfM _) rfl) ?_
 refine st ?_
 refine zi 5 rfl hr (fun _ hr => ?_) (fun _ hr => ?_)
 refine st ?_
 refine rd rfl (qH rfl qcB rfl (qg2 _) (qg7 _) rfl) ?_
 exact fin hr
 refine st ?_
 cases hr
 refine qbg Tryz.func94 _ (.cons (za rfl (Wk.full _)) .nil) ?_
 rfl
def qaF (k : List Int → Option (List Int)) (rec : List Int → T → Option (List Int)) : List T → List Int → Option (List Int)
 | [], l6 =>
 (k l6)
 | q_10 :: rest, l6 =>
 ((rec l6 q_10).bind fun r11 =>
 (qaF k rec rest r11))
def qcM (k : List Int → Option (List Int)) (a0 : List Int) (a1 : T) : Option (List Int) :=
 (bif (a1.k == (1 : Int)) then
 ((qfw a0 a1.i).bind fun r14 =>
 (bif (!r14) then
 ((zz 8 a0 [a1.i]).bind fun l16 =>
 (k l16))
 else
 (k a0)))
 else
 (k a0))
def qcl : Nat → List Int → T → Option (List Int)
 | 0, _, _ => none
 | fuel + 1, a0, a1 =>
  (fun (rec : List Int → T → Option (List Int)) =>
   (qcM (fun l3 =>
   ((qd2 a1).bind fun r4 =>
   (qaF (fun l9 =>
   some (l9)) rec r4 l3))) a0 a1)) (qcl fuel)
theorem qjs (fuel : Nat) (rec : List Int → T → Option (List Int)) (IHR : ∀ (a0 : List Int) (a1 : T) (b : Value) (a : List Int), rec a0 a1 = some a → Spec Tryz.prog 96 [.own b (a0.map (D.int .i64)), zl a1] [.row b a0.length 3 1] (fun d σ => ∃ (u_o0' : Value), d = .own u_o0' (a.map (D.int .i64)) ∧ σ = [.row u_o0' a.length 3 1])) (a0 : List Int) (a1 : T) (b : Value) (a : List Int)
 (hr : (qcM (fun l3 =>
((qd2 a1).bind fun r4 =>
(qaF (fun l9 =>
some (l9)) rec r4 l3))) a0 a1) = some a) : Spec Tryz.prog 96 [.own b (a0.map (D.int .i64)), zl a1] [.row b a0.length 3 1] (fun d σ => ∃ (u_o0' : Value), d = .own u_o0' (a.map (D.int .i64)) ∧ σ = [.row u_o0' a.length 3 1]) := by
 refine qC Tryz.func96 rfl fun K m o => (qaC (zf 2 4 (rd rfl (qcA rfl rfl rfl) (ew rfl (qL 3 1 (.inl rfl)) ?_))))
 rintro _ _ ⟨u4_0, rfl, rfl⟩
 refine qax ?_
 obtain ⟨kkJ0, hkkJ0, hr⟩ := exK (fun k => qcM k a0 a1) hr
 refine qpt (fun env σ => ∃ (l3 : List Int) (u2 : Value), env = [(0, .own u2 (l3.map (D.int .i64))), (3, .ptr (zl a1))] ∧ σ = [.row u2 l3.length 3 1] ∧ kkJ0 l3 = some a) ?_ (fun HKJ0 => ?_)
 rintro _ _ ⟨l3, u2, rfl, rfl, hr⟩
 rw [hkkJ0] at hr
 refine st ?_
 refine zk hr rfl qlz (qlJ _) (fun r4 h4 hr => ?_)
 refine st ?_
 obtain ⟨e, g, hr⟩ := exK (fun k => qaF k rec r4 l3) hr
 refine qc5 23 rfl (asl rfl) fun h => ?_
 simp only [jd] at h
 refine qz (fun env σ => ∃ (l9 : List Int) (u8 : Value), env = [(0, .own u8 (l9.map (D.int .i64)))] ∧ σ = [.row u8 l9.length 3 1] ∧ e l9 = some a) ?_ (fun p => ?_)
 rintro _ _ ⟨l9, u8, rfl, rfl, hr⟩
 rw [g] at hr
 refine st ?_
 cases hr
 refine qiP Tryz.func96 rfl ?_
 exact ⟨u8, rfl, rfl⟩
 refine qbc [5, 0, 6] rfl (qal (fun n env σ => ∃ (l6 : List Int) (i7 : Nat) (u5 : Value), n = r4.length - i7 ∧ (env = [(5, .lst (r4.map zl)), (0, .own u5 (l6.map (D.int .i64))), (6, .int .i64 (i7 : Int))]) ∧ (σ = [.row u5 l6.length 3 1]) ∧ (i7 ≤ r4.length) ∧ (qaF e rec (r4.drop i7) l6 = some a)) _ ⟨l3, 0, u2, rfl, rfl, rfl, jf _, hr⟩ ?_)
 rintro n _ _ ⟨l6, i7, u5, rfl, rfl, rfl, j, hr⟩ q
 rcases zd r4 i7 j with ⟨l, c, r⟩ | ⟨q_10, l, c, s, t⟩
 rw [c, qaF] at hr
 exact fin hr
 rw [c, qaF] at hr
 refine st ?_
 refine qD (zf 7 1024 ?_)
 refine st ?_
 obtain ⟨r11, h11, hr⟩ := zb hr
 refine ew rfl (qiL _ rfl qgr (.oc rfl (.oc rfl .nil)) (by exact (pf0 _)) (IHR _ _ _ _ h11)) ?_
 rintro _ _ ⟨_, ⟨u35_11, rfl, rfl⟩, rfl⟩
 refine zav ((.row u35_11 r11.length 3 1) :: _) rfl ?_
 exact fin hr
 unfold qcM at hr
 refine st ?_
 refine rd rfl (qH rfl qcn rfl (qfJ _) (qfM _) rfl) (qg 3 rfl ?_)
 refine zt 10 rfl hr (fun _ hr => ?_) (fun _ hr => ?_)
 refine qg 1 rfl (rd rfl (qH rfl qcP rfl (qgx _) (qge _) rfl) (qg 1 rfl ?_))
 obtain ⟨r14, h14, hr⟩ := zb hr
 refine rd rfl (qiv rfl ql6 (.cons rfl (Wk.own _ _) (.oc rfl .nil)) (ql5 _ _ _ h14)) ?_
 refine st ?_
 refine zi 16 rfl hr (fun _ hr => ?_) (fun _ hr => ?_)
 refine qfh rfl (zf 6 256 (qg 1 rfl (rd rfl (qH rfl qcP rfl (qgx _) (qge _) rfl) (qg 1 rfl (rd rfl (qe2 (f := (D.int .i64)) [.tmp 19] [a1.i] rfl qcO rfl rfl od od (.oc rfl .nil) (fun _ => rfl) (fun _ => rfl)) ?_)))))
 obtain ⟨l16, h16, hr⟩ := zb hr
 refine ew rfl (qau (f := (D.int .i64)) a0 [a1.i] rfl qcO rfl rfl (asl rfl) (pf1 _ _ _) rfl (fun _ => rfl) h16) ?_
 rintro _ _ ⟨u21_16, rfl, rfl⟩
 refine qg 1 rfl (qax (qbc [0, 3] rfl (qcz [_] _ (pf0 _) ?_)))
 exact HKJ0 _ _ ⟨l16, u21_16, rfl, rfl, hr⟩
 refine qf4 rfl (qjK (qbc [0, 3] rfl (qcz [_] _ (pf1 _ _ _) ?_)))
 exact HKJ0 _ _ ⟨a0, b, rfl, rfl, hr⟩
 refine qg 6 rfl (qax (qf4 rfl (qjK (qbc [0, 3] rfl (qcz [_] _ (pf1 _ _ _) ?_)))))
 exact HKJ0 _ _ ⟨a0, b, rfl, rfl, hr⟩
theorem qfD : ∀ (fuel : Nat) (a0 : List Int) (a1 : T) (u_o0 : Value) (res : List Int), qcl fuel a0 a1 = some res → Spec Tryz.prog 96 [.own u_o0 (a0.map (D.int .i64)), zl a1] [.row u_o0 a0.length 3 1] (fun d σ => ∃ (u_o0' : Value), d = .own u_o0' (res.map (D.int .i64)) ∧ σ = [.row u_o0' res.length 3 1])
 | 0, _, _, _, _, h => by cases h
 | fuel + 1, a0, a1, u_o0, res, h => qjs fuel (qcl fuel) (qfD fuel) a0 a1 u_o0 res h
def qdn (fuel : Nat) (a0 : T) : Option (List Int) :=
 ((qcl fuel [] a0).bind fun r1 =>
 some (r1))
theorem qgt (fuel : Nat) (a0 : T) (res : List Int) (hr : qdn fuel a0 = some res) : zg Tryz.prog 106 [zl a0] (.lst (res.map (D.int .i64))) := by
 unfold qdn at hr
 refine qC Tryz.func106 rfl fun K hK hF => ?_
 refine st ?_
 refine rd rfl (qcA rfl rfl rfl) (qg 1 rfl (qax (qaC (qoG 3 1 (zf 3 4 (qg 1 rfl ?_))))))
 obtain ⟨r1, h1, hr⟩ := zb hr
 refine ew rfl (qiL _ rfl qgr (.consN (.oc rfl .nil)) (by exact (pf0 _)) (qfD fuel _ _ _ _ h1)) ?_
 rintro _ _ ⟨_, ⟨u4_1, rfl, rfl⟩, rfl⟩
 refine zav ((.row u4_1 r1.length 3 1) :: _) rfl ?_
 refine st ?_
 cases hr
 refine qbg Tryz.func106 _ (.cons (za rfl (Wk.own _ _)) .nil) ?_
 rfl
def qbE (k : List Int → Option (List Int)) (fuel : Nat) : List T → List Int → Option (List Int)
 | [], o4 =>
 (k o4)
 | q_8 :: rest, o4 =>
 ((qcl fuel o4 q_8).bind fun r9 =>
 (qbE k fuel rest r9))
def qcd (fuel : Nat) (a0 : List T) : Option (List Int) :=
 (qbE (fun o7 =>
 some (o7)) fuel a0 [])
theorem qe1 (fuel : Nat) (a0 : List T) (a : List Int) (hr : qcd fuel a0 = some a) : zg Tryz.prog 62 [.lst (a0.map zl)] (.lst (a.map (D.int .i64))) := by
 unfold qcd at hr
 refine qC Tryz.func62 rfl fun K i j => (qaC (zf 1 1 (ew rfl (qL 3 1 (.inl rfl)) ?_)))
 rintro _ _ ⟨u2_0, rfl, rfl⟩
 refine st0 ?_
 refine zf 1 1 (ew rfl (qL 3 1 (.inl rfl)) ?_)
 rintro _ _ ⟨u3_1, rfl, rfl⟩
 refine st ?_
 obtain ⟨c, d, hr⟩ := exK (fun k => qbE k fuel a0 []) hr
 refine qc5 0 rfl (asl rfl) fun e => ?_
 simp only [jd] at e
 refine qz (fun env σ => ∃ (o7 : List Int) (u6 : Value), env = [(3, .own u6 (o7.map (D.int .i64)))] ∧ σ = [.row u6 o7.length 3 1] ∧ c o7 = some a) ?_ (fun l => ?_)
 rintro _ _ ⟨o7, u6, rfl, rfl, hr⟩
 rw [d] at hr
 refine st ?_
 cases hr
 refine qbg Tryz.func62 _ (.cons (za rfl (Wk.own _ _)) .nil) ?_
 rfl
 refine qbc [0, 3, 4] rfl (qcz [_] _ (pf0 _) (qal (fun n env σ => ∃ (o4 : List Int) (i5 : Nat) (u3 : Value), n = a0.length - i5 ∧ (env = [(0, .lst (a0.map zl)), (3, .own u3 (o4.map (D.int .i64))), (4, .int .i64 (i5 : Int))]) ∧ (σ = [.row u3 o4.length 3 1]) ∧ (i5 ≤ a0.length) ∧ (qbE c fuel (a0.drop i5) o4 = some a)) _ ⟨[], 0, u3_1, rfl, rfl, rfl, jf _, hr⟩ ?_))
 rintro n _ _ ⟨o4, i5, u3, rfl, rfl, rfl, g, hr⟩ m
 rcases zd a0 i5 g with ⟨h, b, o⟩ | ⟨q_8, h, b, p, q⟩
 rw [b, qbE] at hr
 exact fin hr
 rw [b, qbE] at hr
 refine st ?_
 refine qD (zf 7 1024 ?_)
 refine st ?_
 obtain ⟨r9, h9, hr⟩ := zb hr
 refine ew rfl (qiL _ rfl qgr (.oc rfl (.oc rfl .nil)) (by exact (pf0 _)) (qfD fuel _ _ _ _ h9)) ?_
 rintro _ _ ⟨_, ⟨u16_9, rfl, rfl⟩, rfl⟩
 refine zav ((.row u16_9 r9.length 3 1) :: _) rfl ?_
 exact fin hr
theorem qiV : zQ Tryz.prog 254 [.own (.slice none 0 0) [], .vec (.slice none 0 0) 0] := .mk rfl ob Tryz.underlying254 ob
structure qb where
 fa : Int
 fe : Int
 fE : ByteArray
 ff : (List Int)
def qa (x : qb) : D := .agg [.int .i64 x.fa, .int .i64 x.fe, .str x.fE, .lst (x.ff.map (D.int .i64))]
theorem qej (x : qb) : sz (qa x) = 4 := by
 simp only [qa, sz, szs]
theorem qkr : zQ Tryz.prog 259 [.int .i64 0, .int .i64 0, .str ⟨#[]⟩, .own (.slice none 0 0) []] := .mk rfl ob Tryz.underlying259 ob
structure qj where
 fh : Int
 fo : Int
def qo (x : qj) : D := .agg [.int .i64 x.fh, .int .i64 x.fo]
theorem qcs (x : qj) : sz (qo x) = 2 := by
 simp only [qo, sz, szs]
theorem qrN : zQ Tryz.prog 78 [.int .i64 0, .int .i64 0, .str ⟨#[]⟩, .own (.slice none 0 0) []] := .mk rfl ob Tryz.underlying78 ob
def qdu (a0 : Gl) : Option Bool :=
 (bif (decide (a0.op ≥ (5 : Int))) then
 (bif (decide (a0.op ≤ (12 : Int))) then
 ((qhY a0).bind fun r3 =>
 some (r3))
 else
 some (false))
 else
 some (false))
theorem qhn (a0 : Gl) (a : Bool) (hr : qdu a0 = some a) : zg Tryz.prog 167 [zB a0] (.bool a) := by
 unfold qdu at hr
 refine qC Tryz.func167 rfl fun K b c => ?_
 refine st ?_
 refine rd rfl (qcA rfl rfl rfl) ?_
 refine st ?_
 refine zt 6 rfl hr (fun _ hr => ?_) (fun _ hr => ?_)
 refine qg 5 rfl ?_
 refine zt 11 rfl hr (fun _ hr => ?_) (fun _ hr => ?_)
 refine qg 1 rfl ?_
 obtain ⟨r3, h3, hr⟩ := zb hr
 refine qem rfl qco (qcm _ _ h3) ?_
 exact fin hr
 exact fin hr
 exact fin hr
def qP (a0 : Bool) : Option Int :=
 (bif a0 then
 some (1)
 else
 some (2))
theorem qbA (a0 : Bool) (a : Int) (hr : qP a0 = some a) : zg Tryz.prog 181 [.bool a0] (.int .i64 a) := by
 unfold qP at hr
 refine qC Tryz.func181 rfl fun K b c => ?_
 refine st ?_
 refine zi 3 rfl hr (fun _ hr => ?_) (fun _ hr => ?_)
 exact fin hr
 exact fin hr
def qcW (fuel : Nat) (a0 : T) : Option Bool :=
 ((qdn fuel a0).bind fun r1 =>
 some (((r1.length : Int) == (0 : Int))))
theorem qfS (fuel : Nat) (a0 : T) (a : Bool) (hr : qcW fuel a0 = some a) : zg Tryz.prog 182 [zl a0] (.bool a) := by
 unfold qcW at hr
 refine qC Tryz.func182 rfl fun K b c => ?_
 refine st ?_
 refine rd rfl (qcA rfl rfl rfl) ?_
 refine st ?_
 refine zk hr rfl qgv (qgt fuel _) (fun r1 h1 hr => ?_)
 exact fin hr
def qdd (a0 : ByteArray) : Option Bool :=
 (bif (a0.toList == (⟨#[43]⟩ : ByteArray).toList) then
 some (true)
 else
 (bif (a0.toList == (⟨#[45]⟩ : ByteArray).toList) then
 some (true)
 else
 (bif (a0.toList == (⟨#[42]⟩ : ByteArray).toList) then
 some (true)
 else
 (bif (a0.toList == (⟨#[47]⟩ : ByteArray).toList) then
 some (true)
 else
 some ((a0.toList == (⟨#[37]⟩ : ByteArray).toList))))))
theorem qjx (a0 : ByteArray) (a : Bool) (hr : qdd a0 = some a) : zg Tryz.prog 154 [.str a0] (.bool a) := by
 unfold qdd at hr
 refine qC Tryz.func154 rfl fun K b c => ?_
 refine st ?_
 refine rd rfl (qgC rfl rfl rfl rfl) (qg 1 rfl ?_)
 refine zt 5 rfl hr (fun _ hr => ?_) (fun _ hr => ?_)
 exact fin hr
 refine qg 1 rfl (rd rfl (qgC rfl rfl rfl rfl) (qg 2 rfl ?_))
 refine zt 9 rfl hr (fun _ hr => ?_) (fun _ hr => ?_)
 exact fin hr
 refine qg 1 rfl (rd rfl (qgC rfl rfl rfl rfl) (qg 2 rfl ?_))
 refine zt 13 rfl hr (fun _ hr => ?_) (fun _ hr => ?_)
 exact fin hr
 refine qg 1 rfl (rd rfl (qgC rfl rfl rfl rfl) (qg 2 rfl ?_))
 refine zt 17 rfl hr (fun _ hr => ?_) (fun _ hr => ?_)
 exact fin hr
 refine qg 1 rfl (rd rfl (qgC rfl rfl rfl rfl) ?_)
 exact fin hr
def qcI : Nat → T → Option Bool
 | 0, _ => none
 | fuel + 1, a0 =>
  (fun (rec : T → Option Bool) =>
   (bif (a0.k == (0 : Int)) then
   some (true)
   else
   (bif (a0.k == (1 : Int)) then
   some (true)
   else
   (bif (a0.k == (2 : Int)) then
   ((qdd a0.s).bind fun r4 =>
   (bif r4 then
   (bif ((a0.ar.length : Int) == (2 : Int)) then
   ((zh a0.ar 0).bind fun q_7 =>
   ((rec q_7).bind fun r8 =>
   (bif r8 then
   ((zh a0.ar 1).bind fun q_10 =>
   ((rec q_10).bind fun r11 =>
   some (r11)))
   else
   some (false))))
   else
   some (false))
   else
   some (false)))
   else
   some (false))))) (qcI fuel)
theorem qjo (fuel : Nat) (rec : T → Option Bool) (IHR : ∀ (a0 : T) (a : Bool), rec a0 = some a → zg Tryz.prog 194 [zl a0] (.bool a)) (a0 : T) (a : Bool)
 (hr : (bif (a0.k == (0 : Int)) then
some (true)
else
(bif (a0.k == (1 : Int)) then
some (true)
else
(bif (a0.k == (2 : Int)) then
((qdd a0.s).bind fun r4 =>
(bif r4 then
(bif ((a0.ar.length : Int) == (2 : Int)) then
((zh a0.ar 0).bind fun q_7 =>
((rec q_7).bind fun r8 =>
(bif r8 then
((zh a0.ar 1).bind fun q_10 =>
((rec q_10).bind fun r11 =>
some (r11)))
else
some (false))))
else
some (false))
else
some (false)))
else
some (false)))) = some a) : zg Tryz.prog 194 [zl a0] (.bool a) := by
 refine qC Tryz.func194 rfl fun K b c => ?_
 refine st ?_
 refine rd rfl (qcA rfl rfl rfl) ?_
 refine st ?_
 refine rd rfl (qH rfl qcn rfl (qfJ _) (qfM _) rfl) (qg 3 rfl ?_)
 refine zt 6 rfl hr (fun _ hr => ?_) (fun _ hr => ?_)
 exact fin hr
 refine rd rfl (qH rfl qcn rfl (qfJ _) (qfM _) rfl) ?_
 refine st ?_
 refine zi 10 rfl hr (fun _ hr => ?_) (fun _ hr => ?_)
 exact fin hr
 refine st ?_
 refine rd rfl (qH rfl qcn rfl (qfJ _) (qfM _) rfl) (qg 3 rfl ?_)
 refine zt 14 rfl hr (fun _ hr => ?_) (fun _ hr => ?_)
 refine rd rfl (qH rfl qfO rfl (qly _) (qlO _) rfl) (qg 1 rfl ?_)
 refine zk hr rfl qjM (qjx _) (fun r4 h4 hr => ?_)
 refine qg 2 rfl ?_
 refine zt 19 rfl hr (fun _ hr => ?_) (fun _ hr => ?_)
 refine rd rfl (qH rfl qcB rfl (qg2 _) (qg7 _) rfl) ?_
 refine st ?_
 refine zt 25 rfl hr (fun _ hr => ?_) (fun _ hr => ?_)
 refine rd rfl (qH rfl qcB rfl (qg2 _) (qg7 _) rfl) (qg 1 rfl ?_)
 obtain ⟨q_7, h7, hr⟩ := zb hr
 refine st ?_
 obtain ⟨r8, h8, hr⟩ := zb hr
 refine qem rfl qeP (IHR _ _ h8) (qg 2 rfl ?_)
 refine zt 32 rfl hr (fun _ hr => ?_) (fun _ hr => ?_)
 refine rd rfl (qH rfl qcB rfl (qg2 _) (qg7 _) rfl) (qg 1 rfl ?_)
 obtain ⟨q_10, h10, hr⟩ := zb hr
 refine st ?_
 obtain ⟨r11, h11, hr⟩ := zb hr
 refine qem rfl qeP (IHR _ _ h11) ?_
 exact fin hr
 exact fin hr
 exact fin hr
 exact fin hr
 exact fin hr
theorem qfC : ∀ (fuel : Nat) (a0 : T) (res : Bool), qcI fuel a0 = some res → zg Tryz.prog 194 [zl a0] (.bool res)
 | 0, _, _, h => by cases h
 | fuel + 1, a0, res, h => qjo fuel (qcI fuel) (qfC fuel) a0 res h
def qa2 (a0 : Int) : Option Bool :=
 (bif (decide (a0 ≥ ((-2147483648) : Int))) then
 some ((decide (a0 ≤ (2147483648 : Int))))
 else
 some (false))
theorem qdh (a0 : Int) (a : Bool) (hr : qa2 a0 = some a) : zg Tryz.prog 176 [.int .i64 a0] (.bool a) := by
 unfold qa2 at hr
 refine qC Tryz.func176 rfl fun K b c => ?_
 refine st ?_
 refine zt 5 rfl hr (fun _ hr => ?_) (fun _ hr => ?_)
 exact fin hr
 exact fin hr
def qcy (a0 : ByteArray) : Option Bool :=
 (bif (a0.toList == (⟨#[43]⟩ : ByteArray).toList) then
 some (true)
 else
 (bif (a0.toList == (⟨#[45]⟩ : ByteArray).toList) then
 some (true)
 else
 (bif (a0.toList == (⟨#[42]⟩ : ByteArray).toList) then
 some (true)
 else
 (bif (a0.toList == (⟨#[47]⟩ : ByteArray).toList) then
 some (true)
 else
 some ((a0.toList == (⟨#[37]⟩ : ByteArray).toList))))))
theorem qgO (a0 : ByteArray) (a : Bool) (hr : qcy a0 = some a) : zg Tryz.prog 177 [.str a0] (.bool a) := by
 unfold qcy at hr
 refine qC Tryz.func177 rfl fun K b c => ?_
 refine st ?_
 refine rd rfl (qgC rfl rfl rfl rfl) (qg 1 rfl ?_)
 refine zt 5 rfl hr (fun _ hr => ?_) (fun _ hr => ?_)
 exact fin hr
 refine qg 1 rfl (rd rfl (qgC rfl rfl rfl rfl) (qg 2 rfl ?_))
 refine zt 9 rfl hr (fun _ hr => ?_) (fun _ hr => ?_)
 exact fin hr
 refine qg 1 rfl (rd rfl (qgC rfl rfl rfl rfl) (qg 2 rfl ?_))
 refine zt 13 rfl hr (fun _ hr => ?_) (fun _ hr => ?_)
 exact fin hr
 refine qg 1 rfl (rd rfl (qgC rfl rfl rfl rfl) (qg 2 rfl ?_))
 refine zt 17 rfl hr (fun _ hr => ?_) (fun _ hr => ?_)
 exact fin hr
 refine qg 1 rfl (rd rfl (qgC rfl rfl rfl rfl) ?_)
 exact fin hr
def qep (a0 : Int) (a1 : Int) : Option Int :=
 (bif (decide (a1 < (0 : Int))) then
 (bif (decide ((wr (-a0)) ≥ (0 : Int))) then
 ((zbN (wr (-a0)) (wr (-a1))).bind fun m3 =>
 some (m3))
 else
 ((zbN (wr ((wr ((wr (-a1)) - (1 : Int))) - (wr (-a0)))) (wr (-a1))).bind fun m4 =>
 some ((wr (-m4)))))
 else
 (bif (decide (a0 ≥ (0 : Int))) then
 ((zbN a0 a1).bind fun m6 =>
 some (m6))
 else
 ((zbN (wr ((wr (a1 - (1 : Int))) - a0)) a1).bind fun m7 =>
 some ((wr (-m7))))))
theorem qkC (a0 : Int) (a1 : Int) (a : Int) (hr : qep a0 a1 = some a) : zg Tryz.prog 190 [.int .i64 a0, .int .i64 a1] (.int .i64 a) := by
 unfold qep at hr
 refine qC Tryz.func190 rfl fun K b c => ?_
 refine st ?_
 refine zi 6 rfl hr (fun _ hr => ?_) (fun _ hr => ?_)
 refine st ?_
 refine rd rfl (qAg rfl rfl) (qg 1 rfl (rd rfl (qAg rfl rfl) ?_))
 refine st ?_
 refine zi 12 rfl hr (fun _ hr => ?_) (fun _ hr => ?_)
 refine st ?_
 obtain ⟨m3, h3, hr⟩ := zb hr
 refine rd rfl (qvi rfl rfl rfl h3) ?_
 exact fin hr
 refine st ?_
 refine rd rfl (qe4 rfl rfl rfl rfl) (qg 1 rfl (rd rfl (qe4 rfl rfl rfl rfl) (qg 1 rfl ?_)))
 obtain ⟨m4, h4, hr⟩ := zb hr
 refine rd rfl (qvi rfl rfl rfl h4) (rd rfl (qAg rfl rfl) ?_)
 exact fin hr
 refine st ?_
 refine zi 12 rfl hr (fun _ hr => ?_) (fun _ hr => ?_)
 refine st ?_
 obtain ⟨m6, h6, hr⟩ := zb hr
 refine rd rfl (qvi rfl rfl rfl h6) ?_
 exact fin hr
 refine st ?_
 refine rd rfl (qe4 rfl rfl rfl rfl) (qg 1 rfl (rd rfl (qe4 rfl rfl rfl rfl) (qg 1 rfl ?_)))
 obtain ⟨m7, h7, hr⟩ := zb hr
 refine rd rfl (qvi rfl rfl rfl h7) (rd rfl (qAg rfl rfl) ?_)
 exact fin hr
def qdL (a0 : ByteArray) (a1 : Int) (a2 : Int) : Option (Int × Int) :=
 ((qcy a0).bind fun r1 =>
 (bif (!r1) then
 some (0, 7)
 else
 ((qa2 a1).bind fun r3 =>
 (bif (!r3) then
 some (0, 5)
 else
 ((qa2 a2).bind fun r5 =>
 (bif (!r5) then
 some (0, 5)
 else
 (bif (a0.toList == (⟨#[43]⟩ : ByteArray).toList) then
 ((qa2 (wr (a1 + a2))).bind fun r8 =>
 (bif (!r8) then
 some (0, 5)
 else
 some ((wr (a1 + a2)), 0)))
 else
 (bif (a0.toList == (⟨#[45]⟩ : ByteArray).toList) then
 ((qa2 (wr (a1 - a2))).bind fun r11 =>
 (bif (!r11) then
 some (0, 5)
 else
 some ((wr (a1 - a2)), 0)))
 else
 (bif (a0.toList == (⟨#[42]⟩ : ByteArray).toList) then
 ((qa2 (wr (a1 * a2))).bind fun r14 =>
 (bif (!r14) then
 some (0, 5)
 else
 some ((wr (a1 * a2)), 0)))
 else
 (bif (a2 == (0 : Int)) then
 some (0, 12)
 else
 ((qep a1 a2).bind fun r17 =>
 (bif (a0.toList == (⟨#[37]⟩ : ByteArray).toList) then
 ((qa2 (wr (a1 - (wr (r17 * a2))))).bind fun r19 =>
 (bif (!r19) then
 some (0, 5)
 else
 some ((wr (a1 - (wr (r17 * a2)))), 0)))
 else
 ((qa2 r17).bind fun r21 =>
 (bif (!r21) then
 some (0, 5)
 else
 some (r17, 0)))))))))))))))
theorem qk4 (a0 : ByteArray) (a1 : Int) (a2 : Int) (a : Int × Int) (hr : qdL a0 a1 a2 = some a) : zg Tryz.prog 178 [.str a0, .int .i64 a1, .int .i64 a2] (.tup [.int .i64 a.1, .int .i64 a.2]) := by
 unfold qdL at hr
 refine qC Tryz.func178 rfl fun K b c => ?_
 refine st ?_
 refine zk hr rfl qgZ (qgO _) (fun r1 h1 hr => ?_)
 refine st ?_
 refine zi 11 rfl hr (fun _ hr => ?_) (fun _ hr => ?_)
 exact fin hr
 refine st ?_
 refine zk hr rfl qdg (qdh _) (fun r3 h3 hr => ?_)
 refine qg 2 rfl ?_
 refine zt 15 rfl hr (fun _ hr => ?_) (fun _ hr => ?_)
 exact fin hr
 refine qg 1 rfl ?_
 refine zk hr rfl qdg (qdh _) (fun r5 h5 hr => ?_)
 refine st ?_
 refine zi 19 rfl hr (fun _ hr => ?_) (fun _ hr => ?_)
 exact fin hr
 refine st ?_
 refine qD ?_
 refine st ?_
 refine rd rfl (qgC rfl rfl rfl rfl) ?_
 refine st ?_
 refine zi 33 rfl hr (fun _ hr => ?_) (fun _ hr => ?_)
 refine st ?_
 refine rd rfl (qe4 rfl rfl rfl rfl) ?_
 refine st ?_
 refine zk hr rfl qdg (qdh _) (fun r8 h8 hr => ?_)
 refine st ?_
 refine zi 50 rfl hr (fun _ hr => ?_) (fun _ hr => ?_)
 exact fin hr
 exact fin hr
 refine st ?_
 refine rd rfl (qgC rfl rfl rfl rfl) ?_
 refine st ?_
 refine zi 38 rfl hr (fun _ hr => ?_) (fun _ hr => ?_)
 refine st ?_
 refine rd rfl (qe4 rfl rfl rfl rfl) ?_
 refine st ?_
 refine zk hr rfl qdg (qdh _) (fun r11 h11 hr => ?_)
 refine st ?_
 refine zi 50 rfl hr (fun _ hr => ?_) (fun _ hr => ?_)
 exact fin hr
 exact fin hr
 refine st ?_
 refine rd rfl (qgC rfl rfl rfl rfl) ?_
 refine st ?_
 refine zi 43 rfl hr (fun _ hr => ?_) (fun _ hr => ?_)
 refine st ?_
 refine rd rfl (qe4 rfl rfl rfl rfl) ?_
 refine st ?_
 refine zk hr rfl qdg (qdh _) (fun r14 h14 hr => ?_)
 refine st ?_
 refine zi 50 rfl hr (fun _ hr => ?_) (fun _ hr => ?_)
 exact fin hr
 exact fin hr
 refine st ?_
 refine zi 22 rfl hr (fun _ hr => ?_) (fun _ hr => ?_)
 exact fin hr
 refine st ?_
 refine zk hr rfl qk9 (qkC _ _) (fun r17 h17 hr => ?_)
 refine st ?_
 refine rd rfl (qgC rfl rfl rfl rfl) (qax ?_)
 refine zi 27 rfl hr (fun _ hr => ?_) (fun _ hr => ?_)
 refine st ?_
 refine rd rfl (qe4 rfl rfl rfl rfl) (rd rfl (qe4 rfl rfl rfl rfl) ?_)
 refine st ?_
 refine zk hr rfl qdg (qdh _) (fun r19 h19 hr => ?_)
 refine st ?_
 refine zi 50 rfl hr (fun _ hr => ?_) (fun _ hr => ?_)
 exact fin hr
 exact fin hr
 refine st ?_
 refine zk hr rfl qdg (qdh _) (fun r21 h21 hr => ?_)
 refine st ?_
 refine zi 50 rfl hr (fun _ hr => ?_) (fun _ hr => ?_)
 exact fin hr
 exact fin hr
def qcQ : Nat → T → Option (Int × Int)
 | 0, _ => none
 | fuel + 1, a0 =>
  (fun (rec : T → Option (Int × Int)) =>
   (bif (a0.k == (0 : Int)) then
   ((qa2 a0.i).bind fun r2 =>
   (bif (!r2) then
   some (0, 5)
   else
   some (a0.i, 0)))
   else
   (bif (a0.k == (1 : Int)) then
   some (0, 17)
   else
   (bif (a0.k != (2 : Int)) then
   some (0, 11)
   else
   ((qcy a0.s).bind fun r6 =>
   (bif (!r6) then
   some (0, 11)
   else
   (bif ((a0.ar.length : Int) != (2 : Int)) then
   some (0, 11)
   else
   ((zh a0.ar 0).bind fun q_9 =>
   ((rec q_9).bind fun r10 =>
   (bif (r10.2 != (0 : Int)) then
   some (0, r10.2)
   else
   ((zh a0.ar 1).bind fun q_12 =>
   ((rec q_12).bind fun r13 =>
   (bif (r13.2 != (0 : Int)) then
   some (0, r13.2)
   else
   ((qdL a0.s r10.1 r13.1).bind fun r15 =>
   some (r15.1, r15.2))))))))))))))) (qcQ fuel)
theorem qk1 (fuel : Nat) (rec : T → Option (Int × Int)) (IHR : ∀ (a0 : T) (a : Int × Int), rec a0 = some a → zg Tryz.prog 164 [zl a0] (.tup [.int .i64 a.1, .int .i64 a.2])) (a0 : T) (a : Int × Int)
 (hr : (bif (a0.k == (0 : Int)) then
((qa2 a0.i).bind fun r2 =>
(bif (!r2) then
some (0, 5)
else
some (a0.i, 0)))
else
(bif (a0.k == (1 : Int)) then
some (0, 17)
else
(bif (a0.k != (2 : Int)) then
some (0, 11)
else
((qcy a0.s).bind fun r6 =>
(bif (!r6) then
some (0, 11)
else
(bif ((a0.ar.length : Int) != (2 : Int)) then
some (0, 11)
else
((zh a0.ar 0).bind fun q_9 =>
((rec q_9).bind fun r10 =>
(bif (r10.2 != (0 : Int)) then
some (0, r10.2)
else
((zh a0.ar 1).bind fun q_12 =>
((rec q_12).bind fun r13 =>
(bif (r13.2 != (0 : Int)) then
some (0, r13.2)
else
((qdL a0.s r10.1 r13.1).bind fun r15 =>
some (r15.1, r15.2)))))))))))))) = some a) : zg Tryz.prog 164 [zl a0] (.tup [.int .i64 a.1, .int .i64 a.2]) := by
 refine qC Tryz.func164 rfl fun K b c => ?_
 refine st ?_
 refine rd rfl (qcA rfl rfl rfl) ?_
 refine st ?_
 refine rd rfl (qH rfl qcn rfl (qfJ _) (qfM _) rfl) ?_
 refine st ?_
 refine qD ?_
 refine st ?_
 refine zi 10 rfl hr (fun _ hr => ?_) (fun _ hr => ?_)
 refine st ?_
 refine rd rfl (qH rfl qcP rfl (qgx _) (qge _) rfl) (qg 1 rfl ?_)
 refine zk hr rfl qdg (qdh _) (fun r2 h2 hr => ?_)
 refine st ?_
 refine zi 15 rfl hr (fun _ hr => ?_) (fun _ hr => ?_)
 exact fin hr
 refine st ?_
 refine rd rfl (qH rfl qcP rfl (qgx _) (qge _) rfl) ?_
 exact fin hr
 refine st ?_
 refine zi 18 rfl hr (fun _ hr => ?_) (fun _ hr => ?_)
 exact fin hr
 refine st ?_
 refine rd rfl (qH rfl qcn rfl (qfJ _) (qfM _) rfl) (qg 3 rfl ?_)
 refine zt 23 rfl hr (fun _ hr => ?_) (fun _ hr => ?_)
 exact fin hr
 refine rd rfl (qH rfl qfO rfl (qly _) (qlO _) rfl) (qg 1 rfl ?_)
 refine zk hr rfl qgZ (qgO _) (fun r6 h6 hr => ?_)
 refine qg 3 rfl ?_
 refine zt 29 rfl hr (fun _ hr => ?_) (fun _ hr => ?_)
 exact fin hr
 refine rd rfl (qH rfl qcB rfl (qg2 _) (qg7 _) rfl) ?_
 refine st ?_
 refine zi 34 rfl hr (fun _ hr => ?_) (fun _ hr => ?_)
 exact fin hr
 refine st ?_
 refine rd rfl (qH rfl qcB rfl (qg2 _) (qg7 _) rfl) (qg 1 rfl ?_)
 obtain ⟨q_9, h9, hr⟩ := zb hr
 refine st ?_
 obtain ⟨r10, h10, hr⟩ := zb hr
 refine qem rfl qeK (IHR _ _ h10) ?_
 refine st ?_
 refine zi 44 rfl hr (fun _ hr => ?_) (fun _ hr => ?_)
 exact fin hr
 refine st ?_
 refine rd rfl (qH rfl qcB rfl (qg2 _) (qg7 _) rfl) (qg 1 rfl ?_)
 obtain ⟨q_12, h12, hr⟩ := zb hr
 refine st ?_
 obtain ⟨r13, h13, hr⟩ := zb hr
 refine qem rfl qeK (IHR _ _ h13) ?_
 refine st ?_
 refine zi 55 rfl hr (fun _ hr => ?_) (fun _ hr => ?_)
 exact fin hr
 refine st ?_
 refine rd rfl (qH rfl qfO rfl (qly _) (qlO _) rfl) (qg 3 rfl ?_)
 refine zk hr rfl qk2 (qk4 _ _ _) (fun r15 h15 hr => ?_)
 exact fin hr
theorem qfl : ∀ (fuel : Nat) (a0 : T) (res : Int × Int), qcQ fuel a0 = some res → zg Tryz.prog 164 [zl a0] (.tup [.int .i64 res.1, .int .i64 res.2])
 | 0, _, _, h => by cases h
 | fuel + 1, a0, res, h => qk1 fuel (qcQ fuel) (qfl fuel) a0 res h
def qei (fuel : Nat) (a0 : Int) (a1 : T) (a2 : T) : Option Int :=
 ((qcI fuel a1).bind fun r1 =>
 (bif (!r1) then
 some (2)
 else
 ((qcI fuel a2).bind fun r3 =>
 (bif (!r3) then
 some (2)
 else
 ((qcW fuel a1).bind fun r5 =>
 (bif (!r5) then
 some (0)
 else
 ((qcW fuel a2).bind fun r7 =>
 (bif (!r7) then
 some (0)
 else
 ((qcQ fuel a1).bind fun r9 =>
 ((qcQ fuel a2).bind fun r10 =>
 (bif (r9.2 != (0 : Int)) then
 some (2)
 else
 (bif (r10.2 != (0 : Int)) then
 some (2)
 else
 (bif (a0 == (7 : Int)) then
 ((qP (decide (r9.1 < r10.1))).bind fun r14 =>
 some (r14))
 else
 (bif (a0 == (8 : Int)) then
 ((qP (decide (r9.1 ≤ r10.1))).bind fun r16 =>
 some (r16))
 else
 (bif (a0 == (9 : Int)) then
 ((qP (r9.1 == r10.1)).bind fun r18 =>
 some (r18))
 else
 ((qP (r9.1 != r10.1)).bind fun r19 =>
 some (r19)))))))))))))))))
theorem qkg (fuel : Nat) (a0 : Int) (a1 : T) (a2 : T) (a : Int) (hr : qei fuel a0 a1 a2 = some a) : zg Tryz.prog 183 [.int .i64 a0, zl a1, zl a2] (.int .i64 a) := by
 unfold qei at hr
 refine qC Tryz.func183 rfl fun K b c => ?_
 refine st ?_
 refine rd rfl (qcA rfl rfl rfl) (rd rfl (qcA rfl rfl rfl) ?_)
 refine st ?_
 refine zk hr rfl qeP (qfC fuel _) (fun r1 h1 hr => ?_)
 refine qg 2 rfl ?_
 refine zt 14 rfl hr (fun _ hr => ?_) (fun _ hr => ?_)
 exact fin hr
 refine qg 1 rfl ?_
 refine zk hr rfl qeP (qfC fuel _) (fun r3 h3 hr => ?_)
 refine st ?_
 refine zi 18 rfl hr (fun _ hr => ?_) (fun _ hr => ?_)
 exact fin hr
 refine st ?_
 refine zk hr rfl qfT (qfS fuel _) (fun r5 h5 hr => ?_)
 refine qg 2 rfl ?_
 refine zt 22 rfl hr (fun _ hr => ?_) (fun _ hr => ?_)
 exact fin hr
 refine qg 1 rfl ?_
 refine zk hr rfl qfT (qfS fuel _) (fun r7 h7 hr => ?_)
 refine st ?_
 refine zi 26 rfl hr (fun _ hr => ?_) (fun _ hr => ?_)
 exact fin hr
 refine st ?_
 refine zk hr rfl qeK (qfl fuel _) (fun r9 h9 hr => ?_)
 refine st ?_
 refine zk hr rfl qeK (qfl fuel _) (fun r10 h10 hr => ?_)
 refine st ?_
 refine zt 39 rfl hr (fun _ hr => ?_) (fun _ hr => ?_)
 exact fin hr
 refine st ?_
 refine zi 42 rfl hr (fun _ hr => ?_) (fun _ hr => ?_)
 exact fin hr
 refine st ?_
 refine qD ?_
 refine st ?_
 refine zi 44 rfl hr (fun _ hr => ?_) (fun _ hr => ?_)
 refine st ?_
 refine zk hr rfl qbD (qbA _) (fun r14 h14 hr => ?_)
 exact fin hr
 refine st ?_
 refine zi 50 rfl hr (fun _ hr => ?_) (fun _ hr => ?_)
 refine st ?_
 refine zk hr rfl qbD (qbA _) (fun r16 h16 hr => ?_)
 exact fin hr
 refine st ?_
 refine zi 56 rfl hr (fun _ hr => ?_) (fun _ hr => ?_)
 refine st ?_
 refine zk hr rfl qbD (qbA _) (fun r18 h18 hr => ?_)
 exact fin hr
 refine st ?_
 refine zk hr rfl qbD (qbA _) (fun r19 h19 hr => ?_)
 exact fin hr
def qB (k : List qb → List Int → Int → Int → ByteArray → List Int → Option (Int × (List qb) × (List Int))) (rec : T → List qb → List Int → Option (Int × (List qb) × (List Int))) : List T → List qb → List Int → Int → Int → ByteArray → List Int → Option (Int × (List qb) × (List Int))
 | [], g10, g11, x12, x13, x14, x15 =>
 (k g10 g11 x12 x13 x14 x15)
 | q_29 :: rest, g10, g11, x12, x13, x14, x15 =>
 ((rec q_29 g10 g11).bind fun r31 =>
 ((zz 8 x15 [r31.1]).bind fun l32 =>
 (qB k rec rest r31.2.1 r31.2.2 x12 x13 x14 l32)))
def qu (k : Option (Int × (List qb) × (List Int))) (c_0_0 : List qb) (c_0_1 : List Int) (a1 : T) : List qb → Nat → Option (Int × (List qb) × (List Int))
 | [], i36 =>
 k
 | q_39 :: rest, i36 =>
 (bif (q_39.fa == (1 : Int)) then
 (bif (q_39.fe == a1.i) then
 some ((i36 : Int), c_0_0, c_0_1)
 else
 (qu k c_0_0 c_0_1 a1 rest (i36 + 1)))
 else
 (qu k c_0_0 c_0_1 a1 rest (i36 + 1)))
def qbQ (k : List qb → List Int → Option (Int × (List qb) × (List Int))) (c_0_0 : List qb) (c_0_1 : List Int) (a1 : T) : Option (Int × (List qb) × (List Int)) :=
 (bif (a1.k == (1 : Int)) then
 (qu ((k c_0_0 c_0_1)) c_0_0 c_0_1 a1 c_0_0 0)
 else
 (k c_0_0 c_0_1))
def qJ : Nat → T → List qb → List Int → Option (Int × (List qb) × (List Int))
 | 0, _, _, _ => none
 | fuel + 1, a1, c_0_0, c_0_1 =>
  (fun (rec : T → List qb → List Int → Option (Int × (List qb) × (List Int))) =>
   (qbQ (fun g3 g4 =>
   (qB (fun g18 g19 x21 x22 x23 x24 =>
   ((zz 56 g18 [(⟨x21, x22, x23, x24⟩ : qb)]).bind fun l25 =>
   ((zz 8 g19 [(wr ((l25.length : Int) - (1 : Int)))]).bind fun l27 =>
   some ((wr ((l25.length : Int) - (1 : Int))), l25, l27)))) rec a1.ar g3 g4 a1.k a1.i a1.s [])) c_0_0 c_0_1 a1)) (qJ fuel)
theorem qhs (fuel : Nat) (rec : T → List qb → List Int → Option (Int × (List qb) × (List Int))) (IHR : ∀ (a1 : T) (b : List qb) (e : List Int) (a : Nat) (g : Value) (h : Value) (c : Int × (List qb) × (List Int)), rec a1 b e = some c → Spec Tryz.prog 199 [.ref a 0 [], zl a1] [.cell a (.agg [.own g (b.map qa), .vec h e.length]), .row g b.length 259 4, .vec h (e.map (D.int .i64)) 3 1] (fun d σ => ∃ (u_o1' : Value) (u_o2' : Value), d = .int .i64 c.1 ∧ σ = [.cell a (.agg [.own u_o1' (c.2.1.map qa), .vec u_o2' c.2.2.length]), .row u_o1' c.2.1.length 259 4, .vec u_o2' (c.2.2.map (D.int .i64)) 3 1])) (a1 : T) (b : List qb) (e : List Int) (a : Nat) (g : Value) (h : Value) (c : Int × (List qb) × (List Int))
 (hr : (qbQ (fun g3 g4 =>
(qB (fun g18 g19 x21 x22 x23 x24 =>
((zz 56 g18 [(⟨x21, x22, x23, x24⟩ : qb)]).bind fun l25 =>
((zz 8 g19 [(wr ((l25.length : Int) - (1 : Int)))]).bind fun l27 =>
some ((wr ((l25.length : Int) - (1 : Int))), l25, l27)))) rec a1.ar g3 g4 a1.k a1.i a1.s [])) b e a1) = some c) : Spec Tryz.prog 199 [.ref a 0 [], zl a1] [.cell a (.agg [.own g (b.map qa), .vec h e.length]), .row g b.length 259 4, .vec h (e.map (D.int .i64)) 3 1] (fun d σ => ∃ (u_o1' : Value) (u_o2' : Value), d = .int .i64 c.1 ∧ σ = [.cell a (.agg [.own u_o1' (c.2.1.map qa), .vec u_o2' c.2.2.length]), .row u_o1' c.2.1.length 259 4, .vec u_o2' (c.2.2.map (D.int .i64)) 3 1]) := by
 refine qC Tryz.func199 rfl fun K E F => ?_
 refine st ?_
 refine rd rfl (qcA rfl rfl rfl) (qg 1 rfl (qax ?_))
 obtain ⟨kkJ0, hkkJ0, hr⟩ := exK (fun k => qbQ k b e a1) hr
 refine qpt (fun env σ => ∃ (g3 : List qb) (g4 : List Int) (u1 : Value) (u2 : Value), env = [(0, .ref a 0 []), (3, .ptr (zl a1))] ∧ σ = [.cell a (.agg [.own u1 (g3.map qa), .vec u2 g4.length]), .row u1 g3.length 259 4, .vec u2 (g4.map (D.int .i64)) 3 1] ∧ kkJ0 g3 g4 = some c) ?_ (fun HKJ0 => ?_)
 rintro _ _ ⟨g3, g4, u1, u2, rfl, rfl, hr⟩
 rw [hkkJ0] at hr
 refine qaC (qoG 3 1 (zf 9 81920 (rd rfl (qH rfl qcn rfl (qfJ _) (qfM _) rfl) (qg 1 rfl (rd rfl (qH rfl qcP rfl (qgx _) (qge _) rfl) (qg 1 rfl (rd rfl (qH rfl qfO rfl (qly _) (qlO _) rfl) (qg 1 rfl (rd rfl (qbz rfl qkr (.oc rfl (.oc rfl (.oc rfl .nil))) (.cons rfl rfl rfl (.cons rfl rfl rfl (.cons rfl rfl rfl (.nil _))))) (ew rfl (qbi rfl qic) ?_))))))))))
 rintro _ _ ⟨b6_4, rfl, rfl⟩
 refine qcw rfl (pf0 _) ?_
 refine st ?_
 obtain ⟨o, q, hr⟩ := exK (fun k => qB k rec a1.ar g3 g4 a1.k a1.i a1.s []) hr
 refine qpE 3 [3] (l := a1.ar.map zl) rfl (subT3 _) (asl rfl) fun r => ?_
 simp only [jd] at r
 refine qz (fun env σ => ∃ (g18 : List qb) (g19 : List Int) (x21 : Int) (x22 : Int) (x23 : ByteArray) (x24 : List Int) (u16 : Value) (u17 : Value) (u20 : Value), env = [(0, .ref a 0 []), (6, .ref b6_4 0 [])] ∧ σ = [.cell a (.agg [.own u16 (g18.map qa), .vec u17 g19.length]), .row u16 g18.length 259 4, .vec u17 (g19.map (D.int .i64)) 3 1, .cell b6_4 (.agg [.int .i64 x21, .int .i64 x22, .str x23, .own u20 (x24.map (D.int .i64))]), .row u20 x24.length 3 1] ∧ o g18 g19 x21 x22 x23 x24 = some c) ?_ (fun G => ?_)
 rintro _ _ ⟨g18, g19, x21, x22, x23, x24, u16, u17, u20, rfl, rfl, hr⟩
 rw [q] at hr
 refine qaC (qea 11 1067520 (qg 2 rfl (rd rfl (qS rfl rfl) (rd rfl (qh rfl qm rfl) (qb4 0 rfl (qb4 3 rfl (rd rfl (qe2 (f := qa) [.tmp 74] [(⟨x21, x22, x23, x24⟩ : qb)] rfl qfV rfl rfl od od (.cons rfl (Wk.agg (.cons (Wk.refl _) (.cons (Wk.refl _) (.cons (Wk.refl _) (.cons (Wk.own _ _) .nil))))) .nil) qej (fun _ => rfl)) ?_)))))))
 obtain ⟨l25, h25, hr⟩ := zb hr
 refine ew rfl (qau (f := qa) g18 [(⟨x21, x22, x23, x24⟩ : qb)] rfl qfV rfl rfl (asl rfl) (pf1 _ _ _) rfl qej h25) ?_
 rintro _ _ ⟨u76_25, rfl, rfl⟩
 refine rd rfl (qS rfl rfl) (rd rfl (qh rfl qm rfl) (z8 rfl (qds _ rfl rfl rfl (Wk.refl _) (pf1 _ _ _) rfl rfl (by exact qhm) rfl rfl rfl) ?_))
 refine st ?_
 refine qea 16 1090650624 (qg 2 rfl (rd rfl (qS rfl rfl) (rd rfl (qh rfl qV rfl) (qb4 0 rfl (qg 1 rfl (rd rfl (qS rfl rfl) (rd rfl (qh rfl qm rfl) (qb4 0 rfl (qjP rfl (rd rfl (qe4 rfl rfl rfl rfl) (rd rfl (qe2 (f := (D.int .i64)) [.tmp 89] [(wr ((l25.length : Int) - (1 : Int)))] rfl qcO rfl rfl od od (.oc rfl .nil) (fun _ => rfl) (fun _ => rfl)) ?_)))))))))))
 obtain ⟨l27, h27, hr⟩ := zb hr
 refine ew rfl (qAV (f := (D.int .i64)) g19 [(wr ((l25.length : Int) - (1 : Int)))] rfl qcO rfl rfl (asl rfl) (pf2 _ _ _ _) (fun _ => rfl) h27) ?_
 rintro _ _ ⟨u91_27, rfl, rfl⟩
 refine rd rfl (qS rfl rfl) (rd rfl (qh rfl qV rfl) (z8 rfl (qds _ rfl rfl rfl (Wk.refl _) (pf1 _ _ _) rfl rfl (by exact qnq) rfl rfl rfl) ?_))
 refine st0 ?_
 refine zf 7 128 (qg 1 rfl (rd rfl (qS rfl rfl) (rd rfl (qh rfl qm rfl) (qb4 0 rfl (qjP rfl (rd rfl (qe4 rfl rfl rfl rfl) (qg 1 rfl (qax (qcz [_, _, _] _ (pS [1, 2, 2] _) ?_)))))))))
 cases hr
 refine qiP Tryz.func199 rfl ?_
 exact ⟨u76_25, u91_27, rfl, rfl⟩
 refine qbc [0, 3, 6, 7] rfl (qcz [_, _, _, _, _] _ (pS [1, 1, 4, 4, 4] _) (qal (fun n env σ => ∃ (i9 : Nat) (g10 : List qb) (g11 : List Int) (x12 : Int) (x13 : Int) (x14 : ByteArray) (x15 : List Int) (u6 : Value) (u7 : Value) (u8 : Value), n = a1.ar.length - i9 ∧ (env = [(0, .ref a 0 []), (3, .ptr (zl a1)), (6, .ref b6_4 0 []), (7, .int .i64 (i9 : Int))]) ∧ (σ = [.cell a (.agg [.own u6 (g10.map qa), .vec u7 g11.length]), .row u6 g10.length 259 4, .vec u7 (g11.map (D.int .i64)) 3 1, .cell b6_4 (.agg [.int .i64 x12, .int .i64 x13, .str x14, .own u8 (x15.map (D.int .i64))]), .row u8 x15.length 3 1]) ∧ (i9 ≤ a1.ar.length) ∧ (qB o rec (a1.ar.drop i9) g10 g11 x12 x13 x14 x15 = some c)) _ ⟨0, g3, g4, a1.k, a1.i, a1.s, [], u1, u2, (.slice none 0 0 ), rfl, rfl, rfl, jf _, hr⟩ ?_))
 rintro n _ _ ⟨i9, g10, g11, x12, x13, x14, x15, u6, u7, u8, rfl, rfl, rfl, t, hr⟩ u
 rcases zd a1.ar i9 t with ⟨v, j, H⟩ | ⟨q_29, v, j, y, I⟩
 rw [j, qB] at hr
 refine st ?_
 refine rd rfl (qH rfl qcB rfl (qg2 _) (qg7 _) rfl) ?_
 exact fin hr
 rw [j, qB] at hr
 refine st ?_
 refine rd rfl (qH rfl qcB rfl (qg2 _) (qg7 _) rfl) ?_
 refine st ?_
 refine qD ?_
 obtain ⟨r31, h31, hr⟩ := zb hr
 obtain ⟨l32, h32, hr⟩ := zb hr
 refine qBH ob ob [(0, .d), (2, .d), (3, .d), (4, .d), (5, .d), (6, .d), (7, .d)] [(1, .x), (8, .w), (9, .d), (10, .w), (11, .d), (12, .w)] [(8, .x), (9, .d), (1, .w), (10, .w), (11, .d), (12, .w)] ob (fun env σ => ∃ (u67_r11_29 : Value) (u65_r11_29_1 : Value) (u65_r11_29_2 : Value), Sub [(0, .ref a 0 []), (3, .ptr (zl a1)), (6, .ref b6_4 0 []), (7, .int .i64 (i9 : Int))] env ∧ σ.Perm [.cell b6_4 (.agg [.int .i64 x12, .int .i64 x13, .str x14, .own u67_r11_29 (l32.map (D.int .i64))]), .row u67_r11_29 l32.length 3 1, .cell a (.agg [.own u65_r11_29_1 (r31.2.1.map qa), .vec u65_r11_29_2 r31.2.2.length]), .row u65_r11_29_1 r31.2.1.length 259 4, .vec u65_r11_29_2 (r31.2.2.map (D.int .i64)) 3 1]) ?_ ?_
 refine rd rfl (qh rfl qeW rfl) (qg 1 rfl (rd rfl (qH rfl qcB rfl (qg2 _) (qg7 _) rfl) (qg 2 rfl (qop y rfl (qg 1 rfl ?_)))))
 refine qax ⟨?_, ?_⟩
 refine r_xr rfl rfl rfl (qd6 rfl rfl (.tail _ (.tail _ (.tail _ (.head _)))) rfl rfl (by exact qnq) rfl) (ew rfl (qiL _ rfl qd4 (.oc rfl (.oc rfl .nil)) (by exact (pf0 _)) (IHR _ _ _ _ _ _ _ h31)) ?_)
 rintro _ _ ⟨_, ⟨u65_r11_29_1, u65_r11_29_2, rfl, rfl⟩, rfl⟩
 refine zav ((.cell a (.agg [.own u65_r11_29_1 (r31.2.1.map qa), .vec u65_r11_29_2 r31.2.2.length])) :: (.row u65_r11_29_1 r31.2.1.length 259 4) :: (.vec u65_r11_29_2 (r31.2.2.map (D.int .i64)) 3 1) :: _) rfl (rd rfl (qe2 (f := (D.int .i64)) [.tmp 65] [r31.1] rfl qcO rfl rfl od od (.oc rfl .nil) (fun _ => rfl) (fun _ => rfl)) (ew rfl (qau (f := (D.int .i64)) x15 [r31.1] rfl qcO rfl rfl (asl rfl) (pf4 _ _ _ _ _ _) rfl (fun _ => rfl) h32) ?_))
 rintro _ _ ⟨u67_r11_29, rfl, rfl⟩
 refine rd rfl (qh rfl qeW rfl) (z8 rfl (qds _ rfl rfl rfl (Wk.refl _) (pf4 _ _ _ _ _ _) rfl rfl (by exact qnq) rfl rfl rfl) (qax ?_))
 exact ⟨u67_r11_29, u65_r11_29_1, u65_r11_29_2, (sbr rfl), (pf0 _)⟩
 refine r_x rfl rfl rfl (qiL _ rfl qd4 (.oc rfl (.oc rfl .nil)) (by exact (pf0 _)) (IHR _ _ _ _ _ _ _ h31)) ?_
 rintro _ _ ⟨_, ⟨u65_r11_29_1, u65_r11_29_2, rfl, rfl⟩, rfl⟩
 refine zav ((.cell a (.agg [.own u65_r11_29_1 (r31.2.1.map qa), .vec u65_r11_29_2 r31.2.2.length])) :: (.row u65_r11_29_1 r31.2.1.length 259 4) :: (.vec u65_r11_29_2 (r31.2.2.map (D.int .i64)) 3 1) :: _) rfl (rd rfl (qe2 (f := (D.int .i64)) [.tmp 65] [r31.1] rfl qcO rfl rfl od od (.oc rfl .nil) (fun _ => rfl) (fun _ => rfl)) (zbk 3 rfl (ew rfl (qau (f := (D.int .i64)) x15 [r31.1] rfl qcO rfl rfl (asl rfl) (pf4 _ _ _ _ _ _) rfl (fun _ => rfl) h32) ?_)))
 rintro _ _ ⟨u67_r11_29, rfl, rfl⟩
 refine rd rfl (qh rfl qeW rfl) (z8 rfl (qds _ rfl rfl rfl (Wk.refl _) (pf4 _ _ _ _ _ _) rfl rfl (by exact qnq) rfl rfl rfl) (qax ?_))
 exact ⟨u67_r11_29, u65_r11_29_1, u65_r11_29_2, (sbr rfl), (pf0 _)⟩
 rintro _ _ ⟨u67_r11_29, u65_r11_29_1, u65_r11_29_2, hs, hp⟩
 refine qn6 hs hp (qfa (zf 3 0 (qg 1 rfl (qqp rfl (qg 1 rfl (qax (qbc [0, 3, 6, 7] rfl (qcz [_, _, _, _, _] _ (pS [1, 1, 4, 4, 4] _) ?_))))))))
 exact u _ _ _ oa ⟨(i9 + 1), r31.2.1, r31.2.2, x12, x13, x14, l32, u65_r11_29_1, u65_r11_29_2, u67_r11_29, rfl, rfl, rfl, oa, hr⟩
 unfold qbQ at hr
 refine st ?_
 refine rd rfl (qH rfl qcn rfl (qfJ _) (qfM _) rfl) ?_
 refine st ?_
 refine zi 10 rfl hr (fun _ hr => ?_) (fun _ hr => ?_)
 refine st ?_
 obtain ⟨p, z, hr⟩ := exK (fun k => qu k b e a1 b 0) hr
 refine qvG [0] (l := b.map qa) (.head _) (by first | rfl | simp [yX, qeS]) (asl rfl) fun A => ?_
 simp only [jd] at A
 refine qz (fun env σ => ∃ (u37 : Value) (u38 : Value), env = [(0, .ref a 0 []), (3, .ptr (zl a1))] ∧ σ = [.cell a (.agg [.own u37 (b.map qa), .vec u38 e.length]), .row u37 b.length 259 4, .vec u38 (e.map (D.int .i64)) 3 1] ∧ p = some c) ?_ (fun J => ?_)
 rintro _ _ ⟨u37, u38, rfl, rfl, hr⟩
 rw [z] at hr
 exact fin hr
 refine qbc [0, 3, 5] rfl (qal (fun n env σ => ∃ (i36 : Nat) (u34 : Value) (u35 : Value), n = b.length - i36 ∧ (env = [(0, .ref a 0 []), (3, .ptr (zl a1)), (5, .int .i64 (i36 : Int))]) ∧ (σ = [.cell a (.agg [.own u34 (b.map qa), .vec u35 e.length]), .row u34 b.length 259 4, .vec u35 (e.map (D.int .i64)) 3 1]) ∧ (i36 ≤ b.length) ∧ (qu p b e a1 (b.drop i36) i36 = some c)) _ ⟨0, g, h, rfl, rfl, rfl, jf _, hr⟩ ?_)
 rintro n _ _ ⟨i36, u34, u35, rfl, rfl, rfl, B, hr⟩ L
 rcases zd b i36 B with ⟨C, m, M⟩ | ⟨q_39, C, m, N, O⟩
 rw [m, qu] at hr
 refine st0 ?_
 refine zf 7 512 (qg 2 rfl (rd rfl (qS rfl rfl) (rd rfl (qh rfl qm rfl) (qb4 0 rfl ?_))))
 exact fin hr
 rw [m, qu] at hr
 refine st0 ?_
 refine zf 7 512 (qg 2 rfl (rd rfl (qS rfl rfl) (rd rfl (qh rfl qm rfl) (qb4 0 rfl ?_))))
 refine st ?_
 refine qD (qaC (qea 22 134217856 (qg 1 rfl (rd rfl (qS rfl rfl) (rd rfl (qh rfl qm rfl) (qb4 0 rfl ?_))))))
 refine st ?_
 refine zt 29 rfl hr (fun _ hr => ?_) (fun _ hr => ?_)
 refine qg 1 rfl (rd rfl (qS rfl rfl) (rd rfl (qh rfl qm rfl) (qb4 0 rfl ?_)))
 refine st ?_
 refine rd rfl (qH rfl qcP rfl (qgx _) (qge _) rfl) ?_
 refine st ?_
 refine zi 41 rfl hr (fun _ hr => ?_) (fun _ hr => ?_)
 refine st ?_
 cases hr
 refine qiP Tryz.func199 rfl ?_
 exact ⟨u34, u35, rfl, rfl⟩
 exact fin hr
 exact fin hr
 exact fin hr
theorem qeA : ∀ (fuel : Nat) (a1 : T) (c_0_0 : List qb) (c_0_1 : List Int) (b_o0 : Nat) (u_o1 : Value) (u_o2 : Value) (res : Int × (List qb) × (List Int)), qJ fuel a1 c_0_0 c_0_1 = some res → Spec Tryz.prog 199 [.ref b_o0 0 [], zl a1] [.cell b_o0 (.agg [.own u_o1 (c_0_0.map qa), .vec u_o2 c_0_1.length]), .row u_o1 c_0_0.length 259 4, .vec u_o2 (c_0_1.map (D.int .i64)) 3 1] (fun d σ => ∃ (u_o1' : Value) (u_o2' : Value), d = .int .i64 res.1 ∧ σ = [.cell b_o0 (.agg [.own u_o1' (res.2.1.map qa), .vec u_o2' res.2.2.length]), .row u_o1' res.2.1.length 259 4, .vec u_o2' (res.2.2.map (D.int .i64)) 3 1])
 | 0, _, _, _, _, _, _, _, h => by cases h
 | fuel + 1, a1, c_0_0, c_0_1, b_o0, u_o1, u_o2, res, h => qhs fuel (qJ fuel) (qeA fuel) a1 c_0_0 c_0_1 b_o0 u_o1 u_o2 res h
def qG (k : Option Int) (c_0_1 : List Int) (a1 : Int) : List qb → Nat → Option Int
 | [], i1 =>
 k
 | q_2 :: rest, i1 =>
 ((zh c_0_1 (i1 : Int)).bind fun q_3 =>
 (bif (q_3 == a1) then
 (bif (q_2.fa != (1 : Int)) then
 some ((i1 : Int))
 else
 (qG k c_0_1 a1 rest (i1 + 1)))
 else
 (qG k c_0_1 a1 rest (i1 + 1))))
def qy (a1 : Int) (c_0_0 : List qb) (c_0_1 : List Int) : Option Int :=
 (qG (some ((-1))) c_0_1 a1 c_0_0 0)
theorem qcH (a1 : Int) (a : List qb) (b : List Int) (g : Nat) (c : Value) (e : Value) (h : Int) (hr : qy a1 a b = some h) : Spec Tryz.prog 202 [.ref g 0 [], .int .i64 a1] [.cell g (.agg [.own c (a.map qa), .vec e b.length]), .row c a.length 259 4, .vec e (b.map (D.int .i64)) 3 1] (fun d σ => d = .int .i64 h ∧ σ = [.cell g (.agg [.own c (a.map qa), .vec e b.length]), .row c a.length 259 4, .vec e (b.map (D.int .i64)) 3 1]) := by
 unfold qy at hr
 refine qC Tryz.func202 rfl fun K r s => ?_
 refine st ?_
 obtain ⟨j, m, hr⟩ := exK (fun k => qG k b a1 a 0) hr
 refine qvG [0] (l := a.map qa) (.head _) (by first | rfl | simp [yX, qeS]) (asl rfl) fun o => ?_
 simp only [jd] at o
 refine qz (fun env σ => env = [] ∧ σ = [.cell g (.agg [.own c (a.map qa), .vec e b.length]), .row c a.length 259 4, .vec e (b.map (D.int .i64)) 3 1] ∧ j = some h) ?_ (fun t => ?_)
 rintro _ _ ⟨rfl, rfl, hr⟩
 rw [m] at hr
 refine st ?_
 cases hr
 refine qiP Tryz.func202 rfl ?_
 exact ⟨rfl, rfl⟩
 refine qbc [0, 1, 5] rfl (qal (fun n env σ => ∃ (i1 : Nat), n = a.length - i1 ∧ (env = [(0, .ref g 0 []), (1, .int .i64 a1), (5, .int .i64 (i1 : Int))]) ∧ (σ = [.cell g (.agg [.own c (a.map qa), .vec e b.length]), .row c a.length 259 4, .vec e (b.map (D.int .i64)) 3 1]) ∧ (i1 ≤ a.length) ∧ (qG j b a1 (a.drop i1) i1 = some h)) _ ⟨0, rfl, rfl, rfl, jf _, hr⟩ ?_)
 rintro n _ _ ⟨i1, rfl, rfl, rfl, p, hr⟩ u
 rcases zd a i1 p with ⟨q, i, v⟩ | ⟨q_2, q, i, w, x⟩
 rw [i, qG] at hr
 refine st0 ?_
 refine zf 7 512 (qg 2 rfl (rd rfl (qS rfl rfl) (rd rfl (qh rfl qm rfl) (qb4 0 rfl ?_))))
 exact fin hr
 rw [i, qG] at hr
 refine st0 ?_
 refine zf 7 512 (qg 2 rfl (rd rfl (qS rfl rfl) (rd rfl (qh rfl qm rfl) (qb4 0 rfl ?_))))
 refine st ?_
 refine qD (qaC (zf 20 134228096 (qg 1 rfl (rd rfl (qS rfl rfl) (rd rfl (qh rfl qV rfl) (qb4 0 rfl (qg 1 rfl ?_)))))))
 obtain ⟨q_3, h3, hr⟩ := zb hr
 have hq_3_n := (qb3 h3).2
 refine er rfl (qfH (f := (D.int .i64)) b rfl qcO rfl rfl h3 (.tail _ (.tail _ (.head _)))) (er rfl (qjG rfl rfl (.tail _ (.tail _ (.head _))) (zaI hq_3_n) rfl rfl (by exact qfp) rfl) (qg 3 rfl ?_))
 refine zt 24 rfl hr (fun _ hr => ?_) (fun _ hr => ?_)
 refine qg 1 rfl (rd rfl (qS rfl rfl) (rd rfl (qh rfl qm rfl) (qb4 0 rfl ?_)))
 refine st ?_
 refine zi 34 rfl hr (fun _ hr => ?_) (fun _ hr => ?_)
 refine st ?_
 cases hr
 refine qiP Tryz.func202 rfl ?_
 exact ⟨rfl, rfl⟩
 exact fin hr
 exact fin hr
def qK (k : List qb → List Int → Option (Bool × (List qb) × (List Int))) (rec : Int → Int → List qb → List Int → Option (Bool × (List qb) × (List Int))) (q_19 : qb) : List Int → Nat → List qb → List Int → Option (Bool × (List qb) × (List Int))
 | [], i26, g27, g28 =>
 (k g27 g28)
 | q_33 :: rest, i26, g27, g28 =>
 ((zh q_19.ff (i26 : Int)).bind fun q34 =>
 ((rec q_33 q34 g27 g28).bind fun r35 =>
 (bif (!r35.1) then
 some (false, r35.2.1, r35.2.2)
 else
 (qK k rec q_19 rest (i26 + 1) r35.2.1 r35.2.2))))
def qQ (k : List qb → List Int → Option (Bool × (List qb) × (List Int))) (q1 : Int) (q_2 : Int) : Nat → Int → List qb → List Int → Option (Bool × (List qb) × (List Int))
 | 0, i8, g9, g10 =>
 none
 | rest + 1, i8, g9, g10 =>
 (bif (decide (i8 < (g10.length : Int))) then
 ((zh g10 i8).bind fun q40 =>
 (bif (q40 == q_2) then
 (qQ k q1 q_2 rest (wr (i8 + (1 : Int))) g9 (g10.set i8.toNat q1))
 else
 (qQ k q1 q_2 rest (wr (i8 + (1 : Int))) g9 g10)))
 else
 (k g9 g10))
def qab : Nat → Int → Int → List qb → List Int → Option (Bool × (List qb) × (List Int))
 | 0, _, _, _, _ => none
 | fuel + 1, a1, a2, c_0_0, c_0_1 =>
  (fun (rec : Int → Int → List qb → List Int → Option (Bool × (List qb) × (List Int))) =>
   ((zh c_0_1 a1).bind fun q1 =>
   ((zh c_0_1 a2).bind fun q_2 =>
   (bif (q1 == q_2) then
   some (true, c_0_0, c_0_1)
   else
   ((qy q1 c_0_0 c_0_1).bind fun r4 =>
   ((qy q_2 c_0_0 c_0_1).bind fun r5 =>
   (qQ (fun g13 g14 =>
   (bif (decide (r4 < (0 : Int))) then
   some (true, g13, g14)
   else
   (bif (decide (r5 < (0 : Int))) then
   some (true, g13, g14)
   else
   ((zh g13 r4).bind fun q_18 =>
   ((zh g13 r5).bind fun q_19 =>
   (bif (q_18.fa != q_19.fa) then
   some (false, g13, g14)
   else
   (bif (q_18.fe != q_19.fe) then
   some (false, g13, g14)
   else
   (bif (!(q_18.fE.toList == q_19.fE.toList)) then
   some (false, g13, g14)
   else
   (bif ((q_18.ff.length : Int) != (q_19.ff.length : Int)) then
   some (false, g13, g14)
   else
   (qK (fun g31 g32 =>
   some (true, g31, g32)) rec q_19 q_18.ff 0 g13 g14)))))))))) q1 q_2 fuel 0 c_0_0 c_0_1))))))) (qab fuel)
theorem qhU (fuel : Nat) (rec : Int → Int → List qb → List Int → Option (Bool × (List qb) × (List Int))) (IHR : ∀ (a1 : Int) (a2 : Int) (g : List qb) (e : List Int) (a : Nat) (h : Value) (i : Value) (c : Bool × (List qb) × (List Int)), rec a1 a2 g e = some c → Spec Tryz.prog 200 [.ref a 0 [], .int .i64 a1, .int .i64 a2] [.cell a (.agg [.own h (g.map qa), .vec i e.length]), .row h g.length 259 4, .vec i (e.map (D.int .i64)) 3 1] (fun d σ => ∃ (u_o1' : Value) (u_o2' : Value), d = .bool c.1 ∧ σ = [.cell a (.agg [.own u_o1' (c.2.1.map qa), .vec u_o2' c.2.2.length]), .row u_o1' c.2.1.length 259 4, .vec u_o2' (c.2.2.map (D.int .i64)) 3 1])) (a1 : Int) (a2 : Int) (g : List qb) (e : List Int) (a : Nat) (h : Value) (i : Value) (c : Bool × (List qb) × (List Int))
 (hr : ((zh e a1).bind fun q1 =>
((zh e a2).bind fun q_2 =>
(bif (q1 == q_2) then
some (true, g, e)
else
((qy q1 g e).bind fun r4 =>
((qy q_2 g e).bind fun r5 =>
(qQ (fun g13 g14 =>
(bif (decide (r4 < (0 : Int))) then
some (true, g13, g14)
else
(bif (decide (r5 < (0 : Int))) then
some (true, g13, g14)
else
((zh g13 r4).bind fun q_18 =>
((zh g13 r5).bind fun q_19 =>
(bif (q_18.fa != q_19.fa) then
some (false, g13, g14)
else
(bif (q_18.fe != q_19.fe) then
some (false, g13, g14)
else
(bif (!(q_18.fE.toList == q_19.fE.toList)) then
some (false, g13, g14)
else
(bif ((q_18.ff.length : Int) != (q_19.ff.length : Int)) then
some (false, g13, g14)
else
(qK (fun g31 g32 =>
some (true, g31, g32)) rec q_19 q_18.ff 0 g13 g14)))))))))) q1 q_2 fuel 0 g e)))))) = some c) : Spec Tryz.prog 200 [.ref a 0 [], .int .i64 a1, .int .i64 a2] [.cell a (.agg [.own h (g.map qa), .vec i e.length]), .row h g.length 259 4, .vec i (e.map (D.int .i64)) 3 1] (fun d σ => ∃ (u_o1' : Value) (u_o2' : Value), d = .bool c.1 ∧ σ = [.cell a (.agg [.own u_o1' (c.2.1.map qa), .vec u_o2' c.2.2.length]), .row u_o1' c.2.1.length 259 4, .vec u_o2' (c.2.2.map (D.int .i64)) 3 1]) := by
 refine qC Tryz.func200 rfl fun K u v => ?_
 refine st ?_
 refine qea 16 169879680 (qg 1 rfl (rd rfl (qS rfl rfl) (rd rfl (qh rfl qV rfl) (qb4 0 rfl (qg 1 rfl ?_)))))
 obtain ⟨q1, h1, hr⟩ := zb hr
 have hq_1_n := (qb3 h1).2
 refine er rfl (qfH (f := (D.int .i64)) e rfl qcO rfl rfl h1 (.tail _ (.tail _ (.head _)))) (er rfl (qjG rfl rfl (.tail _ (.tail _ (.head _))) (zaI hq_1_n) rfl rfl (by exact qfp) rfl) (qg 1 rfl (rd rfl (qS rfl rfl) (rd rfl (qh rfl qV rfl) (qb4 0 rfl (qg 1 rfl ?_))))))
 obtain ⟨q_2, h2, hr⟩ := zb hr
 have hq_2_n := (qb3 h2).2
 refine er rfl (qfH (f := (D.int .i64)) e rfl qcO rfl rfl h2 (.tail _ (.tail _ (.head _)))) (er rfl (qjG rfl rfl (.tail _ (.tail _ (.head _))) (zaI hq_2_n) rfl rfl (by exact qfp) rfl) ?_)
 refine st ?_
 refine zi 31 rfl hr (fun _ hr => ?_) (fun _ hr => ?_)
 refine st ?_
 cases hr
 refine qiP Tryz.func200 rfl ?_
 exact ⟨h, i, rfl, rfl⟩
 ·
  refine st0 ?_
  refine zf 8 2080 (qg 2 rfl ?_)
  obtain ⟨r4, h4, hr⟩ := zb hr
  refine er rfl (qis _ rfl qc7 (.oc rfl (.oc rfl .nil)) (by exact (pf0 _)) (qcH _ _ _ _ _ _ _ h4)) ?_
  refine qg 2 rfl ?_
  obtain ⟨r5, h5, hr⟩ := zb hr
  refine er rfl (qis _ rfl qc7 (.oc rfl (.oc rfl .nil)) (by exact (pf0 _)) (qcH _ _ _ _ _ _ _ h5)) ?_
  refine st ?_
  obtain ⟨l, o, hr⟩ := exK (fun k => qQ k q1 q_2 fuel 0 g e) hr
  refine qz (fun env σ => ∃ (g13 : List qb) (g14 : List Int) (u11 : Value) (u12 : Value), env = [(0, .ref a 0 []), (9, .int .i64 r4), (10, .int .i64 r5)] ∧ σ = [.cell a (.agg [.own u11 (g13.map qa), .vec u12 g14.length]), .row u11 g13.length 259 4, .vec u12 (g14.map (D.int .i64)) 3 1] ∧ l g13 g14 = some c) ?_ (fun w => ?_)
  ·
   rintro _ _ ⟨g13, g14, u11, u12, rfl, rfl, hr⟩
   rw [o] at hr
   refine st ?_
   refine zt 65 rfl hr (fun _ hr => ?_) (fun _ hr => ?_)
   ·
    refine st ?_
    cases hr
    refine qiP Tryz.func200 rfl ?_
    exact ⟨u11, u12, rfl, rfl⟩
   ·
    refine st ?_
    refine zi 68 rfl hr (fun _ hr => ?_) (fun _ hr => ?_)
    ·
     refine st ?_
     cases hr
     refine qiP Tryz.func200 rfl ?_
     exact ⟨u11, u12, rfl, rfl⟩
    ·
     refine st ?_
     obtain ⟨q_18, h18, hr⟩ := zb hr
     obtain ⟨q_19, h19, hr⟩ := zb hr
     refine qtm ob ob [(0, .d), (1, .d), (2, .d), (4, .d), (7, .d), (8, .d), (9, .d), (11, .d)] (.cons 3 [(5, .d), (6, .d)] (.cons 10 [(12, .d), (13, .d)] (.cons 14 [] (.cons 15 [] (.cons 16 [] (.cons 17 [] .nil .nil) .nil) .nil) (.cons 15 [] (.cons 14 [] (.cons 16 [] (.cons 17 [] .nil .nil) .nil) .nil) .nil)) (.cons 14 [] (.cons 10 [(12, .d), (13, .d)] (.cons 15 [] (.cons 16 [] (.cons 17 [] .nil .nil) .nil) .nil) (.cons 15 [] (.cons 10 [(12, .d), (13, .d)] (.cons 16 [] (.cons 17 [] .nil .nil) .nil) (.cons 16 [] (.cons 10 [(12, .d), (13, .d)] (.cons 17 [] .nil .nil) .nil) .nil)) .nil)) (.cons 15 [] (.cons 10 [(12, .d), (13, .d)] (.cons 14 [] (.cons 16 [] (.cons 17 [] .nil .nil) .nil) .nil) (.cons 14 [] (.cons 10 [(12, .d), (13, .d)] (.cons 16 [] (.cons 17 [] .nil .nil) .nil) (.cons 16 [] (.cons 10 [(12, .d), (13, .d)] (.cons 17 [] .nil .nil) .nil) .nil)) .nil)) .nil))) (.cons 10 [(12, .d), (13, .d)] (.cons 3 [(5, .d), (6, .d)] (.cons 14 [] (.cons 15 [] (.cons 16 [] (.cons 17 [] .nil .nil) .nil) .nil) (.cons 15 [] (.cons 14 [] (.cons 16 [] (.cons 17 [] .nil .nil) .nil) .nil) .nil)) (.cons 14 [] (.cons 3 [(5, .d), (6, .d)] (.cons 15 [] (.cons 16 [] (.cons 17 [] .nil .nil) .nil) .nil) (.cons 15 [] (.cons 3 [(5, .d), (6, .d)] (.cons 16 [] (.cons 17 [] .nil .nil) .nil) .nil) .nil)) (.cons 15 [] (.cons 3 [(5, .d), (6, .d)] (.cons 14 [] (.cons 16 [] (.cons 17 [] .nil .nil) .nil) .nil) (.cons 14 [] (.cons 3 [(5, .d), (6, .d)] (.cons 16 [] (.cons 17 [] .nil .nil) .nil) .nil) .nil)) .nil))) (.cons 14 [] (.cons 3 [(5, .d), (6, .d)] (.cons 10 [(12, .d), (13, .d)] (.cons 15 [] (.cons 16 [] (.cons 17 [] .nil .nil) .nil) .nil) (.cons 15 [] (.cons 10 [(12, .d), (13, .d)] (.cons 16 [] (.cons 17 [] .nil .nil) .nil) (.cons 16 [] (.cons 10 [(12, .d), (13, .d)] (.cons 17 [] .nil .nil) .nil) .nil)) .nil)) (.cons 10 [(12, .d), (13, .d)] (.cons 3 [(5, .d), (6, .d)] (.cons 15 [] (.cons 16 [] (.cons 17 [] .nil .nil) .nil) .nil) (.cons 15 [] (.cons 3 [(5, .d), (6, .d)] (.cons 16 [] (.cons 17 [] .nil .nil) .nil) .nil) .nil)) (.cons 15 [] (.cons 3 [(5, .d), (6, .d)] (.cons 10 [(12, .d), (13, .d)] (.cons 16 [] (.cons 17 [] .nil .nil) .nil) (.cons 16 [] (.cons 10 [(12, .d), (13, .d)] (.cons 17 [] .nil .nil) .nil) .nil)) (.cons 10 [(12, .d), (13, .d)] (.cons 3 [(5, .d), (6, .d)] (.cons 16 [] (.cons 17 [] .nil .nil) .nil) .nil) .nil)) .nil))) (.cons 15 [] (.cons 3 [(5, .d), (6, .d)] (.cons 10 [(12, .d), (13, .d)] (.cons 14 [] (.cons 16 [] (.cons 17 [] .nil .nil) .nil) .nil) (.cons 14 [] (.cons 10 [(12, .d), (13, .d)] (.cons 16 [] (.cons 17 [] .nil .nil) .nil) (.cons 16 [] (.cons 10 [(12, .d), (13, .d)] (.cons 17 [] .nil .nil) .nil) .nil)) .nil)) (.cons 10 [(12, .d), (13, .d)] (.cons 3 [(5, .d), (6, .d)] (.cons 14 [] (.cons 16 [] (.cons 17 [] .nil .nil) .nil) .nil) (.cons 14 [] (.cons 3 [(5, .d), (6, .d)] (.cons 16 [] (.cons 17 [] .nil .nil) .nil) .nil) .nil)) (.cons 14 [] (.cons 3 [(5, .d), (6, .d)] (.cons 10 [(12, .d), (13, .d)] (.cons 16 [] (.cons 17 [] .nil .nil) .nil) (.cons 16 [] (.cons 10 [(12, .d), (13, .d)] (.cons 17 [] .nil .nil) .nil) .nil)) (.cons 10 [(12, .d), (13, .d)] (.cons 3 [(5, .d), (6, .d)] (.cons 16 [] (.cons 17 [] .nil .nil) .nil) .nil) .nil)) .nil))) .nil)))) ob (fun env σ => ∃ (b13_r12_16 : Nat) (b12_r12_16 : Nat), Sub [(0, .ref a 0 []), (12, .ref b12_r12_16 0 []), (13, .ref b13_r12_16 0 [])] env ∧ σ.Perm [.cell b13_r12_16 (qa q_19), .cell b12_r12_16 (qa q_18), .cell a (.agg [.own u11 (g13.map qa), .vec u12 g14.length]), .row u11 g13.length 259 4, .vec u12 (g14.map (D.int .i64)) 3 1]) ?_ ?_
     ·
      repeat' (first | exact p_no | refine qye ?_ ?_ | refine qax ?_ | refine qg 1 rfl ?_ | refine rd rfl (qS rfl rfl) ?_ | refine rd rfl (qh rfl qm rfl) ?_ | refine zbk 0 rfl ?_ | refine qop h18 rfl ?_ | refine qop h19 rfl ?_ | (refine ew rfl (qbi rfl qic) ?_; rintro _ _ ⟨b, rfl, rfl⟩) | refine qcw rfl (pf1 _ _ _) ?_ | refine qcw rfl (pf0 _) ?_ | refine zbk 1 rfl ?_ | refine zbk 2 rfl ?_ | (refine qzf ?_; exact ⟨_, _, sbr rfl, pkz⟩))
     ·
      rintro _ _ ⟨b13_r12_16, b12_r12_16, hs, hp⟩
      refine qn6 hs hp (qbR 12 b12_r12_16 rfl (pf1 _ _ _) (qbR 13 b13_r12_16 rfl (pf0 _) ?_))
      refine st ?_
      refine zt 88 rfl hr (fun _ hr => ?_) (fun _ hr => ?_)
      ·
       refine st ?_
       cases hr
       refine qiP Tryz.func200 rfl ?_
       exact ⟨u11, u12, rfl, rfl⟩
      ·
       refine qg 7 rfl ?_
       refine zt 95 rfl hr (fun _ hr => ?_) (fun _ hr => ?_)
       ·
        refine st ?_
        cases hr
        refine qiP Tryz.func200 rfl ?_
        exact ⟨u11, u12, rfl, rfl⟩
       ·
        refine qg 4 rfl (rd rfl (qgC rfl rfl rfl rfl) (qg 2 rfl ?_))
        refine zt 102 rfl hr (fun _ hr => ?_) (fun _ hr => ?_)
        ·
         refine st ?_
         cases hr
         refine qiP Tryz.func200 rfl ?_
         exact ⟨u11, u12, rfl, rfl⟩
        ·
         refine st ?_
         refine zi 110 rfl hr (fun _ hr => ?_) (fun _ hr => ?_)
         ·
          refine st ?_
          cases hr
          refine qiP Tryz.func200 rfl ?_
          exact ⟨u11, u12, rfl, rfl⟩
         ·
          refine st ?_
          obtain ⟨m, p, hr⟩ := exK (fun k => qK k rec q_19 q_18.ff 0 g13 g14) hr
          refine qc5 104 rfl (asl rfl) fun q => ?_
          simp only [jd] at q
          refine qz (fun env σ => ∃ (g31 : List qb) (g32 : List Int) (u29 : Value) (u30 : Value), env = [] ∧ σ = [.cell a (.agg [.own u29 (g31.map qa), .vec u30 g32.length]), .row u29 g31.length 259 4, .vec u30 (g32.map (D.int .i64)) 3 1] ∧ m g31 g32 = some c) ?_ (fun x => ?_)
          ·
           rintro _ _ ⟨g31, g32, u29, u30, rfl, rfl, hr⟩
           rw [p] at hr
           refine st ?_
           cases hr
           refine qiP Tryz.func200 rfl ?_
           exact ⟨u29, u30, rfl, rfl⟩
          ·
           refine qbc [0, 12, 13, 14] rfl (qal (fun n env σ => ∃ (i26 : Nat) (g27 : List qb) (g28 : List Int) (u24 : Value) (u25 : Value), n = q_18.ff.length - i26 ∧ (env = [(0, .ref a 0 []), (12, .ptr (qa q_18)), (13, .ptr (qa q_19)), (14, .int .i64 (i26 : Int))]) ∧ (σ = [.cell a (.agg [.own u24 (g27.map qa), .vec u25 g28.length]), .row u24 g27.length 259 4, .vec u25 (g28.map (D.int .i64)) 3 1]) ∧ (i26 ≤ q_18.ff.length) ∧ (qK m rec q_19 (q_18.ff.drop i26) i26 g27 g28 = some c)) _ ⟨0, g13, g14, u11, u12, rfl, rfl, rfl, jf _, hr⟩ ?_)
           rintro n _ _ ⟨i26, g27, g28, u24, u25, rfl, rfl, rfl, r, hr⟩ y
           rcases zd q_18.ff i26 r with ⟨s, j, z⟩ | ⟨q_33, s, j, A, B⟩
           ·
            rw [j, qK] at hr
            exact fin hr
           ·
            rw [j, qK] at hr
            refine st ?_
            refine qD (qaC (qea 13 4194304 ?_))
            refine st ?_
            obtain ⟨q34, h34, hr⟩ := zb hr
            refine st ?_
            obtain ⟨r35, h35, hr⟩ := zb hr
            refine ew rfl (qiL _ rfl qgb (.oc rfl (.oc rfl (.oc rfl .nil))) (by exact (pf0 _)) (IHR _ _ _ _ _ _ _ _ h35)) ?_
            rintro _ _ ⟨_, ⟨u129_35, u129_36, rfl, rfl⟩, rfl⟩
            refine zav ((.cell a (.agg [.own u129_35 (r35.2.1.map qa), .vec u129_36 r35.2.2.length])) :: (.row u129_35 r35.2.1.length 259 4) :: (.vec u129_36 (r35.2.2.map (D.int .i64)) 3 1) :: _) rfl ?_
            refine st ?_
            refine zi 130 rfl hr (fun _ hr => ?_) (fun _ hr => ?_)
            ·
             refine st ?_
             cases hr
             refine qiP Tryz.func200 rfl ?_
             exact ⟨u129_35, u129_36, rfl, rfl⟩
            ·
             exact fin hr
  ·
   refine qbc [0, 7, 8, 9, 10, 11] rfl (qal (fun n env σ => ∃ (i8 : Int) (g9 : List qb) (g10 : List Int) (u6 : Value) (u7 : Value) (n0 : Nat), (n0 = n) ∧ (env = [(0, .ref a 0 []), (7, .int .i64 q1), (8, .int .i64 q_2), (9, .int .i64 r4), (10, .int .i64 r5), (11, .int .i64 i8)]) ∧ (σ = [.cell a (.agg [.own u6 (g9.map qa), .vec u7 g10.length]), .row u6 g9.length 259 4, .vec u7 (g10.map (D.int .i64)) 3 1]) ∧ (qQ l q1 q_2 n0 i8 g9 g10 = some c)) _ ⟨0, g, e, h, i, _, rfl, rfl, rfl, hr⟩ ?_)
   rintro n _ _ ⟨i8, g9, g10, u6, u7, n0, rfl, rfl, rfl, hr⟩ t
   cases n0 with
   | zero => rw [qQ] at hr; cases hr
   | succ n0 =>
    rw [qQ] at hr
    refine st0 ?_
    refine zf 7 512 (qg 2 rfl (rd rfl (qS rfl rfl) (rd rfl (qh rfl qV rfl) (qb4 0 rfl (rd rfl (qDz rfl Tryz.underlying60 rfl) ?_)))))
    refine st ?_
    refine zi 44 rfl hr (fun _ hr => ?_) (fun _ hr => ?_)
    ·
     refine st ?_
     refine qD (qaC (zf 9 10368 (qg 1 rfl (rd rfl (qS rfl rfl) (rd rfl (qh rfl qV rfl) (qb4 0 rfl (qg 1 rfl ?_)))))))
     obtain ⟨q40, h40, hr⟩ := zb hr
     have hq_40_n := (qb3 h40).2
     refine er rfl (qfH (f := (D.int .i64)) g10 rfl qcO rfl rfl h40 (.tail _ (.tail _ (.head _)))) (er rfl (qjG rfl rfl (.tail _ (.tail _ (.head _))) (zaI hq_40_n) rfl rfl (by exact qfp) rfl) ?_)
     refine st ?_
     refine zi 55 rfl hr (fun _ hr => ?_) (fun _ hr => ?_)
     ·
      refine qfh rfl (zf 8 24704 (qg 1 rfl (rd rfl (qS rfl rfl) (rd rfl (qh rfl qV rfl) (qb4 0 rfl (qg 2 rfl ?_))))))
      have hq_40_n := (qb3 h40).2
      refine er rfl (qfH (f := (D.int .i64)) g10 rfl qcO rfl rfl h40 (.tail _ (.tail _ (.head _)))) (z8 rfl (qzQ _ rfl rfl rfl (Wk.refl _) (pf2 _ _ _ _) (zaI hq_40_n) rfl rfl rfl (by exact qfp) rfl rfl rfl) (zav [.vec u7 ((g10.set i8.toNat q1).map (D.int .i64)) 3 1, .cell a (.agg [.own u6 (g9.map qa), .vec u7 (g10.set i8.toNat q1).length]), .row u6 g9.length 259 4] (by simp [List.map_set, qsi]) ?_))
      refine st ?_
      refine rd rfl (qe4 rfl rfl rfl rfl) (qg 1 rfl (qax (qbc [0, 7, 8, 9, 10, 11] rfl (qcz [_, _, _] _ (pS [0, 2, 2] _) ?_))))
      exact t _ _ _ oa ⟨(wr (i8 + (1 : Int))), g9, (g10.set i8.toNat q1), u6, u7, _, rfl, rfl, rfl, hr⟩
     ·
      refine st ?_
      refine rd rfl (qe4 rfl rfl rfl rfl) ?_
      exact fin hr
    ·
     exact fin hr
theorem qfK : ∀ (fuel : Nat) (a1 : Int) (a2 : Int) (c_0_0 : List qb) (c_0_1 : List Int) (b_o0 : Nat) (u_o1 : Value) (u_o2 : Value) (res : Bool × (List qb) × (List Int)), qab fuel a1 a2 c_0_0 c_0_1 = some res → Spec Tryz.prog 200 [.ref b_o0 0 [], .int .i64 a1, .int .i64 a2] [.cell b_o0 (.agg [.own u_o1 (c_0_0.map qa), .vec u_o2 c_0_1.length]), .row u_o1 c_0_0.length 259 4, .vec u_o2 (c_0_1.map (D.int .i64)) 3 1] (fun d σ => ∃ (u_o1' : Value) (u_o2' : Value), d = .bool res.1 ∧ σ = [.cell b_o0 (.agg [.own u_o1' (res.2.1.map qa), .vec u_o2' res.2.2.length]), .row u_o1' res.2.1.length 259 4, .vec u_o2' (res.2.2.map (D.int .i64)) 3 1])
 | 0, _, _, _, _, _, _, _, _, h => by cases h
 | fuel + 1, a1, a2, c_0_0, c_0_1, b_o0, u_o1, u_o2, res, h => qhU fuel (qab fuel) (qfK fuel) a1 a2 c_0_0 c_0_1 b_o0 u_o1 u_o2 res h
def qI (k : Bool → qj → Option ((List qj) × Bool)) (a12 : List qj) (c_0_0 : List qb) (c_0_1 : List Int) (r20 : Int) : Nat → Bool → Int → qj → Option ((List qj) × Bool)
 | 0, d22, j23, x24 =>
 none
 | rest + 1, d22, j23, x24 =>
 (bif (decide (r20 ≥ (0 : Int))) then
 ((zh c_0_0 r20).bind fun q_29 =>
 (bif (decide (j23 < (q_29.ff.length : Int))) then
 ((zh q_29.ff j23).bind fun q32 =>
 ((zh c_0_1 q32).bind fun q_33 =>
 ((zh a12 q_33).bind fun q34 =>
 (bif d22 then
 (qI k a12 c_0_0 c_0_1 r20 rest (decide (q34.fh > (0 : Int))) (wr (j23 + (1 : Int))) (⟨(yf (wr (x24.fh + q34.fh)) (201 : Int)), (yf (yH x24.fo (wr (q34.fo + (1 : Int)))) (21 : Int))⟩ : qj))
 else
 (qI k a12 c_0_0 c_0_1 r20 rest false (wr (j23 + (1 : Int))) (⟨(yf (wr (x24.fh + q34.fh)) (201 : Int)), (yf (yH x24.fo (wr (q34.fo + (1 : Int)))) (21 : Int))⟩ : qj))))))
 else
 (k d22 x24)))
 else
 (k d22 x24))
def qv (k : Int → List qj → Option ((List qj) × Bool)) (c_0_0 : List qb) (c_0_1 : List Int) (fuel : Nat) : List qb → Int → Nat → List qj → Option ((List qj) × Bool)
 | [], l10, i11, a12 =>
 (k l10 a12)
 | q_16 :: rest, l10, i11, a12 =>
 ((zh c_0_1 (i11 : Int)).bind fun q_17 =>
 ((zh a12 q_17).bind fun q_18 =>
 (bif (decide (q_18.fh > (0 : Int))) then
 (qv k c_0_0 c_0_1 fuel rest l10 (i11 + 1) a12)
 else
 ((qy q_17 c_0_0 c_0_1).bind fun r20 =>
 (qI (fun d25 x26 =>
 (bif d25 then
 (qv k c_0_0 c_0_1 fuel rest (wr (l10 - (1 : Int))) (i11 + 1) (a12.set q_17.toNat x26))
 else
 (qv k c_0_0 c_0_1 fuel rest l10 (i11 + 1) a12))) a12 c_0_0 c_0_1 r20 fuel true 0 (⟨1, 1⟩ : qj))))))
def qU (k : List qj → Option ((List qj) × Bool)) (c_0_0 : List qb) (c_0_1 : List Int) (fuel : Nat) : Nat → Int → List qj → Option ((List qj) × Bool)
 | 0, l6, a7 =>
 none
 | rest + 1, l6, a7 =>
 (bif (decide (l6 > (0 : Int))) then
 (qv (fun l13 a14 =>
 (bif (l13 == l6) then
 some ([], false)
 else
 (qU k c_0_0 c_0_1 fuel rest l13 a14))) c_0_0 c_0_1 fuel c_0_0 l6 0 a7)
 else
 (k a7))
def qN (k : Int → Option ((List qj) × Bool)) (c_0_1 : List Int) : List qb → Int → Nat → Option ((List qj) × Bool)
 | [], l3, i4 =>
 (k l3)
 | q_36 :: rest, l3, i4 =>
 ((zh c_0_1 (i4 : Int)).bind fun q37 =>
 (bif (q37 == (i4 : Int)) then
 (qN k c_0_1 rest (wr (l3 + (1 : Int))) (i4 + 1))
 else
 (qN k c_0_1 rest l3 (i4 + 1))))
def qbj (fuel : Nat) (c_0_0 : List qb) (c_0_1 : List Int) : Option ((List qj) × Bool) :=
 ((zap 16 (c_0_0.length : Int)).bind fun n1 =>
 (qN (fun l5 =>
 (qU (fun a8 =>
 some (a8, true)) c_0_0 c_0_1 fuel fuel l5 (List.replicate n1 (⟨0, 0⟩ : qj)))) c_0_1 c_0_0 0 0))
theorem qhh (fuel : Nat) (a : List qb) (c : List Int) (h : Nat) (e : Value) (g : Value) (i : (List qj) × Bool) (hr : qbj fuel a c = some i) : Spec Tryz.prog 201 [.ref h 0 []] [.cell h (.agg [.own e (a.map qa), .vec g c.length]), .row e a.length 259 4, .vec g (c.map (D.int .i64)) 3 1] (fun d σ => d = .tup [.lst (i.1.map qo), .bool i.2] ∧ σ = [.cell h (.agg [.own e (a.map qa), .vec g c.length]), .row e a.length 259 4, .vec g (c.map (D.int .i64)) 3 1]) := by
 unfold qbj at hr
 refine qC Tryz.func201 rfl fun K G H => ?_
 refine st0 ?_
 refine quP 2 ?_
 refine st0 ?_
 refine zf 7 1152 (qg 1 rfl (rd rfl (qS rfl rfl) (rd rfl (qh rfl qm rfl) (qb4 0 rfl (qjP rfl ?_)))))
 obtain ⟨n_1, h1, hr⟩ := zb hr
 refine ew rfl (qxr (f := qo) (⟨0, 0⟩ : qj) rfl qdF qfA rfl rfl h1) ?_
 rintro _ _ ⟨b20_1, rfl, rfl⟩
 refine st ?_
 obtain ⟨o, u, hr⟩ := exK (fun k => qN k c a 0 0) hr
 refine qc5 18 rfl (asl rfl) fun v => ?_
 simp only [jd] at v
 refine qz (fun env σ => ∃ (l5 : Int), env = [(0, .ref h 0 []), (4, .arr b20_1 2 0 n_1), (5, .int .i64 l5)] ∧ σ = [.cell h (.agg [.own e (a.map qa), .vec g c.length]), .row e a.length 259 4, .vec g (c.map (D.int .i64)) 3 1, .arr b20_1 ((List.replicate n_1 (⟨0, 0⟩ : qj)).map qo) 261 2] ∧ o l5 = some i) ?_ (fun I => ?_)
 ·
  rintro _ _ ⟨l5, rfl, rfl, hr⟩
  rw [u] at hr
  refine qaC ?_
  obtain ⟨p, w, hr⟩ := exK (fun k => qU k a c fuel fuel l5 (List.replicate n_1 (⟨0, 0⟩ : qj))) hr
  refine qz (fun env σ => ∃ (a8 : List qj), env = [(4, .arr b20_1 2 0 n_1)] ∧ σ = [.arr b20_1 (a8.map qo) 261 2, .cell h (.agg [.own e (a.map qa), .vec g c.length]), .row e a.length 259 4, .vec g (c.map (D.int .i64)) 3 1] ∧ a8.length = n_1 ∧ p a8 = some i) ?_ (fun x => ?_)
  ·
   rintro _ _ ⟨a8, rfl, rfl, hl_a_8, hr⟩
   rw [w] at hr
   refine st ?_
   refine qu2 (l := a8.map qo) 2 rfl (pf0 _) (by rw [jd]; exact Eq.symm hl_a_8) ?_
   cases hr
   refine qiP Tryz.func201 rfl ?_
   exact ⟨rfl, rfl⟩
  ·
   refine qbc [0, 4, 5] rfl (qal (fun n env σ => ∃ (l6 : Int) (a7 : List qj) (n1 : Nat), (n1 = n) ∧ (env = [(0, .ref h 0 []), (4, .arr b20_1 2 0 n_1), (5, .int .i64 l6)]) ∧ (σ = [.cell h (.agg [.own e (a.map qa), .vec g c.length]), .row e a.length 259 4, .vec g (c.map (D.int .i64)) 3 1, .arr b20_1 (a7.map qo) 261 2]) ∧ (a7.length = n_1) ∧ (qU p a c fuel n1 l6 a7 = some i)) _ ⟨l5, (List.replicate n_1 (⟨0, 0⟩ : qj)), _, rfl, rfl, rfl, og, hr⟩ ?_)
   rintro n _ _ ⟨l6, a7, n1, rfl, rfl, rfl, hl_a_7, hr⟩ J
   cases n1 with
   | zero => rw [qU] at hr; cases hr
   | succ n1 =>
    rw [qU] at hr
    refine st ?_
    refine zi 42 rfl hr (fun _ hr => ?_) (fun _ hr => ?_)
    ·
     refine st ?_
     refine qD ?_
     refine st ?_
     obtain ⟨q, y, hr⟩ := exK (fun k => qv k a c fuel a l6 0 a7) hr
     refine qvG [0] (l := a.map qa) (.head _) (by first | rfl | simp [yX, qeS]) (asl rfl) fun z => ?_
     simp only [jd] at z
     refine qz (fun env σ => ∃ (l13 : Int) (a14 : List qj), env = [(0, .ref h 0 []), (4, .arr b20_1 2 0 n_1), (5, .int .i64 l13), (7, .int .i64 l6)] ∧ σ = [.cell h (.agg [.own e (a.map qa), .vec g c.length]), .row e a.length 259 4, .vec g (c.map (D.int .i64)) 3 1, .arr b20_1 (a14.map qo) 261 2] ∧ a14.length = n_1 ∧ q l13 a14 = some i) ?_ (fun L => ?_)
     ·
      rintro _ _ ⟨l13, a14, rfl, rfl, hl_a_14, hr⟩
      rw [y] at hr
      refine st ?_
      refine zi 137 rfl hr (fun _ hr => ?_) (fun _ hr => ?_)
      ·
       refine qfh rfl (qaC (zf 2 0 (qg 2 rfl (qax (qcz [_, _, _] _ (pf0 _) ?_)))))
       cases hr
       refine qbg Tryz.func201 _ (.cons (za rfl (Wk.full _)) (.cons (za rfl (Wk.refl _)) .nil)) ?_
       exact ⟨rfl, rfl⟩
      ·
       exact fin hr
     ·
      refine qbc [0, 4, 7, 5, 8] rfl (qal (fun n env σ => ∃ (l10 : Int) (i11 : Nat) (a12 : List qj), n = a.length - i11 ∧ (env = [(0, .ref h 0 []), (4, .arr b20_1 2 0 n_1), (7, .int .i64 l6), (5, .int .i64 l10), (8, .int .i64 (i11 : Int))]) ∧ (σ = [.cell h (.agg [.own e (a.map qa), .vec g c.length]), .row e a.length 259 4, .vec g (c.map (D.int .i64)) 3 1, .arr b20_1 (a12.map qo) 261 2]) ∧ (a12.length = n_1) ∧ (i11 ≤ a.length) ∧ (qv q a c fuel (a.drop i11) l10 i11 a12 = some i)) _ ⟨l6, 0, a7, rfl, rfl, rfl, hl_a_7, jf _, hr⟩ ?_)
      rintro n _ _ ⟨l10, i11, a12, rfl, rfl, rfl, hl_a_12, A, hr⟩ r
      rcases zd a i11 A with ⟨B, j, M⟩ | ⟨q_16, B, j, N, O⟩
      ·
       rw [j, qv] at hr
       refine st0 ?_
       refine zf 7 512 (qg 2 rfl (rd rfl (qS rfl rfl) (rd rfl (qh rfl qm rfl) (qb4 0 rfl ?_))))
       exact fin hr
      ·
       rw [j, qv] at hr
       refine st0 ?_
       refine zf 7 512 (qg 2 rfl (rd rfl (qS rfl rfl) (rd rfl (qh rfl qm rfl) (qb4 0 rfl ?_))))
       refine st ?_
       refine qD (qaC (zf 8 10368 (qg 1 rfl (rd rfl (qS rfl rfl) (rd rfl (qh rfl qV rfl) (qb4 0 rfl (qg 1 rfl ?_)))))))
       obtain ⟨q_17, h17, hr⟩ := zb hr
       have hq_17_n := (qb3 h17).2
       refine er rfl (qfH (f := (D.int .i64)) c rfl qcO rfl rfl h17 (.tail _ (.tail _ (.head _)))) (er rfl (qjG rfl rfl (.tail _ (.tail _ (.head _))) (zaI hq_17_n) rfl rfl (by exact qfp) rfl) ?_)
       refine st0 ?_
       refine zf 6 512 (qg 2 rfl ?_)
       obtain ⟨q_18, h18, hr⟩ := zb hr
       have hq_18_n := (qb3 h18).2
       refine rd rfl (qmQ a12 rfl qdF rfl rfl h18 hl_a_12) (rd rfl (qAU rfl qcZ rfl) (er rfl (quC rfl rfl (.tail _ (.tail _ (.tail _ (.head _)))) (zaI hq_18_n) rfl rfl (by exact qfp) rfl) ?_))
       refine st ?_
       refine zi 65 rfl hr (fun _ hr => ?_) (fun _ hr => ?_)
       ·
        exact fin hr
       ·
        refine st0 ?_
        refine zf 4 32 (qg 2 rfl ?_)
        obtain ⟨r20, h20, hr⟩ := zb hr
        refine er rfl (qis _ rfl qc7 (.oc rfl (.oc rfl .nil)) (by exact (pf0 _)) (qcH _ _ _ _ _ _ _ h20)) ?_
        refine st0 ?_
        refine zf 3 20 (rd rfl (qbz rfl qhb (.oc rfl (.oc rfl .nil)) (.cons rfl rfl rfl (.cons rfl rfl rfl (.nil _)))) (ew rfl (qbi rfl qfA) ?_))
        rintro _ _ ⟨b11_20, rfl, rfl⟩
        refine qcw rfl (pf0 _) ?_
        refine st ?_
        obtain ⟨s, C, hr⟩ := exK (fun k => qI k a12 a c r20 fuel true 0 (⟨1, 1⟩ : qj)) hr
        refine qz (fun env σ => ∃ (d25 : Bool) (x26 : qj), env = [(0, .ref h 0 []), (4, .arr b20_1 2 0 n_1), (5, .int .i64 l10), (7, .int .i64 l6), (8, .int .i64 (i11 : Int)), (9, .int .i64 q_17), (11, .ref b11_20 0 []), (12, .bool d25)] ∧ σ = [.cell h (.agg [.own e (a.map qa), .vec g c.length]), .row e a.length 259 4, .vec g (c.map (D.int .i64)) 3 1, .arr b20_1 (a12.map qo) 261 2, .cell b11_20 (qo x26)] ∧ a12.length = n_1 ∧ s d25 x26 = some i) ?_ (fun P => ?_)
        ·
         rintro _ _ ⟨d25, x26, rfl, rfl, hl_a_12, hr⟩
         rw [C] at hr
         refine st ?_
         refine zi 128 rfl hr (fun _ hr => ?_) (fun _ hr => ?_)
         ·
          refine st0 ?_
          refine zf 5 288 (qg 2 rfl (qb4 4 rfl ?_))
          have hq_18_n := (qb3 h18).2
          refine rd rfl (qmQ a12 rfl qdF rfl rfl h18 hl_a_12) (z8 rfl (qAi _ rfl rfl rfl (Wk.refl _) (pf3 _ _ _ _ _) (zaI hq_18_n) rfl rfl rfl (by exact qeQ) (qcs _) (qcs _) rfl) (zav [.arr b20_1 ((a12.set q_17.toNat x26).map qo) 261 2, .cell h (.agg [.own e (a.map qa), .vec g c.length]), .row e a.length 259 4, .vec g (c.map (D.int .i64)) 3 1, .cell b11_20 (qo x26)] (by simp [List.map_set, qsi]) ?_))
          refine st ?_
          refine rd rfl (qe4 rfl rfl rfl rfl) (qg 1 rfl (qax (qfa (zf 3 0 (qg 1 rfl (qqp rfl (qg 1 rfl (qax (qbc [0, 4, 7, 5, 8] rfl (qcz [_, _, _, _] _ (pS [0, 3, 3, 3] _) ?_))))))))))
          exact r _ _ _ oa ⟨(wr (l10 - (1 : Int))), (i11 + 1), (a12.set q_17.toNat x26), rfl, rfl, rfl, (List.length_set.trans hl_a_12), oa, hr⟩
         ·
          refine qDm 3 rfl (zf 3 0 (qg 1 rfl (qqp rfl (qg 1 rfl (qax (qbc [0, 4, 7, 5, 8] rfl (qcz [_, _, _, _] _ (pf0 _) ?_)))))))
          exact r _ _ _ oa ⟨l10, (i11 + 1), a12, rfl, rfl, rfl, hl_a_12, oa, hr⟩
        ·
         refine qbc [0, 4, 5, 7, 8, 9, 10, 11, 12, 13] rfl (qcz [_, _, _, _, _] _ (pS [0, 4, 4, 4, 4] _) (qal (fun n env σ => ∃ (d22 : Bool) (j23 : Int) (x24 : qj) (n3 : Nat), (n3 = n) ∧ (env = [(0, .ref h 0 []), (4, .arr b20_1 2 0 n_1), (5, .int .i64 l10), (7, .int .i64 l6), (8, .int .i64 (i11 : Int)), (9, .int .i64 q_17), (10, .int .i64 r20), (11, .ref b11_20 0 []), (12, .bool d22), (13, .int .i64 j23)]) ∧ (σ = [.cell h (.agg [.own e (a.map qa), .vec g c.length]), .row e a.length 259 4, .vec g (c.map (D.int .i64)) 3 1, .arr b20_1 (a12.map qo) 261 2, .cell b11_20 (qo x24)]) ∧ (a12.length = n_1) ∧ (qI s a12 a c r20 n3 d22 j23 x24 = some i)) _ ⟨true, 0, (⟨1, 1⟩ : qj), _, rfl, rfl, rfl, hl_a_12, hr⟩ ?_))
         rintro n _ _ ⟨d22, j23, x24, n3, rfl, rfl, rfl, hl_a_12, hr⟩ t
         cases n3 with
         | zero => rw [qI] at hr; cases hr
         | succ n3 =>
          rw [qI] at hr
          refine st0 ?_
          refine zf 15 32768 (qg 3 rfl ?_)
          refine zt 72 rfl hr (fun _ hr => ?_) (fun _ hr => ?_)
          ·
           refine qg 2 rfl (rd rfl (qS rfl rfl) (rd rfl (qh rfl qm rfl) (qb4 0 rfl (qg 1 rfl ?_))))
           obtain ⟨q_29, h29, hr⟩ := zb hr
           refine st ?_
           refine zi 84 rfl hr (fun _ hr => ?_) (fun _ hr => ?_)
           ·
            refine st ?_
            refine qD (qaC ?_)
            obtain ⟨q32, h32, hr⟩ := zb hr
            obtain ⟨q_33, h33, hr⟩ := zb hr
            obtain ⟨q34, h34, hr⟩ := zb hr
            have hq_33_n := (qb3 h33).2
            have hq_34_n := (qb3 h34).2
            refine qtm ob ob [(0, .d), (1, .d), (2, .d), (3, .d), (5, .d), (6, .d), (7, .d), (9, .d), (13, .d)] (.cons 4 [] (.cons 8 [(10, .d), (11, .d), (12, .d), (14, .d), (15, .d)] (.cons 16 [] (.cons 17 [(18, .d)] (.cons 19 [] (.cons 20 [] (.cons 21 [] .nil .nil) .nil) (.cons 20 [] (.cons 19 [] (.cons 21 [] .nil .nil) .nil) .nil)) (.cons 20 [] (.cons 17 [(18, .d)] (.cons 19 [] (.cons 21 [] .nil .nil) .nil) .nil) .nil)) (.cons 20 [] (.cons 16 [] (.cons 17 [(18, .d)] (.cons 19 [] (.cons 21 [] .nil .nil) .nil) .nil) .nil) .nil)) (.cons 20 [] (.cons 8 [(10, .d), (11, .d), (12, .d), (14, .d), (15, .d)] (.cons 16 [] (.cons 17 [(18, .d)] (.cons 19 [] (.cons 21 [] .nil .nil) .nil) .nil) .nil) .nil) .nil)) (.cons 8 [(10, .d), (11, .d), (12, .d), (14, .d), (15, .d)] (.cons 4 [] (.cons 16 [] (.cons 17 [(18, .d)] (.cons 19 [] (.cons 20 [] (.cons 21 [] .nil .nil) .nil) (.cons 20 [] (.cons 19 [] (.cons 21 [] .nil .nil) .nil) .nil)) (.cons 20 [] (.cons 17 [(18, .d)] (.cons 19 [] (.cons 21 [] .nil .nil) .nil) .nil) .nil)) (.cons 20 [] (.cons 16 [] (.cons 17 [(18, .d)] (.cons 19 [] (.cons 21 [] .nil .nil) .nil) .nil) .nil) .nil)) (.cons 20 [] (.cons 4 [] (.cons 16 [] (.cons 17 [(18, .d)] (.cons 19 [] (.cons 21 [] .nil .nil) .nil) .nil) .nil) .nil) .nil)) (.cons 20 [] (.cons 4 [] (.cons 8 [(10, .d), (11, .d), (12, .d), (14, .d), (15, .d)] (.cons 16 [] (.cons 17 [(18, .d)] (.cons 19 [] (.cons 21 [] .nil .nil) .nil) .nil) .nil) .nil) (.cons 8 [(10, .d), (11, .d), (12, .d), (14, .d), (15, .d)] (.cons 4 [] (.cons 16 [] (.cons 17 [(18, .d)] (.cons 19 [] (.cons 21 [] .nil .nil) .nil) .nil) .nil) .nil) .nil)) .nil))) ob (fun env σ => ∃ (b14_r21_30 : Nat), Sub [(0, .ref h 0 []), (4, .arr b20_1 2 0 n_1), (5, .int .i64 l10), (7, .int .i64 l6), (8, .int .i64 (i11 : Int)), (9, .int .i64 q_17), (10, .int .i64 r20), (11, .ref b11_20 0 []), (12, .bool d22), (13, .int .i64 j23), (14, .ref b14_r21_30 0 [])] env ∧ σ.Perm [.cell b14_r21_30 (qo q34), .cell h (.agg [.own e (a.map qa), .vec g c.length]), .row e a.length 259 4, .vec g (c.map (D.int .i64)) 3 1, .arr b20_1 (a12.map qo) 261 2, .cell b11_20 (qo x24)]) ?_ ?_
            ·
             repeat' (first | exact p_no | refine qye ?_ ?_ | refine qax ?_ | refine qg 1 rfl ?_ | refine rd rfl (qS rfl rfl) ?_ | refine rd rfl (qh rfl qV rfl) ?_ | refine rd rfl (qh rfl qm rfl) ?_ | refine zbk 0 rfl ?_ | refine qop h29 rfl ?_ | refine qop h32 rfl ?_ | refine zbz rfl rfl rfl (qfH (f := (D.int .i64)) c rfl qcO rfl rfl h33 (.tail _ (.tail _ (.head _)))) ?_ | refine zbz rfl rfl rfl (qjG rfl rfl (.tail _ (.tail _ (.head _))) (zaI hq_33_n) rfl rfl (by exact qfp) rfl) ?_ | refine rd rfl (qmQ a12 rfl qdF rfl rfl h34 hl_a_12) ?_ | refine zbz rfl rfl rfl (quC rfl rfl (.tail _ (.tail _ (.tail _ (.head _)))) (zaI hq_34_n) rfl rfl (by exact qeQ) (qcs _)) ?_ | (refine ew rfl (qbi rfl qfA) ?_; rintro _ _ ⟨b, rfl, rfl⟩) | refine qcw rfl (pf0 _) ?_ | refine zbz rfl rfl rfl (quC rfl rfl (.tail _ (.tail _ (.tail _ (.tail _ (.head _))))) (zaI hq_34_n) rfl rfl (by exact qeQ) (qcs _)) ?_ | refine zbz rfl rfl rfl (qjG rfl rfl (.tail _ (.tail _ (.tail _ (.head _)))) (zaI hq_33_n) rfl rfl (by exact qfp) rfl) ?_ | refine zbz rfl rfl rfl (qfH (f := (D.int .i64)) c rfl qcO rfl rfl h33 (.tail _ (.tail _ (.tail _ (.head _))))) ?_ | refine zbk 1 rfl ?_ | (refine qzf ?_; exact ⟨_, sbr rfl, pkz⟩))
            ·
             rintro _ _ ⟨b14_r21_30, hs, hp⟩
             refine qn6 hs hp (qbR 14 b14_r21_30 rfl (pf0 _) ?_)
             refine st ?_
             refine zt 108 rfl hr (fun _ hr => ?_) (fun _ hr => ?_)
             ·
              refine st0 ?_
              refine zf 8 16392 (rd rfl (qh rfl qcZ rfl) (qb4 4 rfl (qg 2 rfl (rd rfl (qe4 rfl rfl rfl rfl) (rd rfl (qAS rfl rfl rfl) (rd rfl (qh rfl qcZ rfl) (z8 rfl (qds _ rfl rfl rfl (Wk.refl _) (pf4 _ _ _ _ _ _) rfl rfl (by exact qfp) rfl rfl rfl) (qax (zf 9 65544 (rd rfl (qh rfl qdC rfl) (qb4 0 rfl (qg 2 rfl (rd rfl (qe4 rfl rfl rfl rfl) ?_)))))))))))))
              refine rd rfl (qCX rfl rfl rfl) (rd rfl (qAS rfl rfl rfl) (rd rfl (qh rfl qdC rfl) (z8 rfl (qds _ rfl rfl rfl (Wk.refl _) (pf0 _) rfl rfl (by exact qfp) rfl rfl rfl) ?_)))
              refine st ?_
              refine rd rfl (qe4 rfl rfl rfl rfl) (qg 1 rfl (qax (qbc [0, 4, 5, 7, 8, 9, 10, 11, 12, 13] rfl (qcz [_, _, _, _, _] _ (pS [0, 4, 4, 4, 4] _) ?_))))
              exact t _ _ _ oa ⟨(decide (q34.fh > (0 : Int))), (wr (j23 + (1 : Int))), (⟨(yf (wr (x24.fh + q34.fh)) (201 : Int)), (yf (yH x24.fo (wr (q34.fo + (1 : Int)))) (21 : Int))⟩ : qj), _, rfl, rfl, rfl, hl_a_12, hr⟩
             ·
              refine st0 ?_
              refine zf 8 16392 (rd rfl (qh rfl qcZ rfl) (qb4 4 rfl (qg 2 rfl (rd rfl (qe4 rfl rfl rfl rfl) (rd rfl (qAS rfl rfl rfl) (rd rfl (qh rfl qcZ rfl) (z8 rfl (qds _ rfl rfl rfl (Wk.refl _) (pf4 _ _ _ _ _ _) rfl rfl (by exact qfp) rfl rfl rfl) (qax (zf 9 65544 (rd rfl (qh rfl qdC rfl) (qb4 0 rfl (qg 2 rfl (rd rfl (qe4 rfl rfl rfl rfl) ?_)))))))))))))
              refine rd rfl (qCX rfl rfl rfl) (rd rfl (qAS rfl rfl rfl) (rd rfl (qh rfl qdC rfl) (z8 rfl (qds _ rfl rfl rfl (Wk.refl _) (pf0 _) rfl rfl (by exact qfp) rfl rfl rfl) ?_)))
              refine st ?_
              refine rd rfl (qe4 rfl rfl rfl rfl) (qg 1 rfl (qax (qbc [0, 4, 5, 7, 8, 9, 10, 11, 12, 13] rfl (qcz [_, _, _, _, _] _ (pS [0, 4, 4, 4, 4] _) ?_))))
              exact t _ _ _ oa ⟨false, (wr (j23 + (1 : Int))), (⟨(yf (wr (x24.fh + q34.fh)) (201 : Int)), (yf (yH x24.fo (wr (q34.fo + (1 : Int)))) (21 : Int))⟩ : qj), _, rfl, rfl, rfl, hl_a_12, hr⟩
           ·
            exact fin hr
          ·
           exact fin hr
    ·
     refine qf4 rfl (qmL rfl (qbc [4] rfl (qcz [_, _, _, _] _ (pS [2, 2, 2, 3] _) ?_)))
     exact x _ _ ⟨a7, rfl, rfl, hl_a_7, hr⟩
 refine qbc [0, 4, 5, 6] rfl (qcz [_, _, _, _] _ (pS [0, 3, 3, 3] _) (qal (fun n env σ => ∃ (l3 : Int) (i4 : Nat), n = a.length - i4 ∧ (env = [(0, .ref h 0 []), (4, .arr b20_1 2 0 n_1), (5, .int .i64 l3), (6, .int .i64 (i4 : Int))]) ∧ (σ = [.cell h (.agg [.own e (a.map qa), .vec g c.length]), .row e a.length 259 4, .vec g (c.map (D.int .i64)) 3 1, .arr b20_1 ((List.replicate n_1 (⟨0, 0⟩ : qj)).map qo) 261 2]) ∧ (i4 ≤ a.length) ∧ (qN o c (a.drop i4) l3 i4 = some i)) _ ⟨0, 0, rfl, rfl, rfl, jf _, hr⟩ ?_))
 rintro n _ _ ⟨l3, i4, rfl, rfl, rfl, E, hr⟩ Q
 rcases zd a i4 E with ⟨F, m, R⟩ | ⟨q_36, F, m, S, T⟩
 rw [m, qN] at hr
 refine st0 ?_
 refine zf 7 512 (qg 2 rfl (rd rfl (qS rfl rfl) (rd rfl (qh rfl qm rfl) (qb4 0 rfl ?_))))
 exact fin hr
 rw [m, qN] at hr
 refine st0 ?_
 refine zf 7 512 (qg 2 rfl (rd rfl (qS rfl rfl) (rd rfl (qh rfl qm rfl) (qb4 0 rfl ?_))))
 refine st ?_
 refine qD (qaC (zf 9 10368 (qg 1 rfl (rd rfl (qS rfl rfl) (rd rfl (qh rfl qV rfl) (qb4 0 rfl (qg 1 rfl ?_)))))))
 obtain ⟨q37, h37, hr⟩ := zb hr
 have hq_37_n := (qb3 h37).2
 refine er rfl (qfH (f := (D.int .i64)) c rfl qcO rfl rfl h37 (.tail _ (.tail _ (.head _)))) (er rfl (qjG rfl rfl (.tail _ (.tail _ (.head _))) (zaI hq_37_n) rfl rfl (by exact qfp) rfl) ?_)
 refine st ?_
 refine zi 38 rfl hr (fun _ hr => ?_) (fun _ hr => ?_)
 refine st ?_
 refine rd rfl (qe4 rfl rfl rfl rfl) ?_
 exact fin hr
 exact fin hr
def qr (k : Int → Option Int) (c_0_1 : List Int) (a1 : Int) : List qb → Int → Nat → Option Int
 | [], v1, i2 =>
 (k v1)
 | q_4 :: rest, v1, i2 =>
 ((zh c_0_1 (i2 : Int)).bind fun q_5 =>
 (bif (q_5 == a1) then
 (bif (q_4.fa == (1 : Int)) then
 (bif (decide (v1 < (0 : Int))) then
 (qr k c_0_1 a1 rest q_4.fe (i2 + 1))
 else
 (bif (decide (q_4.fe < v1)) then
 (qr k c_0_1 a1 rest q_4.fe (i2 + 1))
 else
 (qr k c_0_1 a1 rest v1 (i2 + 1))))
 else
 (qr k c_0_1 a1 rest v1 (i2 + 1)))
 else
 (qr k c_0_1 a1 rest v1 (i2 + 1))))
def qaO (a1 : Int) (c_0_0 : List qb) (c_0_1 : List Int) : Option Int :=
 (qr (fun v3 =>
 some (v3)) c_0_1 a1 c_0_0 (-1) 0)
theorem qfy (a1 : Int) (a : List qb) (b : List Int) (g : Nat) (c : Value) (e : Value) (h : Int) (hr : qaO a1 a b = some h) : Spec Tryz.prog 203 [.ref g 0 [], .int .i64 a1] [.cell g (.agg [.own c (a.map qa), .vec e b.length]), .row c a.length 259 4, .vec e (b.map (D.int .i64)) 3 1] (fun d σ => d = .int .i64 h ∧ σ = [.cell g (.agg [.own c (a.map qa), .vec e b.length]), .row c a.length 259 4, .vec e (b.map (D.int .i64)) 3 1]) := by
 unfold qaO at hr
 refine qC Tryz.func203 rfl fun K r s => ?_
 refine st ?_
 obtain ⟨j, m, hr⟩ := exK (fun k => qr k b a1 a (-1) 0) hr
 refine qvG [0] (l := a.map qa) (.head _) (by first | rfl | simp [yX, qeS]) (asl rfl) fun o => ?_
 simp only [jd] at o
 refine qz (fun env σ => ∃ (v3 : Int), env = [(5, .int .i64 v3)] ∧ σ = [.cell g (.agg [.own c (a.map qa), .vec e b.length]), .row c a.length 259 4, .vec e (b.map (D.int .i64)) 3 1] ∧ j v3 = some h) ?_ (fun t => ?_)
 rintro _ _ ⟨v3, rfl, rfl, hr⟩
 rw [m] at hr
 refine st ?_
 cases hr
 refine qiP Tryz.func203 rfl ?_
 exact ⟨rfl, rfl⟩
 refine qbc [0, 1, 5, 6] rfl (qal (fun n env σ => ∃ (v1 : Int) (i2 : Nat), n = a.length - i2 ∧ (env = [(0, .ref g 0 []), (1, .int .i64 a1), (5, .int .i64 v1), (6, .int .i64 (i2 : Int))]) ∧ (σ = [.cell g (.agg [.own c (a.map qa), .vec e b.length]), .row c a.length 259 4, .vec e (b.map (D.int .i64)) 3 1]) ∧ (i2 ≤ a.length) ∧ (qr j b a1 (a.drop i2) v1 i2 = some h)) _ ⟨(-1), 0, rfl, rfl, rfl, jf _, hr⟩ ?_)
 rintro n _ _ ⟨v1, i2, rfl, rfl, rfl, p, hr⟩ u
 rcases zd a i2 p with ⟨q, i, v⟩ | ⟨q_4, q, i, w, x⟩
 rw [i, qr] at hr
 refine st0 ?_
 refine zf 7 512 (qg 2 rfl (rd rfl (qS rfl rfl) (rd rfl (qh rfl qm rfl) (qb4 0 rfl ?_))))
 exact fin hr
 rw [i, qr] at hr
 refine st0 ?_
 refine zf 7 512 (qg 2 rfl (rd rfl (qS rfl rfl) (rd rfl (qh rfl qm rfl) (qb4 0 rfl ?_))))
 refine st ?_
 refine qD (qaC (zf 36 36028797153192064 (qg 1 rfl (rd rfl (qS rfl rfl) (rd rfl (qh rfl qV rfl) (qb4 0 rfl (qg 1 rfl ?_)))))))
 obtain ⟨q_5, h5, hr⟩ := zb hr
 have hq_5_n := (qb3 h5).2
 refine er rfl (qfH (f := (D.int .i64)) b rfl qcO rfl rfl h5 (.tail _ (.tail _ (.head _)))) (er rfl (qjG rfl rfl (.tail _ (.tail _ (.head _))) (zaI hq_5_n) rfl rfl (by exact qfp) rfl) (qg 3 rfl ?_))
 refine zt 25 rfl hr (fun _ hr => ?_) (fun _ hr => ?_)
 refine qg 1 rfl (rd rfl (qS rfl rfl) (rd rfl (qh rfl qm rfl) (qb4 0 rfl ?_)))
 refine st ?_
 refine zt 36 rfl hr (fun _ hr => ?_) (fun _ hr => ?_)
 refine qg 3 rfl ?_
 refine zt 39 rfl hr (fun _ hr => ?_) (fun _ hr => ?_)
 refine st0 ?_
 refine zf 9 128 (qg 1 rfl (rd rfl (qS rfl rfl) (rd rfl (qh rfl qm rfl) (qb4 0 rfl ?_))))
 exact fin hr
 refine qg 1 rfl (rd rfl (qS rfl rfl) (rd rfl (qh rfl qm rfl) (qb4 0 rfl ?_)))
 refine st ?_
 refine zi 51 rfl hr (fun _ hr => ?_) (fun _ hr => ?_)
 refine qfh rfl (zf 9 128 (qg 1 rfl (rd rfl (qS rfl rfl) (rd rfl (qh rfl qm rfl) (qb4 0 rfl ?_)))))
 exact fin hr
 exact fin hr
 exact fin hr
 exact fin hr
def qp (k : Int → Int → ByteArray → List T → Option T) (rec : Int → List qb → List Int → Option T) (c_0_0 : List qb) (c_0_1 : List Int) (q_6 : qb) : Nat → Int → Int → Int → ByteArray → List T → Option T
 | 0, i8, t9, t10, t11, t12 =>
 none
 | rest + 1, i8, t9, t10, t11, t12 =>
 (bif (decide (i8 < (q_6.ff.length : Int))) then
 ((zh q_6.ff i8).bind fun q_19 =>
 ((zh c_0_1 q_19).bind fun q20 =>
 ((rec q20 c_0_0 c_0_1).bind fun r21 =>
 ((zz 56 t12 [r21]).bind fun l22 =>
 (qp k rec c_0_0 c_0_1 q_6 rest (wr (i8 + (1 : Int))) t9 t10 t11 l22)))))
 else
 (k t9 t10 t11 t12))
def qq : Nat → Int → List qb → List Int → Option T
 | 0, _, _, _ => none
 | fuel + 1, a1, c_0_0, c_0_1 =>
  (fun (rec : Int → List qb → List Int → Option T) =>
   ((qy a1 c_0_0 c_0_1).bind fun r2 =>
   (bif (decide (r2 < (0 : Int))) then
   ((qaO a1 c_0_0 c_0_1).bind fun r4 =>
   some ((T.mk 1 r4 ⟨#[]⟩ [])))
   else
   ((zh c_0_0 r2).bind fun q_6 =>
   (qp (fun t14 t15 t16 t17 =>
   some ((T.mk t14 t15 t16 t17))) rec c_0_0 c_0_1 q_6 fuel 0 q_6.fa q_6.fe q_6.fE []))))) (qq fuel)
theorem qhV (fuel : Nat) (rec : Int → List qb → List Int → Option T) (IHR : ∀ (a1 : Int) (c_0_0 : List qb) (c_0_1 : List Int) (b_o0 : Nat) (u_o1 : Value) (u_o2 : Value) (res : T), rec a1 c_0_0 c_0_1 = some res → Spec Tryz.prog 204 [.ref b_o0 0 [], .int .i64 a1] [.cell b_o0 (.agg [.own u_o1 (c_0_0.map qa), .vec u_o2 c_0_1.length]), .row u_o1 c_0_0.length 259 4, .vec u_o2 (c_0_1.map (D.int .i64)) 3 1] (fun d σ => d = zl res ∧ σ = [.cell b_o0 (.agg [.own u_o1 (c_0_0.map qa), .vec u_o2 c_0_1.length]), .row u_o1 c_0_0.length 259 4, .vec u_o2 (c_0_1.map (D.int .i64)) 3 1])) (a1 : Int) (c_0_0 : List qb) (c_0_1 : List Int) (b_o0 : Nat) (u_o1 : Value) (u_o2 : Value) (res : T)
 (hr : ((qy a1 c_0_0 c_0_1).bind fun r2 =>
(bif (decide (r2 < (0 : Int))) then
((qaO a1 c_0_0 c_0_1).bind fun r4 =>
some ((T.mk 1 r4 ⟨#[]⟩ [])))
else
((zh c_0_0 r2).bind fun q_6 =>
(qp (fun t14 t15 t16 t17 =>
some ((T.mk t14 t15 t16 t17))) rec c_0_0 c_0_1 q_6 fuel 0 q_6.fa q_6.fe q_6.fE [])))) = some res) : Spec Tryz.prog 204 [.ref b_o0 0 [], .int .i64 a1] [.cell b_o0 (.agg [.own u_o1 (c_0_0.map qa), .vec u_o2 c_0_1.length]), .row u_o1 c_0_0.length 259 4, .vec u_o2 (c_0_1.map (D.int .i64)) 3 1] (fun d σ => d = zl res ∧ σ = [.cell b_o0 (.agg [.own u_o1 (c_0_0.map qa), .vec u_o2 c_0_1.length]), .row u_o1 c_0_0.length 259 4, .vec u_o2 (c_0_1.map (D.int .i64)) 3 1]) := by
 refine qC Tryz.func204 rfl fun K hK hF => (qaC (zf 1 1 (ew rfl (qbi rfl qeH) ?_)))
 rintro _ _ ⟨b4_0, rfl, rfl⟩
 refine st0 ?_
 refine zf 4 32 (qg 2 rfl ?_)
 obtain ⟨r2, h2, hr⟩ := zb hr
 refine er rfl (qis _ rfl qc7 (.oc rfl (.oc rfl .nil)) (by exact (pS [3, 3, 3] _)) (qcH _ _ _ _ _ _ _ h2)) ?_
 refine st ?_
 refine zi 12 rfl hr (fun h12_2 hr => ?_) (fun h12_2 hr => ?_)
 refine st0 ?_
 refine zf 5 288 (qg 2 rfl ?_)
 obtain ⟨r4, h4, hr⟩ := zb hr
 refine er rfl (qis _ rfl qf1 (.oc rfl (.oc rfl .nil)) (by exact (pS [3, 3, 3] _)) (qfy _ _ _ _ _ _ _ h4)) ?_
 refine rd rfl (qbz rfl qgd (.oc rfl (.oc rfl .nil)) (.cons rfl rfl rfl (.cons rfl rfl rfl (.nil _)))) (qcw rfl (pf0 _) (qax (qbR 4 b4_0 rfl (pf0 _) ?_)))
 cases hr
 refine qbg Tryz.func204 _ (.cons (zbU rfl (by exact qdy) rfl (Wk.refl _)) .nil) ?_
 exact ⟨(by first | rfl | (show _ = D.agg (fsT _); rw [qeS] <;> rfl)), rfl⟩
 ·
  refine qDm 3 rfl (qoG 78 4 ?_)
  obtain ⟨q_6, h6, hr⟩ := zb hr
  refine qtm ob ob [(0, .d), (1, .d), (2, .d), (4, .d), (8, .d), (9, .d), (10, .d), (12, .d), (16, .d), (17, .d), (18, .d), (20, .d)] (.cons 3 [(5, .d), (6, .d), (7, .d)] (.cons 11 [(13, .d), (14, .d), (15, .d)] (.cons 19 [(21, .d), (22, .d), (23, .d), (24, .d)] (.cons 25 [] (.cons 26 [] .nil .nil) .nil) (.cons 25 [] (.cons 19 [(21, .d), (22, .d), (23, .d), (24, .d)] (.cons 26 [] .nil .nil) .nil) .nil)) (.cons 19 [(21, .d), (22, .d), (23, .d)] (.cons 11 [(13, .d), (14, .d), (15, .d), (24, .d)] (.cons 25 [] (.cons 26 [] .nil .nil) .nil) (.cons 25 [] (.cons 11 [(13, .d), (14, .d), (15, .d), (24, .d)] (.cons 26 [] .nil .nil) .nil) .nil)) (.cons 25 [] (.cons 11 [(13, .d), (14, .d), (15, .d)] (.cons 19 [(21, .d), (22, .d), (23, .d), (24, .d)] (.cons 26 [] .nil .nil) .nil) (.cons 19 [(21, .d), (22, .d), (23, .d)] (.cons 11 [(13, .d), (14, .d), (15, .d), (24, .d)] (.cons 26 [] .nil .nil) .nil) .nil)) .nil))) (.cons 11 [(13, .d), (14, .d), (15, .d)] (.cons 3 [(5, .d), (6, .d), (7, .d)] (.cons 19 [(21, .d), (22, .d), (23, .d), (24, .d)] (.cons 25 [] (.cons 26 [] .nil .nil) .nil) (.cons 25 [] (.cons 19 [(21, .d), (22, .d), (23, .d), (24, .d)] (.cons 26 [] .nil .nil) .nil) .nil)) (.cons 19 [(21, .d), (22, .d), (23, .d)] (.cons 3 [(5, .d), (6, .d), (7, .d), (24, .d)] (.cons 25 [] (.cons 26 [] .nil .nil) .nil) (.cons 25 [] (.cons 3 [(5, .d), (6, .d), (7, .d), (24, .d)] (.cons 26 [] .nil .nil) .nil) .nil)) (.cons 25 [] (.cons 3 [(5, .d), (6, .d), (7, .d)] (.cons 19 [(21, .d), (22, .d), (23, .d), (24, .d)] (.cons 26 [] .nil .nil) .nil) (.cons 19 [(21, .d), (22, .d), (23, .d)] (.cons 3 [(5, .d), (6, .d), (7, .d), (24, .d)] (.cons 26 [] .nil .nil) .nil) .nil)) .nil))) (.cons 19 [(21, .d), (22, .d), (23, .d)] (.cons 3 [(5, .d), (6, .d), (7, .d)] (.cons 11 [(13, .d), (14, .d), (15, .d), (24, .d)] (.cons 25 [] (.cons 26 [] .nil .nil) .nil) (.cons 25 [] (.cons 11 [(13, .d), (14, .d), (15, .d), (24, .d)] (.cons 26 [] .nil .nil) .nil) .nil)) (.cons 11 [(13, .d), (14, .d), (15, .d)] (.cons 3 [(5, .d), (6, .d), (7, .d), (24, .d)] (.cons 25 [] (.cons 26 [] .nil .nil) .nil) (.cons 25 [] (.cons 3 [(5, .d), (6, .d), (7, .d), (24, .d)] (.cons 26 [] .nil .nil) .nil) .nil)) (.cons 25 [] (.cons 3 [(5, .d), (6, .d), (7, .d)] (.cons 11 [(13, .d), (14, .d), (15, .d), (24, .d)] (.cons 26 [] .nil .nil) .nil) (.cons 11 [(13, .d), (14, .d), (15, .d)] (.cons 3 [(5, .d), (6, .d), (7, .d), (24, .d)] (.cons 26 [] .nil .nil) .nil) .nil)) .nil))) (.cons 25 [] (.cons 3 [(5, .d), (6, .d), (7, .d)] (.cons 11 [(13, .d), (14, .d), (15, .d)] (.cons 19 [(21, .d), (22, .d), (23, .d), (24, .d)] (.cons 26 [] .nil .nil) .nil) (.cons 19 [(21, .d), (22, .d), (23, .d)] (.cons 11 [(13, .d), (14, .d), (15, .d), (24, .d)] (.cons 26 [] .nil .nil) .nil) .nil)) (.cons 11 [(13, .d), (14, .d), (15, .d)] (.cons 3 [(5, .d), (6, .d), (7, .d)] (.cons 19 [(21, .d), (22, .d), (23, .d), (24, .d)] (.cons 26 [] .nil .nil) .nil) (.cons 19 [(21, .d), (22, .d), (23, .d)] (.cons 3 [(5, .d), (6, .d), (7, .d), (24, .d)] (.cons 26 [] .nil .nil) .nil) .nil)) (.cons 19 [(21, .d), (22, .d), (23, .d)] (.cons 3 [(5, .d), (6, .d), (7, .d)] (.cons 11 [(13, .d), (14, .d), (15, .d), (24, .d)] (.cons 26 [] .nil .nil) .nil) (.cons 11 [(13, .d), (14, .d), (15, .d)] (.cons 3 [(5, .d), (6, .d), (7, .d), (24, .d)] (.cons 26 [] .nil .nil) .nil) .nil)) .nil))) .nil)))) ob (fun env σ => ∃ (b6_r4_4 : Nat), Sub [(0, .ref b_o0 0 []), (4, .ref b4_0 0 []), (5, .int .i64 r2), (6, .ref b6_r4_4 0 [])] env ∧ σ.Perm [.cell b6_r4_4 (.agg [.int .i64 q_6.fa, .int .i64 q_6.fe, .str q_6.fE, .own (.slice none 0 0 ) ([].map zl)]), .row (.slice none 0 0 ) ([] : List D).length 78 4, .cell b4_0 (.agg [.int .i64 0, .int .i64 0, .str ⟨#[]⟩, .lst ([].map zl)]), .cell b_o0 (.agg [.own u_o1 (c_0_0.map qa), .vec u_o2 c_0_1.length]), .row u_o1 c_0_0.length 259 4, .vec u_o2 (c_0_1.map (D.int .i64)) 3 1]) ?_ ?_
  ·
   repeat' (first | exact p_no | refine qye ?_ ?_ | refine qax ?_ | refine qg 1 rfl ?_ | refine rd rfl (qS rfl rfl) ?_ | refine rd rfl (qh rfl qm rfl) ?_ | refine zbk 2 rfl ?_ | refine qop h6 rfl ?_ | refine rd rfl (qbz rfl qrN (.oc rfl (.oc rfl (.oc rfl .nil))) (.cons rfl rfl rfl (.cons rfl rfl rfl (.cons rfl rfl rfl (.nil _))))) ?_ | (refine ew rfl (qbi rfl qeH) ?_; rintro _ _ ⟨b, rfl, rfl⟩) | refine qcw rfl (pf0 _) ?_ | refine zbk 3 rfl ?_ | (refine qzf ?_; exact ⟨_, sbr rfl, pkz⟩))
  ·
   rintro _ _ ⟨b6_r4_4, hs, hp⟩
   refine qn6 hs hp ?_
   refine st ?_
   obtain ⟨kk0, hkk0, hr⟩ := exK (fun k => qp k rec c_0_0 c_0_1 q_6 fuel 0 q_6.fa q_6.fe q_6.fE []) hr
   refine qz (fun env σ => ∃ (t14 : Int) (t15 : Int) (t16 : ByteArray) (t17 : List T) (u13 : Value), env = [(4, .ref b4_0 0 []), (6, .ref b6_r4_4 0 [])] ∧ σ = [.cell b4_0 (.agg [.int .i64 0, .int .i64 0, .str ⟨#[]⟩, .lst ([].map zl)]), .cell b6_r4_4 (.agg [.int .i64 t14, .int .i64 t15, .str t16, .own u13 (t17.map zl)]), .row u13 t17.length 78 4, .cell b_o0 (.agg [.own u_o1 (c_0_0.map qa), .vec u_o2 c_0_1.length]), .row u_o1 c_0_0.length 259 4, .vec u_o2 (c_0_1.map (D.int .i64)) 3 1] ∧ kk0 t14 t15 t16 t17 = some res) ?_ (fun HK0 => ?_)
   ·
    rintro _ _ ⟨t14, t15, t16, t17, u13, rfl, rfl, hr⟩
    rw [hkk0] at hr
    refine qaC (zf 2 6 (qb4 1 rfl (qcw rfl (pf0 _) (qax (qbR 4 b4_0 rfl (pf0 _) (qcz [_, _, _] _ (pS [4, 4, 4] _) ?_))))))
    cases hr
    refine qbg Tryz.func204 _ (.cons (zbU rfl (by exact qdy) rfl (Wk.agg (.cons (Wk.refl _) (.cons (Wk.refl _) (.cons (Wk.refl _) (.cons (Wk.own _ _) .nil)))))) .nil) ?_
    exact ⟨(by first | rfl | (show _ = D.agg (fsT _); rw [qeS] <;> rfl)), rfl⟩
   ·
    refine qbc [0, 4, 5, 6, 7] rfl (qcz [_, _, _, _, _, _] _ (pS [1, 1, 2, 5, 5, 5] _) (qal (fun n env σ => ∃ (i8 : Int) (t9 : Int) (t10 : Int) (t11 : ByteArray) (t12 : List T) (u7 : Value) (n0 : Nat), (n0 = n) ∧ (env = [(0, .ref b_o0 0 []), (4, .ref b4_0 0 []), (5, .int .i64 r2), (6, .ref b6_r4_4 0 []), (7, .int .i64 i8)]) ∧ (σ = [.cell b_o0 (.agg [.own u_o1 (c_0_0.map qa), .vec u_o2 c_0_1.length]), .row u_o1 c_0_0.length 259 4, .vec u_o2 (c_0_1.map (D.int .i64)) 3 1, .cell b4_0 (.agg [.int .i64 0, .int .i64 0, .str ⟨#[]⟩, .lst ([].map zl)]), .cell b6_r4_4 (.agg [.int .i64 t9, .int .i64 t10, .str t11, .own u7 (t12.map zl)]), .row u7 t12.length 78 4]) ∧ (qp kk0 rec c_0_0 c_0_1 q_6 n0 i8 t9 t10 t11 t12 = some res)) _ ⟨0, q_6.fa, q_6.fe, q_6.fE, [], (.slice none 0 0 ), _, rfl, rfl, rfl, hr⟩ ?_))
    rintro n _ _ ⟨i8, t9, t10, t11, t12, u7, n0, rfl, rfl, rfl, hr⟩ IH0
    cases n0 with
    | zero => rw [qp] at hr; cases hr
    | succ n0 =>
     rw [qp] at hr
     refine st0 ?_
     refine zf 11 512 (qg 2 rfl (rd rfl (qS rfl rfl) (rd rfl (qh rfl qm rfl) (qb4 0 rfl ?_))))
     refine st ?_
     refine zi 52 rfl hr (fun h52_17 hr => ?_) (fun h52_17 hr => ?_)
     ·
      refine st ?_
      refine qD (qea 25 301953382883336 (rd rfl (qh rfl qcB rfl) (qb4 4 rfl (qg 2 rfl (rd rfl (qS rfl rfl) (rd rfl (qh rfl qV rfl) (qb4 0 rfl (qg 1 rfl (rd rfl (qS rfl rfl) (rd rfl (qh rfl qm rfl) (qb4 0 rfl ?_)))))))))))
      refine st ?_
      obtain ⟨q_19, h19, hr⟩ := zb hr
      refine st ?_
      obtain ⟨q20, h20, hr⟩ := zb hr
      have hq_20_n := (qb3 h20).2
      refine er rfl (qfH (f := (D.int .i64)) c_0_1 rfl qcO rfl rfl h20 (.tail _ (.tail _ (.head _)))) (er rfl (qjG rfl rfl (.tail _ (.tail _ (.head _))) (zaI hq_20_n) rfl rfl (by exact qfp) rfl) ?_)
      obtain ⟨r21, h21, hr⟩ := zb hr
      refine er rfl (qis _ rfl qdf (.oc rfl (.oc rfl .nil)) (by exact (pf0 _)) (IHR _ _ _ _ _ _ _ h21)) ?_
      refine rd rfl (qe2 (f := zl) [.tmp 75] [r21] rfl qba rfl rfl od od (.oc rfl .nil) qcR (fun _ => rfl)) ?_
      obtain ⟨l22, h22, hr⟩ := zb hr
      refine ew rfl (qau (f := zl) t12 [r21] rfl qba rfl rfl (asl rfl) (pf5 _ _ _ _ _ _ _) rfl qcR h22) ?_
      rintro _ _ ⟨u77_22, rfl, rfl⟩
      refine rd rfl (qh rfl qcB rfl) (z8 rfl (qds _ rfl rfl rfl (Wk.refl _) (pf5 _ _ _ _ _ _ _) rfl rfl (by exact qh5) rfl rfl rfl) ?_)
      refine st ?_
      refine rd rfl (qe4 rfl rfl rfl rfl) (qg 1 rfl (qax (qbc [0, 4, 5, 6, 7] rfl (qcz [_, _, _, _, _, _] _ (pS [1, 1, 5, 5, 5, 5] _) ?_))))
      exact IH0 _ _ _ oa ⟨(wr (i8 + (1 : Int))), t9, t10, t11, l22, u77_22, _, rfl, rfl, rfl, hr⟩
     ·
      refine qf4 rfl (qmL rfl (qbc [4, 6] rfl (qcz [_, _, _, _, _, _] _ (pS [2, 2, 2, 5, 5, 5] _) ?_)))
      exact HK0 _ _ ⟨t9, t10, t11, t12, u7, rfl, rfl, hr⟩
theorem qcS : ∀ (fuel : Nat) (a1 : Int) (c_0_0 : List qb) (c_0_1 : List Int) (b_o0 : Nat) (u_o1 : Value) (u_o2 : Value) (res : T), qq fuel a1 c_0_0 c_0_1 = some res → Spec Tryz.prog 204 [.ref b_o0 0 [], .int .i64 a1] [.cell b_o0 (.agg [.own u_o1 (c_0_0.map qa), .vec u_o2 c_0_1.length]), .row u_o1 c_0_0.length 259 4, .vec u_o2 (c_0_1.map (D.int .i64)) 3 1] (fun d σ => d = zl res ∧ σ = [.cell b_o0 (.agg [.own u_o1 (c_0_0.map qa), .vec u_o2 c_0_1.length]), .row u_o1 c_0_0.length 259 4, .vec u_o2 (c_0_1.map (D.int .i64)) 3 1])
 | 0, _, _, _, _, _, _, _, h => by cases h
 | fuel + 1, a1, c_0_0, c_0_1, b_o0, u_o1, u_o2, res, h => qhV fuel (qq fuel) (qcS fuel) a1 c_0_0 c_0_1 b_o0 u_o1 u_o2 res h
def qaL (k : Int → Option ((List (Int × T)) × Int)) (q27 : qb) : List (Int × T) → Nat → Option ((List (Int × T)) × Int)
 | [], k45 =>
 (k (k45 : Int))
 | q_59 :: rest, k45 =>
 (bif (decide (q_59.1 < q27.fe)) then
 (qaL k q27 rest (k45 + 1))
 else
 (k (k45 : Int)))
def qaI (k : Int → Option ((List (Int × T)) × Int)) (q27 : qb) : List (Int × T) → Nat → Option ((List (Int × T)) × Int)
 | [], k73 =>
 (k (k73 : Int))
 | q_87 :: rest, k73 =>
 (bif (decide (q_87.1 < q27.fe)) then
 (qaI k q27 rest (k73 + 1))
 else
 (k (k73 : Int)))
def qE (k : ((List (Int × T))) → Option ((List (Int × T)) × Int)) (fuel : Nat) (r12 : (List qj) × Bool) : Nat → (List (Int × T)) → Int → List qb → List Int → Option ((List (Int × T)) × Int)
 | 0, o19, i20, g21, g22 =>
 none
 | rest + 1, o19, i20, g21, g22 =>
 (bif (decide (i20 < (g21.length : Int))) then
 ((zh g22 i20).bind fun q26 =>
 ((zh g21 i20).bind fun q27 =>
 (bif (q27.fa != (1 : Int)) then
 (qE k fuel r12 rest o19 (wr (i20 + (1 : Int))) g21 g22)
 else
 ((qy q26 g21 g22).bind fun r29 =>
 (bif (decide (r29 < (0 : Int))) then
 ((qaO q26 g21 g22).bind fun r31 =>
 (bif (r31 == q27.fe) then
 (qE k fuel r12 rest o19 (wr (i20 + (1 : Int))) g21 g22)
 else
 ((zh r12.1 q26).bind fun q_33 =>
 (bif (decide (q_33.fh > (200 : Int))) then
 some ([], 6)
 else
 (bif (decide (q_33.fo > (20 : Int))) then
 some ([], 6)
 else
 ((qq fuel q26 g21 g22).bind fun r39 =>
 (qaL (fun k48 =>
 ((zS o19 0 k48).bind fun l51 =>
 ((zz 64 [] l51).bind fun l52 =>
 ((zz 64 l52 [(q27.fe, r39)]).bind fun l54 =>
 ((zS o19 k48 (o19.length : Int)).bind fun l56 =>
 ((zz 64 l54 l56).bind fun l57 =>
 (qE k fuel r12 rest l57 (wr (i20 + (1 : Int))) g21 g22))))))) q27 o19 0)))))))
 else
 ((zh r12.1 q26).bind fun q61 =>
 (bif (decide (q61.fh > (200 : Int))) then
 some ([], 6)
 else
 (bif (decide (q61.fo > (20 : Int))) then
 some ([], 6)
 else
 ((qq fuel q26 g21 g22).bind fun r67 =>
 (qaI (fun k76 =>
 ((zS o19 0 k76).bind fun l79 =>
 ((zz 64 [] l79).bind fun l80 =>
 ((zz 64 l80 [(q27.fe, r67)]).bind fun l82 =>
 ((zS o19 k76 (o19.length : Int)).bind fun l84 =>
 ((zz 64 l82 l84).bind fun l85 =>
 (qE k fuel r12 rest l85 (wr (i20 + (1 : Int))) g21 g22))))))) q27 o19 0))))))))))
 else
 (k o19))
def qF (k : List qb → List Int → Option ((List (Int × T)) × Int)) (a1 : List T) (fuel : Nat) : List T → Nat → List qb → List Int → Option ((List (Int × T)) × Int)
 | [], i5, t19_6, t19_7 =>
 (k t19_6 t19_7)
 | q_89 :: rest, i5, t19_6, t19_7 =>
 ((qJ fuel q_89 t19_6 t19_7).bind fun r90 =>
 ((zh a1 (i5 : Int)).bind fun q93 =>
 ((qJ fuel q93 r90.2.1 r90.2.2).bind fun r94 =>
 ((qab fuel r90.1 r94.1 r94.2.1 r94.2.2).bind fun r97 =>
 (bif (!r97.1) then
 some ([], 13)
 else
 (qF k a1 fuel rest (i5 + 1) r97.2.1 r97.2.2))))))
def qbV (fuel : Nat) (a0 : List T) (a1 : List T) : Option ((List (Int × T)) × Int) :=
 (qF (fun t19_10 t19_11 =>
 ((qbj fuel t19_10 t19_11).bind fun r12 =>
 (bif (!r12.2) then
 some ([], 13)
 else
 (qE (fun o24 =>
 some (o24, 0)) fuel r12 fuel [] 0 t19_10 t19_11)))) a1 fuel a0 0 [] [])
theorem qkD (fuel : Nat) (a0 : List T) (a1 : List T) (a : (List (Int × T)) × Int) (hr : qbV fuel a0 a1 = some a) : zg Tryz.prog 189 [.lst (a0.map zl), .lst (a1.map zl)] (.tup [.lst (a.1.map zq), .int .i64 a.2]) := by
 unfold qbV at hr
 refine qC Tryz.func189 rfl fun K C E => (qaC (zf 2 1 (ew rfl (qL 165 5 (.inl rfl)) ?_)))
 rintro _ _ ⟨u4_0, rfl, rfl⟩
 refine qg 1 rfl (qax (qaC (qoG 259 4 (qAv 3 1 od (zf 3 4 (rd rfl (qbz rfl qiV .nil (.nil _)) (ew rfl (qmx rfl rfl rfl) ?_)))))))
 rintro _ _ ⟨b19_1, rfl, rfl⟩
 refine st ?_
 obtain ⟨j, q, hr⟩ := exK (fun k => qF k a1 fuel a0 0 [] []) hr
 refine qc5 0 rfl (asl rfl) fun r => ?_
 simp only [jd] at r
 refine qz (fun env σ => ∃ (t19_10 : List qb) (t19_11 : List Int) (u8 : Value) (u9 : Value), env = [(6, .ref b19_1 0 [])] ∧ σ = [.cell b19_1 (.agg [.own u8 (t19_10.map qa), .vec u9 t19_11.length]), .row u8 t19_10.length 259 4, .vec u9 (t19_11.map (D.int .i64)) 3 1] ∧ j t19_10 t19_11 = some a) ?_ (fun F => ?_)
 ·
  rintro _ _ ⟨t19_10, t19_11, u8, u9, rfl, rfl, hr⟩
  rw [q] at hr
  refine qaC (zf 7 8 (qg 1 rfl ?_))
  obtain ⟨r12, h12, hr⟩ := zb hr
  refine er rfl (qis _ rfl qhT (.oc rfl .nil) (by exact (pf0 _)) (qhh fuel _ _ _ _ _ _ h12)) ?_
  refine st ?_
  refine zi 49 rfl hr (fun _ hr => ?_) (fun _ hr => ?_)
  ·
   refine st0 ?_
   refine zf 2 1 (ew rfl (qL 165 5 (.inl rfl)) ?_)
   rintro _ _ ⟨u4_13, rfl, rfl⟩
   refine st ?_
   cases hr
   refine qbg Tryz.func189 _ (.cons (za rfl (Wk.own _ _)) (.cons (za rfl (Wk.refl _)) .nil)) ?_
   rfl
  ·
   refine st0 ?_
   refine zf 1 1 (ew rfl (qL 165 5 (.inl rfl)) ?_)
   rintro _ _ ⟨u12_14, rfl, rfl⟩
   refine st ?_
   obtain ⟨l, s, hr⟩ := exK (fun k => qE k fuel r12 fuel [] 0 t19_10 t19_11) hr
   refine qz (fun env σ => ∃ (o24 : List (Int × T)) (u23 : Value), env = [(12, .own u23 (o24.map zq))] ∧ σ = [.row u23 o24.length 165 5] ∧ l o24 = some a) ?_ (fun t => ?_)
   ·
    rintro _ _ ⟨o24, u23, rfl, rfl, hr⟩
    rw [s] at hr
    refine st ?_
    cases hr
    refine qbg Tryz.func189 _ (.cons (za rfl (Wk.own _ _)) (.cons (za rfl (Wk.refl _)) .nil)) ?_
    rfl
   ·
    refine qbc [6, 10, 12, 13] rfl (qcz [_, _, _, _] _ (pS [0, 3, 3, 3] _) (qal (fun n env σ => ∃ (o19 : List (Int × T)) (i20 : Int) (g21 : List qb) (g22 : List Int) (u16 : Value) (u17 : Value) (u18 : Value) (n1 : Nat), (n1 = n) ∧ (env = [(6, .ref b19_1 0 []), (10, .lst (r12.1.map qo)), (12, .own u18 (o19.map zq)), (13, .int .i64 i20)]) ∧ (σ = [.cell b19_1 (.agg [.own u16 (g21.map qa), .vec u17 g22.length]), .row u16 g21.length 259 4, .vec u17 (g22.map (D.int .i64)) 3 1, .row u18 o19.length 165 5]) ∧ (qE l fuel r12 n1 o19 i20 g21 g22 = some a)) _ ⟨[], 0, t19_10, t19_11, u8, u9, u12_14, _, rfl, rfl, rfl, hr⟩ ?_))
    rintro n _ _ ⟨o19, i20, g21, g22, u16, u17, u18, n1, rfl, rfl, rfl, hr⟩ m
    cases n1 with
    | zero => rw [qE] at hr; cases hr
    | succ n1 =>
     rw [qE] at hr
     refine st0 ?_
     refine zf 7 512 (qg 2 rfl (rd rfl (qS rfl rfl) (rd rfl (qh rfl qm rfl) (qb4 0 rfl ?_))))
     refine st ?_
     refine zi 56 rfl hr (fun _ hr => ?_) (fun _ hr => ?_)
     ·
      refine st ?_
      refine qD (qaC (zf 8 10368 (qg 1 rfl (rd rfl (qS rfl rfl) (rd rfl (qh rfl qV rfl) (qb4 0 rfl (qg 1 rfl ?_)))))))
      obtain ⟨q26, h26, hr⟩ := zb hr
      have hq_26_n := (qb3 h26).2
      refine er rfl (qfH (f := (D.int .i64)) g22 rfl qcO rfl rfl h26 (.tail _ (.tail _ (.head _)))) (er rfl (qjG rfl rfl (.tail _ (.tail _ (.head _))) (zaI hq_26_n) rfl rfl (by exact qfp) rfl) ?_)
      refine st ?_
      refine qea 29 8830486315136 (qg 1 rfl (rd rfl (qS rfl rfl) (rd rfl (qh rfl qm rfl) (qb4 0 rfl (qg 1 rfl ?_)))))
      obtain ⟨q27, h27, hr⟩ := zb hr
      refine st ?_
      refine zt 75 rfl hr (fun _ hr => ?_) (fun _ hr => ?_)
      ·
       refine st ?_
       refine rd rfl (qe4 rfl rfl rfl rfl) ?_
       exact fin hr
      ·
       refine qg 2 rfl ?_
       obtain ⟨r29, h29, hr⟩ := zb hr
       refine er rfl (qis _ rfl qc7 (.oc rfl (.oc rfl .nil)) (by exact (pf0 _)) (qcH _ _ _ _ _ _ _ h29)) ?_
       refine qg 2 rfl ?_
       refine zt 80 rfl hr (fun _ hr => ?_) (fun _ hr => ?_)
       ·
        refine qg 2 rfl ?_
        obtain ⟨r31, h31, hr⟩ := zb hr
        refine er rfl (qis _ rfl qf1 (.oc rfl (.oc rfl .nil)) (by exact (pf0 _)) (qfy _ _ _ _ _ _ _ h31)) ?_
        refine qg 1 rfl (rd rfl (qS rfl rfl) (rd rfl (qh rfl qm rfl) (qb4 0 rfl ?_)))
        refine st ?_
        refine zi 94 rfl hr (fun _ hr => ?_) (fun _ hr => ?_)
        ·
         refine st ?_
         refine rd rfl (qe4 rfl rfl rfl rfl) ?_
         exact fin hr
        ·
         refine st ?_
         obtain ⟨q_33, h33, hr⟩ := zb hr
         refine st ?_
         refine zt 101 rfl hr (fun _ hr => ?_) (fun _ hr => ?_)
         ·
          refine st0 ?_
          refine zf 2 1 (ew rfl (qL 165 5 (.inl rfl)) ?_)
          rintro _ _ ⟨u4_34, rfl, rfl⟩
          refine st ?_
          cases hr
          refine qbg Tryz.func189 _ (.cons (za rfl (Wk.own _ _)) (.cons (za rfl (Wk.refl _)) .nil)) ?_
          rfl
         ·
          refine st ?_
          refine zi 108 rfl hr (fun _ hr => ?_) (fun _ hr => ?_)
          ·
           refine st0 ?_
           refine zf 2 1 (ew rfl (qL 165 5 (.inl rfl)) ?_)
           rintro _ _ ⟨u4_36, rfl, rfl⟩
           refine st ?_
           cases hr
           refine qbg Tryz.func189 _ (.cons (za rfl (Wk.own _ _)) (.cons (za rfl (Wk.refl _)) .nil)) ?_
           rfl
          ·
           refine st ?_
           obtain ⟨r39, h39, hr⟩ := zb hr
           refine qtm ob ob [(0, .d), (1, .d), (2, .d), (4, .d), (8, .d), (9, .d)] (.cons 3 [(5, .d), (6, .d), (7, .d)] (.cons 10 [(11, .d)] (.cons 12 [] (.cons 13 [] .nil .nil) .nil) (.cons 12 [] (.cons 10 [(11, .d)] (.cons 13 [] .nil .nil) .nil) .nil)) (.cons 10 [] (.cons 3 [(5, .d), (6, .d), (7, .d), (11, .d)] (.cons 12 [] (.cons 13 [] .nil .nil) .nil) (.cons 12 [] (.cons 3 [(5, .d), (6, .d), (7, .d), (11, .d)] (.cons 13 [] .nil .nil) .nil) .nil)) (.cons 12 [] (.cons 3 [(5, .d), (6, .d), (7, .d)] (.cons 10 [(11, .d)] (.cons 13 [] .nil .nil) .nil) (.cons 10 [] (.cons 3 [(5, .d), (6, .d), (7, .d), (11, .d)] (.cons 13 [] .nil .nil) .nil) .nil)) .nil))) ob (fun env σ => ∃ (b15_r20_37 : Nat), Sub [(6, .ref b19_1 0 []), (10, .lst (r12.1.map qo)), (12, .own u18 (o19.map zq)), (13, .int .i64 i20), (15, .ref b15_r20_37 0 [])] env ∧ σ.Perm [.cell b15_r20_37 (.agg [.int .i64 q27.fe, zl r39]), .cell b19_1 (.agg [.own u16 (g21.map qa), .vec u17 g22.length]), .row u16 g21.length 259 4, .vec u17 (g22.map (D.int .i64)) 3 1, .row u18 o19.length 165 5]) ?_ ?_
           ·
            repeat' (first | exact p_no | refine qye ?_ ?_ | refine qax ?_ | refine qg 1 rfl ?_ | refine rd rfl (qS rfl rfl) ?_ | refine rd rfl (qh rfl qm rfl) ?_ | refine zbk 0 rfl ?_ | refine qop h27 rfl ?_ | refine zbz rfl rfl rfl (qis _ rfl qdf (.oc rfl (.oc rfl .nil)) (by exact (pf0 _)) (qcS fuel _ _ _ _ _ _ _ h39)) ?_ | refine rd rfl (qbz rfl qlL (.oc rfl (.oc rfl .nil)) (.cons rfl rfl rfl (.cons rfl (qcR _) rfl (.nil _)))) ?_ | (refine ew rfl (qbi rfl qpd) ?_; rintro _ _ ⟨b, rfl, rfl⟩) | refine z8 rfl (qgk _ rfl rfl rfl (Wk.refl _) (pf0 _) (by exact qjk) (by first | rfl | simp [sz, szs, qdK, qcR]) (by first | rfl | simp [sz, szs, qdK, qcR]) rfl) ?_ | refine zbz rfl rfl rfl (qis _ rfl qdf (.oc rfl (.oc rfl .nil)) (by exact (pS [3, 3, 3] _)) (qcS fuel _ _ _ _ _ _ _ h39)) ?_ | refine zbk 1 rfl ?_ | (refine qzf ?_; exact ⟨_, sbr rfl, pkz⟩))
           ·
            rintro _ _ ⟨b15_r20_37, hs, hp⟩
            refine qn6 hs hp (qbR 15 b15_r20_37 rfl (pf0 _) (qaC (zf 1 1 (ew rfl (qL 165 5 (.inl rfl)) ?_))))
            rintro _ _ ⟨u16_39, rfl, rfl⟩
            refine st ?_
            obtain ⟨o, u, hr⟩ := exK (fun k => qaL k q27 o19 0) hr
            refine qc5 12 rfl (asl rfl) fun v => ?_
            simp only [jd] at v
            refine qz (fun env σ => ∃ (k48 : Int) (u46 : Value) (u47 : Value) (u49 : Value) (u50 : Value), env = [(6, .ref b19_1 0 []), (10, .lst (r12.1.map qo)), (12, .own u46 (o19.map zq)), (13, .int .i64 i20), (15, .ptr (.agg [.int .i64 q27.fe, zl r39])), (16, .own u47 ([].map zq)), (17, .int .i64 k48)] ∧ σ = [.cell b19_1 (.agg [.own u49 (g21.map qa), .vec u50 g22.length]), .row u49 g21.length 259 4, .vec u50 (g22.map (D.int .i64)) 3 1, .row u46 o19.length 165 5, .row u47 ([] : (List (Int × T))).length 165 5] ∧ o k48 = some a) ?_ (fun G => ?_)
            ·
             rintro _ _ ⟨k48, u46, u47, u49, u50, rfl, rfl, hr⟩
             rw [u] at hr
             refine qaC (zf 6 256 (qg 3 rfl ?_))
             obtain ⟨l51, h51, hr⟩ := zb hr
             refine rd rfl (qiR (f := zq) o19 0 k48 rfl qeu rfl (asl rfl) qgm (qgq rfl) qfP h51) ?_
             obtain ⟨l52, h52, hr⟩ := zb hr
             refine ew rfl (qau (f := zq) [] l51 rfl qeu rfl rfl (asl rfl) (pf4 _ _ _ _ _ _) rfl qfP h52) ?_
             rintro _ _ ⟨u141_52, rfl, rfl⟩
             refine st0 ?_
             refine zf 5 64 (qg 1 rfl (rd rfl (qj1 rfl rfl (by exact qjk) (by first | rfl | simp [sz, szs, qdK, qcR])) (rd rfl (qe2 (f := zq) [.tmp 143] [(q27.fe, r39)] rfl qeu rfl rfl od od (.oc rfl .nil) qfP (fun _ => rfl)) ?_)))
             obtain ⟨l54, h54, hr⟩ := zb hr
             refine ew rfl (qau (f := zq) l52 [(q27.fe, r39)] rfl qeu rfl rfl (asl rfl) (pf0 _) rfl qfP h54) ?_
             rintro _ _ ⟨u145_54, rfl, rfl⟩
             refine st0 ?_
             refine zf 6 256 (qg 3 rfl ?_)
             obtain ⟨l56, h56, hr⟩ := zb hr
             refine rd rfl (qiR (f := zq) o19 k48 (o19.length : Int) rfl qeu rfl (asl rfl) (qnD rfl) qnX qfP h56) ?_
             obtain ⟨l57, h57, hr⟩ := zb hr
             refine ew rfl (qau (f := zq) l54 l56 rfl qeu rfl rfl (asl rfl) (pf0 _) rfl qfP h57) ?_
             rintro _ _ ⟨u150_57, rfl, rfl⟩
             refine st ?_
             refine rd rfl (qe4 rfl rfl rfl rfl) (qg 1 rfl (qax (qbc [6, 10, 12, 13] rfl (qcz [_, _, _, _] _ (pS [0, 3, 3, 3] _) ?_))))
             exact m _ _ _ oa ⟨l57, (wr (i20 + (1 : Int))), g21, g22, u49, u50, u150_57, _, rfl, rfl, rfl, hr⟩
            ·
             refine qbc [6, 10, 12, 13, 15, 16, 17] rfl (qcz [_, _, _, _, _] _ (pS [0, 4, 4, 4, 4] _) (qal (fun n env σ => ∃ (k45 : Nat) (u41 : Value) (u42 : Value) (u43 : Value) (u44 : Value), n = o19.length - k45 ∧ (env = [(6, .ref b19_1 0 []), (10, .lst (r12.1.map qo)), (12, .own u43 (o19.map zq)), (13, .int .i64 i20), (15, .ptr (.agg [.int .i64 q27.fe, zl r39])), (16, .own u44 ([].map zq)), (17, .int .i64 (k45 : Int))]) ∧ (σ = [.cell b19_1 (.agg [.own u41 (g21.map qa), .vec u42 g22.length]), .row u41 g21.length 259 4, .vec u42 (g22.map (D.int .i64)) 3 1, .row u43 o19.length 165 5, .row u44 ([] : (List (Int × T))).length 165 5]) ∧ (k45 ≤ o19.length) ∧ (qaL o q27 (o19.drop k45) k45 = some a)) _ ⟨0, u16, u17, u18, u16_39, rfl, rfl, rfl, jf _, hr⟩ ?_))
             rintro n _ _ ⟨k45, u41, u42, u43, u44, rfl, rfl, rfl, w, hr⟩ H
             rcases zd o19 k45 w with ⟨c, e, I⟩ | ⟨q_59, c, e, J, L⟩
             ·
              rw [e, qaL] at hr
              refine st ?_
              refine qea 14 0 (qg 2 rfl (qjP rfl (qg 2 rfl (qhW 125 false rfl c ?_))))
              exact fin hr
             ·
              rw [e, qaL] at hr
              refine st ?_
              refine qea 14 0 (qg 2 rfl (qjP rfl (qg 2 rfl (qhW 125 true rfl c ?_))))
              refine st ?_
              refine zi 134 rfl hr (fun _ hr => ?_) (fun _ hr => ?_)
              ·
               refine st ?_
               refine qD ?_
               exact fin hr
              ·
               exact fin hr
       ·
        refine st ?_
        obtain ⟨q61, h61, hr⟩ := zb hr
        refine st ?_
        refine zt 101 rfl hr (fun _ hr => ?_) (fun _ hr => ?_)
        ·
         refine st0 ?_
         refine zf 2 1 (ew rfl (qL 165 5 (.inl rfl)) ?_)
         rintro _ _ ⟨u4_62, rfl, rfl⟩
         refine st ?_
         cases hr
         refine qbg Tryz.func189 _ (.cons (za rfl (Wk.own _ _)) (.cons (za rfl (Wk.refl _)) .nil)) ?_
         rfl
        ·
         refine st ?_
         refine zi 108 rfl hr (fun _ hr => ?_) (fun _ hr => ?_)
         ·
          refine st0 ?_
          refine zf 2 1 (ew rfl (qL 165 5 (.inl rfl)) ?_)
          rintro _ _ ⟨u4_64, rfl, rfl⟩
          refine st ?_
          cases hr
          refine qbg Tryz.func189 _ (.cons (za rfl (Wk.own _ _)) (.cons (za rfl (Wk.refl _)) .nil)) ?_
          rfl
         ·
          refine st ?_
          obtain ⟨r67, h67, hr⟩ := zb hr
          refine qtm ob ob [(0, .d), (1, .d), (2, .d), (4, .d), (8, .d), (9, .d)] (.cons 3 [(5, .d), (6, .d), (7, .d)] (.cons 10 [(11, .d)] (.cons 12 [] (.cons 13 [] .nil .nil) .nil) (.cons 12 [] (.cons 10 [(11, .d)] (.cons 13 [] .nil .nil) .nil) .nil)) (.cons 10 [] (.cons 3 [(5, .d), (6, .d), (7, .d), (11, .d)] (.cons 12 [] (.cons 13 [] .nil .nil) .nil) (.cons 12 [] (.cons 3 [(5, .d), (6, .d), (7, .d), (11, .d)] (.cons 13 [] .nil .nil) .nil) .nil)) (.cons 12 [] (.cons 3 [(5, .d), (6, .d), (7, .d)] (.cons 10 [(11, .d)] (.cons 13 [] .nil .nil) .nil) (.cons 10 [] (.cons 3 [(5, .d), (6, .d), (7, .d), (11, .d)] (.cons 13 [] .nil .nil) .nil) .nil)) .nil))) ob (fun env σ => ∃ (b15_r20_65 : Nat), Sub [(6, .ref b19_1 0 []), (10, .lst (r12.1.map qo)), (12, .own u18 (o19.map zq)), (13, .int .i64 i20), (15, .ref b15_r20_65 0 [])] env ∧ σ.Perm [.cell b15_r20_65 (.agg [.int .i64 q27.fe, zl r67]), .cell b19_1 (.agg [.own u16 (g21.map qa), .vec u17 g22.length]), .row u16 g21.length 259 4, .vec u17 (g22.map (D.int .i64)) 3 1, .row u18 o19.length 165 5]) ?_ ?_
          ·
           repeat' (first | exact p_no | refine qye ?_ ?_ | refine qax ?_ | refine qg 1 rfl ?_ | refine rd rfl (qS rfl rfl) ?_ | refine rd rfl (qh rfl qm rfl) ?_ | refine zbk 0 rfl ?_ | refine qop h27 rfl ?_ | refine zbz rfl rfl rfl (qis _ rfl qdf (.oc rfl (.oc rfl .nil)) (by exact (pf0 _)) (qcS fuel _ _ _ _ _ _ _ h67)) ?_ | refine rd rfl (qbz rfl qlL (.oc rfl (.oc rfl .nil)) (.cons rfl rfl rfl (.cons rfl (qcR _) rfl (.nil _)))) ?_ | (refine ew rfl (qbi rfl qpd) ?_; rintro _ _ ⟨b, rfl, rfl⟩) | refine z8 rfl (qgk _ rfl rfl rfl (Wk.refl _) (pf0 _) (by exact qjk) (by first | rfl | simp [sz, szs, qdK, qcR]) (by first | rfl | simp [sz, szs, qdK, qcR]) rfl) ?_ | refine zbz rfl rfl rfl (qis _ rfl qdf (.oc rfl (.oc rfl .nil)) (by exact (pS [3, 3, 3] _)) (qcS fuel _ _ _ _ _ _ _ h67)) ?_ | refine zbk 1 rfl ?_ | (refine qzf ?_; exact ⟨_, sbr rfl, pkz⟩))
          ·
           rintro _ _ ⟨b15_r20_65, hs, hp⟩
           refine qn6 hs hp (qbR 15 b15_r20_65 rfl (pf0 _) (qaC (zf 1 1 (ew rfl (qL 165 5 (.inl rfl)) ?_))))
           rintro _ _ ⟨u16_67, rfl, rfl⟩
           refine st ?_
           obtain ⟨p, x, hr⟩ := exK (fun k => qaI k q27 o19 0) hr
           refine qc5 12 rfl (asl rfl) fun y => ?_
           simp only [jd] at y
           refine qz (fun env σ => ∃ (k76 : Int) (u74 : Value) (u75 : Value) (u77 : Value) (u78 : Value), env = [(6, .ref b19_1 0 []), (10, .lst (r12.1.map qo)), (12, .own u74 (o19.map zq)), (13, .int .i64 i20), (15, .ptr (.agg [.int .i64 q27.fe, zl r67])), (16, .own u75 ([].map zq)), (17, .int .i64 k76)] ∧ σ = [.cell b19_1 (.agg [.own u77 (g21.map qa), .vec u78 g22.length]), .row u77 g21.length 259 4, .vec u78 (g22.map (D.int .i64)) 3 1, .row u74 o19.length 165 5, .row u75 ([] : (List (Int × T))).length 165 5] ∧ p k76 = some a) ?_ (fun M => ?_)
           ·
            rintro _ _ ⟨k76, u74, u75, u77, u78, rfl, rfl, hr⟩
            rw [x] at hr
            refine qaC (zf 6 256 (qg 3 rfl ?_))
            obtain ⟨l79, h79, hr⟩ := zb hr
            refine rd rfl (qiR (f := zq) o19 0 k76 rfl qeu rfl (asl rfl) qgm (qgq rfl) qfP h79) ?_
            obtain ⟨l80, h80, hr⟩ := zb hr
            refine ew rfl (qau (f := zq) [] l79 rfl qeu rfl rfl (asl rfl) (pf4 _ _ _ _ _ _) rfl qfP h80) ?_
            rintro _ _ ⟨u141_80, rfl, rfl⟩
            refine st0 ?_
            refine zf 5 64 (qg 1 rfl (rd rfl (qj1 rfl rfl (by exact qjk) (by first | rfl | simp [sz, szs, qdK, qcR])) (rd rfl (qe2 (f := zq) [.tmp 143] [(q27.fe, r67)] rfl qeu rfl rfl od od (.oc rfl .nil) qfP (fun _ => rfl)) ?_)))
            obtain ⟨l82, h82, hr⟩ := zb hr
            refine ew rfl (qau (f := zq) l80 [(q27.fe, r67)] rfl qeu rfl rfl (asl rfl) (pf0 _) rfl qfP h82) ?_
            rintro _ _ ⟨u145_82, rfl, rfl⟩
            refine st0 ?_
            refine zf 6 256 (qg 3 rfl ?_)
            obtain ⟨l84, h84, hr⟩ := zb hr
            refine rd rfl (qiR (f := zq) o19 k76 (o19.length : Int) rfl qeu rfl (asl rfl) (qnD rfl) qnX qfP h84) ?_
            obtain ⟨l85, h85, hr⟩ := zb hr
            refine ew rfl (qau (f := zq) l82 l84 rfl qeu rfl rfl (asl rfl) (pf0 _) rfl qfP h85) ?_
            rintro _ _ ⟨u150_85, rfl, rfl⟩
            refine st ?_
            refine rd rfl (qe4 rfl rfl rfl rfl) (qg 1 rfl (qax (qbc [6, 10, 12, 13] rfl (qcz [_, _, _, _] _ (pS [0, 3, 3, 3] _) ?_))))
            exact m _ _ _ oa ⟨l85, (wr (i20 + (1 : Int))), g21, g22, u77, u78, u150_85, _, rfl, rfl, rfl, hr⟩
           ·
            refine qbc [6, 10, 12, 13, 15, 16, 17] rfl (qcz [_, _, _, _, _] _ (pS [0, 4, 4, 4, 4] _) (qal (fun n env σ => ∃ (k73 : Nat) (u69 : Value) (u70 : Value) (u71 : Value) (u72 : Value), n = o19.length - k73 ∧ (env = [(6, .ref b19_1 0 []), (10, .lst (r12.1.map qo)), (12, .own u71 (o19.map zq)), (13, .int .i64 i20), (15, .ptr (.agg [.int .i64 q27.fe, zl r67])), (16, .own u72 ([].map zq)), (17, .int .i64 (k73 : Int))]) ∧ (σ = [.cell b19_1 (.agg [.own u69 (g21.map qa), .vec u70 g22.length]), .row u69 g21.length 259 4, .vec u70 (g22.map (D.int .i64)) 3 1, .row u71 o19.length 165 5, .row u72 ([] : (List (Int × T))).length 165 5]) ∧ (k73 ≤ o19.length) ∧ (qaI p q27 (o19.drop k73) k73 = some a)) _ ⟨0, u16, u17, u18, u16_67, rfl, rfl, rfl, jf _, hr⟩ ?_))
            rintro n _ _ ⟨k73, u69, u70, u71, u72, rfl, rfl, rfl, z, hr⟩ N
            rcases zd o19 k73 z with ⟨g, h, O⟩ | ⟨q_87, g, h, P, Q⟩
            ·
             rw [h, qaI] at hr
             refine st ?_
             refine qea 14 0 (qg 2 rfl (qjP rfl (qg 2 rfl (qhW 125 false rfl g ?_))))
             exact fin hr
            ·
             rw [h, qaI] at hr
             refine st ?_
             refine qea 14 0 (qg 2 rfl (qjP rfl (qg 2 rfl (qhW 125 true rfl g ?_))))
             refine st ?_
             refine zi 134 rfl hr (fun _ hr => ?_) (fun _ hr => ?_)
             ·
              refine st ?_
              refine qD ?_
              exact fin hr
             ·
              exact fin hr
     ·
      refine qf4 rfl (qmL rfl (qbc [12] rfl (qcz [_] _ (pf3 _ _ _ _ _) ?_)))
      exact t _ _ ⟨o19, u18, rfl, rfl, hr⟩
 refine qbc [0, 1, 6, 7] rfl (qcz [_, _, _] _ (pS [1, 2, 2] _) (qal (fun n env σ => ∃ (i5 : Nat) (t19_6 : List qb) (t19_7 : List Int) (u3 : Value) (u4 : Value), n = a0.length - i5 ∧ (env = [(0, .lst (a0.map zl)), (1, .lst (a1.map zl)), (6, .ref b19_1 0 []), (7, .int .i64 (i5 : Int))]) ∧ (σ = [.cell b19_1 (.agg [.own u3 (t19_6.map qa), .vec u4 t19_7.length]), .row u3 t19_6.length 259 4, .vec u4 (t19_7.map (D.int .i64)) 3 1]) ∧ (i5 ≤ a0.length) ∧ (qF j a1 fuel (a0.drop i5) i5 t19_6 t19_7 = some a)) _ ⟨0, [], [], (.slice none 0 0 ), (.slice none 0 0  ), rfl, rfl, rfl, jf _, hr⟩ ?_))
 rintro n _ _ ⟨i5, t19_6, t19_7, u3, u4, rfl, rfl, rfl, A, hr⟩ R
 rcases zd a0 i5 A with ⟨B, i, S⟩ | ⟨q_89, B, i, U, V⟩
 rw [i, qF] at hr
 exact fin hr
 rw [i, qF] at hr
 refine st ?_
 refine qD (qaC (zf 7 1024 ?_))
 refine st ?_
 obtain ⟨r90, h90, hr⟩ := zb hr
 refine ew rfl (qiL _ rfl qd4 (.oc rfl (.oc rfl .nil)) (by exact (pf0 _)) (qeA fuel _ _ _ _ _ _ _ h90)) ?_
 rintro _ _ ⟨_, ⟨u31_90, u31_91, rfl, rfl⟩, rfl⟩
 refine zav ((.cell b19_1 (.agg [.own u31_90 (r90.2.1.map qa), .vec u31_91 r90.2.2.length])) :: (.row u31_90 r90.2.1.length 259 4) :: (.vec u31_91 (r90.2.2.map (D.int .i64)) 3 1) :: _) rfl ?_
 refine st0 ?_
 refine zf 7 1024 (qg 3 rfl ?_)
 obtain ⟨q93, h93, hr⟩ := zb hr
 refine st ?_
 obtain ⟨r94, h94, hr⟩ := zb hr
 refine ew rfl (qiL _ rfl qd4 (.oc rfl (.oc rfl .nil)) (by exact (pf0 _)) (qeA fuel _ _ _ _ _ _ _ h94)) ?_
 rintro _ _ ⟨_, ⟨u37_94, u37_95, rfl, rfl⟩, rfl⟩
 refine zav ((.cell b19_1 (.agg [.own u37_94 (r94.2.1.map qa), .vec u37_95 r94.2.2.length])) :: (.row u37_94 r94.2.1.length 259 4) :: (.vec u37_95 (r94.2.2.map (D.int .i64)) 3 1) :: _) rfl ?_
 refine st0 ?_
 refine zf 5 64 (qg 3 rfl ?_)
 obtain ⟨r97, h97, hr⟩ := zb hr
 refine ew rfl (qiL _ rfl qgb (.oc rfl (.oc rfl (.oc rfl .nil))) (by exact (pf0 _)) (qfK fuel _ _ _ _ _ _ _ _ h97)) ?_
 rintro _ _ ⟨_, ⟨u41_97, u41_98, rfl, rfl⟩, rfl⟩
 refine zav ((.cell b19_1 (.agg [.own u41_97 (r97.2.1.map qa), .vec u41_98 r97.2.2.length])) :: (.row u41_97 r97.2.1.length 259 4) :: (.vec u41_98 (r97.2.2.map (D.int .i64)) 3 1) :: _) rfl ?_
 refine st ?_
 refine zi 42 rfl hr (fun _ hr => ?_) (fun _ hr => ?_)
 refine st0 ?_
 refine zf 2 1 (ew rfl (qL 165 5 (.inl rfl)) ?_)
 rintro _ _ ⟨u4_100, rfl, rfl⟩
 refine st ?_
 cases hr
 refine qbg Tryz.func189 _ (.cons (za rfl (Wk.own _ _)) (.cons (za rfl (Wk.refl _)) .nil)) ?_
 rfl
 exact fin hr
def qca (k : Option ((List (Int × T)) × Int)) : List T → Option ((List (Int × T)) × Int)
 | [] =>
 k
 | q_5 :: rest =>
 ((qj6 q_5).bind fun r6 =>
 (bif (!r6) then
 some ([], 2)
 else
 (qca k rest)))
def qb6 (k : Option ((List (Int × T)) × Int)) : List T → Option ((List (Int × T)) × Int)
 | [] =>
 k
 | q_8 :: rest =>
 ((qj6 q_8).bind fun r9 =>
 (bif (!r9) then
 some ([], 2)
 else
 (qb6 k rest)))
def qaz (fuel : Nat) (a0 : List T) (a1 : List T) : Option ((List (Int × T)) × Int) :=
 (qb6 ((qca ((bif ((a0.length : Int) != (a1.length : Int)) then
 some ([], 9)
 else
 ((qbV fuel a0 a1).bind fun r4 =>
 some (r4.1, r4.2)))) a1)) a0)
theorem qik (fuel : Nat) (a0 : List T) (a1 : List T) (a : (List (Int × T)) × Int) (hr : qaz fuel a0 a1 = some a) : zg Tryz.prog 175 [.lst (a0.map zl), .lst (a1.map zl)] (.tup [.lst (a.1.map zq), .int .i64 a.2]) := by
 unfold qaz at hr
 refine qC Tryz.func175 rfl fun K q r => ?_
 refine st ?_
 obtain ⟨d, g, hr⟩ := exK (fun k => qb6 k a0) hr
 refine qc5 0 rfl (asl rfl) fun h => ?_
 simp only [jd] at h
 refine qz (fun env σ => env = [(0, .lst (a0.map zl)), (1, .lst (a1.map zl))] ∧ σ = [] ∧ d = some a) ?_ (fun s => ?_)
 rintro _ _ ⟨rfl, rfl, hr⟩
 rw [g] at hr
 refine st ?_
 obtain ⟨e, i, hr⟩ := exK (fun k => qca k a1) hr
 refine qc5 1 rfl (asl rfl) fun j => ?_
 simp only [jd] at j
 refine qz (fun env σ => env = [(0, .lst (a0.map zl)), (1, .lst (a1.map zl))] ∧ σ = [] ∧ e = some a) ?_ (fun t => ?_)
 rintro _ _ ⟨rfl, rfl, hr⟩
 rw [i] at hr
 refine st ?_
 refine zi 36 rfl hr (fun _ hr => ?_) (fun _ hr => ?_)
 refine st ?_
 cases hr
 refine qbg Tryz.func175 _ (.cons (za rfl (Wk.full _)) (.cons (za rfl (Wk.refl _)) .nil)) ?_
 rfl
 refine st ?_
 refine zk hr rfl qkE (qkD fuel _ _) (fun r4 h4 hr => ?_)
 exact fin hr
 refine qbc [0, 1, 7] rfl (qal (fun n env σ => ∃ (i2 : Nat), n = a1.length - i2 ∧ (env = [(0, .lst (a0.map zl)), (1, .lst (a1.map zl)), (7, .int .i64 (i2 : Int))]) ∧ (σ = []) ∧ (i2 ≤ a1.length) ∧ (qca e (a1.drop i2) = some a)) _ ⟨0, rfl, rfl, rfl, jf _, hr⟩ ?_)
 rintro n _ _ ⟨i2, rfl, rfl, rfl, l, hr⟩ u
 rcases zd a1 i2 l with ⟨m, b, v⟩ | ⟨q_5, m, b, w, x⟩
 rw [b, qca] at hr
 exact fin hr
 rw [b, qca] at hr
 refine st ?_
 refine qD ?_
 refine st ?_
 obtain ⟨r6, h6, hr⟩ := zb hr
 refine qem rfl qdM (qdQ _ _ h6) ?_
 refine st ?_
 refine zi 31 rfl hr (fun _ hr => ?_) (fun _ hr => ?_)
 refine st ?_
 cases hr
 refine qbg Tryz.func175 _ (.cons (za rfl (Wk.full _)) (.cons (za rfl (Wk.refl _)) .nil)) ?_
 rfl
 exact fin hr
 refine qbc [0, 1, 6] rfl (qal (fun n env σ => ∃ (i1 : Nat), n = a0.length - i1 ∧ (env = [(0, .lst (a0.map zl)), (1, .lst (a1.map zl)), (6, .int .i64 (i1 : Int))]) ∧ (σ = []) ∧ (i1 ≤ a0.length) ∧ (qb6 d (a0.drop i1) = some a)) _ ⟨0, rfl, rfl, rfl, jf _, hr⟩ ?_)
 rintro n _ _ ⟨i1, rfl, rfl, rfl, o, hr⟩ y
 rcases zd a0 i1 o with ⟨p, c, z⟩ | ⟨q_8, p, c, A, B⟩
 rw [c, qb6] at hr
 exact fin hr
 rw [c, qb6] at hr
 refine st ?_
 refine qD ?_
 refine st ?_
 obtain ⟨r9, h9, hr⟩ := zb hr
 refine qem rfl qdM (qdQ _ _ h9) ?_
 refine st ?_
 refine zi 19 rfl hr (fun _ hr => ?_) (fun _ hr => ?_)
 refine st ?_
 cases hr
 refine qbg Tryz.func175 _ (.cons (za rfl (Wk.full _)) (.cons (za rfl (Wk.refl _)) .nil)) ?_
 rfl
 exact fin hr
def qff (fuel : Nat) (a0 : T) (a1 : T) : Option ((List (Int × T)) × Int) :=
 ((qaz fuel [a0] [a1]).bind fun r1 =>
 some (r1.1, r1.2))
theorem qkV (fuel : Nat) (a0 : T) (a1 : T) (a : (List (Int × T)) × Int) (hr : qff fuel a0 a1 = some a) : zg Tryz.prog 196 [zl a0, zl a1] (.tup [.lst (a.1.map zq), .int .i64 a.2]) := by
 unfold qff at hr
 refine qC Tryz.func196 rfl fun K b c => ?_
 refine st ?_
 refine rd rfl (qcA rfl rfl rfl) (rd rfl (qcA rfl rfl rfl) ?_)
 refine st ?_
 refine rd rfl (qe2 (f := zl) [.tmp 6] [a0] rfl qba rfl rfl od od (.oc rfl .nil) qcR (fun _ => rfl)) (qg 1 rfl (rd rfl (qe2 (f := zl) [.tmp 8] [a1] rfl qba rfl rfl od od (.oc rfl .nil) qcR (fun _ => rfl)) ?_))
 obtain ⟨r1, h1, hr⟩ := zb hr
 refine rd rfl (by exact qiv rfl qio (.cons rfl (Wk.full _) (.cons rfl (Wk.full _) .nil)) (qik fuel _ _ _ h1)) ?_
 exact fin hr
def qb0 (fuel : Nat) (a0 : T) (a1 : T) : Option Bool :=
 ((qff fuel a0 a1).bind fun r1 =>
 (bif (r1.2 == (0 : Int)) then
 some (true)
 else
 some ((r1.2 == (6 : Int)))))
theorem qgF (fuel : Nat) (a0 : T) (a1 : T) (a : Bool) (hr : qb0 fuel a0 a1 = some a) : zg Tryz.prog 185 [zl a0, zl a1] (.bool a) := by
 unfold qb0 at hr
 refine qC Tryz.func185 rfl fun K b c => ?_
 refine st ?_
 refine rd rfl (qcA rfl rfl rfl) (rd rfl (qcA rfl rfl rfl) ?_)
 refine st ?_
 refine zk hr rfl qk6 (qkV fuel _ _) (fun r1 h1 hr => ?_)
 refine st ?_
 refine zt 15 rfl hr (fun _ hr => ?_) (fun _ hr => ?_)
 exact fin hr
 exact fin hr
def qd1 (fuel : Nat) (a0 : Gl) : Option Int :=
 ((qdu a0).bind fun r1 =>
 (bif (!r1) then
 (bif (a0.op == (1 : Int)) then
 ((qhY a0).bind fun r4 =>
 ((qP r4).bind fun r5 =>
 some (r5)))
 else
 ((qP false).bind fun r6 =>
 some (r6)))
 else
 ((zh a0.ts 0).bind fun q_7 =>
 (bif (a0.op == (11 : Int)) then
 (bif (q_7.k == (1 : Int)) then
 some (0)
 else
 ((qP (q_7.k == (0 : Int))).bind fun r11 =>
 some (r11)))
 else
 (bif (a0.op == (12 : Int)) then
 ((qcW fuel q_7).bind fun r13 =>
 (bif r13 then
 some (1)
 else
 some (0)))
 else
 ((zh a0.ts 1).bind fun q_15 =>
 (bif (a0.op != (5 : Int)) then
 (bif (a0.op != (6 : Int)) then
 ((qei fuel a0.op q_7 q_15).bind fun r19 =>
 some (r19))
 else
 ((qmc q_7 q_15).bind fun r20 =>
 (bif r20 then
 ((qP (a0.op == (5 : Int))).bind fun r22 =>
 some (r22))
 else
 ((qb0 fuel q_7 q_15).bind fun r23 =>
 (bif (!r23) then
 ((qP (a0.op == (6 : Int))).bind fun r25 =>
 some (r25))
 else
 some (0))))))
 else
 ((qmc q_7 q_15).bind fun r26 =>
 (bif r26 then
 ((qP (a0.op == (5 : Int))).bind fun r28 =>
 some (r28))
 else
 ((qb0 fuel q_7 q_15).bind fun r29 =>
 (bif (!r29) then
 ((qP (a0.op == (6 : Int))).bind fun r31 =>
 some (r31))
 else
 some (0))))))))))))
theorem qla (fuel : Nat) (a0 : Gl) (a : Int) (hr : qd1 fuel a0 = some a) : zg Tryz.prog 169 [zB a0] (.int .i64 a) := by
 unfold qd1 at hr
 refine qC Tryz.func169 rfl fun K b c => ?_
 refine st ?_
 refine rd rfl (qcA rfl rfl rfl) ?_
 refine st ?_
 refine zk hr rfl qhl (qhn _) (fun r1 h1 hr => ?_)
 refine st ?_
 refine zi 7 rfl hr (fun _ hr => ?_) (fun _ hr => ?_)
 refine st ?_
 refine zt 11 rfl hr (fun _ hr => ?_) (fun _ hr => ?_)
 refine qg 1 rfl ?_
 obtain ⟨r4, h4, hr⟩ := zb hr
 refine qem rfl qco (qcm _ _ h4) (qg 1 rfl ?_)
 refine zk hr rfl qbD (qbA _) (fun r5 h5 hr => ?_)
 exact fin hr
 refine qg 3 rfl ?_
 refine zk hr rfl qbD (qbA _) (fun r6 h6 hr => ?_)
 exact fin hr
 refine st0 ?_
 refine zf 6 1280 (qg 2 rfl ?_)
 obtain ⟨q_7, h7, hr⟩ := zb hr
 refine st ?_
 refine ew rfl (qbi rfl qeH) ?_
 rintro _ _ ⟨b3_7, rfl, rfl⟩
 refine qcw rfl (pf0 _) (qax (qbR 3 b3_7 rfl (pf0 _) ?_))
 refine st ?_
 refine qD ?_
 refine st ?_
 refine zi 22 rfl hr (fun _ hr => ?_) (fun _ hr => ?_)
 refine st ?_
 refine rd rfl (qH rfl qcn rfl (qfJ _) (qfM _) rfl) ?_
 refine st ?_
 refine zi 26 rfl hr (fun _ hr => ?_) (fun _ hr => ?_)
 exact fin hr
 refine st ?_
 refine rd rfl (qH rfl qcn rfl (qfJ _) (qfM _) rfl) (qg 2 rfl ?_)
 refine zk hr rfl qbD (qbA _) (fun r11 h11 hr => ?_)
 exact fin hr
 refine st ?_
 refine zi 31 rfl hr (fun _ hr => ?_) (fun _ hr => ?_)
 refine st ?_
 refine zk hr rfl qfT (qfS fuel _) (fun r13 h13 hr => ?_)
 refine qax ?_
 refine zi 34 rfl hr (fun _ hr => ?_) (fun _ hr => ?_)
 exact fin hr
 exact fin hr
 refine st0 ?_
 refine zf 6 1280 (qg 2 rfl ?_)
 obtain ⟨q_15, h15, hr⟩ := zb hr
 refine st ?_
 refine ew rfl (qbi rfl qeH) ?_
 rintro _ _ ⟨b4_15, rfl, rfl⟩
 refine qcw rfl (pf0 _) (qax (qbR 4 b4_15 rfl (pf0 _) ?_))
 refine st ?_
 refine zt 42 rfl hr (fun _ hr => ?_) (fun _ hr => ?_)
 refine st ?_
 refine zi 46 rfl hr (fun _ hr => ?_) (fun _ hr => ?_)
 refine st ?_
 refine zk hr rfl qkl (qkg fuel _ _ _) (fun r19 h19 hr => ?_)
 exact fin hr
 refine st ?_
 obtain ⟨r20, h20, hr⟩ := zb hr
 refine qem rfl qfj (qfm _ _ _ h20) (qax ?_)
 refine zi 54 rfl hr (fun _ hr => ?_) (fun _ hr => ?_)
 refine st ?_
 refine zk hr rfl qbD (qbA _) (fun r22 h22 hr => ?_)
 exact fin hr
 refine st ?_
 refine zk hr rfl qgE (qgF fuel _ _) (fun r23 h23 hr => ?_)
 refine st ?_
 refine zi 62 rfl hr (fun _ hr => ?_) (fun _ hr => ?_)
 refine st ?_
 refine zk hr rfl qbD (qbA _) (fun r25 h25 hr => ?_)
 exact fin hr
 exact fin hr
 refine st ?_
 obtain ⟨r26, h26, hr⟩ := zb hr
 refine qem rfl qfj (qfm _ _ _ h26) (qax ?_)
 refine zi 54 rfl hr (fun _ hr => ?_) (fun _ hr => ?_)
 refine st ?_
 refine zk hr rfl qbD (qbA _) (fun r28 h28 hr => ?_)
 exact fin hr
 refine st ?_
 refine zk hr rfl qgE (qgF fuel _ _) (fun r29 h29 hr => ?_)
 refine st ?_
 refine zi 62 rfl hr (fun _ hr => ?_) (fun _ hr => ?_)
 refine st ?_
 refine zk hr rfl qbD (qbA _) (fun r31 h31 hr => ?_)
 exact fin hr
 exact fin hr
end
end Go.Proofs.YtamoolpdganckaaGreat
