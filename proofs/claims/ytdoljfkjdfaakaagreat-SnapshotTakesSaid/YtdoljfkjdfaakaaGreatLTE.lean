/-
  Texts of the seat, merged.
-/
import Derived.Test.YtdoljfkjdfaakaaGreatLTA
import Derived.Test.YtdoljfkjdfaakaaGreatLTB
import Derived.Test.YtdoljfkjdfaakaaGreatLTC
import Derived.Test.YtdoljfkjdfaakaaGreatLTD
import Derived.Test.YtdoljfkjdfaakaaGreatChecked
import Derived.WalkKit
import Derived.Lib.Hide
import Derived.Lib.AppendStr
import Derived.Deep.AppendLies
import Derived.Deep.AppendSrc
import Derived.Deep.Draws
import Derived.Deep.QuietTactic
import Derived.BigQuiet
import Derived.Deep.RegionWith
import Derived.Maps.AppendAt
import Derived.WalkSpells
import Derived.Orders
import Derived.Deep.Slices
import Derived.Deep.Fields
import Derived.ChangeArms
import Derived.Lib.OthersKept
import Derived.Lib.TrimU
import Derived.Lib.IndexAny
import Derived.Deep.LoopGhost
import Derived.Lib.Bytealg
import Derived.RangeFuncBox
import Derived.RangeFuncNested
import Derived.RangeFuncBound
import Derived.RangeFuncCalls
import Derived.RangeFuncLeaves
import Derived.Shelf.Abstract
import Derived.OwnWalkIn
import Derived.TacticsInMore
import Derived.LoopNIn
import Derived.LoopIn
import Derived.RangeFuncWrites
import Derived.Maps.OwnIn
import Derived.Maps.Views
import Derived.Laws.OwnMore
import Derived.Maps.OwnSet
import Derived.Laws.IdiomStrings
import Derived.Test.YtdoljfkjdfaakaaGreatRows
import Derived.ProofKit
import Derived.OpenShut
import Derived.Carry
import Derived.OrdersIn
import Derived.Great.BuildSlice
import Derived.ArgAppend
import Derived.Laws.MakeOwn
import Derived.Laws.Cover3
import Derived.Laws.CopyRow
import Derived.MapKept
import Derived.Maps.RangeRun
import Derived.DeepKeys5
import Derived.WideKeyRuns
set_option linter.unusedVariables false
set_option linter.unusedSimpArgs false
set_option linter.unnecessarySimpa false
set_option linter.all false
namespace Go.Proofs.YtdoljfkjdfaakaaGreat
set_option maxRecDepth 100000
open Go.RowKit
structure qb where
  f0_b : (List Int)
  f1_at : Int
def qc (x : qb) : D := .agg [.lst (x.f0_b.map (D.int .u8)), .int .i64 x.f1_at]
noncomputable def qbn (next_a1 : Int) (e_a2 : Int) (c_0 : qb) : Option (Int ⊕ (qb)) :=
  (bif (e_a2 != (0 : Int)) then
  some (.inl e_a2)
  else
  some (.inr ((⟨c_0.f0_b, next_a1⟩ : qb))))
set_option maxHeartbeats 1000000 in
theorem qcZ (next_a1 : Int) (e_a2 : Int) (c_0 : qb) (b_o0 : Nat) (res : Int ⊕ (qb)) (hr : qbn next_a1 e_a2 c_0 = some res) : SpecX Tryz.prog 141 [.ref b_o0 0 [], .int .i64 next_a1, .int .i64 e_a2] [.cell b_o0 (qc c_0)] (fun d σ => ∃ r : qb, res = .inr r ∧ d = .tup [] ∧ σ = [.cell b_o0 (qc r)]) (fun d => ∃ c, res = .inl c ∧ d = .ifc 191 (.agg [.int .i64 c])) := by
  unfold qbn at hr
  refine qbL [(0, .ref b_o0 0 []), (1, .int .i64 next_a1), (2, .int .i64 e_a2)] Tryz.func141 rfl rfl fun K hK hX => (qk (qk (gr [.d, .d] (r_d rfl rfl rfl (qe rfl rfl) (r_d rfl rfl rfl (qX rfl rfl rfl rfl) (ql ?_))))))
  refine g_sB 7 rfl hr (fun h7_0 hr => ?_) (fun h7_0 hr => ?_)
  ·
   refine qC rfl (gr [.d, .d, .d, .w] (r_d rfl rfl rfl (qe rfl rfl) (r_d rfl rfl rfl (qbT rfl qc8 (.oc rfl .nil) (.cons rfl rfl rfl (.nil _))) (r_d rfl rfl rfl (qhS rfl Tryz.underlying191 rfl) ?_))))
   obtain rfl := Option.some.inj hr
   refine qb1 rfl rfl (qrf rfl rfl) (hX _ ⟨_, rfl, rfl⟩)
  ·
   refine qB rfl (qab (gr [.d, .d, .d, .d, .w] (r_d rfl rfl rfl (qe rfl rfl) (r_d rfl rfl rfl (qe rfl rfl) (r_d rfl rfl rfl (qv rfl rfl) (r_d rfl rfl rfl (qo rfl qdE rfl) (qaa rfl rfl rfl (qV _ rfl rfl rfl (Wk.refl _) (pf0 _) rfl rfl (by exact qaF) rfl rfl rfl) (ql ?_))))))))
   obtain rfl := Option.some.inj hr
   refine qfd Tryz.func141 _ .nil ?_
   exact ⟨_, rfl, rfl, rfl⟩
noncomputable def qq (low_a1 : Int) (high_a2 : Int) (c_0 : qb) : Option (Int ⊕ (Int × qb)) :=
  ((qpY c_0.f0_b c_0.f1_at low_a1 high_a2).bind fun r_1 =>
  (bindX (qbn r_1.2.1 r_1.2.2 c_0) fun r_2 =>
  some (.inr (r_1.1, r_2))))
set_option maxHeartbeats 1000000 in
theorem qm (low_a1 : Int) (high_a2 : Int) (c_0 : qb) (b_o0 : Nat) (res : Int ⊕ (Int × qb)) (hr : qq low_a1 high_a2 c_0 = some res) : SpecX Tryz.prog 51 [.ref b_o0 0 [], .int .i64 low_a1, .int .i64 high_a2] [.cell b_o0 (qc c_0)] (fun d σ => ∃ r : Int × qb, res = .inr r ∧ d = .int .i64 r.1 ∧ σ = [.cell b_o0 (qc r.2)]) (fun d => ∃ c, res = .inl c ∧ d = .ifc 191 (.agg [.int .i64 c])) := by
  unfold qq at hr
  refine qbL [(0, .ref b_o0 0 []), (1, .int .i64 low_a1), (2, .int .i64 high_a2)] Tryz.func51 rfl rfl fun K hK hX => (qk (gr [.d] (r_d rfl rfl rfl (qj rfl rfl) (ql (qk (qpe (by kernel_rfl) (by kernel_rfl) [(0, .d), (1, .d), (2, .d), (3, .r), (4, .d), (5, .d), (6, .d), (7, .r), (8, .d), (9, .d), (10, .d), (11, .d), (12, .d), (13, .d), (14, .d), (15, .d), (16, .d), (17, .d)] (by kernel_rfl) (r_d rfl rfl rfl (qe rfl rfl) (r_d rfl rfl rfl (qv rfl rfl) (r_d rfl rfl rfl (qo rfl qgN rfl) (r_r rfl rfl rfl (qx rfl rfl (.head _) rfl rfl (by exact qc5) rfl) (r_d rfl rfl rfl (qe rfl rfl) ?_)))))))))))
  refine r_d rfl rfl rfl (qv rfl rfl) (r_d rfl rfl rfl (qo rfl qdE rfl) (r_r rfl rfl rfl (qx rfl rfl (.head _) rfl rfl (by exact qaF) rfl) (r_d rfl rfl rfl (qe rfl rfl) (r_d rfl rfl rfl (qe rfl rfl) ?_))))
  obtain ⟨r_1, hr_1, hr⟩ := bindS hr
  refine r_d rfl rfl rfl (qal rfl qor (.oc rfl (.oc rfl (.oc rfl (.oc rfl .nil)))) (qn3 _ _ _ _ _ hr_1)) (r_d rfl rfl rfl (qe rfl rfl) (r_d rfl rfl rfl (qaz rfl rfl rfl) (r_d rfl rfl rfl (qaz rfl rfl rfl) (r_d rfl rfl rfl (qaz rfl rfl rfl) (r_d rfl rfl rfl (qj rfl rfl) (r_d rfl rfl rfl (qj rfl rfl) (r_d rfl rfl rfl (qj rfl rfl) (ql (qk (gr [.d, .d, .d, .w] (r_d rfl rfl rfl (qe rfl rfl) ?_)))))))))))
  refine r_d rfl rfl rfl (qe rfl rfl) (r_d rfl rfl rfl (qe rfl rfl) ?_)
  rcases bindXS hr with ⟨c_r_2, hr_2, rfl⟩ | ⟨r_2, hr_2, hr⟩
  ·
   refine qb1 rfl rfl (qa0 _ rfl qdk (.oc rfl (.oc rfl (.oc rfl .nil))) (by exact (pf0 _)) (qN (qcZ _ _ _ _ _ hr_2))) (hX _ ⟨_, rfl, rfl⟩)
  ·
   refine r_w rfl rfl rfl (qF _ rfl qdk (.oc rfl (.oc rfl (.oc rfl .nil))) (by exact (pf0 _)) (qO (qcZ _ _ _ _ _ hr_2))) ?_
   rintro _ _ ⟨_, ⟨rfl, rfl⟩, rfl⟩
   refine r_st ((.cell b_o0 (qc r_2)) :: _) rfl (ql (qk (gr [.d, .d] (r_d rfl rfl rfl (qe rfl rfl) (r_d rfl rfl rfl (qj rfl rfl) (ql ?_))))))
   obtain rfl := Option.some.inj hr
   refine q9 Tryz.func51 _ (.cons (resTmp rfl (Wk.refl _)) .nil) ?_
   exact ⟨_, rfl, rfl, rfl⟩
noncomputable def qaR (c_0 : qb) : Option (Int ⊕ (ByteArray × qb)) :=
  ((qni c_0.f0_b c_0.f1_at 40).bind fun r_1 =>
  (bindX (qbn r_1.2.1 r_1.2.2 c_0) fun r_2 =>
  some (.inr (r_1.1, r_2))))
set_option maxHeartbeats 1000000 in
theorem qa7 (c_0 : qb) (b_o0 : Nat) (res : Int ⊕ (ByteArray × qb)) (hr : qaR c_0 = some res) : SpecX Tryz.prog 50 [.ref b_o0 0 []] [.cell b_o0 (qc c_0)] (fun d σ => ∃ r : ByteArray × qb, res = .inr r ∧ d = .str r.1 ∧ σ = [.cell b_o0 (qc r.2)]) (fun d => ∃ c, res = .inl c ∧ d = .ifc 191 (.agg [.int .i64 c])) := by
  unfold qaR at hr
  refine qbL [(0, .ref b_o0 0 [])] Tryz.func50 rfl rfl fun K hK hX => (qk (gr [.d] (r_d rfl rfl rfl (qj rfl rfl) (ql (qk (qpe (by kernel_rfl) (by kernel_rfl) [(0, .d), (1, .d), (2, .d), (3, .r), (4, .d), (5, .d), (6, .d), (7, .r), (8, .d), (9, .d), (10, .d), (11, .d), (12, .d), (13, .d), (14, .d), (15, .d)] (by kernel_rfl) (r_d rfl rfl rfl (qe rfl rfl) (r_d rfl rfl rfl (qv rfl rfl) (r_d rfl rfl rfl (qo rfl qgN rfl) (r_r rfl rfl rfl (qx rfl rfl (.head _) rfl rfl (by exact qc5) rfl) (r_d rfl rfl rfl (qe rfl rfl) ?_)))))))))))
  refine r_d rfl rfl rfl (qv rfl rfl) (r_d rfl rfl rfl (qo rfl qdE rfl) (r_r rfl rfl rfl (qx rfl rfl (.head _) rfl rfl (by exact qaF) rfl) ?_))
  obtain ⟨r_1, hr_1, hr⟩ := bindS hr
  refine r_d rfl rfl rfl (qal rfl qnh (.oc rfl (.oc rfl (.oc rfl .nil))) (qna _ _ _ _ hr_1)) (r_d rfl rfl rfl (qe rfl rfl) (r_d rfl rfl rfl (qaz rfl rfl rfl) (r_d rfl rfl rfl (qaz rfl rfl rfl) (r_d rfl rfl rfl (qaz rfl rfl rfl) (r_d rfl rfl rfl (qj rfl rfl) (r_d rfl rfl rfl (qj rfl rfl) (r_d rfl rfl rfl (qj rfl rfl) (ql (qk (gr [.d, .d, .d, .w] (r_d rfl rfl rfl (qe rfl rfl) ?_)))))))))))
  refine r_d rfl rfl rfl (qe rfl rfl) (r_d rfl rfl rfl (qe rfl rfl) ?_)
  rcases bindXS hr with ⟨c_r_2, hr_2, rfl⟩ | ⟨r_2, hr_2, hr⟩
  ·
   refine qb1 rfl rfl (qa0 _ rfl qdk (.oc rfl (.oc rfl (.oc rfl .nil))) (by exact (pf0 _)) (qN (qcZ _ _ _ _ _ hr_2))) (hX _ ⟨_, rfl, rfl⟩)
  ·
   refine r_w rfl rfl rfl (qF _ rfl qdk (.oc rfl (.oc rfl (.oc rfl .nil))) (by exact (pf0 _)) (qO (qcZ _ _ _ _ _ hr_2))) ?_
   rintro _ _ ⟨_, ⟨rfl, rfl⟩, rfl⟩
   refine r_st ((.cell b_o0 (qc r_2)) :: _) rfl (ql (qk (gr [.d, .d] (r_d rfl rfl rfl (qe rfl rfl) (r_d rfl rfl rfl (qj rfl rfl) (ql ?_))))))
   obtain rfl := Option.some.inj hr
   refine q9 Tryz.func50 _ (.cons (resTmp rfl (Wk.refl _)) .nil) ?_
   exact ⟨_, rfl, rfl, rfl⟩
noncomputable def qb4 (c_0 : qb) : Option (Int ⊕ (S_api_Decl × qb)) :=
  (bindX (qaR c_0) fun r_2 =>
  (bindX (qq 0 6 r_2.2) fun r_3 =>
  some (.inr ((⟨r_2.1, r_3.1⟩ : S_api_Decl), r_3.2))))
set_option maxHeartbeats 1000000 in
theorem qfG (c_0 : qb) (b_o0 : Nat) (res : Int ⊕ (S_api_Decl × qb)) (hr : qb4 c_0 = some res) : SpecX Tryz.prog 49 [.ptr (.ref b_o0 0 [])] [.cell b_o0 (qc c_0)] (fun d σ => ∃ r : S_api_Decl × qb, res = .inr r ∧ d = qW r.1 ∧ σ = [.cell b_o0 (qc r.2)]) (fun d => ∃ c, res = .inl c ∧ d = .ifc 191 (.agg [.int .i64 c])) := by
  unfold qb4 at hr
  refine qbL [(0, .ptr (.ref b_o0 0 []))] Tryz.func49 rfl rfl fun K hK hX => (qk (gr [.w] (r_w rfl rfl rfl (qau rfl qkZ) ?_)))
  rintro _ _ ⟨b1_0, rfl, rfl⟩
  refine ql (qk (gr [.d, .w, .d] (r_d rfl rfl rfl (qw rfl rfl (by exact qaf) rfl) ?_)))
  rcases bindXS hr with ⟨c_r_2, hr_2, rfl⟩ | ⟨r_2, hr_2, hr⟩
  ·
   refine qb1 rfl rfl (qa0 _ rfl qbr (.oc rfl .nil) (by exact (pf1 _ _ _)) (qN (qa7 _ _ _ hr_2))) (hX _ ⟨_, rfl, rfl⟩)
  ·
   refine r_w rfl rfl rfl (qF _ rfl qbr (.oc rfl .nil) (by exact (pf1 _ _ _)) (qO (qa7 _ _ _ hr_2))) ?_
   rintro _ _ ⟨_, ⟨rfl, rfl⟩, rfl⟩
   refine r_st ((.cell b_o0 (qc r_2.2)) :: _) rfl (r_d rfl rfl rfl (qj rfl rfl) (ql (qk (gr [.d, .d, .w, .d, .w] (r_d rfl rfl rfl (qe rfl rfl) (r_d rfl rfl rfl (qw rfl rfl (by exact qaf) rfl) ?_))))))
   rcases bindXS hr with ⟨c_r_3, hr_3, rfl⟩ | ⟨r_3, hr_3, hr⟩
   ·
    refine qb1 rfl rfl (qa0 _ rfl qn (.oc rfl (.oc rfl (.oc rfl .nil))) (by exact (pf0 _)) (qN (qm _ _ _ _ _ hr_3))) (hX _ ⟨_, rfl, rfl⟩)
   ·
    refine r_w rfl rfl rfl (qF _ rfl qn (.oc rfl (.oc rfl (.oc rfl .nil))) (by exact (pf0 _)) (qO (qm _ _ _ _ _ hr_3))) ?_
    rintro _ _ ⟨_, ⟨rfl, rfl⟩, rfl⟩
    refine r_st ((.cell b_o0 (qc r_3.2)) :: _) rfl (r_d rfl rfl rfl (qbT rfl qjY (.oc rfl (.oc rfl .nil)) (.cons rfl rfl rfl (.cons rfl rfl rfl (.nil _)))) (qaa rfl rfl rfl (qK _ rfl rfl rfl (Wk.refl _) (pf1 _ _ _) (by exact qfK) rfl rfl rfl) (ql (qap 1 b1_0 rfl (pf0 _) ?_))))
    obtain rfl := Option.some.inj hr
    refine q9 Tryz.func49 _ (.cons (resPtr rfl (by exact qfK) rfl (Wk.refl _)) .nil) ?_
    exact ⟨_, rfl, rfl, rfl⟩
noncomputable def qcB (k : ((List S_api_Decl)) → (qb) → Option (Int ⊕ ((List S_api_Decl) × qb))) : Nat → (List S_api_Decl) → qb → Option (Int ⊕ ((List S_api_Decl) × qb))
  | 0, out_5, r_7 =>
  (k out_5 r_7)
  | rest + 1, out_5, r_7 =>
  (bindX (qb4 r_7) fun r_11 =>
  ((appO 24 out_5 [r_11.1]).bind fun l_12 =>
  (qcB k rest l_12 r_11.2)))
noncomputable def qe6 (most_a1 : Int) (c_0 : qb) : Option (Int ⊕ ((List S_api_Decl) × qb)) :=
  (bindX (qq 0 most_a1 c_0) fun r_3 =>
  (qcB (fun out_9 r_10 =>
  some (.inr (out_9, r_10))) (r_3.1 - 0 : Int).toNat [] r_3.2))
set_option maxHeartbeats 1000000 in
theorem qiZ (most_a1 : Int) (c_0 : qb) (b_o0 : Nat) (res : Int ⊕ ((List S_api_Decl) × qb)) (hr : qe6 most_a1 c_0 = some res) : SpecX Tryz.prog 48 [.ref b_o0 0 [], .int .i64 most_a1, .clo (.func 49) [] [.ptr (.ref b_o0 0 [])]] [.cell b_o0 (qc c_0)] (fun d σ => ∃ r : (List S_api_Decl) × qb, res = .inr r ∧ d = .lst (r.1.map qW) ∧ σ = [.cell b_o0 (qc r.2)]) (fun d => ∃ c, res = .inl c ∧ d = .ifc 191 (.agg [.int .i64 c])) := by
  unfold qe6 at hr
  refine qbL [(0, .ref b_o0 0 []), (1, .int .i64 most_a1), (2, .clo (.func 49) [] [.ptr (.ref b_o0 0 [])])] Tryz.func48 rfl rfl fun K hK hX => (qk (gr [.w] (r_w rfl rfl rfl (qcs 29 2 (.inl rfl)) ?_)))
  rintro _ _ ⟨u6_0, rfl, rfl⟩
  refine ql (qk (gr [.w] (r_w rfl rfl rfl (qcs 29 2 (.inl rfl)) ?_)))
  rintro _ _ ⟨u7_1, rfl, rfl⟩
  refine ql (qk (qk (gr [.d, .d, .w, .d] (r_d rfl rfl rfl (qe rfl rfl) (r_d rfl rfl rfl (qe rfl rfl) ?_)))))
  rcases bindXS hr with ⟨c_r_3, hr_3, rfl⟩ | ⟨r_3, hr_3, hr⟩
  ·
   refine qb1 rfl rfl (qa0 _ rfl qn (.oc rfl (.oc rfl (.oc rfl .nil))) (by exact (pf2 _ _ _ _)) (qN (qm _ _ _ _ _ hr_3))) (hX _ ⟨_, rfl, rfl⟩)
  ·
   refine r_w rfl rfl rfl (qF _ rfl qn (.oc rfl (.oc rfl (.oc rfl .nil))) (by exact (pf2 _ _ _ _)) (qO (qm _ _ _ _ _ hr_3))) ?_
   rintro _ _ ⟨_, ⟨rfl, rfl⟩, rfl⟩
   refine r_st ((.cell b_o0 (qc r_3.2)) :: _) rfl (r_d rfl rfl rfl (qe rfl rfl) (ql ?_))
   obtain ⟨kk0, hkk0, hr⟩ := exK (fun k => qcB k (r_3.1 - 0 : Int).toNat [] r_3.2) hr
   refine qdU 10 rfl fun hla0 => ?_
   refine qbe (fun env σ => ∃ (out_9 : (List S_api_Decl)) (r_10 : qb) (u_8 : Value), env = [(7, .own u_8 (out_9.map qW))] ∧ σ = [.row u_8 out_9.length 29 2, .cell b_o0 (qc r_10)] ∧ kk0 out_9 r_10 = some res) ?_ (fun HK0 => ?_)
   ·
    rintro _ _ ⟨out_9, r_10, u_8, rfl, rfl, hr⟩
    rw [hkk0] at hr
    refine qk (gr [.d, .d] (r_d rfl rfl rfl (qe rfl rfl) (r_d rfl rfl rfl (qj rfl rfl) (ql (qar [_] _ (pf1 _ _ _) ?_)))))
    obtain rfl := Option.some.inj hr
    refine q9 Tryz.func48 _ (.cons (resTmp rfl (Wk.own _ _)) .nil) ?_
    exact ⟨_, rfl, rfl, rfl⟩
   ·
    refine qan [(2, .clo (.func 49) [] [.ptr (.ref b_o0 0 [])]), (10, .int .i64 r_3.1), (7, .own u7_1 ([].map qW)), (11, .int .i64 0)] (Sub.cons' rfl (Sub.cons' rfl (Sub.cons' rfl (Sub.cons' rfl (Sub.nil _))))) (qar [_, _] _ ((pf1 _ _ _).trans (pf1 _ _ _)) (qdb (fun n env σ => ∃ (out_5 : (List S_api_Decl)) (t11_6 : Int) (r_7 : qb) (u_4 : Value) (m0 : Nat), (m0 = n) ∧ (env = [(2, .clo (.func 49) [] [.ptr (.ref b_o0 0 [])]), (10, .int .i64 r_3.1), (7, .own u_4 (out_5.map qW)), (11, .int .i64 t11_6)]) ∧ (σ = [.cell b_o0 (qc r_7), .row u_4 out_5.length 29 2]) ∧ (m0 = (r_3.1 - t11_6 : Int).toNat) ∧ (qcB kk0 m0 out_5 r_7 = some res)) _ ⟨[], 0, r_3.2, u7_1, _, rfl, rfl, rfl, rfl, hr⟩ ?_))
    rintro n _ _ ⟨out_5, t11_6, r_7, u_4, m0, rfl, rfl, rfl, hi0, hr⟩ IH0
    refine qdU 11 rfl fun hb0 => ?_
    rcases cntStep t11_6 r_3.1 m0 hi0 with ⟨hm0, ht0⟩ | ⟨m0', hm0, ht0, hi0', hlt0⟩
    ·
     rw [hm0, qcB] at hr
     refine qk (gr [.d] (r_d rfl rfl rfl (qX rfl rfl rfl rfl) (ql (qk (qbg 12 false rfl ht0 (qB rfl (qbC rfl (qan [(7, .own u_4 (out_5.map qW))] (Sub.cons' rfl (Sub.nil _)) (qar [_, _] _ ((pf0 _).trans (pf1 _ _ _)) ?_)))))))))
     exact HK0 _ _ ⟨out_5, r_7, u_4, rfl, rfl, hr⟩
    ·
     rw [hm0, qcB] at hr
     refine qk (gr [.d] (r_d rfl rfl rfl (qX rfl rfl rfl rfl) (ql (qk (qdU 10 rfl fun hbN10 => (qbg 12 true rfl ht0 (qC rfl (qab (qk (qbi (gr [.d, .d, .w, .d, .w, .d] ?_)))))))))))
     refine r_d rfl rfl rfl (qe rfl rfl) (r_d rfl rfl rfl (qe rfl rfl) ?_)
     rcases bindXS hr with ⟨c_r_11, hr_11, rfl⟩ | ⟨r_11, hr_11, hr⟩
     ·
      refine qb1 rfl rfl (qg5 _ rfl rfl qgs .nil rfl (by exact (pf0 _)) (qN (qfG _ _ _ hr_11))) (hX _ ⟨_, rfl, rfl⟩)
     ·
      refine r_w rfl rfl rfl (qd9 _ rfl rfl qgs .nil rfl (by exact (pf0 _)) (qO (qfG _ _ _ hr_11))) ?_
      rintro _ _ ⟨_, ⟨rfl, rfl⟩, rfl⟩
      refine r_st ((.cell b_o0 (qc r_11.2)) :: _) rfl (r_d rfl rfl rfl (qg3 (f := qW) [.tmp 15] [r_11.1] rfl qcQ rfl rfl (by decide) (by decide) (.oc rfl .nil) qdf (fun _ => rfl)) ?_)
      obtain ⟨l_12, hl_12, hr⟩ := bindS hr
      refine r_w rfl rfl rfl (qdF (f := qW) out_5 [r_11.1] rfl qcQ rfl rfl (asl rfl) (pf1 _ _ _) rfl qdf hl_12) ?_
      rintro _ _ ⟨u17_12, rfl, rfl⟩
      refine r_d rfl rfl rfl (qj rfl rfl) (ql (qac (gr [.d, .d] (r_d rfl rfl rfl (s_ar (r := t11_6 + 1) rfl rfl rfl rfl (by omega)) (r_d rfl rfl rfl (qe rfl rfl) (ql (qan [(2, .clo (.func 49) [] [.ptr (.ref b_o0 0 [])]), (10, .int .i64 r_3.1), (7, .own u17_12 (l_12.map qW)), (11, .int .i64 (t11_6 + 1))] (Sub.cons' rfl (Sub.cons' rfl (Sub.cons' rfl (Sub.cons' rfl (Sub.nil _))))) (qar [_, _] _ ((pf0 _).trans (pf1 _ _ _)) ?_))))))))
      exact IH0 _ _ _ (by omega) ⟨l_12, (t11_6 + 1), r_11.2, u17_12, _, rfl, rfl, rfl, hi0', hr⟩
noncomputable def qa1 (rec : Int → qb → Option (Int ⊕ ((List T) × qb))) (depth_a1 : Int) (c_0 : qb) : Option (Int ⊕ (T × qb)) :=
  (bif (decide (depth_a1 > (19 : Int))) then
  some (.inl 6)
  else
  (bindX (qq 0 2 c_0) fun r_3 =>
  (bif (r_3.1 == (0 : Int)) then
  (bindX (qq (-2147483648) 2147483648 r_3.2) fun r_6 =>
  some (.inr ((T.mk r_3.1 r_6.1 ⟨#[]⟩ []), r_6.2)))
  else
  (bif (r_3.1 == (1 : Int)) then
  (bindX (qq 0 1048576 r_3.2) fun r_8 =>
  some (.inr ((T.mk r_3.1 r_8.1 ⟨#[]⟩ []), r_8.2)))
  else
  (bindX (qaR r_3.2) fun r_9 =>
  (bindX (rec (wr (depth_a1 + (1 : Int))) r_9.2) fun r_10 =>
  some (.inr ((T.mk r_3.1 0 r_9.1 r_10.1), r_10.2))))))))
set_option maxHeartbeats 1000000 in
theorem qeL (rec : Int → qb → Option (Int ⊕ ((List T) × qb))) (IHR : ∀ (depth_a1 : Int) (c_0 : qb) (b_o0 : Nat) (res : Int ⊕ ((List T) × qb)), rec depth_a1 c_0 = some res → SpecX Tryz.prog 161 [.ref b_o0 0 [], .int .i64 depth_a1] [.cell b_o0 (qc c_0)] (fun d σ => ∃ r : (List T) × qb, res = .inr r ∧ d = .lst (r.1.map encT) ∧ σ = [.cell b_o0 (qc r.2)]) (fun d => ∃ c, res = .inl c ∧ d = .ifc 191 (.agg [.int .i64 c]))) (depth_a1 : Int) (c_0 : qb) (b_o0 : Nat) (res : Int ⊕ (T × qb)) (hr : qa1 rec depth_a1 c_0 = some res) : SpecX Tryz.prog 84 [.ref b_o0 0 [], .int .i64 depth_a1] [.cell b_o0 (qc c_0)] (fun d σ => ∃ r : T × qb, res = .inr r ∧ d = encT r.1 ∧ σ = [.cell b_o0 (qc r.2)]) (fun d => ∃ c, res = .inl c ∧ d = .ifc 191 (.agg [.int .i64 c])) := by
  unfold qa1 at hr
  refine qbL [(0, .ref b_o0 0 []), (1, .int .i64 depth_a1)] Tryz.func84 rfl rfl fun K hK hX => (qk (gr [.w] (r_w rfl rfl rfl (qau rfl qgz) ?_)))
  rintro _ _ ⟨b4_0, rfl, rfl⟩
  refine ql (qk (qk (gr [.d, .d] (r_d rfl rfl rfl (qe rfl rfl) (r_d rfl rfl rfl (qX rfl rfl rfl rfl) (ql ?_))))))
  refine g_sB 7 rfl hr (fun h7_1 hr => ?_) (fun h7_1 hr => ?_)
  ·
   refine qC rfl (gr [.d, .d, .w] (r_d rfl rfl rfl (qbT rfl qc8 (.oc rfl .nil) (.cons rfl rfl rfl (.nil _))) (r_d rfl rfl rfl (qhS rfl Tryz.underlying191 rfl) ?_)))
   obtain rfl := Option.some.inj hr
   refine qb1 rfl rfl (qrf rfl rfl) (hX _ ⟨_, rfl, rfl⟩)
  ·
   refine qB rfl (qab (qk (gr [.d, .w, .d, .w, .w] (r_d rfl rfl rfl (qe rfl rfl) ?_))))
   rcases bindXS hr with ⟨c_r_3, hr_3, rfl⟩ | ⟨r_3, hr_3, hr⟩
   ·
    refine qb1 rfl rfl (qa0 _ rfl qn (.oc rfl (.oc rfl (.oc rfl .nil))) (by exact (pf1 _ _ _)) (qN (qm _ _ _ _ _ hr_3))) (hX _ ⟨_, rfl, rfl⟩)
   ·
    refine r_w rfl rfl rfl (qF _ rfl qn (.oc rfl (.oc rfl (.oc rfl .nil))) (by exact (pf1 _ _ _)) (qO (qm _ _ _ _ _ hr_3))) ?_
    rintro _ _ ⟨_, ⟨rfl, rfl⟩, rfl⟩
    refine r_st ((.cell b_o0 (qc r_3.2)) :: _) rfl (r_d rfl rfl rfl (qbT rfl qiJ (.oc rfl .nil) (.cons rfl rfl rfl (.nil _))) (r_w rfl rfl rfl (qau rfl qgz) ?_))
    rintro _ _ ⟨b5_3, rfl, rfl⟩
    refine qaa rfl rfl rfl (qK _ rfl rfl rfl (Wk.refl _) (pf0 _) (by exact qQ) rfl rfl rfl) (ql (qk (qk (gr [.d, .r] (r_d rfl rfl rfl (qo rfl qeG rfl) (r_r rfl rfl rfl (qx rfl rfl (.head _) rfl rfl (by exact qaF) rfl) (ql (qbi (qk (gr [.d, .d] (r_d rfl rfl rfl (qX rfl rfl rfl rfl) ?_)))))))))))
    refine r_d rfl rfl rfl (qj rfl rfl) (ql ?_)
    refine g_sB 23 rfl hr (fun h23_4 hr => ?_) (fun h23_4 hr => ?_)
    ·
     refine qC rfl (gr [.d, .w, .d, .w] (r_d rfl rfl rfl (qe rfl rfl) ?_))
     rcases bindXS hr with ⟨c_r_6, hr_6, rfl⟩ | ⟨r_6, hr_6, hr⟩
     ·
      refine qb1 rfl rfl (qa0 _ rfl qn (.oc rfl (.oc rfl (.oc rfl .nil))) (by exact (pf1 _ _ _)) (qN (qm _ _ _ _ _ hr_6))) (hX _ ⟨_, rfl, rfl⟩)
     ·
      refine r_w rfl rfl rfl (qF _ rfl qn (.oc rfl (.oc rfl (.oc rfl .nil))) (by exact (pf1 _ _ _)) (qO (qm _ _ _ _ _ hr_6))) ?_
      rintro _ _ ⟨_, ⟨rfl, rfl⟩, rfl⟩
      refine r_st ((.cell b_o0 (qc r_6.2)) :: _) rfl (r_d rfl rfl rfl (qo rfl qem rfl) (qaa rfl rfl rfl (qV _ rfl rfl rfl (Wk.refl _) (pf1 _ _ _) rfl rfl (by exact qaF) rfl rfl rfl) (ql (qac (qk (gr [.r, .w] (r_r rfl rfl rfl (qx rfl rfl (.head _) rfl rfl (by exact qQ) rfl) (qaa rfl rfl rfl (qK _ rfl rfl rfl (Wk.refl _) (pf2 _ _ _ _) (by exact qQ) rfl rfl rfl) (ql (qap 4 b4_0 rfl (pf0 _) (qar [_] _ (pf1 _ _ _) ?_)))))))))))
      obtain rfl := Option.some.inj hr
      refine q9 Tryz.func84 _ (.cons (resPtr rfl (by exact qQ) rfl (Wk.refl _)) .nil) ?_
      exact ⟨_, rfl, by first | rfl | exact (congrArg D.agg (qh8 (T.mk _ _ _ _))).symm, rfl⟩
    ·
     refine qB rfl (qk (gr [.d, .d] (r_d rfl rfl rfl (qX rfl rfl rfl rfl) (r_d rfl rfl rfl (qj rfl rfl) (ql ?_)))))
     refine g_sB 28 rfl hr (fun h28_6 hr => ?_) (fun h28_6 hr => ?_)
     ·
      refine qC rfl (gr [.d, .w, .d, .w] (r_d rfl rfl rfl (qe rfl rfl) ?_))
      rcases bindXS hr with ⟨c_r_8, hr_8, rfl⟩ | ⟨r_8, hr_8, hr⟩
      ·
       refine qb1 rfl rfl (qa0 _ rfl qn (.oc rfl (.oc rfl (.oc rfl .nil))) (by exact (pf1 _ _ _)) (qN (qm _ _ _ _ _ hr_8))) (hX _ ⟨_, rfl, rfl⟩)
      ·
       refine r_w rfl rfl rfl (qF _ rfl qn (.oc rfl (.oc rfl (.oc rfl .nil))) (by exact (pf1 _ _ _)) (qO (qm _ _ _ _ _ hr_8))) ?_
       rintro _ _ ⟨_, ⟨rfl, rfl⟩, rfl⟩
       refine r_st ((.cell b_o0 (qc r_8.2)) :: _) rfl (r_d rfl rfl rfl (qo rfl qem rfl) (qaa rfl rfl rfl (qV _ rfl rfl rfl (Wk.refl _) (pf1 _ _ _) rfl rfl (by exact qaF) rfl rfl rfl) (ql (qac (qk (gr [.r, .w] (r_r rfl rfl rfl (qx rfl rfl (.head _) rfl rfl (by exact qQ) rfl) (qaa rfl rfl rfl (qK _ rfl rfl rfl (Wk.refl _) (pf2 _ _ _ _) (by exact qQ) rfl rfl rfl) (ql (qap 4 b4_0 rfl (pf0 _) (qar [_] _ (pf1 _ _ _) ?_)))))))))))
       obtain rfl := Option.some.inj hr
       refine q9 Tryz.func84 _ (.cons (resPtr rfl (by exact qQ) rfl (Wk.refl _)) .nil) ?_
       exact ⟨_, rfl, by first | rfl | exact (congrArg D.agg (qh8 (T.mk _ _ _ _))).symm, rfl⟩
     ·
      refine qB rfl (qk (gr [.d, .w, .d, .w] (r_d rfl rfl rfl (qe rfl rfl) ?_)))
      rcases bindXS hr with ⟨c_r_9, hr_9, rfl⟩ | ⟨r_9, hr_9, hr⟩
      ·
       refine qb1 rfl rfl (qa0 _ rfl qbr (.oc rfl .nil) (by exact (pf1 _ _ _)) (qN (qa7 _ _ _ hr_9))) (hX _ ⟨_, rfl, rfl⟩)
      ·
       refine r_w rfl rfl rfl (qF _ rfl qbr (.oc rfl .nil) (by exact (pf1 _ _ _)) (qO (qa7 _ _ _ hr_9))) ?_
       rintro _ _ ⟨_, ⟨rfl, rfl⟩, rfl⟩
       refine r_st ((.cell b_o0 (qc r_9.2)) :: _) rfl (r_d rfl rfl rfl (qo rfl qhp rfl) (qaa rfl rfl rfl (qV _ rfl rfl rfl (Wk.refl _) (pf1 _ _ _) rfl rfl (by exact qep) rfl rfl rfl) (ql (gr [.d, .d, .d, .w, .d, .w] (r_d rfl rfl rfl (qe rfl rfl) (r_d rfl rfl rfl (qe rfl rfl) (r_d rfl rfl rfl (qiF rfl rfl rfl rfl) ?_)))))))
       rcases bindXS hr with ⟨c_r_10, hr_10, rfl⟩ | ⟨r_10, hr_10, hr⟩
       ·
        refine qb1 rfl rfl (qa0 _ rfl qdl (.oc rfl (.oc rfl .nil)) (by exact (pf1 _ _ _)) (qN (IHR _ _ _ _ hr_10))) (hX _ ⟨_, rfl, rfl⟩)
       ·
        refine r_w rfl rfl rfl (qF _ rfl qdl (.oc rfl (.oc rfl .nil)) (by exact (pf1 _ _ _)) (qO (IHR _ _ _ _ hr_10))) ?_
        rintro _ _ ⟨_, ⟨rfl, rfl⟩, rfl⟩
        refine r_st ((.cell b_o0 (qc r_10.2)) :: _) rfl (r_d rfl rfl rfl (qo rfl qhx rfl) (qaa rfl rfl rfl (qV _ rfl rfl rfl (Wk.refl _) (pf1 _ _ _) rfl rfl (by exact qdQ) rfl rfl rfl) (ql (qac (qk (gr [.r, .w] (r_r rfl rfl rfl (qx rfl rfl (.head _) rfl rfl (by exact qQ) rfl) (qaa rfl rfl rfl (qK _ rfl rfl rfl (Wk.refl _) (pf2 _ _ _ _) (by exact qQ) rfl rfl rfl) (ql (qap 4 b4_0 rfl (pf0 _) (qar [_] _ (pf1 _ _ _) ?_)))))))))))
        obtain rfl := Option.some.inj hr
        refine q9 Tryz.func84 _ (.cons (resPtr rfl (by exact qQ) rfl (Wk.refl _)) .nil) ?_
        exact ⟨_, rfl, by first | rfl | exact (congrArg D.agg (qh8 (T.mk _ _ _ _))).symm, rfl⟩
noncomputable def qbJ (rec : Int → qb → Option (Int ⊕ ((List T) × qb))) (t1_a1 : Int) (c_0 : qb) : Option (Int ⊕ (T × qb)) :=
  (bindX (qa1 rec t1_a1 c_0) fun r_2 =>
  some (.inr (r_2.1, r_2.2)))
set_option maxHeartbeats 1000000 in
theorem qfH (rec : Int → qb → Option (Int ⊕ ((List T) × qb))) (IHR : ∀ (depth_a1 : Int) (c_0 : qb) (b_o0 : Nat) (res : Int ⊕ ((List T) × qb)), rec depth_a1 c_0 = some res → SpecX Tryz.prog 161 [.ref b_o0 0 [], .int .i64 depth_a1] [.cell b_o0 (qc c_0)] (fun d σ => ∃ r : (List T) × qb, res = .inr r ∧ d = .lst (r.1.map encT) ∧ σ = [.cell b_o0 (qc r.2)]) (fun d => ∃ c, res = .inl c ∧ d = .ifc 191 (.agg [.int .i64 c]))) (t1_a1 : Int) (c_0 : qb) (b_o0 : Nat) (res : Int ⊕ (T × qb)) (hr : qbJ rec t1_a1 c_0 = some res) : SpecX Tryz.prog 206 [.ptr (.ref b_o0 0 []), .ptr (.int .i64 t1_a1)] [.cell b_o0 (qc c_0)] (fun d σ => ∃ r : T × qb, res = .inr r ∧ d = encT r.1 ∧ σ = [.cell b_o0 (qc r.2)]) (fun d => ∃ c, res = .inl c ∧ d = .ifc 191 (.agg [.int .i64 c])) := by
  unfold qbJ at hr
  refine qbL [(0, .ptr (.ref b_o0 0 [])), (1, .ptr (.int .i64 t1_a1))] Tryz.func206 rfl rfl fun K hK hX => (qk (gr [.w] (r_w rfl rfl rfl (qau rfl qgz) ?_)))
  rintro _ _ ⟨b2_0, rfl, rfl⟩
  refine ql (qk (gr [.d, .d, .w, .w] (r_d rfl rfl rfl (qw rfl rfl (by exact qaf) rfl) (r_d rfl rfl rfl (qw rfl rfl (by exact qaF) rfl) ?_))))
  rcases bindXS hr with ⟨c_r_2, hr_2, rfl⟩ | ⟨r_2, hr_2, hr⟩
  ·
   refine qb1 rfl rfl (qa0 _ rfl qey (.oc rfl (.oc rfl .nil)) (by exact (pf1 _ _ _)) (qN (qeL rec IHR _ _ _ _ hr_2))) (hX _ ⟨_, rfl, rfl⟩)
  ·
   refine r_w rfl rfl rfl (qF _ rfl qey (.oc rfl (.oc rfl .nil)) (by exact (pf1 _ _ _)) (qO (qeL rec IHR _ _ _ _ hr_2))) ?_
   rintro _ _ ⟨_, ⟨rfl, rfl⟩, rfl⟩
   refine r_st ((.cell b_o0 (qc r_2.2)) :: _) rfl (qaa rfl rfl rfl (qK _ rfl rfl rfl (Wk.refl _) (pf1 _ _ _) (by exact qQ) (qee _) rfl rfl) (ql (qap 2 b2_0 rfl (pf0 _) ?_)))
   obtain rfl := Option.some.inj hr
   refine q9 Tryz.func206 _ (.cons (resPtr rfl (by exact qQ) (qee _) (Wk.refl _)) .nil) ?_
   exact ⟨_, rfl, rfl, rfl⟩
noncomputable def qcL (k : ((List T)) → (qb) → Option (Int ⊕ ((List T) × qb))) (rec : Int → qb → Option (Int ⊕ ((List T) × qb))) (one_a2_c1 : Int) : Nat → (List T) → qb → Option (Int ⊕ ((List T) × qb))
  | 0, out_5, r_7 =>
  (k out_5 r_7)
  | rest + 1, out_5, r_7 =>
  (bindX (qbJ rec one_a2_c1 r_7) fun r_11 =>
  ((appO 56 out_5 [r_11.1]).bind fun l_12 =>
  (qcL k rec one_a2_c1 rest l_12 r_11.2)))
noncomputable def qeA (rec : Int → qb → Option (Int ⊕ ((List T) × qb))) (most_a1 : Int) (one_a2_c1 : Int) (c_0 : qb) : Option (Int ⊕ ((List T) × qb)) :=
  (bindX (qq 0 most_a1 c_0) fun r_3 =>
  (qcL (fun out_9 r_10 =>
  some (.inr (out_9, r_10))) rec one_a2_c1 (r_3.1 - 0 : Int).toNat [] r_3.2))
set_option maxHeartbeats 1000000 in
theorem qh6 (rec : Int → qb → Option (Int ⊕ ((List T) × qb))) (IHR : ∀ (depth_a1 : Int) (c_0 : qb) (b_o0 : Nat) (res : Int ⊕ ((List T) × qb)), rec depth_a1 c_0 = some res → SpecX Tryz.prog 161 [.ref b_o0 0 [], .int .i64 depth_a1] [.cell b_o0 (qc c_0)] (fun d σ => ∃ r : (List T) × qb, res = .inr r ∧ d = .lst (r.1.map encT) ∧ σ = [.cell b_o0 (qc r.2)]) (fun d => ∃ c, res = .inl c ∧ d = .ifc 191 (.agg [.int .i64 c]))) (most_a1 : Int) (one_a2_c1 : Int) (c_0 : qb) (b_o0 : Nat) (res : Int ⊕ ((List T) × qb)) (hr : qeA rec most_a1 one_a2_c1 c_0 = some res) : SpecX Tryz.prog 205 [.ref b_o0 0 [], .int .i64 most_a1, .clo (.func 206) [] [.ptr (.ref b_o0 0 []), .ptr (.int .i64 one_a2_c1)]] [.cell b_o0 (qc c_0)] (fun d σ => ∃ r : (List T) × qb, res = .inr r ∧ d = .lst (r.1.map encT) ∧ σ = [.cell b_o0 (qc r.2)]) (fun d => ∃ c, res = .inl c ∧ d = .ifc 191 (.agg [.int .i64 c])) := by
  unfold qeA at hr
  refine qbL [(0, .ref b_o0 0 []), (1, .int .i64 most_a1), (2, .clo (.func 206) [] [.ptr (.ref b_o0 0 []), .ptr (.int .i64 one_a2_c1)])] Tryz.func205 rfl rfl fun K hK hX => (qk (gr [.w] (r_w rfl rfl rfl (qcs 114 4 (.inl rfl)) ?_)))
  rintro _ _ ⟨u6_0, rfl, rfl⟩
  refine ql (qk (gr [.w] (r_w rfl rfl rfl (qcs 114 4 (.inl rfl)) ?_)))
  rintro _ _ ⟨u7_1, rfl, rfl⟩
  refine ql (qk (qk (gr [.d, .d, .w, .d] (r_d rfl rfl rfl (qe rfl rfl) (r_d rfl rfl rfl (qe rfl rfl) ?_)))))
  rcases bindXS hr with ⟨c_r_3, hr_3, rfl⟩ | ⟨r_3, hr_3, hr⟩
  ·
   refine qb1 rfl rfl (qa0 _ rfl qn (.oc rfl (.oc rfl (.oc rfl .nil))) (by exact (pf2 _ _ _ _)) (qN (qm _ _ _ _ _ hr_3))) (hX _ ⟨_, rfl, rfl⟩)
  ·
   refine r_w rfl rfl rfl (qF _ rfl qn (.oc rfl (.oc rfl (.oc rfl .nil))) (by exact (pf2 _ _ _ _)) (qO (qm _ _ _ _ _ hr_3))) ?_
   rintro _ _ ⟨_, ⟨rfl, rfl⟩, rfl⟩
   refine r_st ((.cell b_o0 (qc r_3.2)) :: _) rfl (r_d rfl rfl rfl (qe rfl rfl) (ql ?_))
   obtain ⟨kk0, hkk0, hr⟩ := exK (fun k => qcL k rec one_a2_c1 (r_3.1 - 0 : Int).toNat [] r_3.2) hr
   refine qdU 10 rfl fun hla0 => ?_
   refine qbe (fun env σ => ∃ (out_9 : (List T)) (r_10 : qb) (u_8 : Value), env = [(7, .own u_8 (out_9.map encT))] ∧ σ = [.row u_8 out_9.length 114 4, .cell b_o0 (qc r_10)] ∧ kk0 out_9 r_10 = some res) ?_ (fun HK0 => ?_)
   ·
    rintro _ _ ⟨out_9, r_10, u_8, rfl, rfl, hr⟩
    rw [hkk0] at hr
    refine qk (gr [.d, .d] (r_d rfl rfl rfl (qe rfl rfl) (r_d rfl rfl rfl (qj rfl rfl) (ql (qar [_] _ (pf1 _ _ _) ?_)))))
    obtain rfl := Option.some.inj hr
    refine q9 Tryz.func205 _ (.cons (resTmp rfl (Wk.own _ _)) .nil) ?_
    exact ⟨_, rfl, rfl, rfl⟩
   ·
    refine qan [(2, .clo (.func 206) [] [.ptr (.ref b_o0 0 []), .ptr (.int .i64 one_a2_c1)]), (10, .int .i64 r_3.1), (7, .own u7_1 ([].map encT)), (11, .int .i64 0)] (Sub.cons' rfl (Sub.cons' rfl (Sub.cons' rfl (Sub.cons' rfl (Sub.nil _))))) (qar [_, _] _ ((pf1 _ _ _).trans (pf1 _ _ _)) (qdb (fun n env σ => ∃ (out_5 : (List T)) (t11_6 : Int) (r_7 : qb) (u_4 : Value) (m0 : Nat), (m0 = n) ∧ (env = [(2, .clo (.func 206) [] [.ptr (.ref b_o0 0 []), .ptr (.int .i64 one_a2_c1)]), (10, .int .i64 r_3.1), (7, .own u_4 (out_5.map encT)), (11, .int .i64 t11_6)]) ∧ (σ = [.cell b_o0 (qc r_7), .row u_4 out_5.length 114 4]) ∧ (m0 = (r_3.1 - t11_6 : Int).toNat) ∧ (qcL kk0 rec one_a2_c1 m0 out_5 r_7 = some res)) _ ⟨[], 0, r_3.2, u7_1, _, rfl, rfl, rfl, rfl, hr⟩ ?_))
    rintro n _ _ ⟨out_5, t11_6, r_7, u_4, m0, rfl, rfl, rfl, hi0, hr⟩ IH0
    refine qdU 11 rfl fun hb0 => ?_
    rcases cntStep t11_6 r_3.1 m0 hi0 with ⟨hm0, ht0⟩ | ⟨m0', hm0, ht0, hi0', hlt0⟩
    ·
     rw [hm0, qcL] at hr
     refine qk (gr [.d] (r_d rfl rfl rfl (qX rfl rfl rfl rfl) (ql (qk (qbg 12 false rfl ht0 (qB rfl (qbC rfl (qan [(7, .own u_4 (out_5.map encT))] (Sub.cons' rfl (Sub.nil _)) (qar [_, _] _ ((pf0 _).trans (pf1 _ _ _)) ?_)))))))))
     exact HK0 _ _ ⟨out_5, r_7, u_4, rfl, rfl, hr⟩
    ·
     rw [hm0, qcL] at hr
     refine qk (gr [.d] (r_d rfl rfl rfl (qX rfl rfl rfl rfl) (ql (qk (qdU 10 rfl fun hbN10 => (qbg 12 true rfl ht0 (qC rfl (qab (qk (qbi (gr [.d, .d, .w, .d, .w, .d] ?_)))))))))))
     refine r_d rfl rfl rfl (qe rfl rfl) (r_d rfl rfl rfl (qe rfl rfl) ?_)
     rcases bindXS hr with ⟨c_r_11, hr_11, rfl⟩ | ⟨r_11, hr_11, hr⟩
     ·
      refine qb1 rfl rfl (qg5 _ rfl rfl qgL .nil rfl (by exact (pf0 _)) (qN (qfH rec IHR _ _ _ _ hr_11))) (hX _ ⟨_, rfl, rfl⟩)
     ·
      refine r_w rfl rfl rfl (qd9 _ rfl rfl qgL .nil rfl (by exact (pf0 _)) (qO (qfH rec IHR _ _ _ _ hr_11))) ?_
      rintro _ _ ⟨_, ⟨rfl, rfl⟩, rfl⟩
      refine r_st ((.cell b_o0 (qc r_11.2)) :: _) rfl (r_d rfl rfl rfl (qg3 (f := encT) [.tmp 15] [r_11.1] rfl qfh rfl rfl (by decide) (by decide) (.oc rfl .nil) qee (fun _ => rfl)) ?_)
      obtain ⟨l_12, hl_12, hr⟩ := bindS hr
      refine r_w rfl rfl rfl (qdF (f := encT) out_5 [r_11.1] rfl qfh rfl rfl (asl rfl) (pf1 _ _ _) rfl qee hl_12) ?_
      rintro _ _ ⟨u17_12, rfl, rfl⟩
      refine r_d rfl rfl rfl (qj rfl rfl) (ql (qac (gr [.d, .d] (r_d rfl rfl rfl (s_ar (r := t11_6 + 1) rfl rfl rfl rfl (by omega)) (r_d rfl rfl rfl (qe rfl rfl) (ql (qan [(2, .clo (.func 206) [] [.ptr (.ref b_o0 0 []), .ptr (.int .i64 one_a2_c1)]), (10, .int .i64 r_3.1), (7, .own u17_12 (l_12.map encT)), (11, .int .i64 (t11_6 + 1))] (Sub.cons' rfl (Sub.cons' rfl (Sub.cons' rfl (Sub.cons' rfl (Sub.nil _))))) (qar [_, _] _ ((pf0 _).trans (pf1 _ _ _)) ?_))))))))
      exact IH0 _ _ _ (by omega) ⟨l_12, (t11_6 + 1), r_11.2, u17_12, _, rfl, rfl, rfl, hi0', hr⟩
noncomputable def qae : Nat → Int → qb → Option (Int ⊕ ((List T) × qb))
  | 0, _, _ => none
  | fuel + 1, depth_a1, c_0 =>
    (fun (rec : Int → qb → Option (Int ⊕ ((List T) × qb))) =>
      (bindX (qeA rec 6 depth_a1 c_0) fun r_1 =>
      some (.inr (r_1.1, r_1.2)))) (qae fuel)
set_option maxHeartbeats 1000000 in
theorem qiq (fuel : Nat) (rec : Int → qb → Option (Int ⊕ ((List T) × qb))) (IHR : ∀ (depth_a1 : Int) (c_0 : qb) (b_o0 : Nat) (res : Int ⊕ ((List T) × qb)), rec depth_a1 c_0 = some res → SpecX Tryz.prog 161 [.ref b_o0 0 [], .int .i64 depth_a1] [.cell b_o0 (qc c_0)] (fun d σ => ∃ r : (List T) × qb, res = .inr r ∧ d = .lst (r.1.map encT) ∧ σ = [.cell b_o0 (qc r.2)]) (fun d => ∃ c, res = .inl c ∧ d = .ifc 191 (.agg [.int .i64 c]))) (depth_a1 : Int) (c_0 : qb) (b_o0 : Nat) (res : Int ⊕ ((List T) × qb))
    (hr : (bindX (qeA rec 6 depth_a1 c_0) fun r_1 =>
some (.inr (r_1.1, r_1.2))) = some res) : SpecX Tryz.prog 161 [.ref b_o0 0 [], .int .i64 depth_a1] [.cell b_o0 (qc c_0)] (fun d σ => ∃ r : (List T) × qb, res = .inr r ∧ d = .lst (r.1.map encT) ∧ σ = [.cell b_o0 (qc r.2)]) (fun d => ∃ c, res = .inl c ∧ d = .ifc 191 (.agg [.int .i64 c])) := by
  refine qbL [(0, .ref b_o0 0 []), (1, .int .i64 depth_a1)] Tryz.func161 rfl rfl fun K hK hX => (qk (gr [.d, .d, .d] (r_d rfl rfl rfl (qgF rfl rfl rfl) (r_d rfl rfl rfl (qgF rfl rfl rfl) (r_d rfl rfl rfl (qj rfl rfl) (ql (qk (gr [.d, .d, .w, .d] (r_d rfl rfl rfl (qw rfl rfl (by exact qaf) rfl) (r_d rfl rfl rfl (qbz rfl rfl rfl) ?_))))))))))
  rcases bindXS hr with ⟨c_r_1, hr_1, rfl⟩ | ⟨r_1, hr_1, hr⟩
  ·
   refine qb1 rfl rfl (qa0 _ rfl qgW (.oc rfl (.oc rfl (.oc rfl .nil))) (by exact (pf0 _)) (qN (qh6 rec IHR _ _ _ _ _ hr_1))) (hX _ ⟨_, rfl, rfl⟩)
  ·
   refine r_w rfl rfl rfl (qF _ rfl qgW (.oc rfl (.oc rfl (.oc rfl .nil))) (by exact (pf0 _)) (qO (qh6 rec IHR _ _ _ _ _ hr_1))) ?_
   rintro _ _ ⟨_, ⟨rfl, rfl⟩, rfl⟩
   refine r_st ((.cell b_o0 (qc r_1.2)) :: _) rfl (r_d rfl rfl rfl (qj rfl rfl) (ql ?_))
   obtain rfl := Option.some.inj hr
   refine q9 Tryz.func161 _ (.cons (resTmp rfl (Wk.refl _)) .nil) ?_
   exact ⟨_, rfl, rfl, rfl⟩
theorem qcT : ∀ (fuel : Nat) (depth_a1 : Int) (c_0 : qb) (b_o0 : Nat) (res : Int ⊕ ((List T) × qb)), qae fuel depth_a1 c_0 = some res → SpecX Tryz.prog 161 [.ref b_o0 0 [], .int .i64 depth_a1] [.cell b_o0 (qc c_0)] (fun d σ => ∃ r : (List T) × qb, res = .inr r ∧ d = .lst (r.1.map encT) ∧ σ = [.cell b_o0 (qc r.2)]) (fun d => ∃ c, res = .inl c ∧ d = .ifc 191 (.agg [.int .i64 c]))
  | 0, _, _, _, _, h => by cases h
  | fuel + 1, depth_a1, c_0, b_o0, res, h => qiq fuel (qae fuel) (qcT fuel) depth_a1 c_0 b_o0 res h
noncomputable def qfc (fuel : Nat) (depth_a1 : Int) (c_0 : qb) : Option (Int ⊕ (T × qb)) := qa1 (qae fuel) depth_a1 c_0
theorem qgm (fuel : Nat) (depth_a1 : Int) (c_0 : qb) (b_o0 : Nat) (res : Int ⊕ (T × qb)) (hr : qfc fuel depth_a1 c_0 = some res) : SpecX Tryz.prog 84 [.ref b_o0 0 [], .int .i64 depth_a1] [.cell b_o0 (qc c_0)] (fun d σ => ∃ r : T × qb, res = .inr r ∧ d = encT r.1 ∧ σ = [.cell b_o0 (qc r.2)]) (fun d => ∃ c, res = .inl c ∧ d = .ifc 191 (.agg [.int .i64 c])) := qeL (qae fuel) (qcT fuel) depth_a1 c_0 b_o0 res hr
noncomputable def qbE (fuel : Nat) (c_0 : qb) : Option (Int ⊕ (At × qb)) :=
  (bindX (qaR c_0) fun r_2 =>
  (bindX (qae fuel 0 r_2.2) fun r_3 =>
  some (.inr ((⟨r_2.1, r_3.1⟩ : At), r_3.2))))
set_option maxHeartbeats 1000000 in
theorem qd4 (fuel : Nat) (c_0 : qb) (b_o0 : Nat) (res : Int ⊕ (At × qb)) (hr : qbE fuel c_0 = some res) : SpecX Tryz.prog 144 [.ref b_o0 0 []] [.cell b_o0 (qc c_0)] (fun d σ => ∃ r : At × qb, res = .inr r ∧ d = encA r.1 ∧ σ = [.cell b_o0 (qc r.2)]) (fun d => ∃ c, res = .inl c ∧ d = .ifc 191 (.agg [.int .i64 c])) := by
  unfold qbE at hr
  refine qbL [(0, .ref b_o0 0 [])] Tryz.func144 rfl rfl fun K hK hX => (qk (gr [.w] (r_w rfl rfl rfl (qau rfl qjt) ?_)))
  rintro _ _ ⟨b2_0, rfl, rfl⟩
  refine ql (qk (gr [.d, .w, .d] (r_d rfl rfl rfl (qe rfl rfl) ?_)))
  rcases bindXS hr with ⟨c_r_2, hr_2, rfl⟩ | ⟨r_2, hr_2, hr⟩
  ·
   refine qb1 rfl rfl (qa0 _ rfl qbr (.oc rfl .nil) (by exact (pf1 _ _ _)) (qN (qa7 _ _ _ hr_2))) (hX _ ⟨_, rfl, rfl⟩)
  ·
   refine r_w rfl rfl rfl (qF _ rfl qbr (.oc rfl .nil) (by exact (pf1 _ _ _)) (qO (qa7 _ _ _ hr_2))) ?_
   rintro _ _ ⟨_, ⟨rfl, rfl⟩, rfl⟩
   refine r_st ((.cell b_o0 (qc r_2.2)) :: _) rfl (r_d rfl rfl rfl (qj rfl rfl) (ql (qk (gr [.d, .d, .w, .d, .w] (r_d rfl rfl rfl (qe rfl rfl) (r_d rfl rfl rfl (qe rfl rfl) ?_))))))
   rcases bindXS hr with ⟨c_r_3, hr_3, rfl⟩ | ⟨r_3, hr_3, hr⟩
   ·
    refine qb1 rfl rfl (qa0 _ rfl qdl (.oc rfl (.oc rfl .nil)) (by exact (pf0 _)) (qN (qcT fuel _ _ _ _ hr_3))) (hX _ ⟨_, rfl, rfl⟩)
   ·
    refine r_w rfl rfl rfl (qF _ rfl qdl (.oc rfl (.oc rfl .nil)) (by exact (pf0 _)) (qO (qcT fuel _ _ _ _ hr_3))) ?_
    rintro _ _ ⟨_, ⟨rfl, rfl⟩, rfl⟩
    refine r_st ((.cell b_o0 (qc r_3.2)) :: _) rfl (r_d rfl rfl rfl (qbT rfl qkJ (.oc rfl (.oc rfl .nil)) (.cons rfl rfl rfl (.cons rfl rfl rfl (.nil _)))) (qaa rfl rfl rfl (qK _ rfl rfl rfl (Wk.refl _) (pf1 _ _ _) (by exact qbN) rfl rfl rfl) (ql (qap 2 b2_0 rfl (pf0 _) ?_))))
    obtain rfl := Option.some.inj hr
    refine q9 Tryz.func144 _ (.cons (resPtr rfl (by exact qbN) rfl (Wk.refl _)) .nil) ?_
    exact ⟨_, rfl, rfl, rfl⟩
noncomputable def qcP (k : ((List At)) → (qb) → Option (Int ⊕ ((List At) × qb))) (fuel : Nat) : Nat → (List At) → qb → Option (Int ⊕ ((List At) × qb))
  | 0, out_5, r_7 =>
  (k out_5 r_7)
  | rest + 1, out_5, r_7 =>
  (bindX (qbE fuel r_7) fun r_11 =>
  ((appO 40 out_5 [r_11.1]).bind fun l_12 =>
  (qcP k fuel rest l_12 r_11.2)))
noncomputable def qeb (fuel : Nat) (most_a1 : Int) (c_0 : qb) : Option (Int ⊕ ((List At) × qb)) :=
  (bindX (qq 0 most_a1 c_0) fun r_3 =>
  (qcP (fun out_9 r_10 =>
  some (.inr (out_9, r_10))) fuel (r_3.1 - 0 : Int).toNat [] r_3.2))
set_option maxHeartbeats 1000000 in
theorem qfI (fuel : Nat) (most_a1 : Int) (c_0 : qb) (b_o0 : Nat) (res : Int ⊕ ((List At) × qb)) (hr : qeb fuel most_a1 c_0 = some res) : SpecX Tryz.prog 143 [.ref b_o0 0 [], .int .i64 most_a1, .clo (.func 144) [.ref b_o0 0 []] []] [.cell b_o0 (qc c_0)] (fun d σ => ∃ r : (List At) × qb, res = .inr r ∧ d = .lst (r.1.map encA) ∧ σ = [.cell b_o0 (qc r.2)]) (fun d => ∃ c, res = .inl c ∧ d = .ifc 191 (.agg [.int .i64 c])) := by
  unfold qeb at hr
  refine qbL [(0, .ref b_o0 0 []), (1, .int .i64 most_a1), (2, .clo (.func 144) [.ref b_o0 0 []] [])] Tryz.func143 rfl rfl fun K hK hX => (qk (gr [.w] (r_w rfl rfl rfl (qcs 107 2 (.inl rfl)) ?_)))
  rintro _ _ ⟨u6_0, rfl, rfl⟩
  refine ql (qk (gr [.w] (r_w rfl rfl rfl (qcs 107 2 (.inl rfl)) ?_)))
  rintro _ _ ⟨u7_1, rfl, rfl⟩
  refine ql (qk (qk (gr [.d, .d, .w, .d] (r_d rfl rfl rfl (qe rfl rfl) (r_d rfl rfl rfl (qe rfl rfl) ?_)))))
  rcases bindXS hr with ⟨c_r_3, hr_3, rfl⟩ | ⟨r_3, hr_3, hr⟩
  ·
   refine qb1 rfl rfl (qa0 _ rfl qn (.oc rfl (.oc rfl (.oc rfl .nil))) (by exact (pf2 _ _ _ _)) (qN (qm _ _ _ _ _ hr_3))) (hX _ ⟨_, rfl, rfl⟩)
  ·
   refine r_w rfl rfl rfl (qF _ rfl qn (.oc rfl (.oc rfl (.oc rfl .nil))) (by exact (pf2 _ _ _ _)) (qO (qm _ _ _ _ _ hr_3))) ?_
   rintro _ _ ⟨_, ⟨rfl, rfl⟩, rfl⟩
   refine r_st ((.cell b_o0 (qc r_3.2)) :: _) rfl (r_d rfl rfl rfl (qe rfl rfl) (ql ?_))
   obtain ⟨kk0, hkk0, hr⟩ := exK (fun k => qcP k fuel (r_3.1 - 0 : Int).toNat [] r_3.2) hr
   refine qdU 10 rfl fun hla0 => ?_
   refine qbe (fun env σ => ∃ (out_9 : (List At)) (r_10 : qb) (u_8 : Value), env = [(7, .own u_8 (out_9.map encA))] ∧ σ = [.row u_8 out_9.length 107 2, .cell b_o0 (qc r_10)] ∧ kk0 out_9 r_10 = some res) ?_ (fun HK0 => ?_)
   ·
    rintro _ _ ⟨out_9, r_10, u_8, rfl, rfl, hr⟩
    rw [hkk0] at hr
    refine qk (gr [.d, .d] (r_d rfl rfl rfl (qe rfl rfl) (r_d rfl rfl rfl (qj rfl rfl) (ql (qar [_] _ (pf1 _ _ _) ?_)))))
    obtain rfl := Option.some.inj hr
    refine q9 Tryz.func143 _ (.cons (resTmp rfl (Wk.own _ _)) .nil) ?_
    exact ⟨_, rfl, rfl, rfl⟩
   ·
    refine qan [(2, .clo (.func 144) [.ref b_o0 0 []] []), (10, .int .i64 r_3.1), (7, .own u7_1 ([].map encA)), (11, .int .i64 0)] (Sub.cons' rfl (Sub.cons' rfl (Sub.cons' rfl (Sub.cons' rfl (Sub.nil _))))) (qar [_, _] _ ((pf1 _ _ _).trans (pf1 _ _ _)) (qdb (fun n env σ => ∃ (out_5 : (List At)) (t11_6 : Int) (r_7 : qb) (u_4 : Value) (m0 : Nat), (m0 = n) ∧ (env = [(2, .clo (.func 144) [.ref b_o0 0 []] []), (10, .int .i64 r_3.1), (7, .own u_4 (out_5.map encA)), (11, .int .i64 t11_6)]) ∧ (σ = [.cell b_o0 (qc r_7), .row u_4 out_5.length 107 2]) ∧ (m0 = (r_3.1 - t11_6 : Int).toNat) ∧ (qcP kk0 fuel m0 out_5 r_7 = some res)) _ ⟨[], 0, r_3.2, u7_1, _, rfl, rfl, rfl, rfl, hr⟩ ?_))
    rintro n _ _ ⟨out_5, t11_6, r_7, u_4, m0, rfl, rfl, rfl, hi0, hr⟩ IH0
    refine qdU 11 rfl fun hb0 => ?_
    rcases cntStep t11_6 r_3.1 m0 hi0 with ⟨hm0, ht0⟩ | ⟨m0', hm0, ht0, hi0', hlt0⟩
    ·
     rw [hm0, qcP] at hr
     refine qk (gr [.d] (r_d rfl rfl rfl (qX rfl rfl rfl rfl) (ql (qk (qbg 12 false rfl ht0 (qB rfl (qbC rfl (qan [(7, .own u_4 (out_5.map encA))] (Sub.cons' rfl (Sub.nil _)) (qar [_, _] _ ((pf0 _).trans (pf1 _ _ _)) ?_)))))))))
     exact HK0 _ _ ⟨out_5, r_7, u_4, rfl, rfl, hr⟩
    ·
     rw [hm0, qcP] at hr
     refine qk (gr [.d] (r_d rfl rfl rfl (qX rfl rfl rfl rfl) (ql (qk (qdU 10 rfl fun hbN10 => (qbg 12 true rfl ht0 (qC rfl (qab (qk (qbi (gr [.d, .d, .w, .d, .w, .d] ?_)))))))))))
     refine r_d rfl rfl rfl (qe rfl rfl) (r_d rfl rfl rfl (qe rfl rfl) ?_)
     rcases bindXS hr with ⟨c_r_11, hr_11, rfl⟩ | ⟨r_11, hr_11, hr⟩
     ·
      refine qb1 rfl rfl (qg5 _ rfl rfl qet .nil rfl (by exact (pf0 _)) (qN (qd4 fuel _ _ _ hr_11))) (hX _ ⟨_, rfl, rfl⟩)
     ·
      refine r_w rfl rfl rfl (qd9 _ rfl rfl qet .nil rfl (by exact (pf0 _)) (qO (qd4 fuel _ _ _ hr_11))) ?_
      rintro _ _ ⟨_, ⟨rfl, rfl⟩, rfl⟩
      refine r_st ((.cell b_o0 (qc r_11.2)) :: _) rfl (r_d rfl rfl rfl (qg3 (f := encA) [.tmp 15] [r_11.1] rfl qdg rfl rfl (by decide) (by decide) (.oc rfl .nil) qbA (fun _ => rfl)) ?_)
      obtain ⟨l_12, hl_12, hr⟩ := bindS hr
      refine r_w rfl rfl rfl (qdF (f := encA) out_5 [r_11.1] rfl qdg rfl rfl (asl rfl) (pf1 _ _ _) rfl qbA hl_12) ?_
      rintro _ _ ⟨u17_12, rfl, rfl⟩
      refine r_d rfl rfl rfl (qj rfl rfl) (ql (qac (gr [.d, .d] (r_d rfl rfl rfl (s_ar (r := t11_6 + 1) rfl rfl rfl rfl (by omega)) (r_d rfl rfl rfl (qe rfl rfl) (ql (qan [(2, .clo (.func 144) [.ref b_o0 0 []] []), (10, .int .i64 r_3.1), (7, .own u17_12 (l_12.map encA)), (11, .int .i64 (t11_6 + 1))] (Sub.cons' rfl (Sub.cons' rfl (Sub.cons' rfl (Sub.cons' rfl (Sub.nil _))))) (qar [_, _] _ ((pf0 _).trans (pf1 _ _ _)) ?_))))))))
      exact IH0 _ _ _ (by omega) ⟨l_12, (t11_6 + 1), r_11.2, u17_12, _, rfl, rfl, rfl, hi0', hr⟩
noncomputable def qbY (fuel : Nat) (c_0 : qb) : Option (Int ⊕ (Gl × qb)) :=
  (bindX (qq 0 12 c_0) fun r_2 =>
  (bindX (qaR r_2.2) fun r_3 =>
  (bindX (qae fuel 0 r_3.2) fun r_4 =>
  some (.inr ((⟨r_2.1, r_3.1, r_4.1⟩ : Gl), r_4.2)))))
set_option maxHeartbeats 1000000 in
theorem qd3 (fuel : Nat) (c_0 : qb) (b_o0 : Nat) (res : Int ⊕ (Gl × qb)) (hr : qbY fuel c_0 = some res) : SpecX Tryz.prog 146 [.ref b_o0 0 []] [.cell b_o0 (qc c_0)] (fun d σ => ∃ r : Gl × qb, res = .inr r ∧ d = encG r.1 ∧ σ = [.cell b_o0 (qc r.2)]) (fun d => ∃ c, res = .inl c ∧ d = .ifc 191 (.agg [.int .i64 c])) := by
  unfold qbY at hr
  refine qbL [(0, .ref b_o0 0 [])] Tryz.func146 rfl rfl fun K hK hX => (qk (gr [.w] (r_w rfl rfl rfl (qau rfl qj1) ?_)))
  rintro _ _ ⟨b2_0, rfl, rfl⟩
  refine ql (qk (gr [.d, .w, .d] (r_d rfl rfl rfl (qe rfl rfl) ?_)))
  rcases bindXS hr with ⟨c_r_2, hr_2, rfl⟩ | ⟨r_2, hr_2, hr⟩
  ·
   refine qb1 rfl rfl (qa0 _ rfl qn (.oc rfl (.oc rfl (.oc rfl .nil))) (by exact (pf1 _ _ _)) (qN (qm _ _ _ _ _ hr_2))) (hX _ ⟨_, rfl, rfl⟩)
  ·
   refine r_w rfl rfl rfl (qF _ rfl qn (.oc rfl (.oc rfl (.oc rfl .nil))) (by exact (pf1 _ _ _)) (qO (qm _ _ _ _ _ hr_2))) ?_
   rintro _ _ ⟨_, ⟨rfl, rfl⟩, rfl⟩
   refine r_st ((.cell b_o0 (qc r_2.2)) :: _) rfl (r_d rfl rfl rfl (qj rfl rfl) (ql (qk (gr [.d, .w, .d] (r_d rfl rfl rfl (qe rfl rfl) ?_)))))
   rcases bindXS hr with ⟨c_r_3, hr_3, rfl⟩ | ⟨r_3, hr_3, hr⟩
   ·
    refine qb1 rfl rfl (qa0 _ rfl qbr (.oc rfl .nil) (by exact (pf0 _)) (qN (qa7 _ _ _ hr_3))) (hX _ ⟨_, rfl, rfl⟩)
   ·
    refine r_w rfl rfl rfl (qF _ rfl qbr (.oc rfl .nil) (by exact (pf0 _)) (qO (qa7 _ _ _ hr_3))) ?_
    rintro _ _ ⟨_, ⟨rfl, rfl⟩, rfl⟩
    refine r_st ((.cell b_o0 (qc r_3.2)) :: _) rfl (r_d rfl rfl rfl (qj rfl rfl) (ql (qk (gr [.d, .d, .d, .w, .d, .w] (r_d rfl rfl rfl (qe rfl rfl) (r_d rfl rfl rfl (qe rfl rfl) (r_d rfl rfl rfl (qe rfl rfl) ?_)))))))
    rcases bindXS hr with ⟨c_r_4, hr_4, rfl⟩ | ⟨r_4, hr_4, hr⟩
    ·
     refine qb1 rfl rfl (qa0 _ rfl qdl (.oc rfl (.oc rfl .nil)) (by exact (pf0 _)) (qN (qcT fuel _ _ _ _ hr_4))) (hX _ ⟨_, rfl, rfl⟩)
    ·
     refine r_w rfl rfl rfl (qF _ rfl qdl (.oc rfl (.oc rfl .nil)) (by exact (pf0 _)) (qO (qcT fuel _ _ _ _ hr_4))) ?_
     rintro _ _ ⟨_, ⟨rfl, rfl⟩, rfl⟩
     refine r_st ((.cell b_o0 (qc r_4.2)) :: _) rfl (r_d rfl rfl rfl (qbT rfl qju (.oc rfl (.oc rfl (.oc rfl .nil))) (.cons rfl rfl rfl (.cons rfl rfl rfl (.cons rfl rfl rfl (.nil _))))) (qaa rfl rfl rfl (qK _ rfl rfl rfl (Wk.refl _) (pf1 _ _ _) (by exact qcq) rfl rfl rfl) (ql (qap 2 b2_0 rfl (pf0 _) ?_))))
     obtain rfl := Option.some.inj hr
     refine q9 Tryz.func146 _ (.cons (resPtr rfl (by exact qcq) rfl (Wk.refl _)) .nil) ?_
     exact ⟨_, rfl, rfl, rfl⟩
noncomputable def qcE (k : ((List Gl)) → (qb) → Option (Int ⊕ ((List Gl) × qb))) (fuel : Nat) : Nat → (List Gl) → qb → Option (Int ⊕ ((List Gl) × qb))
  | 0, out_5, r_7 =>
  (k out_5 r_7)
  | rest + 1, out_5, r_7 =>
  (bindX (qbY fuel r_7) fun r_11 =>
  ((appO 48 out_5 [r_11.1]).bind fun l_12 =>
  (qcE k fuel rest l_12 r_11.2)))
noncomputable def qed (fuel : Nat) (most_a1 : Int) (c_0 : qb) : Option (Int ⊕ ((List Gl) × qb)) :=
  (bindX (qq 0 most_a1 c_0) fun r_3 =>
  (qcE (fun out_9 r_10 =>
  some (.inr (out_9, r_10))) fuel (r_3.1 - 0 : Int).toNat [] r_3.2))
set_option maxHeartbeats 1000000 in
theorem qfQ (fuel : Nat) (most_a1 : Int) (c_0 : qb) (b_o0 : Nat) (res : Int ⊕ ((List Gl) × qb)) (hr : qed fuel most_a1 c_0 = some res) : SpecX Tryz.prog 145 [.ref b_o0 0 [], .int .i64 most_a1, .clo (.func 146) [.ref b_o0 0 []] []] [.cell b_o0 (qc c_0)] (fun d σ => ∃ r : (List Gl) × qb, res = .inr r ∧ d = .lst (r.1.map encG) ∧ σ = [.cell b_o0 (qc r.2)]) (fun d => ∃ c, res = .inl c ∧ d = .ifc 191 (.agg [.int .i64 c])) := by
  unfold qed at hr
  refine qbL [(0, .ref b_o0 0 []), (1, .int .i64 most_a1), (2, .clo (.func 146) [.ref b_o0 0 []] [])] Tryz.func145 rfl rfl fun K hK hX => (qk (gr [.w] (r_w rfl rfl rfl (qcs 73 3 (.inl rfl)) ?_)))
  rintro _ _ ⟨u6_0, rfl, rfl⟩
  refine ql (qk (gr [.w] (r_w rfl rfl rfl (qcs 73 3 (.inl rfl)) ?_)))
  rintro _ _ ⟨u7_1, rfl, rfl⟩
  refine ql (qk (qk (gr [.d, .d, .w, .d] (r_d rfl rfl rfl (qe rfl rfl) (r_d rfl rfl rfl (qe rfl rfl) ?_)))))
  rcases bindXS hr with ⟨c_r_3, hr_3, rfl⟩ | ⟨r_3, hr_3, hr⟩
  ·
   refine qb1 rfl rfl (qa0 _ rfl qn (.oc rfl (.oc rfl (.oc rfl .nil))) (by exact (pf2 _ _ _ _)) (qN (qm _ _ _ _ _ hr_3))) (hX _ ⟨_, rfl, rfl⟩)
  ·
   refine r_w rfl rfl rfl (qF _ rfl qn (.oc rfl (.oc rfl (.oc rfl .nil))) (by exact (pf2 _ _ _ _)) (qO (qm _ _ _ _ _ hr_3))) ?_
   rintro _ _ ⟨_, ⟨rfl, rfl⟩, rfl⟩
   refine r_st ((.cell b_o0 (qc r_3.2)) :: _) rfl (r_d rfl rfl rfl (qe rfl rfl) (ql ?_))
   obtain ⟨kk0, hkk0, hr⟩ := exK (fun k => qcE k fuel (r_3.1 - 0 : Int).toNat [] r_3.2) hr
   refine qdU 10 rfl fun hla0 => ?_
   refine qbe (fun env σ => ∃ (out_9 : (List Gl)) (r_10 : qb) (u_8 : Value), env = [(7, .own u_8 (out_9.map encG))] ∧ σ = [.row u_8 out_9.length 73 3, .cell b_o0 (qc r_10)] ∧ kk0 out_9 r_10 = some res) ?_ (fun HK0 => ?_)
   ·
    rintro _ _ ⟨out_9, r_10, u_8, rfl, rfl, hr⟩
    rw [hkk0] at hr
    refine qk (gr [.d, .d] (r_d rfl rfl rfl (qe rfl rfl) (r_d rfl rfl rfl (qj rfl rfl) (ql (qar [_] _ (pf1 _ _ _) ?_)))))
    obtain rfl := Option.some.inj hr
    refine q9 Tryz.func145 _ (.cons (resTmp rfl (Wk.own _ _)) .nil) ?_
    exact ⟨_, rfl, rfl, rfl⟩
   ·
    refine qan [(2, .clo (.func 146) [.ref b_o0 0 []] []), (10, .int .i64 r_3.1), (7, .own u7_1 ([].map encG)), (11, .int .i64 0)] (Sub.cons' rfl (Sub.cons' rfl (Sub.cons' rfl (Sub.cons' rfl (Sub.nil _))))) (qar [_, _] _ ((pf1 _ _ _).trans (pf1 _ _ _)) (qdb (fun n env σ => ∃ (out_5 : (List Gl)) (t11_6 : Int) (r_7 : qb) (u_4 : Value) (m0 : Nat), (m0 = n) ∧ (env = [(2, .clo (.func 146) [.ref b_o0 0 []] []), (10, .int .i64 r_3.1), (7, .own u_4 (out_5.map encG)), (11, .int .i64 t11_6)]) ∧ (σ = [.cell b_o0 (qc r_7), .row u_4 out_5.length 73 3]) ∧ (m0 = (r_3.1 - t11_6 : Int).toNat) ∧ (qcE kk0 fuel m0 out_5 r_7 = some res)) _ ⟨[], 0, r_3.2, u7_1, _, rfl, rfl, rfl, rfl, hr⟩ ?_))
    rintro n _ _ ⟨out_5, t11_6, r_7, u_4, m0, rfl, rfl, rfl, hi0, hr⟩ IH0
    refine qdU 11 rfl fun hb0 => ?_
    rcases cntStep t11_6 r_3.1 m0 hi0 with ⟨hm0, ht0⟩ | ⟨m0', hm0, ht0, hi0', hlt0⟩
    ·
     rw [hm0, qcE] at hr
     refine qk (gr [.d] (r_d rfl rfl rfl (qX rfl rfl rfl rfl) (ql (qk (qbg 12 false rfl ht0 (qB rfl (qbC rfl (qan [(7, .own u_4 (out_5.map encG))] (Sub.cons' rfl (Sub.nil _)) (qar [_, _] _ ((pf0 _).trans (pf1 _ _ _)) ?_)))))))))
     exact HK0 _ _ ⟨out_5, r_7, u_4, rfl, rfl, hr⟩
    ·
     rw [hm0, qcE] at hr
     refine qk (gr [.d] (r_d rfl rfl rfl (qX rfl rfl rfl rfl) (ql (qk (qdU 10 rfl fun hbN10 => (qbg 12 true rfl ht0 (qC rfl (qab (qk (qbi (gr [.d, .d, .w, .d, .w, .d] ?_)))))))))))
     refine r_d rfl rfl rfl (qe rfl rfl) (r_d rfl rfl rfl (qe rfl rfl) ?_)
     rcases bindXS hr with ⟨c_r_11, hr_11, rfl⟩ | ⟨r_11, hr_11, hr⟩
     ·
      refine qb1 rfl rfl (qg5 _ rfl rfl qev .nil rfl (by exact (pf0 _)) (qN (qd3 fuel _ _ _ hr_11))) (hX _ ⟨_, rfl, rfl⟩)
     ·
      refine r_w rfl rfl rfl (qd9 _ rfl rfl qev .nil rfl (by exact (pf0 _)) (qO (qd3 fuel _ _ _ hr_11))) ?_
      rintro _ _ ⟨_, ⟨rfl, rfl⟩, rfl⟩
      refine r_st ((.cell b_o0 (qc r_11.2)) :: _) rfl (r_d rfl rfl rfl (qg3 (f := encG) [.tmp 15] [r_11.1] rfl qde rfl rfl (by decide) (by decide) (.oc rfl .nil) qbh (fun _ => rfl)) ?_)
      obtain ⟨l_12, hl_12, hr⟩ := bindS hr
      refine r_w rfl rfl rfl (qdF (f := encG) out_5 [r_11.1] rfl qde rfl rfl (asl rfl) (pf1 _ _ _) rfl qbh hl_12) ?_
      rintro _ _ ⟨u17_12, rfl, rfl⟩
      refine r_d rfl rfl rfl (qj rfl rfl) (ql (qac (gr [.d, .d] (r_d rfl rfl rfl (s_ar (r := t11_6 + 1) rfl rfl rfl rfl (by omega)) (r_d rfl rfl rfl (qe rfl rfl) (ql (qan [(2, .clo (.func 146) [.ref b_o0 0 []] []), (10, .int .i64 r_3.1), (7, .own u17_12 (l_12.map encG)), (11, .int .i64 (t11_6 + 1))] (Sub.cons' rfl (Sub.cons' rfl (Sub.cons' rfl (Sub.cons' rfl (Sub.nil _))))) (qar [_, _] _ ((pf0 _).trans (pf1 _ _ _)) ?_))))))))
      exact IH0 _ _ _ (by omega) ⟨l_12, (t11_6 + 1), r_11.2, u17_12, _, rfl, rfl, rfl, hi0', hr⟩
noncomputable def qcY (fuel : Nat) (c_0 : qb) : Option (Int ⊕ (qak × qb)) :=
  (bindX (qaR c_0) fun r_2 =>
  (bindX (qeb fuel 4 r_2.2) fun r_3 =>
  (bindX (qeb fuel 4 r_3.2) fun r_4 =>
  (bindX (qed fuel 12 r_4.2) fun r_5 =>
  (bindX (qed fuel 12 r_5.2) fun r_6 =>
  (bindX (qq 0 1048576 r_6.2) fun r_7 =>
  some (.inr ((⟨r_2.1, r_3.1, r_4.1, r_5.1, r_6.1, r_7.1⟩ : qak), r_7.2))))))))
set_option maxHeartbeats 1000000 in
theorem qgu (fuel : Nat) (c_0 : qb) (b_o0 : Nat) (res : Int ⊕ (qak × qb)) (hr : qcY fuel c_0 = some res) : SpecX Tryz.prog 53 [.ref b_o0 0 []] [.cell b_o0 (qc c_0)] (fun d σ => ∃ r : qak × qb, res = .inr r ∧ d = qT r.1 ∧ σ = [.cell b_o0 (qc r.2)]) (fun d => ∃ c, res = .inl c ∧ d = .ifc 191 (.agg [.int .i64 c])) := by
  unfold qcY at hr
  refine qbL [(0, .ref b_o0 0 [])] Tryz.func53 rfl rfl fun K hK hX => (qk (gr [.w] (r_w rfl rfl rfl (qau rfl qk2) ?_)))
  rintro _ _ ⟨b2_0, rfl, rfl⟩
  refine ql (qk (gr [.d, .w, .d, .w] (r_d rfl rfl rfl (qe rfl rfl) ?_)))
  rcases bindXS hr with ⟨c_r_2, hr_2, rfl⟩ | ⟨r_2, hr_2, hr⟩
  ·
   refine qb1 rfl rfl (qa0 _ rfl qbr (.oc rfl .nil) (by exact (pf1 _ _ _)) (qN (qa7 _ _ _ hr_2))) (hX _ ⟨_, rfl, rfl⟩)
  ·
   refine r_w rfl rfl rfl (qF _ rfl qbr (.oc rfl .nil) (by exact (pf1 _ _ _)) (qO (qa7 _ _ _ hr_2))) ?_
   rintro _ _ ⟨_, ⟨rfl, rfl⟩, rfl⟩
   refine r_st ((.cell b_o0 (qc r_2.2)) :: _) rfl (r_d rfl rfl rfl (qo rfl qip rfl) (qaa rfl rfl rfl (qV _ rfl rfl rfl (Wk.refl _) (pf1 _ _ _) rfl rfl (by exact qep) rfl rfl rfl) (ql (qk (gr [.d, .d, .d, .w, .d, .w] (r_d rfl rfl rfl (qe rfl rfl) (r_d rfl rfl rfl (qe rfl rfl) (r_d rfl rfl rfl (qbz rfl rfl rfl) ?_))))))))
   rcases bindXS hr with ⟨c_r_3, hr_3, rfl⟩ | ⟨r_3, hr_3, hr⟩
   ·
    refine qb1 rfl rfl (qa0 _ rfl qen (.oc rfl (.oc rfl (.oc rfl .nil))) (by exact (pf1 _ _ _)) (qN (qfI fuel _ _ _ _ hr_3))) (hX _ ⟨_, rfl, rfl⟩)
   ·
    refine r_w rfl rfl rfl (qF _ rfl qen (.oc rfl (.oc rfl (.oc rfl .nil))) (by exact (pf1 _ _ _)) (qO (qfI fuel _ _ _ _ hr_3))) ?_
    rintro _ _ ⟨_, ⟨rfl, rfl⟩, rfl⟩
    refine r_st ((.cell b_o0 (qc r_3.2)) :: _) rfl (r_d rfl rfl rfl (qo rfl qhB rfl) (qaa rfl rfl rfl (qV _ rfl rfl rfl (Wk.refl _) (pf1 _ _ _) rfl rfl (by exact qei) rfl rfl rfl) (ql (qk (gr [.d, .d, .d, .w, .d, .w] (r_d rfl rfl rfl (qe rfl rfl) (r_d rfl rfl rfl (qe rfl rfl) (r_d rfl rfl rfl (qbz rfl rfl rfl) ?_))))))))
    rcases bindXS hr with ⟨c_r_4, hr_4, rfl⟩ | ⟨r_4, hr_4, hr⟩
    ·
     refine qb1 rfl rfl (qa0 _ rfl qen (.oc rfl (.oc rfl (.oc rfl .nil))) (by exact (pf1 _ _ _)) (qN (qfI fuel _ _ _ _ hr_4))) (hX _ ⟨_, rfl, rfl⟩)
    ·
     refine r_w rfl rfl rfl (qF _ rfl qen (.oc rfl (.oc rfl (.oc rfl .nil))) (by exact (pf1 _ _ _)) (qO (qfI fuel _ _ _ _ hr_4))) ?_
     rintro _ _ ⟨_, ⟨rfl, rfl⟩, rfl⟩
     refine r_st ((.cell b_o0 (qc r_4.2)) :: _) rfl (r_d rfl rfl rfl (qo rfl qhq rfl) (qaa rfl rfl rfl (qV _ rfl rfl rfl (Wk.refl _) (pf1 _ _ _) rfl rfl (by exact qei) rfl rfl rfl) (ql (qk (gr [.d, .d, .d, .w, .d, .w] (r_d rfl rfl rfl (qe rfl rfl) (r_d rfl rfl rfl (qe rfl rfl) (r_d rfl rfl rfl (qbz rfl rfl rfl) ?_))))))))
     rcases bindXS hr with ⟨c_r_5, hr_5, rfl⟩ | ⟨r_5, hr_5, hr⟩
     ·
      refine qb1 rfl rfl (qa0 _ rfl qeg (.oc rfl (.oc rfl (.oc rfl .nil))) (by exact (pf1 _ _ _)) (qN (qfQ fuel _ _ _ _ hr_5))) (hX _ ⟨_, rfl, rfl⟩)
     ·
      refine r_w rfl rfl rfl (qF _ rfl qeg (.oc rfl (.oc rfl (.oc rfl .nil))) (by exact (pf1 _ _ _)) (qO (qfQ fuel _ _ _ _ hr_5))) ?_
      rintro _ _ ⟨_, ⟨rfl, rfl⟩, rfl⟩
      refine r_st ((.cell b_o0 (qc r_5.2)) :: _) rfl (r_d rfl rfl rfl (qo rfl qhs rfl) (qaa rfl rfl rfl (qV _ rfl rfl rfl (Wk.refl _) (pf1 _ _ _) rfl rfl (by exact qeh) rfl rfl rfl) (ql (qk (gr [.d, .d, .d, .w, .d, .w] (r_d rfl rfl rfl (qe rfl rfl) (r_d rfl rfl rfl (qe rfl rfl) (r_d rfl rfl rfl (qbz rfl rfl rfl) ?_))))))))
      rcases bindXS hr with ⟨c_r_6, hr_6, rfl⟩ | ⟨r_6, hr_6, hr⟩
      ·
       refine qb1 rfl rfl (qa0 _ rfl qeg (.oc rfl (.oc rfl (.oc rfl .nil))) (by exact (pf1 _ _ _)) (qN (qfQ fuel _ _ _ _ hr_6))) (hX _ ⟨_, rfl, rfl⟩)
      ·
       refine r_w rfl rfl rfl (qF _ rfl qeg (.oc rfl (.oc rfl (.oc rfl .nil))) (by exact (pf1 _ _ _)) (qO (qfQ fuel _ _ _ _ hr_6))) ?_
       rintro _ _ ⟨_, ⟨rfl, rfl⟩, rfl⟩
       refine r_st ((.cell b_o0 (qc r_6.2)) :: _) rfl (r_d rfl rfl rfl (qo rfl qhv rfl) (qaa rfl rfl rfl (qV _ rfl rfl rfl (Wk.refl _) (pf1 _ _ _) rfl rfl (by exact qeh) rfl rfl rfl) (ql (qk (gr [.d, .w, .d, .w] (r_d rfl rfl rfl (qe rfl rfl) ?_))))))
       rcases bindXS hr with ⟨c_r_7, hr_7, rfl⟩ | ⟨r_7, hr_7, hr⟩
       ·
        refine qb1 rfl rfl (qa0 _ rfl qn (.oc rfl (.oc rfl (.oc rfl .nil))) (by exact (pf1 _ _ _)) (qN (qm _ _ _ _ _ hr_7))) (hX _ ⟨_, rfl, rfl⟩)
       ·
        refine r_w rfl rfl rfl (qF _ rfl qn (.oc rfl (.oc rfl (.oc rfl .nil))) (by exact (pf1 _ _ _)) (qO (qm _ _ _ _ _ hr_7))) ?_
        rintro _ _ ⟨_, ⟨rfl, rfl⟩, rfl⟩
        refine r_st ((.cell b_o0 (qc r_7.2)) :: _) rfl (r_d rfl rfl rfl (qo rfl qhu rfl) (qaa rfl rfl rfl (qV _ rfl rfl rfl (Wk.refl _) (pf1 _ _ _) rfl rfl (by exact qaF) rfl rfl rfl) (ql (qk (gr [.r, .w] (r_r rfl rfl rfl (qx rfl rfl (.head _) rfl rfl (by exact qfj) rfl) (qaa rfl rfl rfl (qK _ rfl rfl rfl (Wk.refl _) (pf0 _) (by exact qfj) rfl rfl rfl) (ql (qap 2 b2_0 rfl (pf0 _) ?_)))))))))
        obtain rfl := Option.some.inj hr
        refine q9 Tryz.func53 _ (.cons (resPtr rfl (by exact qfj) rfl (Wk.refl _)) .nil) ?_
        exact ⟨_, rfl, rfl, rfl⟩
noncomputable def qcH (k : ((List qak)) → (qb) → Option (Int ⊕ ((List qak) × qb))) (fuel : Nat) : Nat → (List qak) → qb → Option (Int ⊕ ((List qak) × qb))
  | 0, out_5, r_7 =>
  (k out_5 r_7)
  | rest + 1, out_5, r_7 =>
  (bindX (qcY fuel r_7) fun r_11 =>
  ((appO 120 out_5 [r_11.1]).bind fun l_12 =>
  (qcH k fuel rest l_12 r_11.2)))
noncomputable def qe4 (fuel : Nat) (most_a1 : Int) (c_0 : qb) : Option (Int ⊕ ((List qak) × qb)) :=
  (bindX (qq 0 most_a1 c_0) fun r_3 =>
  (qcH (fun out_9 r_10 =>
  some (.inr (out_9, r_10))) fuel (r_3.1 - 0 : Int).toNat [] r_3.2))
set_option maxHeartbeats 1000000 in
theorem qiL (fuel : Nat) (most_a1 : Int) (c_0 : qb) (b_o0 : Nat) (res : Int ⊕ ((List qak) × qb)) (hr : qe4 fuel most_a1 c_0 = some res) : SpecX Tryz.prog 52 [.ref b_o0 0 [], .int .i64 most_a1, .clo (.func 53) [.ref b_o0 0 []] []] [.cell b_o0 (qc c_0)] (fun d σ => ∃ r : (List qak) × qb, res = .inr r ∧ d = .lst (r.1.map qT) ∧ σ = [.cell b_o0 (qc r.2)]) (fun d => ∃ c, res = .inl c ∧ d = .ifc 191 (.agg [.int .i64 c])) := by
  unfold qe4 at hr
  refine qbL [(0, .ref b_o0 0 []), (1, .int .i64 most_a1), (2, .clo (.func 53) [.ref b_o0 0 []] [])] Tryz.func52 rfl rfl fun K hK hX => (qk (gr [.w] (r_w rfl rfl rfl (qcs 68 6 (.inl rfl)) ?_)))
  rintro _ _ ⟨u6_0, rfl, rfl⟩
  refine ql (qk (gr [.w] (r_w rfl rfl rfl (qcs 68 6 (.inl rfl)) ?_)))
  rintro _ _ ⟨u7_1, rfl, rfl⟩
  refine ql (qk (qk (gr [.d, .d, .w, .d] (r_d rfl rfl rfl (qe rfl rfl) (r_d rfl rfl rfl (qe rfl rfl) ?_)))))
  rcases bindXS hr with ⟨c_r_3, hr_3, rfl⟩ | ⟨r_3, hr_3, hr⟩
  ·
   refine qb1 rfl rfl (qa0 _ rfl qn (.oc rfl (.oc rfl (.oc rfl .nil))) (by exact (pf2 _ _ _ _)) (qN (qm _ _ _ _ _ hr_3))) (hX _ ⟨_, rfl, rfl⟩)
  ·
   refine r_w rfl rfl rfl (qF _ rfl qn (.oc rfl (.oc rfl (.oc rfl .nil))) (by exact (pf2 _ _ _ _)) (qO (qm _ _ _ _ _ hr_3))) ?_
   rintro _ _ ⟨_, ⟨rfl, rfl⟩, rfl⟩
   refine r_st ((.cell b_o0 (qc r_3.2)) :: _) rfl (r_d rfl rfl rfl (qe rfl rfl) (ql ?_))
   obtain ⟨kk0, hkk0, hr⟩ := exK (fun k => qcH k fuel (r_3.1 - 0 : Int).toNat [] r_3.2) hr
   refine qdU 10 rfl fun hla0 => ?_
   refine qbe (fun env σ => ∃ (out_9 : (List qak)) (r_10 : qb) (u_8 : Value), env = [(7, .own u_8 (out_9.map qT))] ∧ σ = [.row u_8 out_9.length 68 6, .cell b_o0 (qc r_10)] ∧ kk0 out_9 r_10 = some res) ?_ (fun HK0 => ?_)
   ·
    rintro _ _ ⟨out_9, r_10, u_8, rfl, rfl, hr⟩
    rw [hkk0] at hr
    refine qk (gr [.d, .d] (r_d rfl rfl rfl (qe rfl rfl) (r_d rfl rfl rfl (qj rfl rfl) (ql (qar [_] _ (pf1 _ _ _) ?_)))))
    obtain rfl := Option.some.inj hr
    refine q9 Tryz.func52 _ (.cons (resTmp rfl (Wk.own _ _)) .nil) ?_
    exact ⟨_, rfl, rfl, rfl⟩
   ·
    refine qan [(2, .clo (.func 53) [.ref b_o0 0 []] []), (10, .int .i64 r_3.1), (7, .own u7_1 ([].map qT)), (11, .int .i64 0)] (Sub.cons' rfl (Sub.cons' rfl (Sub.cons' rfl (Sub.cons' rfl (Sub.nil _))))) (qar [_, _] _ ((pf1 _ _ _).trans (pf1 _ _ _)) (qdb (fun n env σ => ∃ (out_5 : (List qak)) (t11_6 : Int) (r_7 : qb) (u_4 : Value) (m0 : Nat), (m0 = n) ∧ (env = [(2, .clo (.func 53) [.ref b_o0 0 []] []), (10, .int .i64 r_3.1), (7, .own u_4 (out_5.map qT)), (11, .int .i64 t11_6)]) ∧ (σ = [.cell b_o0 (qc r_7), .row u_4 out_5.length 68 6]) ∧ (m0 = (r_3.1 - t11_6 : Int).toNat) ∧ (qcH kk0 fuel m0 out_5 r_7 = some res)) _ ⟨[], 0, r_3.2, u7_1, _, rfl, rfl, rfl, rfl, hr⟩ ?_))
    rintro n _ _ ⟨out_5, t11_6, r_7, u_4, m0, rfl, rfl, rfl, hi0, hr⟩ IH0
    refine qdU 11 rfl fun hb0 => ?_
    rcases cntStep t11_6 r_3.1 m0 hi0 with ⟨hm0, ht0⟩ | ⟨m0', hm0, ht0, hi0', hlt0⟩
    ·
     rw [hm0, qcH] at hr
     refine qk (gr [.d] (r_d rfl rfl rfl (qX rfl rfl rfl rfl) (ql (qk (qbg 12 false rfl ht0 (qB rfl (qbC rfl (qan [(7, .own u_4 (out_5.map qT))] (Sub.cons' rfl (Sub.nil _)) (qar [_, _] _ ((pf0 _).trans (pf1 _ _ _)) ?_)))))))))
     exact HK0 _ _ ⟨out_5, r_7, u_4, rfl, rfl, hr⟩
    ·
     rw [hm0, qcH] at hr
     refine qk (gr [.d] (r_d rfl rfl rfl (qX rfl rfl rfl rfl) (ql (qk (qdU 10 rfl fun hbN10 => (qbg 12 true rfl ht0 (qC rfl (qab (qk (qbi (gr [.d, .d, .w, .d, .w, .d] ?_)))))))))))
     refine r_d rfl rfl rfl (qe rfl rfl) (r_d rfl rfl rfl (qe rfl rfl) ?_)
     rcases bindXS hr with ⟨c_r_11, hr_11, rfl⟩ | ⟨r_11, hr_11, hr⟩
     ·
      refine qb1 rfl rfl (qg5 _ rfl rfl qhj .nil rfl (by exact (pf0 _)) (qN (qgu fuel _ _ _ hr_11))) (hX _ ⟨_, rfl, rfl⟩)
     ·
      refine r_w rfl rfl rfl (qd9 _ rfl rfl qhj .nil rfl (by exact (pf0 _)) (qO (qgu fuel _ _ _ hr_11))) ?_
      rintro _ _ ⟨_, ⟨rfl, rfl⟩, rfl⟩
      refine r_st ((.cell b_o0 (qc r_11.2)) :: _) rfl (r_d rfl rfl rfl (qg3 (f := qT) [.tmp 15] [r_11.1] rfl qdu rfl rfl (by decide) (by decide) (.oc rfl .nil) qdL (fun _ => rfl)) ?_)
      obtain ⟨l_12, hl_12, hr⟩ := bindS hr
      refine r_w rfl rfl rfl (qdF (f := qT) out_5 [r_11.1] rfl qdu rfl rfl (asl rfl) (pf1 _ _ _) rfl qdL hl_12) ?_
      rintro _ _ ⟨u17_12, rfl, rfl⟩
      refine r_d rfl rfl rfl (qj rfl rfl) (ql (qac (gr [.d, .d] (r_d rfl rfl rfl (s_ar (r := t11_6 + 1) rfl rfl rfl rfl (by omega)) (r_d rfl rfl rfl (qe rfl rfl) (ql (qan [(2, .clo (.func 53) [.ref b_o0 0 []] []), (10, .int .i64 r_3.1), (7, .own u17_12 (l_12.map qT)), (11, .int .i64 (t11_6 + 1))] (Sub.cons' rfl (Sub.cons' rfl (Sub.cons' rfl (Sub.cons' rfl (Sub.nil _))))) (qar [_, _] _ ((pf0 _).trans (pf1 _ _ _)) ?_))))))))
      exact IH0 _ _ _ (by omega) ⟨l_12, (t11_6 + 1), r_11.2, u17_12, _, rfl, rfl, rfl, hi0', hr⟩
noncomputable def qcu (fuel : Nat) (c_0 : qb) : Option (Int ⊕ (qad × qb)) :=
  (bindX (qe6 30 c_0) fun r_2 =>
  (bindX (qe4 fuel 40 r_2.2) fun r_3 =>
  some (.inr ((⟨r_2.1, r_3.1⟩ : qad), r_3.2))))
set_option maxHeartbeats 1000000 in
theorem qga (fuel : Nat) (c_0 : qb) (b_o0 : Nat) (res : Int ⊕ (qad × qb)) (hr : qcu fuel c_0 = some res) : SpecX Tryz.prog 47 [.ref b_o0 0 []] [.cell b_o0 (qc c_0)] (fun d σ => ∃ r : qad × qb, res = .inr r ∧ d = qS r.1 ∧ σ = [.cell b_o0 (qc r.2)]) (fun d => ∃ c, res = .inl c ∧ d = .ifc 191 (.agg [.int .i64 c])) := by
  unfold qcu at hr
  refine qbL [(0, .ref b_o0 0 [])] Tryz.func47 rfl rfl fun K hK hX => (qk (gr [.d, .w] (r_d rfl rfl rfl (qgF rfl rfl rfl) (r_w rfl rfl rfl (qau rfl qdI) ?_))))
  rintro _ _ ⟨b2_0, rfl, rfl⟩
  refine ql (qk (gr [.d, .d, .w, .d, .w] (r_d rfl rfl rfl (qw rfl rfl (by exact qaf) rfl) (r_d rfl rfl rfl (qbz rfl rfl rfl) ?_))))
  rcases bindXS hr with ⟨c_r_2, hr_2, rfl⟩ | ⟨r_2, hr_2, hr⟩
  ·
   refine qb1 rfl rfl (qa0 _ rfl qgP (.oc rfl (.oc rfl (.oc rfl .nil))) (by exact (pf1 _ _ _)) (qN (qiZ _ _ _ _ hr_2))) (hX _ ⟨_, rfl, rfl⟩)
  ·
   refine r_w rfl rfl rfl (qF _ rfl qgP (.oc rfl (.oc rfl (.oc rfl .nil))) (by exact (pf1 _ _ _)) (qO (qiZ _ _ _ _ hr_2))) ?_
   rintro _ _ ⟨_, ⟨rfl, rfl⟩, rfl⟩
   refine r_st ((.cell b_o0 (qc r_2.2)) :: _) rfl (r_d rfl rfl rfl (qo rfl qcS rfl) (qaa rfl rfl rfl (qV _ rfl rfl rfl (Wk.refl _) (pf1 _ _ _) rfl rfl (by exact qdP) rfl rfl rfl) (ql (qk (gr [.d, .d, .d, .w, .d, .w] (r_d rfl rfl rfl (qw rfl rfl (by exact qaf) rfl) (r_d rfl rfl rfl (qw rfl rfl (by exact qaf) rfl) (r_d rfl rfl rfl (qbz rfl rfl rfl) ?_))))))))
   rcases bindXS hr with ⟨c_r_3, hr_3, rfl⟩ | ⟨r_3, hr_3, hr⟩
   ·
    refine qb1 rfl rfl (qa0 _ rfl qgQ (.oc rfl (.oc rfl (.oc rfl .nil))) (by exact (pf1 _ _ _)) (qN (qiL fuel _ _ _ _ hr_3))) (hX _ ⟨_, rfl, rfl⟩)
   ·
    refine r_w rfl rfl rfl (qF _ rfl qgQ (.oc rfl (.oc rfl (.oc rfl .nil))) (by exact (pf1 _ _ _)) (qO (qiL fuel _ _ _ _ hr_3))) ?_
    rintro _ _ ⟨_, ⟨rfl, rfl⟩, rfl⟩
    refine r_st ((.cell b_o0 (qc r_3.2)) :: _) rfl (r_d rfl rfl rfl (qo rfl qdr rfl) (qaa rfl rfl rfl (qV _ rfl rfl rfl (Wk.refl _) (pf1 _ _ _) rfl rfl (by exact qej) rfl rfl rfl) (ql (qk (gr [.r, .w] (r_r rfl rfl rfl (qx rfl rfl (.head _) rfl rfl (by exact qaK) rfl) (qaa rfl rfl rfl (qK _ rfl rfl rfl (Wk.refl _) (pf0 _) (by exact qaK) rfl rfl rfl) (ql (qap 2 b2_0 rfl (pf0 _) ?_)))))))))
    obtain rfl := Option.some.inj hr
    refine q9 Tryz.func47 _ (.cons (resPtr rfl (by exact qaK) rfl (Wk.refl _)) .nil) ?_
    exact ⟨_, rfl, rfl, rfl⟩
noncomputable def qcx (fuel : Nat) (c_0 : qb) : Option (Int ⊕ (qL × qb)) :=
  (bindX (qq 0 2147483648 c_0) fun r_2 =>
  (bindX (qq (-1) 2147483648 r_2.2) fun r_3 =>
  (bif (r_2.1 == (0 : Int)) then
  (bindX (qbY fuel r_3.2) fun r_5 =>
  some (.inr ((⟨r_5.1, r_2.1, r_3.1⟩ : qL), r_5.2)))
  else
  some (.inr ((⟨(⟨0, ⟨#[]⟩, []⟩ : Gl), r_2.1, r_3.1⟩ : qL), r_3.2)))))
set_option maxHeartbeats 1000000 in
theorem qgd (fuel : Nat) (c_0 : qb) (b_o0 : Nat) (res : Int ⊕ (qL × qb)) (hr : qcx fuel c_0 = some res) : SpecX Tryz.prog 79 [.ref b_o0 0 []] [.cell b_o0 (qc c_0)] (fun d σ => ∃ r : qL × qb, res = .inr r ∧ d = qz r.1 ∧ σ = [.cell b_o0 (qc r.2)]) (fun d => ∃ c, res = .inl c ∧ d = .ifc 191 (.agg [.int .i64 c])) := by
  unfold qcx at hr
  refine qbL [(0, .ref b_o0 0 [])] Tryz.func79 rfl rfl fun K hK hX => (qk (gr [.w] (r_w rfl rfl rfl (qau rfl qi7) ?_)))
  rintro _ _ ⟨b2_0, rfl, rfl⟩
  refine ql (qk (gr [.d, .w, .d, .w] (r_d rfl rfl rfl (qe rfl rfl) ?_)))
  rcases bindXS hr with ⟨c_r_2, hr_2, rfl⟩ | ⟨r_2, hr_2, hr⟩
  ·
   refine qb1 rfl rfl (qa0 _ rfl qn (.oc rfl (.oc rfl (.oc rfl .nil))) (by exact (pf1 _ _ _)) (qN (qm _ _ _ _ _ hr_2))) (hX _ ⟨_, rfl, rfl⟩)
  ·
   refine r_w rfl rfl rfl (qF _ rfl qn (.oc rfl (.oc rfl (.oc rfl .nil))) (by exact (pf1 _ _ _)) (qO (qm _ _ _ _ _ hr_2))) ?_
   rintro _ _ ⟨_, ⟨rfl, rfl⟩, rfl⟩
   refine r_st ((.cell b_o0 (qc r_2.2)) :: _) rfl (r_d rfl rfl rfl (qo rfl qfi rfl) (qaa rfl rfl rfl (qV _ rfl rfl rfl (Wk.refl _) (pf1 _ _ _) rfl (by first | rfl | simp [offD, szs, sz, qbx, qbA, qbh]) (by exact qaF) rfl rfl rfl) (ql (qk (gr [.d, .w, .d, .w] (r_d rfl rfl rfl (qe rfl rfl) ?_))))))
   rcases bindXS hr with ⟨c_r_3, hr_3, rfl⟩ | ⟨r_3, hr_3, hr⟩
   ·
    refine qb1 rfl rfl (qa0 _ rfl qn (.oc rfl (.oc rfl (.oc rfl .nil))) (by exact (pf1 _ _ _)) (qN (qm _ _ _ _ _ hr_3))) (hX _ ⟨_, rfl, rfl⟩)
   ·
    refine r_w rfl rfl rfl (qF _ rfl qn (.oc rfl (.oc rfl (.oc rfl .nil))) (by exact (pf1 _ _ _)) (qO (qm _ _ _ _ _ hr_3))) ?_
    rintro _ _ ⟨_, ⟨rfl, rfl⟩, rfl⟩
    refine r_st ((.cell b_o0 (qc r_3.2)) :: _) rfl (r_d rfl rfl rfl (qo rfl qf2 rfl) (qaa rfl rfl rfl (qV _ rfl rfl rfl (Wk.refl _) (pf1 _ _ _) rfl (by first | rfl | simp [offD, szs, sz, qbx, qbA, qbh]) (by exact qaF) rfl rfl rfl) (ql (qk (qk (gr [.d, .r, .d] (r_d rfl rfl rfl (qo rfl qfi rfl) (r_r rfl rfl rfl (qx rfl rfl (.head _) rfl (by first | rfl | simp [offD, szs, sz, qbx, qbA, qbh]) (by exact qaF) rfl) (r_d rfl rfl rfl (qX rfl rfl rfl rfl) (ql ?_))))))))))
    refine g_sB 11 rfl hr (fun h11_3 hr => ?_) (fun h11_3 hr => ?_)
    ·
     refine qC rfl (gr [.d, .w, .d, .w] (r_d rfl rfl rfl (qe rfl rfl) ?_))
     rcases bindXS hr with ⟨c_r_5, hr_5, rfl⟩ | ⟨r_5, hr_5, hr⟩
     ·
      refine qb1 rfl rfl (qa0 _ rfl qev (.oc rfl .nil) (by exact (pf1 _ _ _)) (qN (qd3 fuel _ _ _ hr_5))) (hX _ ⟨_, rfl, rfl⟩)
     ·
      refine r_w rfl rfl rfl (qF _ rfl qev (.oc rfl .nil) (by exact (pf1 _ _ _)) (qO (qd3 fuel _ _ _ hr_5))) ?_
      rintro _ _ ⟨_, ⟨rfl, rfl⟩, rfl⟩
      refine r_st ((.cell b_o0 (qc r_5.2)) :: _) rfl (r_d rfl rfl rfl (qo rfl qeR rfl) (qaa rfl rfl rfl (qV _ rfl rfl rfl (Wk.refl _) (pf1 _ _ _) rfl (by first | rfl | simp [offD, szs, sz, qbx, qbA, qbh]) (by exact qcq) (qbh _) rfl rfl) (ql (qk (gr [.r, .w] (r_r rfl rfl rfl (qx rfl rfl (.head _) rfl rfl (by exact qch) (by first | rfl | simp [sz, szs, qbx, qbh])) (qaa rfl rfl rfl (qK _ rfl rfl rfl (Wk.refl _) (pf0 _) (by exact qch) (by first | rfl | simp [sz, szs, qbx, qbh]) (by first | rfl | simp [sz, szs, qbx, qbh]) rfl) (ql (qap 2 b2_0 rfl (pf0 _) ?_)))))))))
      obtain rfl := Option.some.inj hr
      refine q9 Tryz.func79 _ (.cons (resPtr rfl (by exact qch) (by first | rfl | simp [sz, szs, qbx, qbh]) (Wk.refl _)) .nil) ?_
      exact ⟨_, rfl, rfl, rfl⟩
    ·
     refine qB rfl (qab (qk (gr [.r, .w] (r_r rfl rfl rfl (qx rfl rfl (.head _) rfl rfl (by exact qch) (by first | rfl | simp [sz, szs, qbx, qbh])) (qaa rfl rfl rfl (qK _ rfl rfl rfl (Wk.refl _) (pf0 _) (by exact qch) (by first | rfl | simp [sz, szs, qbx, qbh]) (by first | rfl | simp [sz, szs, qbx, qbh]) rfl) (ql (qap 2 b2_0 rfl (pf0 _) ?_)))))))
     obtain rfl := Option.some.inj hr
     refine q9 Tryz.func79 _ (.cons (resPtr rfl (by exact qch) (by first | rfl | simp [sz, szs, qbx, qbh]) (Wk.refl _)) .nil) ?_
     exact ⟨_, rfl, rfl, rfl⟩
noncomputable def qcD (k : ((List qL)) → (qb) → Option (Int ⊕ ((List qL) × qb))) (fuel : Nat) : Nat → (List qL) → qb → Option (Int ⊕ ((List qL) × qb))
  | 0, out_5, r_7 =>
  (k out_5 r_7)
  | rest + 1, out_5, r_7 =>
  (bindX (qcx fuel r_7) fun r_11 =>
  ((appO 64 out_5 [r_11.1]).bind fun l_12 =>
  (qcD k fuel rest l_12 r_11.2)))
noncomputable def qfb (fuel : Nat) (most_a1 : Int) (c_0 : qb) : Option (Int ⊕ ((List qL) × qb)) :=
  (bindX (qq 0 most_a1 c_0) fun r_3 =>
  (qcD (fun out_9 r_10 =>
  some (.inr (out_9, r_10))) fuel (r_3.1 - 0 : Int).toNat [] r_3.2))
set_option maxHeartbeats 1000000 in
theorem qiB (fuel : Nat) (most_a1 : Int) (c_0 : qb) (b_o0 : Nat) (res : Int ⊕ ((List qL) × qb)) (hr : qfb fuel most_a1 c_0 = some res) : SpecX Tryz.prog 78 [.ref b_o0 0 [], .int .i64 most_a1, .clo (.func 79) [.ref b_o0 0 []] []] [.cell b_o0 (qc c_0)] (fun d σ => ∃ r : (List qL) × qb, res = .inr r ∧ d = .lst (r.1.map qz) ∧ σ = [.cell b_o0 (qc r.2)]) (fun d => ∃ c, res = .inl c ∧ d = .ifc 191 (.agg [.int .i64 c])) := by
  unfold qfb at hr
  refine qbL [(0, .ref b_o0 0 []), (1, .int .i64 most_a1), (2, .clo (.func 79) [.ref b_o0 0 []] [])] Tryz.func78 rfl rfl fun K hK hX => (qk (gr [.w] (r_w rfl rfl rfl (qcs 75 5 (.inl rfl)) ?_)))
  rintro _ _ ⟨u6_0, rfl, rfl⟩
  refine ql (qk (gr [.w] (r_w rfl rfl rfl (qcs 75 5 (.inl rfl)) ?_)))
  rintro _ _ ⟨u7_1, rfl, rfl⟩
  refine ql (qk (qk (gr [.d, .d, .w, .d] (r_d rfl rfl rfl (qe rfl rfl) (r_d rfl rfl rfl (qe rfl rfl) ?_)))))
  rcases bindXS hr with ⟨c_r_3, hr_3, rfl⟩ | ⟨r_3, hr_3, hr⟩
  ·
   refine qb1 rfl rfl (qa0 _ rfl qn (.oc rfl (.oc rfl (.oc rfl .nil))) (by exact (pf2 _ _ _ _)) (qN (qm _ _ _ _ _ hr_3))) (hX _ ⟨_, rfl, rfl⟩)
  ·
   refine r_w rfl rfl rfl (qF _ rfl qn (.oc rfl (.oc rfl (.oc rfl .nil))) (by exact (pf2 _ _ _ _)) (qO (qm _ _ _ _ _ hr_3))) ?_
   rintro _ _ ⟨_, ⟨rfl, rfl⟩, rfl⟩
   refine r_st ((.cell b_o0 (qc r_3.2)) :: _) rfl (r_d rfl rfl rfl (qe rfl rfl) (ql ?_))
   obtain ⟨kk0, hkk0, hr⟩ := exK (fun k => qcD k fuel (r_3.1 - 0 : Int).toNat [] r_3.2) hr
   refine qdU 10 rfl fun hla0 => ?_
   refine qbe (fun env σ => ∃ (out_9 : (List qL)) (r_10 : qb) (u_8 : Value), env = [(7, .own u_8 (out_9.map qz))] ∧ σ = [.row u_8 out_9.length 75 5, .cell b_o0 (qc r_10)] ∧ kk0 out_9 r_10 = some res) ?_ (fun HK0 => ?_)
   ·
    rintro _ _ ⟨out_9, r_10, u_8, rfl, rfl, hr⟩
    rw [hkk0] at hr
    refine qk (gr [.d, .d] (r_d rfl rfl rfl (qe rfl rfl) (r_d rfl rfl rfl (qj rfl rfl) (ql (qar [_] _ (pf1 _ _ _) ?_)))))
    obtain rfl := Option.some.inj hr
    refine q9 Tryz.func78 _ (.cons (resTmp rfl (Wk.own _ _)) .nil) ?_
    exact ⟨_, rfl, rfl, rfl⟩
   ·
    refine qan [(2, .clo (.func 79) [.ref b_o0 0 []] []), (10, .int .i64 r_3.1), (7, .own u7_1 ([].map qz)), (11, .int .i64 0)] (Sub.cons' rfl (Sub.cons' rfl (Sub.cons' rfl (Sub.cons' rfl (Sub.nil _))))) (qar [_, _] _ ((pf1 _ _ _).trans (pf1 _ _ _)) (qdb (fun n env σ => ∃ (out_5 : (List qL)) (t11_6 : Int) (r_7 : qb) (u_4 : Value) (m0 : Nat), (m0 = n) ∧ (env = [(2, .clo (.func 79) [.ref b_o0 0 []] []), (10, .int .i64 r_3.1), (7, .own u_4 (out_5.map qz)), (11, .int .i64 t11_6)]) ∧ (σ = [.cell b_o0 (qc r_7), .row u_4 out_5.length 75 5]) ∧ (m0 = (r_3.1 - t11_6 : Int).toNat) ∧ (qcD kk0 fuel m0 out_5 r_7 = some res)) _ ⟨[], 0, r_3.2, u7_1, _, rfl, rfl, rfl, rfl, hr⟩ ?_))
    rintro n _ _ ⟨out_5, t11_6, r_7, u_4, m0, rfl, rfl, rfl, hi0, hr⟩ IH0
    refine qdU 11 rfl fun hb0 => ?_
    rcases cntStep t11_6 r_3.1 m0 hi0 with ⟨hm0, ht0⟩ | ⟨m0', hm0, ht0, hi0', hlt0⟩
    ·
     rw [hm0, qcD] at hr
     refine qk (gr [.d] (r_d rfl rfl rfl (qX rfl rfl rfl rfl) (ql (qk (qbg 12 false rfl ht0 (qB rfl (qbC rfl (qan [(7, .own u_4 (out_5.map qz))] (Sub.cons' rfl (Sub.nil _)) (qar [_, _] _ ((pf0 _).trans (pf1 _ _ _)) ?_)))))))))
     exact HK0 _ _ ⟨out_5, r_7, u_4, rfl, rfl, hr⟩
    ·
     rw [hm0, qcD] at hr
     refine qk (gr [.d] (r_d rfl rfl rfl (qX rfl rfl rfl rfl) (ql (qk (qdU 10 rfl fun hbN10 => (qbg 12 true rfl ht0 (qC rfl (qab (qk (qbi (gr [.d, .d, .w, .d, .w, .d] ?_)))))))))))
     refine r_d rfl rfl rfl (qe rfl rfl) (r_d rfl rfl rfl (qe rfl rfl) ?_)
     rcases bindXS hr with ⟨c_r_11, hr_11, rfl⟩ | ⟨r_11, hr_11, hr⟩
     ·
      refine qb1 rfl rfl (qg5 _ rfl rfl qgY .nil rfl (by exact (pf0 _)) (qN (qgd fuel _ _ _ hr_11))) (hX _ ⟨_, rfl, rfl⟩)
     ·
      refine r_w rfl rfl rfl (qd9 _ rfl rfl qgY .nil rfl (by exact (pf0 _)) (qO (qgd fuel _ _ _ hr_11))) ?_
      rintro _ _ ⟨_, ⟨rfl, rfl⟩, rfl⟩
      refine r_st ((.cell b_o0 (qc r_11.2)) :: _) rfl (r_d rfl rfl rfl (qg3 (f := qz) [.tmp 15] [r_11.1] rfl qbf rfl rfl (by decide) (by decide) (.oc rfl .nil) qbM (fun _ => rfl)) ?_)
      obtain ⟨l_12, hl_12, hr⟩ := bindS hr
      refine r_w rfl rfl rfl (qdF (f := qz) out_5 [r_11.1] rfl qbf rfl rfl (asl rfl) (pf1 _ _ _) rfl qbM hl_12) ?_
      rintro _ _ ⟨u17_12, rfl, rfl⟩
      refine r_d rfl rfl rfl (qj rfl rfl) (ql (qac (gr [.d, .d] (r_d rfl rfl rfl (s_ar (r := t11_6 + 1) rfl rfl rfl rfl (by omega)) (r_d rfl rfl rfl (qe rfl rfl) (ql (qan [(2, .clo (.func 79) [.ref b_o0 0 []] []), (10, .int .i64 r_3.1), (7, .own u17_12 (l_12.map qz)), (11, .int .i64 (t11_6 + 1))] (Sub.cons' rfl (Sub.cons' rfl (Sub.cons' rfl (Sub.cons' rfl (Sub.nil _))))) (qar [_, _] _ ((pf0 _).trans (pf1 _ _ _)) ?_))))))))
      exact IH0 _ _ _ (by omega) ⟨l_12, (t11_6 + 1), r_11.2, u17_12, _, rfl, rfl, rfl, hi0', hr⟩
noncomputable def qbF (fuel : Nat) (c_0 : qb) : Option (Int ⊕ ((Int × At) × qb)) :=
  (bindX (qq 0 2147483648 c_0) fun r_2 =>
  (bindX (qbE fuel r_2.2) fun r_3 =>
  some (.inr ((r_2.1, r_3.1), r_3.2))))
set_option maxHeartbeats 1000000 in
theorem qdY (fuel : Nat) (c_0 : qb) (b_o0 : Nat) (res : Int ⊕ ((Int × At) × qb)) (hr : qbF fuel c_0 = some res) : SpecX Tryz.prog 81 [.ref b_o0 0 []] [.cell b_o0 (qc c_0)] (fun d σ => ∃ r : (Int × At) × qb, res = .inr r ∧ d = encIt r.1 ∧ σ = [.cell b_o0 (qc r.2)]) (fun d => ∃ c, res = .inl c ∧ d = .ifc 191 (.agg [.int .i64 c])) := by
  unfold qbF at hr
  refine qbL [(0, .ref b_o0 0 [])] Tryz.func81 rfl rfl fun K hK hX => (qk (gr [.w] (r_w rfl rfl rfl (qau rfl qjV) ?_)))
  rintro _ _ ⟨b2_0, rfl, rfl⟩
  refine ql (qk (gr [.d, .w, .d] (r_d rfl rfl rfl (qe rfl rfl) ?_)))
  rcases bindXS hr with ⟨c_r_2, hr_2, rfl⟩ | ⟨r_2, hr_2, hr⟩
  ·
   refine qb1 rfl rfl (qa0 _ rfl qn (.oc rfl (.oc rfl (.oc rfl .nil))) (by exact (pf1 _ _ _)) (qN (qm _ _ _ _ _ hr_2))) (hX _ ⟨_, rfl, rfl⟩)
  ·
   refine r_w rfl rfl rfl (qF _ rfl qn (.oc rfl (.oc rfl (.oc rfl .nil))) (by exact (pf1 _ _ _)) (qO (qm _ _ _ _ _ hr_2))) ?_
   rintro _ _ ⟨_, ⟨rfl, rfl⟩, rfl⟩
   refine r_st ((.cell b_o0 (qc r_2.2)) :: _) rfl (r_d rfl rfl rfl (qj rfl rfl) (ql (qk (gr [.d, .d, .w, .d, .w] (r_d rfl rfl rfl (qe rfl rfl) (r_d rfl rfl rfl (qe rfl rfl) ?_))))))
   rcases bindXS hr with ⟨c_r_3, hr_3, rfl⟩ | ⟨r_3, hr_3, hr⟩
   ·
    refine qb1 rfl rfl (qa0 _ rfl qet (.oc rfl .nil) (by exact (pf0 _)) (qN (qd4 fuel _ _ _ hr_3))) (hX _ ⟨_, rfl, rfl⟩)
   ·
    refine r_w rfl rfl rfl (qF _ rfl qet (.oc rfl .nil) (by exact (pf0 _)) (qO (qd4 fuel _ _ _ hr_3))) ?_
    rintro _ _ ⟨_, ⟨rfl, rfl⟩, rfl⟩
    refine r_st ((.cell b_o0 (qc r_3.2)) :: _) rfl (r_d rfl rfl rfl (qbT rfl qkL (.oc rfl (.oc rfl .nil)) (.cons rfl rfl rfl (.cons rfl (qbA _) rfl (.nil _)))) (qaa rfl rfl rfl (qK _ rfl rfl rfl (Wk.refl _) (pf1 _ _ _) (by exact qgi) (by first | rfl | simp [sz, szs, qbx, qbA]) (by first | rfl | simp [sz, szs, qbx, qbA]) rfl) (ql (qap 2 b2_0 rfl (pf0 _) ?_))))
    obtain rfl := Option.some.inj hr
    refine q9 Tryz.func81 _ (.cons (resPtr rfl (by exact qgi) (by first | rfl | simp [sz, szs, qbx, qbA]) (Wk.refl _)) .nil) ?_
    exact ⟨_, rfl, rfl, rfl⟩
noncomputable def qcG (k : ((List (Int × At))) → (qb) → Option (Int ⊕ ((List (Int × At)) × qb))) (fuel : Nat) : Nat → (List (Int × At)) → qb → Option (Int ⊕ ((List (Int × At)) × qb))
  | 0, out_5, r_7 =>
  (k out_5 r_7)
  | rest + 1, out_5, r_7 =>
  (bindX (qbF fuel r_7) fun r_11 =>
  ((appO 48 out_5 [r_11.1]).bind fun l_12 =>
  (qcG k fuel rest l_12 r_11.2)))
noncomputable def qe8 (fuel : Nat) (most_a1 : Int) (c_0 : qb) : Option (Int ⊕ ((List (Int × At)) × qb)) :=
  (bindX (qq 0 most_a1 c_0) fun r_3 =>
  (qcG (fun out_9 r_10 =>
  some (.inr (out_9, r_10))) fuel (r_3.1 - 0 : Int).toNat [] r_3.2))
set_option maxHeartbeats 1000000 in
theorem qiW (fuel : Nat) (most_a1 : Int) (c_0 : qb) (b_o0 : Nat) (res : Int ⊕ ((List (Int × At)) × qb)) (hr : qe8 fuel most_a1 c_0 = some res) : SpecX Tryz.prog 80 [.ref b_o0 0 [], .int .i64 most_a1, .clo (.func 81) [.ref b_o0 0 []] []] [.cell b_o0 (qc c_0)] (fun d σ => ∃ r : (List (Int × At)) × qb, res = .inr r ∧ d = .lst (r.1.map encIt) ∧ σ = [.cell b_o0 (qc r.2)]) (fun d => ∃ c, res = .inl c ∧ d = .ifc 191 (.agg [.int .i64 c])) := by
  unfold qe8 at hr
  refine qbL [(0, .ref b_o0 0 []), (1, .int .i64 most_a1), (2, .clo (.func 81) [.ref b_o0 0 []] [])] Tryz.func80 rfl rfl fun K hK hX => (qk (gr [.w] (r_w rfl rfl rfl (qcs 109 3 (.inl rfl)) ?_)))
  rintro _ _ ⟨u6_0, rfl, rfl⟩
  refine ql (qk (gr [.w] (r_w rfl rfl rfl (qcs 109 3 (.inl rfl)) ?_)))
  rintro _ _ ⟨u7_1, rfl, rfl⟩
  refine ql (qk (qk (gr [.d, .d, .w, .d] (r_d rfl rfl rfl (qe rfl rfl) (r_d rfl rfl rfl (qe rfl rfl) ?_)))))
  rcases bindXS hr with ⟨c_r_3, hr_3, rfl⟩ | ⟨r_3, hr_3, hr⟩
  ·
   refine qb1 rfl rfl (qa0 _ rfl qn (.oc rfl (.oc rfl (.oc rfl .nil))) (by exact (pf2 _ _ _ _)) (qN (qm _ _ _ _ _ hr_3))) (hX _ ⟨_, rfl, rfl⟩)
  ·
   refine r_w rfl rfl rfl (qF _ rfl qn (.oc rfl (.oc rfl (.oc rfl .nil))) (by exact (pf2 _ _ _ _)) (qO (qm _ _ _ _ _ hr_3))) ?_
   rintro _ _ ⟨_, ⟨rfl, rfl⟩, rfl⟩
   refine r_st ((.cell b_o0 (qc r_3.2)) :: _) rfl (r_d rfl rfl rfl (qe rfl rfl) (ql ?_))
   obtain ⟨kk0, hkk0, hr⟩ := exK (fun k => qcG k fuel (r_3.1 - 0 : Int).toNat [] r_3.2) hr
   refine qdU 10 rfl fun hla0 => ?_
   refine qbe (fun env σ => ∃ (out_9 : (List (Int × At))) (r_10 : qb) (u_8 : Value), env = [(7, .own u_8 (out_9.map encIt))] ∧ σ = [.row u_8 out_9.length 109 3, .cell b_o0 (qc r_10)] ∧ kk0 out_9 r_10 = some res) ?_ (fun HK0 => ?_)
   ·
    rintro _ _ ⟨out_9, r_10, u_8, rfl, rfl, hr⟩
    rw [hkk0] at hr
    refine qk (gr [.d, .d] (r_d rfl rfl rfl (qe rfl rfl) (r_d rfl rfl rfl (qj rfl rfl) (ql (qar [_] _ (pf1 _ _ _) ?_)))))
    obtain rfl := Option.some.inj hr
    refine q9 Tryz.func80 _ (.cons (resTmp rfl (Wk.own _ _)) .nil) ?_
    exact ⟨_, rfl, rfl, rfl⟩
   ·
    refine qan [(2, .clo (.func 81) [.ref b_o0 0 []] []), (10, .int .i64 r_3.1), (7, .own u7_1 ([].map encIt)), (11, .int .i64 0)] (Sub.cons' rfl (Sub.cons' rfl (Sub.cons' rfl (Sub.cons' rfl (Sub.nil _))))) (qar [_, _] _ ((pf1 _ _ _).trans (pf1 _ _ _)) (qdb (fun n env σ => ∃ (out_5 : (List (Int × At))) (t11_6 : Int) (r_7 : qb) (u_4 : Value) (m0 : Nat), (m0 = n) ∧ (env = [(2, .clo (.func 81) [.ref b_o0 0 []] []), (10, .int .i64 r_3.1), (7, .own u_4 (out_5.map encIt)), (11, .int .i64 t11_6)]) ∧ (σ = [.cell b_o0 (qc r_7), .row u_4 out_5.length 109 3]) ∧ (m0 = (r_3.1 - t11_6 : Int).toNat) ∧ (qcG kk0 fuel m0 out_5 r_7 = some res)) _ ⟨[], 0, r_3.2, u7_1, _, rfl, rfl, rfl, rfl, hr⟩ ?_))
    rintro n _ _ ⟨out_5, t11_6, r_7, u_4, m0, rfl, rfl, rfl, hi0, hr⟩ IH0
    refine qdU 11 rfl fun hb0 => ?_
    rcases cntStep t11_6 r_3.1 m0 hi0 with ⟨hm0, ht0⟩ | ⟨m0', hm0, ht0, hi0', hlt0⟩
    ·
     rw [hm0, qcG] at hr
     refine qk (gr [.d] (r_d rfl rfl rfl (qX rfl rfl rfl rfl) (ql (qk (qbg 12 false rfl ht0 (qB rfl (qbC rfl (qan [(7, .own u_4 (out_5.map encIt))] (Sub.cons' rfl (Sub.nil _)) (qar [_, _] _ ((pf0 _).trans (pf1 _ _ _)) ?_)))))))))
     exact HK0 _ _ ⟨out_5, r_7, u_4, rfl, rfl, hr⟩
    ·
     rw [hm0, qcG] at hr
     refine qk (gr [.d] (r_d rfl rfl rfl (qX rfl rfl rfl rfl) (ql (qk (qdU 10 rfl fun hbN10 => (qbg 12 true rfl ht0 (qC rfl (qab (qk (qbi (gr [.d, .d, .w, .d, .w, .d] ?_)))))))))))
     refine r_d rfl rfl rfl (qe rfl rfl) (r_d rfl rfl rfl (qe rfl rfl) ?_)
     rcases bindXS hr with ⟨c_r_11, hr_11, rfl⟩ | ⟨r_11, hr_11, hr⟩
     ·
      refine qb1 rfl rfl (qg5 _ rfl rfl qez .nil rfl (by exact (pf0 _)) (qN (qdY fuel _ _ _ hr_11))) (hX _ ⟨_, rfl, rfl⟩)
     ·
      refine r_w rfl rfl rfl (qd9 _ rfl rfl qez .nil rfl (by exact (pf0 _)) (qO (qdY fuel _ _ _ hr_11))) ?_
      rintro _ _ ⟨_, ⟨rfl, rfl⟩, rfl⟩
      refine r_st ((.cell b_o0 (qc r_11.2)) :: _) rfl (r_d rfl rfl rfl (qg3 (f := encIt) [.tmp 15] [r_11.1] rfl qc9 rfl rfl (by decide) (by decide) (.oc rfl .nil) qgE (fun _ => rfl)) ?_)
      obtain ⟨l_12, hl_12, hr⟩ := bindS hr
      refine r_w rfl rfl rfl (qdF (f := encIt) out_5 [r_11.1] rfl qc9 rfl rfl (asl rfl) (pf1 _ _ _) rfl qgE hl_12) ?_
      rintro _ _ ⟨u17_12, rfl, rfl⟩
      refine r_d rfl rfl rfl (qj rfl rfl) (ql (qac (gr [.d, .d] (r_d rfl rfl rfl (s_ar (r := t11_6 + 1) rfl rfl rfl rfl (by omega)) (r_d rfl rfl rfl (qe rfl rfl) (ql (qan [(2, .clo (.func 81) [.ref b_o0 0 []] []), (10, .int .i64 r_3.1), (7, .own u17_12 (l_12.map encIt)), (11, .int .i64 (t11_6 + 1))] (Sub.cons' rfl (Sub.cons' rfl (Sub.cons' rfl (Sub.cons' rfl (Sub.nil _))))) (qar [_, _] _ ((pf0 _).trans (pf1 _ _ _)) ?_))))))))
      exact IH0 _ _ _ (by omega) ⟨l_12, (t11_6 + 1), r_11.2, u17_12, _, rfl, rfl, rfl, hi0', hr⟩
noncomputable def qbp (fuel : Nat) (c_0 : qb) : Option (Int ⊕ ((Int × T) × qb)) :=
  (bindX (qq 0 1048576 c_0) fun r_2 =>
  (bindX (qfc fuel 0 r_2.2) fun r_3 =>
  some (.inr ((r_2.1, r_3.1), r_3.2))))
set_option maxHeartbeats 1000000 in
theorem qfU (fuel : Nat) (c_0 : qb) (b_o0 : Nat) (res : Int ⊕ ((Int × T) × qb)) (hr : qbp fuel c_0 = some res) : SpecX Tryz.prog 83 [.ptr (.ref b_o0 0 [])] [.cell b_o0 (qc c_0)] (fun d σ => ∃ r : (Int × T) × qb, res = .inr r ∧ d = encP r.1 ∧ σ = [.cell b_o0 (qc r.2)]) (fun d => ∃ c, res = .inl c ∧ d = .ifc 191 (.agg [.int .i64 c])) := by
  unfold qbp at hr
  refine qbL [(0, .ptr (.ref b_o0 0 []))] Tryz.func83 rfl rfl fun K hK hX => (qk (gr [.w] (r_w rfl rfl rfl (qau rfl qk5) ?_)))
  rintro _ _ ⟨b1_0, rfl, rfl⟩
  refine ql (qk (gr [.d, .w, .d] (r_d rfl rfl rfl (qw rfl rfl (by exact qaf) rfl) ?_)))
  rcases bindXS hr with ⟨c_r_2, hr_2, rfl⟩ | ⟨r_2, hr_2, hr⟩
  ·
   refine qb1 rfl rfl (qa0 _ rfl qn (.oc rfl (.oc rfl (.oc rfl .nil))) (by exact (pf1 _ _ _)) (qN (qm _ _ _ _ _ hr_2))) (hX _ ⟨_, rfl, rfl⟩)
  ·
   refine r_w rfl rfl rfl (qF _ rfl qn (.oc rfl (.oc rfl (.oc rfl .nil))) (by exact (pf1 _ _ _)) (qO (qm _ _ _ _ _ hr_2))) ?_
   rintro _ _ ⟨_, ⟨rfl, rfl⟩, rfl⟩
   refine r_st ((.cell b_o0 (qc r_2.2)) :: _) rfl (r_d rfl rfl rfl (qj rfl rfl) (ql (qk (gr [.d, .d, .w, .d, .w] (r_d rfl rfl rfl (qe rfl rfl) (r_d rfl rfl rfl (qw rfl rfl (by exact qaf) rfl) ?_))))))
   rcases bindXS hr with ⟨c_r_3, hr_3, rfl⟩ | ⟨r_3, hr_3, hr⟩
   ·
    refine qb1 rfl rfl (qa0 _ rfl qey (.oc rfl (.oc rfl .nil)) (by exact (pf0 _)) (qN (qgm fuel _ _ _ _ hr_3))) (hX _ ⟨_, rfl, rfl⟩)
   ·
    refine r_w rfl rfl rfl (qF _ rfl qey (.oc rfl (.oc rfl .nil)) (by exact (pf0 _)) (qO (qgm fuel _ _ _ _ hr_3))) ?_
    rintro _ _ ⟨_, ⟨rfl, rfl⟩, rfl⟩
    refine r_st ((.cell b_o0 (qc r_3.2)) :: _) rfl (r_d rfl rfl rfl (qbT rfl qkO (.oc rfl (.oc rfl .nil)) (.cons rfl rfl rfl (.cons rfl (qee _) rfl (.nil _)))) (qaa rfl rfl rfl (qK _ rfl rfl rfl (Wk.refl _) (pf1 _ _ _) (by exact qgq) (by first | rfl | simp [sz, szs, qbx, qee]) (by first | rfl | simp [sz, szs, qbx, qee]) rfl) (ql (qap 1 b1_0 rfl (pf0 _) ?_))))
    obtain rfl := Option.some.inj hr
    refine q9 Tryz.func83 _ (.cons (resPtr rfl (by exact qgq) (by first | rfl | simp [sz, szs, qbx, qee]) (Wk.refl _)) .nil) ?_
    exact ⟨_, rfl, rfl, rfl⟩
noncomputable def qcK (k : ((List (Int × T))) → (qb) → Option (Int ⊕ ((List (Int × T)) × qb))) (fuel : Nat) : Nat → (List (Int × T)) → qb → Option (Int ⊕ ((List (Int × T)) × qb))
  | 0, out_5, r_7 =>
  (k out_5 r_7)
  | rest + 1, out_5, r_7 =>
  (bindX (qbp fuel r_7) fun r_11 =>
  ((appO 64 out_5 [r_11.1]).bind fun l_12 =>
  (qcK k fuel rest l_12 r_11.2)))
noncomputable def qeT (fuel : Nat) (most_a1 : Int) (c_0 : qb) : Option (Int ⊕ ((List (Int × T)) × qb)) :=
  (bindX (qq 0 most_a1 c_0) fun r_3 =>
  (qcK (fun out_9 r_10 =>
  some (.inr (out_9, r_10))) fuel (r_3.1 - 0 : Int).toNat [] r_3.2))
set_option maxHeartbeats 1000000 in
theorem qiH (fuel : Nat) (most_a1 : Int) (c_0 : qb) (b_o0 : Nat) (res : Int ⊕ ((List (Int × T)) × qb)) (hr : qeT fuel most_a1 c_0 = some res) : SpecX Tryz.prog 82 [.ref b_o0 0 [], .int .i64 most_a1, .clo (.func 83) [] [.ptr (.ref b_o0 0 [])]] [.cell b_o0 (qc c_0)] (fun d σ => ∃ r : (List (Int × T)) × qb, res = .inr r ∧ d = .lst (r.1.map encP) ∧ σ = [.cell b_o0 (qc r.2)]) (fun d => ∃ c, res = .inl c ∧ d = .ifc 191 (.agg [.int .i64 c])) := by
  unfold qeT at hr
  refine qbL [(0, .ref b_o0 0 []), (1, .int .i64 most_a1), (2, .clo (.func 83) [] [.ptr (.ref b_o0 0 [])])] Tryz.func82 rfl rfl fun K hK hX => (qk (gr [.w] (r_w rfl rfl rfl (qcs 116 5 (.inl rfl)) ?_)))
  rintro _ _ ⟨u6_0, rfl, rfl⟩
  refine ql (qk (gr [.w] (r_w rfl rfl rfl (qcs 116 5 (.inl rfl)) ?_)))
  rintro _ _ ⟨u7_1, rfl, rfl⟩
  refine ql (qk (qk (gr [.d, .d, .w, .d] (r_d rfl rfl rfl (qe rfl rfl) (r_d rfl rfl rfl (qe rfl rfl) ?_)))))
  rcases bindXS hr with ⟨c_r_3, hr_3, rfl⟩ | ⟨r_3, hr_3, hr⟩
  ·
   refine qb1 rfl rfl (qa0 _ rfl qn (.oc rfl (.oc rfl (.oc rfl .nil))) (by exact (pf2 _ _ _ _)) (qN (qm _ _ _ _ _ hr_3))) (hX _ ⟨_, rfl, rfl⟩)
  ·
   refine r_w rfl rfl rfl (qF _ rfl qn (.oc rfl (.oc rfl (.oc rfl .nil))) (by exact (pf2 _ _ _ _)) (qO (qm _ _ _ _ _ hr_3))) ?_
   rintro _ _ ⟨_, ⟨rfl, rfl⟩, rfl⟩
   refine r_st ((.cell b_o0 (qc r_3.2)) :: _) rfl (r_d rfl rfl rfl (qe rfl rfl) (ql ?_))
   obtain ⟨kk0, hkk0, hr⟩ := exK (fun k => qcK k fuel (r_3.1 - 0 : Int).toNat [] r_3.2) hr
   refine qdU 10 rfl fun hla0 => ?_
   refine qbe (fun env σ => ∃ (out_9 : (List (Int × T))) (r_10 : qb) (u_8 : Value), env = [(7, .own u_8 (out_9.map encP))] ∧ σ = [.row u_8 out_9.length 116 5, .cell b_o0 (qc r_10)] ∧ kk0 out_9 r_10 = some res) ?_ (fun HK0 => ?_)
   ·
    rintro _ _ ⟨out_9, r_10, u_8, rfl, rfl, hr⟩
    rw [hkk0] at hr
    refine qk (gr [.d, .d] (r_d rfl rfl rfl (qe rfl rfl) (r_d rfl rfl rfl (qj rfl rfl) (ql (qar [_] _ (pf1 _ _ _) ?_)))))
    obtain rfl := Option.some.inj hr
    refine q9 Tryz.func82 _ (.cons (resTmp rfl (Wk.own _ _)) .nil) ?_
    exact ⟨_, rfl, rfl, rfl⟩
   ·
    refine qan [(2, .clo (.func 83) [] [.ptr (.ref b_o0 0 [])]), (10, .int .i64 r_3.1), (7, .own u7_1 ([].map encP)), (11, .int .i64 0)] (Sub.cons' rfl (Sub.cons' rfl (Sub.cons' rfl (Sub.cons' rfl (Sub.nil _))))) (qar [_, _] _ ((pf1 _ _ _).trans (pf1 _ _ _)) (qdb (fun n env σ => ∃ (out_5 : (List (Int × T))) (t11_6 : Int) (r_7 : qb) (u_4 : Value) (m0 : Nat), (m0 = n) ∧ (env = [(2, .clo (.func 83) [] [.ptr (.ref b_o0 0 [])]), (10, .int .i64 r_3.1), (7, .own u_4 (out_5.map encP)), (11, .int .i64 t11_6)]) ∧ (σ = [.cell b_o0 (qc r_7), .row u_4 out_5.length 116 5]) ∧ (m0 = (r_3.1 - t11_6 : Int).toNat) ∧ (qcK kk0 fuel m0 out_5 r_7 = some res)) _ ⟨[], 0, r_3.2, u7_1, _, rfl, rfl, rfl, rfl, hr⟩ ?_))
    rintro n _ _ ⟨out_5, t11_6, r_7, u_4, m0, rfl, rfl, rfl, hi0, hr⟩ IH0
    refine qdU 11 rfl fun hb0 => ?_
    rcases cntStep t11_6 r_3.1 m0 hi0 with ⟨hm0, ht0⟩ | ⟨m0', hm0, ht0, hi0', hlt0⟩
    ·
     rw [hm0, qcK] at hr
     refine qk (gr [.d] (r_d rfl rfl rfl (qX rfl rfl rfl rfl) (ql (qk (qbg 12 false rfl ht0 (qB rfl (qbC rfl (qan [(7, .own u_4 (out_5.map encP))] (Sub.cons' rfl (Sub.nil _)) (qar [_, _] _ ((pf0 _).trans (pf1 _ _ _)) ?_)))))))))
     exact HK0 _ _ ⟨out_5, r_7, u_4, rfl, rfl, hr⟩
    ·
     rw [hm0, qcK] at hr
     refine qk (gr [.d] (r_d rfl rfl rfl (qX rfl rfl rfl rfl) (ql (qk (qdU 10 rfl fun hbN10 => (qbg 12 true rfl ht0 (qC rfl (qab (qk (qbi (gr [.d, .d, .w, .d, .w, .d] ?_)))))))))))
     refine r_d rfl rfl rfl (qe rfl rfl) (r_d rfl rfl rfl (qe rfl rfl) ?_)
     rcases bindXS hr with ⟨c_r_11, hr_11, rfl⟩ | ⟨r_11, hr_11, hr⟩
     ·
      refine qb1 rfl rfl (qg5 _ rfl rfl qgK .nil rfl (by exact (pf0 _)) (qN (qfU fuel _ _ _ hr_11))) (hX _ ⟨_, rfl, rfl⟩)
     ·
      refine r_w rfl rfl rfl (qd9 _ rfl rfl qgK .nil rfl (by exact (pf0 _)) (qO (qfU fuel _ _ _ hr_11))) ?_
      rintro _ _ ⟨_, ⟨rfl, rfl⟩, rfl⟩
      refine r_st ((.cell b_o0 (qc r_11.2)) :: _) rfl (r_d rfl rfl rfl (qg3 (f := encP) [.tmp 15] [r_11.1] rfl qhr rfl rfl (by decide) (by decide) (.oc rfl .nil) qht (fun _ => rfl)) ?_)
      obtain ⟨l_12, hl_12, hr⟩ := bindS hr
      refine r_w rfl rfl rfl (qdF (f := encP) out_5 [r_11.1] rfl qhr rfl rfl (asl rfl) (pf1 _ _ _) rfl qht hl_12) ?_
      rintro _ _ ⟨u17_12, rfl, rfl⟩
      refine r_d rfl rfl rfl (qj rfl rfl) (ql (qac (gr [.d, .d] (r_d rfl rfl rfl (s_ar (r := t11_6 + 1) rfl rfl rfl rfl (by omega)) (r_d rfl rfl rfl (qe rfl rfl) (ql (qan [(2, .clo (.func 83) [] [.ptr (.ref b_o0 0 [])]), (10, .int .i64 r_3.1), (7, .own u17_12 (l_12.map encP)), (11, .int .i64 (t11_6 + 1))] (Sub.cons' rfl (Sub.cons' rfl (Sub.cons' rfl (Sub.cons' rfl (Sub.nil _))))) (qar [_, _] _ ((pf0 _).trans (pf1 _ _ _)) ?_))))))))
      exact IH0 _ _ _ (by omega) ⟨l_12, (t11_6 + 1), r_11.2, u17_12, _, rfl, rfl, rfl, hi0', hr⟩
noncomputable def qbQ (t1_a1 : Int) (c_0 : qb) : Option (Int ⊕ (Int × qb)) :=
  (bindX (qq 0 t1_a1 c_0) fun r_1 =>
  some (.inr (r_1.1, r_1.2)))
set_option maxHeartbeats 1000000 in
theorem qfo (t1_a1 : Int) (c_0 : qb) (b_o0 : Nat) (res : Int ⊕ (Int × qb)) (hr : qbQ t1_a1 c_0 = some res) : SpecX Tryz.prog 163 [.ptr (.ref b_o0 0 []), .ptr (.int .i64 t1_a1)] [.cell b_o0 (qc c_0)] (fun d σ => ∃ r : Int × qb, res = .inr r ∧ d = .int .i64 r.1 ∧ σ = [.cell b_o0 (qc r.2)]) (fun d => ∃ c, res = .inl c ∧ d = .ifc 191 (.agg [.int .i64 c])) := by
  unfold qbQ at hr
  refine qbL [(0, .ptr (.ref b_o0 0 [])), (1, .ptr (.int .i64 t1_a1))] Tryz.func163 rfl rfl fun K hK hX => (qk (gr [.d] (r_d rfl rfl rfl (qj rfl rfl) (ql (qk (gr [.d, .d, .w, .d] (r_d rfl rfl rfl (qw rfl rfl (by exact qaf) rfl) (r_d rfl rfl rfl (qw rfl rfl (by exact qaF) rfl) ?_))))))))
  rcases bindXS hr with ⟨c_r_1, hr_1, rfl⟩ | ⟨r_1, hr_1, hr⟩
  ·
   refine qb1 rfl rfl (qa0 _ rfl qn (.oc rfl (.oc rfl (.oc rfl .nil))) (by exact (pf0 _)) (qN (qm _ _ _ _ _ hr_1))) (hX _ ⟨_, rfl, rfl⟩)
  ·
   refine r_w rfl rfl rfl (qF _ rfl qn (.oc rfl (.oc rfl (.oc rfl .nil))) (by exact (pf0 _)) (qO (qm _ _ _ _ _ hr_1))) ?_
   rintro _ _ ⟨_, ⟨rfl, rfl⟩, rfl⟩
   refine r_st ((.cell b_o0 (qc r_1.2)) :: _) rfl (r_d rfl rfl rfl (qj rfl rfl) (ql ?_))
   obtain rfl := Option.some.inj hr
   refine q9 Tryz.func163 _ (.cons (resTmp rfl (Wk.refl _)) .nil) ?_
   exact ⟨_, rfl, rfl, rfl⟩
noncomputable def qci (k : ((List Int)) → (qb) → Option (Int ⊕ ((List Int) × qb))) (one_a2_c1 : Int) : Nat → (List Int) → qb → Option (Int ⊕ ((List Int) × qb))
  | 0, out_5, r_7 =>
  (k out_5 r_7)
  | rest + 1, out_5, r_7 =>
  (bindX (qbQ one_a2_c1 r_7) fun r_11 =>
  ((appO 8 out_5 [r_11.1]).bind fun l_12 =>
  (qci k one_a2_c1 rest l_12 r_11.2)))
noncomputable def qfq (most_a1 : Int) (one_a2_c1 : Int) (c_0 : qb) : Option (Int ⊕ ((List Int) × qb)) :=
  (bindX (qq 0 most_a1 c_0) fun r_3 =>
  (qci (fun out_9 r_10 =>
  some (.inr (out_9, r_10))) one_a2_c1 (r_3.1 - 0 : Int).toNat [] r_3.2))
set_option maxHeartbeats 1000000 in
theorem qia (most_a1 : Int) (one_a2_c1 : Int) (c_0 : qb) (b_o0 : Nat) (res : Int ⊕ ((List Int) × qb)) (hr : qfq most_a1 one_a2_c1 c_0 = some res) : SpecX Tryz.prog 162 [.ref b_o0 0 [], .int .i64 most_a1, .clo (.func 163) [] [.ptr (.ref b_o0 0 []), .ptr (.int .i64 one_a2_c1)]] [.cell b_o0 (qc c_0)] (fun d σ => ∃ r : (List Int) × qb, res = .inr r ∧ d = .lst (r.1.map (D.int .i64)) ∧ σ = [.cell b_o0 (qc r.2)]) (fun d => ∃ c, res = .inl c ∧ d = .ifc 191 (.agg [.int .i64 c])) := by
  unfold qfq at hr
  refine qbL [(0, .ref b_o0 0 []), (1, .int .i64 most_a1), (2, .clo (.func 163) [] [.ptr (.ref b_o0 0 []), .ptr (.int .i64 one_a2_c1)])] Tryz.func162 rfl rfl fun K hK hX => (qk (gr [.w] (r_w rfl rfl rfl (qcs 3 1 (.inl rfl)) ?_)))
  rintro _ _ ⟨u6_0, rfl, rfl⟩
  refine ql (qk (gr [.w] (r_w rfl rfl rfl (qcs 3 1 (.inl rfl)) ?_)))
  rintro _ _ ⟨u7_1, rfl, rfl⟩
  refine ql (qk (qk (gr [.d, .d, .w, .d] (r_d rfl rfl rfl (qe rfl rfl) (r_d rfl rfl rfl (qe rfl rfl) ?_)))))
  rcases bindXS hr with ⟨c_r_3, hr_3, rfl⟩ | ⟨r_3, hr_3, hr⟩
  ·
   refine qb1 rfl rfl (qa0 _ rfl qn (.oc rfl (.oc rfl (.oc rfl .nil))) (by exact (pf2 _ _ _ _)) (qN (qm _ _ _ _ _ hr_3))) (hX _ ⟨_, rfl, rfl⟩)
  ·
   refine r_w rfl rfl rfl (qF _ rfl qn (.oc rfl (.oc rfl (.oc rfl .nil))) (by exact (pf2 _ _ _ _)) (qO (qm _ _ _ _ _ hr_3))) ?_
   rintro _ _ ⟨_, ⟨rfl, rfl⟩, rfl⟩
   refine r_st ((.cell b_o0 (qc r_3.2)) :: _) rfl (r_d rfl rfl rfl (qe rfl rfl) (ql ?_))
   obtain ⟨kk0, hkk0, hr⟩ := exK (fun k => qci k one_a2_c1 (r_3.1 - 0 : Int).toNat [] r_3.2) hr
   refine qdU 10 rfl fun hla0 => ?_
   refine qbe (fun env σ => ∃ (out_9 : (List Int)) (r_10 : qb) (u_8 : Value), env = [(7, .own u_8 (out_9.map (D.int .i64)))] ∧ σ = [.row u_8 out_9.length 3 1, .cell b_o0 (qc r_10)] ∧ kk0 out_9 r_10 = some res) ?_ (fun HK0 => ?_)
   ·
    rintro _ _ ⟨out_9, r_10, u_8, rfl, rfl, hr⟩
    rw [hkk0] at hr
    refine qk (gr [.d, .d] (r_d rfl rfl rfl (qe rfl rfl) (r_d rfl rfl rfl (qj rfl rfl) (ql (qar [_] _ (pf1 _ _ _) ?_)))))
    obtain rfl := Option.some.inj hr
    refine q9 Tryz.func162 _ (.cons (resTmp rfl (Wk.own _ _)) .nil) ?_
    exact ⟨_, rfl, rfl, rfl⟩
   ·
    refine qan [(2, .clo (.func 163) [] [.ptr (.ref b_o0 0 []), .ptr (.int .i64 one_a2_c1)]), (10, .int .i64 r_3.1), (7, .own u7_1 ([].map (D.int .i64))), (11, .int .i64 0)] (Sub.cons' rfl (Sub.cons' rfl (Sub.cons' rfl (Sub.cons' rfl (Sub.nil _))))) (qar [_, _] _ ((pf1 _ _ _).trans (pf1 _ _ _)) (qdb (fun n env σ => ∃ (out_5 : (List Int)) (t11_6 : Int) (r_7 : qb) (u_4 : Value) (m0 : Nat), (m0 = n) ∧ (env = [(2, .clo (.func 163) [] [.ptr (.ref b_o0 0 []), .ptr (.int .i64 one_a2_c1)]), (10, .int .i64 r_3.1), (7, .own u_4 (out_5.map (D.int .i64))), (11, .int .i64 t11_6)]) ∧ (σ = [.cell b_o0 (qc r_7), .row u_4 out_5.length 3 1]) ∧ (m0 = (r_3.1 - t11_6 : Int).toNat) ∧ (qci kk0 one_a2_c1 m0 out_5 r_7 = some res)) _ ⟨[], 0, r_3.2, u7_1, _, rfl, rfl, rfl, rfl, hr⟩ ?_))
    rintro n _ _ ⟨out_5, t11_6, r_7, u_4, m0, rfl, rfl, rfl, hi0, hr⟩ IH0
    refine qdU 11 rfl fun hb0 => ?_
    rcases cntStep t11_6 r_3.1 m0 hi0 with ⟨hm0, ht0⟩ | ⟨m0', hm0, ht0, hi0', hlt0⟩
    ·
     rw [hm0, qci] at hr
     refine qk (gr [.d] (r_d rfl rfl rfl (qX rfl rfl rfl rfl) (ql (qk (qbg 12 false rfl ht0 (qB rfl (qbC rfl (qan [(7, .own u_4 (out_5.map (D.int .i64)))] (Sub.cons' rfl (Sub.nil _)) (qar [_, _] _ ((pf0 _).trans (pf1 _ _ _)) ?_)))))))))
     exact HK0 _ _ ⟨out_5, r_7, u_4, rfl, rfl, hr⟩
    ·
     rw [hm0, qci] at hr
     refine qk (gr [.d] (r_d rfl rfl rfl (qX rfl rfl rfl rfl) (ql (qk (qdU 10 rfl fun hbN10 => (qbg 12 true rfl ht0 (qC rfl (qab (qk (qbi (gr [.d, .d, .w, .d, .w, .d] ?_)))))))))))
     refine r_d rfl rfl rfl (qe rfl rfl) (r_d rfl rfl rfl (qe rfl rfl) ?_)
     rcases bindXS hr with ⟨c_r_11, hr_11, rfl⟩ | ⟨r_11, hr_11, hr⟩
     ·
      refine qb1 rfl rfl (qg5 _ rfl rfl qf0 .nil rfl (by exact (pf0 _)) (qN (qfo _ _ _ _ hr_11))) (hX _ ⟨_, rfl, rfl⟩)
     ·
      refine r_w rfl rfl rfl (qd9 _ rfl rfl qf0 .nil rfl (by exact (pf0 _)) (qO (qfo _ _ _ _ hr_11))) ?_
      rintro _ _ ⟨_, ⟨rfl, rfl⟩, rfl⟩
      refine r_st ((.cell b_o0 (qc r_11.2)) :: _) rfl (r_d rfl rfl rfl (qg3 (f := (D.int .i64)) [.tmp 15] [r_11.1] rfl qdz rfl rfl (by decide) (by decide) (.oc rfl .nil) (fun _ => rfl) (fun _ => rfl)) ?_)
      obtain ⟨l_12, hl_12, hr⟩ := bindS hr
      refine r_w rfl rfl rfl (qdF (f := (D.int .i64)) out_5 [r_11.1] rfl qdz rfl rfl (asl rfl) (pf1 _ _ _) rfl (fun _ => rfl) hl_12) ?_
      rintro _ _ ⟨u17_12, rfl, rfl⟩
      refine r_d rfl rfl rfl (qj rfl rfl) (ql (qac (gr [.d, .d] (r_d rfl rfl rfl (s_ar (r := t11_6 + 1) rfl rfl rfl rfl (by omega)) (r_d rfl rfl rfl (qe rfl rfl) (ql (qan [(2, .clo (.func 163) [] [.ptr (.ref b_o0 0 []), .ptr (.int .i64 one_a2_c1)]), (10, .int .i64 r_3.1), (7, .own u17_12 (l_12.map (D.int .i64))), (11, .int .i64 (t11_6 + 1))] (Sub.cons' rfl (Sub.cons' rfl (Sub.cons' rfl (Sub.cons' rfl (Sub.nil _))))) (qar [_, _] _ ((pf0 _).trans (pf1 _ _ _)) ?_))))))))
      exact IH0 _ _ _ (by omega) ⟨l_12, (t11_6 + 1), r_11.2, u17_12, _, rfl, rfl, rfl, hi0', hr⟩
noncomputable def qay (most_a1 : Int) (high_a2 : Int) (c_0 : qb) : Option (Int ⊕ ((List Int) × qb)) :=
  (bindX (qfq most_a1 high_a2 c_0) fun r_1 =>
  some (.inr (r_1.1, r_1.2)))
set_option maxHeartbeats 1000000 in
theorem qao (most_a1 : Int) (high_a2 : Int) (c_0 : qb) (b_o0 : Nat) (res : Int ⊕ ((List Int) × qb)) (hr : qay most_a1 high_a2 c_0 = some res) : SpecX Tryz.prog 87 [.ref b_o0 0 [], .int .i64 most_a1, .int .i64 high_a2] [.cell b_o0 (qc c_0)] (fun d σ => ∃ r : (List Int) × qb, res = .inr r ∧ d = .lst (r.1.map (D.int .i64)) ∧ σ = [.cell b_o0 (qc r.2)]) (fun d => ∃ c, res = .inl c ∧ d = .ifc 191 (.agg [.int .i64 c])) := by
  unfold qay at hr
  refine qbL [(0, .ref b_o0 0 []), (1, .int .i64 most_a1), (2, .int .i64 high_a2)] Tryz.func87 rfl rfl fun K hK hX => (qk (gr [.d, .d, .d] (r_d rfl rfl rfl (qgF rfl rfl rfl) (r_d rfl rfl rfl (qgF rfl rfl rfl) (r_d rfl rfl rfl (qj rfl rfl) (ql (qk (gr [.d, .d, .d, .w, .d] (r_d rfl rfl rfl (qw rfl rfl (by exact qaf) rfl) (r_d rfl rfl rfl (qe rfl rfl) (r_d rfl rfl rfl (qbz rfl rfl rfl) ?_)))))))))))
  rcases bindXS hr with ⟨c_r_1, hr_1, rfl⟩ | ⟨r_1, hr_1, hr⟩
  ·
   refine qb1 rfl rfl (qa0 _ rfl qib (.oc rfl (.oc rfl (.oc rfl .nil))) (by exact (pf0 _)) (qN (qia _ _ _ _ _ hr_1))) (hX _ ⟨_, rfl, rfl⟩)
  ·
   refine r_w rfl rfl rfl (qF _ rfl qib (.oc rfl (.oc rfl (.oc rfl .nil))) (by exact (pf0 _)) (qO (qia _ _ _ _ _ hr_1))) ?_
   rintro _ _ ⟨_, ⟨rfl, rfl⟩, rfl⟩
   refine r_st ((.cell b_o0 (qc r_1.2)) :: _) rfl (r_d rfl rfl rfl (qj rfl rfl) (ql ?_))
   obtain rfl := Option.some.inj hr
   refine q9 Tryz.func87 _ (.cons (resTmp rfl (Wk.refl _)) .nil) ?_
   exact ⟨_, rfl, rfl, rfl⟩
noncomputable def qce (c_0 : qb) : Option (Int ⊕ (qY × qb)) :=
  (bindX (qq 0 40 c_0) fun r_2 =>
  (bindX (qay 4 2147483648 r_2.2) fun r_3 =>
  some (.inr ((⟨r_2.1, r_3.1⟩ : qY), r_3.2))))
set_option maxHeartbeats 1000000 in
theorem qfY (c_0 : qb) (b_o0 : Nat) (res : Int ⊕ (qY × qb)) (hr : qce c_0 = some res) : SpecX Tryz.prog 86 [.ptr (.ref b_o0 0 [])] [.cell b_o0 (qc c_0)] (fun d σ => ∃ r : qY × qb, res = .inr r ∧ d = qy r.1 ∧ σ = [.cell b_o0 (qc r.2)]) (fun d => ∃ c, res = .inl c ∧ d = .ifc 191 (.agg [.int .i64 c])) := by
  unfold qce at hr
  refine qbL [(0, .ptr (.ref b_o0 0 []))] Tryz.func86 rfl rfl fun K hK hX => (qk (gr [.w] (r_w rfl rfl rfl (qau rfl qkQ) ?_)))
  rintro _ _ ⟨b1_0, rfl, rfl⟩
  refine ql (qk (gr [.d, .w, .d] (r_d rfl rfl rfl (qw rfl rfl (by exact qaf) rfl) ?_)))
  rcases bindXS hr with ⟨c_r_2, hr_2, rfl⟩ | ⟨r_2, hr_2, hr⟩
  ·
   refine qb1 rfl rfl (qa0 _ rfl qn (.oc rfl (.oc rfl (.oc rfl .nil))) (by exact (pf1 _ _ _)) (qN (qm _ _ _ _ _ hr_2))) (hX _ ⟨_, rfl, rfl⟩)
  ·
   refine r_w rfl rfl rfl (qF _ rfl qn (.oc rfl (.oc rfl (.oc rfl .nil))) (by exact (pf1 _ _ _)) (qO (qm _ _ _ _ _ hr_2))) ?_
   rintro _ _ ⟨_, ⟨rfl, rfl⟩, rfl⟩
   refine r_st ((.cell b_o0 (qc r_2.2)) :: _) rfl (r_d rfl rfl rfl (qj rfl rfl) (ql (qk (gr [.d, .d, .w, .d, .w] (r_d rfl rfl rfl (qe rfl rfl) (r_d rfl rfl rfl (qw rfl rfl (by exact qaf) rfl) ?_))))))
   rcases bindXS hr with ⟨c_r_3, hr_3, rfl⟩ | ⟨r_3, hr_3, hr⟩
   ·
    refine qb1 rfl rfl (qa0 _ rfl qaE (.oc rfl (.oc rfl (.oc rfl .nil))) (by exact (pf0 _)) (qN (qao _ _ _ _ _ hr_3))) (hX _ ⟨_, rfl, rfl⟩)
   ·
    refine r_w rfl rfl rfl (qF _ rfl qaE (.oc rfl (.oc rfl (.oc rfl .nil))) (by exact (pf0 _)) (qO (qao _ _ _ _ _ hr_3))) ?_
    rintro _ _ ⟨_, ⟨rfl, rfl⟩, rfl⟩
    refine r_st ((.cell b_o0 (qc r_3.2)) :: _) rfl (r_d rfl rfl rfl (qbT rfl qkM (.oc rfl (.oc rfl .nil)) (.cons rfl rfl rfl (.cons rfl rfl rfl (.nil _)))) (qaa rfl rfl rfl (qK _ rfl rfl rfl (Wk.refl _) (pf1 _ _ _) (by exact qfO) rfl rfl rfl) (ql (qap 1 b1_0 rfl (pf0 _) ?_))))
    obtain rfl := Option.some.inj hr
    refine q9 Tryz.func86 _ (.cons (resPtr rfl (by exact qfO) rfl (Wk.refl _)) .nil) ?_
    exact ⟨_, rfl, rfl, rfl⟩
noncomputable def qcI (k : ((List qY)) → (qb) → Option (Int ⊕ ((List qY) × qb))) : Nat → (List qY) → qb → Option (Int ⊕ ((List qY) × qb))
  | 0, out_5, r_7 =>
  (k out_5 r_7)
  | rest + 1, out_5, r_7 =>
  (bindX (qce r_7) fun r_11 =>
  ((appO 32 out_5 [r_11.1]).bind fun l_12 =>
  (qcI k rest l_12 r_11.2)))
noncomputable def qeY (most_a1 : Int) (c_0 : qb) : Option (Int ⊕ ((List qY) × qb)) :=
  (bindX (qq 0 most_a1 c_0) fun r_3 =>
  (qcI (fun out_9 r_10 =>
  some (.inr (out_9, r_10))) (r_3.1 - 0 : Int).toNat [] r_3.2))
set_option maxHeartbeats 1000000 in
theorem qiy (most_a1 : Int) (c_0 : qb) (b_o0 : Nat) (res : Int ⊕ ((List qY) × qb)) (hr : qeY most_a1 c_0 = some res) : SpecX Tryz.prog 85 [.ref b_o0 0 [], .int .i64 most_a1, .clo (.func 86) [] [.ptr (.ref b_o0 0 [])]] [.cell b_o0 (qc c_0)] (fun d σ => ∃ r : (List qY) × qb, res = .inr r ∧ d = .lst (r.1.map qy) ∧ σ = [.cell b_o0 (qc r.2)]) (fun d => ∃ c, res = .inl c ∧ d = .ifc 191 (.agg [.int .i64 c])) := by
  unfold qeY at hr
  refine qbL [(0, .ref b_o0 0 []), (1, .int .i64 most_a1), (2, .clo (.func 86) [] [.ptr (.ref b_o0 0 [])])] Tryz.func85 rfl rfl fun K hK hX => (qk (gr [.w] (r_w rfl rfl rfl (qcs 123 2 (.inl rfl)) ?_)))
  rintro _ _ ⟨u6_0, rfl, rfl⟩
  refine ql (qk (gr [.w] (r_w rfl rfl rfl (qcs 123 2 (.inl rfl)) ?_)))
  rintro _ _ ⟨u7_1, rfl, rfl⟩
  refine ql (qk (qk (gr [.d, .d, .w, .d] (r_d rfl rfl rfl (qe rfl rfl) (r_d rfl rfl rfl (qe rfl rfl) ?_)))))
  rcases bindXS hr with ⟨c_r_3, hr_3, rfl⟩ | ⟨r_3, hr_3, hr⟩
  ·
   refine qb1 rfl rfl (qa0 _ rfl qn (.oc rfl (.oc rfl (.oc rfl .nil))) (by exact (pf2 _ _ _ _)) (qN (qm _ _ _ _ _ hr_3))) (hX _ ⟨_, rfl, rfl⟩)
  ·
   refine r_w rfl rfl rfl (qF _ rfl qn (.oc rfl (.oc rfl (.oc rfl .nil))) (by exact (pf2 _ _ _ _)) (qO (qm _ _ _ _ _ hr_3))) ?_
   rintro _ _ ⟨_, ⟨rfl, rfl⟩, rfl⟩
   refine r_st ((.cell b_o0 (qc r_3.2)) :: _) rfl (r_d rfl rfl rfl (qe rfl rfl) (ql ?_))
   obtain ⟨kk0, hkk0, hr⟩ := exK (fun k => qcI k (r_3.1 - 0 : Int).toNat [] r_3.2) hr
   refine qdU 10 rfl fun hla0 => ?_
   refine qbe (fun env σ => ∃ (out_9 : (List qY)) (r_10 : qb) (u_8 : Value), env = [(7, .own u_8 (out_9.map qy))] ∧ σ = [.row u_8 out_9.length 123 2, .cell b_o0 (qc r_10)] ∧ kk0 out_9 r_10 = some res) ?_ (fun HK0 => ?_)
   ·
    rintro _ _ ⟨out_9, r_10, u_8, rfl, rfl, hr⟩
    rw [hkk0] at hr
    refine qk (gr [.d, .d] (r_d rfl rfl rfl (qe rfl rfl) (r_d rfl rfl rfl (qj rfl rfl) (ql (qar [_] _ (pf1 _ _ _) ?_)))))
    obtain rfl := Option.some.inj hr
    refine q9 Tryz.func85 _ (.cons (resTmp rfl (Wk.own _ _)) .nil) ?_
    exact ⟨_, rfl, rfl, rfl⟩
   ·
    refine qan [(2, .clo (.func 86) [] [.ptr (.ref b_o0 0 [])]), (10, .int .i64 r_3.1), (7, .own u7_1 ([].map qy)), (11, .int .i64 0)] (Sub.cons' rfl (Sub.cons' rfl (Sub.cons' rfl (Sub.cons' rfl (Sub.nil _))))) (qar [_, _] _ ((pf1 _ _ _).trans (pf1 _ _ _)) (qdb (fun n env σ => ∃ (out_5 : (List qY)) (t11_6 : Int) (r_7 : qb) (u_4 : Value) (m0 : Nat), (m0 = n) ∧ (env = [(2, .clo (.func 86) [] [.ptr (.ref b_o0 0 [])]), (10, .int .i64 r_3.1), (7, .own u_4 (out_5.map qy)), (11, .int .i64 t11_6)]) ∧ (σ = [.cell b_o0 (qc r_7), .row u_4 out_5.length 123 2]) ∧ (m0 = (r_3.1 - t11_6 : Int).toNat) ∧ (qcI kk0 m0 out_5 r_7 = some res)) _ ⟨[], 0, r_3.2, u7_1, _, rfl, rfl, rfl, rfl, hr⟩ ?_))
    rintro n _ _ ⟨out_5, t11_6, r_7, u_4, m0, rfl, rfl, rfl, hi0, hr⟩ IH0
    refine qdU 11 rfl fun hb0 => ?_
    rcases cntStep t11_6 r_3.1 m0 hi0 with ⟨hm0, ht0⟩ | ⟨m0', hm0, ht0, hi0', hlt0⟩
    ·
     rw [hm0, qcI] at hr
     refine qk (gr [.d] (r_d rfl rfl rfl (qX rfl rfl rfl rfl) (ql (qk (qbg 12 false rfl ht0 (qB rfl (qbC rfl (qan [(7, .own u_4 (out_5.map qy))] (Sub.cons' rfl (Sub.nil _)) (qar [_, _] _ ((pf0 _).trans (pf1 _ _ _)) ?_)))))))))
     exact HK0 _ _ ⟨out_5, r_7, u_4, rfl, rfl, hr⟩
    ·
     rw [hm0, qcI] at hr
     refine qk (gr [.d] (r_d rfl rfl rfl (qX rfl rfl rfl rfl) (ql (qk (qdU 10 rfl fun hbN10 => (qbg 12 true rfl ht0 (qC rfl (qab (qk (qbi (gr [.d, .d, .w, .d, .w, .d] ?_)))))))))))
     refine r_d rfl rfl rfl (qe rfl rfl) (r_d rfl rfl rfl (qe rfl rfl) ?_)
     rcases bindXS hr with ⟨c_r_11, hr_11, rfl⟩ | ⟨r_11, hr_11, hr⟩
     ·
      refine qb1 rfl rfl (qg5 _ rfl rfl qgM .nil rfl (by exact (pf0 _)) (qN (qfY _ _ _ hr_11))) (hX _ ⟨_, rfl, rfl⟩)
     ·
      refine r_w rfl rfl rfl (qd9 _ rfl rfl qgM .nil rfl (by exact (pf0 _)) (qO (qfY _ _ _ hr_11))) ?_
      rintro _ _ ⟨_, ⟨rfl, rfl⟩, rfl⟩
      refine r_st ((.cell b_o0 (qc r_11.2)) :: _) rfl (r_d rfl rfl rfl (qg3 (f := qy) [.tmp 15] [r_11.1] rfl qdh rfl rfl (by decide) (by decide) (.oc rfl .nil) qdK (fun _ => rfl)) ?_)
      obtain ⟨l_12, hl_12, hr⟩ := bindS hr
      refine r_w rfl rfl rfl (qdF (f := qy) out_5 [r_11.1] rfl qdh rfl rfl (asl rfl) (pf1 _ _ _) rfl qdK hl_12) ?_
      rintro _ _ ⟨u17_12, rfl, rfl⟩
      refine r_d rfl rfl rfl (qj rfl rfl) (ql (qac (gr [.d, .d] (r_d rfl rfl rfl (s_ar (r := t11_6 + 1) rfl rfl rfl rfl (by omega)) (r_d rfl rfl rfl (qe rfl rfl) (ql (qan [(2, .clo (.func 86) [] [.ptr (.ref b_o0 0 [])]), (10, .int .i64 r_3.1), (7, .own u17_12 (l_12.map qy)), (11, .int .i64 (t11_6 + 1))] (Sub.cons' rfl (Sub.cons' rfl (Sub.cons' rfl (Sub.cons' rfl (Sub.nil _))))) (qar [_, _] _ ((pf0 _).trans (pf1 _ _ _)) ?_))))))))
      exact IH0 _ _ _ (by omega) ⟨l_12, (t11_6 + 1), r_11.2, u17_12, _, rfl, rfl, rfl, hi0', hr⟩
noncomputable def qhz (b_a0 : (List Int)) (at_a1 : Int) : Option (Bool × Int × Int) :=
  (bif (decide (at_a1 < (0 : Int))) then
  some (false, 0, 2)
  else
  (bif (decide (at_a1 > (b_a0.length : Int))) then
  some (false, 0, 2)
  else
  (bif (at_a1 == (b_a0.length : Int)) then
  some (false, 0, 4)
  else
  ((getI b_a0 at_a1).bind fun q_4 =>
  (bif (decide (q_4 > (1 : Int))) then
  some (false, 0, 3)
  else
  some ((q_4 == (1 : Int)), (wr (at_a1 + (1 : Int))), 0))))))
set_option maxHeartbeats 1000000 in
theorem qnp (b_a0 : (List Int)) (at_a1 : Int) (res : Bool × Int × Int) (hr : qhz b_a0 at_a1 = some res) : Gives Tryz.prog 164 [.lst (b_a0.map (D.int .u8)), .int .i64 at_a1] (.tup [.bool res.1, .int .i64 res.2.1, .int .i64 res.2.2]) := by
  unfold qhz at hr
  refine qag [(0, .lst (b_a0.map (D.int .u8))), (1, .int .i64 at_a1)] Tryz.func164 rfl rfl fun K hK => (qk (gr [.d, .d, .d] (r_d rfl rfl rfl (qj rfl rfl) (r_d rfl rfl rfl (qj rfl rfl) (r_d rfl rfl rfl (qj rfl rfl) (ql (qk (qbi (qk (gr [.d, .d, .d, .d, .d, .d, .d, .d, .d] (r_d rfl rfl rfl (qe rfl rfl) ?_)))))))))))
  refine r_d rfl rfl rfl (qX rfl rfl rfl rfl) (r_d rfl rfl rfl (qe rfl rfl) ?_)
  refine r_sB 10 rfl hr (fun h10_0 hr => ?_) (fun h10_0 hr => ?_)
  ·
   refine qh rfl rfl rfl (qh rfl rfl rfl (qh rfl rfl rfl (qh rfl rfl rfl (r_d rfl rfl rfl (qP rfl rfl rfl) (r_d rfl rfl rfl (qj rfl rfl) (ql (qC rfl (qk (gr [.d, .d, .d] (r_d rfl rfl rfl (qj rfl rfl) (r_d rfl rfl rfl (qj rfl rfl) ?_)))))))))))
   refine r_d rfl rfl rfl (qj rfl rfl) (ql ?_)
   obtain rfl := Option.some.inj hr
   refine q9 Tryz.func164 _ (.cons (resTmp rfl (Wk.refl _)) (.cons (resTmp rfl (Wk.refl _)) (.cons (resTmp rfl (Wk.refl _)) .nil))) ?_
   rfl
  ·
   refine r_d rfl rfl rfl (qe rfl rfl) (r_d rfl rfl rfl (qe rfl rfl) (r_d rfl rfl rfl (qbP (f := (D.int .u8)) b_a0 rfl qb9 rfl (asl rfl)) (r_d rfl rfl rfl (qX rfl rfl rfl rfl) (r_d rfl rfl rfl (qG rfl rfl rfl) (r_d rfl rfl rfl (qj rfl rfl) (ql ?_))))))
   refine g_sB 7 rfl hr (fun h7_1 hr => ?_) (fun h7_1 hr => ?_)
   ·
    refine qC rfl (qk (gr [.d, .d, .d] (r_d rfl rfl rfl (qj rfl rfl) (r_d rfl rfl rfl (qj rfl rfl) (r_d rfl rfl rfl (qj rfl rfl) (ql ?_))))))
    obtain rfl := Option.some.inj hr
    refine q9 Tryz.func164 _ (.cons (resTmp rfl (Wk.refl _)) (.cons (resTmp rfl (Wk.refl _)) (.cons (resTmp rfl (Wk.refl _)) .nil))) ?_
    rfl
   ·
    refine qB rfl (qk (gr [.d, .d, .d, .d, .d] (r_d rfl rfl rfl (qe rfl rfl) (r_d rfl rfl rfl (qe rfl rfl) (r_d rfl rfl rfl (qbP (f := (D.int .u8)) b_a0 rfl qb9 rfl (asl rfl)) (r_d rfl rfl rfl (qX rfl rfl rfl rfl) (r_d rfl rfl rfl (qj rfl rfl) (ql ?_))))))))
    refine g_sB 16 rfl hr (fun h16_2 hr => ?_) (fun h16_2 hr => ?_)
    ·
     refine qC rfl (qk (gr [.d, .d, .d] (r_d rfl rfl rfl (qj rfl rfl) (r_d rfl rfl rfl (qj rfl rfl) (r_d rfl rfl rfl (qj rfl rfl) (ql ?_))))))
     obtain rfl := Option.some.inj hr
     refine q9 Tryz.func164 _ (.cons (resTmp rfl (Wk.refl _)) (.cons (resTmp rfl (Wk.refl _)) (.cons (resTmp rfl (Wk.refl _)) .nil))) ?_
     rfl
    ·
     refine qB rfl (qk (gr [.d, .d, .d, .d, .d, .d] (r_d rfl rfl rfl (qe rfl rfl) (r_d rfl rfl rfl (qe rfl rfl) ?_))))
     obtain ⟨q_4, hq_4, hr⟩ := bindS hr
     refine r_d rfl rfl rfl (qbH (f := (D.int .u8)) b_a0 rfl qb9 rfl (asl rfl) rfl hq_4 (fun _ => rfl) rfl) (r_d rfl rfl rfl (qw rfl rfl (by exact qlf) rfl) (r_d rfl rfl rfl (qX rfl rfl rfl rfl) (r_d rfl rfl rfl (qj rfl rfl) (ql ?_))))
     refine g_sB 21 rfl hr (fun h21_4 hr => ?_) (fun h21_4 hr => ?_)
     ·
      refine qC rfl (qk (gr [.d, .d, .d] (r_d rfl rfl rfl (qj rfl rfl) (r_d rfl rfl rfl (qj rfl rfl) (r_d rfl rfl rfl (qj rfl rfl) (ql ?_))))))
      obtain rfl := Option.some.inj hr
      refine q9 Tryz.func164 _ (.cons (resTmp rfl (Wk.refl _)) (.cons (resTmp rfl (Wk.refl _)) (.cons (resTmp rfl (Wk.refl _)) .nil))) ?_
      rfl
     ·
      refine qB rfl (qab (qac (qk (gr [.d, .d, .d, .d, .d, .d, .d, .d, .d, .d] (r_d rfl rfl rfl (qe rfl rfl) (r_d rfl rfl rfl (qe rfl rfl) (r_d rfl rfl rfl (qbH (f := (D.int .u8)) b_a0 rfl qb9 rfl (asl rfl) rfl hq_4 (fun _ => rfl) rfl) (r_d rfl rfl rfl (qw rfl rfl (by exact qlf) rfl) (r_d rfl rfl rfl (qX rfl rfl rfl rfl) (r_d rfl rfl rfl (qe rfl rfl) (r_d rfl rfl rfl (qiF rfl rfl rfl rfl) ?_)))))))))))
      refine r_d rfl rfl rfl (qj rfl rfl) (r_d rfl rfl rfl (qj rfl rfl) (r_d rfl rfl rfl (qj rfl rfl) (ql ?_)))
      obtain rfl := Option.some.inj hr
      refine q9 Tryz.func164 _ (.cons (resTmp rfl (Wk.refl _)) (.cons (resTmp rfl (Wk.refl _)) (.cons (resTmp rfl (Wk.refl _)) .nil))) ?_
      rfl
noncomputable def qc1 (c_0 : qb) : Option (Int ⊕ (Bool × qb)) :=
  ((qhz c_0.f0_b c_0.f1_at).bind fun r_1 =>
  (bindX (qbn r_1.2.1 r_1.2.2 c_0) fun r_2 =>
  some (.inr (r_1.1, r_2))))
set_option maxHeartbeats 1000000 in
theorem qd5 (c_0 : qb) (b_o0 : Nat) (res : Int ⊕ (Bool × qb)) (hr : qc1 c_0 = some res) : SpecX Tryz.prog 88 [.ref b_o0 0 []] [.cell b_o0 (qc c_0)] (fun d σ => ∃ r : Bool × qb, res = .inr r ∧ d = .bool r.1 ∧ σ = [.cell b_o0 (qc r.2)]) (fun d => ∃ c, res = .inl c ∧ d = .ifc 191 (.agg [.int .i64 c])) := by
  unfold qc1 at hr
  refine qbL [(0, .ref b_o0 0 [])] Tryz.func88 rfl rfl fun K hK hX => (qk (gr [.d] (r_d rfl rfl rfl (qj rfl rfl) (ql (qk (qpe (by kernel_rfl) (by kernel_rfl) [(0, .d), (1, .d), (2, .d), (3, .r), (4, .d), (5, .d), (6, .d), (7, .r), (8, .d), (9, .d), (10, .d), (11, .d), (12, .d), (13, .d), (14, .d), (15, .d)] (by kernel_rfl) (r_d rfl rfl rfl (qe rfl rfl) (r_d rfl rfl rfl (qv rfl rfl) (r_d rfl rfl rfl (qo rfl qgN rfl) (r_r rfl rfl rfl (qx rfl rfl (.head _) rfl rfl (by exact qc5) rfl) (r_d rfl rfl rfl (qe rfl rfl) ?_)))))))))))
  refine r_d rfl rfl rfl (qv rfl rfl) (r_d rfl rfl rfl (qo rfl qdE rfl) (r_r rfl rfl rfl (qx rfl rfl (.head _) rfl rfl (by exact qaF) rfl) ?_))
  obtain ⟨r_1, hr_1, hr⟩ := bindS hr
  refine r_d rfl rfl rfl (qal rfl qnz (.oc rfl (.oc rfl .nil)) (qnp _ _ _ hr_1)) (r_d rfl rfl rfl (qe rfl rfl) (r_d rfl rfl rfl (qaz rfl rfl rfl) (r_d rfl rfl rfl (qaz rfl rfl rfl) (r_d rfl rfl rfl (qaz rfl rfl rfl) (r_d rfl rfl rfl (qj rfl rfl) (r_d rfl rfl rfl (qj rfl rfl) (r_d rfl rfl rfl (qj rfl rfl) (ql (qk (gr [.d, .d, .d, .w] (r_d rfl rfl rfl (qe rfl rfl) ?_)))))))))))
  refine r_d rfl rfl rfl (qe rfl rfl) (r_d rfl rfl rfl (qe rfl rfl) ?_)
  rcases bindXS hr with ⟨c_r_2, hr_2, rfl⟩ | ⟨r_2, hr_2, hr⟩
  ·
   refine qb1 rfl rfl (qa0 _ rfl qdk (.oc rfl (.oc rfl (.oc rfl .nil))) (by exact (pf0 _)) (qN (qcZ _ _ _ _ _ hr_2))) (hX _ ⟨_, rfl, rfl⟩)
  ·
   refine r_w rfl rfl rfl (qF _ rfl qdk (.oc rfl (.oc rfl (.oc rfl .nil))) (by exact (pf0 _)) (qO (qcZ _ _ _ _ _ hr_2))) ?_
   rintro _ _ ⟨_, ⟨rfl, rfl⟩, rfl⟩
   refine r_st ((.cell b_o0 (qc r_2)) :: _) rfl (ql (qk (gr [.d, .d] (r_d rfl rfl rfl (qe rfl rfl) (r_d rfl rfl rfl (qj rfl rfl) (ql ?_))))))
   obtain rfl := Option.some.inj hr
   refine q9 Tryz.func88 _ (.cons (resTmp rfl (Wk.refl _)) .nil) ?_
   exact ⟨_, rfl, rfl, rfl⟩
noncomputable def qc3 (fuel : Nat) (c_0 : qb) : Option (Int ⊕ (qai × qb)) :=
  (bindX (qfb fuel 1000 c_0) fun r_2 =>
  (bindX (qe8 fuel 500 r_2.2) fun r_3 =>
  (bindX (qeT fuel 1048576 r_3.2) fun r_4 =>
  (bindX (qeY 5000 r_4.2) fun r_5 =>
  (bindX (qq 0 2147483648 r_5.2) fun r_6 =>
  (bindX (qq 0 1048576 r_6.2) fun r_7 =>
  (bindX (qc1 r_7.2) fun r_8 =>
  some (.inr ((⟨r_2.1, r_3.1, r_4.1, r_5.1, r_6.1, r_7.1, r_8.1⟩ : qai), r_8.2)))))))))
set_option maxHeartbeats 1000000 in
theorem qgt (fuel : Nat) (c_0 : qb) (b_o0 : Nat) (res : Int ⊕ (qai × qb)) (hr : qc3 fuel c_0 = some res) : SpecX Tryz.prog 77 [.ref b_o0 0 []] [.cell b_o0 (qc c_0)] (fun d σ => ∃ r : qai × qb, res = .inr r ∧ d = qbl r.1 ∧ σ = [.cell b_o0 (qc r.2)]) (fun d => ∃ c, res = .inl c ∧ d = .ifc 191 (.agg [.int .i64 c])) := by
  unfold qc3 at hr
  refine qbL [(0, .ref b_o0 0 [])] Tryz.func77 rfl rfl fun K hK hX => (qk (gr [.d, .w] (r_d rfl rfl rfl (qgF rfl rfl rfl) (r_w rfl rfl rfl (qau rfl qeP) ?_))))
  rintro _ _ ⟨b2_0, rfl, rfl⟩
  refine ql (qk (gr [.d, .d, .d, .w, .d, .w] (r_d rfl rfl rfl (qw rfl rfl (by exact qaf) rfl) (r_d rfl rfl rfl (qw rfl rfl (by exact qaf) rfl) (r_d rfl rfl rfl (qbz rfl rfl rfl) ?_)))))
  rcases bindXS hr with ⟨c_r_2, hr_2, rfl⟩ | ⟨r_2, hr_2, hr⟩
  ·
   refine qb1 rfl rfl (qa0 _ rfl qgJ (.oc rfl (.oc rfl (.oc rfl .nil))) (by exact (pf1 _ _ _)) (qN (qiB fuel _ _ _ _ hr_2))) (hX _ ⟨_, rfl, rfl⟩)
  ·
   refine r_w rfl rfl rfl (qF _ rfl qgJ (.oc rfl (.oc rfl (.oc rfl .nil))) (by exact (pf1 _ _ _)) (qO (qiB fuel _ _ _ _ hr_2))) ?_
   rintro _ _ ⟨_, ⟨rfl, rfl⟩, rfl⟩
   refine r_st ((.cell b_o0 (qc r_2.2)) :: _) rfl (r_d rfl rfl rfl (qo rfl qdX rfl) (qaa rfl rfl rfl (qV _ rfl rfl rfl (Wk.refl _) (pf1 _ _ _) rfl rfl (by exact qdV) rfl rfl rfl) (ql (qk (gr [.d, .d, .d, .w, .d, .w] (r_d rfl rfl rfl (qw rfl rfl (by exact qaf) rfl) (r_d rfl rfl rfl (qw rfl rfl (by exact qaf) rfl) (r_d rfl rfl rfl (qbz rfl rfl rfl) ?_))))))))
   rcases bindXS hr with ⟨c_r_3, hr_3, rfl⟩ | ⟨r_3, hr_3, hr⟩
   ·
    refine qb1 rfl rfl (qa0 _ rfl qgV (.oc rfl (.oc rfl (.oc rfl .nil))) (by exact (pf1 _ _ _)) (qN (qiW fuel _ _ _ _ hr_3))) (hX _ ⟨_, rfl, rfl⟩)
   ·
    refine r_w rfl rfl rfl (qF _ rfl qgV (.oc rfl (.oc rfl (.oc rfl .nil))) (by exact (pf1 _ _ _)) (qO (qiW fuel _ _ _ _ hr_3))) ?_
    rintro _ _ ⟨_, ⟨rfl, rfl⟩, rfl⟩
    refine r_st ((.cell b_o0 (qc r_3.2)) :: _) rfl (r_d rfl rfl rfl (qo rfl qft rfl) (qaa rfl rfl rfl (qV _ rfl rfl rfl (Wk.refl _) (pf1 _ _ _) rfl rfl (by exact qgD) rfl rfl rfl) (ql (qk (gr [.d, .d, .w, .d, .w] (r_d rfl rfl rfl (qw rfl rfl (by exact qaf) rfl) (r_d rfl rfl rfl (qbz rfl rfl rfl) ?_)))))))
    rcases bindXS hr with ⟨c_r_4, hr_4, rfl⟩ | ⟨r_4, hr_4, hr⟩
    ·
     refine qb1 rfl rfl (qa0 _ rfl qgZ (.oc rfl (.oc rfl (.oc rfl .nil))) (by exact (pf1 _ _ _)) (qN (qiH fuel _ _ _ _ hr_4))) (hX _ ⟨_, rfl, rfl⟩)
    ·
     refine r_w rfl rfl rfl (qF _ rfl qgZ (.oc rfl (.oc rfl (.oc rfl .nil))) (by exact (pf1 _ _ _)) (qO (qiH fuel _ _ _ _ hr_4))) ?_
     rintro _ _ ⟨_, ⟨rfl, rfl⟩, rfl⟩
     refine r_st ((.cell b_o0 (qc r_4.2)) :: _) rfl (r_d rfl rfl rfl (qo rfl qer rfl) (qaa rfl rfl rfl (qV _ rfl rfl rfl (Wk.refl _) (pf1 _ _ _) rfl rfl (by exact qfE) rfl rfl rfl) (ql (qk (gr [.d, .d, .w, .d, .w] (r_d rfl rfl rfl (qw rfl rfl (by exact qaf) rfl) (r_d rfl rfl rfl (qbz rfl rfl rfl) ?_)))))))
     rcases bindXS hr with ⟨c_r_5, hr_5, rfl⟩ | ⟨r_5, hr_5, hr⟩
     ·
      refine qb1 rfl rfl (qa0 _ rfl qg2 (.oc rfl (.oc rfl (.oc rfl .nil))) (by exact (pf1 _ _ _)) (qN (qiy _ _ _ _ hr_5))) (hX _ ⟨_, rfl, rfl⟩)
     ·
      refine r_w rfl rfl rfl (qF _ rfl qg2 (.oc rfl (.oc rfl (.oc rfl .nil))) (by exact (pf1 _ _ _)) (qO (qiy _ _ _ _ hr_5))) ?_
      rintro _ _ ⟨_, ⟨rfl, rfl⟩, rfl⟩
      refine r_st ((.cell b_o0 (qc r_5.2)) :: _) rfl (r_d rfl rfl rfl (qo rfl qfz rfl) (qaa rfl rfl rfl (qV _ rfl rfl rfl (Wk.refl _) (pf1 _ _ _) rfl rfl (by exact qgC) rfl rfl rfl) (ql (qk (gr [.d, .w, .d, .w] (r_d rfl rfl rfl (qw rfl rfl (by exact qaf) rfl) ?_))))))
      rcases bindXS hr with ⟨c_r_6, hr_6, rfl⟩ | ⟨r_6, hr_6, hr⟩
      ·
       refine qb1 rfl rfl (qa0 _ rfl qn (.oc rfl (.oc rfl (.oc rfl .nil))) (by exact (pf1 _ _ _)) (qN (qm _ _ _ _ _ hr_6))) (hX _ ⟨_, rfl, rfl⟩)
      ·
       refine r_w rfl rfl rfl (qF _ rfl qn (.oc rfl (.oc rfl (.oc rfl .nil))) (by exact (pf1 _ _ _)) (qO (qm _ _ _ _ _ hr_6))) ?_
       rintro _ _ ⟨_, ⟨rfl, rfl⟩, rfl⟩
       refine r_st ((.cell b_o0 (qc r_6.2)) :: _) rfl (r_d rfl rfl rfl (qo rfl qgh rfl) (qaa rfl rfl rfl (qV _ rfl rfl rfl (Wk.refl _) (pf1 _ _ _) rfl rfl (by exact qaF) rfl rfl rfl) (ql (qk (gr [.d, .w, .d, .w] (r_d rfl rfl rfl (qw rfl rfl (by exact qaf) rfl) ?_))))))
       rcases bindXS hr with ⟨c_r_7, hr_7, rfl⟩ | ⟨r_7, hr_7, hr⟩
       ·
        refine qb1 rfl rfl (qa0 _ rfl qn (.oc rfl (.oc rfl (.oc rfl .nil))) (by exact (pf1 _ _ _)) (qN (qm _ _ _ _ _ hr_7))) (hX _ ⟨_, rfl, rfl⟩)
       ·
        refine r_w rfl rfl rfl (qF _ rfl qn (.oc rfl (.oc rfl (.oc rfl .nil))) (by exact (pf1 _ _ _)) (qO (qm _ _ _ _ _ hr_7))) ?_
        rintro _ _ ⟨_, ⟨rfl, rfl⟩, rfl⟩
        refine r_st ((.cell b_o0 (qc r_7.2)) :: _) rfl (r_d rfl rfl rfl (qo rfl qgA rfl) (qaa rfl rfl rfl (qV _ rfl rfl rfl (Wk.refl _) (pf1 _ _ _) rfl rfl (by exact qaF) rfl rfl rfl) (ql (qk (gr [.d, .w, .d, .w] (r_d rfl rfl rfl (qw rfl rfl (by exact qaf) rfl) ?_))))))
        rcases bindXS hr with ⟨c_r_8, hr_8, rfl⟩ | ⟨r_8, hr_8, hr⟩
        ·
         refine qb1 rfl rfl (qa0 _ rfl qeu (.oc rfl .nil) (by exact (pf1 _ _ _)) (qN (qd5 _ _ _ hr_8))) (hX _ ⟨_, rfl, rfl⟩)
        ·
         refine r_w rfl rfl rfl (qF _ rfl qeu (.oc rfl .nil) (by exact (pf1 _ _ _)) (qO (qd5 _ _ _ hr_8))) ?_
         rintro _ _ ⟨_, ⟨rfl, rfl⟩, rfl⟩
         refine r_st ((.cell b_o0 (qc r_8.2)) :: _) rfl (r_d rfl rfl rfl (qo rfl qgn rfl) (qaa rfl rfl rfl (qV _ rfl rfl rfl (Wk.refl _) (pf1 _ _ _) rfl rfl (by exact qbm) rfl rfl rfl) (ql (qk (gr [.r, .w] (r_r rfl rfl rfl (qx rfl rfl (.head _) rfl rfl (by exact qbc) rfl) (qaa rfl rfl rfl (qK _ rfl rfl rfl (Wk.refl _) (pf0 _) (by exact qbc) rfl rfl rfl) (ql (qap 2 b2_0 rfl (pf0 _) ?_)))))))))
         obtain rfl := Option.some.inj hr
         refine q9 Tryz.func77 _ (.cons (resPtr rfl (by exact qbc) rfl (Wk.refl _)) .nil) ?_
         exact ⟨_, rfl, rfl, rfl⟩
noncomputable def qcX (fuel : Nat) (c_0 : qb) : Option (Int ⊕ (qZ × qb)) :=
  (bindX (qbF fuel c_0) fun r_2 =>
  (bindX (qay 64 64 r_2.2) fun r_4 =>
  some (.inr ((⟨r_2.1.1, r_2.1.2, r_4.1⟩ : qZ), r_4.2))))
set_option maxHeartbeats 1000000 in
theorem qgl (fuel : Nat) (c_0 : qb) (b_o0 : Nat) (res : Int ⊕ (qZ × qb)) (hr : qcX fuel c_0 = some res) : SpecX Tryz.prog 113 [.ref b_o0 0 []] [.cell b_o0 (qc c_0)] (fun d σ => ∃ r : qZ × qb, res = .inr r ∧ d = qE r.1 ∧ σ = [.cell b_o0 (qc r.2)]) (fun d => ∃ c, res = .inl c ∧ d = .ifc 191 (.agg [.int .i64 c])) := by
  unfold qcX at hr
  refine qbL [(0, .ref b_o0 0 [])] Tryz.func113 rfl rfl fun K hK hX => (qk (gr [.w] (r_w rfl rfl rfl (qau rfl qkX) ?_)))
  rintro _ _ ⟨b2_0, rfl, rfl⟩
  refine ql (qk (gr [.d, .w, .w, .w] (r_d rfl rfl rfl (qe rfl rfl) ?_)))
  rcases bindXS hr with ⟨c_r_2, hr_2, rfl⟩ | ⟨r_2, hr_2, hr⟩
  ·
   refine qb1 rfl rfl (qa0 _ rfl qez (.oc rfl .nil) (by exact (pf1 _ _ _)) (qN (qdY fuel _ _ _ hr_2))) (hX _ ⟨_, rfl, rfl⟩)
  ·
   refine r_w rfl rfl rfl (qF _ rfl qez (.oc rfl .nil) (by exact (pf1 _ _ _)) (qO (qdY fuel _ _ _ hr_2))) ?_
   rintro _ _ ⟨_, ⟨rfl, rfl⟩, rfl⟩
   refine r_st ((.cell b_o0 (qc r_2.2)) :: _) rfl (r_w rfl rfl rfl (qau rfl qjV) ?_)
   rintro _ _ ⟨b3_2, rfl, rfl⟩
   refine qaa rfl rfl rfl (qK _ rfl rfl rfl (Wk.refl _) (pf0 _) (by exact qgi) (qgE _) (by first | rfl | simp [sz, szs, qbx, qbA]) rfl) (ql (qap 3 b3_2 rfl (pf0 _) (qk (qpe (by kernel_rfl) (by kernel_rfl) [(0, .d), (1, .d), (2, .d), (3, .d), (4, .d), (5, .w), (6, .d), (7, .w)] (by kernel_rfl) (r_d rfl rfl rfl (qp rfl qii rfl rfl rfl rfl) (r_d rfl rfl rfl (qw rfl rfl (by exact qaF) rfl) (r_d rfl rfl rfl (qp rfl qhw rfl rfl rfl rfl) (r_d rfl rfl rfl (qw rfl rfl (by exact qbN) (qbA _)) (r_d rfl rfl rfl (qe rfl rfl) ?_)))))))))
   rcases bindXS hr with ⟨c_r_4, hr_4, rfl⟩ | ⟨r_4, hr_4, hr⟩
   ·
    refine qb1 rfl rfl (qa0 _ rfl qaE (.oc rfl (.oc rfl (.oc rfl .nil))) (by exact (pf0 _)) (qN (qao _ _ _ _ _ hr_4))) (hX _ ⟨_, rfl, rfl⟩)
   ·
    refine r_w rfl rfl rfl (qF _ rfl qaE (.oc rfl (.oc rfl (.oc rfl .nil))) (by exact (pf0 _)) (qO (qao _ _ _ _ _ hr_4))) ?_
    rintro _ _ ⟨_, ⟨rfl, rfl⟩, rfl⟩
    refine r_st ((.cell b_o0 (qc r_4.2)) :: _) rfl (r_d rfl rfl rfl (qbT rfl qkV (.oc rfl (.oc rfl (.oc rfl .nil))) (.cons rfl rfl rfl (.cons rfl (qbA _) rfl (.cons rfl rfl rfl (.nil _))))) (qaa rfl rfl rfl (qK _ rfl rfl rfl (Wk.refl _) (pf1 _ _ _) (by exact qfM) (by first | rfl | simp [sz, szs, qbx, qbA]) (by first | rfl | simp [sz, szs, qbx, qbA]) rfl) (ql (qap 2 b2_0 rfl (pf0 _) ?_))))
    obtain rfl := Option.some.inj hr
    refine q9 Tryz.func113 _ (.cons (resPtr rfl (by exact qfM) (by first | rfl | simp [sz, szs, qbx, qbA]) (Wk.refl _)) .nil) ?_
    exact ⟨_, rfl, rfl, rfl⟩
noncomputable def qco (k : ((List qZ)) → (qb) → Option (Int ⊕ ((List qZ) × qb))) (fuel : Nat) : Nat → (List qZ) → qb → Option (Int ⊕ ((List qZ) × qb))
  | 0, out_5, r_7 =>
  (k out_5 r_7)
  | rest + 1, out_5, r_7 =>
  (bindX (qcX fuel r_7) fun r_11 =>
  ((appO 72 out_5 [r_11.1]).bind fun l_12 =>
  (qco k fuel rest l_12 r_11.2)))
noncomputable def qd7 (fuel : Nat) (most_a1 : Int) (c_0 : qb) : Option (Int ⊕ ((List qZ) × qb)) :=
  (bindX (qq 0 most_a1 c_0) fun r_3 =>
  (qco (fun out_9 r_10 =>
  some (.inr (out_9, r_10))) fuel (r_3.1 - 0 : Int).toNat [] r_3.2))
set_option maxHeartbeats 1000000 in
theorem qfr (fuel : Nat) (most_a1 : Int) (c_0 : qb) (b_o0 : Nat) (res : Int ⊕ ((List qZ) × qb)) (hr : qd7 fuel most_a1 c_0 = some res) : SpecX Tryz.prog 112 [.ref b_o0 0 [], .int .i64 most_a1, .clo (.func 113) [.ref b_o0 0 []] []] [.cell b_o0 (qc c_0)] (fun d σ => ∃ r : (List qZ) × qb, res = .inr r ∧ d = .lst (r.1.map qE) ∧ σ = [.cell b_o0 (qc r.2)]) (fun d => ∃ c, res = .inl c ∧ d = .ifc 191 (.agg [.int .i64 c])) := by
  unfold qd7 at hr
  refine qbL [(0, .ref b_o0 0 []), (1, .int .i64 most_a1), (2, .clo (.func 113) [.ref b_o0 0 []] [])] Tryz.func112 rfl rfl fun K hK hX => (qk (gr [.w] (r_w rfl rfl rfl (qcs 146 4 (.inl rfl)) ?_)))
  rintro _ _ ⟨u6_0, rfl, rfl⟩
  refine ql (qk (gr [.w] (r_w rfl rfl rfl (qcs 146 4 (.inl rfl)) ?_)))
  rintro _ _ ⟨u7_1, rfl, rfl⟩
  refine ql (qk (qk (gr [.d, .d, .w, .d] (r_d rfl rfl rfl (qe rfl rfl) (r_d rfl rfl rfl (qe rfl rfl) ?_)))))
  rcases bindXS hr with ⟨c_r_3, hr_3, rfl⟩ | ⟨r_3, hr_3, hr⟩
  ·
   refine qb1 rfl rfl (qa0 _ rfl qn (.oc rfl (.oc rfl (.oc rfl .nil))) (by exact (pf2 _ _ _ _)) (qN (qm _ _ _ _ _ hr_3))) (hX _ ⟨_, rfl, rfl⟩)
  ·
   refine r_w rfl rfl rfl (qF _ rfl qn (.oc rfl (.oc rfl (.oc rfl .nil))) (by exact (pf2 _ _ _ _)) (qO (qm _ _ _ _ _ hr_3))) ?_
   rintro _ _ ⟨_, ⟨rfl, rfl⟩, rfl⟩
   refine r_st ((.cell b_o0 (qc r_3.2)) :: _) rfl (r_d rfl rfl rfl (qe rfl rfl) (ql ?_))
   obtain ⟨kk0, hkk0, hr⟩ := exK (fun k => qco k fuel (r_3.1 - 0 : Int).toNat [] r_3.2) hr
   refine qdU 10 rfl fun hla0 => ?_
   refine qbe (fun env σ => ∃ (out_9 : (List qZ)) (r_10 : qb) (u_8 : Value), env = [(7, .own u_8 (out_9.map qE))] ∧ σ = [.row u_8 out_9.length 146 4, .cell b_o0 (qc r_10)] ∧ kk0 out_9 r_10 = some res) ?_ (fun HK0 => ?_)
   ·
    rintro _ _ ⟨out_9, r_10, u_8, rfl, rfl, hr⟩
    rw [hkk0] at hr
    refine qk (gr [.d, .d] (r_d rfl rfl rfl (qe rfl rfl) (r_d rfl rfl rfl (qj rfl rfl) (ql (qar [_] _ (pf1 _ _ _) ?_)))))
    obtain rfl := Option.some.inj hr
    refine q9 Tryz.func112 _ (.cons (resTmp rfl (Wk.own _ _)) .nil) ?_
    exact ⟨_, rfl, rfl, rfl⟩
   ·
    refine qan [(2, .clo (.func 113) [.ref b_o0 0 []] []), (10, .int .i64 r_3.1), (7, .own u7_1 ([].map qE)), (11, .int .i64 0)] (Sub.cons' rfl (Sub.cons' rfl (Sub.cons' rfl (Sub.cons' rfl (Sub.nil _))))) (qar [_, _] _ ((pf1 _ _ _).trans (pf1 _ _ _)) (qdb (fun n env σ => ∃ (out_5 : (List qZ)) (t11_6 : Int) (r_7 : qb) (u_4 : Value) (m0 : Nat), (m0 = n) ∧ (env = [(2, .clo (.func 113) [.ref b_o0 0 []] []), (10, .int .i64 r_3.1), (7, .own u_4 (out_5.map qE)), (11, .int .i64 t11_6)]) ∧ (σ = [.cell b_o0 (qc r_7), .row u_4 out_5.length 146 4]) ∧ (m0 = (r_3.1 - t11_6 : Int).toNat) ∧ (qco kk0 fuel m0 out_5 r_7 = some res)) _ ⟨[], 0, r_3.2, u7_1, _, rfl, rfl, rfl, rfl, hr⟩ ?_))
    rintro n _ _ ⟨out_5, t11_6, r_7, u_4, m0, rfl, rfl, rfl, hi0, hr⟩ IH0
    refine qdU 11 rfl fun hb0 => ?_
    rcases cntStep t11_6 r_3.1 m0 hi0 with ⟨hm0, ht0⟩ | ⟨m0', hm0, ht0, hi0', hlt0⟩
    ·
     rw [hm0, qco] at hr
     refine qk (gr [.d] (r_d rfl rfl rfl (qX rfl rfl rfl rfl) (ql (qk (qbg 12 false rfl ht0 (qB rfl (qbC rfl (qan [(7, .own u_4 (out_5.map qE))] (Sub.cons' rfl (Sub.nil _)) (qar [_, _] _ ((pf0 _).trans (pf1 _ _ _)) ?_)))))))))
     exact HK0 _ _ ⟨out_5, r_7, u_4, rfl, rfl, hr⟩
    ·
     rw [hm0, qco] at hr
     refine qk (gr [.d] (r_d rfl rfl rfl (qX rfl rfl rfl rfl) (ql (qk (qdU 10 rfl fun hbN10 => (qbg 12 true rfl ht0 (qC rfl (qab (qk (qbi (gr [.d, .d, .w, .d, .w, .d] ?_)))))))))))
     refine r_d rfl rfl rfl (qe rfl rfl) (r_d rfl rfl rfl (qe rfl rfl) ?_)
     rcases bindXS hr with ⟨c_r_11, hr_11, rfl⟩ | ⟨r_11, hr_11, hr⟩
     ·
      refine qb1 rfl rfl (qg5 _ rfl rfl qhg .nil rfl (by exact (pf0 _)) (qN (qgl fuel _ _ _ hr_11))) (hX _ ⟨_, rfl, rfl⟩)
     ·
      refine r_w rfl rfl rfl (qd9 _ rfl rfl qhg .nil rfl (by exact (pf0 _)) (qO (qgl fuel _ _ _ hr_11))) ?_
      rintro _ _ ⟨_, ⟨rfl, rfl⟩, rfl⟩
      refine r_st ((.cell b_o0 (qc r_11.2)) :: _) rfl (r_d rfl rfl rfl (qg3 (f := qE) [.tmp 15] [r_11.1] rfl qdA rfl rfl (by decide) (by decide) (.oc rfl .nil) qdO (fun _ => rfl)) ?_)
      obtain ⟨l_12, hl_12, hr⟩ := bindS hr
      refine r_w rfl rfl rfl (qdF (f := qE) out_5 [r_11.1] rfl qdA rfl rfl (asl rfl) (pf1 _ _ _) rfl qdO hl_12) ?_
      rintro _ _ ⟨u17_12, rfl, rfl⟩
      refine r_d rfl rfl rfl (qj rfl rfl) (ql (qac (gr [.d, .d] (r_d rfl rfl rfl (s_ar (r := t11_6 + 1) rfl rfl rfl rfl (by omega)) (r_d rfl rfl rfl (qe rfl rfl) (ql (qan [(2, .clo (.func 113) [.ref b_o0 0 []] []), (10, .int .i64 r_3.1), (7, .own u17_12 (l_12.map qE)), (11, .int .i64 (t11_6 + 1))] (Sub.cons' rfl (Sub.cons' rfl (Sub.cons' rfl (Sub.cons' rfl (Sub.nil _))))) (qar [_, _] _ ((pf0 _).trans (pf1 _ _ _)) ?_))))))))
      exact IH0 _ _ _ (by omega) ⟨l_12, (t11_6 + 1), r_11.2, u17_12, _, rfl, rfl, rfl, hi0', hr⟩
noncomputable def qb8 (c_0 : qb) : Option (Int ⊕ (qah × qb)) :=
  (bindX (qq 0 40 c_0) fun r_2 =>
  (bindX (qay 4 2147483648 r_2.2) fun r_3 =>
  (bindX (qay 4 2147483648 r_3.2) fun r_4 =>
  (bindX (qay 12 2147483648 r_4.2) fun r_5 =>
  (bindX (qc1 r_5.2) fun r_6 =>
  (bindX (qay 64 64 r_6.2) fun r_7 =>
  some (.inr ((⟨r_2.1, r_3.1, r_4.1, r_5.1, r_6.1, r_7.1⟩ : qah), r_7.2))))))))
set_option maxHeartbeats 1000000 in
theorem qfF (c_0 : qb) (b_o0 : Nat) (res : Int ⊕ (qah × qb)) (hr : qb8 c_0 = some res) : SpecX Tryz.prog 115 [.ref b_o0 0 []] [.cell b_o0 (qc c_0)] (fun d σ => ∃ r : qah × qb, res = .inr r ∧ d = qR r.1 ∧ σ = [.cell b_o0 (qc r.2)]) (fun d => ∃ c, res = .inl c ∧ d = .ifc 191 (.agg [.int .i64 c])) := by
  unfold qb8 at hr
  refine qbL [(0, .ref b_o0 0 [])] Tryz.func115 rfl rfl fun K hK hX => (qk (gr [.w] (r_w rfl rfl rfl (qau rfl qg1) ?_)))
  rintro _ _ ⟨b2_0, rfl, rfl⟩
  refine ql (qk (gr [.d, .w, .d, .w] (r_d rfl rfl rfl (qe rfl rfl) ?_)))
  rcases bindXS hr with ⟨c_r_2, hr_2, rfl⟩ | ⟨r_2, hr_2, hr⟩
  ·
   refine qb1 rfl rfl (qa0 _ rfl qn (.oc rfl (.oc rfl (.oc rfl .nil))) (by exact (pf1 _ _ _)) (qN (qm _ _ _ _ _ hr_2))) (hX _ ⟨_, rfl, rfl⟩)
  ·
   refine r_w rfl rfl rfl (qF _ rfl qn (.oc rfl (.oc rfl (.oc rfl .nil))) (by exact (pf1 _ _ _)) (qO (qm _ _ _ _ _ hr_2))) ?_
   rintro _ _ ⟨_, ⟨rfl, rfl⟩, rfl⟩
   refine r_st ((.cell b_o0 (qc r_2.2)) :: _) rfl (r_d rfl rfl rfl (qo rfl qg6 rfl) (qaa rfl rfl rfl (qV _ rfl rfl rfl (Wk.refl _) (pf1 _ _ _) rfl rfl (by exact qaF) rfl rfl rfl) (ql (qk (gr [.d, .w, .d, .w] (r_d rfl rfl rfl (qe rfl rfl) ?_))))))
   rcases bindXS hr with ⟨c_r_3, hr_3, rfl⟩ | ⟨r_3, hr_3, hr⟩
   ·
    refine qb1 rfl rfl (qa0 _ rfl qaE (.oc rfl (.oc rfl (.oc rfl .nil))) (by exact (pf1 _ _ _)) (qN (qao _ _ _ _ _ hr_3))) (hX _ ⟨_, rfl, rfl⟩)
   ·
    refine r_w rfl rfl rfl (qF _ rfl qaE (.oc rfl (.oc rfl (.oc rfl .nil))) (by exact (pf1 _ _ _)) (qO (qao _ _ _ _ _ hr_3))) ?_
    rintro _ _ ⟨_, ⟨rfl, rfl⟩, rfl⟩
    refine r_st ((.cell b_o0 (qc r_3.2)) :: _) rfl (r_d rfl rfl rfl (qo rfl qfT rfl) (qaa rfl rfl rfl (qV _ rfl rfl rfl (Wk.refl _) (pf1 _ _ _) rfl rfl (by exact qcR) rfl rfl rfl) (ql (qk (gr [.d, .w, .d, .w] (r_d rfl rfl rfl (qe rfl rfl) ?_))))))
    rcases bindXS hr with ⟨c_r_4, hr_4, rfl⟩ | ⟨r_4, hr_4, hr⟩
    ·
     refine qb1 rfl rfl (qa0 _ rfl qaE (.oc rfl (.oc rfl (.oc rfl .nil))) (by exact (pf1 _ _ _)) (qN (qao _ _ _ _ _ hr_4))) (hX _ ⟨_, rfl, rfl⟩)
    ·
     refine r_w rfl rfl rfl (qF _ rfl qaE (.oc rfl (.oc rfl (.oc rfl .nil))) (by exact (pf1 _ _ _)) (qO (qao _ _ _ _ _ hr_4))) ?_
     rintro _ _ ⟨_, ⟨rfl, rfl⟩, rfl⟩
     refine r_st ((.cell b_o0 (qc r_4.2)) :: _) rfl (r_d rfl rfl rfl (qo rfl qf1 rfl) (qaa rfl rfl rfl (qV _ rfl rfl rfl (Wk.refl _) (pf1 _ _ _) rfl rfl (by exact qcR) rfl rfl rfl) (ql (qk (gr [.d, .w, .d, .w] (r_d rfl rfl rfl (qe rfl rfl) ?_))))))
     rcases bindXS hr with ⟨c_r_5, hr_5, rfl⟩ | ⟨r_5, hr_5, hr⟩
     ·
      refine qb1 rfl rfl (qa0 _ rfl qaE (.oc rfl (.oc rfl (.oc rfl .nil))) (by exact (pf1 _ _ _)) (qN (qao _ _ _ _ _ hr_5))) (hX _ ⟨_, rfl, rfl⟩)
     ·
      refine r_w rfl rfl rfl (qF _ rfl qaE (.oc rfl (.oc rfl (.oc rfl .nil))) (by exact (pf1 _ _ _)) (qO (qao _ _ _ _ _ hr_5))) ?_
      rintro _ _ ⟨_, ⟨rfl, rfl⟩, rfl⟩
      refine r_st ((.cell b_o0 (qc r_5.2)) :: _) rfl (r_d rfl rfl rfl (qo rfl qfW rfl) (qaa rfl rfl rfl (qV _ rfl rfl rfl (Wk.refl _) (pf1 _ _ _) rfl rfl (by exact qcR) rfl rfl rfl) (ql (qk (gr [.d, .w, .d, .w] (r_d rfl rfl rfl (qe rfl rfl) ?_))))))
      rcases bindXS hr with ⟨c_r_6, hr_6, rfl⟩ | ⟨r_6, hr_6, hr⟩
      ·
       refine qb1 rfl rfl (qa0 _ rfl qeu (.oc rfl .nil) (by exact (pf1 _ _ _)) (qN (qd5 _ _ _ hr_6))) (hX _ ⟨_, rfl, rfl⟩)
      ·
       refine r_w rfl rfl rfl (qF _ rfl qeu (.oc rfl .nil) (by exact (pf1 _ _ _)) (qO (qd5 _ _ _ hr_6))) ?_
       rintro _ _ ⟨_, ⟨rfl, rfl⟩, rfl⟩
       refine r_st ((.cell b_o0 (qc r_6.2)) :: _) rfl (r_d rfl rfl rfl (qo rfl qfX rfl) (qaa rfl rfl rfl (qV _ rfl rfl rfl (Wk.refl _) (pf1 _ _ _) rfl rfl (by exact qbm) rfl rfl rfl) (ql (qk (gr [.d, .w, .d, .w] (r_d rfl rfl rfl (qe rfl rfl) ?_))))))
       rcases bindXS hr with ⟨c_r_7, hr_7, rfl⟩ | ⟨r_7, hr_7, hr⟩
       ·
        refine qb1 rfl rfl (qa0 _ rfl qaE (.oc rfl (.oc rfl (.oc rfl .nil))) (by exact (pf1 _ _ _)) (qN (qao _ _ _ _ _ hr_7))) (hX _ ⟨_, rfl, rfl⟩)
       ·
        refine r_w rfl rfl rfl (qF _ rfl qaE (.oc rfl (.oc rfl (.oc rfl .nil))) (by exact (pf1 _ _ _)) (qO (qao _ _ _ _ _ hr_7))) ?_
        rintro _ _ ⟨_, ⟨rfl, rfl⟩, rfl⟩
        refine r_st ((.cell b_o0 (qc r_7.2)) :: _) rfl (r_d rfl rfl rfl (qo rfl qfS rfl) (qaa rfl rfl rfl (qV _ rfl rfl rfl (Wk.refl _) (pf1 _ _ _) rfl rfl (by exact qcR) rfl rfl rfl) (ql (qk (gr [.r, .w] (r_r rfl rfl rfl (qx rfl rfl (.head _) rfl rfl (by exact qdt) rfl) (qaa rfl rfl rfl (qK _ rfl rfl rfl (Wk.refl _) (pf0 _) (by exact qdt) rfl rfl rfl) (ql (qap 2 b2_0 rfl (pf0 _) ?_)))))))))
        obtain rfl := Option.some.inj hr
        refine q9 Tryz.func115 _ (.cons (resPtr rfl (by exact qdt) rfl (Wk.refl _)) .nil) ?_
        exact ⟨_, rfl, rfl, rfl⟩
noncomputable def qcf (k : ((List qah)) → (qb) → Option (Int ⊕ ((List qah) × qb))) : Nat → (List qah) → qb → Option (Int ⊕ ((List qah) × qb))
  | 0, out_5, r_7 =>
  (k out_5 r_7)
  | rest + 1, out_5, r_7 =>
  (bindX (qb8 r_7) fun r_11 =>
  ((appO 112 out_5 [r_11.1]).bind fun l_12 =>
  (qcf k rest l_12 r_11.2)))
noncomputable def qeB (most_a1 : Int) (c_0 : qb) : Option (Int ⊕ ((List qah) × qb)) :=
  (bindX (qq 0 most_a1 c_0) fun r_3 =>
  (qcf (fun out_9 r_10 =>
  some (.inr (out_9, r_10))) (r_3.1 - 0 : Int).toNat [] r_3.2))
set_option maxHeartbeats 1000000 in
theorem qh7 (most_a1 : Int) (c_0 : qb) (b_o0 : Nat) (res : Int ⊕ ((List qah) × qb)) (hr : qeB most_a1 c_0 = some res) : SpecX Tryz.prog 114 [.ref b_o0 0 [], .int .i64 most_a1, .clo (.func 115) [.ref b_o0 0 []] []] [.cell b_o0 (qc c_0)] (fun d σ => ∃ r : (List qah) × qb, res = .inr r ∧ d = .lst (r.1.map qR) ∧ σ = [.cell b_o0 (qc r.2)]) (fun d => ∃ c, res = .inl c ∧ d = .ifc 191 (.agg [.int .i64 c])) := by
  unfold qeB at hr
  refine qbL [(0, .ref b_o0 0 []), (1, .int .i64 most_a1), (2, .clo (.func 115) [.ref b_o0 0 []] [])] Tryz.func114 rfl rfl fun K hK hX => (qk (gr [.w] (r_w rfl rfl rfl (qcs 148 6 (.inl rfl)) ?_)))
  rintro _ _ ⟨u6_0, rfl, rfl⟩
  refine ql (qk (gr [.w] (r_w rfl rfl rfl (qcs 148 6 (.inl rfl)) ?_)))
  rintro _ _ ⟨u7_1, rfl, rfl⟩
  refine ql (qk (qk (gr [.d, .d, .w, .d] (r_d rfl rfl rfl (qe rfl rfl) (r_d rfl rfl rfl (qe rfl rfl) ?_)))))
  rcases bindXS hr with ⟨c_r_3, hr_3, rfl⟩ | ⟨r_3, hr_3, hr⟩
  ·
   refine qb1 rfl rfl (qa0 _ rfl qn (.oc rfl (.oc rfl (.oc rfl .nil))) (by exact (pf2 _ _ _ _)) (qN (qm _ _ _ _ _ hr_3))) (hX _ ⟨_, rfl, rfl⟩)
  ·
   refine r_w rfl rfl rfl (qF _ rfl qn (.oc rfl (.oc rfl (.oc rfl .nil))) (by exact (pf2 _ _ _ _)) (qO (qm _ _ _ _ _ hr_3))) ?_
   rintro _ _ ⟨_, ⟨rfl, rfl⟩, rfl⟩
   refine r_st ((.cell b_o0 (qc r_3.2)) :: _) rfl (r_d rfl rfl rfl (qe rfl rfl) (ql ?_))
   obtain ⟨kk0, hkk0, hr⟩ := exK (fun k => qcf k (r_3.1 - 0 : Int).toNat [] r_3.2) hr
   refine qdU 10 rfl fun hla0 => ?_
   refine qbe (fun env σ => ∃ (out_9 : (List qah)) (r_10 : qb) (u_8 : Value), env = [(7, .own u_8 (out_9.map qR))] ∧ σ = [.row u_8 out_9.length 148 6, .cell b_o0 (qc r_10)] ∧ kk0 out_9 r_10 = some res) ?_ (fun HK0 => ?_)
   ·
    rintro _ _ ⟨out_9, r_10, u_8, rfl, rfl, hr⟩
    rw [hkk0] at hr
    refine qk (gr [.d, .d] (r_d rfl rfl rfl (qe rfl rfl) (r_d rfl rfl rfl (qj rfl rfl) (ql (qar [_] _ (pf1 _ _ _) ?_)))))
    obtain rfl := Option.some.inj hr
    refine q9 Tryz.func114 _ (.cons (resTmp rfl (Wk.own _ _)) .nil) ?_
    exact ⟨_, rfl, rfl, rfl⟩
   ·
    refine qan [(2, .clo (.func 115) [.ref b_o0 0 []] []), (10, .int .i64 r_3.1), (7, .own u7_1 ([].map qR)), (11, .int .i64 0)] (Sub.cons' rfl (Sub.cons' rfl (Sub.cons' rfl (Sub.cons' rfl (Sub.nil _))))) (qar [_, _] _ ((pf1 _ _ _).trans (pf1 _ _ _)) (qdb (fun n env σ => ∃ (out_5 : (List qah)) (t11_6 : Int) (r_7 : qb) (u_4 : Value) (m0 : Nat), (m0 = n) ∧ (env = [(2, .clo (.func 115) [.ref b_o0 0 []] []), (10, .int .i64 r_3.1), (7, .own u_4 (out_5.map qR)), (11, .int .i64 t11_6)]) ∧ (σ = [.cell b_o0 (qc r_7), .row u_4 out_5.length 148 6]) ∧ (m0 = (r_3.1 - t11_6 : Int).toNat) ∧ (qcf kk0 m0 out_5 r_7 = some res)) _ ⟨[], 0, r_3.2, u7_1, _, rfl, rfl, rfl, rfl, hr⟩ ?_))
    rintro n _ _ ⟨out_5, t11_6, r_7, u_4, m0, rfl, rfl, rfl, hi0, hr⟩ IH0
    refine qdU 11 rfl fun hb0 => ?_
    rcases cntStep t11_6 r_3.1 m0 hi0 with ⟨hm0, ht0⟩ | ⟨m0', hm0, ht0, hi0', hlt0⟩
    ·
     rw [hm0, qcf] at hr
     refine qk (gr [.d] (r_d rfl rfl rfl (qX rfl rfl rfl rfl) (ql (qk (qbg 12 false rfl ht0 (qB rfl (qbC rfl (qan [(7, .own u_4 (out_5.map qR))] (Sub.cons' rfl (Sub.nil _)) (qar [_, _] _ ((pf0 _).trans (pf1 _ _ _)) ?_)))))))))
     exact HK0 _ _ ⟨out_5, r_7, u_4, rfl, rfl, hr⟩
    ·
     rw [hm0, qcf] at hr
     refine qk (gr [.d] (r_d rfl rfl rfl (qX rfl rfl rfl rfl) (ql (qk (qdU 10 rfl fun hbN10 => (qbg 12 true rfl ht0 (qC rfl (qab (qk (qbi (gr [.d, .d, .w, .d, .w, .d] ?_)))))))))))
     refine r_d rfl rfl rfl (qe rfl rfl) (r_d rfl rfl rfl (qe rfl rfl) ?_)
     rcases bindXS hr with ⟨c_r_11, hr_11, rfl⟩ | ⟨r_11, hr_11, hr⟩
     ·
      refine qb1 rfl rfl (qg5 _ rfl rfl qgy .nil rfl (by exact (pf0 _)) (qN (qfF _ _ _ hr_11))) (hX _ ⟨_, rfl, rfl⟩)
     ·
      refine r_w rfl rfl rfl (qd9 _ rfl rfl qgy .nil rfl (by exact (pf0 _)) (qO (qfF _ _ _ hr_11))) ?_
      rintro _ _ ⟨_, ⟨rfl, rfl⟩, rfl⟩
      refine r_st ((.cell b_o0 (qc r_11.2)) :: _) rfl (r_d rfl rfl rfl (qg3 (f := qR) [.tmp 15] [r_11.1] rfl qcb rfl rfl (by decide) (by decide) (.oc rfl .nil) qbV (fun _ => rfl)) ?_)
      obtain ⟨l_12, hl_12, hr⟩ := bindS hr
      refine r_w rfl rfl rfl (qdF (f := qR) out_5 [r_11.1] rfl qcb rfl rfl (asl rfl) (pf1 _ _ _) rfl qbV hl_12) ?_
      rintro _ _ ⟨u17_12, rfl, rfl⟩
      refine r_d rfl rfl rfl (qj rfl rfl) (ql (qac (gr [.d, .d] (r_d rfl rfl rfl (s_ar (r := t11_6 + 1) rfl rfl rfl rfl (by omega)) (r_d rfl rfl rfl (qe rfl rfl) (ql (qan [(2, .clo (.func 115) [.ref b_o0 0 []] []), (10, .int .i64 r_3.1), (7, .own u17_12 (l_12.map qR)), (11, .int .i64 (t11_6 + 1))] (Sub.cons' rfl (Sub.cons' rfl (Sub.cons' rfl (Sub.cons' rfl (Sub.nil _))))) (qar [_, _] _ ((pf0 _).trans (pf1 _ _ _)) ?_))))))))
      exact IH0 _ _ _ (by omega) ⟨l_12, (t11_6 + 1), r_11.2, u17_12, _, rfl, rfl, rfl, hi0', hr⟩
noncomputable def qcU (fuel : Nat) (c_0 : qb) : Option (Int ⊕ (qas × qb)) :=
  (bindX (qd7 fuel 5000 c_0) fun r_2 =>
  (bindX (qd7 fuel 5000 r_2.2) fun r_3 =>
  (bindX (qeB 5000 r_3.2) fun r_4 =>
  (bindX (qq 0 2147483648 r_4.2) fun r_5 =>
  (bindX (qq 0 64 r_5.2) fun r_6 =>
  some (.inr ((⟨r_2.1, r_3.1, r_4.1, r_5.1, r_6.1⟩ : qas), r_6.2)))))))
end Go.Proofs.YtdoljfkjdfaakaaGreat
