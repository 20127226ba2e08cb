/-
  Texts of the seat, merged.
-/
import Derived.Test.YtdoljfkjdfaakaaGreatLSA
import Derived.Test.YtdoljfkjdfaakaaGreatLSB
import Derived.Test.YtdoljfkjdfaakaaGreatLSC
import Derived.Test.YtdoljfkjdfaakaaGreatLSD
import Derived.Test.YtdoljfkjdfaakaaGreatChecked
import Derived.WalkKit
import Derived.Lib.Hide
import Derived.Lib.AppendStr
import Derived.Deep.AppendLies
import Derived.Deep.AppendSrc
import Derived.Deep.Draws
import Derived.Deep.QuietTactic
import Derived.BigQuiet
import Derived.Deep.RegionWith
import Derived.Maps.AppendAt
import Derived.WalkSpells
import Derived.Orders
import Derived.Deep.Slices
import Derived.Deep.Fields
import Derived.ChangeArms
import Derived.Lib.OthersKept
import Derived.Lib.TrimU
import Derived.Lib.IndexAny
import Derived.Deep.LoopGhost
import Derived.Lib.Bytealg
import Derived.RangeFuncBox
import Derived.RangeFuncNested
import Derived.RangeFuncBound
import Derived.RangeFuncCalls
import Derived.RangeFuncLeaves
import Derived.Shelf.Abstract
import Derived.OwnWalkIn
import Derived.TacticsInMore
import Derived.LoopNIn
import Derived.LoopIn
import Derived.RangeFuncWrites
import Derived.Maps.OwnIn
import Derived.Maps.Views
import Derived.Laws.OwnMore
import Derived.Maps.OwnSet
import Derived.Laws.IdiomStrings
import Derived.Test.YtdoljfkjdfaakaaGreatRows
import Derived.ProofKit
import Derived.OpenShut
import Derived.Carry
import Derived.OrdersIn
import Derived.Great.BuildSlice
import Derived.ArgAppend
import Derived.Laws.MakeOwn
import Derived.Laws.Cover3
import Derived.Laws.CopyRow
import Derived.MapKept
import Derived.Maps.RangeRun
import Derived.DeepKeys5
import Derived.WideKeyRuns
import Derived.RangeFuncOwn
import Derived.Defers
import Derived.Recover
import Derived.Tactics
import Derived.Tactics2
set_option linter.unusedVariables false
set_option linter.unusedSimpArgs false
set_option linter.unnecessarySimpa false
set_option linter.all false
namespace Go.Proofs.YtdoljfkjdfaakaaGreat
set_option maxRecDepth 100000
open Go.RowKit
structure qd where
  f0_b : (List Int)
  f1_at : Int
def qi (x : qd) : D := .agg [.lst (x.f0_b.map (D.int .u8)), .int .i64 x.f1_at]
noncomputable def qdy (next_a1 : Int) (e_a2 : Int) (c_0 : qd) : Option (Int ⊕ (qd)) :=
  (bif (e_a2 != (0 : Int)) then
  some (.inl e_a2)
  else
  some (.inr ((⟨c_0.f0_b, next_a1⟩ : qd))))
set_option maxHeartbeats 1000000 in
theorem qcT (next_a1 : Int) (e_a2 : Int) (c_0 : qd) (b_o0 : Nat) (res : Int ⊕ (qd)) (hr : qdy next_a1 e_a2 c_0 = some res) : SpecX Tryz.prog 141 [.ref b_o0 0 [], .int .i64 next_a1, .int .i64 e_a2] [.cell b_o0 (qi c_0)] (fun d σ => ∃ r : qd, res = .inr r ∧ d = .tup [] ∧ σ = [.cell b_o0 (qi r)]) (fun d => ∃ c, res = .inl c ∧ d = .ifc 191 (.agg [.int .i64 c])) := by
  unfold qdy at hr
  refine qcG [(0, .ref b_o0 0 []), (1, .int .i64 next_a1), (2, .int .i64 e_a2)] Tryz.func141 rfl rfl fun K hK hX => (qh (qh (gr [.d, .d] (r_d rfl rfl rfl (qb rfl rfl) (r_d rfl rfl rfl (qB rfl rfl rfl rfl) (qj ?_))))))
  refine g_sB 7 rfl hr (fun h7_0 hr => ?_) (fun h7_0 hr => ?_)
  ·
   refine qo rfl (gr [.d, .d, .d, .w] (r_d rfl rfl rfl (qb rfl rfl) (r_d rfl rfl rfl (qeB rfl qee (.oc rfl .nil) (.cons rfl rfl rfl (.nil _))) (r_d rfl rfl rfl (qkm rfl Tryz.underlying191 rfl) ?_))))
   obtain rfl := Option.some.inj hr
   refine qdq rfl rfl (qr8 rfl rfl) (hX _ ⟨_, rfl, rfl⟩)
  ·
   refine qs rfl (qE (gr [.d, .d, .d, .d, .w] (r_d rfl rfl rfl (qb rfl rfl) (r_d rfl rfl rfl (qb rfl rfl) (r_d rfl rfl rfl (qQ rfl rfl) (r_d rfl rfl rfl (qL rfl qeM rfl) (qbE rfl rfl rfl (qcu _ rfl rfl rfl (Wk.refl _) (pf0 _) rfl rfl (by exact qW) rfl rfl rfl) (qj ?_))))))))
   obtain rfl := Option.some.inj hr
   refine qfN Tryz.func141 _ .nil ?_
   exact ⟨_, rfl, rfl, rfl⟩
noncomputable def qA (low_a1 : Int) (high_a2 : Int) (c_0 : qd) : Option (Int ⊕ (Int × qd)) :=
  ((quF c_0.f0_b c_0.f1_at low_a1 high_a2).bind fun r_1 =>
  (bindX (qdy r_1.2.1 r_1.2.2 c_0) fun r_2 =>
  some (.inr (r_1.1, r_2))))
set_option maxHeartbeats 1000000 in
theorem ql (low_a1 : Int) (high_a2 : Int) (c_0 : qd) (b_o0 : Nat) (res : Int ⊕ (Int × qd)) (hr : qA low_a1 high_a2 c_0 = some res) : SpecX Tryz.prog 51 [.ref b_o0 0 [], .int .i64 low_a1, .int .i64 high_a2] [.cell b_o0 (qi c_0)] (fun d σ => ∃ r : Int × qd, res = .inr r ∧ d = .int .i64 r.1 ∧ σ = [.cell b_o0 (qi r.2)]) (fun d => ∃ c, res = .inl c ∧ d = .ifc 191 (.agg [.int .i64 c])) := by
  unfold qA at hr
  refine qcG [(0, .ref b_o0 0 []), (1, .int .i64 low_a1), (2, .int .i64 high_a2)] Tryz.func51 rfl rfl fun K hK hX => (qh (gr [.d] (r_d rfl rfl rfl (qe rfl rfl) (qj (qh (qtb (by kernel_rfl) (by kernel_rfl) [(0, .d), (1, .d), (2, .d), (3, .r), (4, .d), (5, .d), (6, .d), (7, .r), (8, .d), (9, .d), (10, .d), (11, .d), (12, .d), (13, .d), (14, .d), (15, .d), (16, .d), (17, .d)] (by kernel_rfl) (r_d rfl rfl rfl (qb rfl rfl) (r_d rfl rfl rfl (qQ rfl rfl) (r_d rfl rfl rfl (qL rfl qhp rfl) (r_r rfl rfl rfl (qap rfl rfl (.head _) rfl rfl (by exact qdR) rfl) (r_d rfl rfl rfl (qb rfl rfl) ?_)))))))))))
  refine r_d rfl rfl rfl (qQ rfl rfl) (r_d rfl rfl rfl (qL rfl qeM rfl) (r_r rfl rfl rfl (qap rfl rfl (.head _) rfl rfl (by exact qW) rfl) (r_d rfl rfl rfl (qb rfl rfl) (r_d rfl rfl rfl (qb rfl rfl) ?_))))
  obtain ⟨r_1, hr_1, hr⟩ := bindS hr
  refine r_d rfl rfl rfl (qK rfl qpk (.oc rfl (.oc rfl (.oc rfl (.oc rfl .nil)))) (qpI _ _ _ _ _ hr_1)) (r_d rfl rfl rfl (qb rfl rfl) (r_d rfl rfl rfl (qaH rfl rfl rfl) (r_d rfl rfl rfl (qaH rfl rfl rfl) (r_d rfl rfl rfl (qaH rfl rfl rfl) (r_d rfl rfl rfl (qe rfl rfl) (r_d rfl rfl rfl (qe rfl rfl) (r_d rfl rfl rfl (qe rfl rfl) (qj (qh (gr [.d, .d, .d, .w] (r_d rfl rfl rfl (qb rfl rfl) ?_)))))))))))
  refine r_d rfl rfl rfl (qb rfl rfl) (r_d rfl rfl rfl (qb rfl rfl) ?_)
  rcases bindXS hr with ⟨c_r_2, hr_2, rfl⟩ | ⟨r_2, hr_2, hr⟩
  ·
   refine qdq rfl rfl (qb5 _ rfl qdu (.oc rfl (.oc rfl (.oc rfl .nil))) (by exact (pf0 _)) (q9 (qcT _ _ _ _ _ hr_2))) (hX _ ⟨_, rfl, rfl⟩)
  ·
   refine r_w rfl rfl rfl (qac _ rfl qdu (.oc rfl (.oc rfl (.oc rfl .nil))) (by exact (pf0 _)) (qaa (qcT _ _ _ _ _ hr_2))) ?_
   rintro _ _ ⟨_, ⟨rfl, rfl⟩, rfl⟩
   refine r_st ((.cell b_o0 (qi r_2)) :: _) rfl (qj (qh (gr [.d, .d] (r_d rfl rfl rfl (qb rfl rfl) (r_d rfl rfl rfl (qe rfl rfl) (qj ?_))))))
   obtain rfl := Option.some.inj hr
   refine qJ Tryz.func51 _ (.cons (resTmp rfl (Wk.refl _)) .nil) ?_
   exact ⟨_, rfl, rfl, rfl⟩
noncomputable def qcl (c_0 : qd) : Option (Int ⊕ (ByteArray × qd)) :=
  ((qs9 c_0.f0_b c_0.f1_at 40).bind fun r_1 =>
  (bindX (qdy r_1.2.1 r_1.2.2 c_0) fun r_2 =>
  some (.inr (r_1.1, r_2))))
set_option maxHeartbeats 1000000 in
theorem qaY (c_0 : qd) (b_o0 : Nat) (res : Int ⊕ (ByteArray × qd)) (hr : qcl c_0 = some res) : SpecX Tryz.prog 50 [.ref b_o0 0 []] [.cell b_o0 (qi c_0)] (fun d σ => ∃ r : ByteArray × qd, res = .inr r ∧ d = .str r.1 ∧ σ = [.cell b_o0 (qi r.2)]) (fun d => ∃ c, res = .inl c ∧ d = .ifc 191 (.agg [.int .i64 c])) := by
  unfold qcl at hr
  refine qcG [(0, .ref b_o0 0 [])] Tryz.func50 rfl rfl fun K hK hX => (qh (gr [.d] (r_d rfl rfl rfl (qe rfl rfl) (qj (qh (qtb (by kernel_rfl) (by kernel_rfl) [(0, .d), (1, .d), (2, .d), (3, .r), (4, .d), (5, .d), (6, .d), (7, .r), (8, .d), (9, .d), (10, .d), (11, .d), (12, .d), (13, .d), (14, .d), (15, .d)] (by kernel_rfl) (r_d rfl rfl rfl (qb rfl rfl) (r_d rfl rfl rfl (qQ rfl rfl) (r_d rfl rfl rfl (qL rfl qhp rfl) (r_r rfl rfl rfl (qap rfl rfl (.head _) rfl rfl (by exact qdR) rfl) (r_d rfl rfl rfl (qb rfl rfl) ?_)))))))))))
  refine r_d rfl rfl rfl (qQ rfl rfl) (r_d rfl rfl rfl (qL rfl qeM rfl) (r_r rfl rfl rfl (qap rfl rfl (.head _) rfl rfl (by exact qW) rfl) ?_))
  obtain ⟨r_1, hr_1, hr⟩ := bindS hr
  refine r_d rfl rfl rfl (qK rfl qo6 (.oc rfl (.oc rfl (.oc rfl .nil))) (qoC _ _ _ _ hr_1)) (r_d rfl rfl rfl (qb rfl rfl) (r_d rfl rfl rfl (qaH rfl rfl rfl) (r_d rfl rfl rfl (qaH rfl rfl rfl) (r_d rfl rfl rfl (qaH rfl rfl rfl) (r_d rfl rfl rfl (qe rfl rfl) (r_d rfl rfl rfl (qe rfl rfl) (r_d rfl rfl rfl (qe rfl rfl) (qj (qh (gr [.d, .d, .d, .w] (r_d rfl rfl rfl (qb rfl rfl) ?_)))))))))))
  refine r_d rfl rfl rfl (qb rfl rfl) (r_d rfl rfl rfl (qb rfl rfl) ?_)
  rcases bindXS hr with ⟨c_r_2, hr_2, rfl⟩ | ⟨r_2, hr_2, hr⟩
  ·
   refine qdq rfl rfl (qb5 _ rfl qdu (.oc rfl (.oc rfl (.oc rfl .nil))) (by exact (pf0 _)) (q9 (qcT _ _ _ _ _ hr_2))) (hX _ ⟨_, rfl, rfl⟩)
  ·
   refine r_w rfl rfl rfl (qac _ rfl qdu (.oc rfl (.oc rfl (.oc rfl .nil))) (by exact (pf0 _)) (qaa (qcT _ _ _ _ _ hr_2))) ?_
   rintro _ _ ⟨_, ⟨rfl, rfl⟩, rfl⟩
   refine r_st ((.cell b_o0 (qi r_2)) :: _) rfl (qj (qh (gr [.d, .d] (r_d rfl rfl rfl (qb rfl rfl) (r_d rfl rfl rfl (qe rfl rfl) (qj ?_))))))
   obtain rfl := Option.some.inj hr
   refine qJ Tryz.func50 _ (.cons (resTmp rfl (Wk.refl _)) .nil) ?_
   exact ⟨_, rfl, rfl, rfl⟩
noncomputable def qe5 (c_0 : qd) : Option (Int ⊕ (S_api_Decl × qd)) :=
  (bindX (qcl c_0) fun r_2 =>
  (bindX (qA 0 6 r_2.2) fun r_3 =>
  some (.inr ((⟨r_2.1, r_3.1⟩ : S_api_Decl), r_3.2))))
set_option maxHeartbeats 1000000 in
theorem qgb (c_0 : qd) (b_o0 : Nat) (res : Int ⊕ (S_api_Decl × qd)) (hr : qe5 c_0 = some res) : SpecX Tryz.prog 49 [.ptr (.ref b_o0 0 [])] [.cell b_o0 (qi c_0)] (fun d σ => ∃ r : S_api_Decl × qd, res = .inr r ∧ d = qt r.1 ∧ σ = [.cell b_o0 (qi r.2)]) (fun d => ∃ c, res = .inl c ∧ d = .ifc 191 (.agg [.int .i64 c])) := by
  unfold qe5 at hr
  refine qcG [(0, .ptr (.ref b_o0 0 []))] Tryz.func49 rfl rfl fun K hK hX => (qh (gr [.w] (r_w rfl rfl rfl (qa8 rfl ql3) ?_)))
  rintro _ _ ⟨b1_0, rfl, rfl⟩
  refine qj (qh (gr [.d, .w, .d] (r_d rfl rfl rfl (qk rfl rfl (by exact qad) rfl) ?_)))
  rcases bindXS hr with ⟨c_r_2, hr_2, rfl⟩ | ⟨r_2, hr_2, hr⟩
  ·
   refine qdq rfl rfl (qb5 _ rfl qbG (.oc rfl .nil) (by exact (pf1 _ _ _)) (q9 (qaY _ _ _ hr_2))) (hX _ ⟨_, rfl, rfl⟩)
  ·
   refine r_w rfl rfl rfl (qac _ rfl qbG (.oc rfl .nil) (by exact (pf1 _ _ _)) (qaa (qaY _ _ _ hr_2))) ?_
   rintro _ _ ⟨_, ⟨rfl, rfl⟩, rfl⟩
   refine r_st ((.cell b_o0 (qi r_2.2)) :: _) rfl (r_d rfl rfl rfl (qe rfl rfl) (qj (qh (gr [.d, .d, .w, .d, .w] (r_d rfl rfl rfl (qb rfl rfl) (r_d rfl rfl rfl (qk rfl rfl (by exact qad) rfl) ?_))))))
   rcases bindXS hr with ⟨c_r_3, hr_3, rfl⟩ | ⟨r_3, hr_3, hr⟩
   ·
    refine qdq rfl rfl (qb5 _ rfl qp (.oc rfl (.oc rfl (.oc rfl .nil))) (by exact (pf0 _)) (q9 (ql _ _ _ _ _ hr_3))) (hX _ ⟨_, rfl, rfl⟩)
   ·
    refine r_w rfl rfl rfl (qac _ rfl qp (.oc rfl (.oc rfl (.oc rfl .nil))) (by exact (pf0 _)) (qaa (ql _ _ _ _ _ hr_3))) ?_
    rintro _ _ ⟨_, ⟨rfl, rfl⟩, rfl⟩
    refine r_st ((.cell b_o0 (qi r_3.2)) :: _) rfl (r_d rfl rfl rfl (qeB rfl ql4 (.oc rfl (.oc rfl .nil)) (.cons rfl rfl rfl (.cons rfl rfl rfl (.nil _)))) (qbE rfl rfl rfl (qag _ rfl rfl rfl (Wk.refl _) (pf1 _ _ _) (by exact qhP) rfl rfl rfl) (qj (qaT 1 b1_0 rfl (pf0 _) ?_))))
    obtain rfl := Option.some.inj hr
    refine qJ Tryz.func49 _ (.cons (resPtr rfl (by exact qhP) rfl (Wk.refl _)) .nil) ?_
    exact ⟨_, rfl, rfl, rfl⟩
noncomputable def qdZ (k : ((List S_api_Decl)) → (qd) → Option (Int ⊕ ((List S_api_Decl) × qd))) : Nat → (List S_api_Decl) → qd → Option (Int ⊕ ((List S_api_Decl) × qd))
  | 0, out_5, r_7 =>
  (k out_5 r_7)
  | rest + 1, out_5, r_7 =>
  (bindX (qe5 r_7) fun r_11 =>
  ((appO 24 out_5 [r_11.1]).bind fun l_12 =>
  (qdZ k rest l_12 r_11.2)))
noncomputable def qhQ (most_a1 : Int) (c_0 : qd) : Option (Int ⊕ ((List S_api_Decl) × qd)) :=
  (bindX (qA 0 most_a1 c_0) fun r_3 =>
  (qdZ (fun out_9 r_10 =>
  some (.inr (out_9, r_10))) (r_3.1 - 0 : Int).toNat [] r_3.2))
set_option maxHeartbeats 1000000 in
theorem qjn (most_a1 : Int) (c_0 : qd) (b_o0 : Nat) (res : Int ⊕ ((List S_api_Decl) × qd)) (hr : qhQ most_a1 c_0 = some res) : SpecX Tryz.prog 48 [.ref b_o0 0 [], .int .i64 most_a1, .clo (.func 49) [] [.ptr (.ref b_o0 0 [])]] [.cell b_o0 (qi c_0)] (fun d σ => ∃ r : (List S_api_Decl) × qd, res = .inr r ∧ d = .lst (r.1.map qt) ∧ σ = [.cell b_o0 (qi r.2)]) (fun d => ∃ c, res = .inl c ∧ d = .ifc 191 (.agg [.int .i64 c])) := by
  unfold qhQ at hr
  refine qcG [(0, .ref b_o0 0 []), (1, .int .i64 most_a1), (2, .clo (.func 49) [] [.ptr (.ref b_o0 0 [])])] Tryz.func48 rfl rfl fun K hK hX => (qh (gr [.w] (r_w rfl rfl rfl (qcw 29 2 (.inl rfl)) ?_)))
  rintro _ _ ⟨u6_0, rfl, rfl⟩
  refine qj (qh (gr [.w] (r_w rfl rfl rfl (qcw 29 2 (.inl rfl)) ?_)))
  rintro _ _ ⟨u7_1, rfl, rfl⟩
  refine qj (qh (qh (gr [.d, .d, .w, .d] (r_d rfl rfl rfl (qb rfl rfl) (r_d rfl rfl rfl (qb rfl rfl) ?_)))))
  rcases bindXS hr with ⟨c_r_3, hr_3, rfl⟩ | ⟨r_3, hr_3, hr⟩
  ·
   refine qdq rfl rfl (qb5 _ rfl qp (.oc rfl (.oc rfl (.oc rfl .nil))) (by exact (pf2 _ _ _ _)) (q9 (ql _ _ _ _ _ hr_3))) (hX _ ⟨_, rfl, rfl⟩)
  ·
   refine r_w rfl rfl rfl (qac _ rfl qp (.oc rfl (.oc rfl (.oc rfl .nil))) (by exact (pf2 _ _ _ _)) (qaa (ql _ _ _ _ _ hr_3))) ?_
   rintro _ _ ⟨_, ⟨rfl, rfl⟩, rfl⟩
   refine r_st ((.cell b_o0 (qi r_3.2)) :: _) rfl (r_d rfl rfl rfl (qb rfl rfl) (qj ?_))
   obtain ⟨kk0, hkk0, hr⟩ := exK (fun k => qdZ k (r_3.1 - 0 : Int).toNat [] r_3.2) hr
   refine qhJ 10 rfl fun hla0 => ?_
   refine qV (fun env σ => ∃ (out_9 : (List S_api_Decl)) (r_10 : qd) (u_8 : Value), env = [(7, .own u_8 (out_9.map qt))] ∧ σ = [.row u_8 out_9.length 29 2, .cell b_o0 (qi r_10)] ∧ kk0 out_9 r_10 = some res) ?_ (fun HK0 => ?_)
   ·
    rintro _ _ ⟨out_9, r_10, u_8, rfl, rfl, hr⟩
    rw [hkk0] at hr
    refine qh (gr [.d, .d] (r_d rfl rfl rfl (qb rfl rfl) (r_d rfl rfl rfl (qe rfl rfl) (qj (qc6 [_] _ (pf1 _ _ _) ?_)))))
    obtain rfl := Option.some.inj hr
    refine qJ Tryz.func48 _ (.cons (resTmp rfl (Wk.own _ _)) .nil) ?_
    exact ⟨_, rfl, rfl, rfl⟩
   ·
    refine qM [(2, .clo (.func 49) [] [.ptr (.ref b_o0 0 [])]), (10, .int .i64 r_3.1), (7, .own u7_1 ([].map qt)), (11, .int .i64 0)] (Sub.cons' rfl (Sub.cons' rfl (Sub.cons' rfl (Sub.cons' rfl (Sub.nil _))))) (qc6 [_, _] _ ((pf1 _ _ _).trans (pf1 _ _ _)) (qaM (fun n env σ => ∃ (out_5 : (List S_api_Decl)) (t11_6 : Int) (r_7 : qd) (u_4 : Value) (m0 : Nat), (m0 = n) ∧ (env = [(2, .clo (.func 49) [] [.ptr (.ref b_o0 0 [])]), (10, .int .i64 r_3.1), (7, .own u_4 (out_5.map qt)), (11, .int .i64 t11_6)]) ∧ (σ = [.cell b_o0 (qi r_7), .row u_4 out_5.length 29 2]) ∧ (m0 = (r_3.1 - t11_6 : Int).toNat) ∧ (qdZ kk0 m0 out_5 r_7 = some res)) _ ⟨[], 0, r_3.2, u7_1, _, rfl, rfl, rfl, rfl, hr⟩ ?_))
    rintro n _ _ ⟨out_5, t11_6, r_7, u_4, m0, rfl, rfl, rfl, hi0, hr⟩ IH0
    refine qhJ 11 rfl fun hb0 => ?_
    rcases cntStep t11_6 r_3.1 m0 hi0 with ⟨hm0, ht0⟩ | ⟨m0', hm0, ht0, hi0', hlt0⟩
    ·
     rw [hm0, qdZ] at hr
     refine qh (gr [.d] (r_d rfl rfl rfl (qB rfl rfl rfl rfl) (qj (qh (qC 12 false rfl ht0 (qs rfl (qaw rfl (qM [(7, .own u_4 (out_5.map qt))] (Sub.cons' rfl (Sub.nil _)) (qc6 [_, _] _ ((pf0 _).trans (pf1 _ _ _)) ?_)))))))))
     exact HK0 _ _ ⟨out_5, r_7, u_4, rfl, rfl, hr⟩
    ·
     rw [hm0, qdZ] at hr
     refine qh (gr [.d] (r_d rfl rfl rfl (qB rfl rfl rfl rfl) (qj (qh (qhJ 10 rfl fun hbN10 => (qC 12 true rfl ht0 (qo rfl (qE (qh (q0 (gr [.d, .d, .w, .d, .w, .d] ?_)))))))))))
     refine r_d rfl rfl rfl (qb rfl rfl) (r_d rfl rfl rfl (qb rfl rfl) ?_)
     rcases bindXS hr with ⟨c_r_11, hr_11, rfl⟩ | ⟨r_11, hr_11, hr⟩
     ·
      refine qdq rfl rfl (qiF _ rfl rfl qgT .nil rfl (by exact (pf0 _)) (q9 (qgb _ _ _ hr_11))) (hX _ ⟨_, rfl, rfl⟩)
     ·
      refine r_w rfl rfl rfl (qfj _ rfl rfl qgT .nil rfl (by exact (pf0 _)) (qaa (qgb _ _ _ hr_11))) ?_
      rintro _ _ ⟨_, ⟨rfl, rfl⟩, rfl⟩
      refine r_st ((.cell b_o0 (qi r_11.2)) :: _) rfl (r_d rfl rfl rfl (qiL (f := qt) [.tmp 15] [r_11.1] rfl qbU rfl rfl (by decide) (by decide) (.oc rfl .nil) qdf (fun _ => rfl)) ?_)
      obtain ⟨l_12, hl_12, hr⟩ := bindS hr
      refine r_w rfl rfl rfl (qcK (f := qt) out_5 [r_11.1] rfl qbU rfl rfl (asl rfl) (pf1 _ _ _) rfl qdf hl_12) ?_
      rintro _ _ ⟨u17_12, rfl, rfl⟩
      refine r_d rfl rfl rfl (qe rfl rfl) (qj (qF (gr [.d, .d] (r_d rfl rfl rfl (s_ar (r := t11_6 + 1) rfl rfl rfl rfl (by omega)) (r_d rfl rfl rfl (qb rfl rfl) (qj (qM [(2, .clo (.func 49) [] [.ptr (.ref b_o0 0 [])]), (10, .int .i64 r_3.1), (7, .own u17_12 (l_12.map qt)), (11, .int .i64 (t11_6 + 1))] (Sub.cons' rfl (Sub.cons' rfl (Sub.cons' rfl (Sub.cons' rfl (Sub.nil _))))) (qc6 [_, _] _ ((pf0 _).trans (pf1 _ _ _)) ?_))))))))
      exact IH0 _ _ _ (by omega) ⟨l_12, (t11_6 + 1), r_11.2, u17_12, _, rfl, rfl, rfl, hi0', hr⟩
noncomputable def qeu (rec : Int → qd → Option (Int ⊕ ((List T) × qd))) (depth_a1 : Int) (c_0 : qd) : Option (Int ⊕ (T × qd)) :=
  (bif (decide (depth_a1 > (19 : Int))) then
  some (.inl 6)
  else
  (bindX (qA 0 2 c_0) fun r_3 =>
  (bif (r_3.1 == (0 : Int)) then
  (bindX (qA (-2147483648) 2147483648 r_3.2) fun r_6 =>
  some (.inr ((T.mk r_3.1 r_6.1 ⟨#[]⟩ []), r_6.2)))
  else
  (bif (r_3.1 == (1 : Int)) then
  (bindX (qA 0 1048576 r_3.2) fun r_8 =>
  some (.inr ((T.mk r_3.1 r_8.1 ⟨#[]⟩ []), r_8.2)))
  else
  (bindX (qcl r_3.2) fun r_9 =>
  (bindX (rec (wr (depth_a1 + (1 : Int))) r_9.2) fun r_10 =>
  some (.inr ((T.mk r_3.1 0 r_9.1 r_10.1), r_10.2))))))))
set_option maxHeartbeats 1000000 in
theorem qfq (rec : Int → qd → Option (Int ⊕ ((List T) × qd))) (IHR : ∀ (depth_a1 : Int) (c_0 : qd) (b_o0 : Nat) (res : Int ⊕ ((List T) × qd)), rec depth_a1 c_0 = some res → SpecX Tryz.prog 161 [.ref b_o0 0 [], .int .i64 depth_a1] [.cell b_o0 (qi c_0)] (fun d σ => ∃ r : (List T) × qd, res = .inr r ∧ d = .lst (r.1.map encT) ∧ σ = [.cell b_o0 (qi r.2)]) (fun d => ∃ c, res = .inl c ∧ d = .ifc 191 (.agg [.int .i64 c]))) (depth_a1 : Int) (c_0 : qd) (b_o0 : Nat) (res : Int ⊕ (T × qd)) (hr : qeu rec depth_a1 c_0 = some res) : SpecX Tryz.prog 84 [.ref b_o0 0 [], .int .i64 depth_a1] [.cell b_o0 (qi c_0)] (fun d σ => ∃ r : T × qd, res = .inr r ∧ d = encT r.1 ∧ σ = [.cell b_o0 (qi r.2)]) (fun d => ∃ c, res = .inl c ∧ d = .ifc 191 (.agg [.int .i64 c])) := by
  unfold qeu at hr
  refine qcG [(0, .ref b_o0 0 []), (1, .int .i64 depth_a1)] Tryz.func84 rfl rfl fun K hK hX => (qh (gr [.w] (r_w rfl rfl rfl (qa8 rfl qhO) ?_)))
  rintro _ _ ⟨b4_0, rfl, rfl⟩
  refine qj (qh (qh (gr [.d, .d] (r_d rfl rfl rfl (qb rfl rfl) (r_d rfl rfl rfl (qB rfl rfl rfl rfl) (qj ?_))))))
  refine g_sB 7 rfl hr (fun h7_1 hr => ?_) (fun h7_1 hr => ?_)
  ·
   refine qo rfl (gr [.d, .d, .w] (r_d rfl rfl rfl (qeB rfl qee (.oc rfl .nil) (.cons rfl rfl rfl (.nil _))) (r_d rfl rfl rfl (qkm rfl Tryz.underlying191 rfl) ?_)))
   obtain rfl := Option.some.inj hr
   refine qdq rfl rfl (qr8 rfl rfl) (hX _ ⟨_, rfl, rfl⟩)
  ·
   refine qs rfl (qE (qh (gr [.d, .w, .d, .w, .w] (r_d rfl rfl rfl (qb rfl rfl) ?_))))
   rcases bindXS hr with ⟨c_r_3, hr_3, rfl⟩ | ⟨r_3, hr_3, hr⟩
   ·
    refine qdq rfl rfl (qb5 _ rfl qp (.oc rfl (.oc rfl (.oc rfl .nil))) (by exact (pf1 _ _ _)) (q9 (ql _ _ _ _ _ hr_3))) (hX _ ⟨_, rfl, rfl⟩)
   ·
    refine r_w rfl rfl rfl (qac _ rfl qp (.oc rfl (.oc rfl (.oc rfl .nil))) (by exact (pf1 _ _ _)) (qaa (ql _ _ _ _ _ hr_3))) ?_
    rintro _ _ ⟨_, ⟨rfl, rfl⟩, rfl⟩
    refine r_st ((.cell b_o0 (qi r_3.2)) :: _) rfl (r_d rfl rfl rfl (qeB rfl ql7 (.oc rfl .nil) (.cons rfl rfl rfl (.nil _))) (r_w rfl rfl rfl (qa8 rfl qhO) ?_))
    rintro _ _ ⟨b5_3, rfl, rfl⟩
    refine qbE rfl rfl rfl (qag _ rfl rfl rfl (Wk.refl _) (pf0 _) (by exact qav) rfl rfl rfl) (qj (qh (qh (gr [.d, .r] (r_d rfl rfl rfl (qL rfl qgd rfl) (r_r rfl rfl rfl (qap rfl rfl (.head _) rfl rfl (by exact qW) rfl) (qj (q0 (qh (gr [.d, .d] (r_d rfl rfl rfl (qB rfl rfl rfl rfl) ?_)))))))))))
    refine r_d rfl rfl rfl (qe rfl rfl) (qj ?_)
    refine g_sB 23 rfl hr (fun h23_4 hr => ?_) (fun h23_4 hr => ?_)
    ·
     refine qo rfl (gr [.d, .w, .d, .w] (r_d rfl rfl rfl (qb rfl rfl) ?_))
     rcases bindXS hr with ⟨c_r_6, hr_6, rfl⟩ | ⟨r_6, hr_6, hr⟩
     ·
      refine qdq rfl rfl (qb5 _ rfl qp (.oc rfl (.oc rfl (.oc rfl .nil))) (by exact (pf1 _ _ _)) (q9 (ql _ _ _ _ _ hr_6))) (hX _ ⟨_, rfl, rfl⟩)
     ·
      refine r_w rfl rfl rfl (qac _ rfl qp (.oc rfl (.oc rfl (.oc rfl .nil))) (by exact (pf1 _ _ _)) (qaa (ql _ _ _ _ _ hr_6))) ?_
      rintro _ _ ⟨_, ⟨rfl, rfl⟩, rfl⟩
      refine r_st ((.cell b_o0 (qi r_6.2)) :: _) rfl (r_d rfl rfl rfl (qL rfl qe0 rfl) (qbE rfl rfl rfl (qcu _ rfl rfl rfl (Wk.refl _) (pf1 _ _ _) rfl rfl (by exact qW) rfl rfl rfl) (qj (qF (qh (gr [.r, .w] (r_r rfl rfl rfl (qap rfl rfl (.head _) rfl rfl (by exact qav) rfl) (qbE rfl rfl rfl (qag _ rfl rfl rfl (Wk.refl _) (pf2 _ _ _ _) (by exact qav) rfl rfl rfl) (qj (qaT 4 b4_0 rfl (pf0 _) (qc6 [_] _ (pf1 _ _ _) ?_)))))))))))
      obtain rfl := Option.some.inj hr
      refine qJ Tryz.func84 _ (.cons (resPtr rfl (by exact qav) rfl (Wk.refl _)) .nil) ?_
      exact ⟨_, rfl, by first | rfl | exact (congrArg D.agg (qiZ (T.mk _ _ _ _))).symm, rfl⟩
    ·
     refine qs rfl (qh (gr [.d, .d] (r_d rfl rfl rfl (qB rfl rfl rfl rfl) (r_d rfl rfl rfl (qe rfl rfl) (qj ?_)))))
     refine g_sB 28 rfl hr (fun h28_6 hr => ?_) (fun h28_6 hr => ?_)
     ·
      refine qo rfl (gr [.d, .w, .d, .w] (r_d rfl rfl rfl (qb rfl rfl) ?_))
      rcases bindXS hr with ⟨c_r_8, hr_8, rfl⟩ | ⟨r_8, hr_8, hr⟩
      ·
       refine qdq rfl rfl (qb5 _ rfl qp (.oc rfl (.oc rfl (.oc rfl .nil))) (by exact (pf1 _ _ _)) (q9 (ql _ _ _ _ _ hr_8))) (hX _ ⟨_, rfl, rfl⟩)
      ·
       refine r_w rfl rfl rfl (qac _ rfl qp (.oc rfl (.oc rfl (.oc rfl .nil))) (by exact (pf1 _ _ _)) (qaa (ql _ _ _ _ _ hr_8))) ?_
       rintro _ _ ⟨_, ⟨rfl, rfl⟩, rfl⟩
       refine r_st ((.cell b_o0 (qi r_8.2)) :: _) rfl (r_d rfl rfl rfl (qL rfl qe0 rfl) (qbE rfl rfl rfl (qcu _ rfl rfl rfl (Wk.refl _) (pf1 _ _ _) rfl rfl (by exact qW) rfl rfl rfl) (qj (qF (qh (gr [.r, .w] (r_r rfl rfl rfl (qap rfl rfl (.head _) rfl rfl (by exact qav) rfl) (qbE rfl rfl rfl (qag _ rfl rfl rfl (Wk.refl _) (pf2 _ _ _ _) (by exact qav) rfl rfl rfl) (qj (qaT 4 b4_0 rfl (pf0 _) (qc6 [_] _ (pf1 _ _ _) ?_)))))))))))
       obtain rfl := Option.some.inj hr
       refine qJ Tryz.func84 _ (.cons (resPtr rfl (by exact qav) rfl (Wk.refl _)) .nil) ?_
       exact ⟨_, rfl, by first | rfl | exact (congrArg D.agg (qiZ (T.mk _ _ _ _))).symm, rfl⟩
     ·
      refine qs rfl (qh (gr [.d, .w, .d, .w] (r_d rfl rfl rfl (qb rfl rfl) ?_)))
      rcases bindXS hr with ⟨c_r_9, hr_9, rfl⟩ | ⟨r_9, hr_9, hr⟩
      ·
       refine qdq rfl rfl (qb5 _ rfl qbG (.oc rfl .nil) (by exact (pf1 _ _ _)) (q9 (qaY _ _ _ hr_9))) (hX _ ⟨_, rfl, rfl⟩)
      ·
       refine r_w rfl rfl rfl (qac _ rfl qbG (.oc rfl .nil) (by exact (pf1 _ _ _)) (qaa (qaY _ _ _ hr_9))) ?_
       rintro _ _ ⟨_, ⟨rfl, rfl⟩, rfl⟩
       refine r_st ((.cell b_o0 (qi r_9.2)) :: _) rfl (r_d rfl rfl rfl (qL rfl qmt rfl) (qbE rfl rfl rfl (qcu _ rfl rfl rfl (Wk.refl _) (pf1 _ _ _) rfl rfl (by exact qdg) rfl rfl rfl) (qj (gr [.d, .d, .d, .w, .d, .w] (r_d rfl rfl rfl (qb rfl rfl) (r_d rfl rfl rfl (qb rfl rfl) (r_d rfl rfl rfl (qkF rfl rfl rfl rfl) ?_)))))))
       rcases bindXS hr with ⟨c_r_10, hr_10, rfl⟩ | ⟨r_10, hr_10, hr⟩
       ·
        refine qdq rfl rfl (qb5 _ rfl qdr (.oc rfl (.oc rfl .nil)) (by exact (pf1 _ _ _)) (q9 (IHR _ _ _ _ hr_10))) (hX _ ⟨_, rfl, rfl⟩)
       ·
        refine r_w rfl rfl rfl (qac _ rfl qdr (.oc rfl (.oc rfl .nil)) (by exact (pf1 _ _ _)) (qaa (IHR _ _ _ _ hr_10))) ?_
        rintro _ _ ⟨_, ⟨rfl, rfl⟩, rfl⟩
        refine r_st ((.cell b_o0 (qi r_10.2)) :: _) rfl (r_d rfl rfl rfl (qL rfl qkY rfl) (qbE rfl rfl rfl (qcu _ rfl rfl rfl (Wk.refl _) (pf1 _ _ _) rfl rfl (by exact qal) rfl rfl rfl) (qj (qF (qh (gr [.r, .w] (r_r rfl rfl rfl (qap rfl rfl (.head _) rfl rfl (by exact qav) rfl) (qbE rfl rfl rfl (qag _ rfl rfl rfl (Wk.refl _) (pf2 _ _ _ _) (by exact qav) rfl rfl rfl) (qj (qaT 4 b4_0 rfl (pf0 _) (qc6 [_] _ (pf1 _ _ _) ?_)))))))))))
        obtain rfl := Option.some.inj hr
        refine qJ Tryz.func84 _ (.cons (resPtr rfl (by exact qav) rfl (Wk.refl _)) .nil) ?_
        exact ⟨_, rfl, by first | rfl | exact (congrArg D.agg (qiZ (T.mk _ _ _ _))).symm, rfl⟩
noncomputable def qe6 (rec : Int → qd → Option (Int ⊕ ((List T) × qd))) (t1_a1 : Int) (c_0 : qd) : Option (Int ⊕ (T × qd)) :=
  (bindX (qeu rec t1_a1 c_0) fun r_2 =>
  some (.inr (r_2.1, r_2.2)))
set_option maxHeartbeats 1000000 in
theorem qga (rec : Int → qd → Option (Int ⊕ ((List T) × qd))) (IHR : ∀ (depth_a1 : Int) (c_0 : qd) (b_o0 : Nat) (res : Int ⊕ ((List T) × qd)), rec depth_a1 c_0 = some res → SpecX Tryz.prog 161 [.ref b_o0 0 [], .int .i64 depth_a1] [.cell b_o0 (qi c_0)] (fun d σ => ∃ r : (List T) × qd, res = .inr r ∧ d = .lst (r.1.map encT) ∧ σ = [.cell b_o0 (qi r.2)]) (fun d => ∃ c, res = .inl c ∧ d = .ifc 191 (.agg [.int .i64 c]))) (t1_a1 : Int) (c_0 : qd) (b_o0 : Nat) (res : Int ⊕ (T × qd)) (hr : qe6 rec t1_a1 c_0 = some res) : SpecX Tryz.prog 206 [.ptr (.ref b_o0 0 []), .ptr (.int .i64 t1_a1)] [.cell b_o0 (qi c_0)] (fun d σ => ∃ r : T × qd, res = .inr r ∧ d = encT r.1 ∧ σ = [.cell b_o0 (qi r.2)]) (fun d => ∃ c, res = .inl c ∧ d = .ifc 191 (.agg [.int .i64 c])) := by
  unfold qe6 at hr
  refine qcG [(0, .ptr (.ref b_o0 0 [])), (1, .ptr (.int .i64 t1_a1))] Tryz.func206 rfl rfl fun K hK hX => (qh (gr [.w] (r_w rfl rfl rfl (qa8 rfl qhO) ?_)))
  rintro _ _ ⟨b2_0, rfl, rfl⟩
  refine qj (qh (gr [.d, .d, .w, .w] (r_d rfl rfl rfl (qk rfl rfl (by exact qad) rfl) (r_d rfl rfl rfl (qk rfl rfl (by exact qW) rfl) ?_))))
  rcases bindXS hr with ⟨c_r_2, hr_2, rfl⟩ | ⟨r_2, hr_2, hr⟩
  ·
   refine qdq rfl rfl (qb5 _ rfl qfi (.oc rfl (.oc rfl .nil)) (by exact (pf1 _ _ _)) (q9 (qfq rec IHR _ _ _ _ hr_2))) (hX _ ⟨_, rfl, rfl⟩)
  ·
   refine r_w rfl rfl rfl (qac _ rfl qfi (.oc rfl (.oc rfl .nil)) (by exact (pf1 _ _ _)) (qaa (qfq rec IHR _ _ _ _ hr_2))) ?_
   rintro _ _ ⟨_, ⟨rfl, rfl⟩, rfl⟩
   refine r_st ((.cell b_o0 (qi r_2.2)) :: _) rfl (qbE rfl rfl rfl (qag _ rfl rfl rfl (Wk.refl _) (pf1 _ _ _) (by exact qav) (qck _) rfl rfl) (qj (qaT 2 b2_0 rfl (pf0 _) ?_)))
   obtain rfl := Option.some.inj hr
   refine qJ Tryz.func206 _ (.cons (resPtr rfl (by exact qav) (qck _) (Wk.refl _)) .nil) ?_
   exact ⟨_, rfl, rfl, rfl⟩
noncomputable def qdU (k : ((List T)) → (qd) → Option (Int ⊕ ((List T) × qd))) (rec : Int → qd → Option (Int ⊕ ((List T) × qd))) (one_a2_c1 : Int) : Nat → (List T) → qd → Option (Int ⊕ ((List T) × qd))
  | 0, out_5, r_7 =>
  (k out_5 r_7)
  | rest + 1, out_5, r_7 =>
  (bindX (qe6 rec one_a2_c1 r_7) fun r_11 =>
  ((appO 56 out_5 [r_11.1]).bind fun l_12 =>
  (qdU k rec one_a2_c1 rest l_12 r_11.2)))
noncomputable def qfX (rec : Int → qd → Option (Int ⊕ ((List T) × qd))) (most_a1 : Int) (one_a2_c1 : Int) (c_0 : qd) : Option (Int ⊕ ((List T) × qd)) :=
  (bindX (qA 0 most_a1 c_0) fun r_3 =>
  (qdU (fun out_9 r_10 =>
  some (.inr (out_9, r_10))) rec one_a2_c1 (r_3.1 - 0 : Int).toNat [] r_3.2))
set_option maxHeartbeats 1000000 in
theorem qiY (rec : Int → qd → Option (Int ⊕ ((List T) × qd))) (IHR : ∀ (depth_a1 : Int) (c_0 : qd) (b_o0 : Nat) (res : Int ⊕ ((List T) × qd)), rec depth_a1 c_0 = some res → SpecX Tryz.prog 161 [.ref b_o0 0 [], .int .i64 depth_a1] [.cell b_o0 (qi c_0)] (fun d σ => ∃ r : (List T) × qd, res = .inr r ∧ d = .lst (r.1.map encT) ∧ σ = [.cell b_o0 (qi r.2)]) (fun d => ∃ c, res = .inl c ∧ d = .ifc 191 (.agg [.int .i64 c]))) (most_a1 : Int) (one_a2_c1 : Int) (c_0 : qd) (b_o0 : Nat) (res : Int ⊕ ((List T) × qd)) (hr : qfX rec most_a1 one_a2_c1 c_0 = some res) : SpecX Tryz.prog 205 [.ref b_o0 0 [], .int .i64 most_a1, .clo (.func 206) [] [.ptr (.ref b_o0 0 []), .ptr (.int .i64 one_a2_c1)]] [.cell b_o0 (qi c_0)] (fun d σ => ∃ r : (List T) × qd, res = .inr r ∧ d = .lst (r.1.map encT) ∧ σ = [.cell b_o0 (qi r.2)]) (fun d => ∃ c, res = .inl c ∧ d = .ifc 191 (.agg [.int .i64 c])) := by
  unfold qfX at hr
  refine qcG [(0, .ref b_o0 0 []), (1, .int .i64 most_a1), (2, .clo (.func 206) [] [.ptr (.ref b_o0 0 []), .ptr (.int .i64 one_a2_c1)])] Tryz.func205 rfl rfl fun K hK hX => (qh (gr [.w] (r_w rfl rfl rfl (qcw 114 4 (.inl rfl)) ?_)))
  rintro _ _ ⟨u6_0, rfl, rfl⟩
  refine qj (qh (gr [.w] (r_w rfl rfl rfl (qcw 114 4 (.inl rfl)) ?_)))
  rintro _ _ ⟨u7_1, rfl, rfl⟩
  refine qj (qh (qh (gr [.d, .d, .w, .d] (r_d rfl rfl rfl (qb rfl rfl) (r_d rfl rfl rfl (qb rfl rfl) ?_)))))
  rcases bindXS hr with ⟨c_r_3, hr_3, rfl⟩ | ⟨r_3, hr_3, hr⟩
  ·
   refine qdq rfl rfl (qb5 _ rfl qp (.oc rfl (.oc rfl (.oc rfl .nil))) (by exact (pf2 _ _ _ _)) (q9 (ql _ _ _ _ _ hr_3))) (hX _ ⟨_, rfl, rfl⟩)
  ·
   refine r_w rfl rfl rfl (qac _ rfl qp (.oc rfl (.oc rfl (.oc rfl .nil))) (by exact (pf2 _ _ _ _)) (qaa (ql _ _ _ _ _ hr_3))) ?_
   rintro _ _ ⟨_, ⟨rfl, rfl⟩, rfl⟩
   refine r_st ((.cell b_o0 (qi r_3.2)) :: _) rfl (r_d rfl rfl rfl (qb rfl rfl) (qj ?_))
   obtain ⟨kk0, hkk0, hr⟩ := exK (fun k => qdU k rec one_a2_c1 (r_3.1 - 0 : Int).toNat [] r_3.2) hr
   refine qhJ 10 rfl fun hla0 => ?_
   refine qV (fun env σ => ∃ (out_9 : (List T)) (r_10 : qd) (u_8 : Value), env = [(7, .own u_8 (out_9.map encT))] ∧ σ = [.row u_8 out_9.length 114 4, .cell b_o0 (qi r_10)] ∧ kk0 out_9 r_10 = some res) ?_ (fun HK0 => ?_)
   ·
    rintro _ _ ⟨out_9, r_10, u_8, rfl, rfl, hr⟩
    rw [hkk0] at hr
    refine qh (gr [.d, .d] (r_d rfl rfl rfl (qb rfl rfl) (r_d rfl rfl rfl (qe rfl rfl) (qj (qc6 [_] _ (pf1 _ _ _) ?_)))))
    obtain rfl := Option.some.inj hr
    refine qJ Tryz.func205 _ (.cons (resTmp rfl (Wk.own _ _)) .nil) ?_
    exact ⟨_, rfl, rfl, rfl⟩
   ·
    refine qM [(2, .clo (.func 206) [] [.ptr (.ref b_o0 0 []), .ptr (.int .i64 one_a2_c1)]), (10, .int .i64 r_3.1), (7, .own u7_1 ([].map encT)), (11, .int .i64 0)] (Sub.cons' rfl (Sub.cons' rfl (Sub.cons' rfl (Sub.cons' rfl (Sub.nil _))))) (qc6 [_, _] _ ((pf1 _ _ _).trans (pf1 _ _ _)) (qaM (fun n env σ => ∃ (out_5 : (List T)) (t11_6 : Int) (r_7 : qd) (u_4 : Value) (m0 : Nat), (m0 = n) ∧ (env = [(2, .clo (.func 206) [] [.ptr (.ref b_o0 0 []), .ptr (.int .i64 one_a2_c1)]), (10, .int .i64 r_3.1), (7, .own u_4 (out_5.map encT)), (11, .int .i64 t11_6)]) ∧ (σ = [.cell b_o0 (qi r_7), .row u_4 out_5.length 114 4]) ∧ (m0 = (r_3.1 - t11_6 : Int).toNat) ∧ (qdU kk0 rec one_a2_c1 m0 out_5 r_7 = some res)) _ ⟨[], 0, r_3.2, u7_1, _, rfl, rfl, rfl, rfl, hr⟩ ?_))
    rintro n _ _ ⟨out_5, t11_6, r_7, u_4, m0, rfl, rfl, rfl, hi0, hr⟩ IH0
    refine qhJ 11 rfl fun hb0 => ?_
    rcases cntStep t11_6 r_3.1 m0 hi0 with ⟨hm0, ht0⟩ | ⟨m0', hm0, ht0, hi0', hlt0⟩
    ·
     rw [hm0, qdU] at hr
     refine qh (gr [.d] (r_d rfl rfl rfl (qB rfl rfl rfl rfl) (qj (qh (qC 12 false rfl ht0 (qs rfl (qaw rfl (qM [(7, .own u_4 (out_5.map encT))] (Sub.cons' rfl (Sub.nil _)) (qc6 [_, _] _ ((pf0 _).trans (pf1 _ _ _)) ?_)))))))))
     exact HK0 _ _ ⟨out_5, r_7, u_4, rfl, rfl, hr⟩
    ·
     rw [hm0, qdU] at hr
     refine qh (gr [.d] (r_d rfl rfl rfl (qB rfl rfl rfl rfl) (qj (qh (qhJ 10 rfl fun hbN10 => (qC 12 true rfl ht0 (qo rfl (qE (qh (q0 (gr [.d, .d, .w, .d, .w, .d] ?_)))))))))))
     refine r_d rfl rfl rfl (qb rfl rfl) (r_d rfl rfl rfl (qb rfl rfl) ?_)
     rcases bindXS hr with ⟨c_r_11, hr_11, rfl⟩ | ⟨r_11, hr_11, hr⟩
     ·
      refine qdq rfl rfl (qiF _ rfl rfl qhj .nil rfl (by exact (pf0 _)) (q9 (qga rec IHR _ _ _ _ hr_11))) (hX _ ⟨_, rfl, rfl⟩)
     ·
      refine r_w rfl rfl rfl (qfj _ rfl rfl qhj .nil rfl (by exact (pf0 _)) (qaa (qga rec IHR _ _ _ _ hr_11))) ?_
      rintro _ _ ⟨_, ⟨rfl, rfl⟩, rfl⟩
      refine r_st ((.cell b_o0 (qi r_11.2)) :: _) rfl (r_d rfl rfl rfl (qiL (f := encT) [.tmp 15] [r_11.1] rfl qaj rfl rfl (by decide) (by decide) (.oc rfl .nil) qck (fun _ => rfl)) ?_)
      obtain ⟨l_12, hl_12, hr⟩ := bindS hr
      refine r_w rfl rfl rfl (qcK (f := encT) out_5 [r_11.1] rfl qaj rfl rfl (asl rfl) (pf1 _ _ _) rfl qck hl_12) ?_
      rintro _ _ ⟨u17_12, rfl, rfl⟩
      refine r_d rfl rfl rfl (qe rfl rfl) (qj (qF (gr [.d, .d] (r_d rfl rfl rfl (s_ar (r := t11_6 + 1) rfl rfl rfl rfl (by omega)) (r_d rfl rfl rfl (qb rfl rfl) (qj (qM [(2, .clo (.func 206) [] [.ptr (.ref b_o0 0 []), .ptr (.int .i64 one_a2_c1)]), (10, .int .i64 r_3.1), (7, .own u17_12 (l_12.map encT)), (11, .int .i64 (t11_6 + 1))] (Sub.cons' rfl (Sub.cons' rfl (Sub.cons' rfl (Sub.cons' rfl (Sub.nil _))))) (qc6 [_, _] _ ((pf0 _).trans (pf1 _ _ _)) ?_))))))))
      exact IH0 _ _ _ (by omega) ⟨l_12, (t11_6 + 1), r_11.2, u17_12, _, rfl, rfl, rfl, hi0', hr⟩
noncomputable def qcm : Nat → Int → qd → Option (Int ⊕ ((List T) × qd))
  | 0, _, _ => none
  | fuel + 1, depth_a1, c_0 =>
    (fun (rec : Int → qd → Option (Int ⊕ ((List T) × qd))) =>
      (bindX (qfX rec 6 depth_a1 c_0) fun r_1 =>
      some (.inr (r_1.1, r_1.2)))) (qcm fuel)
set_option maxHeartbeats 1000000 in
theorem qi5 (fuel : Nat) (rec : Int → qd → Option (Int ⊕ ((List T) × qd))) (IHR : ∀ (depth_a1 : Int) (c_0 : qd) (b_o0 : Nat) (res : Int ⊕ ((List T) × qd)), rec depth_a1 c_0 = some res → SpecX Tryz.prog 161 [.ref b_o0 0 [], .int .i64 depth_a1] [.cell b_o0 (qi c_0)] (fun d σ => ∃ r : (List T) × qd, res = .inr r ∧ d = .lst (r.1.map encT) ∧ σ = [.cell b_o0 (qi r.2)]) (fun d => ∃ c, res = .inl c ∧ d = .ifc 191 (.agg [.int .i64 c]))) (depth_a1 : Int) (c_0 : qd) (b_o0 : Nat) (res : Int ⊕ ((List T) × qd))
    (hr : (bindX (qfX rec 6 depth_a1 c_0) fun r_1 =>
some (.inr (r_1.1, r_1.2))) = some res) : SpecX Tryz.prog 161 [.ref b_o0 0 [], .int .i64 depth_a1] [.cell b_o0 (qi c_0)] (fun d σ => ∃ r : (List T) × qd, res = .inr r ∧ d = .lst (r.1.map encT) ∧ σ = [.cell b_o0 (qi r.2)]) (fun d => ∃ c, res = .inl c ∧ d = .ifc 191 (.agg [.int .i64 c])) := by
  refine qcG [(0, .ref b_o0 0 []), (1, .int .i64 depth_a1)] Tryz.func161 rfl rfl fun K hK hX => (qh (gr [.d, .d, .d] (r_d rfl rfl rfl (qef rfl rfl rfl) (r_d rfl rfl rfl (qef rfl rfl rfl) (r_d rfl rfl rfl (qe rfl rfl) (qj (qh (gr [.d, .d, .w, .d] (r_d rfl rfl rfl (qk rfl rfl (by exact qad) rfl) (r_d rfl rfl rfl (qcg rfl rfl rfl) ?_))))))))))
  rcases bindXS hr with ⟨c_r_1, hr_1, rfl⟩ | ⟨r_1, hr_1, hr⟩
  ·
   refine qdq rfl rfl (qb5 _ rfl qhs (.oc rfl (.oc rfl (.oc rfl .nil))) (by exact (pf0 _)) (q9 (qiY rec IHR _ _ _ _ _ hr_1))) (hX _ ⟨_, rfl, rfl⟩)
  ·
   refine r_w rfl rfl rfl (qac _ rfl qhs (.oc rfl (.oc rfl (.oc rfl .nil))) (by exact (pf0 _)) (qaa (qiY rec IHR _ _ _ _ _ hr_1))) ?_
   rintro _ _ ⟨_, ⟨rfl, rfl⟩, rfl⟩
   refine r_st ((.cell b_o0 (qi r_1.2)) :: _) rfl (r_d rfl rfl rfl (qe rfl rfl) (qj ?_))
   obtain rfl := Option.some.inj hr
   refine qJ Tryz.func161 _ (.cons (resTmp rfl (Wk.refl _)) .nil) ?_
   exact ⟨_, rfl, rfl, rfl⟩
theorem qc4 : ∀ (fuel : Nat) (depth_a1 : Int) (c_0 : qd) (b_o0 : Nat) (res : Int ⊕ ((List T) × qd)), qcm fuel depth_a1 c_0 = some res → SpecX Tryz.prog 161 [.ref b_o0 0 [], .int .i64 depth_a1] [.cell b_o0 (qi c_0)] (fun d σ => ∃ r : (List T) × qd, res = .inr r ∧ d = .lst (r.1.map encT) ∧ σ = [.cell b_o0 (qi r.2)]) (fun d => ∃ c, res = .inl c ∧ d = .ifc 191 (.agg [.int .i64 c]))
  | 0, _, _, _, _, h => by cases h
  | fuel + 1, depth_a1, c_0, b_o0, res, h => qi5 fuel (qcm fuel) (qc4 fuel) depth_a1 c_0 b_o0 res h
noncomputable def qgX (fuel : Nat) (depth_a1 : Int) (c_0 : qd) : Option (Int ⊕ (T × qd)) := qeu (qcm fuel) depth_a1 c_0
theorem qg0 (fuel : Nat) (depth_a1 : Int) (c_0 : qd) (b_o0 : Nat) (res : Int ⊕ (T × qd)) (hr : qgX fuel depth_a1 c_0 = some res) : SpecX Tryz.prog 84 [.ref b_o0 0 [], .int .i64 depth_a1] [.cell b_o0 (qi c_0)] (fun d σ => ∃ r : T × qd, res = .inr r ∧ d = encT r.1 ∧ σ = [.cell b_o0 (qi r.2)]) (fun d => ∃ c, res = .inl c ∧ d = .ifc 191 (.agg [.int .i64 c])) := qfq (qcm fuel) (qc4 fuel) depth_a1 c_0 b_o0 res hr
noncomputable def qeG (fuel : Nat) (c_0 : qd) : Option (Int ⊕ (At × qd)) :=
  (bindX (qcl c_0) fun r_2 =>
  (bindX (qcm fuel 0 r_2.2) fun r_3 =>
  some (.inr ((⟨r_2.1, r_3.1⟩ : At), r_3.2))))
set_option maxHeartbeats 1000000 in
theorem qez (fuel : Nat) (c_0 : qd) (b_o0 : Nat) (res : Int ⊕ (At × qd)) (hr : qeG fuel c_0 = some res) : SpecX Tryz.prog 144 [.ref b_o0 0 []] [.cell b_o0 (qi c_0)] (fun d σ => ∃ r : At × qd, res = .inr r ∧ d = encA r.1 ∧ σ = [.cell b_o0 (qi r.2)]) (fun d => ∃ c, res = .inl c ∧ d = .ifc 191 (.agg [.int .i64 c])) := by
  unfold qeG at hr
  refine qcG [(0, .ref b_o0 0 [])] Tryz.func144 rfl rfl fun K hK hX => (qh (gr [.w] (r_w rfl rfl rfl (qa8 rfl qjv) ?_)))
  rintro _ _ ⟨b2_0, rfl, rfl⟩
  refine qj (qh (gr [.d, .w, .d] (r_d rfl rfl rfl (qb rfl rfl) ?_)))
  rcases bindXS hr with ⟨c_r_2, hr_2, rfl⟩ | ⟨r_2, hr_2, hr⟩
  ·
   refine qdq rfl rfl (qb5 _ rfl qbG (.oc rfl .nil) (by exact (pf1 _ _ _)) (q9 (qaY _ _ _ hr_2))) (hX _ ⟨_, rfl, rfl⟩)
  ·
   refine r_w rfl rfl rfl (qac _ rfl qbG (.oc rfl .nil) (by exact (pf1 _ _ _)) (qaa (qaY _ _ _ hr_2))) ?_
   rintro _ _ ⟨_, ⟨rfl, rfl⟩, rfl⟩
   refine r_st ((.cell b_o0 (qi r_2.2)) :: _) rfl (r_d rfl rfl rfl (qe rfl rfl) (qj (qh (gr [.d, .d, .w, .d, .w] (r_d rfl rfl rfl (qb rfl rfl) (r_d rfl rfl rfl (qb rfl rfl) ?_))))))
   rcases bindXS hr with ⟨c_r_3, hr_3, rfl⟩ | ⟨r_3, hr_3, hr⟩
   ·
    refine qdq rfl rfl (qb5 _ rfl qdr (.oc rfl (.oc rfl .nil)) (by exact (pf0 _)) (q9 (qc4 fuel _ _ _ _ hr_3))) (hX _ ⟨_, rfl, rfl⟩)
   ·
    refine r_w rfl rfl rfl (qac _ rfl qdr (.oc rfl (.oc rfl .nil)) (by exact (pf0 _)) (qaa (qc4 fuel _ _ _ _ hr_3))) ?_
    rintro _ _ ⟨_, ⟨rfl, rfl⟩, rfl⟩
    refine r_st ((.cell b_o0 (qi r_3.2)) :: _) rfl (r_d rfl rfl rfl (qeB rfl ql9 (.oc rfl (.oc rfl .nil)) (.cons rfl rfl rfl (.cons rfl rfl rfl (.nil _)))) (qbE rfl rfl rfl (qag _ rfl rfl rfl (Wk.refl _) (pf1 _ _ _) (by exact qbQ) rfl rfl rfl) (qj (qaT 2 b2_0 rfl (pf0 _) ?_))))
    obtain rfl := Option.some.inj hr
    refine qJ Tryz.func144 _ (.cons (resPtr rfl (by exact qbQ) rfl (Wk.refl _)) .nil) ?_
    exact ⟨_, rfl, rfl, rfl⟩
noncomputable def qd1 (k : ((List At)) → (qd) → Option (Int ⊕ ((List At) × qd))) (fuel : Nat) : Nat → (List At) → qd → Option (Int ⊕ ((List At) × qd))
  | 0, out_5, r_7 =>
  (k out_5 r_7)
  | rest + 1, out_5, r_7 =>
  (bindX (qeG fuel r_7) fun r_11 =>
  ((appO 40 out_5 [r_11.1]).bind fun l_12 =>
  (qd1 k fuel rest l_12 r_11.2)))
noncomputable def qgn (fuel : Nat) (most_a1 : Int) (c_0 : qd) : Option (Int ⊕ ((List At) × qd)) :=
  (bindX (qA 0 most_a1 c_0) fun r_3 =>
  (qd1 (fun out_9 r_10 =>
  some (.inr (out_9, r_10))) fuel (r_3.1 - 0 : Int).toNat [] r_3.2))
set_option maxHeartbeats 1000000 in
theorem qgt (fuel : Nat) (most_a1 : Int) (c_0 : qd) (b_o0 : Nat) (res : Int ⊕ ((List At) × qd)) (hr : qgn fuel most_a1 c_0 = some res) : SpecX Tryz.prog 143 [.ref b_o0 0 [], .int .i64 most_a1, .clo (.func 144) [.ref b_o0 0 []] []] [.cell b_o0 (qi c_0)] (fun d σ => ∃ r : (List At) × qd, res = .inr r ∧ d = .lst (r.1.map encA) ∧ σ = [.cell b_o0 (qi r.2)]) (fun d => ∃ c, res = .inl c ∧ d = .ifc 191 (.agg [.int .i64 c])) := by
  unfold qgn at hr
  refine qcG [(0, .ref b_o0 0 []), (1, .int .i64 most_a1), (2, .clo (.func 144) [.ref b_o0 0 []] [])] Tryz.func143 rfl rfl fun K hK hX => (qh (gr [.w] (r_w rfl rfl rfl (qcw 107 2 (.inl rfl)) ?_)))
  rintro _ _ ⟨u6_0, rfl, rfl⟩
  refine qj (qh (gr [.w] (r_w rfl rfl rfl (qcw 107 2 (.inl rfl)) ?_)))
  rintro _ _ ⟨u7_1, rfl, rfl⟩
  refine qj (qh (qh (gr [.d, .d, .w, .d] (r_d rfl rfl rfl (qb rfl rfl) (r_d rfl rfl rfl (qb rfl rfl) ?_)))))
  rcases bindXS hr with ⟨c_r_3, hr_3, rfl⟩ | ⟨r_3, hr_3, hr⟩
  ·
   refine qdq rfl rfl (qb5 _ rfl qp (.oc rfl (.oc rfl (.oc rfl .nil))) (by exact (pf2 _ _ _ _)) (q9 (ql _ _ _ _ _ hr_3))) (hX _ ⟨_, rfl, rfl⟩)
  ·
   refine r_w rfl rfl rfl (qac _ rfl qp (.oc rfl (.oc rfl (.oc rfl .nil))) (by exact (pf2 _ _ _ _)) (qaa (ql _ _ _ _ _ hr_3))) ?_
   rintro _ _ ⟨_, ⟨rfl, rfl⟩, rfl⟩
   refine r_st ((.cell b_o0 (qi r_3.2)) :: _) rfl (r_d rfl rfl rfl (qb rfl rfl) (qj ?_))
   obtain ⟨kk0, hkk0, hr⟩ := exK (fun k => qd1 k fuel (r_3.1 - 0 : Int).toNat [] r_3.2) hr
   refine qhJ 10 rfl fun hla0 => ?_
   refine qV (fun env σ => ∃ (out_9 : (List At)) (r_10 : qd) (u_8 : Value), env = [(7, .own u_8 (out_9.map encA))] ∧ σ = [.row u_8 out_9.length 107 2, .cell b_o0 (qi r_10)] ∧ kk0 out_9 r_10 = some res) ?_ (fun HK0 => ?_)
   ·
    rintro _ _ ⟨out_9, r_10, u_8, rfl, rfl, hr⟩
    rw [hkk0] at hr
    refine qh (gr [.d, .d] (r_d rfl rfl rfl (qb rfl rfl) (r_d rfl rfl rfl (qe rfl rfl) (qj (qc6 [_] _ (pf1 _ _ _) ?_)))))
    obtain rfl := Option.some.inj hr
    refine qJ Tryz.func143 _ (.cons (resTmp rfl (Wk.own _ _)) .nil) ?_
    exact ⟨_, rfl, rfl, rfl⟩
   ·
    refine qM [(2, .clo (.func 144) [.ref b_o0 0 []] []), (10, .int .i64 r_3.1), (7, .own u7_1 ([].map encA)), (11, .int .i64 0)] (Sub.cons' rfl (Sub.cons' rfl (Sub.cons' rfl (Sub.cons' rfl (Sub.nil _))))) (qc6 [_, _] _ ((pf1 _ _ _).trans (pf1 _ _ _)) (qaM (fun n env σ => ∃ (out_5 : (List At)) (t11_6 : Int) (r_7 : qd) (u_4 : Value) (m0 : Nat), (m0 = n) ∧ (env = [(2, .clo (.func 144) [.ref b_o0 0 []] []), (10, .int .i64 r_3.1), (7, .own u_4 (out_5.map encA)), (11, .int .i64 t11_6)]) ∧ (σ = [.cell b_o0 (qi r_7), .row u_4 out_5.length 107 2]) ∧ (m0 = (r_3.1 - t11_6 : Int).toNat) ∧ (qd1 kk0 fuel m0 out_5 r_7 = some res)) _ ⟨[], 0, r_3.2, u7_1, _, rfl, rfl, rfl, rfl, hr⟩ ?_))
    rintro n _ _ ⟨out_5, t11_6, r_7, u_4, m0, rfl, rfl, rfl, hi0, hr⟩ IH0
    refine qhJ 11 rfl fun hb0 => ?_
    rcases cntStep t11_6 r_3.1 m0 hi0 with ⟨hm0, ht0⟩ | ⟨m0', hm0, ht0, hi0', hlt0⟩
    ·
     rw [hm0, qd1] at hr
     refine qh (gr [.d] (r_d rfl rfl rfl (qB rfl rfl rfl rfl) (qj (qh (qC 12 false rfl ht0 (qs rfl (qaw rfl (qM [(7, .own u_4 (out_5.map encA))] (Sub.cons' rfl (Sub.nil _)) (qc6 [_, _] _ ((pf0 _).trans (pf1 _ _ _)) ?_)))))))))
     exact HK0 _ _ ⟨out_5, r_7, u_4, rfl, rfl, hr⟩
    ·
     rw [hm0, qd1] at hr
     refine qh (gr [.d] (r_d rfl rfl rfl (qB rfl rfl rfl rfl) (qj (qh (qhJ 10 rfl fun hbN10 => (qC 12 true rfl ht0 (qo rfl (qE (qh (q0 (gr [.d, .d, .w, .d, .w, .d] ?_)))))))))))
     refine r_d rfl rfl rfl (qb rfl rfl) (r_d rfl rfl rfl (qb rfl rfl) ?_)
     rcases bindXS hr with ⟨c_r_11, hr_11, rfl⟩ | ⟨r_11, hr_11, hr⟩
     ·
      refine qdq rfl rfl (qiF _ rfl rfl qfd .nil rfl (by exact (pf0 _)) (q9 (qez fuel _ _ _ hr_11))) (hX _ ⟨_, rfl, rfl⟩)
     ·
      refine r_w rfl rfl rfl (qfj _ rfl rfl qfd .nil rfl (by exact (pf0 _)) (qaa (qez fuel _ _ _ hr_11))) ?_
      rintro _ _ ⟨_, ⟨rfl, rfl⟩, rfl⟩
      refine r_st ((.cell b_o0 (qi r_11.2)) :: _) rfl (r_d rfl rfl rfl (qiL (f := encA) [.tmp 15] [r_11.1] rfl qS rfl rfl (by decide) (by decide) (.oc rfl .nil) qan (fun _ => rfl)) ?_)
      obtain ⟨l_12, hl_12, hr⟩ := bindS hr
      refine r_w rfl rfl rfl (qcK (f := encA) out_5 [r_11.1] rfl qS rfl rfl (asl rfl) (pf1 _ _ _) rfl qan hl_12) ?_
      rintro _ _ ⟨u17_12, rfl, rfl⟩
      refine r_d rfl rfl rfl (qe rfl rfl) (qj (qF (gr [.d, .d] (r_d rfl rfl rfl (s_ar (r := t11_6 + 1) rfl rfl rfl rfl (by omega)) (r_d rfl rfl rfl (qb rfl rfl) (qj (qM [(2, .clo (.func 144) [.ref b_o0 0 []] []), (10, .int .i64 r_3.1), (7, .own u17_12 (l_12.map encA)), (11, .int .i64 (t11_6 + 1))] (Sub.cons' rfl (Sub.cons' rfl (Sub.cons' rfl (Sub.cons' rfl (Sub.nil _))))) (qc6 [_, _] _ ((pf0 _).trans (pf1 _ _ _)) ?_))))))))
      exact IH0 _ _ _ (by omega) ⟨l_12, (t11_6 + 1), r_11.2, u17_12, _, rfl, rfl, rfl, hi0', hr⟩
noncomputable def qex (fuel : Nat) (c_0 : qd) : Option (Int ⊕ (Gl × qd)) :=
  (bindX (qA 0 12 c_0) fun r_2 =>
  (bindX (qcl r_2.2) fun r_3 =>
  (bindX (qcm fuel 0 r_3.2) fun r_4 =>
  some (.inr ((⟨r_2.1, r_3.1, r_4.1⟩ : Gl), r_4.2)))))
set_option maxHeartbeats 1000000 in
theorem qeF (fuel : Nat) (c_0 : qd) (b_o0 : Nat) (res : Int ⊕ (Gl × qd)) (hr : qex fuel c_0 = some res) : SpecX Tryz.prog 146 [.ref b_o0 0 []] [.cell b_o0 (qi c_0)] (fun d σ => ∃ r : Gl × qd, res = .inr r ∧ d = encG r.1 ∧ σ = [.cell b_o0 (qi r.2)]) (fun d => ∃ c, res = .inl c ∧ d = .ifc 191 (.agg [.int .i64 c])) := by
  unfold qex at hr
  refine qcG [(0, .ref b_o0 0 [])] Tryz.func146 rfl rfl fun K hK hX => (qh (gr [.w] (r_w rfl rfl rfl (qa8 rfl qmi) ?_)))
  rintro _ _ ⟨b2_0, rfl, rfl⟩
  refine qj (qh (gr [.d, .w, .d] (r_d rfl rfl rfl (qb rfl rfl) ?_)))
  rcases bindXS hr with ⟨c_r_2, hr_2, rfl⟩ | ⟨r_2, hr_2, hr⟩
  ·
   refine qdq rfl rfl (qb5 _ rfl qp (.oc rfl (.oc rfl (.oc rfl .nil))) (by exact (pf1 _ _ _)) (q9 (ql _ _ _ _ _ hr_2))) (hX _ ⟨_, rfl, rfl⟩)
  ·
   refine r_w rfl rfl rfl (qac _ rfl qp (.oc rfl (.oc rfl (.oc rfl .nil))) (by exact (pf1 _ _ _)) (qaa (ql _ _ _ _ _ hr_2))) ?_
   rintro _ _ ⟨_, ⟨rfl, rfl⟩, rfl⟩
   refine r_st ((.cell b_o0 (qi r_2.2)) :: _) rfl (r_d rfl rfl rfl (qe rfl rfl) (qj (qh (gr [.d, .w, .d] (r_d rfl rfl rfl (qb rfl rfl) ?_)))))
   rcases bindXS hr with ⟨c_r_3, hr_3, rfl⟩ | ⟨r_3, hr_3, hr⟩
   ·
    refine qdq rfl rfl (qb5 _ rfl qbG (.oc rfl .nil) (by exact (pf0 _)) (q9 (qaY _ _ _ hr_3))) (hX _ ⟨_, rfl, rfl⟩)
   ·
    refine r_w rfl rfl rfl (qac _ rfl qbG (.oc rfl .nil) (by exact (pf0 _)) (qaa (qaY _ _ _ hr_3))) ?_
    rintro _ _ ⟨_, ⟨rfl, rfl⟩, rfl⟩
    refine r_st ((.cell b_o0 (qi r_3.2)) :: _) rfl (r_d rfl rfl rfl (qe rfl rfl) (qj (qh (gr [.d, .d, .d, .w, .d, .w] (r_d rfl rfl rfl (qb rfl rfl) (r_d rfl rfl rfl (qb rfl rfl) (r_d rfl rfl rfl (qb rfl rfl) ?_)))))))
    rcases bindXS hr with ⟨c_r_4, hr_4, rfl⟩ | ⟨r_4, hr_4, hr⟩
    ·
     refine qdq rfl rfl (qb5 _ rfl qdr (.oc rfl (.oc rfl .nil)) (by exact (pf0 _)) (q9 (qc4 fuel _ _ _ _ hr_4))) (hX _ ⟨_, rfl, rfl⟩)
    ·
     refine r_w rfl rfl rfl (qac _ rfl qdr (.oc rfl (.oc rfl .nil)) (by exact (pf0 _)) (qaa (qc4 fuel _ _ _ _ hr_4))) ?_
     rintro _ _ ⟨_, ⟨rfl, rfl⟩, rfl⟩
     refine r_st ((.cell b_o0 (qi r_4.2)) :: _) rfl (r_d rfl rfl rfl (qeB rfl ql8 (.oc rfl (.oc rfl (.oc rfl .nil))) (.cons rfl rfl rfl (.cons rfl rfl rfl (.cons rfl rfl rfl (.nil _))))) (qbE rfl rfl rfl (qag _ rfl rfl rfl (Wk.refl _) (pf1 _ _ _) (by exact qdb) rfl rfl rfl) (qj (qaT 2 b2_0 rfl (pf0 _) ?_))))
     obtain rfl := Option.some.inj hr
     refine qJ Tryz.func146 _ (.cons (resPtr rfl (by exact qdb) rfl (Wk.refl _)) .nil) ?_
     exact ⟨_, rfl, rfl, rfl⟩
noncomputable def qd3 (k : ((List Gl)) → (qd) → Option (Int ⊕ ((List Gl) × qd))) (fuel : Nat) : Nat → (List Gl) → qd → Option (Int ⊕ ((List Gl) × qd))
  | 0, out_5, r_7 =>
  (k out_5 r_7)
  | rest + 1, out_5, r_7 =>
  (bindX (qex fuel r_7) fun r_11 =>
  ((appO 48 out_5 [r_11.1]).bind fun l_12 =>
  (qd3 k fuel rest l_12 r_11.2)))
noncomputable def qgs (fuel : Nat) (most_a1 : Int) (c_0 : qd) : Option (Int ⊕ ((List Gl) × qd)) :=
  (bindX (qA 0 most_a1 c_0) fun r_3 =>
  (qd3 (fun out_9 r_10 =>
  some (.inr (out_9, r_10))) fuel (r_3.1 - 0 : Int).toNat [] r_3.2))
set_option maxHeartbeats 1000000 in
theorem qgg (fuel : Nat) (most_a1 : Int) (c_0 : qd) (b_o0 : Nat) (res : Int ⊕ ((List Gl) × qd)) (hr : qgs fuel most_a1 c_0 = some res) : SpecX Tryz.prog 145 [.ref b_o0 0 [], .int .i64 most_a1, .clo (.func 146) [.ref b_o0 0 []] []] [.cell b_o0 (qi c_0)] (fun d σ => ∃ r : (List Gl) × qd, res = .inr r ∧ d = .lst (r.1.map encG) ∧ σ = [.cell b_o0 (qi r.2)]) (fun d => ∃ c, res = .inl c ∧ d = .ifc 191 (.agg [.int .i64 c])) := by
  unfold qgs at hr
  refine qcG [(0, .ref b_o0 0 []), (1, .int .i64 most_a1), (2, .clo (.func 146) [.ref b_o0 0 []] [])] Tryz.func145 rfl rfl fun K hK hX => (qh (gr [.w] (r_w rfl rfl rfl (qcw 73 3 (.inl rfl)) ?_)))
  rintro _ _ ⟨u6_0, rfl, rfl⟩
  refine qj (qh (gr [.w] (r_w rfl rfl rfl (qcw 73 3 (.inl rfl)) ?_)))
  rintro _ _ ⟨u7_1, rfl, rfl⟩
  refine qj (qh (qh (gr [.d, .d, .w, .d] (r_d rfl rfl rfl (qb rfl rfl) (r_d rfl rfl rfl (qb rfl rfl) ?_)))))
  rcases bindXS hr with ⟨c_r_3, hr_3, rfl⟩ | ⟨r_3, hr_3, hr⟩
  ·
   refine qdq rfl rfl (qb5 _ rfl qp (.oc rfl (.oc rfl (.oc rfl .nil))) (by exact (pf2 _ _ _ _)) (q9 (ql _ _ _ _ _ hr_3))) (hX _ ⟨_, rfl, rfl⟩)
  ·
   refine r_w rfl rfl rfl (qac _ rfl qp (.oc rfl (.oc rfl (.oc rfl .nil))) (by exact (pf2 _ _ _ _)) (qaa (ql _ _ _ _ _ hr_3))) ?_
   rintro _ _ ⟨_, ⟨rfl, rfl⟩, rfl⟩
   refine r_st ((.cell b_o0 (qi r_3.2)) :: _) rfl (r_d rfl rfl rfl (qb rfl rfl) (qj ?_))
   obtain ⟨kk0, hkk0, hr⟩ := exK (fun k => qd3 k fuel (r_3.1 - 0 : Int).toNat [] r_3.2) hr
   refine qhJ 10 rfl fun hla0 => ?_
   refine qV (fun env σ => ∃ (out_9 : (List Gl)) (r_10 : qd) (u_8 : Value), env = [(7, .own u_8 (out_9.map encG))] ∧ σ = [.row u_8 out_9.length 73 3, .cell b_o0 (qi r_10)] ∧ kk0 out_9 r_10 = some res) ?_ (fun HK0 => ?_)
   ·
    rintro _ _ ⟨out_9, r_10, u_8, rfl, rfl, hr⟩
    rw [hkk0] at hr
    refine qh (gr [.d, .d] (r_d rfl rfl rfl (qb rfl rfl) (r_d rfl rfl rfl (qe rfl rfl) (qj (qc6 [_] _ (pf1 _ _ _) ?_)))))
    obtain rfl := Option.some.inj hr
    refine qJ Tryz.func145 _ (.cons (resTmp rfl (Wk.own _ _)) .nil) ?_
    exact ⟨_, rfl, rfl, rfl⟩
   ·
    refine qM [(2, .clo (.func 146) [.ref b_o0 0 []] []), (10, .int .i64 r_3.1), (7, .own u7_1 ([].map encG)), (11, .int .i64 0)] (Sub.cons' rfl (Sub.cons' rfl (Sub.cons' rfl (Sub.cons' rfl (Sub.nil _))))) (qc6 [_, _] _ ((pf1 _ _ _).trans (pf1 _ _ _)) (qaM (fun n env σ => ∃ (out_5 : (List Gl)) (t11_6 : Int) (r_7 : qd) (u_4 : Value) (m0 : Nat), (m0 = n) ∧ (env = [(2, .clo (.func 146) [.ref b_o0 0 []] []), (10, .int .i64 r_3.1), (7, .own u_4 (out_5.map encG)), (11, .int .i64 t11_6)]) ∧ (σ = [.cell b_o0 (qi r_7), .row u_4 out_5.length 73 3]) ∧ (m0 = (r_3.1 - t11_6 : Int).toNat) ∧ (qd3 kk0 fuel m0 out_5 r_7 = some res)) _ ⟨[], 0, r_3.2, u7_1, _, rfl, rfl, rfl, rfl, hr⟩ ?_))
    rintro n _ _ ⟨out_5, t11_6, r_7, u_4, m0, rfl, rfl, rfl, hi0, hr⟩ IH0
    refine qhJ 11 rfl fun hb0 => ?_
    rcases cntStep t11_6 r_3.1 m0 hi0 with ⟨hm0, ht0⟩ | ⟨m0', hm0, ht0, hi0', hlt0⟩
    ·
     rw [hm0, qd3] at hr
     refine qh (gr [.d] (r_d rfl rfl rfl (qB rfl rfl rfl rfl) (qj (qh (qC 12 false rfl ht0 (qs rfl (qaw rfl (qM [(7, .own u_4 (out_5.map encG))] (Sub.cons' rfl (Sub.nil _)) (qc6 [_, _] _ ((pf0 _).trans (pf1 _ _ _)) ?_)))))))))
     exact HK0 _ _ ⟨out_5, r_7, u_4, rfl, rfl, hr⟩
    ·
     rw [hm0, qd3] at hr
     refine qh (gr [.d] (r_d rfl rfl rfl (qB rfl rfl rfl rfl) (qj (qh (qhJ 10 rfl fun hbN10 => (qC 12 true rfl ht0 (qo rfl (qE (qh (q0 (gr [.d, .d, .w, .d, .w, .d] ?_)))))))))))
     refine r_d rfl rfl rfl (qb rfl rfl) (r_d rfl rfl rfl (qb rfl rfl) ?_)
     rcases bindXS hr with ⟨c_r_11, hr_11, rfl⟩ | ⟨r_11, hr_11, hr⟩
     ·
      refine qdq rfl rfl (qiF _ rfl rfl qfe .nil rfl (by exact (pf0 _)) (q9 (qeF fuel _ _ _ hr_11))) (hX _ ⟨_, rfl, rfl⟩)
     ·
      refine r_w rfl rfl rfl (qfj _ rfl rfl qfe .nil rfl (by exact (pf0 _)) (qaa (qeF fuel _ _ _ hr_11))) ?_
      rintro _ _ ⟨_, ⟨rfl, rfl⟩, rfl⟩
      refine r_st ((.cell b_o0 (qi r_11.2)) :: _) rfl (r_d rfl rfl rfl (qiL (f := encG) [.tmp 15] [r_11.1] rfl qY rfl rfl (by decide) (by decide) (.oc rfl .nil) qbi (fun _ => rfl)) ?_)
      obtain ⟨l_12, hl_12, hr⟩ := bindS hr
      refine r_w rfl rfl rfl (qcK (f := encG) out_5 [r_11.1] rfl qY rfl rfl (asl rfl) (pf1 _ _ _) rfl qbi hl_12) ?_
      rintro _ _ ⟨u17_12, rfl, rfl⟩
      refine r_d rfl rfl rfl (qe rfl rfl) (qj (qF (gr [.d, .d] (r_d rfl rfl rfl (s_ar (r := t11_6 + 1) rfl rfl rfl rfl (by omega)) (r_d rfl rfl rfl (qb rfl rfl) (qj (qM [(2, .clo (.func 146) [.ref b_o0 0 []] []), (10, .int .i64 r_3.1), (7, .own u17_12 (l_12.map encG)), (11, .int .i64 (t11_6 + 1))] (Sub.cons' rfl (Sub.cons' rfl (Sub.cons' rfl (Sub.cons' rfl (Sub.nil _))))) (qc6 [_, _] _ ((pf0 _).trans (pf1 _ _ _)) ?_))))))))
      exact IH0 _ _ _ (by omega) ⟨l_12, (t11_6 + 1), r_11.2, u17_12, _, rfl, rfl, rfl, hi0', hr⟩
noncomputable def qfB (fuel : Nat) (c_0 : qd) : Option (Int ⊕ (qU × qd)) :=
  (bindX (qcl c_0) fun r_2 =>
  (bindX (qgn fuel 4 r_2.2) fun r_3 =>
  (bindX (qgn fuel 4 r_3.2) fun r_4 =>
  (bindX (qgs fuel 12 r_4.2) fun r_5 =>
  (bindX (qgs fuel 12 r_5.2) fun r_6 =>
  (bindX (qA 0 1048576 r_6.2) fun r_7 =>
  some (.inr ((⟨r_2.1, r_3.1, r_4.1, r_5.1, r_6.1, r_7.1⟩ : qU), r_7.2))))))))
set_option maxHeartbeats 1000000 in
theorem qg5 (fuel : Nat) (c_0 : qd) (b_o0 : Nat) (res : Int ⊕ (qU × qd)) (hr : qfB fuel c_0 = some res) : SpecX Tryz.prog 53 [.ref b_o0 0 []] [.cell b_o0 (qi c_0)] (fun d σ => ∃ r : qU × qd, res = .inr r ∧ d = qm r.1 ∧ σ = [.cell b_o0 (qi r.2)]) (fun d => ∃ c, res = .inl c ∧ d = .ifc 191 (.agg [.int .i64 c])) := by
  unfold qfB at hr
  refine qcG [(0, .ref b_o0 0 [])] Tryz.func53 rfl rfl fun K hK hX => (qh (gr [.w] (r_w rfl rfl rfl (qa8 rfl qjI) ?_)))
  rintro _ _ ⟨b2_0, rfl, rfl⟩
  refine qj (qh (gr [.d, .w, .d, .w] (r_d rfl rfl rfl (qb rfl rfl) ?_)))
  rcases bindXS hr with ⟨c_r_2, hr_2, rfl⟩ | ⟨r_2, hr_2, hr⟩
  ·
   refine qdq rfl rfl (qb5 _ rfl qbG (.oc rfl .nil) (by exact (pf1 _ _ _)) (q9 (qaY _ _ _ hr_2))) (hX _ ⟨_, rfl, rfl⟩)
  ·
   refine r_w rfl rfl rfl (qac _ rfl qbG (.oc rfl .nil) (by exact (pf1 _ _ _)) (qaa (qaY _ _ _ hr_2))) ?_
   rintro _ _ ⟨_, ⟨rfl, rfl⟩, rfl⟩
   refine r_st ((.cell b_o0 (qi r_2.2)) :: _) rfl (r_d rfl rfl rfl (qL rfl qi0 rfl) (qbE rfl rfl rfl (qcu _ rfl rfl rfl (Wk.refl _) (pf1 _ _ _) rfl rfl (by exact qdg) rfl rfl rfl) (qj (qh (gr [.d, .d, .d, .w, .d, .w] (r_d rfl rfl rfl (qb rfl rfl) (r_d rfl rfl rfl (qb rfl rfl) (r_d rfl rfl rfl (qcg rfl rfl rfl) ?_))))))))
   rcases bindXS hr with ⟨c_r_3, hr_3, rfl⟩ | ⟨r_3, hr_3, hr⟩
   ·
    refine qdq rfl rfl (qb5 _ rfl qeU (.oc rfl (.oc rfl (.oc rfl .nil))) (by exact (pf1 _ _ _)) (q9 (qgt fuel _ _ _ _ hr_3))) (hX _ ⟨_, rfl, rfl⟩)
   ·
    refine r_w rfl rfl rfl (qac _ rfl qeU (.oc rfl (.oc rfl (.oc rfl .nil))) (by exact (pf1 _ _ _)) (qaa (qgt fuel _ _ _ _ hr_3))) ?_
    rintro _ _ ⟨_, ⟨rfl, rfl⟩, rfl⟩
    refine r_st ((.cell b_o0 (qi r_3.2)) :: _) rfl (r_d rfl rfl rfl (qL rfl qeV rfl) (qbE rfl rfl rfl (qcu _ rfl rfl rfl (Wk.refl _) (pf1 _ _ _) rfl rfl (by exact qca) rfl rfl rfl) (qj (qh (gr [.d, .d, .d, .w, .d, .w] (r_d rfl rfl rfl (qb rfl rfl) (r_d rfl rfl rfl (qb rfl rfl) (r_d rfl rfl rfl (qcg rfl rfl rfl) ?_))))))))
    rcases bindXS hr with ⟨c_r_4, hr_4, rfl⟩ | ⟨r_4, hr_4, hr⟩
    ·
     refine qdq rfl rfl (qb5 _ rfl qeU (.oc rfl (.oc rfl (.oc rfl .nil))) (by exact (pf1 _ _ _)) (q9 (qgt fuel _ _ _ _ hr_4))) (hX _ ⟨_, rfl, rfl⟩)
    ·
     refine r_w rfl rfl rfl (qac _ rfl qeU (.oc rfl (.oc rfl (.oc rfl .nil))) (by exact (pf1 _ _ _)) (qaa (qgt fuel _ _ _ _ hr_4))) ?_
     rintro _ _ ⟨_, ⟨rfl, rfl⟩, rfl⟩
     refine r_st ((.cell b_o0 (qi r_4.2)) :: _) rfl (r_d rfl rfl rfl (qL rfl qe2 rfl) (qbE rfl rfl rfl (qcu _ rfl rfl rfl (Wk.refl _) (pf1 _ _ _) rfl rfl (by exact qca) rfl rfl rfl) (qj (qh (gr [.d, .d, .d, .w, .d, .w] (r_d rfl rfl rfl (qb rfl rfl) (r_d rfl rfl rfl (qb rfl rfl) (r_d rfl rfl rfl (qcg rfl rfl rfl) ?_))))))))
     rcases bindXS hr with ⟨c_r_5, hr_5, rfl⟩ | ⟨r_5, hr_5, hr⟩
     ·
      refine qdq rfl rfl (qb5 _ rfl qeZ (.oc rfl (.oc rfl (.oc rfl .nil))) (by exact (pf1 _ _ _)) (q9 (qgg fuel _ _ _ _ hr_5))) (hX _ ⟨_, rfl, rfl⟩)
     ·
      refine r_w rfl rfl rfl (qac _ rfl qeZ (.oc rfl (.oc rfl (.oc rfl .nil))) (by exact (pf1 _ _ _)) (qaa (qgg fuel _ _ _ _ hr_5))) ?_
      rintro _ _ ⟨_, ⟨rfl, rfl⟩, rfl⟩
      refine r_st ((.cell b_o0 (qi r_5.2)) :: _) rfl (r_d rfl rfl rfl (qL rfl qdM rfl) (qbE rfl rfl rfl (qcu _ rfl rfl rfl (Wk.refl _) (pf1 _ _ _) rfl rfl (by exact qa4) rfl rfl rfl) (qj (qh (gr [.d, .d, .d, .w, .d, .w] (r_d rfl rfl rfl (qb rfl rfl) (r_d rfl rfl rfl (qb rfl rfl) (r_d rfl rfl rfl (qcg rfl rfl rfl) ?_))))))))
      rcases bindXS hr with ⟨c_r_6, hr_6, rfl⟩ | ⟨r_6, hr_6, hr⟩
      ·
       refine qdq rfl rfl (qb5 _ rfl qeZ (.oc rfl (.oc rfl (.oc rfl .nil))) (by exact (pf1 _ _ _)) (q9 (qgg fuel _ _ _ _ hr_6))) (hX _ ⟨_, rfl, rfl⟩)
      ·
       refine r_w rfl rfl rfl (qac _ rfl qeZ (.oc rfl (.oc rfl (.oc rfl .nil))) (by exact (pf1 _ _ _)) (qaa (qgg fuel _ _ _ _ hr_6))) ?_
       rintro _ _ ⟨_, ⟨rfl, rfl⟩, rfl⟩
       refine r_st ((.cell b_o0 (qi r_6.2)) :: _) rfl (r_d rfl rfl rfl (qL rfl qec rfl) (qbE rfl rfl rfl (qcu _ rfl rfl rfl (Wk.refl _) (pf1 _ _ _) rfl rfl (by exact qa4) rfl rfl rfl) (qj (qh (gr [.d, .w, .d, .w] (r_d rfl rfl rfl (qb rfl rfl) ?_))))))
       rcases bindXS hr with ⟨c_r_7, hr_7, rfl⟩ | ⟨r_7, hr_7, hr⟩
       ·
        refine qdq rfl rfl (qb5 _ rfl qp (.oc rfl (.oc rfl (.oc rfl .nil))) (by exact (pf1 _ _ _)) (q9 (ql _ _ _ _ _ hr_7))) (hX _ ⟨_, rfl, rfl⟩)
       ·
        refine r_w rfl rfl rfl (qac _ rfl qp (.oc rfl (.oc rfl (.oc rfl .nil))) (by exact (pf1 _ _ _)) (qaa (ql _ _ _ _ _ hr_7))) ?_
        rintro _ _ ⟨_, ⟨rfl, rfl⟩, rfl⟩
        refine r_st ((.cell b_o0 (qi r_7.2)) :: _) rfl (r_d rfl rfl rfl (qL rfl qk7 rfl) (qbE rfl rfl rfl (qcu _ rfl rfl rfl (Wk.refl _) (pf1 _ _ _) rfl rfl (by exact qW) rfl rfl rfl) (qj (qh (gr [.r, .w] (r_r rfl rfl rfl (qap rfl rfl (.head _) rfl rfl (by exact qbF) rfl) (qbE rfl rfl rfl (qag _ rfl rfl rfl (Wk.refl _) (pf0 _) (by exact qbF) rfl rfl rfl) (qj (qaT 2 b2_0 rfl (pf0 _) ?_)))))))))
        obtain rfl := Option.some.inj hr
        refine qJ Tryz.func53 _ (.cons (resPtr rfl (by exact qbF) rfl (Wk.refl _)) .nil) ?_
        exact ⟨_, rfl, rfl, rfl⟩
noncomputable def qdV (k : ((List qU)) → (qd) → Option (Int ⊕ ((List qU) × qd))) (fuel : Nat) : Nat → (List qU) → qd → Option (Int ⊕ ((List qU) × qd))
  | 0, out_5, r_7 =>
  (k out_5 r_7)
  | rest + 1, out_5, r_7 =>
  (bindX (qfB fuel r_7) fun r_11 =>
  ((appO 120 out_5 [r_11.1]).bind fun l_12 =>
  (qdV k fuel rest l_12 r_11.2)))
noncomputable def qhN (fuel : Nat) (most_a1 : Int) (c_0 : qd) : Option (Int ⊕ ((List qU) × qd)) :=
  (bindX (qA 0 most_a1 c_0) fun r_3 =>
  (qdV (fun out_9 r_10 =>
  some (.inr (out_9, r_10))) fuel (r_3.1 - 0 : Int).toNat [] r_3.2))
set_option maxHeartbeats 1000000 in
theorem qjG (fuel : Nat) (most_a1 : Int) (c_0 : qd) (b_o0 : Nat) (res : Int ⊕ ((List qU) × qd)) (hr : qhN fuel most_a1 c_0 = some res) : SpecX Tryz.prog 52 [.ref b_o0 0 [], .int .i64 most_a1, .clo (.func 53) [.ref b_o0 0 []] []] [.cell b_o0 (qi c_0)] (fun d σ => ∃ r : (List qU) × qd, res = .inr r ∧ d = .lst (r.1.map qm) ∧ σ = [.cell b_o0 (qi r.2)]) (fun d => ∃ c, res = .inl c ∧ d = .ifc 191 (.agg [.int .i64 c])) := by
  unfold qhN at hr
  refine qcG [(0, .ref b_o0 0 []), (1, .int .i64 most_a1), (2, .clo (.func 53) [.ref b_o0 0 []] [])] Tryz.func52 rfl rfl fun K hK hX => (qh (gr [.w] (r_w rfl rfl rfl (qcw 68 6 (.inl rfl)) ?_)))
  rintro _ _ ⟨u6_0, rfl, rfl⟩
  refine qj (qh (gr [.w] (r_w rfl rfl rfl (qcw 68 6 (.inl rfl)) ?_)))
  rintro _ _ ⟨u7_1, rfl, rfl⟩
  refine qj (qh (qh (gr [.d, .d, .w, .d] (r_d rfl rfl rfl (qb rfl rfl) (r_d rfl rfl rfl (qb rfl rfl) ?_)))))
  rcases bindXS hr with ⟨c_r_3, hr_3, rfl⟩ | ⟨r_3, hr_3, hr⟩
  ·
   refine qdq rfl rfl (qb5 _ rfl qp (.oc rfl (.oc rfl (.oc rfl .nil))) (by exact (pf2 _ _ _ _)) (q9 (ql _ _ _ _ _ hr_3))) (hX _ ⟨_, rfl, rfl⟩)
  ·
   refine r_w rfl rfl rfl (qac _ rfl qp (.oc rfl (.oc rfl (.oc rfl .nil))) (by exact (pf2 _ _ _ _)) (qaa (ql _ _ _ _ _ hr_3))) ?_
   rintro _ _ ⟨_, ⟨rfl, rfl⟩, rfl⟩
   refine r_st ((.cell b_o0 (qi r_3.2)) :: _) rfl (r_d rfl rfl rfl (qb rfl rfl) (qj ?_))
   obtain ⟨kk0, hkk0, hr⟩ := exK (fun k => qdV k fuel (r_3.1 - 0 : Int).toNat [] r_3.2) hr
   refine qhJ 10 rfl fun hla0 => ?_
   refine qV (fun env σ => ∃ (out_9 : (List qU)) (r_10 : qd) (u_8 : Value), env = [(7, .own u_8 (out_9.map qm))] ∧ σ = [.row u_8 out_9.length 68 6, .cell b_o0 (qi r_10)] ∧ kk0 out_9 r_10 = some res) ?_ (fun HK0 => ?_)
   ·
    rintro _ _ ⟨out_9, r_10, u_8, rfl, rfl, hr⟩
    rw [hkk0] at hr
    refine qh (gr [.d, .d] (r_d rfl rfl rfl (qb rfl rfl) (r_d rfl rfl rfl (qe rfl rfl) (qj (qc6 [_] _ (pf1 _ _ _) ?_)))))
    obtain rfl := Option.some.inj hr
    refine qJ Tryz.func52 _ (.cons (resTmp rfl (Wk.own _ _)) .nil) ?_
    exact ⟨_, rfl, rfl, rfl⟩
   ·
    refine qM [(2, .clo (.func 53) [.ref b_o0 0 []] []), (10, .int .i64 r_3.1), (7, .own u7_1 ([].map qm)), (11, .int .i64 0)] (Sub.cons' rfl (Sub.cons' rfl (Sub.cons' rfl (Sub.cons' rfl (Sub.nil _))))) (qc6 [_, _] _ ((pf1 _ _ _).trans (pf1 _ _ _)) (qaM (fun n env σ => ∃ (out_5 : (List qU)) (t11_6 : Int) (r_7 : qd) (u_4 : Value) (m0 : Nat), (m0 = n) ∧ (env = [(2, .clo (.func 53) [.ref b_o0 0 []] []), (10, .int .i64 r_3.1), (7, .own u_4 (out_5.map qm)), (11, .int .i64 t11_6)]) ∧ (σ = [.cell b_o0 (qi r_7), .row u_4 out_5.length 68 6]) ∧ (m0 = (r_3.1 - t11_6 : Int).toNat) ∧ (qdV kk0 fuel m0 out_5 r_7 = some res)) _ ⟨[], 0, r_3.2, u7_1, _, rfl, rfl, rfl, rfl, hr⟩ ?_))
    rintro n _ _ ⟨out_5, t11_6, r_7, u_4, m0, rfl, rfl, rfl, hi0, hr⟩ IH0
    refine qhJ 11 rfl fun hb0 => ?_
    rcases cntStep t11_6 r_3.1 m0 hi0 with ⟨hm0, ht0⟩ | ⟨m0', hm0, ht0, hi0', hlt0⟩
    ·
     rw [hm0, qdV] at hr
     refine qh (gr [.d] (r_d rfl rfl rfl (qB rfl rfl rfl rfl) (qj (qh (qC 12 false rfl ht0 (qs rfl (qaw rfl (qM [(7, .own u_4 (out_5.map qm))] (Sub.cons' rfl (Sub.nil _)) (qc6 [_, _] _ ((pf0 _).trans (pf1 _ _ _)) ?_)))))))))
     exact HK0 _ _ ⟨out_5, r_7, u_4, rfl, rfl, hr⟩
    ·
     rw [hm0, qdV] at hr
     refine qh (gr [.d] (r_d rfl rfl rfl (qB rfl rfl rfl rfl) (qj (qh (qhJ 10 rfl fun hbN10 => (qC 12 true rfl ht0 (qo rfl (qE (qh (q0 (gr [.d, .d, .w, .d, .w, .d] ?_)))))))))))
     refine r_d rfl rfl rfl (qb rfl rfl) (r_d rfl rfl rfl (qb rfl rfl) ?_)
     rcases bindXS hr with ⟨c_r_11, hr_11, rfl⟩ | ⟨r_11, hr_11, hr⟩
     ·
      refine qdq rfl rfl (qiF _ rfl rfl qh0 .nil rfl (by exact (pf0 _)) (q9 (qg5 fuel _ _ _ hr_11))) (hX _ ⟨_, rfl, rfl⟩)
     ·
      refine r_w rfl rfl rfl (qfj _ rfl rfl qh0 .nil rfl (by exact (pf0 _)) (qaa (qg5 fuel _ _ _ hr_11))) ?_
      rintro _ _ ⟨_, ⟨rfl, rfl⟩, rfl⟩
      refine r_st ((.cell b_o0 (qi r_11.2)) :: _) rfl (r_d rfl rfl rfl (qiL (f := qm) [.tmp 15] [r_11.1] rfl qbe rfl rfl (by decide) (by decide) (.oc rfl .nil) qah (fun _ => rfl)) ?_)
      obtain ⟨l_12, hl_12, hr⟩ := bindS hr
      refine r_w rfl rfl rfl (qcK (f := qm) out_5 [r_11.1] rfl qbe rfl rfl (asl rfl) (pf1 _ _ _) rfl qah hl_12) ?_
      rintro _ _ ⟨u17_12, rfl, rfl⟩
      refine r_d rfl rfl rfl (qe rfl rfl) (qj (qF (gr [.d, .d] (r_d rfl rfl rfl (s_ar (r := t11_6 + 1) rfl rfl rfl rfl (by omega)) (r_d rfl rfl rfl (qb rfl rfl) (qj (qM [(2, .clo (.func 53) [.ref b_o0 0 []] []), (10, .int .i64 r_3.1), (7, .own u17_12 (l_12.map qm)), (11, .int .i64 (t11_6 + 1))] (Sub.cons' rfl (Sub.cons' rfl (Sub.cons' rfl (Sub.cons' rfl (Sub.nil _))))) (qc6 [_, _] _ ((pf0 _).trans (pf1 _ _ _)) ?_))))))))
      exact IH0 _ _ _ (by omega) ⟨l_12, (t11_6 + 1), r_11.2, u17_12, _, rfl, rfl, rfl, hi0', hr⟩
noncomputable def qfv (fuel : Nat) (c_0 : qd) : Option (Int ⊕ (qI × qd)) :=
  (bindX (qhQ 30 c_0) fun r_2 =>
  (bindX (qhN fuel 40 r_2.2) fun r_3 =>
  some (.inr ((⟨r_2.1, r_3.1⟩ : qI), r_3.2))))
set_option maxHeartbeats 1000000 in
theorem qgQ (fuel : Nat) (c_0 : qd) (b_o0 : Nat) (res : Int ⊕ (qI × qd)) (hr : qfv fuel c_0 = some res) : SpecX Tryz.prog 47 [.ref b_o0 0 []] [.cell b_o0 (qi c_0)] (fun d σ => ∃ r : qI × qd, res = .inr r ∧ d = qn r.1 ∧ σ = [.cell b_o0 (qi r.2)]) (fun d => ∃ c, res = .inl c ∧ d = .ifc 191 (.agg [.int .i64 c])) := by
  unfold qfv at hr
  refine qcG [(0, .ref b_o0 0 [])] Tryz.func47 rfl rfl fun K hK hX => (qh (gr [.d, .w] (r_d rfl rfl rfl (qef rfl rfl rfl) (r_w rfl rfl rfl (qa8 rfl qfx) ?_))))
  rintro _ _ ⟨b2_0, rfl, rfl⟩
  refine qj (qh (gr [.d, .d, .w, .d, .w] (r_d rfl rfl rfl (qk rfl rfl (by exact qad) rfl) (r_d rfl rfl rfl (qcg rfl rfl rfl) ?_))))
  rcases bindXS hr with ⟨c_r_2, hr_2, rfl⟩ | ⟨r_2, hr_2, hr⟩
  ·
   refine qdq rfl rfl (qb5 _ rfl qhA (.oc rfl (.oc rfl (.oc rfl .nil))) (by exact (pf1 _ _ _)) (q9 (qjn _ _ _ _ hr_2))) (hX _ ⟨_, rfl, rfl⟩)
  ·
   refine r_w rfl rfl rfl (qac _ rfl qhA (.oc rfl (.oc rfl (.oc rfl .nil))) (by exact (pf1 _ _ _)) (qaa (qjn _ _ _ _ hr_2))) ?_
   rintro _ _ ⟨_, ⟨rfl, rfl⟩, rfl⟩
   refine r_st ((.cell b_o0 (qi r_2.2)) :: _) rfl (r_d rfl rfl rfl (qL rfl qce rfl) (qbE rfl rfl rfl (qcu _ rfl rfl rfl (Wk.refl _) (pf1 _ _ _) rfl rfl (by exact qde) rfl rfl rfl) (qj (qh (gr [.d, .d, .d, .w, .d, .w] (r_d rfl rfl rfl (qk rfl rfl (by exact qad) rfl) (r_d rfl rfl rfl (qk rfl rfl (by exact qad) rfl) (r_d rfl rfl rfl (qcg rfl rfl rfl) ?_))))))))
   rcases bindXS hr with ⟨c_r_3, hr_3, rfl⟩ | ⟨r_3, hr_3, hr⟩
   ·
    refine qdq rfl rfl (qb5 _ rfl qhE (.oc rfl (.oc rfl (.oc rfl .nil))) (by exact (pf1 _ _ _)) (q9 (qjG fuel _ _ _ _ hr_3))) (hX _ ⟨_, rfl, rfl⟩)
   ·
    refine r_w rfl rfl rfl (qac _ rfl qhE (.oc rfl (.oc rfl (.oc rfl .nil))) (by exact (pf1 _ _ _)) (qaa (qjG fuel _ _ _ _ hr_3))) ?_
    rintro _ _ ⟨_, ⟨rfl, rfl⟩, rfl⟩
    refine r_st ((.cell b_o0 (qi r_3.2)) :: _) rfl (r_d rfl rfl rfl (qL rfl qaJ rfl) (qbE rfl rfl rfl (qcu _ rfl rfl rfl (Wk.refl _) (pf1 _ _ _) rfl rfl (by exact qbZ) rfl rfl rfl) (qj (qh (gr [.r, .w] (r_r rfl rfl rfl (qap rfl rfl (.head _) rfl rfl (by exact qam) rfl) (qbE rfl rfl rfl (qag _ rfl rfl rfl (Wk.refl _) (pf0 _) (by exact qam) rfl rfl rfl) (qj (qaT 2 b2_0 rfl (pf0 _) ?_)))))))))
    obtain rfl := Option.some.inj hr
    refine qJ Tryz.func47 _ (.cons (resPtr rfl (by exact qam) rfl (Wk.refl _)) .nil) ?_
    exact ⟨_, rfl, rfl, rfl⟩
noncomputable def qfr (fuel : Nat) (c_0 : qd) : Option (Int ⊕ (qas × qd)) :=
  (bindX (qA 0 2147483648 c_0) fun r_2 =>
  (bindX (qA (-1) 2147483648 r_2.2) fun r_3 =>
  (bif (r_2.1 == (0 : Int)) then
  (bindX (qex fuel r_3.2) fun r_5 =>
  some (.inr ((⟨r_5.1, r_2.1, r_3.1⟩ : qas), r_5.2)))
  else
  some (.inr ((⟨(⟨0, ⟨#[]⟩, []⟩ : Gl), r_2.1, r_3.1⟩ : qas), r_3.2)))))
set_option maxHeartbeats 1000000 in
theorem qgN (fuel : Nat) (c_0 : qd) (b_o0 : Nat) (res : Int ⊕ (qas × qd)) (hr : qfr fuel c_0 = some res) : SpecX Tryz.prog 79 [.ref b_o0 0 []] [.cell b_o0 (qi c_0)] (fun d σ => ∃ r : qas × qd, res = .inr r ∧ d = qP r.1 ∧ σ = [.cell b_o0 (qi r.2)]) (fun d => ∃ c, res = .inl c ∧ d = .ifc 191 (.agg [.int .i64 c])) := by
  unfold qfr at hr
  refine qcG [(0, .ref b_o0 0 [])] Tryz.func79 rfl rfl fun K hK hX => (qh (gr [.w] (r_w rfl rfl rfl (qa8 rfl qlt) ?_)))
  rintro _ _ ⟨b2_0, rfl, rfl⟩
  refine qj (qh (gr [.d, .w, .d, .w] (r_d rfl rfl rfl (qb rfl rfl) ?_)))
  rcases bindXS hr with ⟨c_r_2, hr_2, rfl⟩ | ⟨r_2, hr_2, hr⟩
  ·
   refine qdq rfl rfl (qb5 _ rfl qp (.oc rfl (.oc rfl (.oc rfl .nil))) (by exact (pf1 _ _ _)) (q9 (ql _ _ _ _ _ hr_2))) (hX _ ⟨_, rfl, rfl⟩)
  ·
   refine r_w rfl rfl rfl (qac _ rfl qp (.oc rfl (.oc rfl (.oc rfl .nil))) (by exact (pf1 _ _ _)) (qaa (ql _ _ _ _ _ hr_2))) ?_
   rintro _ _ ⟨_, ⟨rfl, rfl⟩, rfl⟩
   refine r_st ((.cell b_o0 (qi r_2.2)) :: _) rfl (r_d rfl rfl rfl (qL rfl qfT rfl) (qbE rfl rfl rfl (qcu _ rfl rfl rfl (Wk.refl _) (pf1 _ _ _) rfl (by first | rfl | simp [offD, szs, sz, qdC, qan, qbi]) (by exact qW) rfl rfl rfl) (qj (qh (gr [.d, .w, .d, .w] (r_d rfl rfl rfl (qb rfl rfl) ?_))))))
   rcases bindXS hr with ⟨c_r_3, hr_3, rfl⟩ | ⟨r_3, hr_3, hr⟩
   ·
    refine qdq rfl rfl (qb5 _ rfl qp (.oc rfl (.oc rfl (.oc rfl .nil))) (by exact (pf1 _ _ _)) (q9 (ql _ _ _ _ _ hr_3))) (hX _ ⟨_, rfl, rfl⟩)
   ·
    refine r_w rfl rfl rfl (qac _ rfl qp (.oc rfl (.oc rfl (.oc rfl .nil))) (by exact (pf1 _ _ _)) (qaa (ql _ _ _ _ _ hr_3))) ?_
    rintro _ _ ⟨_, ⟨rfl, rfl⟩, rfl⟩
    refine r_st ((.cell b_o0 (qi r_3.2)) :: _) rfl (r_d rfl rfl rfl (qL rfl qgE rfl) (qbE rfl rfl rfl (qcu _ rfl rfl rfl (Wk.refl _) (pf1 _ _ _) rfl (by first | rfl | simp [offD, szs, sz, qdC, qan, qbi]) (by exact qW) rfl rfl rfl) (qj (qh (qh (gr [.d, .r, .d] (r_d rfl rfl rfl (qL rfl qfT rfl) (r_r rfl rfl rfl (qap rfl rfl (.head _) rfl (by first | rfl | simp [offD, szs, sz, qdC, qan, qbi]) (by exact qW) rfl) (r_d rfl rfl rfl (qB rfl rfl rfl rfl) (qj ?_))))))))))
    refine g_sB 11 rfl hr (fun h11_3 hr => ?_) (fun h11_3 hr => ?_)
    ·
     refine qo rfl (gr [.d, .w, .d, .w] (r_d rfl rfl rfl (qb rfl rfl) ?_))
     rcases bindXS hr with ⟨c_r_5, hr_5, rfl⟩ | ⟨r_5, hr_5, hr⟩
     ·
      refine qdq rfl rfl (qb5 _ rfl qfe (.oc rfl .nil) (by exact (pf1 _ _ _)) (q9 (qeF fuel _ _ _ hr_5))) (hX _ ⟨_, rfl, rfl⟩)
     ·
      refine r_w rfl rfl rfl (qac _ rfl qfe (.oc rfl .nil) (by exact (pf1 _ _ _)) (qaa (qeF fuel _ _ _ hr_5))) ?_
      rintro _ _ ⟨_, ⟨rfl, rfl⟩, rfl⟩
      refine r_st ((.cell b_o0 (qi r_5.2)) :: _) rfl (r_d rfl rfl rfl (qL rfl qe1 rfl) (qbE rfl rfl rfl (qcu _ rfl rfl rfl (Wk.refl _) (pf1 _ _ _) rfl (by first | rfl | simp [offD, szs, sz, qdC, qan, qbi]) (by exact qdb) (qbi _) rfl rfl) (qj (qh (gr [.r, .w] (r_r rfl rfl rfl (qap rfl rfl (.head _) rfl rfl (by exact qe4) (by first | rfl | simp [sz, szs, qdC, qbi])) (qbE rfl rfl rfl (qag _ rfl rfl rfl (Wk.refl _) (pf0 _) (by exact qe4) (by first | rfl | simp [sz, szs, qdC, qbi]) (by first | rfl | simp [sz, szs, qdC, qbi]) rfl) (qj (qaT 2 b2_0 rfl (pf0 _) ?_)))))))))
      obtain rfl := Option.some.inj hr
      refine qJ Tryz.func79 _ (.cons (resPtr rfl (by exact qe4) (by first | rfl | simp [sz, szs, qdC, qbi]) (Wk.refl _)) .nil) ?_
      exact ⟨_, rfl, rfl, rfl⟩
    ·
     refine qs rfl (qE (qh (gr [.r, .w] (r_r rfl rfl rfl (qap rfl rfl (.head _) rfl rfl (by exact qe4) (by first | rfl | simp [sz, szs, qdC, qbi])) (qbE rfl rfl rfl (qag _ rfl rfl rfl (Wk.refl _) (pf0 _) (by exact qe4) (by first | rfl | simp [sz, szs, qdC, qbi]) (by first | rfl | simp [sz, szs, qdC, qbi]) rfl) (qj (qaT 2 b2_0 rfl (pf0 _) ?_)))))))
     obtain rfl := Option.some.inj hr
     refine qJ Tryz.func79 _ (.cons (resPtr rfl (by exact qe4) (by first | rfl | simp [sz, szs, qdC, qbi]) (Wk.refl _)) .nil) ?_
     exact ⟨_, rfl, rfl, rfl⟩
noncomputable def qdS (k : ((List qas)) → (qd) → Option (Int ⊕ ((List qas) × qd))) (fuel : Nat) : Nat → (List qas) → qd → Option (Int ⊕ ((List qas) × qd))
  | 0, out_5, r_7 =>
  (k out_5 r_7)
  | rest + 1, out_5, r_7 =>
  (bindX (qfr fuel r_7) fun r_11 =>
  ((appO 64 out_5 [r_11.1]).bind fun l_12 =>
  (qdS k fuel rest l_12 r_11.2)))
noncomputable def qhR (fuel : Nat) (most_a1 : Int) (c_0 : qd) : Option (Int ⊕ ((List qas) × qd)) :=
  (bindX (qA 0 most_a1 c_0) fun r_3 =>
  (qdS (fun out_9 r_10 =>
  some (.inr (out_9, r_10))) fuel (r_3.1 - 0 : Int).toNat [] r_3.2))
set_option maxHeartbeats 1000000 in
theorem qjh (fuel : Nat) (most_a1 : Int) (c_0 : qd) (b_o0 : Nat) (res : Int ⊕ ((List qas) × qd)) (hr : qhR fuel most_a1 c_0 = some res) : SpecX Tryz.prog 78 [.ref b_o0 0 [], .int .i64 most_a1, .clo (.func 79) [.ref b_o0 0 []] []] [.cell b_o0 (qi c_0)] (fun d σ => ∃ r : (List qas) × qd, res = .inr r ∧ d = .lst (r.1.map qP) ∧ σ = [.cell b_o0 (qi r.2)]) (fun d => ∃ c, res = .inl c ∧ d = .ifc 191 (.agg [.int .i64 c])) := by
  unfold qhR at hr
  refine qcG [(0, .ref b_o0 0 []), (1, .int .i64 most_a1), (2, .clo (.func 79) [.ref b_o0 0 []] [])] Tryz.func78 rfl rfl fun K hK hX => (qh (gr [.w] (r_w rfl rfl rfl (qcw 75 5 (.inl rfl)) ?_)))
  rintro _ _ ⟨u6_0, rfl, rfl⟩
  refine qj (qh (gr [.w] (r_w rfl rfl rfl (qcw 75 5 (.inl rfl)) ?_)))
  rintro _ _ ⟨u7_1, rfl, rfl⟩
  refine qj (qh (qh (gr [.d, .d, .w, .d] (r_d rfl rfl rfl (qb rfl rfl) (r_d rfl rfl rfl (qb rfl rfl) ?_)))))
  rcases bindXS hr with ⟨c_r_3, hr_3, rfl⟩ | ⟨r_3, hr_3, hr⟩
  ·
   refine qdq rfl rfl (qb5 _ rfl qp (.oc rfl (.oc rfl (.oc rfl .nil))) (by exact (pf2 _ _ _ _)) (q9 (ql _ _ _ _ _ hr_3))) (hX _ ⟨_, rfl, rfl⟩)
  ·
   refine r_w rfl rfl rfl (qac _ rfl qp (.oc rfl (.oc rfl (.oc rfl .nil))) (by exact (pf2 _ _ _ _)) (qaa (ql _ _ _ _ _ hr_3))) ?_
   rintro _ _ ⟨_, ⟨rfl, rfl⟩, rfl⟩
   refine r_st ((.cell b_o0 (qi r_3.2)) :: _) rfl (r_d rfl rfl rfl (qb rfl rfl) (qj ?_))
   obtain ⟨kk0, hkk0, hr⟩ := exK (fun k => qdS k fuel (r_3.1 - 0 : Int).toNat [] r_3.2) hr
   refine qhJ 10 rfl fun hla0 => ?_
   refine qV (fun env σ => ∃ (out_9 : (List qas)) (r_10 : qd) (u_8 : Value), env = [(7, .own u_8 (out_9.map qP))] ∧ σ = [.row u_8 out_9.length 75 5, .cell b_o0 (qi r_10)] ∧ kk0 out_9 r_10 = some res) ?_ (fun HK0 => ?_)
   ·
    rintro _ _ ⟨out_9, r_10, u_8, rfl, rfl, hr⟩
    rw [hkk0] at hr
    refine qh (gr [.d, .d] (r_d rfl rfl rfl (qb rfl rfl) (r_d rfl rfl rfl (qe rfl rfl) (qj (qc6 [_] _ (pf1 _ _ _) ?_)))))
    obtain rfl := Option.some.inj hr
    refine qJ Tryz.func78 _ (.cons (resTmp rfl (Wk.own _ _)) .nil) ?_
    exact ⟨_, rfl, rfl, rfl⟩
   ·
    refine qM [(2, .clo (.func 79) [.ref b_o0 0 []] []), (10, .int .i64 r_3.1), (7, .own u7_1 ([].map qP)), (11, .int .i64 0)] (Sub.cons' rfl (Sub.cons' rfl (Sub.cons' rfl (Sub.cons' rfl (Sub.nil _))))) (qc6 [_, _] _ ((pf1 _ _ _).trans (pf1 _ _ _)) (qaM (fun n env σ => ∃ (out_5 : (List qas)) (t11_6 : Int) (r_7 : qd) (u_4 : Value) (m0 : Nat), (m0 = n) ∧ (env = [(2, .clo (.func 79) [.ref b_o0 0 []] []), (10, .int .i64 r_3.1), (7, .own u_4 (out_5.map qP)), (11, .int .i64 t11_6)]) ∧ (σ = [.cell b_o0 (qi r_7), .row u_4 out_5.length 75 5]) ∧ (m0 = (r_3.1 - t11_6 : Int).toNat) ∧ (qdS kk0 fuel m0 out_5 r_7 = some res)) _ ⟨[], 0, r_3.2, u7_1, _, rfl, rfl, rfl, rfl, hr⟩ ?_))
    rintro n _ _ ⟨out_5, t11_6, r_7, u_4, m0, rfl, rfl, rfl, hi0, hr⟩ IH0
    refine qhJ 11 rfl fun hb0 => ?_
    rcases cntStep t11_6 r_3.1 m0 hi0 with ⟨hm0, ht0⟩ | ⟨m0', hm0, ht0, hi0', hlt0⟩
    ·
     rw [hm0, qdS] at hr
     refine qh (gr [.d] (r_d rfl rfl rfl (qB rfl rfl rfl rfl) (qj (qh (qC 12 false rfl ht0 (qs rfl (qaw rfl (qM [(7, .own u_4 (out_5.map qP))] (Sub.cons' rfl (Sub.nil _)) (qc6 [_, _] _ ((pf0 _).trans (pf1 _ _ _)) ?_)))))))))
     exact HK0 _ _ ⟨out_5, r_7, u_4, rfl, rfl, hr⟩
    ·
     rw [hm0, qdS] at hr
     refine qh (gr [.d] (r_d rfl rfl rfl (qB rfl rfl rfl rfl) (qj (qh (qhJ 10 rfl fun hbN10 => (qC 12 true rfl ht0 (qo rfl (qE (qh (q0 (gr [.d, .d, .w, .d, .w, .d] ?_)))))))))))
     refine r_d rfl rfl rfl (qb rfl rfl) (r_d rfl rfl rfl (qb rfl rfl) ?_)
     rcases bindXS hr with ⟨c_r_11, hr_11, rfl⟩ | ⟨r_11, hr_11, hr⟩
     ·
      refine qdq rfl rfl (qiF _ rfl rfl qhq .nil rfl (by exact (pf0 _)) (q9 (qgN fuel _ _ _ hr_11))) (hX _ ⟨_, rfl, rfl⟩)
     ·
      refine r_w rfl rfl rfl (qfj _ rfl rfl qhq .nil rfl (by exact (pf0 _)) (qaa (qgN fuel _ _ _ hr_11))) ?_
      rintro _ _ ⟨_, ⟨rfl, rfl⟩, rfl⟩
      refine r_st ((.cell b_o0 (qi r_11.2)) :: _) rfl (r_d rfl rfl rfl (qiL (f := qP) [.tmp 15] [r_11.1] rfl qcv rfl rfl (by decide) (by decide) (.oc rfl .nil) qdD (fun _ => rfl)) ?_)
      obtain ⟨l_12, hl_12, hr⟩ := bindS hr
      refine r_w rfl rfl rfl (qcK (f := qP) out_5 [r_11.1] rfl qcv rfl rfl (asl rfl) (pf1 _ _ _) rfl qdD hl_12) ?_
      rintro _ _ ⟨u17_12, rfl, rfl⟩
      refine r_d rfl rfl rfl (qe rfl rfl) (qj (qF (gr [.d, .d] (r_d rfl rfl rfl (s_ar (r := t11_6 + 1) rfl rfl rfl rfl (by omega)) (r_d rfl rfl rfl (qb rfl rfl) (qj (qM [(2, .clo (.func 79) [.ref b_o0 0 []] []), (10, .int .i64 r_3.1), (7, .own u17_12 (l_12.map qP)), (11, .int .i64 (t11_6 + 1))] (Sub.cons' rfl (Sub.cons' rfl (Sub.cons' rfl (Sub.cons' rfl (Sub.nil _))))) (qc6 [_, _] _ ((pf0 _).trans (pf1 _ _ _)) ?_))))))))
      exact IH0 _ _ _ (by omega) ⟨l_12, (t11_6 + 1), r_11.2, u17_12, _, rfl, rfl, rfl, hi0', hr⟩
noncomputable def qfG (fuel : Nat) (c_0 : qd) : Option (Int ⊕ ((Int × At) × qd)) :=
  (bindX (qA 0 2147483648 c_0) fun r_2 =>
  (bindX (qeG fuel r_2.2) fun r_3 =>
  some (.inr ((r_2.1, r_3.1), r_3.2))))
set_option maxHeartbeats 1000000 in
theorem qgR (fuel : Nat) (c_0 : qd) (b_o0 : Nat) (res : Int ⊕ ((Int × At) × qd)) (hr : qfG fuel c_0 = some res) : SpecX Tryz.prog 81 [.ref b_o0 0 []] [.cell b_o0 (qi c_0)] (fun d σ => ∃ r : (Int × At) × qd, res = .inr r ∧ d = encIt r.1 ∧ σ = [.cell b_o0 (qi r.2)]) (fun d => ∃ c, res = .inl c ∧ d = .ifc 191 (.agg [.int .i64 c])) := by
  unfold qfG at hr
  refine qcG [(0, .ref b_o0 0 [])] Tryz.func81 rfl rfl fun K hK hX => (qh (gr [.w] (r_w rfl rfl rfl (qa8 rfl qnM) ?_)))
  rintro _ _ ⟨b2_0, rfl, rfl⟩
  refine qj (qh (gr [.d, .w, .d] (r_d rfl rfl rfl (qb rfl rfl) ?_)))
  rcases bindXS hr with ⟨c_r_2, hr_2, rfl⟩ | ⟨r_2, hr_2, hr⟩
  ·
   refine qdq rfl rfl (qb5 _ rfl qp (.oc rfl (.oc rfl (.oc rfl .nil))) (by exact (pf1 _ _ _)) (q9 (ql _ _ _ _ _ hr_2))) (hX _ ⟨_, rfl, rfl⟩)
  ·
   refine r_w rfl rfl rfl (qac _ rfl qp (.oc rfl (.oc rfl (.oc rfl .nil))) (by exact (pf1 _ _ _)) (qaa (ql _ _ _ _ _ hr_2))) ?_
   rintro _ _ ⟨_, ⟨rfl, rfl⟩, rfl⟩
   refine r_st ((.cell b_o0 (qi r_2.2)) :: _) rfl (r_d rfl rfl rfl (qe rfl rfl) (qj (qh (gr [.d, .d, .w, .d, .w] (r_d rfl rfl rfl (qb rfl rfl) (r_d rfl rfl rfl (qb rfl rfl) ?_))))))
   rcases bindXS hr with ⟨c_r_3, hr_3, rfl⟩ | ⟨r_3, hr_3, hr⟩
   ·
    refine qdq rfl rfl (qb5 _ rfl qfd (.oc rfl .nil) (by exact (pf0 _)) (q9 (qez fuel _ _ _ hr_3))) (hX _ ⟨_, rfl, rfl⟩)
   ·
    refine r_w rfl rfl rfl (qac _ rfl qfd (.oc rfl .nil) (by exact (pf0 _)) (qaa (qez fuel _ _ _ hr_3))) ?_
    rintro _ _ ⟨_, ⟨rfl, rfl⟩, rfl⟩
    refine r_st ((.cell b_o0 (qi r_3.2)) :: _) rfl (r_d rfl rfl rfl (qeB rfl qnp (.oc rfl (.oc rfl .nil)) (.cons rfl rfl rfl (.cons rfl (qan _) rfl (.nil _)))) (qbE rfl rfl rfl (qag _ rfl rfl rfl (Wk.refl _) (pf1 _ _ _) (by exact qjm) (by first | rfl | simp [sz, szs, qdC, qan]) (by first | rfl | simp [sz, szs, qdC, qan]) rfl) (qj (qaT 2 b2_0 rfl (pf0 _) ?_))))
    obtain rfl := Option.some.inj hr
    refine qJ Tryz.func81 _ (.cons (resPtr rfl (by exact qjm) (by first | rfl | simp [sz, szs, qdC, qan]) (Wk.refl _)) .nil) ?_
    exact ⟨_, rfl, rfl, rfl⟩
noncomputable def qdX (k : ((List (Int × At))) → (qd) → Option (Int ⊕ ((List (Int × At)) × qd))) (fuel : Nat) : Nat → (List (Int × At)) → qd → Option (Int ⊕ ((List (Int × At)) × qd))
  | 0, out_5, r_7 =>
  (k out_5 r_7)
  | rest + 1, out_5, r_7 =>
  (bindX (qfG fuel r_7) fun r_11 =>
  ((appO 48 out_5 [r_11.1]).bind fun l_12 =>
  (qdX k fuel rest l_12 r_11.2)))
noncomputable def qhL (fuel : Nat) (most_a1 : Int) (c_0 : qd) : Option (Int ⊕ ((List (Int × At)) × qd)) :=
  (bindX (qA 0 most_a1 c_0) fun r_3 =>
  (qdX (fun out_9 r_10 =>
  some (.inr (out_9, r_10))) fuel (r_3.1 - 0 : Int).toNat [] r_3.2))
set_option maxHeartbeats 1000000 in
theorem qjz (fuel : Nat) (most_a1 : Int) (c_0 : qd) (b_o0 : Nat) (res : Int ⊕ ((List (Int × At)) × qd)) (hr : qhL fuel most_a1 c_0 = some res) : SpecX Tryz.prog 80 [.ref b_o0 0 [], .int .i64 most_a1, .clo (.func 81) [.ref b_o0 0 []] []] [.cell b_o0 (qi c_0)] (fun d σ => ∃ r : (List (Int × At)) × qd, res = .inr r ∧ d = .lst (r.1.map encIt) ∧ σ = [.cell b_o0 (qi r.2)]) (fun d => ∃ c, res = .inl c ∧ d = .ifc 191 (.agg [.int .i64 c])) := by
  unfold qhL at hr
  refine qcG [(0, .ref b_o0 0 []), (1, .int .i64 most_a1), (2, .clo (.func 81) [.ref b_o0 0 []] [])] Tryz.func80 rfl rfl fun K hK hX => (qh (gr [.w] (r_w rfl rfl rfl (qcw 109 3 (.inl rfl)) ?_)))
  rintro _ _ ⟨u6_0, rfl, rfl⟩
  refine qj (qh (gr [.w] (r_w rfl rfl rfl (qcw 109 3 (.inl rfl)) ?_)))
  rintro _ _ ⟨u7_1, rfl, rfl⟩
  refine qj (qh (qh (gr [.d, .d, .w, .d] (r_d rfl rfl rfl (qb rfl rfl) (r_d rfl rfl rfl (qb rfl rfl) ?_)))))
  rcases bindXS hr with ⟨c_r_3, hr_3, rfl⟩ | ⟨r_3, hr_3, hr⟩
  ·
   refine qdq rfl rfl (qb5 _ rfl qp (.oc rfl (.oc rfl (.oc rfl .nil))) (by exact (pf2 _ _ _ _)) (q9 (ql _ _ _ _ _ hr_3))) (hX _ ⟨_, rfl, rfl⟩)
  ·
   refine r_w rfl rfl rfl (qac _ rfl qp (.oc rfl (.oc rfl (.oc rfl .nil))) (by exact (pf2 _ _ _ _)) (qaa (ql _ _ _ _ _ hr_3))) ?_
   rintro _ _ ⟨_, ⟨rfl, rfl⟩, rfl⟩
   refine r_st ((.cell b_o0 (qi r_3.2)) :: _) rfl (r_d rfl rfl rfl (qb rfl rfl) (qj ?_))
   obtain ⟨kk0, hkk0, hr⟩ := exK (fun k => qdX k fuel (r_3.1 - 0 : Int).toNat [] r_3.2) hr
   refine qhJ 10 rfl fun hla0 => ?_
   refine qV (fun env σ => ∃ (out_9 : (List (Int × At))) (r_10 : qd) (u_8 : Value), env = [(7, .own u_8 (out_9.map encIt))] ∧ σ = [.row u_8 out_9.length 109 3, .cell b_o0 (qi r_10)] ∧ kk0 out_9 r_10 = some res) ?_ (fun HK0 => ?_)
   ·
    rintro _ _ ⟨out_9, r_10, u_8, rfl, rfl, hr⟩
    rw [hkk0] at hr
    refine qh (gr [.d, .d] (r_d rfl rfl rfl (qb rfl rfl) (r_d rfl rfl rfl (qe rfl rfl) (qj (qc6 [_] _ (pf1 _ _ _) ?_)))))
    obtain rfl := Option.some.inj hr
    refine qJ Tryz.func80 _ (.cons (resTmp rfl (Wk.own _ _)) .nil) ?_
    exact ⟨_, rfl, rfl, rfl⟩
   ·
    refine qM [(2, .clo (.func 81) [.ref b_o0 0 []] []), (10, .int .i64 r_3.1), (7, .own u7_1 ([].map encIt)), (11, .int .i64 0)] (Sub.cons' rfl (Sub.cons' rfl (Sub.cons' rfl (Sub.cons' rfl (Sub.nil _))))) (qc6 [_, _] _ ((pf1 _ _ _).trans (pf1 _ _ _)) (qaM (fun n env σ => ∃ (out_5 : (List (Int × At))) (t11_6 : Int) (r_7 : qd) (u_4 : Value) (m0 : Nat), (m0 = n) ∧ (env = [(2, .clo (.func 81) [.ref b_o0 0 []] []), (10, .int .i64 r_3.1), (7, .own u_4 (out_5.map encIt)), (11, .int .i64 t11_6)]) ∧ (σ = [.cell b_o0 (qi r_7), .row u_4 out_5.length 109 3]) ∧ (m0 = (r_3.1 - t11_6 : Int).toNat) ∧ (qdX kk0 fuel m0 out_5 r_7 = some res)) _ ⟨[], 0, r_3.2, u7_1, _, rfl, rfl, rfl, rfl, hr⟩ ?_))
    rintro n _ _ ⟨out_5, t11_6, r_7, u_4, m0, rfl, rfl, rfl, hi0, hr⟩ IH0
    refine qhJ 11 rfl fun hb0 => ?_
    rcases cntStep t11_6 r_3.1 m0 hi0 with ⟨hm0, ht0⟩ | ⟨m0', hm0, ht0, hi0', hlt0⟩
    ·
     rw [hm0, qdX] at hr
     refine qh (gr [.d] (r_d rfl rfl rfl (qB rfl rfl rfl rfl) (qj (qh (qC 12 false rfl ht0 (qs rfl (qaw rfl (qM [(7, .own u_4 (out_5.map encIt))] (Sub.cons' rfl (Sub.nil _)) (qc6 [_, _] _ ((pf0 _).trans (pf1 _ _ _)) ?_)))))))))
     exact HK0 _ _ ⟨out_5, r_7, u_4, rfl, rfl, hr⟩
    ·
     rw [hm0, qdX] at hr
     refine qh (gr [.d] (r_d rfl rfl rfl (qB rfl rfl rfl rfl) (qj (qh (qhJ 10 rfl fun hbN10 => (qC 12 true rfl ht0 (qo rfl (qE (qh (q0 (gr [.d, .d, .w, .d, .w, .d] ?_)))))))))))
     refine r_d rfl rfl rfl (qb rfl rfl) (r_d rfl rfl rfl (qb rfl rfl) ?_)
     rcases bindXS hr with ⟨c_r_11, hr_11, rfl⟩ | ⟨r_11, hr_11, hr⟩
     ·
      refine qdq rfl rfl (qiF _ rfl rfl qh8 .nil rfl (by exact (pf0 _)) (q9 (qgR fuel _ _ _ hr_11))) (hX _ ⟨_, rfl, rfl⟩)
     ·
      refine r_w rfl rfl rfl (qfj _ rfl rfl qh8 .nil rfl (by exact (pf0 _)) (qaa (qgR fuel _ _ _ hr_11))) ?_
      rintro _ _ ⟨_, ⟨rfl, rfl⟩, rfl⟩
      refine r_st ((.cell b_o0 (qi r_11.2)) :: _) rfl (r_d rfl rfl rfl (qiL (f := encIt) [.tmp 15] [r_11.1] rfl qa7 rfl rfl (by decide) (by decide) (.oc rfl .nil) qfW (fun _ => rfl)) ?_)
      obtain ⟨l_12, hl_12, hr⟩ := bindS hr
      refine r_w rfl rfl rfl (qcK (f := encIt) out_5 [r_11.1] rfl qa7 rfl rfl (asl rfl) (pf1 _ _ _) rfl qfW hl_12) ?_
      rintro _ _ ⟨u17_12, rfl, rfl⟩
      refine r_d rfl rfl rfl (qe rfl rfl) (qj (qF (gr [.d, .d] (r_d rfl rfl rfl (s_ar (r := t11_6 + 1) rfl rfl rfl rfl (by omega)) (r_d rfl rfl rfl (qb rfl rfl) (qj (qM [(2, .clo (.func 81) [.ref b_o0 0 []] []), (10, .int .i64 r_3.1), (7, .own u17_12 (l_12.map encIt)), (11, .int .i64 (t11_6 + 1))] (Sub.cons' rfl (Sub.cons' rfl (Sub.cons' rfl (Sub.cons' rfl (Sub.nil _))))) (qc6 [_, _] _ ((pf0 _).trans (pf1 _ _ _)) ?_))))))))
      exact IH0 _ _ _ (by omega) ⟨l_12, (t11_6 + 1), r_11.2, u17_12, _, rfl, rfl, rfl, hi0', hr⟩
noncomputable def qfl (fuel : Nat) (c_0 : qd) : Option (Int ⊕ ((Int × T) × qd)) :=
  (bindX (qA 0 1048576 c_0) fun r_2 =>
  (bindX (qgX fuel 0 r_2.2) fun r_3 =>
  some (.inr ((r_2.1, r_3.1), r_3.2))))
set_option maxHeartbeats 1000000 in
theorem qgA (fuel : Nat) (c_0 : qd) (b_o0 : Nat) (res : Int ⊕ ((Int × T) × qd)) (hr : qfl fuel c_0 = some res) : SpecX Tryz.prog 83 [.ptr (.ref b_o0 0 [])] [.cell b_o0 (qi c_0)] (fun d σ => ∃ r : (Int × T) × qd, res = .inr r ∧ d = encP r.1 ∧ σ = [.cell b_o0 (qi r.2)]) (fun d => ∃ c, res = .inl c ∧ d = .ifc 191 (.agg [.int .i64 c])) := by
  unfold qfl at hr
  refine qcG [(0, .ptr (.ref b_o0 0 []))] Tryz.func83 rfl rfl fun K hK hX => (qh (gr [.w] (r_w rfl rfl rfl (qa8 rfl qns) ?_)))
  rintro _ _ ⟨b1_0, rfl, rfl⟩
  refine qj (qh (gr [.d, .w, .d] (r_d rfl rfl rfl (qk rfl rfl (by exact qad) rfl) ?_)))
  rcases bindXS hr with ⟨c_r_2, hr_2, rfl⟩ | ⟨r_2, hr_2, hr⟩
  ·
   refine qdq rfl rfl (qb5 _ rfl qp (.oc rfl (.oc rfl (.oc rfl .nil))) (by exact (pf1 _ _ _)) (q9 (ql _ _ _ _ _ hr_2))) (hX _ ⟨_, rfl, rfl⟩)
  ·
   refine r_w rfl rfl rfl (qac _ rfl qp (.oc rfl (.oc rfl (.oc rfl .nil))) (by exact (pf1 _ _ _)) (qaa (ql _ _ _ _ _ hr_2))) ?_
   rintro _ _ ⟨_, ⟨rfl, rfl⟩, rfl⟩
   refine r_st ((.cell b_o0 (qi r_2.2)) :: _) rfl (r_d rfl rfl rfl (qe rfl rfl) (qj (qh (gr [.d, .d, .w, .d, .w] (r_d rfl rfl rfl (qb rfl rfl) (r_d rfl rfl rfl (qk rfl rfl (by exact qad) rfl) ?_))))))
   rcases bindXS hr with ⟨c_r_3, hr_3, rfl⟩ | ⟨r_3, hr_3, hr⟩
   ·
    refine qdq rfl rfl (qb5 _ rfl qfi (.oc rfl (.oc rfl .nil)) (by exact (pf0 _)) (q9 (qg0 fuel _ _ _ _ hr_3))) (hX _ ⟨_, rfl, rfl⟩)
   ·
    refine r_w rfl rfl rfl (qac _ rfl qfi (.oc rfl (.oc rfl .nil)) (by exact (pf0 _)) (qaa (qg0 fuel _ _ _ _ hr_3))) ?_
    rintro _ _ ⟨_, ⟨rfl, rfl⟩, rfl⟩
    refine r_st ((.cell b_o0 (qi r_3.2)) :: _) rfl (r_d rfl rfl rfl (qeB rfl qnr (.oc rfl (.oc rfl .nil)) (.cons rfl rfl rfl (.cons rfl (qck _) rfl (.nil _)))) (qbE rfl rfl rfl (qag _ rfl rfl rfl (Wk.refl _) (pf1 _ _ _) (by exact qjq) (by first | rfl | simp [sz, szs, qdC, qck]) (by first | rfl | simp [sz, szs, qdC, qck]) rfl) (qj (qaT 1 b1_0 rfl (pf0 _) ?_))))
    obtain rfl := Option.some.inj hr
    refine qJ Tryz.func83 _ (.cons (resPtr rfl (by exact qjq) (by first | rfl | simp [sz, szs, qdC, qck]) (Wk.refl _)) .nil) ?_
    exact ⟨_, rfl, rfl, rfl⟩
noncomputable def qdY (k : ((List (Int × T))) → (qd) → Option (Int ⊕ ((List (Int × T)) × qd))) (fuel : Nat) : Nat → (List (Int × T)) → qd → Option (Int ⊕ ((List (Int × T)) × qd))
  | 0, out_5, r_7 =>
  (k out_5 r_7)
  | rest + 1, out_5, r_7 =>
  (bindX (qfl fuel r_7) fun r_11 =>
  ((appO 64 out_5 [r_11.1]).bind fun l_12 =>
  (qdY k fuel rest l_12 r_11.2)))
noncomputable def qhT (fuel : Nat) (most_a1 : Int) (c_0 : qd) : Option (Int ⊕ ((List (Int × T)) × qd)) :=
  (bindX (qA 0 most_a1 c_0) fun r_3 =>
  (qdY (fun out_9 r_10 =>
  some (.inr (out_9, r_10))) fuel (r_3.1 - 0 : Int).toNat [] r_3.2))
set_option maxHeartbeats 1000000 in
theorem qjx (fuel : Nat) (most_a1 : Int) (c_0 : qd) (b_o0 : Nat) (res : Int ⊕ ((List (Int × T)) × qd)) (hr : qhT fuel most_a1 c_0 = some res) : SpecX Tryz.prog 82 [.ref b_o0 0 [], .int .i64 most_a1, .clo (.func 83) [] [.ptr (.ref b_o0 0 [])]] [.cell b_o0 (qi c_0)] (fun d σ => ∃ r : (List (Int × T)) × qd, res = .inr r ∧ d = .lst (r.1.map encP) ∧ σ = [.cell b_o0 (qi r.2)]) (fun d => ∃ c, res = .inl c ∧ d = .ifc 191 (.agg [.int .i64 c])) := by
  unfold qhT at hr
  refine qcG [(0, .ref b_o0 0 []), (1, .int .i64 most_a1), (2, .clo (.func 83) [] [.ptr (.ref b_o0 0 [])])] Tryz.func82 rfl rfl fun K hK hX => (qh (gr [.w] (r_w rfl rfl rfl (qcw 116 5 (.inl rfl)) ?_)))
  rintro _ _ ⟨u6_0, rfl, rfl⟩
  refine qj (qh (gr [.w] (r_w rfl rfl rfl (qcw 116 5 (.inl rfl)) ?_)))
  rintro _ _ ⟨u7_1, rfl, rfl⟩
  refine qj (qh (qh (gr [.d, .d, .w, .d] (r_d rfl rfl rfl (qb rfl rfl) (r_d rfl rfl rfl (qb rfl rfl) ?_)))))
  rcases bindXS hr with ⟨c_r_3, hr_3, rfl⟩ | ⟨r_3, hr_3, hr⟩
  ·
   refine qdq rfl rfl (qb5 _ rfl qp (.oc rfl (.oc rfl (.oc rfl .nil))) (by exact (pf2 _ _ _ _)) (q9 (ql _ _ _ _ _ hr_3))) (hX _ ⟨_, rfl, rfl⟩)
  ·
   refine r_w rfl rfl rfl (qac _ rfl qp (.oc rfl (.oc rfl (.oc rfl .nil))) (by exact (pf2 _ _ _ _)) (qaa (ql _ _ _ _ _ hr_3))) ?_
   rintro _ _ ⟨_, ⟨rfl, rfl⟩, rfl⟩
   refine r_st ((.cell b_o0 (qi r_3.2)) :: _) rfl (r_d rfl rfl rfl (qb rfl rfl) (qj ?_))
   obtain ⟨kk0, hkk0, hr⟩ := exK (fun k => qdY k fuel (r_3.1 - 0 : Int).toNat [] r_3.2) hr
   refine qhJ 10 rfl fun hla0 => ?_
   refine qV (fun env σ => ∃ (out_9 : (List (Int × T))) (r_10 : qd) (u_8 : Value), env = [(7, .own u_8 (out_9.map encP))] ∧ σ = [.row u_8 out_9.length 116 5, .cell b_o0 (qi r_10)] ∧ kk0 out_9 r_10 = some res) ?_ (fun HK0 => ?_)
   ·
    rintro _ _ ⟨out_9, r_10, u_8, rfl, rfl, hr⟩
    rw [hkk0] at hr
    refine qh (gr [.d, .d] (r_d rfl rfl rfl (qb rfl rfl) (r_d rfl rfl rfl (qe rfl rfl) (qj (qc6 [_] _ (pf1 _ _ _) ?_)))))
    obtain rfl := Option.some.inj hr
    refine qJ Tryz.func82 _ (.cons (resTmp rfl (Wk.own _ _)) .nil) ?_
    exact ⟨_, rfl, rfl, rfl⟩
   ·
    refine qM [(2, .clo (.func 83) [] [.ptr (.ref b_o0 0 [])]), (10, .int .i64 r_3.1), (7, .own u7_1 ([].map encP)), (11, .int .i64 0)] (Sub.cons' rfl (Sub.cons' rfl (Sub.cons' rfl (Sub.cons' rfl (Sub.nil _))))) (qc6 [_, _] _ ((pf1 _ _ _).trans (pf1 _ _ _)) (qaM (fun n env σ => ∃ (out_5 : (List (Int × T))) (t11_6 : Int) (r_7 : qd) (u_4 : Value) (m0 : Nat), (m0 = n) ∧ (env = [(2, .clo (.func 83) [] [.ptr (.ref b_o0 0 [])]), (10, .int .i64 r_3.1), (7, .own u_4 (out_5.map encP)), (11, .int .i64 t11_6)]) ∧ (σ = [.cell b_o0 (qi r_7), .row u_4 out_5.length 116 5]) ∧ (m0 = (r_3.1 - t11_6 : Int).toNat) ∧ (qdY kk0 fuel m0 out_5 r_7 = some res)) _ ⟨[], 0, r_3.2, u7_1, _, rfl, rfl, rfl, rfl, hr⟩ ?_))
    rintro n _ _ ⟨out_5, t11_6, r_7, u_4, m0, rfl, rfl, rfl, hi0, hr⟩ IH0
    refine qhJ 11 rfl fun hb0 => ?_
    rcases cntStep t11_6 r_3.1 m0 hi0 with ⟨hm0, ht0⟩ | ⟨m0', hm0, ht0, hi0', hlt0⟩
    ·
     rw [hm0, qdY] at hr
     refine qh (gr [.d] (r_d rfl rfl rfl (qB rfl rfl rfl rfl) (qj (qh (qC 12 false rfl ht0 (qs rfl (qaw rfl (qM [(7, .own u_4 (out_5.map encP))] (Sub.cons' rfl (Sub.nil _)) (qc6 [_, _] _ ((pf0 _).trans (pf1 _ _ _)) ?_)))))))))
     exact HK0 _ _ ⟨out_5, r_7, u_4, rfl, rfl, hr⟩
    ·
     rw [hm0, qdY] at hr
     refine qh (gr [.d] (r_d rfl rfl rfl (qB rfl rfl rfl rfl) (qj (qh (qhJ 10 rfl fun hbN10 => (qC 12 true rfl ht0 (qo rfl (qE (qh (q0 (gr [.d, .d, .w, .d, .w, .d] ?_)))))))))))
     refine r_d rfl rfl rfl (qb rfl rfl) (r_d rfl rfl rfl (qb rfl rfl) ?_)
     rcases bindXS hr with ⟨c_r_11, hr_11, rfl⟩ | ⟨r_11, hr_11, hr⟩
     ·
      refine qdq rfl rfl (qiF _ rfl rfl qhg .nil rfl (by exact (pf0 _)) (q9 (qgA fuel _ _ _ hr_11))) (hX _ ⟨_, rfl, rfl⟩)
     ·
      refine r_w rfl rfl rfl (qfj _ rfl rfl qhg .nil rfl (by exact (pf0 _)) (qaa (qgA fuel _ _ _ hr_11))) ?_
      rintro _ _ ⟨_, ⟨rfl, rfl⟩, rfl⟩
      refine r_st ((.cell b_o0 (qi r_11.2)) :: _) rfl (r_d rfl rfl rfl (qiL (f := encP) [.tmp 15] [r_11.1] rfl qis rfl rfl (by decide) (by decide) (.oc rfl .nil) qgK (fun _ => rfl)) ?_)
      obtain ⟨l_12, hl_12, hr⟩ := bindS hr
      refine r_w rfl rfl rfl (qcK (f := encP) out_5 [r_11.1] rfl qis rfl rfl (asl rfl) (pf1 _ _ _) rfl qgK hl_12) ?_
      rintro _ _ ⟨u17_12, rfl, rfl⟩
      refine r_d rfl rfl rfl (qe rfl rfl) (qj (qF (gr [.d, .d] (r_d rfl rfl rfl (s_ar (r := t11_6 + 1) rfl rfl rfl rfl (by omega)) (r_d rfl rfl rfl (qb rfl rfl) (qj (qM [(2, .clo (.func 83) [] [.ptr (.ref b_o0 0 [])]), (10, .int .i64 r_3.1), (7, .own u17_12 (l_12.map encP)), (11, .int .i64 (t11_6 + 1))] (Sub.cons' rfl (Sub.cons' rfl (Sub.cons' rfl (Sub.cons' rfl (Sub.nil _))))) (qc6 [_, _] _ ((pf0 _).trans (pf1 _ _ _)) ?_))))))))
      exact IH0 _ _ _ (by omega) ⟨l_12, (t11_6 + 1), r_11.2, u17_12, _, rfl, rfl, rfl, hi0', hr⟩
noncomputable def qeP (t1_a1 : Int) (c_0 : qd) : Option (Int ⊕ (Int × qd)) :=
  (bindX (qA 0 t1_a1 c_0) fun r_1 =>
  some (.inr (r_1.1, r_1.2)))
set_option maxHeartbeats 1000000 in
theorem qfU (t1_a1 : Int) (c_0 : qd) (b_o0 : Nat) (res : Int ⊕ (Int × qd)) (hr : qeP t1_a1 c_0 = some res) : SpecX Tryz.prog 163 [.ptr (.ref b_o0 0 []), .ptr (.int .i64 t1_a1)] [.cell b_o0 (qi c_0)] (fun d σ => ∃ r : Int × qd, res = .inr r ∧ d = .int .i64 r.1 ∧ σ = [.cell b_o0 (qi r.2)]) (fun d => ∃ c, res = .inl c ∧ d = .ifc 191 (.agg [.int .i64 c])) := by
  unfold qeP at hr
  refine qcG [(0, .ptr (.ref b_o0 0 [])), (1, .ptr (.int .i64 t1_a1))] Tryz.func163 rfl rfl fun K hK hX => (qh (gr [.d] (r_d rfl rfl rfl (qe rfl rfl) (qj (qh (gr [.d, .d, .w, .d] (r_d rfl rfl rfl (qk rfl rfl (by exact qad) rfl) (r_d rfl rfl rfl (qk rfl rfl (by exact qW) rfl) ?_))))))))
  rcases bindXS hr with ⟨c_r_1, hr_1, rfl⟩ | ⟨r_1, hr_1, hr⟩
  ·
   refine qdq rfl rfl (qb5 _ rfl qp (.oc rfl (.oc rfl (.oc rfl .nil))) (by exact (pf0 _)) (q9 (ql _ _ _ _ _ hr_1))) (hX _ ⟨_, rfl, rfl⟩)
  ·
   refine r_w rfl rfl rfl (qac _ rfl qp (.oc rfl (.oc rfl (.oc rfl .nil))) (by exact (pf0 _)) (qaa (ql _ _ _ _ _ hr_1))) ?_
   rintro _ _ ⟨_, ⟨rfl, rfl⟩, rfl⟩
   refine r_st ((.cell b_o0 (qi r_1.2)) :: _) rfl (r_d rfl rfl rfl (qe rfl rfl) (qj ?_))
   obtain rfl := Option.some.inj hr
   refine qJ Tryz.func163 _ (.cons (resTmp rfl (Wk.refl _)) .nil) ?_
   exact ⟨_, rfl, rfl, rfl⟩
noncomputable def qdL (k : ((List Int)) → (qd) → Option (Int ⊕ ((List Int) × qd))) (one_a2_c1 : Int) : Nat → (List Int) → qd → Option (Int ⊕ ((List Int) × qd))
  | 0, out_5, r_7 =>
  (k out_5 r_7)
  | rest + 1, out_5, r_7 =>
  (bindX (qeP one_a2_c1 r_7) fun r_11 =>
  ((appO 8 out_5 [r_11.1]).bind fun l_12 =>
  (qdL k one_a2_c1 rest l_12 r_11.2)))
noncomputable def qhn (most_a1 : Int) (one_a2_c1 : Int) (c_0 : qd) : Option (Int ⊕ ((List Int) × qd)) :=
  (bindX (qA 0 most_a1 c_0) fun r_3 =>
  (qdL (fun out_9 r_10 =>
  some (.inr (out_9, r_10))) one_a2_c1 (r_3.1 - 0 : Int).toNat [] r_3.2))
set_option maxHeartbeats 1000000 in
theorem qiW (most_a1 : Int) (one_a2_c1 : Int) (c_0 : qd) (b_o0 : Nat) (res : Int ⊕ ((List Int) × qd)) (hr : qhn most_a1 one_a2_c1 c_0 = some res) : SpecX Tryz.prog 162 [.ref b_o0 0 [], .int .i64 most_a1, .clo (.func 163) [] [.ptr (.ref b_o0 0 []), .ptr (.int .i64 one_a2_c1)]] [.cell b_o0 (qi c_0)] (fun d σ => ∃ r : (List Int) × qd, res = .inr r ∧ d = .lst (r.1.map (D.int .i64)) ∧ σ = [.cell b_o0 (qi r.2)]) (fun d => ∃ c, res = .inl c ∧ d = .ifc 191 (.agg [.int .i64 c])) := by
  unfold qhn at hr
  refine qcG [(0, .ref b_o0 0 []), (1, .int .i64 most_a1), (2, .clo (.func 163) [] [.ptr (.ref b_o0 0 []), .ptr (.int .i64 one_a2_c1)])] Tryz.func162 rfl rfl fun K hK hX => (qh (gr [.w] (r_w rfl rfl rfl (qcw 3 1 (.inl rfl)) ?_)))
  rintro _ _ ⟨u6_0, rfl, rfl⟩
  refine qj (qh (gr [.w] (r_w rfl rfl rfl (qcw 3 1 (.inl rfl)) ?_)))
  rintro _ _ ⟨u7_1, rfl, rfl⟩
  refine qj (qh (qh (gr [.d, .d, .w, .d] (r_d rfl rfl rfl (qb rfl rfl) (r_d rfl rfl rfl (qb rfl rfl) ?_)))))
  rcases bindXS hr with ⟨c_r_3, hr_3, rfl⟩ | ⟨r_3, hr_3, hr⟩
  ·
   refine qdq rfl rfl (qb5 _ rfl qp (.oc rfl (.oc rfl (.oc rfl .nil))) (by exact (pf2 _ _ _ _)) (q9 (ql _ _ _ _ _ hr_3))) (hX _ ⟨_, rfl, rfl⟩)
  ·
   refine r_w rfl rfl rfl (qac _ rfl qp (.oc rfl (.oc rfl (.oc rfl .nil))) (by exact (pf2 _ _ _ _)) (qaa (ql _ _ _ _ _ hr_3))) ?_
   rintro _ _ ⟨_, ⟨rfl, rfl⟩, rfl⟩
   refine r_st ((.cell b_o0 (qi r_3.2)) :: _) rfl (r_d rfl rfl rfl (qb rfl rfl) (qj ?_))
   obtain ⟨kk0, hkk0, hr⟩ := exK (fun k => qdL k one_a2_c1 (r_3.1 - 0 : Int).toNat [] r_3.2) hr
   refine qhJ 10 rfl fun hla0 => ?_
   refine qV (fun env σ => ∃ (out_9 : (List Int)) (r_10 : qd) (u_8 : Value), env = [(7, .own u_8 (out_9.map (D.int .i64)))] ∧ σ = [.row u_8 out_9.length 3 1, .cell b_o0 (qi r_10)] ∧ kk0 out_9 r_10 = some res) ?_ (fun HK0 => ?_)
   ·
    rintro _ _ ⟨out_9, r_10, u_8, rfl, rfl, hr⟩
    rw [hkk0] at hr
    refine qh (gr [.d, .d] (r_d rfl rfl rfl (qb rfl rfl) (r_d rfl rfl rfl (qe rfl rfl) (qj (qc6 [_] _ (pf1 _ _ _) ?_)))))
    obtain rfl := Option.some.inj hr
    refine qJ Tryz.func162 _ (.cons (resTmp rfl (Wk.own _ _)) .nil) ?_
    exact ⟨_, rfl, rfl, rfl⟩
   ·
    refine qM [(2, .clo (.func 163) [] [.ptr (.ref b_o0 0 []), .ptr (.int .i64 one_a2_c1)]), (10, .int .i64 r_3.1), (7, .own u7_1 ([].map (D.int .i64))), (11, .int .i64 0)] (Sub.cons' rfl (Sub.cons' rfl (Sub.cons' rfl (Sub.cons' rfl (Sub.nil _))))) (qc6 [_, _] _ ((pf1 _ _ _).trans (pf1 _ _ _)) (qaM (fun n env σ => ∃ (out_5 : (List Int)) (t11_6 : Int) (r_7 : qd) (u_4 : Value) (m0 : Nat), (m0 = n) ∧ (env = [(2, .clo (.func 163) [] [.ptr (.ref b_o0 0 []), .ptr (.int .i64 one_a2_c1)]), (10, .int .i64 r_3.1), (7, .own u_4 (out_5.map (D.int .i64))), (11, .int .i64 t11_6)]) ∧ (σ = [.cell b_o0 (qi r_7), .row u_4 out_5.length 3 1]) ∧ (m0 = (r_3.1 - t11_6 : Int).toNat) ∧ (qdL kk0 one_a2_c1 m0 out_5 r_7 = some res)) _ ⟨[], 0, r_3.2, u7_1, _, rfl, rfl, rfl, rfl, hr⟩ ?_))
    rintro n _ _ ⟨out_5, t11_6, r_7, u_4, m0, rfl, rfl, rfl, hi0, hr⟩ IH0
    refine qhJ 11 rfl fun hb0 => ?_
    rcases cntStep t11_6 r_3.1 m0 hi0 with ⟨hm0, ht0⟩ | ⟨m0', hm0, ht0, hi0', hlt0⟩
    ·
     rw [hm0, qdL] at hr
     refine qh (gr [.d] (r_d rfl rfl rfl (qB rfl rfl rfl rfl) (qj (qh (qC 12 false rfl ht0 (qs rfl (qaw rfl (qM [(7, .own u_4 (out_5.map (D.int .i64)))] (Sub.cons' rfl (Sub.nil _)) (qc6 [_, _] _ ((pf0 _).trans (pf1 _ _ _)) ?_)))))))))
     exact HK0 _ _ ⟨out_5, r_7, u_4, rfl, rfl, hr⟩
    ·
     rw [hm0, qdL] at hr
     refine qh (gr [.d] (r_d rfl rfl rfl (qB rfl rfl rfl rfl) (qj (qh (qhJ 10 rfl fun hbN10 => (qC 12 true rfl ht0 (qo rfl (qE (qh (q0 (gr [.d, .d, .w, .d, .w, .d] ?_)))))))))))
     refine r_d rfl rfl rfl (qb rfl rfl) (r_d rfl rfl rfl (qb rfl rfl) ?_)
     rcases bindXS hr with ⟨c_r_11, hr_11, rfl⟩ | ⟨r_11, hr_11, hr⟩
     ·
      refine qdq rfl rfl (qiF _ rfl rfl qgB .nil rfl (by exact (pf0 _)) (q9 (qfU _ _ _ _ hr_11))) (hX _ ⟨_, rfl, rfl⟩)
     ·
      refine r_w rfl rfl rfl (qfj _ rfl rfl qgB .nil rfl (by exact (pf0 _)) (qaa (qfU _ _ _ _ hr_11))) ?_
      rintro _ _ ⟨_, ⟨rfl, rfl⟩, rfl⟩
      refine r_st ((.cell b_o0 (qi r_11.2)) :: _) rfl (r_d rfl rfl rfl (qiL (f := (D.int .i64)) [.tmp 15] [r_11.1] rfl qH rfl rfl (by decide) (by decide) (.oc rfl .nil) (fun _ => rfl) (fun _ => rfl)) ?_)
      obtain ⟨l_12, hl_12, hr⟩ := bindS hr
      refine r_w rfl rfl rfl (qcK (f := (D.int .i64)) out_5 [r_11.1] rfl qH rfl rfl (asl rfl) (pf1 _ _ _) rfl (fun _ => rfl) hl_12) ?_
      rintro _ _ ⟨u17_12, rfl, rfl⟩
      refine r_d rfl rfl rfl (qe rfl rfl) (qj (qF (gr [.d, .d] (r_d rfl rfl rfl (s_ar (r := t11_6 + 1) rfl rfl rfl rfl (by omega)) (r_d rfl rfl rfl (qb rfl rfl) (qj (qM [(2, .clo (.func 163) [] [.ptr (.ref b_o0 0 []), .ptr (.int .i64 one_a2_c1)]), (10, .int .i64 r_3.1), (7, .own u17_12 (l_12.map (D.int .i64))), (11, .int .i64 (t11_6 + 1))] (Sub.cons' rfl (Sub.cons' rfl (Sub.cons' rfl (Sub.cons' rfl (Sub.nil _))))) (qc6 [_, _] _ ((pf0 _).trans (pf1 _ _ _)) ?_))))))))
      exact IH0 _ _ _ (by omega) ⟨l_12, (t11_6 + 1), r_11.2, u17_12, _, rfl, rfl, rfl, hi0', hr⟩
noncomputable def qe7 (most_a1 : Int) (high_a2 : Int) (c_0 : qd) : Option (Int ⊕ ((List Int) × qd)) :=
  (bindX (qhn most_a1 high_a2 c_0) fun r_1 =>
  some (.inr (r_1.1, r_1.2)))
set_option maxHeartbeats 1000000 in
theorem qf9 (most_a1 : Int) (high_a2 : Int) (c_0 : qd) (b_o0 : Nat) (res : Int ⊕ ((List Int) × qd)) (hr : qe7 most_a1 high_a2 c_0 = some res) : SpecX Tryz.prog 87 [.ref b_o0 0 [], .int .i64 most_a1, .int .i64 high_a2] [.cell b_o0 (qi c_0)] (fun d σ => ∃ r : (List Int) × qd, res = .inr r ∧ d = .lst (r.1.map (D.int .i64)) ∧ σ = [.cell b_o0 (qi r.2)]) (fun d => ∃ c, res = .inl c ∧ d = .ifc 191 (.agg [.int .i64 c])) := by
  unfold qe7 at hr
  refine qcG [(0, .ref b_o0 0 []), (1, .int .i64 most_a1), (2, .int .i64 high_a2)] Tryz.func87 rfl rfl fun K hK hX => (qh (gr [.d, .d, .d] (r_d rfl rfl rfl (qef rfl rfl rfl) (r_d rfl rfl rfl (qef rfl rfl rfl) (r_d rfl rfl rfl (qe rfl rfl) (qj (qh (gr [.d, .d, .d, .w, .d] (r_d rfl rfl rfl (qk rfl rfl (by exact qad) rfl) (r_d rfl rfl rfl (qb rfl rfl) (r_d rfl rfl rfl (qcg rfl rfl rfl) ?_)))))))))))
  rcases bindXS hr with ⟨c_r_1, hr_1, rfl⟩ | ⟨r_1, hr_1, hr⟩
  ·
   refine qdq rfl rfl (qb5 _ rfl qiX (.oc rfl (.oc rfl (.oc rfl .nil))) (by exact (pf0 _)) (q9 (qiW _ _ _ _ _ hr_1))) (hX _ ⟨_, rfl, rfl⟩)
  ·
   refine r_w rfl rfl rfl (qac _ rfl qiX (.oc rfl (.oc rfl (.oc rfl .nil))) (by exact (pf0 _)) (qaa (qiW _ _ _ _ _ hr_1))) ?_
   rintro _ _ ⟨_, ⟨rfl, rfl⟩, rfl⟩
   refine r_st ((.cell b_o0 (qi r_1.2)) :: _) rfl (r_d rfl rfl rfl (qe rfl rfl) (qj ?_))
   obtain rfl := Option.some.inj hr
   refine qJ Tryz.func87 _ (.cons (resTmp rfl (Wk.refl _)) .nil) ?_
   exact ⟨_, rfl, rfl, rfl⟩
noncomputable def qfm (c_0 : qd) : Option (Int ⊕ (qZ × qd)) :=
  (bindX (qA 0 40 c_0) fun r_2 =>
  (bindX (qe7 4 2147483648 r_2.2) fun r_3 =>
  some (.inr ((⟨r_2.1, r_3.1⟩ : qZ), r_3.2))))
set_option maxHeartbeats 1000000 in
theorem qgC (c_0 : qd) (b_o0 : Nat) (res : Int ⊕ (qZ × qd)) (hr : qfm c_0 = some res) : SpecX Tryz.prog 86 [.ptr (.ref b_o0 0 [])] [.cell b_o0 (qi c_0)] (fun d σ => ∃ r : qZ × qd, res = .inr r ∧ d = qq r.1 ∧ σ = [.cell b_o0 (qi r.2)]) (fun d => ∃ c, res = .inl c ∧ d = .ifc 191 (.agg [.int .i64 c])) := by
  unfold qfm at hr
  refine qcG [(0, .ptr (.ref b_o0 0 []))] Tryz.func86 rfl rfl fun K hK hX => (qh (gr [.w] (r_w rfl rfl rfl (qa8 rfl qnB) ?_)))
  rintro _ _ ⟨b1_0, rfl, rfl⟩
  refine qj (qh (gr [.d, .w, .d] (r_d rfl rfl rfl (qk rfl rfl (by exact qad) rfl) ?_)))
  rcases bindXS hr with ⟨c_r_2, hr_2, rfl⟩ | ⟨r_2, hr_2, hr⟩
  ·
   refine qdq rfl rfl (qb5 _ rfl qp (.oc rfl (.oc rfl (.oc rfl .nil))) (by exact (pf1 _ _ _)) (q9 (ql _ _ _ _ _ hr_2))) (hX _ ⟨_, rfl, rfl⟩)
  ·
   refine r_w rfl rfl rfl (qac _ rfl qp (.oc rfl (.oc rfl (.oc rfl .nil))) (by exact (pf1 _ _ _)) (qaa (ql _ _ _ _ _ hr_2))) ?_
   rintro _ _ ⟨_, ⟨rfl, rfl⟩, rfl⟩
   refine r_st ((.cell b_o0 (qi r_2.2)) :: _) rfl (r_d rfl rfl rfl (qe rfl rfl) (qj (qh (gr [.d, .d, .w, .d, .w] (r_d rfl rfl rfl (qb rfl rfl) (r_d rfl rfl rfl (qk rfl rfl (by exact qad) rfl) ?_))))))
   rcases bindXS hr with ⟨c_r_3, hr_3, rfl⟩ | ⟨r_3, hr_3, hr⟩
   ·
    refine qdq rfl rfl (qb5 _ rfl qgY (.oc rfl (.oc rfl (.oc rfl .nil))) (by exact (pf0 _)) (q9 (qf9 _ _ _ _ _ hr_3))) (hX _ ⟨_, rfl, rfl⟩)
   ·
    refine r_w rfl rfl rfl (qac _ rfl qgY (.oc rfl (.oc rfl (.oc rfl .nil))) (by exact (pf0 _)) (qaa (qf9 _ _ _ _ _ hr_3))) ?_
    rintro _ _ ⟨_, ⟨rfl, rfl⟩, rfl⟩
    refine r_st ((.cell b_o0 (qi r_3.2)) :: _) rfl (r_d rfl rfl rfl (qeB rfl qnD (.oc rfl (.oc rfl .nil)) (.cons rfl rfl rfl (.cons rfl rfl rfl (.nil _)))) (qbE rfl rfl rfl (qag _ rfl rfl rfl (Wk.refl _) (pf1 _ _ _) (by exact qgS) rfl rfl rfl) (qj (qaT 1 b1_0 rfl (pf0 _) ?_))))
    obtain rfl := Option.some.inj hr
    refine qJ Tryz.func86 _ (.cons (resPtr rfl (by exact qgS) rfl (Wk.refl _)) .nil) ?_
    exact ⟨_, rfl, rfl, rfl⟩
noncomputable def qd0 (k : ((List qZ)) → (qd) → Option (Int ⊕ ((List qZ) × qd))) : Nat → (List qZ) → qd → Option (Int ⊕ ((List qZ) × qd))
  | 0, out_5, r_7 =>
  (k out_5 r_7)
  | rest + 1, out_5, r_7 =>
  (bindX (qfm r_7) fun r_11 =>
  ((appO 32 out_5 [r_11.1]).bind fun l_12 =>
  (qd0 k rest l_12 r_11.2)))
noncomputable def qhS (most_a1 : Int) (c_0 : qd) : Option (Int ⊕ ((List qZ) × qd)) :=
  (bindX (qA 0 most_a1 c_0) fun r_3 =>
  (qd0 (fun out_9 r_10 =>
  some (.inr (out_9, r_10))) (r_3.1 - 0 : Int).toNat [] r_3.2))
set_option maxHeartbeats 1000000 in
theorem qjB (most_a1 : Int) (c_0 : qd) (b_o0 : Nat) (res : Int ⊕ ((List qZ) × qd)) (hr : qhS most_a1 c_0 = some res) : SpecX Tryz.prog 85 [.ref b_o0 0 [], .int .i64 most_a1, .clo (.func 86) [] [.ptr (.ref b_o0 0 [])]] [.cell b_o0 (qi c_0)] (fun d σ => ∃ r : (List qZ) × qd, res = .inr r ∧ d = .lst (r.1.map qq) ∧ σ = [.cell b_o0 (qi r.2)]) (fun d => ∃ c, res = .inl c ∧ d = .ifc 191 (.agg [.int .i64 c])) := by
  unfold qhS at hr
  refine qcG [(0, .ref b_o0 0 []), (1, .int .i64 most_a1), (2, .clo (.func 86) [] [.ptr (.ref b_o0 0 [])])] Tryz.func85 rfl rfl fun K hK hX => (qh (gr [.w] (r_w rfl rfl rfl (qcw 123 2 (.inl rfl)) ?_)))
  rintro _ _ ⟨u6_0, rfl, rfl⟩
  refine qj (qh (gr [.w] (r_w rfl rfl rfl (qcw 123 2 (.inl rfl)) ?_)))
  rintro _ _ ⟨u7_1, rfl, rfl⟩
  refine qj (qh (qh (gr [.d, .d, .w, .d] (r_d rfl rfl rfl (qb rfl rfl) (r_d rfl rfl rfl (qb rfl rfl) ?_)))))
  rcases bindXS hr with ⟨c_r_3, hr_3, rfl⟩ | ⟨r_3, hr_3, hr⟩
  ·
   refine qdq rfl rfl (qb5 _ rfl qp (.oc rfl (.oc rfl (.oc rfl .nil))) (by exact (pf2 _ _ _ _)) (q9 (ql _ _ _ _ _ hr_3))) (hX _ ⟨_, rfl, rfl⟩)
  ·
   refine r_w rfl rfl rfl (qac _ rfl qp (.oc rfl (.oc rfl (.oc rfl .nil))) (by exact (pf2 _ _ _ _)) (qaa (ql _ _ _ _ _ hr_3))) ?_
   rintro _ _ ⟨_, ⟨rfl, rfl⟩, rfl⟩
   refine r_st ((.cell b_o0 (qi r_3.2)) :: _) rfl (r_d rfl rfl rfl (qb rfl rfl) (qj ?_))
   obtain ⟨kk0, hkk0, hr⟩ := exK (fun k => qd0 k (r_3.1 - 0 : Int).toNat [] r_3.2) hr
   refine qhJ 10 rfl fun hla0 => ?_
   refine qV (fun env σ => ∃ (out_9 : (List qZ)) (r_10 : qd) (u_8 : Value), env = [(7, .own u_8 (out_9.map qq))] ∧ σ = [.row u_8 out_9.length 123 2, .cell b_o0 (qi r_10)] ∧ kk0 out_9 r_10 = some res) ?_ (fun HK0 => ?_)
   ·
    rintro _ _ ⟨out_9, r_10, u_8, rfl, rfl, hr⟩
    rw [hkk0] at hr
    refine qh (gr [.d, .d] (r_d rfl rfl rfl (qb rfl rfl) (r_d rfl rfl rfl (qe rfl rfl) (qj (qc6 [_] _ (pf1 _ _ _) ?_)))))
    obtain rfl := Option.some.inj hr
    refine qJ Tryz.func85 _ (.cons (resTmp rfl (Wk.own _ _)) .nil) ?_
    exact ⟨_, rfl, rfl, rfl⟩
   ·
    refine qM [(2, .clo (.func 86) [] [.ptr (.ref b_o0 0 [])]), (10, .int .i64 r_3.1), (7, .own u7_1 ([].map qq)), (11, .int .i64 0)] (Sub.cons' rfl (Sub.cons' rfl (Sub.cons' rfl (Sub.cons' rfl (Sub.nil _))))) (qc6 [_, _] _ ((pf1 _ _ _).trans (pf1 _ _ _)) (qaM (fun n env σ => ∃ (out_5 : (List qZ)) (t11_6 : Int) (r_7 : qd) (u_4 : Value) (m0 : Nat), (m0 = n) ∧ (env = [(2, .clo (.func 86) [] [.ptr (.ref b_o0 0 [])]), (10, .int .i64 r_3.1), (7, .own u_4 (out_5.map qq)), (11, .int .i64 t11_6)]) ∧ (σ = [.cell b_o0 (qi r_7), .row u_4 out_5.length 123 2]) ∧ (m0 = (r_3.1 - t11_6 : Int).toNat) ∧ (qd0 kk0 m0 out_5 r_7 = some res)) _ ⟨[], 0, r_3.2, u7_1, _, rfl, rfl, rfl, rfl, hr⟩ ?_))
    rintro n _ _ ⟨out_5, t11_6, r_7, u_4, m0, rfl, rfl, rfl, hi0, hr⟩ IH0
    refine qhJ 11 rfl fun hb0 => ?_
    rcases cntStep t11_6 r_3.1 m0 hi0 with ⟨hm0, ht0⟩ | ⟨m0', hm0, ht0, hi0', hlt0⟩
    ·
     rw [hm0, qd0] at hr
     refine qh (gr [.d] (r_d rfl rfl rfl (qB rfl rfl rfl rfl) (qj (qh (qC 12 false rfl ht0 (qs rfl (qaw rfl (qM [(7, .own u_4 (out_5.map qq))] (Sub.cons' rfl (Sub.nil _)) (qc6 [_, _] _ ((pf0 _).trans (pf1 _ _ _)) ?_)))))))))
     exact HK0 _ _ ⟨out_5, r_7, u_4, rfl, rfl, hr⟩
    ·
     rw [hm0, qd0] at hr
     refine qh (gr [.d] (r_d rfl rfl rfl (qB rfl rfl rfl rfl) (qj (qh (qhJ 10 rfl fun hbN10 => (qC 12 true rfl ht0 (qo rfl (qE (qh (q0 (gr [.d, .d, .w, .d, .w, .d] ?_)))))))))))
     refine r_d rfl rfl rfl (qb rfl rfl) (r_d rfl rfl rfl (qb rfl rfl) ?_)
     rcases bindXS hr with ⟨c_r_11, hr_11, rfl⟩ | ⟨r_11, hr_11, hr⟩
     ·
      refine qdq rfl rfl (qiF _ rfl rfl qhk .nil rfl (by exact (pf0 _)) (q9 (qgC _ _ _ hr_11))) (hX _ ⟨_, rfl, rfl⟩)
     ·
      refine r_w rfl rfl rfl (qfj _ rfl rfl qhk .nil rfl (by exact (pf0 _)) (qaa (qgC _ _ _ hr_11))) ?_
      rintro _ _ ⟨_, ⟨rfl, rfl⟩, rfl⟩
      refine r_st ((.cell b_o0 (qi r_11.2)) :: _) rfl (r_d rfl rfl rfl (qiL (f := qq) [.tmp 15] [r_11.1] rfl qbh rfl rfl (by decide) (by decide) (.oc rfl .nil) qb9 (fun _ => rfl)) ?_)
      obtain ⟨l_12, hl_12, hr⟩ := bindS hr
      refine r_w rfl rfl rfl (qcK (f := qq) out_5 [r_11.1] rfl qbh rfl rfl (asl rfl) (pf1 _ _ _) rfl qb9 hl_12) ?_
      rintro _ _ ⟨u17_12, rfl, rfl⟩
      refine r_d rfl rfl rfl (qe rfl rfl) (qj (qF (gr [.d, .d] (r_d rfl rfl rfl (s_ar (r := t11_6 + 1) rfl rfl rfl rfl (by omega)) (r_d rfl rfl rfl (qb rfl rfl) (qj (qM [(2, .clo (.func 86) [] [.ptr (.ref b_o0 0 [])]), (10, .int .i64 r_3.1), (7, .own u17_12 (l_12.map qq)), (11, .int .i64 (t11_6 + 1))] (Sub.cons' rfl (Sub.cons' rfl (Sub.cons' rfl (Sub.cons' rfl (Sub.nil _))))) (qc6 [_, _] _ ((pf0 _).trans (pf1 _ _ _)) ?_))))))))
      exact IH0 _ _ _ (by omega) ⟨l_12, (t11_6 + 1), r_11.2, u17_12, _, rfl, rfl, rfl, hi0', hr⟩
noncomputable def qk1 (b_a0 : (List Int)) (at_a1 : Int) : Option (Bool × Int × Int) :=
  (bif (decide (at_a1 < (0 : Int))) then
  some (false, 0, 2)
  else
  (bif (decide (at_a1 > (b_a0.length : Int))) then
  some (false, 0, 2)
  else
  (bif (at_a1 == (b_a0.length : Int)) then
  some (false, 0, 4)
  else
  ((getI b_a0 at_a1).bind fun q_4 =>
  (bif (decide (q_4 > (1 : Int))) then
  some (false, 0, 3)
  else
  some ((q_4 == (1 : Int)), (wr (at_a1 + (1 : Int))), 0))))))
set_option maxHeartbeats 1000000 in
theorem qoQ (b_a0 : (List Int)) (at_a1 : Int) (res : Bool × Int × Int) (hr : qk1 b_a0 at_a1 = some res) : Gives Tryz.prog 164 [.lst (b_a0.map (D.int .u8)), .int .i64 at_a1] (.tup [.bool res.1, .int .i64 res.2.1, .int .i64 res.2.2]) := by
  unfold qk1 at hr
  refine qR [(0, .lst (b_a0.map (D.int .u8))), (1, .int .i64 at_a1)] Tryz.func164 rfl rfl fun K hK => (qh (gr [.d, .d, .d] (r_d rfl rfl rfl (qe rfl rfl) (r_d rfl rfl rfl (qe rfl rfl) (r_d rfl rfl rfl (qe rfl rfl) (qj (qh (q0 (qh (gr [.d, .d, .d, .d, .d, .d, .d, .d, .d] (r_d rfl rfl rfl (qb rfl rfl) ?_)))))))))))
  refine r_d rfl rfl rfl (qB rfl rfl rfl rfl) (r_d rfl rfl rfl (qb rfl rfl) ?_)
  refine r_sB 10 rfl hr (fun h10_0 hr => ?_) (fun h10_0 hr => ?_)
  ·
   refine qc rfl rfl rfl (qc rfl rfl rfl (qc rfl rfl rfl (qc rfl rfl rfl (r_d rfl rfl rfl (qy rfl rfl rfl) (r_d rfl rfl rfl (qe rfl rfl) (qj (qo rfl (qh (gr [.d, .d, .d] (r_d rfl rfl rfl (qe rfl rfl) (r_d rfl rfl rfl (qe rfl rfl) ?_)))))))))))
   refine r_d rfl rfl rfl (qe rfl rfl) (qj ?_)
   obtain rfl := Option.some.inj hr
   refine qJ Tryz.func164 _ (.cons (resTmp rfl (Wk.refl _)) (.cons (resTmp rfl (Wk.refl _)) (.cons (resTmp rfl (Wk.refl _)) .nil))) ?_
   rfl
  ·
   refine r_d rfl rfl rfl (qb rfl rfl) (r_d rfl rfl rfl (qb rfl rfl) (r_d rfl rfl rfl (qT (f := (D.int .u8)) b_a0 rfl qeO rfl (asl rfl)) (r_d rfl rfl rfl (qB rfl rfl rfl rfl) (r_d rfl rfl rfl (qD rfl rfl rfl) (r_d rfl rfl rfl (qe rfl rfl) (qj ?_))))))
   refine g_sB 7 rfl hr (fun h7_1 hr => ?_) (fun h7_1 hr => ?_)
   ·
    refine qo rfl (qh (gr [.d, .d, .d] (r_d rfl rfl rfl (qe rfl rfl) (r_d rfl rfl rfl (qe rfl rfl) (r_d rfl rfl rfl (qe rfl rfl) (qj ?_))))))
    obtain rfl := Option.some.inj hr
    refine qJ Tryz.func164 _ (.cons (resTmp rfl (Wk.refl _)) (.cons (resTmp rfl (Wk.refl _)) (.cons (resTmp rfl (Wk.refl _)) .nil))) ?_
    rfl
   ·
    refine qs rfl (qh (gr [.d, .d, .d, .d, .d] (r_d rfl rfl rfl (qb rfl rfl) (r_d rfl rfl rfl (qb rfl rfl) (r_d rfl rfl rfl (qT (f := (D.int .u8)) b_a0 rfl qeO rfl (asl rfl)) (r_d rfl rfl rfl (qB rfl rfl rfl rfl) (r_d rfl rfl rfl (qe rfl rfl) (qj ?_))))))))
    refine g_sB 16 rfl hr (fun h16_2 hr => ?_) (fun h16_2 hr => ?_)
    ·
     refine qo rfl (qh (gr [.d, .d, .d] (r_d rfl rfl rfl (qe rfl rfl) (r_d rfl rfl rfl (qe rfl rfl) (r_d rfl rfl rfl (qe rfl rfl) (qj ?_))))))
     obtain rfl := Option.some.inj hr
     refine qJ Tryz.func164 _ (.cons (resTmp rfl (Wk.refl _)) (.cons (resTmp rfl (Wk.refl _)) (.cons (resTmp rfl (Wk.refl _)) .nil))) ?_
     rfl
    ·
     refine qs rfl (qh (gr [.d, .d, .d, .d, .d, .d] (r_d rfl rfl rfl (qb rfl rfl) (r_d rfl rfl rfl (qb rfl rfl) ?_))))
     obtain ⟨q_4, hq_4, hr⟩ := bindS hr
     refine r_d rfl rfl rfl (qN (f := (D.int .u8)) b_a0 rfl qeO rfl (asl rfl) rfl hq_4 (fun _ => rfl) rfl) (r_d rfl rfl rfl (qk rfl rfl (by exact qrd) rfl) (r_d rfl rfl rfl (qB rfl rfl rfl rfl) (r_d rfl rfl rfl (qe rfl rfl) (qj ?_))))
     refine g_sB 21 rfl hr (fun h21_4 hr => ?_) (fun h21_4 hr => ?_)
     ·
      refine qo rfl (qh (gr [.d, .d, .d] (r_d rfl rfl rfl (qe rfl rfl) (r_d rfl rfl rfl (qe rfl rfl) (r_d rfl rfl rfl (qe rfl rfl) (qj ?_))))))
      obtain rfl := Option.some.inj hr
      refine qJ Tryz.func164 _ (.cons (resTmp rfl (Wk.refl _)) (.cons (resTmp rfl (Wk.refl _)) (.cons (resTmp rfl (Wk.refl _)) .nil))) ?_
      rfl
     ·
      refine qs rfl (qE (qF (qh (gr [.d, .d, .d, .d, .d, .d, .d, .d, .d, .d] (r_d rfl rfl rfl (qb rfl rfl) (r_d rfl rfl rfl (qb rfl rfl) (r_d rfl rfl rfl (qN (f := (D.int .u8)) b_a0 rfl qeO rfl (asl rfl) rfl hq_4 (fun _ => rfl) rfl) (r_d rfl rfl rfl (qk rfl rfl (by exact qrd) rfl) (r_d rfl rfl rfl (qB rfl rfl rfl rfl) (r_d rfl rfl rfl (qb rfl rfl) (r_d rfl rfl rfl (qkF rfl rfl rfl rfl) ?_)))))))))))
      refine r_d rfl rfl rfl (qe rfl rfl) (r_d rfl rfl rfl (qe rfl rfl) (r_d rfl rfl rfl (qe rfl rfl) (qj ?_)))
      obtain rfl := Option.some.inj hr
      refine qJ Tryz.func164 _ (.cons (resTmp rfl (Wk.refl _)) (.cons (resTmp rfl (Wk.refl _)) (.cons (resTmp rfl (Wk.refl _)) .nil))) ?_
      rfl
noncomputable def qfJ (c_0 : qd) : Option (Int ⊕ (Bool × qd)) :=
  ((qk1 c_0.f0_b c_0.f1_at).bind fun r_1 =>
  (bindX (qdy r_1.2.1 r_1.2.2 c_0) fun r_2 =>
  some (.inr (r_1.1, r_2))))
set_option maxHeartbeats 1000000 in
theorem qgU (c_0 : qd) (b_o0 : Nat) (res : Int ⊕ (Bool × qd)) (hr : qfJ c_0 = some res) : SpecX Tryz.prog 88 [.ref b_o0 0 []] [.cell b_o0 (qi c_0)] (fun d σ => ∃ r : Bool × qd, res = .inr r ∧ d = .bool r.1 ∧ σ = [.cell b_o0 (qi r.2)]) (fun d => ∃ c, res = .inl c ∧ d = .ifc 191 (.agg [.int .i64 c])) := by
  unfold qfJ at hr
  refine qcG [(0, .ref b_o0 0 [])] Tryz.func88 rfl rfl fun K hK hX => (qh (gr [.d] (r_d rfl rfl rfl (qe rfl rfl) (qj (qh (qtb (by kernel_rfl) (by kernel_rfl) [(0, .d), (1, .d), (2, .d), (3, .r), (4, .d), (5, .d), (6, .d), (7, .r), (8, .d), (9, .d), (10, .d), (11, .d), (12, .d), (13, .d), (14, .d), (15, .d)] (by kernel_rfl) (r_d rfl rfl rfl (qb rfl rfl) (r_d rfl rfl rfl (qQ rfl rfl) (r_d rfl rfl rfl (qL rfl qhp rfl) (r_r rfl rfl rfl (qap rfl rfl (.head _) rfl rfl (by exact qdR) rfl) (r_d rfl rfl rfl (qb rfl rfl) ?_)))))))))))
  refine r_d rfl rfl rfl (qQ rfl rfl) (r_d rfl rfl rfl (qL rfl qeM rfl) (r_r rfl rfl rfl (qap rfl rfl (.head _) rfl rfl (by exact qW) rfl) ?_))
  obtain ⟨r_1, hr_1, hr⟩ := bindS hr
  refine r_d rfl rfl rfl (qK rfl qo0 (.oc rfl (.oc rfl .nil)) (qoQ _ _ _ hr_1)) (r_d rfl rfl rfl (qb rfl rfl) (r_d rfl rfl rfl (qaH rfl rfl rfl) (r_d rfl rfl rfl (qaH rfl rfl rfl) (r_d rfl rfl rfl (qaH rfl rfl rfl) (r_d rfl rfl rfl (qe rfl rfl) (r_d rfl rfl rfl (qe rfl rfl) (r_d rfl rfl rfl (qe rfl rfl) (qj (qh (gr [.d, .d, .d, .w] (r_d rfl rfl rfl (qb rfl rfl) ?_)))))))))))
  refine r_d rfl rfl rfl (qb rfl rfl) (r_d rfl rfl rfl (qb rfl rfl) ?_)
  rcases bindXS hr with ⟨c_r_2, hr_2, rfl⟩ | ⟨r_2, hr_2, hr⟩
  ·
   refine qdq rfl rfl (qb5 _ rfl qdu (.oc rfl (.oc rfl (.oc rfl .nil))) (by exact (pf0 _)) (q9 (qcT _ _ _ _ _ hr_2))) (hX _ ⟨_, rfl, rfl⟩)
  ·
   refine r_w rfl rfl rfl (qac _ rfl qdu (.oc rfl (.oc rfl (.oc rfl .nil))) (by exact (pf0 _)) (qaa (qcT _ _ _ _ _ hr_2))) ?_
   rintro _ _ ⟨_, ⟨rfl, rfl⟩, rfl⟩
   refine r_st ((.cell b_o0 (qi r_2)) :: _) rfl (qj (qh (gr [.d, .d] (r_d rfl rfl rfl (qb rfl rfl) (r_d rfl rfl rfl (qe rfl rfl) (qj ?_))))))
   obtain rfl := Option.some.inj hr
   refine qJ Tryz.func88 _ (.cons (resTmp rfl (Wk.refl _)) .nil) ?_
   exact ⟨_, rfl, rfl, rfl⟩
noncomputable def qfH (fuel : Nat) (c_0 : qd) : Option (Int ⊕ (qar × qd)) :=
  (bindX (qhR fuel 1000 c_0) fun r_2 =>
  (bindX (qhL fuel 500 r_2.2) fun r_3 =>
  (bindX (qhT fuel 1048576 r_3.2) fun r_4 =>
  (bindX (qhS 5000 r_4.2) fun r_5 =>
  (bindX (qA 0 2147483648 r_5.2) fun r_6 =>
  (bindX (qA 0 1048576 r_6.2) fun r_7 =>
  (bindX (qfJ r_7.2) fun r_8 =>
  some (.inr ((⟨r_2.1, r_3.1, r_4.1, r_5.1, r_6.1, r_7.1, r_8.1⟩ : qar), r_8.2)))))))))
set_option maxHeartbeats 1000000 in
theorem qg4 (fuel : Nat) (c_0 : qd) (b_o0 : Nat) (res : Int ⊕ (qar × qd)) (hr : qfH fuel c_0 = some res) : SpecX Tryz.prog 77 [.ref b_o0 0 []] [.cell b_o0 (qi c_0)] (fun d σ => ∃ r : qar × qd, res = .inr r ∧ d = qae r.1 ∧ σ = [.cell b_o0 (qi r.2)]) (fun d => ∃ c, res = .inl c ∧ d = .ifc 191 (.agg [.int .i64 c])) := by
  unfold qfH at hr
  refine qcG [(0, .ref b_o0 0 [])] Tryz.func77 rfl rfl fun K hK hX => (qh (gr [.d, .w] (r_d rfl rfl rfl (qef rfl rfl rfl) (r_w rfl rfl rfl (qa8 rfl qha) ?_))))
  rintro _ _ ⟨b2_0, rfl, rfl⟩
  refine qj (qh (gr [.d, .d, .d, .w, .d, .w] (r_d rfl rfl rfl (qk rfl rfl (by exact qad) rfl) (r_d rfl rfl rfl (qk rfl rfl (by exact qad) rfl) (r_d rfl rfl rfl (qcg rfl rfl rfl) ?_)))))
  rcases bindXS hr with ⟨c_r_2, hr_2, rfl⟩ | ⟨r_2, hr_2, hr⟩
  ·
   refine qdq rfl rfl (qb5 _ rfl qhl (.oc rfl (.oc rfl (.oc rfl .nil))) (by exact (pf1 _ _ _)) (q9 (qjh fuel _ _ _ _ hr_2))) (hX _ ⟨_, rfl, rfl⟩)
  ·
   refine r_w rfl rfl rfl (qac _ rfl qhl (.oc rfl (.oc rfl (.oc rfl .nil))) (by exact (pf1 _ _ _)) (qaa (qjh fuel _ _ _ _ hr_2))) ?_
   rintro _ _ ⟨_, ⟨rfl, rfl⟩, rfl⟩
   refine r_st ((.cell b_o0 (qi r_2.2)) :: _) rfl (r_d rfl rfl rfl (qL rfl qd5 rfl) (qbE rfl rfl rfl (qcu _ rfl rfl rfl (Wk.refl _) (pf1 _ _ _) rfl rfl (by exact qew) rfl rfl rfl) (qj (qh (gr [.d, .d, .d, .w, .d, .w] (r_d rfl rfl rfl (qk rfl rfl (by exact qad) rfl) (r_d rfl rfl rfl (qk rfl rfl (by exact qad) rfl) (r_d rfl rfl rfl (qcg rfl rfl rfl) ?_))))))))
   rcases bindXS hr with ⟨c_r_3, hr_3, rfl⟩ | ⟨r_3, hr_3, hr⟩
   ·
    refine qdq rfl rfl (qb5 _ rfl qht (.oc rfl (.oc rfl (.oc rfl .nil))) (by exact (pf1 _ _ _)) (q9 (qjz fuel _ _ _ _ hr_3))) (hX _ ⟨_, rfl, rfl⟩)
   ·
    refine r_w rfl rfl rfl (qac _ rfl qht (.oc rfl (.oc rfl (.oc rfl .nil))) (by exact (pf1 _ _ _)) (qaa (qjz fuel _ _ _ _ hr_3))) ?_
    rintro _ _ ⟨_, ⟨rfl, rfl⟩, rfl⟩
    refine r_st ((.cell b_o0 (qi r_3.2)) :: _) rfl (r_d rfl rfl rfl (qL rfl qig rfl) (qbE rfl rfl rfl (qcu _ rfl rfl rfl (Wk.refl _) (pf1 _ _ _) rfl rfl (by exact qja) rfl rfl rfl) (qj (qh (gr [.d, .d, .w, .d, .w] (r_d rfl rfl rfl (qk rfl rfl (by exact qad) rfl) (r_d rfl rfl rfl (qcg rfl rfl rfl) ?_)))))))
    rcases bindXS hr with ⟨c_r_4, hr_4, rfl⟩ | ⟨r_4, hr_4, hr⟩
    ·
     refine qdq rfl rfl (qb5 _ rfl qhD (.oc rfl (.oc rfl (.oc rfl .nil))) (by exact (pf1 _ _ _)) (q9 (qjx fuel _ _ _ _ hr_4))) (hX _ ⟨_, rfl, rfl⟩)
    ·
     refine r_w rfl rfl rfl (qac _ rfl qhD (.oc rfl (.oc rfl (.oc rfl .nil))) (by exact (pf1 _ _ _)) (qaa (qjx fuel _ _ _ _ hr_4))) ?_
     rintro _ _ ⟨_, ⟨rfl, rfl⟩, rfl⟩
     refine r_st ((.cell b_o0 (qi r_4.2)) :: _) rfl (r_d rfl rfl rfl (qL rfl qg1 rfl) (qbE rfl rfl rfl (qcu _ rfl rfl rfl (Wk.refl _) (pf1 _ _ _) rfl rfl (by exact qiK) rfl rfl rfl) (qj (qh (gr [.d, .d, .w, .d, .w] (r_d rfl rfl rfl (qk rfl rfl (by exact qad) rfl) (r_d rfl rfl rfl (qcg rfl rfl rfl) ?_)))))))
     rcases bindXS hr with ⟨c_r_5, hr_5, rfl⟩ | ⟨r_5, hr_5, hr⟩
     ·
      refine qdq rfl rfl (qb5 _ rfl qhw (.oc rfl (.oc rfl (.oc rfl .nil))) (by exact (pf1 _ _ _)) (q9 (qjB _ _ _ _ hr_5))) (hX _ ⟨_, rfl, rfl⟩)
     ·
      refine r_w rfl rfl rfl (qac _ rfl qhw (.oc rfl (.oc rfl (.oc rfl .nil))) (by exact (pf1 _ _ _)) (qaa (qjB _ _ _ _ hr_5))) ?_
      rintro _ _ ⟨_, ⟨rfl, rfl⟩, rfl⟩
      refine r_st ((.cell b_o0 (qi r_5.2)) :: _) rfl (r_d rfl rfl rfl (qL rfl qil rfl) (qbE rfl rfl rfl (qcu _ rfl rfl rfl (Wk.refl _) (pf1 _ _ _) rfl rfl (by exact qi8) rfl rfl rfl) (qj (qh (gr [.d, .w, .d, .w] (r_d rfl rfl rfl (qk rfl rfl (by exact qad) rfl) ?_))))))
      rcases bindXS hr with ⟨c_r_6, hr_6, rfl⟩ | ⟨r_6, hr_6, hr⟩
      ·
       refine qdq rfl rfl (qb5 _ rfl qp (.oc rfl (.oc rfl (.oc rfl .nil))) (by exact (pf1 _ _ _)) (q9 (ql _ _ _ _ _ hr_6))) (hX _ ⟨_, rfl, rfl⟩)
      ·
       refine r_w rfl rfl rfl (qac _ rfl qp (.oc rfl (.oc rfl (.oc rfl .nil))) (by exact (pf1 _ _ _)) (qaa (ql _ _ _ _ _ hr_6))) ?_
       rintro _ _ ⟨_, ⟨rfl, rfl⟩, rfl⟩
       refine r_st ((.cell b_o0 (qi r_6.2)) :: _) rfl (r_d rfl rfl rfl (qL rfl qio rfl) (qbE rfl rfl rfl (qcu _ rfl rfl rfl (Wk.refl _) (pf1 _ _ _) rfl rfl (by exact qW) rfl rfl rfl) (qj (qh (gr [.d, .w, .d, .w] (r_d rfl rfl rfl (qk rfl rfl (by exact qad) rfl) ?_))))))
       rcases bindXS hr with ⟨c_r_7, hr_7, rfl⟩ | ⟨r_7, hr_7, hr⟩
       ·
        refine qdq rfl rfl (qb5 _ rfl qp (.oc rfl (.oc rfl (.oc rfl .nil))) (by exact (pf1 _ _ _)) (q9 (ql _ _ _ _ _ hr_7))) (hX _ ⟨_, rfl, rfl⟩)
       ·
        refine r_w rfl rfl rfl (qac _ rfl qp (.oc rfl (.oc rfl (.oc rfl .nil))) (by exact (pf1 _ _ _)) (qaa (ql _ _ _ _ _ hr_7))) ?_
        rintro _ _ ⟨_, ⟨rfl, rfl⟩, rfl⟩
        refine r_st ((.cell b_o0 (qi r_7.2)) :: _) rfl (r_d rfl rfl rfl (qL rfl qiB rfl) (qbE rfl rfl rfl (qcu _ rfl rfl rfl (Wk.refl _) (pf1 _ _ _) rfl rfl (by exact qW) rfl rfl rfl) (qj (qh (gr [.d, .w, .d, .w] (r_d rfl rfl rfl (qk rfl rfl (by exact qad) rfl) ?_))))))
        rcases bindXS hr with ⟨c_r_8, hr_8, rfl⟩ | ⟨r_8, hr_8, hr⟩
        ·
         refine qdq rfl rfl (qb5 _ rfl qia (.oc rfl .nil) (by exact (pf1 _ _ _)) (q9 (qgU _ _ _ hr_8))) (hX _ ⟨_, rfl, rfl⟩)
        ·
         refine r_w rfl rfl rfl (qac _ rfl qia (.oc rfl .nil) (by exact (pf1 _ _ _)) (qaa (qgU _ _ _ hr_8))) ?_
         rintro _ _ ⟨_, ⟨rfl, rfl⟩, rfl⟩
         refine r_st ((.cell b_o0 (qi r_8.2)) :: _) rfl (r_d rfl rfl rfl (qL rfl qls rfl) (qbE rfl rfl rfl (qcu _ rfl rfl rfl (Wk.refl _) (pf1 _ _ _) rfl rfl (by exact qcE) rfl rfl rfl) (qj (qh (gr [.r, .w] (r_r rfl rfl rfl (qap rfl rfl (.head _) rfl rfl (by exact qcA) rfl) (qbE rfl rfl rfl (qag _ rfl rfl rfl (Wk.refl _) (pf0 _) (by exact qcA) rfl rfl rfl) (qj (qaT 2 b2_0 rfl (pf0 _) ?_)))))))))
         obtain rfl := Option.some.inj hr
         refine qJ Tryz.func77 _ (.cons (resPtr rfl (by exact qcA) rfl (Wk.refl _)) .nil) ?_
         exact ⟨_, rfl, rfl, rfl⟩
section
variable {m : Md} {P : Program} {f : FuncId} {fn : Func} {K : Ctx} {R : D → St → Prop} {k : List Item} {env : Env} {σ : St}
theorem qnJ {P : Program} {fr : Frame} {w : World} {e : Ending} (h : fr.leaving P w e) : LeavesAs .normal P fr w e := by
  cases e with
  | returned v => exact h
  | panicked c => exact h
  | outgrown => trivial
def OutD (m : Md) (P : Program) (fn : Func) (K : Ctx) (R : D → St → Prop) (env : Env) (d : D) (τ : St) : Prop := ∀ (p : Addr → Prop) (a : Act) (w : World) (v : Value), Inv K p τ w → RelEnv p w env a → Rep p w d v → Leaves P fn a.tmps (Left K R) m.marks (.panicking [{ v, recovered := false }]) w
theorem qsh {id : Nat} {ops : Array Oper} {dr : Bool} {Q : Env → St → Prop} {X : Env → D → St → Prop} (hrd : m.rd = none) (hkd : m.kd = .normal) (h : ∀ (p : Addr → Prop) (a : Act) (w : World), Inv K p σ w → RelEnv p w env a → fn.ntmps ≤ a.tmps.size → a.defers = m.marks → (Code.region id ops dr).wpIn (fw m.rd) 0 P (EndsR P K fn.ntmps m X Q) a w)
    (hX : ∀ e d τ, X e d τ → OutD m P fn K R e d τ) (hq : ∀ env' σ', Q env' σ' → GoesG m P f fn K R k env' σ') : GoesG m P f fn K R (.code (.region id ops dr) :: k) env σ := fun p a w hi hr hn hd b cs hb hk hro hf => by
  obtain ⟨e, a', w', hE, harr⟩ := h p a w hi hr hn hd b k cs (hro.trans (qoM _).symm) (qpd _ _) (qqh _ _)
  rcases hE with ⟨rfl, env', σ', p', q, i1, i2, i3, i4⟩ | ⟨v, d, τ, p', env', rfl, hx, hv, hi', hr', hd'⟩
  · exact .of_steps (qmG harr) (hq env' σ' q p' a' w' i1 i2 i3 i4 b cs hb hk hro hf)
  · obtain ⟨todo, hs⟩ := harr
    obtain ⟨e, w'', fr', h1, h2, h3, h4⟩ := leaves_steps (P := P) (fn := fn) m.marks (.panicking [{ v, recovered := false }]) w' { b.atR a' todo with mode := .panicking [{ v, recovered := false }] } cs rfl hd' rfl (by rw [← hb] at hf; exact hf) (hk.trans hkd) (hX env' d τ hx p' a' w' v hi' hr' hv)
    refine .of_steps (qmG hs) ?_
    rw [hrd, hkd]
    exact ⟨e, w'', fr', h1, h2, h3.trans hb, qnJ h4⟩
theorem qiV (hrd : m.rd = none) (hkd : m.kd = .normal) {id : Nat} {l : List Oper} (hok : okOps l.toArray fn.ntmps = true) (ord : List (Nat × Cls)) (ho : ord.map (·.1) = List.range l.length)
    (h : Run P l.toArray (OutD m P fn K R) (GoesG m P f fn K R k) ord env σ) : GoesG m P f fn K R (.code (.region id l.toArray false) :: k) env σ :=
  qsh hrd hkd (Q := GoesG m P f fn K R k) (X := OutD m P fn K R) (fun p a w hi hr hn hd => by
    refine wpIn_region ?_
    have := qnx (K := K) (m := m) (X := OutD m P fn K R) (fun _ _ _ _ => hrd) hok ord env σ a w h ⟨p, hi, hr, hn, hd⟩
    rw [ho] at this
    simpa using this) (fun _ _ _ h => h) (fun _ _ h => h)
theorem quE (hrd : m.rd = none) (hkd : m.kd = .normal) (h : ∀ (p : Addr → Prop) (a : Act) (w : World), Inv K p σ w → RelEnv p w env a → Leaves P fn a.tmps (Left K R) m.marks .returning w) : GoesG m P f fn K R (.code .ret :: k) env σ := fun p a w hi hr hn hd b cs hb hk hro hf => by
  obtain ⟨e, w'', fr', h1, h2, h3, h4⟩ := leaves_steps (P := P) (fn := fn) m.marks .returning w { b.atR a (.code .ret :: k) with mode := .returning } cs rfl hd rfl (by rw [← hb] at hf; exact hf) (hk.trans hkd) (h p a w hi hr)
  refine .of_steps (.one (stepR_ret (hro.trans hrd))) ?_
  rw [hrd, hkd]
  exact ⟨e, w'', fr', h1, h2, h3.trans hb, qnJ h4⟩
theorem qqW {id t s1 s2 : Nat} {g : FuncId} {b1 b2 : Nat} {o1 o2 : Oper} (hrd : m.rd = none) (ho1 : o1.op = .makeFunc (.func g) #[] #[.tmp s1, .tmp s2]) (hd1 : o1.dst = some t) (hg1 : o1.guard = none) (ho2 : o2.op = .defer { callee := .value (.tmp t), args := #[], argTypes := #[] }) (hd2 : o2.dst = none) (hg2 : o2.guard = none)
    (h1 : lk env s1 = some (.ref b1 0 [])) (h2 : lk env s2 = some (.ref b2 0 [])) (ht : t < fn.ntmps)
    (h : GoesG { m with ds := { target := .fn (.func g) #[.pointer (some ⟨b1, 0, none⟩), .pointer (some ⟨b2, 0, none⟩)], args := #[] } :: m.ds } P f fn K R k ((t, .clo (.func g) [] [.ref b1 0 [], .ref b2 0 []]) :: env) σ) :
    GoesG m P f fn K R (.code (.region id #[o1, o2] false) :: k) env σ := fun p a w hi hr hn hd b cs hb hk hro hf => by
  have v1 := hr s1 _ h1
  have v2 := hr s2 _ h2
  simp only [Rep] at v1 v2
  have hs : t < a.tmps.size := Nat.lt_of_lt_of_le ht hn
  have arr : (Code.region id #[o1, o2] false).wpIn (fw m.rd) 0 P (fun e a' w' => e = .normal ∧ w' = w ∧ a' = { tmps := a.tmps.setIfInBounds t (.func (.func g) #[] #[.pointer (some ⟨b1, 0, none⟩), .pointer (some ⟨b2, 0, none⟩)]), defers := { target := .fn (.func g) #[.pointer (some ⟨b1, 0, none⟩), .pointer (some ⟨b2, 0, none⟩)], args := #[] } :: a.defers }) a w := by
    rw [hrd]
    refine wpIn_region ?_
    simp only [List.size_toArray, List.length_cons, List.length_nil, List.range_succ, List.range_zero, List.nil_append, List.cons_append]
    simp only [wpOpsIn, List.getElem?_toArray, List.getElem?_cons_zero, List.getElem?_cons_succ, Region.wanted, hg1, hg2, if_true]
    refine qlw ?_
    unfold Oper.wp
    have r1 : (execOp a.eval o1).run P w = .ok (.value (.func (.func g) #[] #[.pointer (some ⟨b1, 0, none⟩), .pointer (some ⟨b2, 0, none⟩)])) w := by
      unfold execOp
      rw [ho1]
      simp [Instr.makeFunc, Act.eval, v1, v2]
    rw [r1, Oper.upon_value, hd1]
    refine qlw ?_
    unfold Oper.wp
    have r2 : (execOp (a.put (some t) (.func (.func g) #[] #[.pointer (some ⟨b1, 0, none⟩), .pointer (some ⟨b2, 0, none⟩)])).eval o2).run P w = .ok (.defer { target := .fn (.func g) #[.pointer (some ⟨b1, 0, none⟩), .pointer (some ⟨b2, 0, none⟩)], args := #[] }) w := by
      unfold execOp
      rw [ho2]
      simp [resolve, Deferred.ofValue, Act.eval, Act.put, hs]
    rw [r2, Oper.upon_defer, hd2]
    exact ⟨trivial, rfl, rfl⟩
  obtain ⟨e, a', w', ⟨rfl, rfl, rfl⟩, harr⟩ := arr b k cs (hro.trans (qoM _).symm) (qpd _ _) (qqh _ _)
  refine .of_steps (qmG harr) (h p _ w' hi (fun s d hsd => ?_) (by simpa using hn) (by simp [Md.marks, hd]) b cs hb hk hro hf)
  rw [qfS] at hsd
  by_cases hst : t = s
  · subst hst
    rw [if_pos rfl] at hsd
    injection hsd with hsd
    subst hsd
    simp only [Rep, Repl]
    exact ⟨[], [.pointer (some ⟨b1, 0, none⟩), .pointer (some ⟨b2, 0, none⟩)], by simp [hs], rfl, _, _, rfl, rfl, _, _, rfl, rfl, rfl⟩
  · rw [if_neg hst] at hsd
    have := hr s d hsd
    simpa [Array.getElem?_setIfInBounds_ne hst] using this
end
section
variable {P : Program}
theorem qol (u u1 : FrameMode) {v : Value} (hrec : ∀ (c₀ : Frame) (cs : List Frame), c₀.mode = u → recoverD (c₀ :: cs) = some (v, { c₀ with mode := u1 } :: cs) ∨ (recoverD (c₀ :: cs) = none ∧ v = .nilIface ∧ ({ c₀ with mode := u1 } : Frame) = c₀)) {g : FuncId} {fn : Func} {id : Nat} {o1 o2 : Oper} {c1 : Code} {b1 b2 tr td : Nat} {d : D} {K : Ctx} {R : D → St → Prop} {σ : St} {p : Addr → Prop} {w : World}
    (hf : P.funcs[g]? = some fn) (hb : fn.body = some (.seq (.region id #[o1, o2] false) c1)) (h1 : o1.op = .call { callee := .builtin .recover, args := #[], argTypes := #[] }) (hd1 : o1.dst = some tr) (hg1 : o1.guard = none) (h2 : o2.op = .assign (.tmp tr)) (hd2 : o2.dst = some td) (hg2 : o2.guard = none)
    (ht : tr < fn.ntmps) (ht2 : td < fn.ntmps) (hne : 2 ≤ tr) (hne2 : 2 ≤ td) (hi : Inv K p σ w) (hv : Rep p w d v)
    (h : ∀ K', GoesG ⟨none, [], [], .deferred⟩ P g fn K' R [.code c1] [(td, d), (tr, d), (0, .ref b1 0 []), (1, .ref b2 0 [])] σ) :
    CallsD P g #[.pointer (some ⟨b1, 0, none⟩), .pointer (some ⟨b2, 0, none⟩)] u w fun e u' w' => u' = u1 ∧ Left { K with X := fun _ _ => False } R e w' := by
  intro c₀ cs hu
  let b : Frame := { (default : Frame) with fn := g, kind := .deferred, roundOf := none }
  let a0 : Act := { tmps := #[.pointer (some ⟨b1, 0, none⟩), .pointer (some ⟨b2, 0, none⟩)] ++ Array.replicate (fn.ntmps - 2) undef, defers := [] }
  let a1 : Act := { tmps := (a0.tmps.setIfInBounds tr v).setIfInBounds td v, defers := [] }
  have hsz : a0.tmps.size = fn.ntmps := by
    simp only [a0, Array.size_append, Array.size_replicate]
    show 2 + (fn.ntmps - 2) = _
    omega
  have henter : Frame.enter P g #[.pointer (some ⟨b1, 0, none⟩), .pointer (some ⟨b2, 0, none⟩)] .deferred = b.at a0 [.code (.seq (.region id #[o1, o2] false) c1)] := by
    simp [Frame.enter, Frame.at, hf, hb, b, a0]
  have hreg : (Code.region id #[o1, o2] false).wpS P (fun e a' cs' w' => e = .normal ∧ a' = a1 ∧ cs' = { c₀ with mode := u1 } :: cs ∧ w' = w) a0 (c₀ :: cs) w := by
    apply wpS_region
    have r1 : (execOp a0.eval o1).run P w = .ok .recover w := by
      unfold execOp
      rw [h1]
      simp [resolve, invoke, go_sem]
    have r2 : (execOp (a0.put (some tr) v).eval o2).run P w = .ok (.value v) w := by
      unfold execOp
      rw [h2]
      simp [Act.eval, Act.put, hsz, ht]
    simp only [List.size_toArray, List.length_cons, List.length_nil, List.range_succ, List.range_zero, List.nil_append, List.cons_append]
    rcases hrec c₀ cs hu with hr | ⟨hr, rfl, he⟩
    · simp only [wpOpsS, List.getElem?_toArray, List.getElem?_cons_zero, List.getElem?_cons_succ, Region.wanted, hg1, hg2, if_true, r1, hr, hd1, r2, hd2, Oper.upon_value]
      exact ⟨trivial, rfl, trivial, trivial⟩
    · rw [he]
      simp only [wpOpsS, List.getElem?_toArray, List.getElem?_cons_zero, List.getElem?_cons_succ, Region.wanted, hg1, hg2, if_true, r1, hr, hd1, r2, hd2, Oper.upon_value]
      exact ⟨trivial, rfl, trivial, trivial⟩
  obtain ⟨e, a', cs', w', ⟨rfl, rfl, rfl, rfl⟩, harr⟩ := hreg b [.code c1] rfl rfl
  have hrel : RelEnv p w' [(td, d), (tr, d), (0, .ref b1 0 []), (1, .ref b2 0 [])] a1 := by
    have hset : ∀ (l : Array Value) (i : Nat) (x : Value) (j : Nat), (l.setIfInBounds i x).getD j undef = if i = j ∧ i < l.size then x else l.getD j undef := fun l i x j => by
      simp only [Array.getD_eq_getD_getElem?, Array.getElem?_setIfInBounds]
      by_cases hij : i = j
      · subst hij
        by_cases hl : i < l.size
        · simp [hl]
        · simp [hl]
      · simp [hij]
    intro t d' hd'
    simp only [qfS] at hd'
    show Rep p w' d' (((a0.tmps.setIfInBounds tr v).setIfInBounds td v).getD t undef)
    rw [hset, hset, Array.size_setIfInBounds, hsz]
    by_cases e1 : td = t
    · rw [if_pos e1] at hd'
      injection hd' with hd'
      subst hd'
      rw [if_pos ⟨e1, ht2⟩]
      exact hv
    · rw [if_neg e1] at hd'
      rw [if_neg fun h => e1 h.1]
      by_cases e2 : tr = t
      · rw [if_pos e2] at hd'
        injection hd' with hd'
        subst hd'
        rw [if_pos ⟨e2, ht⟩]
        exact hv
      · rw [if_neg e2] at hd'
        rw [if_neg fun h => e2 h.1]
        have h01 : t = 0 ∨ t = 1 := by
          by_cases e3 : 0 = t
          · exact .inl e3.symm
          · rw [if_neg e3] at hd'
            by_cases e4 : 1 = t
            · exact .inr e4.symm
            · rw [if_neg e4] at hd'
              cases hd'
        rcases h01 with rfl | rfl
        · rw [if_pos rfl] at hd'
          injection hd' with hd'
          subst hd'
          simp only [Rep]
          show (#[Value.pointer (some ⟨b1, 0, none⟩), Value.pointer (some ⟨b2, 0, none⟩)] ++ Array.replicate (fn.ntmps - 2) undef).getD _ undef = _
          rw [Array.getD_eq_getD_getElem?, Array.getElem?_append_left (by simp)]
          rfl
        · rw [if_neg (by decide), if_pos rfl] at hd'
          injection hd' with hd'
          subst hd'
          simp only [Rep]
          show (#[Value.pointer (some ⟨b1, 0, none⟩), Value.pointer (some ⟨b2, 0, none⟩)] ++ Array.replicate (fn.ntmps - 2) undef).getD _ undef = _
          rw [Array.getD_eq_getD_getElem?, Array.getElem?_append_left (by simp)]
          rfl
  obtain ⟨e, w2, fr, q1, q2, q3, q4⟩ := h { K with X := fun _ _ => False } p a1 w' (hi.of (by rfl) (by rfl) (by rfl)) hrel (by simp [a1, hsz]) (by simp [a1, Md.marks]) b ({ c₀ with mode := u1 } :: cs) rfl rfl rfl hf
  rw [Frame.atR_of_none rfl] at q2
  refine ⟨e, _, w2, fr, ⟨rfl, q1⟩, ?_, ?_⟩
  · rw [henter]
    exact Comes.of_steps (.head step_seq harr) q2
  · rcases q1 with ⟨v', d', σ', q, rfl, _⟩ | ⟨_, _, _, _, _, hx, _⟩
    · obtain ⟨q5, q6, q7, q8⟩ := q4
      exact ⟨q7, q5, q6, q8⟩
    · exact hx.elim
variable {o : Oper} {ρ : Operand → Option D} {d : D}
theorem qoe {v : Value} {g : FuncId} {fn : Func} {id : Nat} {o1 o2 : Oper} {c1 : Code} {b1 b2 tr td : Nat} {d : D} {K : Ctx} {R : D → St → Prop} {σ : St} {p : Addr → Prop} {w : World}
    (hf : P.funcs[g]? = some fn) (hb : fn.body = some (.seq (.region id #[o1, o2] false) c1)) (h1 : o1.op = .call { callee := .builtin .recover, args := #[], argTypes := #[] }) (hd1 : o1.dst = some tr) (hg1 : o1.guard = none) (h2 : o2.op = .assign (.tmp tr)) (hd2 : o2.dst = some td) (hg2 : o2.guard = none)
    (ht : tr < fn.ntmps) (ht2 : td < fn.ntmps) (hne : 2 ≤ tr) (hne2 : 2 ≤ td) (hi : Inv K p σ w) (hv : Rep p w d v)
    (h : ∀ K', GoesG ⟨none, [], [], .deferred⟩ P g fn K' R [.code c1] [(td, d), (tr, d), (0, .ref b1 0 []), (1, .ref b2 0 [])] σ) :
    CallsD P g #[.pointer (some ⟨b1, 0, none⟩), .pointer (some ⟨b2, 0, none⟩)] (.panicking [{ v, recovered := false }]) w fun e u' w' => u' = .panicking [{ v, recovered := true }] ∧ Left { K with X := fun _ _ => False } R e w' :=
  qol _ _ (fun c₀ cs hu => .inl (by simp [recoverD, hu])) hf hb h1 hd1 hg1 h2 hd2 hg2 ht ht2 hne hne2 hi hv h
theorem qno {g : FuncId} {fn : Func} {id : Nat} {o1 o2 : Oper} {c1 : Code} {b1 b2 tr td : Nat} {K : Ctx} {R : D → St → Prop} {σ : St} {p : Addr → Prop} {w : World}
    (hf : P.funcs[g]? = some fn) (hb : fn.body = some (.seq (.region id #[o1, o2] false) c1)) (h1 : o1.op = .call { callee := .builtin .recover, args := #[], argTypes := #[] }) (hd1 : o1.dst = some tr) (hg1 : o1.guard = none) (h2 : o2.op = .assign (.tmp tr)) (hd2 : o2.dst = some td) (hg2 : o2.guard = none)
    (ht : tr < fn.ntmps) (ht2 : td < fn.ntmps) (hne : 2 ≤ tr) (hne2 : 2 ≤ td) (hi : Inv K p σ w)
    (h : ∀ K', GoesG ⟨none, [], [], .deferred⟩ P g fn K' R [.code c1] [(td, .nili), (tr, .nili), (0, .ref b1 0 []), (1, .ref b2 0 [])] σ) :
    CallsD P g #[.pointer (some ⟨b1, 0, none⟩), .pointer (some ⟨b2, 0, none⟩)] .returning w fun e u' w' => u' = .returning ∧ Left { K with X := fun _ _ => False } R e w' :=
  qol .returning .returning (v := .nilIface) (fun c₀ cs hu => .inr ⟨by simp [recoverD, hu], rfl, by cases c₀; simp_all⟩) hf hb h1 hd1 hg1 h2 hd2 hg2 ht ht2 hne hne2 hi (by simp only [Rep]) h
theorem qo7 {x : Operand} {ty t' : TypeId} (ho : o.op = .binOp .neq ty x (.const .nilIface) t') (hx : ρ x = some .nili) (hr : ∀ (w : World), (Op.equal ty .nilIface .nilIface).run P w = .ok true w) : StepD P o ρ (.bool false) := qeL fun p a w h => by
  have h1 := h x (by rw [ho]; simp [Op.operands]) _ hx
  simp only [Rep] at h1
  refine ⟨.bool false, ?_, by simp only [Rep]⟩
  unfold execOp
  rw [ho]
  have e1 : eqGuard .neq ty x (.const .nilIface) .nilIface .nilIface = pure () := by
    unfold eqGuard
    simp
  have e2 : binOp .neq ty .nilIface .nilIface = (do pure (.bool (!(← Op.equal ty .nilIface .nilIface)))) := rfl
  have e3 : a.eval (.const .nilIface) = .nilIface := rfl
  simp [h1, e3, e1, e2, hr]
theorem qpR {x y : Operand} {t ty : TypeId} {t' : TypeId} (ho : o.op = .binOp .neq ty x y t') (hx : ρ x = some (.ifc t d)) (hy : ρ y = some .nili) (hr : ∀ (v : Value) (w : World), (Op.equal ty (.iface t v) .nilIface).run P w = .ok false w) : StepD P o ρ (.bool true) := qeL fun p a w h => by
  have h1 := h x (by rw [ho]; simp [Op.operands]) _ hx
  have h2 := h y (by rw [ho]; simp [Op.operands]) _ hy
  simp only [Rep] at h1 h2
  obtain ⟨v, h1, _⟩ := h1
  refine ⟨.bool true, ?_, by simp only [Rep]⟩
  unfold execOp
  rw [ho]
  have e1 : eqGuard .neq ty x y (.iface t v) .nilIface = pure () := rfl
  have e2 : binOp .neq ty (.iface t v) .nilIface = (do pure (.bool (!(← Op.equal ty (.iface t v) .nilIface)))) := rfl
  simp [h1, h2, e1, e2, hr]
theorem qpL {x : Operand} {tx t : TypeId} (ho : o.op = .typeAssert x tx t true) (hr : ∀ (v : Value) (w : World), (Instr.typeAssert (.iface t v) tx t true).run P w = .ok (.tuple #[v, .bool true]) w) (hx : ρ x = some (.ifc t d)) : StepD P o ρ (.tup [d, .bool true]) := qeL fun p a w h => by
  have h1 := h x (by rw [ho]; simp [Op.operands]) _ hx
  simp only [Rep] at h1
  obtain ⟨v, h1, h2⟩ := h1
  refine ⟨.tuple #[v, .bool true], ?_, ?_⟩
  · unfold execOp
    rw [ho]
    simp [h1, hr]
  · simp only [Rep, Repl]
    exact ⟨[v, .bool true], rfl, _, _, rfl, h2, _, _, rfl, rfl, rfl⟩
end
section
variable {m : Md} {P : Program} {f : FuncId} {fn : Func} {K : Ctx} {R : D → St → Prop} {k : List Item} {env : Env} {σ : St}
theorem qqO (_ : P.funcs[f]? = some fn) (ds : List D) (hds : ResDs P env σ fn.results.toList ds) (hR : R (packD ds) σ) : GoesG ⟨none, [], [], .deferred⟩ P f fn K R [] env σ := fun p a w hi hr hn hd b cs hb hk hro hf => by
  obtain ⟨e, h1, h2, h3⟩ := qqC (R := R) hi hr hd hf hds hR b hb hk []
  refine ⟨e, w, { b.atR a [] with mode := .returning }, h1, ?_, hb, h2⟩
  cases e with
  | returned v => exact Steps.one (stepR_end hro)
  | panicked c => exact Steps.one (stepR_end hro)
  | outgrown => exact absurd rfl h3
theorem qtp {g : FuncId} {b1 b2 s1 s2 : Nat} {d : D} {σ' : St} {ds : List D} (hm : m.marks = [{ target := .fn (.func g) #[.pointer (some ⟨b1, 0, none⟩), .pointer (some ⟨b2, 0, none⟩)], args := #[] }]) (hg : callee P g)
    (hrec : ∀ (p : Addr → Prop) (w : World) (v : Value), Inv K p σ w → Rep p w d v → CallsD P g #[.pointer (some ⟨b1, 0, none⟩), .pointer (some ⟨b2, 0, none⟩)] (.panicking [{ v, recovered := false }]) w fun e u' w' => u' = .panicking [{ v, recovered := true }] ∧ Left { K with X := fun _ _ => False } (fun d σ'' => d = .tup [] ∧ σ'' = σ') e w')
    (hres : ResDs P [(s1, .ref b1 0 []), (s2, .ref b2 0 [])] σ' fn.results.toList ds) (hR : R (packD ds) σ') (h1 : lk env s1 = some (.ref b1 0 [])) (h2 : lk env s2 = some (.ref b2 0 [])) : OutD m P fn K R env d σ := fun p a w v hi hr hv => by
  rw [hm]
  refine leaves_cons (f := g) (args := #[.pointer (some ⟨b1, 0, none⟩), .pointer (some ⟨b2, 0, none⟩)]) (by simp) ?_ ?_
  · simp only [invoke]
    rw [qf8 hg]
    congr 2
  · refine (hrec p w v hi hv).mono ?_
    rintro e u' w' ⟨rfl, hl⟩
    rcases hl with ⟨v', d', σ'', q, rfl, ⟨rfl, rfl⟩, hv', hi'⟩ | ⟨_, _, _, _, rfl, hx, _⟩
    · have hrel : RelEnv q w' [(s1, .ref b1 0 []), (s2, .ref b2 0 [])] a := fun t d ht => by
        rw [qfS] at ht
        split at ht
        · rename_i e
          subst e
          injection ht with ht
          subst ht
          have := hr _ _ h1
          simp only [Rep] at this ⊢
          exact this
        · rw [qfS] at ht
          split at ht
          · rename_i e
            subst e
            injection ht with ht
            subst ht
            have := hr _ _ h2
            simp only [Rep] at this ⊢
            exact this
          · cases ht
      have hi'' : Inv K q σ'' w' := hi'.of (by rfl) (by rfl) (by rfl)
      obtain ⟨v2, h3, h4⟩ := qme hi'' hrel hres
      exact ⟨v2, h3, .inl ⟨v2, _, _, q, rfl, hR, h4, hi''⟩⟩
    · exact hx.elim
theorem qod {g : FuncId} {b1 b2 s1 s2 : Nat} {ds : List D} (hm : m.marks = [{ target := .fn (.func g) #[.pointer (some ⟨b1, 0, none⟩), .pointer (some ⟨b2, 0, none⟩)], args := #[] }]) (hg : callee P g)
    (hidle : ∀ (p : Addr → Prop) (w : World), Inv K p σ w → CallsD P g #[.pointer (some ⟨b1, 0, none⟩), .pointer (some ⟨b2, 0, none⟩)] .returning w fun e u' w' => u' = .returning ∧ Left { K with X := fun _ _ => False } (fun d σ' => d = .tup [] ∧ σ' = σ) e w')
    (h1 : lk env s1 = some (.ref b1 0 [])) (h2 : lk env s2 = some (.ref b2 0 []))
    (hres : ResDs P [(s1, .ref b1 0 []), (s2, .ref b2 0 [])] σ fn.results.toList ds) (hR : R (packD ds) σ) (p : Addr → Prop) (a : Act) (w : World) (hi : Inv K p σ w) (hr : RelEnv p w env a) : Leaves P fn a.tmps (Left K R) m.marks .returning w := by
  rw [hm]
  refine leaves_cons (f := g) (args := #[.pointer (some ⟨b1, 0, none⟩), .pointer (some ⟨b2, 0, none⟩)]) (by simp) ?_ ?_
  · simp only [invoke]
    rw [qf8 hg]
    congr 2
  · refine (hidle p w hi).mono ?_
    rintro e u' w' ⟨rfl, hl⟩
    rcases hl with ⟨v', d', σ'', q, rfl, ⟨rfl, rfl⟩, hv', hi'⟩ | ⟨_, _, _, _, rfl, hx, _⟩
    · have hrel : RelEnv q w' [(s1, .ref b1 0 []), (s2, .ref b2 0 [])] a := fun t d ht => by
        rw [qfS] at ht
        split at ht
        · rename_i e
          subst e
          injection ht with ht
          subst ht
          have := hr _ _ h1
          simp only [Rep] at this ⊢
          exact this
        · rw [qfS] at ht
          split at ht
          · rename_i e
            subst e
            injection ht with ht
            subst ht
            have := hr _ _ h2
            simp only [Rep] at this ⊢
            exact this
          · cases ht
      have hi'' : Inv K q _ w' := hi'.of (by rfl) (by rfl) (by rfl)
      obtain ⟨v2, h3, h4⟩ := qme hi'' hrel hres
      exact ⟨v2, h3, .inl ⟨v2, _, _, q, rfl, hR, h4, hi''⟩⟩
    · exact hx.elim
end
theorem qog (v : Value) (w : World) : (Instr.typeAssert (.iface 191 v) 20 191 true).run Tryz.prog w = .ok (.tuple #[v, .bool true]) w := by
  kernel_rfl
def wholeR {α : Type} (z : α) (r : Int ⊕ (α × Int)) : α × Int := match r with
  | .inl c => (z, c)
  | .inr x => x
/-! ### Program -/
def qik : qI := ⟨[], []⟩
theorem qpq (v : Value) (w : World) : (Op.equal 20 (.iface 191 v) .nilIface).run Tryz.prog w = .ok false w := rfl
set_option maxHeartbeats 1000000 in
theorem qqn {K : Ctx} (b8 b9 : Nat) (c c_0 : Int) (c_1 : qI) (p : Addr → Prop) (w : World) (v : Value) (hi : Inv K p [.cell b9 (.int .i64 c_0), .cell b8 (qn c_1)] w) (hv : Rep p w (.ifc 191 (.agg [.int .i64 c])) v) :
    CallsD Tryz.prog 139 #[.pointer (some ⟨b8, 0, none⟩), .pointer (some ⟨b9, 0, none⟩)] (.panicking [{ v, recovered := false }]) w fun e u' w' => u' = .panicking [{ v, recovered := true }] ∧ Left { K with X := fun _ _ => False } (fun d σ => d = .tup [] ∧ σ = [.cell b9 (.int .i64 c), .cell b8 (qn qik)]) e w' := by
  refine qoe Tryz.func139 rfl rfl rfl rfl rfl rfl rfl (by decide) (by decide) (by decide) (by decide) hi hv fun K' => ?_
  refine qh (qn6 (by kernel_rfl) [(0, .d), (1, .d)] rfl (r_d rfl rfl rfl (qb rfl rfl) (r_d rfl rfl rfl (qpR rfl rfl rfl qpq) (qj (qo rfl (qh (qn6 (by kernel_rfl) [(0, .d), (1, .d), (2, .d), (3, .d), (4, .d), (5, .w), (6, .w), (7, .d)] rfl (r_d rfl rfl rfl (qb rfl rfl) (r_d rfl rfl rfl (qpL rfl qog rfl) (r_d rfl rfl rfl (qb rfl rfl) (r_d rfl rfl rfl (qaH rfl rfl rfl) ?_)))))))))))
  refine r_d rfl rfl rfl (qaH rfl rfl rfl) (r_w rfl rfl rfl (qa8 rfl qjo) ?_)
  rintro _ _ ⟨b3_0, rfl, rfl⟩
  refine qbE rfl rfl rfl (qag _ rfl rfl rfl (Wk.refl _) (pf0 _) (by exact qjp) rfl rfl rfl) (r_d rfl rfl rfl (qe rfl rfl) (qj (qaT 3 b3_0 rfl (pf0 _) (qh (qh (qn6 (by kernel_rfl) [(0, .d), (1, .d)] rfl (r_d rfl rfl rfl (qb rfl rfl) (r_d rfl rfl rfl (qdO rfl rfl) (qj (qs rfl (qE ?_)))))))))))
  refine qh (qn6 (by kernel_rfl) [(0, .w)] rfl (r_w rfl rfl rfl (qa8 rfl qfx) ?_))
  rintro _ _ ⟨b5_2, rfl, rfl⟩
  refine qj (ga [(0, .r), (1, .d), (2, .d), (3, .w), (4, .w)] (r_r rfl rfl rfl (qap rfl rfl (.head _) rfl rfl (by exact qam) rfl) (r_d rfl rfl rfl (qg rfl qiO rfl rfl rfl rfl) (r_d rfl rfl rfl (qk rfl rfl (by exact qfy) rfl) (qbE rfl rfl rfl (qag _ rfl rfl rfl (Wk.refl _) (pf2 _ _ _ _) (by exact qam) rfl (qak _) rfl) (qbE rfl rfl rfl (qag _ rfl rfl rfl (Wk.refl _) (pf2 _ _ _ _) (by exact qfy) rfl rfl rfl) (qj (qc6 [_, _] _ ((pf1 _ _ _).trans (pf1 _ _ _)) (qqO Tryz.func139 _ .nil ?_)))))))))
  exact ⟨rfl, rfl⟩
theorem qpj {K : Ctx} {σ : St} (b8 b9 : Nat) (p : Addr → Prop) (w : World) (hi : Inv K p σ w) :
    CallsD Tryz.prog 139 #[.pointer (some ⟨b8, 0, none⟩), .pointer (some ⟨b9, 0, none⟩)] .returning w fun e u' w' => u' = .returning ∧ Left { K with X := fun _ _ => False } (fun d σ' => d = .tup [] ∧ σ' = σ) e w' := by
  refine qno Tryz.func139 rfl rfl rfl rfl rfl rfl rfl (by decide) (by decide) (by decide) (by decide) hi fun K' => ?_
  refine qh (qn6 (by kernel_rfl) [(0, .d), (1, .d)] rfl (r_d rfl rfl rfl (qb rfl rfl) (r_d rfl rfl rfl (qo7 rfl rfl fun _ => rfl) (qj (qs rfl (qE (qqO Tryz.func139 _ .nil ?_)))))))
  exact ⟨rfl, rfl⟩
theorem qkh : callee Tryz.prog 139 := ⟨_, _, Tryz.func139, rfl, by decide⟩
noncomputable def qiR (fuel : Nat) (b_a0 : (List Int)) (first_a1 : Int) : Option (Int ⊕ (qI × Int)) :=
  (bindX (qA first_a1 first_a1 (⟨b_a0, 0⟩ : qd)) fun r_4 =>
  (bindX (qfv fuel r_4.2) fun r_5 =>
  (bif (decide (r_5.2.f1_at < (b_a0.length : Int))) then
  some (.inl 3)
  else
  ((qgl fuel r_5.1).bind fun r_8 =>
  (bif ((r_8.length : Int) == (0 : Int)) then
  some (.inl 2)
  else
  some (.inr (r_5.1, 0)))))))
set_option maxHeartbeats 2000000 in
theorem qm8 (fuel : Nat) (b_a0 : (List Int)) (first_a1 : Int) (res : Int ⊕ (qI × Int)) (hr : qiR fuel b_a0 first_a1 = some res) : Gives Tryz.prog 46 [.lst (b_a0.map (D.int .u8)), .int .i64 first_a1, .clo (.func 47) [] [], .clo (.func 11) [] []] (.tup [qn (wholeR qik res).1, .int .i64 (wholeR qik res).2]) := by
  unfold qiR at hr
  refine qR [(0, .lst (b_a0.map (D.int .u8))), (1, .int .i64 first_a1), (2, .clo (.func 47) [] []), (3, .clo (.func 11) [] [])] Tryz.func46 rfl rfl fun K hK => (qh (gr [.w, .w] (r_w rfl rfl rfl (qa8 rfl qfx) ?_)))
  rintro _ _ ⟨b8_0, rfl, rfl⟩
  refine r_w rfl rfl rfl (qa8 rfl qm6) ?_
  rintro _ _ ⟨b9_1, rfl, rfl⟩
  refine qj (qh (qqW rfl rfl rfl rfl rfl rfl rfl rfl rfl (by decide) ?_))
  have hX : ∀ (e : Env) (c : Int), res = .inl c → lk e 8 = some (.ref b8_0 0 []) → lk e 9 = some (.ref b9_1 0 []) → OutD { Md.top with ds := { target := .fn (.func 139) #[.pointer (some ⟨b8_0, 0, none⟩), .pointer (some ⟨b9_1, 0, none⟩)], args := #[] } :: Md.top.ds } Tryz.prog Tryz.f46 K (fun d' _ => d' = .tup [qn (wholeR qik res).1, .int .i64 (wholeR qik res).2]) e (.ifc 191 (.agg [.int .i64 c])) [.cell b9_1 (.int .i64 0), .cell b8_0 (qn qik)] := fun e c hc h8 h9 => by
    refine qtp (s1 := 8) (s2 := 9) (ds := [qn qik, .int .i64 c]) rfl qkh (fun p w v hi hv => qqn b8_0 b9_1 c 0 qik p w v hi hv) (.cons (resRef rfl (.tail _ (.head _)) (by exact qam) (qak _) (Wk.refl _)) (.cons (resRef rfl (.head _) (by exact qfy) rfl (Wk.refl _)) .nil)) ?_ h8 h9
    rw [hc]
    rfl
  refine qh (qiV rfl rfl (by kernel_rfl) [(0, .d), (1, .d), (2, .w), (3, .d)] rfl (r_d rfl rfl rfl (qb rfl rfl) (r_d rfl rfl rfl (qeB rfl qjP (.oc rfl .nil) (.cons rfl rfl rfl (.nil _))) (r_w rfl rfl rfl (qmv rfl rfl rfl) ?_))))
  rintro _ _ ⟨b15_2, rfl, rfl⟩
  refine r_d rfl rfl rfl (qe rfl rfl) (qj (qh (qiV rfl rfl (by kernel_rfl) [(0, .d), (1, .d), (2, .d), (3, .w)] rfl (r_d rfl rfl rfl (qb rfl rfl) (r_d rfl rfl rfl (qb rfl rfl) (r_d rfl rfl rfl (qb rfl rfl) ?_))))))
  rcases bindXS hr with ⟨c_r_4, hr_4, rfl⟩ | ⟨r_4, hr_4, hr⟩
  ·
   refine qdq rfl rfl (qrA _ rfl qp (.oc rfl (.oc rfl (.oc rfl .nil))) (by exact (pf0 _)) (q9 (ql _ _ _ _ _ hr_4))) (hX _ _ rfl rfl rfl)
  ·
   refine r_w rfl rfl rfl (qac _ rfl qp (.oc rfl (.oc rfl (.oc rfl .nil))) (by exact (pf0 _)) (qaa (ql _ _ _ _ _ hr_4))) ?_
   rintro _ _ ⟨_, ⟨rfl, rfl⟩, rfl⟩
   refine r_st ((.cell b15_2 (qi r_4.2)) :: _) rfl (qj (qh (qiV rfl rfl (by kernel_rfl) [(0, .d), (1, .d), (2, .w), (3, .w), (4, .w)] rfl (r_d rfl rfl rfl (qb rfl rfl) (r_d rfl rfl rfl (qb rfl rfl) ?_)))))
   rcases bindXS hr with ⟨c_r_5, hr_5, rfl⟩ | ⟨r_5, hr_5, hr⟩
   ·
    refine qdq rfl rfl (qpu _ rfl rfl qhB (.oc rfl .nil) rfl (by exact (pf0 _)) (q9 (qgQ fuel _ _ _ hr_5))) (hX _ _ rfl rfl rfl)
   ·
    refine r_w rfl rfl rfl (qfj _ rfl rfl qhB (.oc rfl .nil) rfl (by exact (pf0 _)) (qaa (qgQ fuel _ _ _ hr_5))) ?_
    rintro _ _ ⟨_, ⟨rfl, rfl⟩, rfl⟩
    refine r_st ((.cell b15_2 (qi r_5.2)) :: _) rfl (r_w rfl rfl rfl (qa8 rfl qfx) ?_)
    rintro _ _ ⟨b11_5, rfl, rfl⟩
    refine qbE rfl rfl rfl (qag _ rfl rfl rfl (Wk.refl _) (pf0 _) (by exact qam) (qak _) rfl rfl) (qj (qaT 11 b11_5 rfl (pf0 _) (qh (q0 (qh (qiV rfl rfl (by kernel_rfl) [(0, .d), (1, .d), (2, .d), (3, .r), (4, .d), (5, .d), (6, .d), (7, .d)] rfl (r_d rfl rfl rfl (qb rfl rfl) (r_d rfl rfl rfl (qQ rfl rfl) (r_d rfl rfl rfl (qL rfl qeM rfl) (r_r rfl rfl rfl (qap rfl rfl (.head _) rfl rfl (by exact qW) rfl) (r_d rfl rfl rfl (qb rfl rfl) ?_)))))))))))
    refine r_d rfl rfl rfl (qT (f := (D.int .u8)) b_a0 rfl qeO rfl (asl rfl)) (r_d rfl rfl rfl (qB rfl rfl rfl rfl) (r_d rfl rfl rfl (qe rfl rfl) (qj ?_)))
    refine g_sB 23 rfl hr (fun h23_6 hr => ?_) (fun h23_6 hr => ?_)
    ·
     refine qo rfl (qiV rfl rfl (by kernel_rfl) [(0, .d), (1, .d), (2, .w)] rfl (r_d rfl rfl rfl (qeB rfl qee (.oc rfl .nil) (.cons rfl rfl rfl (.nil _))) (r_d rfl rfl rfl (qkm rfl Tryz.underlying191 rfl) ?_)))
     obtain rfl := Option.some.inj hr
     refine qdq rfl rfl (qnc _ rfl rfl (List.perm_append_comm (l₁ := [_]) (l₂ := [_, _]))) (hX _ _ rfl rfl rfl)
    ·
     refine qs rfl (qh (qiV rfl rfl (by kernel_rfl) [(0, .d), (1, .d), (2, .d), (3, .d), (4, .d), (5, .d)] rfl (r_d rfl rfl rfl (qb rfl rfl) (r_d rfl rfl rfl (qk rfl rfl (by exact qam) (qak _)) ?_))))
     obtain ⟨r_8, hr_8, hr⟩ := bindS hr
     refine r_d rfl rfl rfl (qq9 rfl rfl qjt (.oc rfl .nil) rfl (qjH fuel _ _ hr_8)) (r_d rfl rfl rfl (qT (f := (D.int .u8)) r_8 rfl qeO rfl (asl rfl)) (r_d rfl rfl rfl (qB rfl rfl rfl rfl) (r_d rfl rfl rfl (qe rfl rfl) (qj ?_))))
     refine g_sB 33 rfl hr (fun h33_8 hr => ?_) (fun h33_8 hr => ?_)
     ·
      refine qo rfl (qiV rfl rfl (by kernel_rfl) [(0, .d), (1, .d), (2, .w)] rfl (r_d rfl rfl rfl (qeB rfl qee (.oc rfl .nil) (.cons rfl rfl rfl (.nil _))) (r_d rfl rfl rfl (qkm rfl Tryz.underlying191 rfl) ?_)))
      obtain rfl := Option.some.inj hr
      refine qdq rfl rfl (qnc _ rfl rfl (List.perm_append_comm (l₁ := [_]) (l₂ := [_, _]))) (hX _ _ rfl rfl rfl)
     ·
      refine qs rfl (qE (qF (qh (qiV rfl rfl (by kernel_rfl) [(0, .d), (1, .w), (2, .w)] rfl (r_d rfl rfl rfl (qk rfl rfl (by exact qam) (qak _)) (qbE rfl rfl rfl (qag _ rfl rfl rfl (Wk.refl _) (pf2 _ _ _ _) (by exact qam) (qak _) rfl rfl) (qbE rfl rfl rfl (qag _ rfl rfl rfl (Wk.refl _) (pf2 _ _ _ _) (by exact qfy) rfl rfl rfl) (qj ?_))))))))
      obtain rfl := Option.some.inj hr
      exact quE rfl rfl fun p a w hi hr => qod (ds := [_, _]) rfl qkh (fun p w hi => qpj _ _ p w hi) (s1 := 8) (s2 := 9) rfl rfl (.cons (resRef rfl (.tail _ (.head _)) (by exact qam) (qak _) (Wk.refl _)) (.cons (resRef rfl (.head _) (by exact qfy) rfl (Wk.refl _)) .nil)) rfl p a w hi hr
noncomputable def qkc (fuel : Nat) (b : List Int) (n : Int) : Option (qI × Int) := (qiR fuel b n).bind fun r => some (wholeR qik r)
theorem qmV (fuel : Nat) (b : List Int) (n : Int) (res : qI × Int) (hr : qkc fuel b n = some res) : Gives Tryz.prog 46 [.lst (b.map (D.int .u8)), .int .i64 n, .clo (.func 47) [] [], .clo (.func 11) [] []] (.tup [qn res.1, .int .i64 res.2]) := by
  obtain ⟨r, h1, h2⟩ := bindS hr
  rw [← Option.some.inj h2]
  exact qm8 fuel b n r h1
/-! ### Config -/
def qi3 : qar := ⟨[], [], [], [], 0, 0, false⟩
theorem qp7 (v : Value) (w : World) : (Op.equal 20 (.iface 191 v) .nilIface).run Tryz.prog w = .ok false w := rfl
set_option maxHeartbeats 1000000 in
theorem qr0 {K : Ctx} (b8 b9 : Nat) (c c_0 : Int) (c_1 : qar) (p : Addr → Prop) (w : World) (v : Value) (hi : Inv K p [.cell b9 (.int .i64 c_0), .cell b8 (qae c_1)] w) (hv : Rep p w (.ifc 191 (.agg [.int .i64 c])) v) :
    CallsD Tryz.prog 160 #[.pointer (some ⟨b8, 0, none⟩), .pointer (some ⟨b9, 0, none⟩)] (.panicking [{ v, recovered := false }]) w fun e u' w' => u' = .panicking [{ v, recovered := true }] ∧ Left { K with X := fun _ _ => False } (fun d σ => d = .tup [] ∧ σ = [.cell b9 (.int .i64 c), .cell b8 (qae qi3)]) e w' := by
  refine qoe Tryz.func160 rfl rfl rfl rfl rfl rfl rfl (by decide) (by decide) (by decide) (by decide) hi hv fun K' => ?_
  refine qh (qn6 (by kernel_rfl) [(0, .d), (1, .d)] rfl (r_d rfl rfl rfl (qb rfl rfl) (r_d rfl rfl rfl (qpR rfl rfl rfl qp7) (qj (qo rfl (qh (qn6 (by kernel_rfl) [(0, .d), (1, .d), (2, .d), (3, .d), (4, .d), (5, .w), (6, .w), (7, .d)] rfl (r_d rfl rfl rfl (qb rfl rfl) (r_d rfl rfl rfl (qpL rfl qog rfl) (r_d rfl rfl rfl (qb rfl rfl) (r_d rfl rfl rfl (qaH rfl rfl rfl) ?_)))))))))))
  refine r_d rfl rfl rfl (qaH rfl rfl rfl) (r_w rfl rfl rfl (qa8 rfl qjo) ?_)
  rintro _ _ ⟨b3_0, rfl, rfl⟩
  refine qbE rfl rfl rfl (qag _ rfl rfl rfl (Wk.refl _) (pf0 _) (by exact qjp) rfl rfl rfl) (r_d rfl rfl rfl (qe rfl rfl) (qj (qaT 3 b3_0 rfl (pf0 _) (qh (qh (qn6 (by kernel_rfl) [(0, .d), (1, .d)] rfl (r_d rfl rfl rfl (qb rfl rfl) (r_d rfl rfl rfl (qdO rfl rfl) (qj (qs rfl (qE ?_)))))))))))
  refine qh (qn6 (by kernel_rfl) [(0, .w)] rfl (r_w rfl rfl rfl (qa8 rfl qha) ?_))
  rintro _ _ ⟨b5_2, rfl, rfl⟩
  refine qj (ga [(0, .r), (1, .d), (2, .d), (3, .w), (4, .w)] (r_r rfl rfl rfl (qap rfl rfl (.head _) rfl rfl (by exact qcA) rfl) (r_d rfl rfl rfl (qg rfl qiO rfl rfl rfl rfl) (r_d rfl rfl rfl (qk rfl rfl (by exact qfy) rfl) (qbE rfl rfl rfl (qag _ rfl rfl rfl (Wk.refl _) (pf2 _ _ _ _) (by exact qcA) rfl (qc0 _) rfl) (qbE rfl rfl rfl (qag _ rfl rfl rfl (Wk.refl _) (pf2 _ _ _ _) (by exact qfy) rfl rfl rfl) (qj (qc6 [_, _] _ ((pf1 _ _ _).trans (pf1 _ _ _)) (qqO Tryz.func160 _ .nil ?_)))))))))
  exact ⟨rfl, rfl⟩
theorem qp6 {K : Ctx} {σ : St} (b8 b9 : Nat) (p : Addr → Prop) (w : World) (hi : Inv K p σ w) :
    CallsD Tryz.prog 160 #[.pointer (some ⟨b8, 0, none⟩), .pointer (some ⟨b9, 0, none⟩)] .returning w fun e u' w' => u' = .returning ∧ Left { K with X := fun _ _ => False } (fun d σ' => d = .tup [] ∧ σ' = σ) e w' := by
  refine qno Tryz.func160 rfl rfl rfl rfl rfl rfl rfl (by decide) (by decide) (by decide) (by decide) hi fun K' => ?_
  refine qh (qn6 (by kernel_rfl) [(0, .d), (1, .d)] rfl (r_d rfl rfl rfl (qb rfl rfl) (r_d rfl rfl rfl (qo7 rfl rfl fun _ => rfl) (qj (qs rfl (qE (qqO Tryz.func160 _ .nil ?_)))))))
  exact ⟨rfl, rfl⟩
theorem qle : callee Tryz.prog 160 := ⟨_, _, Tryz.func160, rfl, by decide⟩
noncomputable def qjC (fuel : Nat) (b_a0 : (List Int)) (first_a1 : Int) : Option (Int ⊕ (qar × Int)) :=
  (bindX (qA first_a1 first_a1 (⟨b_a0, 0⟩ : qd)) fun r_4 =>
  (bindX (qfH fuel r_4.2) fun r_5 =>
  (bif (decide (r_5.2.f1_at < (b_a0.length : Int))) then
  some (.inl 3)
  else
  ((qey fuel r_5.1).bind fun r_8 =>
  (bif ((r_8.length : Int) == (0 : Int)) then
  some (.inl 2)
  else
  some (.inr (r_5.1, 0)))))))
set_option maxHeartbeats 2000000 in
theorem qnR (fuel : Nat) (b_a0 : (List Int)) (first_a1 : Int) (res : Int ⊕ (qar × Int)) (hr : qjC fuel b_a0 first_a1 = some res) : Gives Tryz.prog 76 [.lst (b_a0.map (D.int .u8)), .int .i64 first_a1, .clo (.func 77) [] [], .clo (.func 17) [] []] (.tup [qae (wholeR qi3 res).1, .int .i64 (wholeR qi3 res).2]) := by
  unfold qjC at hr
  refine qR [(0, .lst (b_a0.map (D.int .u8))), (1, .int .i64 first_a1), (2, .clo (.func 77) [] []), (3, .clo (.func 17) [] [])] Tryz.func76 rfl rfl fun K hK => (qh (gr [.w, .w] (r_w rfl rfl rfl (qa8 rfl qha) ?_)))
  rintro _ _ ⟨b8_0, rfl, rfl⟩
  refine r_w rfl rfl rfl (qa8 rfl qm6) ?_
  rintro _ _ ⟨b9_1, rfl, rfl⟩
  refine qj (qh (qqW rfl rfl rfl rfl rfl rfl rfl rfl rfl (by decide) ?_))
  have hX : ∀ (e : Env) (c : Int), res = .inl c → lk e 8 = some (.ref b8_0 0 []) → lk e 9 = some (.ref b9_1 0 []) → OutD { Md.top with ds := { target := .fn (.func 160) #[.pointer (some ⟨b8_0, 0, none⟩), .pointer (some ⟨b9_1, 0, none⟩)], args := #[] } :: Md.top.ds } Tryz.prog Tryz.f76 K (fun d' _ => d' = .tup [qae (wholeR qi3 res).1, .int .i64 (wholeR qi3 res).2]) e (.ifc 191 (.agg [.int .i64 c])) [.cell b9_1 (.int .i64 0), .cell b8_0 (qae qi3)] := fun e c hc h8 h9 => by
    refine qtp (s1 := 8) (s2 := 9) (ds := [qae qi3, .int .i64 c]) rfl qle (fun p w v hi hv => qr0 b8_0 b9_1 c 0 qi3 p w v hi hv) (.cons (resRef rfl (.tail _ (.head _)) (by exact qcA) (qc0 _) (Wk.refl _)) (.cons (resRef rfl (.head _) (by exact qfy) rfl (Wk.refl _)) .nil)) ?_ h8 h9
    rw [hc]
    rfl
  refine qh (qiV rfl rfl (by kernel_rfl) [(0, .d), (1, .d), (2, .w), (3, .d)] rfl (r_d rfl rfl rfl (qb rfl rfl) (r_d rfl rfl rfl (qeB rfl qjP (.oc rfl .nil) (.cons rfl rfl rfl (.nil _))) (r_w rfl rfl rfl (qmv rfl rfl rfl) ?_))))
  rintro _ _ ⟨b15_2, rfl, rfl⟩
  refine r_d rfl rfl rfl (qe rfl rfl) (qj (qh (qiV rfl rfl (by kernel_rfl) [(0, .d), (1, .d), (2, .d), (3, .w)] rfl (r_d rfl rfl rfl (qb rfl rfl) (r_d rfl rfl rfl (qb rfl rfl) (r_d rfl rfl rfl (qb rfl rfl) ?_))))))
  rcases bindXS hr with ⟨c_r_4, hr_4, rfl⟩ | ⟨r_4, hr_4, hr⟩
  ·
   refine qdq rfl rfl (qrA _ rfl qp (.oc rfl (.oc rfl (.oc rfl .nil))) (by exact (pf0 _)) (q9 (ql _ _ _ _ _ hr_4))) (hX _ _ rfl rfl rfl)
  ·
   refine r_w rfl rfl rfl (qac _ rfl qp (.oc rfl (.oc rfl (.oc rfl .nil))) (by exact (pf0 _)) (qaa (ql _ _ _ _ _ hr_4))) ?_
   rintro _ _ ⟨_, ⟨rfl, rfl⟩, rfl⟩
   refine r_st ((.cell b15_2 (qi r_4.2)) :: _) rfl (qj (qh (qiV rfl rfl (by kernel_rfl) [(0, .d), (1, .d), (2, .w), (3, .w), (4, .w)] rfl (r_d rfl rfl rfl (qb rfl rfl) (r_d rfl rfl rfl (qb rfl rfl) ?_)))))
   rcases bindXS hr with ⟨c_r_5, hr_5, rfl⟩ | ⟨r_5, hr_5, hr⟩
   ·
    refine qdq rfl rfl (qpu _ rfl rfl qh6 (.oc rfl .nil) rfl (by exact (pf0 _)) (q9 (qg4 fuel _ _ _ hr_5))) (hX _ _ rfl rfl rfl)
   ·
    refine r_w rfl rfl rfl (qfj _ rfl rfl qh6 (.oc rfl .nil) rfl (by exact (pf0 _)) (qaa (qg4 fuel _ _ _ hr_5))) ?_
    rintro _ _ ⟨_, ⟨rfl, rfl⟩, rfl⟩
    refine r_st ((.cell b15_2 (qi r_5.2)) :: _) rfl (r_w rfl rfl rfl (qa8 rfl qha) ?_)
    rintro _ _ ⟨b11_5, rfl, rfl⟩
    refine qbE rfl rfl rfl (qag _ rfl rfl rfl (Wk.refl _) (pf0 _) (by exact qcA) (qc0 _) rfl rfl) (qj (qaT 11 b11_5 rfl (pf0 _) (qh (q0 (qh (qiV rfl rfl (by kernel_rfl) [(0, .d), (1, .d), (2, .d), (3, .r), (4, .d), (5, .d), (6, .d), (7, .d)] rfl (r_d rfl rfl rfl (qb rfl rfl) (r_d rfl rfl rfl (qQ rfl rfl) (r_d rfl rfl rfl (qL rfl qeM rfl) (r_r rfl rfl rfl (qap rfl rfl (.head _) rfl rfl (by exact qW) rfl) (r_d rfl rfl rfl (qb rfl rfl) ?_)))))))))))
    refine r_d rfl rfl rfl (qT (f := (D.int .u8)) b_a0 rfl qeO rfl (asl rfl)) (r_d rfl rfl rfl (qB rfl rfl rfl rfl) (r_d rfl rfl rfl (qe rfl rfl) (qj ?_)))
    refine g_sB 23 rfl hr (fun h23_6 hr => ?_) (fun h23_6 hr => ?_)
    ·
     refine qo rfl (qiV rfl rfl (by kernel_rfl) [(0, .d), (1, .d), (2, .w)] rfl (r_d rfl rfl rfl (qeB rfl qee (.oc rfl .nil) (.cons rfl rfl rfl (.nil _))) (r_d rfl rfl rfl (qkm rfl Tryz.underlying191 rfl) ?_)))
     obtain rfl := Option.some.inj hr
     refine qdq rfl rfl (qnc _ rfl rfl (List.perm_append_comm (l₁ := [_]) (l₂ := [_, _]))) (hX _ _ rfl rfl rfl)
    ·
     refine qs rfl (qh (qiV rfl rfl (by kernel_rfl) [(0, .d), (1, .d), (2, .d), (3, .d), (4, .d), (5, .d)] rfl (r_d rfl rfl rfl (qb rfl rfl) (r_d rfl rfl rfl (qk rfl rfl (by exact qcA) (qc0 _)) ?_))))
     obtain ⟨r_8, hr_8, hr⟩ := bindS hr
     refine r_d rfl rfl rfl (qq9 rfl rfl qix (.oc rfl .nil) rfl (qiz fuel _ _ hr_8)) (r_d rfl rfl rfl (qT (f := (D.int .u8)) r_8 rfl qeO rfl (asl rfl)) (r_d rfl rfl rfl (qB rfl rfl rfl rfl) (r_d rfl rfl rfl (qe rfl rfl) (qj ?_))))
     refine g_sB 33 rfl hr (fun h33_8 hr => ?_) (fun h33_8 hr => ?_)
     ·
      refine qo rfl (qiV rfl rfl (by kernel_rfl) [(0, .d), (1, .d), (2, .w)] rfl (r_d rfl rfl rfl (qeB rfl qee (.oc rfl .nil) (.cons rfl rfl rfl (.nil _))) (r_d rfl rfl rfl (qkm rfl Tryz.underlying191 rfl) ?_)))
      obtain rfl := Option.some.inj hr
      refine qdq rfl rfl (qnc _ rfl rfl (List.perm_append_comm (l₁ := [_]) (l₂ := [_, _]))) (hX _ _ rfl rfl rfl)
     ·
      refine qs rfl (qE (qF (qh (qiV rfl rfl (by kernel_rfl) [(0, .d), (1, .w), (2, .w)] rfl (r_d rfl rfl rfl (qk rfl rfl (by exact qcA) (qc0 _)) (qbE rfl rfl rfl (qag _ rfl rfl rfl (Wk.refl _) (pf2 _ _ _ _) (by exact qcA) (qc0 _) rfl rfl) (qbE rfl rfl rfl (qag _ rfl rfl rfl (Wk.refl _) (pf2 _ _ _ _) (by exact qfy) rfl rfl rfl) (qj ?_))))))))
      obtain rfl := Option.some.inj hr
      exact quE rfl rfl fun p a w hi hr => qod (ds := [_, _]) rfl qle (fun p w hi => qp6 _ _ p w hi) (s1 := 8) (s2 := 9) rfl rfl (.cons (resRef rfl (.tail _ (.head _)) (by exact qcA) (qc0 _) (Wk.refl _)) (.cons (resRef rfl (.head _) (by exact qfy) rfl (Wk.refl _)) .nil)) rfl p a w hi hr
noncomputable def qk9 (fuel : Nat) (b : List Int) (n : Int) : Option (qar × Int) := (qjC fuel b n).bind fun r => some (wholeR qi3 r)
theorem qm9 (fuel : Nat) (b : List Int) (n : Int) (res : qar × Int) (hr : qk9 fuel b n = some res) : Gives Tryz.prog 76 [.lst (b.map (D.int .u8)), .int .i64 n, .clo (.func 77) [] [], .clo (.func 17) [] []] (.tup [qae res.1, .int .i64 res.2]) := by
  obtain ⟨r, h1, h2⟩ := bindS hr
  rw [← Option.some.inj h2]
  exact qnR fuel b n r h1
/-! ### Memory -/
def strY (l : List Int) : ByteArray := ⟨(ofY l).toArray⟩
theorem qso {P : Program} {o : Oper} {ρ : Operand → Option D} {x : Operand} {src dst e : TypeId} {dx : D} (l : List Int) (ho : o.op = .convert src dst x) (hs : P.underlying src = some (.slice e)) (he : P.underlying e = some (.int .u8)) (hd : P.underlying dst = some .string) (hx : ρ x = some dx) (hl : AsL dx (l.map (D.int .u8))) : StepD P o ρ (.str (strY l)) := qeL fun p a w h => by
  obtain ⟨A, c, xs, h1, h2, h3, h4, h5, _⟩ := hl.rep (h x (by rw [ho]; simp [Op.operands]) _ hx)
  rw [List.length_map] at h1 h2
  obtain ⟨_, rfl⟩ := repsY h5
  have hr : Rd w A ((ofY l).map bv) := by
    rcases h4 with h4 | ⟨b, o, rfl, h4⟩
    · exact .inl h4
    · exact .inr ⟨⟨b, o, none⟩, rfl, fun j u hu => by rw [addF]; exact (h4 j u hu).2⟩
  refine ⟨.string (strY l), ?_, ?_⟩
  · unfold execOp
    rw [ho]
    simp only [h1, Sem.run_bind, qpi w src dst e hs he hd A l.length c (ofY l) hr (qjw l), Result.andThen_ok, Sem.run_pure]
    rfl
  · simp only [Rep]
    refine ⟨trivial, ?_⟩
    have : (strY l).size = l.length := by
      show (ofY l).toArray.size = _
      rw [List.size_toArray, qjw]
    omega
end Go.Proofs.YtdoljfkjdfaakaaGreat
