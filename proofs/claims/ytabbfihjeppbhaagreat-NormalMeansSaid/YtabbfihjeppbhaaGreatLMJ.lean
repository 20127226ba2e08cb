/-
 Texts of the seat, merged.
-/
import Derived.Test.YtabbfihjeppbhaaGreatLMA
import Derived.Test.YtabbfihjeppbhaaGreatLMB
import Derived.Test.YtabbfihjeppbhaaGreatLMC
import Derived.Test.YtabbfihjeppbhaaGreatLMD
import Derived.Test.YtabbfihjeppbhaaGreatLME
import Derived.Test.YtabbfihjeppbhaaGreatLMF
import Derived.Test.YtabbfihjeppbhaaGreatLMG
import Derived.Test.YtabbfihjeppbhaaGreatLMH
import Derived.Test.YtabbfihjeppbhaaGreatLMI
import Derived.Test.YtabbfihjeppbhaaGreatChecked
import Derived.WalkKit
import Derived.Lib.Hide
import Derived.Lib.AppendStr
import Derived.Deep.AppendLies
import Derived.Deep.AppendSrc
import Derived.Deep.Draws
import Derived.Deep.QuietTactic
import Derived.BigQuiet
import Derived.Deep.RegionWith
import Derived.Maps.AppendAt
import Derived.WalkSpells
import Derived.Orders
import Derived.Deep.Slices
import Derived.Deep.Fields
import Derived.ChangeArms
import Derived.Lib.OthersKept
import Derived.Lib.TrimU
import Derived.Lib.IndexAny
import Derived.Deep.LoopGhost
import Derived.Lib.Bytealg
import Derived.RangeFuncBox
import Derived.RangeFuncNested
import Derived.RangeFuncBound
import Derived.RangeFuncCalls
import Derived.RangeFuncLeaves
import Derived.Shelf.Abstract
import Derived.OwnWalkIn
import Derived.TacticsInMore
import Derived.LoopNIn
import Derived.LoopIn
import Derived.RangeFuncWrites
import Derived.Maps.OwnIn
import Derived.Maps.Views
import Derived.Laws.OwnMore
import Derived.Maps.OwnSet
import Derived.Test.YtabbfihjeppbhaaGreatRows
import Derived.ProofKit
import Derived.OpenShut
import Derived.Carry
import Derived.OrdersIn
import Derived.Great.BuildSlice
import Derived.ArgAppend
import Derived.Laws.MakeOwn
import Derived.Laws.Cover3
import Derived.Laws.CopyRow
import Derived.MapKept
import Derived.Maps.RangeRun
import Derived.DeepKeys5
import Derived.WideKeyRuns
import Derived.RangeFuncOwn
import Derived.Lib.AppendZeros
set_option linter.unusedVariables false
set_option linter.unusedSimpArgs false
set_option linter.unnecessarySimpa false
set_option linter.all false
namespace Go.Proofs.YtabbfihjeppbhaaGreat
set_option maxRecDepth 100000
open Go.RowKit
noncomputable def qcK (fuel : Nat) (r_a0 : qG) : Option (Bool) :=
 ((qcj (⟨⟨#[]⟩, r_a0.f1_Keep, r_a0.f2_Remove, [], [], 0⟩ : qG)).bind fun r_1 =>
 ((qcb fuel r_1).bind fun r_2 =>
 ((qcj (⟨⟨#[]⟩, r_a0.f1_Keep, r_a0.f2_Remove, r_a0.f3_Guard, [], 0⟩ : qG)).bind fun r_3 =>
 ((qcb fuel r_3).bind fun r_4 =>
 some (((r_4.length : Int) == (r_2.length : Int)))))))
set_option maxHeartbeats 1000000 in
theorem qgX (fuel : Nat) (r_a0 : qG) (res : Bool) (hr : qcK fuel r_a0 = some res) : zi Tryz.prog 5 [qp r_a0] (.bool res) := by
 unfold qcK at hr
 refine q7 [(0, qp r_a0)] Tryz.func5 rfl rfl fun K hK => (qk (gr [.d, .d] (rd rfl (qdH rfl rfl rfl) (rc rfl (qg (qk (gr [.d, .d, .d, .d, .d, .d, .d, .d] (rd rfl (qi rfl qat rfl rfl rfl rfl) (rd rfl (qn rfl rfl (by exact qw) rfl) (rd rfl (qi rfl qas rfl rfl rfl rfl) (rd rfl (qn rfl rfl (by exact qw) rfl) (rd rfl (qbj rfl qf2 (.oc rfl (.oc rfl .nil)) (.cons rfl rfl rfl (.cons rfl rfl rfl (.nil _)))) ?_))))))))))))
 obtain ⟨r_1, hr_1, hr⟩ := zb hr
 refine rd rfl (qM rfl qe0 (.oc rfl .nil) (qeZ _ _ hr_1)) ?_
 obtain ⟨r_2, hr_2, hr⟩ := zb hr
 refine rd rfl (qM rfl qeR (.oc rfl .nil) (qeL fuel _ _ hr_2)) (rc rfl (qg (qk (gr [.d, .d, .d, .d, .d, .d, .d, .d, .d, .d, .d, .d, .d, .d] (rd rfl (qi rfl qat rfl rfl rfl rfl) (rd rfl (qn rfl rfl (by exact qw) rfl) (rd rfl (qi rfl qas rfl rfl rfl rfl) (rd rfl (qn rfl rfl (by exact qw) rfl) (rd rfl (qi rfl qao rfl rfl rfl rfl) (rd rfl (qn rfl rfl (by exact qE) rfl) (rd rfl (qbj rfl qf2 (.oc rfl (.oc rfl (.oc rfl .nil))) (.cons rfl rfl rfl (.cons rfl rfl rfl (.cons rfl rfl rfl (.nil _))))) ?_)))))))))))
 obtain ⟨r_3, hr_3, hr⟩ := zb hr
 refine rd rfl (qM rfl qe0 (.oc rfl .nil) (qeZ _ _ hr_3)) ?_
 obtain ⟨r_4, hr_4, hr⟩ := zb hr
 refine rd rfl (qM rfl qeR (.oc rfl .nil) (qeL fuel _ _ hr_4)) (rd rfl (qbd (f := (D.int .i64)) r_4 rfl qbb rfl (asl rfl)) (rf rfl (rd rfl (qbd (f := (D.int .i64)) r_2 rfl qbb rfl (asl rfl)) (rd rfl (qV rfl rfl rfl rfl) (rc rfl (qg ?_))))))
 obtain rfl := Option.some.inj hr
 refine qS Tryz.func5 _ (.cons (za rfl (Wk.refl _)) .nil) ?_
 rfl
noncomputable def qaU (k : Option (Int)) (v_a1 : Int) : List (Int × T) → Nat → Option (Int)
 | [], i_1 =>
 k
 | q_2 :: rest, i_1 =>
 (bif (q_2.1 == v_a1) then
 some ((i_1 : Int))
 else
 (qaU k v_a1 rest (i_1 + 1)))
noncomputable def qck (env_a0 : (List (Int × T))) (v_a1 : Int) : Option (Int) :=
 (qaU (some ((-1))) v_a1 env_a0 0)
set_option maxHeartbeats 1000000 in
theorem qe1 (env_a0 : (List (Int × T))) (v_a1 : Int) (res : Int) (hr : qck env_a0 v_a1 = some res) : zi Tryz.prog 99 [.lst (env_a0.map zp), .int .i64 v_a1] (.int .i64 res) := by
 unfold qck at hr
 refine q7 [(0, .lst (env_a0.map zp)), (1, .int .i64 v_a1)] Tryz.func99 rfl rfl fun K hK => (qk (gr [.d] (rc rfl (qg (qk (qk (gr [.d] (rc rfl (qg ?_)))))))))
 obtain ⟨kk0, hkk0, hr⟩ := exK (fun k => qaU k v_a1 env_a0 0) hr
 refine qfb 0 rfl (asl rfl) fun hla0 => ?_
 simp only [List.length_map] at hla0
 refine qaW (fun env σ => env = [] ∧ σ = [] ∧ kk0 = some res) ?_ (fun HK0 => ?_)
 ·
  rintro _ _ ⟨rfl, rfl, hr⟩
  rw [hkk0] at hr
  refine qk (gr [.d] (rc rfl (qg ?_)))
  obtain rfl := Option.some.inj hr
  refine qS Tryz.func99 _ (.cons (za rfl (Wk.refl _)) .nil) ?_
  rfl
 ·
  refine qal [(0, .lst (env_a0.map zp)), (1, .int .i64 v_a1), (5, .int .i64 ((0 : Nat) : Int))] (sc rfl (sc rfl (sc rfl (Sub.nil _)))) (qcc (fun n env σ => ∃ (i_1 : Nat), (n = env_a0.length - i_1) ∧ (env = [(0, .lst (env_a0.map zp)), (1, .int .i64 v_a1), (5, .int .i64 (i_1 : Int))]) ∧ (σ = []) ∧ (i_1 ≤ env_a0.length) ∧ (qaU kk0 v_a1 (env_a0.drop i_1) i_1 = some res)) _ ⟨0, rfl, rfl, rfl, Nat.zero_le _, hr⟩ ?_)
  rintro n _ _ ⟨i_1, rfl, rfl, rfl, hi0, hr⟩ IH0
  rcases zh env_a0 i_1 hi0 with ⟨ht0, hd0, he0⟩ | ⟨q_2, ht0, hd0, hq0, hlt0⟩
  ·
   rw [hd0, qaU] at hr
   refine qk (qk (gr [.d, .d, .d, .d] (rf rfl (rf rfl (rd rfl (qbd (f := zp) env_a0 rfl qcg rfl (asl rfl)) (rd rfl (qV rfl rfl rfl rfl) (qg (qaJ 9 false rfl ht0 (qA rfl (qbB rfl (qal [] (Sub.nil _) ?_)))))))))))
   exact HK0 _ _ ⟨rfl, rfl, hr⟩
  ·
   rw [hd0, qaU] at hr
   refine qk (qk (gr [.d, .d, .d, .d] (rf rfl (rf rfl (rd rfl (qbd (f := zp) env_a0 rfl qcg rfl (asl rfl)) (rd rfl (qV rfl rfl rfl rfl) (qg (qaJ 9 true rfl ht0 (qy rfl (qU (qk (qaP (qk ?_)))))))))))))
   refine gr [.d, .d, .d, .d, .d, .d, .d] (rf rfl (rf rfl (rd rfl (qB (f := zp) env_a0 rfl qcg rfl (asl rfl) rfl hq0 qdf rfl) (rd rfl (qi rfl qdX rfl rfl rfl rfl) (rd rfl (qn rfl rfl (by exact qL) rfl) (rf rfl (rd rfl (qV rfl rfl rfl rfl) (qg ?_))))))))
   refine zq 18 rfl hr (fun h18_2 hr => ?_) (fun h18_2 hr => ?_)
   ·
    refine qy rfl (qk (gr [.d, .d] (rf rfl (rc rfl (qg ?_)))))
    obtain rfl := Option.some.inj hr
    refine qS Tryz.func99 _ (.cons (za rfl (Wk.refl _)) .nil) ?_
    rfl
   ·
    refine qA rfl (qU (qK (gr [.d, .d, .d] (rf rfl (rd rfl (zZ (r := ((i_1 + 1 : Nat) : Int)) rfl rfl rfl (by simp [iar]) (by omega)) (rc rfl (qg (qal [(0, .lst (env_a0.map zp)), (1, .int .i64 v_a1), (5, .int .i64 ((i_1 + 1 : Nat) : Int))] (sc rfl (sc rfl (sc rfl (Sub.nil _)))) ?_))))))))
    exact IH0 _ _ _ (by omega) ⟨(i_1 + 1), rfl, rfl, rfl, (by omega), hr⟩
noncomputable def qa0 (k : (Int) → Option ((List (Int × T)))) (b_a1 : (Int × T)) : List (Int × T) → Nat → Option ((List (Int × T)))
 | [], k_2 =>
 (k (k_2 : Int))
 | q_13 :: rest, k_2 =>
 (bif (decide (q_13.1 ≤ b_a1.1)) then
 (qa0 k b_a1 rest (k_2 + 1))
 else
 (k (k_2 : Int)))
noncomputable def qcz (env_a0 : (List (Int × T))) (b_a1 : (Int × T)) : Option ((List (Int × T))) :=
 (qa0 (fun k_3 =>
 ((y9 env_a0 0 k_3).bind fun l_5 =>
 ((zY 64 [] l_5).bind fun l_6 =>
 ((zY 64 l_6 [b_a1]).bind fun l_8 =>
 ((y9 env_a0 k_3 (env_a0.length : Int)).bind fun l_10 =>
 ((zY 64 l_8 l_10).bind fun l_11 =>
 some (l_11))))))) b_a1 env_a0 0)
set_option maxHeartbeats 1000000 in
theorem qgt (env_a0 : (List (Int × T))) (b_a1 : (Int × T)) (res : (List (Int × T))) (hr : qcz env_a0 b_a1 = some res) : zi Tryz.prog 100 [.lst (env_a0.map zp), zp b_a1] (.lst (res.map zp)) := by
 unfold qcz at hr
 refine q7 [(0, .lst (env_a0.map zp)), (1, zp b_a1)] Tryz.func100 rfl rfl fun K hK => (qk (gr [.d, .w] (rd rfl (qdH rfl rfl rfl) (ew rfl (qb8 123 5 (.inl rfl)) ?_))))
 rintro _ _ ⟨u4_0, rfl, rfl⟩
 refine qg (qk (gr [.d] (rc rfl (qg (qk ?_)))))
 obtain ⟨kk0, hkk0, hr⟩ := exK (fun k => qa0 k b_a1 env_a0 0) hr
 refine qfb 0 rfl (asl rfl) fun hla0 => ?_
 simp only [List.length_map] at hla0
 refine qaW (fun env σ => ∃ (k_3 : Int), env = [(0, .lst (env_a0.map zp)), (3, .ptr (zp b_a1)), (5, .int .i64 k_3)] ∧ σ = [] ∧ kk0 k_3 = some res) ?_ (fun HK0 => ?_)
 ·
  rintro _ _ ⟨k_3, rfl, rfl, hr⟩
  rw [hkk0] at hr
  refine qk (gr [.w] (ew rfl (qb8 123 5 (.inl rfl)) ?_))
  rintro _ _ ⟨u6_3, rfl, rfl⟩
  refine qg (qk (gr [.d, .d, .d, .d, .w, .d] (rf rfl (rf rfl (rf rfl ?_)))))
  obtain ⟨l_5, hl_5, hr⟩ := zb hr
  refine rd rfl (qhh (f := zp) env_a0 0 k_3 rfl qcg rfl (asl rfl) qnz (qm4 rfl) qdf hl_5) ?_
  obtain ⟨l_6, hl_6, hr⟩ := zb hr
  refine ew rfl (qcd (f := zp) [] l_5 rfl qcg rfl rfl (asl rfl) (pf0 _) rfl qdf hl_6) ?_
  rintro _ _ ⟨u27_6, rfl, rfl⟩
  refine rc rfl (qg (qk (gr [.d, .d, .d, .w, .d] (rf rfl (rd rfl (qn rfl rfl (by exact qcE) (qdf _)) (rd rfl (qgi (f := zp) [.tmp 29] [b_a1] rfl qcg rfl rfl (by decide) (by decide) (.oc rfl .nil) qdf (fun _ => rfl)) ?_))))))
  obtain ⟨l_8, hl_8, hr⟩ := zb hr
  refine ew rfl (qcd (f := zp) l_6 [b_a1] rfl qcg rfl rfl (asl rfl) (pf0 _) rfl qdf hl_8) ?_
  rintro _ _ ⟨u31_8, rfl, rfl⟩
  refine rc rfl (qg (qk (gr [.d, .d, .d, .d, .w, .d] (rf rfl (rf rfl (rf rfl ?_))))))
  obtain ⟨l_10, hl_10, hr⟩ := zb hr
  refine rd rfl (qhh (f := zp) env_a0 k_3 (env_a0.length : Int) rfl qcg rfl (asl rfl) (qeK rfl) qeG qdf hl_10) ?_
  obtain ⟨l_11, hl_11, hr⟩ := zb hr
  refine ew rfl (qcd (f := zp) l_8 l_10 rfl qcg rfl rfl (asl rfl) (pf0 _) rfl qdf hl_11) ?_
  rintro _ _ ⟨u36_11, rfl, rfl⟩
  refine rc rfl (qg ?_)
  obtain rfl := Option.some.inj hr
  refine qS Tryz.func100 _ (.cons (za rfl (Wk.own _ _)) .nil) ?_
  rfl
 ·
  refine qal [(0, .lst (env_a0.map zp)), (3, .ptr (zp b_a1)), (5, .int .i64 ((0 : Nat) : Int))] (sc rfl (sc rfl (sc rfl (Sub.nil _)))) (qbf [] _ (pf0 _) (qcc (fun n env σ => ∃ (k_2 : Nat), (n = env_a0.length - k_2) ∧ (env = [(0, .lst (env_a0.map zp)), (3, .ptr (zp b_a1)), (5, .int .i64 (k_2 : Int))]) ∧ (σ = []) ∧ (k_2 ≤ env_a0.length) ∧ (qa0 kk0 b_a1 (env_a0.drop k_2) k_2 = some res)) _ ⟨0, rfl, rfl, rfl, Nat.zero_le _, hr⟩ ?_))
  rintro n _ _ ⟨k_2, rfl, rfl, rfl, hi0, hr⟩ IH0
  rcases zh env_a0 k_2 hi0 with ⟨ht0, hd0, he0⟩ | ⟨q_13, ht0, hd0, hq0, hlt0⟩
  ·
   rw [hd0, qa0] at hr
   refine qk (qk (ga [(0, .d), (1, .d), (2, .d), (3, .d), (4, .d), (5, .d), (6, .d), (7, .d), (8, .d), (9, .d), (10, .d), (11, .d), (12, .d), (13, .d)] (rf rfl (rf rfl (rd rfl (qbd (f := zp) env_a0 rfl qcg rfl (asl rfl)) (rd rfl (qV rfl rfl rfl rfl) (rf rfl (qdS 11 false rfl ht0 (rh rfl (rh rfl (rh rfl (rh rfl (rh rfl ?_)))))))))))))
   refine rh rfl (rh rfl (rh rfl (rd rfl (qN rfl rfl rfl) (qg (qA rfl (qbB rfl (qal [(0, .lst (env_a0.map zp)), (3, .ptr (zp b_a1)), (5, .int .i64 (k_2 : Int))] (sc rfl (sc rfl (sc rfl (Sub.nil _)))) ?_)))))))
   exact HK0 _ _ ⟨(k_2 : Int), rfl, rfl, hr⟩
  ·
   rw [hd0, qa0] at hr
   refine qk (qk (ga [(0, .d), (1, .d), (2, .d), (3, .d), (4, .d), (5, .d), (6, .d), (7, .d), (8, .d), (9, .d), (10, .d), (11, .d), (12, .d), (13, .d)] (rf rfl (rf rfl (rd rfl (qbd (f := zp) env_a0 rfl qcg rfl (asl rfl)) (rd rfl (qV rfl rfl rfl rfl) (rf rfl (qdS 11 true rfl ht0 (rf rfl (rf rfl (rd rfl (qB (f := zp) env_a0 rfl qcg rfl (asl rfl) rfl hq0 qdf rfl) (rd rfl (qi rfl qdX rfl rfl rfl rfl) (rd rfl (qn rfl rfl (by exact qL) rfl) ?_)))))))))))))
   refine rd rfl (qi rfl qdX rfl rfl rfl rfl) (rd rfl (qn rfl rfl (by exact qL) rfl) (rd rfl (qV rfl rfl rfl rfl) (rd rfl (qP rfl rfl rfl) (qg ?_))))
   refine zq 20 rfl hr (fun h20_13 hr => ?_) (fun h20_13 hr => ?_)
   ·
    refine qy rfl (qU (qaP (gr [.d, .d, .d] (rf rfl (rd rfl (zZ (r := ((k_2 + 1 : Nat) : Int)) rfl rfl rfl (by simp [iar]) (by omega)) (rc rfl (qg (qK (qal [(0, .lst (env_a0.map zp)), (3, .ptr (zp b_a1)), (5, .int .i64 ((k_2 + 1 : Nat) : Int))] (sc rfl (sc rfl (sc rfl (Sub.nil _)))) ?_)))))))))
    exact IH0 _ _ _ (by omega) ⟨(k_2 + 1), rfl, rfl, rfl, (by omega), hr⟩
   ·
    refine qA rfl (qbB rfl (qal [(0, .lst (env_a0.map zp)), (3, .ptr (zp b_a1)), (5, .int .i64 (k_2 : Int))] (sc rfl (sc rfl (sc rfl (Sub.nil _)))) ?_))
    exact HK0 _ _ ⟨(k_2 : Int), rfl, rfl, hr⟩
noncomputable def qcL (rec : (List (Int × T)) → (List T) → (List T) → Option ((List (Int × T)) × Bool)) (env_a0 : (List (Int × T))) (pattern_a1 : T) (t_a2 : T) : Option ((List (Int × T)) × Bool) :=
 (bif (pattern_a1.k == (2 : Int)) then
 (bif (t_a2.k != (2 : Int)) then
 some ([], false)
 else
 (bif (!(pattern_a1.s.toList == t_a2.s.toList)) then
 some ([], false)
 else
 ((rec env_a0 pattern_a1.ar t_a2.ar).bind fun r_4 =>
 some (r_4.1, r_4.2))))
 else
 (bif (pattern_a1.k != (1 : Int)) then
 ((qh3 pattern_a1 t_a2).bind fun r_6 =>
 (bif (!r_6) then
 some ([], false)
 else
 some (env_a0, true)))
 else
 ((qck env_a0 pattern_a1.i).bind fun r_8 =>
 (bif (decide (r_8 < (0 : Int))) then
 ((qcz env_a0 (pattern_a1.i, t_a2)).bind fun r_10 =>
 some (r_10, true))
 else
 ((zw env_a0 r_8).bind fun q_11 =>
 ((qh3 q_11.2 t_a2).bind fun r_12 =>
 (bif (!r_12) then
 some ([], false)
 else
 some (env_a0, true))))))))
set_option maxHeartbeats 1000000 in
theorem qg3 (rec : (List (Int × T)) → (List T) → (List T) → Option ((List (Int × T)) × Bool)) (IHR : ∀ (env_a0 : (List (Int × T))) (patterns_a1 : (List T)) (l_a2 : (List T)) (res : (List (Int × T)) × Bool), rec env_a0 patterns_a1 l_a2 = some res → zi Tryz.prog 48 [.lst (env_a0.map zp), .lst (patterns_a1.map ze), .lst (l_a2.map ze)] (.tup [.lst (res.1.map zp), .bool res.2])) (env_a0 : (List (Int × T))) (pattern_a1 : T) (t_a2 : T) (res : (List (Int × T)) × Bool) (hr : qcL rec env_a0 pattern_a1 t_a2 = some res) : zi Tryz.prog 78 [.lst (env_a0.map zp), ze pattern_a1, ze t_a2] (.tup [.lst (res.1.map zp), .bool res.2]) := by
 unfold qcL at hr
 refine q7 [(0, .lst (env_a0.map zp)), (1, ze pattern_a1), (2, ze t_a2)] Tryz.func78 rfl rfl fun K hK => (qk (gr [.d, .d, .d, .d] (rd rfl (qdH rfl rfl rfl) (rd rfl (qdH rfl rfl rfl) (rc rfl (rc rfl (qg (qk (qk (gr [.d, .d, .d] (rd rfl (qi rfl qbm rfl (qdd _) (qc9 _) rfl) (rd rfl (qn rfl rfl (by exact qL) rfl) (rd rfl (qV rfl rfl rfl rfl) ?_)))))))))))))
 refine qg ?_
 refine zq 11 rfl hr (fun h11_0 hr => ?_) (fun h11_0 hr => ?_)
 ·
  refine qy rfl (qk (qk (gr [.d, .d, .d, .d, .d, .d, .d, .d, .d, .d] (rd rfl (qi rfl qbm rfl (qdd _) (qc9 _) rfl) (rd rfl (qn rfl rfl (by exact qL) rfl) (rd rfl (qV rfl rfl rfl rfl) (rf rfl ?_)))))))
  refine zJ 15 rfl hr (fun h15_1 hr => ?_) (fun h15_1 hr => ?_)
  ·
   refine rh rfl (rh rfl (rh rfl (rh rfl (rh rfl (rd rfl (qP rfl rfl rfl) (qg (qy rfl (qk (gr [.d, .d] (rc rfl (rc rfl (qg ?_))))))))))))
   obtain rfl := Option.some.inj hr
   refine qS Tryz.func78 _ (.cons (za rfl (Wk.full _)) (.cons (za rfl (Wk.refl _)) .nil)) ?_
   rfl
  ·
   refine rd rfl (qi rfl qd3 rfl (qhi _) (qhc _) rfl) (rd rfl (qn rfl rfl (by exact qbr) rfl) (rd rfl (qi rfl qd3 rfl (qhi _) (qhc _) rfl) (rd rfl (qn rfl rfl (by exact qbr) rfl) (rd rfl (qfl rfl rfl rfl rfl) (rd rfl (qN rfl rfl rfl) (qg ?_))))))
   refine zq 21 rfl hr (fun h21_2 hr => ?_) (fun h21_2 hr => ?_)
   ·
    refine qy rfl (qk (gr [.d, .d] (rc rfl (rc rfl (qg ?_)))))
    obtain rfl := Option.some.inj hr
    refine qS Tryz.func78 _ (.cons (za rfl (Wk.full _)) (.cons (za rfl (Wk.refl _)) .nil)) ?_
    rfl
   ·
    refine qA rfl (qU (qk (gr [.d, .d, .d, .d, .d, .d, .d, .d, .d, .d] (rf rfl (rd rfl (qi rfl qbe rfl (qdO _) (qdQ _) rfl) (rd rfl (qn rfl rfl (by exact qT) rfl) (rd rfl (qi rfl qbe rfl (qdO _) (qdQ _) rfl) (rd rfl (qn rfl rfl (by exact qT) rfl) ?_))))))))
    obtain ⟨r_4, hr_4, hr⟩ := zb hr
    refine rd rfl (qM rfl qe7 (.oc rfl (.oc rfl (.oc rfl .nil))) (IHR _ _ _ _ hr_4)) (rd rfl (qbi rfl rfl rfl) (rd rfl (qbi rfl rfl rfl) (rc rfl (rc rfl (qg ?_)))))
    obtain rfl := Option.some.inj hr
    refine qS Tryz.func78 _ (.cons (za rfl (Wk.refl _)) (.cons (za rfl (Wk.refl _)) .nil)) ?_
    rfl
 ·
  refine qA rfl (qU (qk (qk (gr [.d, .d, .d] (rd rfl (qi rfl qbm rfl (qdd _) (qc9 _) rfl) (rd rfl (qn rfl rfl (by exact qL) rfl) (rd rfl (qV rfl rfl rfl rfl) (qg ?_))))))))
  refine zq 32 rfl hr (fun h32_4 hr => ?_) (fun h32_4 hr => ?_)
  ·
   refine qy rfl (qk (qk (gr [.d, .d, .d, .d] (rd rfl (qn rfl rfl (by exact qr) (qI _)) (rd rfl (qn rfl rfl (by exact qr) (qI _)) ?_)))))
   obtain ⟨r_6, hr_6, hr⟩ := zb hr
   refine rd rfl (qM rfl qdm (.oc rfl (.oc rfl .nil)) (qdk _ _ _ hr_6)) (rd rfl (qdN rfl rfl) (qg ?_))
   refine zq 36 rfl hr (fun h36_6 hr => ?_) (fun h36_6 hr => ?_)
   ·
    refine qy rfl (qk (gr [.d, .d] (rc rfl (rc rfl (qg ?_)))))
    obtain rfl := Option.some.inj hr
    refine qS Tryz.func78 _ (.cons (za rfl (Wk.full _)) (.cons (za rfl (Wk.refl _)) .nil)) ?_
    rfl
   ·
    refine qA rfl (qU (qk (gr [.d, .d, .d] (rf rfl (rc rfl (rc rfl (qg ?_)))))))
    obtain rfl := Option.some.inj hr
    refine qS Tryz.func78 _ (.cons (za rfl (Wk.refl _)) (.cons (za rfl (Wk.refl _)) .nil)) ?_
    rfl
  ·
   refine qA rfl (qU (qk (gr [.d, .d, .d, .d, .d] (rf rfl (rd rfl (qi rfl qa1 rfl (qdt _) (qds _) rfl) (rd rfl (qn rfl rfl (by exact qL) rfl) ?_))))))
   obtain ⟨r_8, hr_8, hr⟩ := zb hr
   refine rd rfl (qM rfl qfa (.oc rfl (.oc rfl .nil)) (qe1 _ _ _ hr_8)) (rc rfl (qg (qk (qk (gr [.d, .d] (rf rfl (rd rfl (qV rfl rfl rfl rfl) (qg ?_))))))))
   refine zq 43 rfl hr (fun h43_8 hr => ?_) (fun h43_8 hr => ?_)
   ·
    refine qy rfl (qk (gr [.d, .d, .d, .d, .d, .d, .d, .d] (rf rfl (rd rfl (qi rfl qa1 rfl (qdt _) (qds _) rfl) (rd rfl (qn rfl rfl (by exact qL) rfl) (rd rfl (qn rfl rfl (by exact qr) (qI _)) (rd rfl (qbj rfl qcS (.oc rfl (.oc rfl .nil)) (.cons rfl rfl rfl (.cons rfl (qI _) rfl (.nil _)))) ?_)))))))
    obtain ⟨r_10, hr_10, hr⟩ := zb hr
    refine rd rfl (qM rfl qgK (.oc rfl (.oc rfl .nil)) (qgt _ _ _ hr_10)) (rc rfl (rc rfl (qg ?_)))
    obtain rfl := Option.some.inj hr
    refine qS Tryz.func78 _ (.cons (za rfl (Wk.refl _)) (.cons (za rfl (Wk.refl _)) .nil)) ?_
    rfl
   ·
    refine qA rfl (qU (qk (qk (ga [(0, .d), (1, .d), (2, .d), (3, .d), (4, .d), (5, .d), (6, .d), (7, .d)] (rf rfl (rf rfl ?_))))))
    obtain ⟨q_11, hq_11, hr⟩ := zb hr
    refine rd rfl (qB (f := zp) env_a0 rfl qcg rfl (asl rfl) rfl hq_11 qdf rfl) (rd rfl (qi rfl qiP rfl rfl rfl rfl) (rd rfl (qn rfl rfl (by exact qr) (qI _)) (rd rfl (qn rfl rfl (by exact qr) (qI _)) ?_)))
    obtain ⟨r_12, hr_12, hr⟩ := zb hr
    refine rd rfl (qM rfl qdm (.oc rfl (.oc rfl .nil)) (qdk _ _ _ hr_12)) (rd rfl (qdN rfl rfl) (qg ?_))
    refine zq 57 rfl hr (fun h57_12 hr => ?_) (fun h57_12 hr => ?_)
    ·
     refine qy rfl (qk (gr [.d, .d] (rc rfl (rc rfl (qg ?_)))))
     obtain rfl := Option.some.inj hr
     refine qS Tryz.func78 _ (.cons (za rfl (Wk.full _)) (.cons (za rfl (Wk.refl _)) .nil)) ?_
     rfl
    ·
     refine qA rfl (qU (qk (gr [.d, .d, .d] (rf rfl (rc rfl (rc rfl (qg ?_)))))))
     obtain rfl := Option.some.inj hr
     refine qS Tryz.func78 _ (.cons (za rfl (Wk.refl _)) (.cons (za rfl (Wk.refl _)) .nil)) ?_
     rfl
noncomputable def qaC (k : ((List (Int × T))) → (Bool) → Option ((List (Int × T)) × Bool)) (rec : (List (Int × T)) → (List T) → (List T) → Option ((List (Int × T)) × Bool)) (patterns_a1 : (List T)) : List T → (List (Int × T)) → Bool → Nat → Option ((List (Int × T)) × Bool)
 | [], env_2, ok_3, i_4 =>
 (k env_2 ok_3)
 | q_7 :: rest, env_2, ok_3, i_4 =>
 (bif ok_3 then
 ((zw patterns_a1 (i_4 : Int)).bind fun q_9 =>
 ((qcL rec env_2 q_9 q_7).bind fun r_10 =>
 (qaC k rec patterns_a1 rest r_10.1 r_10.2 (i_4 + 1))))
 else
 (k env_2 ok_3))
noncomputable def qch : Nat → (List (Int × T)) → (List T) → (List T) → Option ((List (Int × T)) × Bool)
 | 0, _, _, _ => none
 | fuel + 1, env_a0, patterns_a1, l_a2 =>
  (fun (rec : (List (Int × T)) → (List T) → (List T) → Option ((List (Int × T)) × Bool)) =>
   (bif ((patterns_a1.length : Int) != (l_a2.length : Int)) then
   some ([], false)
   else
   (qaC (fun env_5 ok_6 =>
   some (env_5, ok_6)) rec patterns_a1 l_a2 env_a0 true 0))) (qch fuel)
set_option maxHeartbeats 1000000 in
theorem qgv (fuel : Nat) (rec : (List (Int × T)) → (List T) → (List T) → Option ((List (Int × T)) × Bool)) (IHR : ∀ (env_a0 : (List (Int × T))) (patterns_a1 : (List T)) (l_a2 : (List T)) (res : (List (Int × T)) × Bool), rec env_a0 patterns_a1 l_a2 = some res → zi Tryz.prog 48 [.lst (env_a0.map zp), .lst (patterns_a1.map ze), .lst (l_a2.map ze)] (.tup [.lst (res.1.map zp), .bool res.2])) (env_a0 : (List (Int × T))) (patterns_a1 : (List T)) (l_a2 : (List T)) (res : (List (Int × T)) × Bool)
 (hr : (bif ((patterns_a1.length : Int) != (l_a2.length : Int)) then
some ([], false)
else
(qaC (fun env_5 ok_6 =>
some (env_5, ok_6)) rec patterns_a1 l_a2 env_a0 true 0)) = some res) : zi Tryz.prog 48 [.lst (env_a0.map zp), .lst (patterns_a1.map ze), .lst (l_a2.map ze)] (.tup [.lst (res.1.map zp), .bool res.2]) := by
 refine q7 [(0, .lst (env_a0.map zp)), (1, .lst (patterns_a1.map ze)), (2, .lst (l_a2.map ze))] Tryz.func48 rfl rfl fun K hK => (qk (gr [.d, .d] (rc rfl (rc rfl (qg (qk (qk (gr [.d, .d, .d, .d, .d] (rf rfl (rd rfl (qbd (f := ze) patterns_a1 rfl qC rfl (asl rfl)) (rf rfl (rd rfl (qbd (f := ze) l_a2 rfl qC rfl (asl rfl)) (rd rfl (qV rfl rfl rfl rfl) ?_)))))))))))))
 refine qg ?_
 refine zq 14 rfl hr (fun h14_0 hr => ?_) (fun h14_0 hr => ?_)
 ·
  refine qy rfl (qk (gr [.d, .d] (rc rfl (rc rfl (qg ?_)))))
  obtain rfl := Option.some.inj hr
  refine qS Tryz.func48 _ (.cons (za rfl (Wk.full _)) (.cons (za rfl (Wk.refl _)) .nil)) ?_
  rfl
 ·
  refine qA rfl (qU (qk (gr [.d] (rc rfl (qg (qk (qk (gr [.d] (rc rfl (qg ?_))))))))))
  obtain ⟨kk0, hkk0, hr⟩ := exK (fun k => qaC k rec patterns_a1 l_a2 env_a0 true 0) hr
  refine qfb 2 rfl (asl rfl) fun hla0 => ?_
  simp only [List.length_map] at hla0
  refine qaW (fun env σ => ∃ (env_5 : (List (Int × T))) (ok_6 : Bool), env = [(0, .lst (env_5.map zp)), (8, .bool ok_6)] ∧ σ = [] ∧ kk0 env_5 ok_6 = some res) ?_ (fun HK0 => ?_)
  ·
   rintro _ _ ⟨env_5, ok_6, rfl, rfl, hr⟩
   rw [hkk0] at hr
   refine qk (gr [.d, .d, .d, .d] (rf rfl (rf rfl (rc rfl (rc rfl (qg ?_))))))
   obtain rfl := Option.some.inj hr
   refine qS Tryz.func48 _ (.cons (za rfl (Wk.refl _)) (.cons (za rfl (Wk.refl _)) .nil)) ?_
   rfl
  ·
   refine qal [(1, .lst (patterns_a1.map ze)), (2, .lst (l_a2.map ze)), (0, .lst (env_a0.map zp)), (8, .bool true), (9, .int .i64 ((0 : Nat) : Int))] (sc rfl (sc rfl (sc rfl (sc rfl (sc rfl (Sub.nil _)))))) (qcc (fun n env σ => ∃ (env_2 : (List (Int × T))) (ok_3 : Bool) (i_4 : Nat), (n = l_a2.length - i_4) ∧ (env = [(1, .lst (patterns_a1.map ze)), (2, .lst (l_a2.map ze)), (0, .lst (env_2.map zp)), (8, .bool ok_3), (9, .int .i64 (i_4 : Int))]) ∧ (σ = []) ∧ (i_4 ≤ l_a2.length) ∧ (qaC kk0 rec patterns_a1 (l_a2.drop i_4) env_2 ok_3 i_4 = some res)) _ ⟨env_a0, true, 0, rfl, rfl, rfl, Nat.zero_le _, hr⟩ ?_)
   rintro n _ _ ⟨env_2, ok_3, i_4, rfl, rfl, rfl, hi0, hr⟩ IH0
   rcases zh l_a2 i_4 hi0 with ⟨ht0, hd0, he0⟩ | ⟨q_7, ht0, hd0, hq0, hlt0⟩
   ·
    rw [hd0, qaC] at hr
    refine qk (qk (gr [.d, .d, .d, .d, .d, .d, .d] (rf rfl (rf rfl (rd rfl (qbd (f := ze) l_a2 rfl qC rfl (asl rfl)) (rd rfl (qV rfl rfl rfl rfl) (rf rfl (qdS 19 false rfl ht0 (rh rfl (rd rfl (qN rfl rfl rfl) (qg (qA rfl (qbB rfl ?_)))))))))))))
    refine qal [(0, .lst (env_2.map zp)), (8, .bool ok_3)] (sc rfl (sc rfl (Sub.nil _))) ?_
    exact HK0 _ _ ⟨env_2, ok_3, rfl, rfl, hr⟩
   ·
    rw [hd0, qaC] at hr
    refine qk (qk (gr [.d, .d, .d, .d, .d, .d, .d] (rf rfl (rf rfl (rd rfl (qbd (f := ze) l_a2 rfl qC rfl (asl rfl)) (rd rfl (qV rfl rfl rfl rfl) (rf rfl (qdS 19 true rfl ht0 (rf rfl (rd rfl (qP rfl rfl rfl) (qg ?_)))))))))))
    refine zq 21 rfl hr (fun h21_7 hr => ?_) (fun h21_7 hr => ?_)
    ·
     refine qy rfl (qU (qk (qaP (ga [(0, .d), (1, .d), (2, .d), (3, .d), (4, .d), (5, .d), (6, .d), (7, .d), (8, .d), (9, .d), (10, .d), (11, .d), (12, .d), (13, .d), (14, .d)] (rf rfl (rf rfl (rf rfl ?_)))))))
     obtain ⟨q_9, hq_9, hr⟩ := zb hr
     refine rd rfl (qB (f := ze) patterns_a1 rfl qC rfl (asl rfl) rfl hq_9 qI rfl) (rd rfl (qn rfl rfl (by exact qr) (qI _)) (rf rfl (rf rfl (rd rfl (qB (f := ze) l_a2 rfl qC rfl (asl rfl) rfl hq0 qI rfl) (rd rfl (qn rfl rfl (by exact qr) (qI _)) ?_)))))
     obtain ⟨r_10, hr_10, hr⟩ := zb hr
     refine rd rfl (qM rfl qhq (.oc rfl (.oc rfl (.oc rfl .nil))) (qg3 rec IHR _ _ _ _ hr_10)) (rf rfl (rd rfl (qbi rfl rfl rfl) (rd rfl (qbi rfl rfl rfl) (rc rfl (rc rfl (qg (qK (gr [.d, .d, .d] (rf rfl (rd rfl (zZ (r := ((i_4 + 1 : Nat) : Int)) rfl rfl rfl (by simp [iar]) (by omega)) (rc rfl (qg (qal [(1, .lst (patterns_a1.map ze)), (2, .lst (l_a2.map ze)), (0, .lst (r_10.1.map zp)), (8, .bool r_10.2), (9, .int .i64 ((i_4 + 1 : Nat) : Int))] (sc rfl (sc rfl (sc rfl (sc rfl (sc rfl (Sub.nil _)))))) ?_)))))))))))))
     exact IH0 _ _ _ (by omega) ⟨r_10.1, r_10.2, (i_4 + 1), rfl, rfl, rfl, (by omega), hr⟩
    ·
     refine qA rfl (qbB rfl (qal [(0, .lst (env_2.map zp)), (8, .bool ok_3)] (sc rfl (sc rfl (Sub.nil _))) ?_))
     exact HK0 _ _ ⟨env_2, ok_3, rfl, rfl, hr⟩
theorem qe6 : ∀ (fuel : Nat) (env_a0 : (List (Int × T))) (patterns_a1 : (List T)) (l_a2 : (List T)) (res : (List (Int × T)) × Bool), qch fuel env_a0 patterns_a1 l_a2 = some res → zi Tryz.prog 48 [.lst (env_a0.map zp), .lst (patterns_a1.map ze), .lst (l_a2.map ze)] (.tup [.lst (res.1.map zp), .bool res.2])
 | 0, _, _, _, _, h => by cases h
 | fuel + 1, env_a0, patterns_a1, l_a2, res, h => qgv fuel (qch fuel) (qe6 fuel) env_a0 patterns_a1 l_a2 res h
noncomputable def qcT (fuel : Nat) (env_a0 : (List (Int × T))) (pattern_a1 : At) (a_a2 : At) : Option ((List (Int × T)) × Bool) :=
 (bif (!(pattern_a1.n.toList == a_a2.n.toList)) then
 some ([], false)
 else
 ((qch fuel env_a0 pattern_a1.ts a_a2.ts).bind fun r_2 =>
 some (r_2.1, r_2.2)))
set_option maxHeartbeats 1000000 in
theorem qhC (fuel : Nat) (env_a0 : (List (Int × T))) (pattern_a1 : At) (a_a2 : At) (res : (List (Int × T)) × Bool) (hr : qcT fuel env_a0 pattern_a1 a_a2 = some res) : zi Tryz.prog 25 [.lst (env_a0.map zp), zl pattern_a1, zl a_a2] (.tup [.lst (res.1.map zp), .bool res.2]) := by
 unfold qcT at hr
 refine q7 [(0, .lst (env_a0.map zp)), (1, zl pattern_a1), (2, zl a_a2)] Tryz.func25 rfl rfl fun K hK => (qk (gr [.d, .d, .d, .d] (rd rfl (qdH rfl rfl rfl) (rd rfl (qdH rfl rfl rfl) (rc rfl (rc rfl (qg (qk (qk (gr [.d, .d, .d, .d, .d] (rd rfl (qi rfl qht rfl rfl rfl rfl) (rd rfl (qn rfl rfl (by exact qbr) rfl) (rd rfl (qi rfl qht rfl rfl rfl rfl) ?_)))))))))))))
 refine rd rfl (qn rfl rfl (by exact qbr) rfl) (rd rfl (qfl rfl rfl rfl rfl) (qg ?_))
 refine zq 12 rfl hr (fun h12_0 hr => ?_) (fun h12_0 hr => ?_)
 ·
  refine qy rfl (qk (gr [.d, .d] (rc rfl (rc rfl (qg ?_)))))
  obtain rfl := Option.some.inj hr
  refine qS Tryz.func25 _ (.cons (za rfl (Wk.full _)) (.cons (za rfl (Wk.refl _)) .nil)) ?_
  rfl
 ·
  refine qA rfl (qU (qk (gr [.d, .d, .d, .d, .d, .d, .d, .d, .d, .d] (rf rfl (rd rfl (qi rfl qcB rfl rfl rfl rfl) (rd rfl (qn rfl rfl (by exact qT) rfl) (rd rfl (qi rfl qcB rfl rfl rfl rfl) (rd rfl (qn rfl rfl (by exact qT) rfl) ?_))))))))
  obtain ⟨r_2, hr_2, hr⟩ := zb hr
  refine rd rfl (qM rfl qe7 (.oc rfl (.oc rfl (.oc rfl .nil))) (qe6 fuel _ _ _ _ hr_2)) (rd rfl (qbi rfl rfl rfl) (rd rfl (qbi rfl rfl rfl) (rc rfl (rc rfl (qg ?_)))))
  obtain rfl := Option.some.inj hr
  refine qS Tryz.func25 _ (.cons (za rfl (Wk.refl _)) (.cons (za rfl (Wk.refl _)) .nil)) ?_
  rfl
noncomputable def qdM (a_a0 : Int) (b_a1 : Int) : Option (Bool) :=
 (bif (decide (a_a0 > (0 : Int))) then
 (bif (decide (b_a1 > (0 : Int))) then
 (bif (decide ((wr (a_a0 + b_a1)) < (0 : Int))) then
 some (true)
 else
 (bif (decide (a_a0 < (0 : Int))) then
 (bif (decide (b_a1 < (0 : Int))) then
 some ((decide ((wr (a_a0 + b_a1)) ≥ (0 : Int))))
 else
 some (false))
 else
 some (false)))
 else
 (bif (decide (a_a0 < (0 : Int))) then
 (bif (decide (b_a1 < (0 : Int))) then
 some ((decide ((wr (a_a0 + b_a1)) ≥ (0 : Int))))
 else
 some (false))
 else
 some (false)))
 else
 (bif (decide (a_a0 < (0 : Int))) then
 (bif (decide (b_a1 < (0 : Int))) then
 some ((decide ((wr (a_a0 + b_a1)) ≥ (0 : Int))))
 else
 some (false))
 else
 some (false)))
set_option maxHeartbeats 1000000 in
theorem qgE (a_a0 : Int) (b_a1 : Int) (res : Bool) (hr : qdM a_a0 b_a1 = some res) : zi Tryz.prog 107 [.int .i64 a_a0, .int .i64 b_a1] (.bool res) := by
 unfold qdM at hr
 refine q7 [(0, .int .i64 a_a0), (1, .int .i64 b_a1)] Tryz.func107 rfl rfl fun K hK => (qk (gr [.d] (rc rfl (qg (qk (gr [.d, .d, .d, .d] (rf rfl (rf rfl (rd rfl (qdK rfl rfl rfl rfl) (rc rfl (qg (qk (gr [.d, .d, .d, .d, .d, .d, .d, .d, .d, .d, .d, .d, .d, .d, .d, .d, .d, .d, .d, .d, .d, .d, .d] ?_)))))))))))))
 refine rf rfl (rd rfl (qV rfl rfl rfl rfl) (rf rfl ?_))
 refine zJ 11 rfl hr (fun h11_0 hr => ?_) (fun h11_0 hr => ?_)
 ·
  refine rf rfl (rd rfl (qV rfl rfl rfl rfl) (rd rfl (qP rfl rfl rfl) (rf rfl ?_)))
  refine zJ 15 rfl hr (fun h15_1 hr => ?_) (fun h15_1 hr => ?_)
  ·
   refine rf rfl (rd rfl (qV rfl rfl rfl rfl) (rd rfl (qP rfl rfl rfl) (rf rfl ?_)))
   refine zJ 19 rfl hr (fun h19_2 hr => ?_) (fun h19_2 hr => ?_)
   ·
    refine rh rfl (rh rfl (rh rfl (rh rfl (rh rfl (rh rfl (rh rfl (rh rfl (rh rfl (rh rfl (rd rfl (qP rfl rfl rfl) (rc rfl (qg ?_))))))))))))
    obtain rfl := Option.some.inj hr
    refine qS Tryz.func107 _ (.cons (za rfl (Wk.refl _)) .nil) ?_
    rfl
   ·
    refine rf rfl (rd rfl (qV rfl rfl rfl rfl) (rf rfl ?_))
    refine zJ 22 rfl hr (fun h22_3 hr => ?_) (fun h22_3 hr => ?_)
    ·
     refine rf rfl (rd rfl (qV rfl rfl rfl rfl) (rd rfl (qP rfl rfl rfl) (rf rfl ?_)))
     refine zJ 26 rfl hr (fun h26_4 hr => ?_) (fun h26_4 hr => ?_)
     ·
      refine rf rfl (rd rfl (qV rfl rfl rfl rfl) (rd rfl (qP rfl rfl rfl) (rd rfl (qN rfl rfl rfl) (rc rfl (qg ?_)))))
      obtain rfl := Option.some.inj hr
      refine qS Tryz.func107 _ (.cons (za rfl (Wk.refl _)) .nil) ?_
      rfl
     ·
      refine rh rfl (rh rfl (rd rfl (qN rfl rfl rfl) (rd rfl (qN rfl rfl rfl) (rc rfl (qg ?_)))))
      obtain rfl := Option.some.inj hr
      refine qS Tryz.func107 _ (.cons (za rfl (Wk.refl _)) .nil) ?_
      rfl
    ·
     refine rh rfl (rh rfl (rd rfl (qN rfl rfl rfl) (rf rfl (rh rfl (rh rfl (rd rfl (qN rfl rfl rfl) (rd rfl (qN rfl rfl rfl) (rc rfl (qg ?_)))))))))
     obtain rfl := Option.some.inj hr
     refine qS Tryz.func107 _ (.cons (za rfl (Wk.refl _)) .nil) ?_
     rfl
  ·
   refine rh rfl (rh rfl (rd rfl (qN rfl rfl rfl) (rf rfl (rf rfl (rd rfl (qV rfl rfl rfl rfl) (rf rfl ?_))))))
   refine zJ 22 rfl hr (fun h22_5 hr => ?_) (fun h22_5 hr => ?_)
   ·
    refine rf rfl (rd rfl (qV rfl rfl rfl rfl) (rd rfl (qP rfl rfl rfl) (rf rfl ?_)))
    refine zJ 26 rfl hr (fun h26_6 hr => ?_) (fun h26_6 hr => ?_)
    ·
     refine rf rfl (rd rfl (qV rfl rfl rfl rfl) (rd rfl (qP rfl rfl rfl) (rd rfl (qN rfl rfl rfl) (rc rfl (qg ?_)))))
     obtain rfl := Option.some.inj hr
     refine qS Tryz.func107 _ (.cons (za rfl (Wk.refl _)) .nil) ?_
     rfl
    ·
     refine rh rfl (rh rfl (rd rfl (qN rfl rfl rfl) (rd rfl (qN rfl rfl rfl) (rc rfl (qg ?_)))))
     obtain rfl := Option.some.inj hr
     refine qS Tryz.func107 _ (.cons (za rfl (Wk.refl _)) .nil) ?_
     rfl
   ·
    refine rh rfl (rh rfl (rd rfl (qN rfl rfl rfl) (rf rfl (rh rfl (rh rfl (rd rfl (qN rfl rfl rfl) (rd rfl (qN rfl rfl rfl) (rc rfl (qg ?_)))))))))
    obtain rfl := Option.some.inj hr
    refine qS Tryz.func107 _ (.cons (za rfl (Wk.refl _)) .nil) ?_
    rfl
 ·
  refine rh rfl (rh rfl (rd rfl (qN rfl rfl rfl) (rf rfl (rh rfl (rh rfl (rd rfl (qN rfl rfl rfl) (rf rfl (rf rfl (rd rfl (qV rfl rfl rfl rfl) (rf rfl ?_))))))))))
  refine zJ 22 rfl hr (fun h22_7 hr => ?_) (fun h22_7 hr => ?_)
  ·
   refine rf rfl (rd rfl (qV rfl rfl rfl rfl) (rd rfl (qP rfl rfl rfl) (rf rfl ?_)))
   refine zJ 26 rfl hr (fun h26_8 hr => ?_) (fun h26_8 hr => ?_)
   ·
    refine rf rfl (rd rfl (qV rfl rfl rfl rfl) (rd rfl (qP rfl rfl rfl) (rd rfl (qN rfl rfl rfl) (rc rfl (qg ?_)))))
    obtain rfl := Option.some.inj hr
    refine qS Tryz.func107 _ (.cons (za rfl (Wk.refl _)) .nil) ?_
    rfl
   ·
    refine rh rfl (rh rfl (rd rfl (qN rfl rfl rfl) (rd rfl (qN rfl rfl rfl) (rc rfl (qg ?_)))))
    obtain rfl := Option.some.inj hr
    refine qS Tryz.func107 _ (.cons (za rfl (Wk.refl _)) .nil) ?_
    rfl
  ·
   refine rh rfl (rh rfl (rd rfl (qN rfl rfl rfl) (rf rfl (rh rfl (rh rfl (rd rfl (qN rfl rfl rfl) (rd rfl (qN rfl rfl rfl) (rc rfl (qg ?_)))))))))
   obtain rfl := Option.some.inj hr
   refine qS Tryz.func107 _ (.cons (za rfl (Wk.refl _)) .nil) ?_
   rfl
noncomputable def qec (n_a0 : Int) : Option (T) :=
 some ((T.mk 0 n_a0 ⟨#[]⟩ []))
set_option maxHeartbeats 1000000 in
theorem qhJ (n_a0 : Int) (res : T) (hr : qec n_a0 = some res) : zi Tryz.prog 108 [.int .i64 n_a0] (ze res) := by
 unfold qec at hr
 refine q7 [(0, .int .i64 n_a0)] Tryz.func108 rfl rfl fun K hK => (qk (gr [.w] (ew rfl (qY rfl qbc) ?_)))
 rintro _ _ ⟨b2_0, rfl, rfl⟩
 refine qg (qk (gr [.d, .d, .w] (rf rfl (rd rfl (qbj rfl qfr (.oc rfl (.oc rfl .nil)) (.cons rfl rfl rfl (.cons rfl rfl rfl (.nil _)))) (eqR rfl (qt _ rfl rfl rfl (Wk.refl _) (pf0 _) (by exact qr) rfl rfl rfl) (qg ?_))))))
 obtain rfl := Option.some.inj hr
 refine qS Tryz.func108 _ (.cons (z4 rfl (.head _) (by exact qr) rfl (Wk.refl _)) .nil) ?_
 first | rfl | (show _ = D.agg (fsT _); rw [qcY] <;> rfl) | simp [yP, ze, qcY, T.k, T.i, T.s, T.ar]
noncomputable def qcf (rec : (List (Int × T)) → Int → (List T) → Option ((List T))) (env_a0 : (List (Int × T))) (fresh_a1 : Int) (t_a2 : T) : Option (T) :=
 (bif (t_a2.k == (2 : Int)) then
 ((rec env_a0 fresh_a1 t_a2.ar).bind fun r_3 =>
 some ((T.mk 2 0 t_a2.s r_3)))
 else
 (bif (t_a2.k == (1 : Int)) then
 ((qck env_a0 t_a2.i).bind fun r_5 =>
 (bif (decide (r_5 ≥ (0 : Int))) then
 ((zw env_a0 r_5).bind fun q_7 =>
 some (q_7.2))
 else
 ((qdM fresh_a1 t_a2.i).bind fun r_8 =>
 (bif r_8 then
 ((qbZ t_a2.i).bind fun r_10 =>
 some (r_10))
 else
 ((qbZ (wr (fresh_a1 + t_a2.i))).bind fun r_11 =>
 some (r_11))))))
 else
 (bif (t_a2.k == (0 : Int)) then
 ((qec t_a2.i).bind fun r_13 =>
 some (r_13))
 else
 some (t_a2))))
set_option maxHeartbeats 1000000 in
theorem qfJ (rec : (List (Int × T)) → Int → (List T) → Option ((List T))) (IHR : ∀ (env_a0 : (List (Int × T))) (fresh_a1 : Int) (l_a2 : (List T)) (res : (List T)), rec env_a0 fresh_a1 l_a2 = some res → zi Tryz.prog 56 [.lst (env_a0.map zp), .int .i64 fresh_a1, .lst (l_a2.map ze)] (.lst (res.map ze))) (env_a0 : (List (Int × T))) (fresh_a1 : Int) (t_a2 : T) (res : T) (hr : qcf rec env_a0 fresh_a1 t_a2 = some res) : zi Tryz.prog 85 [.lst (env_a0.map zp), .int .i64 fresh_a1, ze t_a2] (ze res) := by
 unfold qcf at hr
 refine q7 [(0, .lst (env_a0.map zp)), (1, .int .i64 fresh_a1), (2, ze t_a2)] Tryz.func85 rfl rfl fun K hK => (qk (gr [.d, .w] (rd rfl (qdH rfl rfl rfl) (ew rfl (qY rfl qbc) ?_))))
 rintro _ _ ⟨b6_0, rfl, rfl⟩
 refine qg (qk (qk (gr [.d, .d] (rd rfl (qi rfl qbm rfl (qdd _) (qc9 _) rfl) (rd rfl (qn rfl rfl (by exact qL) rfl) (qg (qaP (qk (gr [.d, .d] (rd rfl (qV rfl rfl rfl rfl) (rc rfl (qg ?_))))))))))))
 refine zq 10 rfl hr (fun h10_1 hr => ?_) (fun h10_1 hr => ?_)
 ·
  refine qy rfl (qk (ga [(0, .d), (1, .d), (2, .d), (3, .d), (4, .d), (5, .d), (6, .d), (7, .d), (8, .w)] (rd rfl (qi rfl qd3 rfl (qhi _) (qhc _) rfl) (rd rfl (qn rfl rfl (by exact qbr) rfl) (rf rfl (rf rfl (rd rfl (qi rfl qbe rfl (qdO _) (qdQ _) rfl) (rd rfl (qn rfl rfl (by exact qT) rfl) ?_))))))))
  obtain ⟨r_3, hr_3, hr⟩ := zb hr
  refine rd rfl (qM rfl qem (.oc rfl (.oc rfl (.oc rfl .nil))) (IHR _ _ _ _ hr_3)) (rd rfl (qbj rfl qfr (.oc rfl (.oc rfl (.oc rfl .nil))) (.cons rfl rfl rfl (.cons rfl rfl rfl (.cons rfl rfl rfl (.nil _))))) (eqR rfl (qt _ rfl rfl rfl (Wk.refl _) (pf0 _) (by exact qr) rfl rfl rfl) (qg ?_)))
  obtain rfl := Option.some.inj hr
  refine qS Tryz.func85 _ (.cons (z4 rfl (.head _) (by exact qr) rfl (Wk.refl _)) .nil) ?_
  first | rfl | (show _ = D.agg (fsT _); rw [qcY] <;> rfl) | simp [yP, ze, qcY, T.k, T.i, T.s, T.ar]
 ·
  refine qA rfl (qk (gr [.d, .d] (rd rfl (qV rfl rfl rfl rfl) (rc rfl (qg ?_)))))
  refine zq 20 rfl hr (fun h20_3 hr => ?_) (fun h20_3 hr => ?_)
  ·
   refine qy rfl (qk (gr [.d, .d, .d, .d, .d] (rf rfl (rd rfl (qi rfl qa1 rfl (qdt _) (qds _) rfl) (rd rfl (qn rfl rfl (by exact qL) rfl) ?_)))))
   obtain ⟨r_5, hr_5, hr⟩ := zb hr
   refine rd rfl (qM rfl qfa (.oc rfl (.oc rfl .nil)) (qe1 _ _ _ hr_5)) (rc rfl (qg (qk (qk (gr [.d, .d] (rf rfl (rd rfl (qV rfl rfl rfl rfl) (qg ?_))))))))
   refine zq 27 rfl hr (fun h27_5 hr => ?_) (fun h27_5 hr => ?_)
   ·
    refine qy rfl (qk (gr [.d, .d, .d, .d, .d, .w] (rf rfl (rf rfl ?_))))
    obtain ⟨q_7, hq_7, hr⟩ := zb hr
    refine rd rfl (qB (f := zp) env_a0 rfl qcg rfl (asl rfl) rfl hq_7 qdf rfl) (rd rfl (qi rfl qiP rfl rfl rfl rfl) (rd rfl (qn rfl rfl (by exact qr) (qI _)) (eqR rfl (qt _ rfl rfl rfl (Wk.refl _) (pf0 _) (by exact qr) (qI _) rfl rfl) (qg ?_))))
    obtain rfl := Option.some.inj hr
    refine qS Tryz.func85 _ (.cons (z4 rfl (.head _) (by exact qr) (qI _) (Wk.refl _)) .nil) ?_
    rfl
   ·
    refine qA rfl (qU (qk (qk (gr [.d, .d, .d, .d] (rf rfl (rd rfl (qi rfl qa1 rfl (qdt _) (qds _) rfl) (rd rfl (qn rfl rfl (by exact qL) rfl) ?_)))))))
    obtain ⟨r_8, hr_8, hr⟩ := zb hr
    refine rd rfl (qM rfl qgu (.oc rfl (.oc rfl .nil)) (qgE _ _ _ hr_8)) (qg ?_)
    refine zq 36 rfl hr (fun h36_8 hr => ?_) (fun h36_8 hr => ?_)
    ·
     refine qy rfl (qk (gr [.d, .d, .d, .w] (rd rfl (qi rfl qa1 rfl (qdt _) (qds _) rfl) (rd rfl (qn rfl rfl (by exact qL) rfl) ?_))))
     obtain ⟨r_10, hr_10, hr⟩ := zb hr
     refine rd rfl (qM rfl qcv (.oc rfl .nil) (qcu _ _ hr_10)) (eqR rfl (qt _ rfl rfl rfl (Wk.refl _) (pf0 _) (by exact qr) (qI _) rfl rfl) (qg ?_))
     obtain rfl := Option.some.inj hr
     refine qS Tryz.func85 _ (.cons (z4 rfl (.head _) (by exact qr) (qI _) (Wk.refl _)) .nil) ?_
     rfl
    ·
     refine qA rfl (qU (qk (gr [.d, .d, .d, .d, .d, .w] (rf rfl (rd rfl (qi rfl qa1 rfl (qdt _) (qds _) rfl) (rd rfl (qn rfl rfl (by exact qL) rfl) (rd rfl (qdK rfl rfl rfl rfl) ?_)))))))
     obtain ⟨r_11, hr_11, hr⟩ := zb hr
     refine rd rfl (qM rfl qcv (.oc rfl .nil) (qcu _ _ hr_11)) (eqR rfl (qt _ rfl rfl rfl (Wk.refl _) (pf0 _) (by exact qr) (qI _) rfl rfl) (qg ?_))
     obtain rfl := Option.some.inj hr
     refine qS Tryz.func85 _ (.cons (z4 rfl (.head _) (by exact qr) (qI _) (Wk.refl _)) .nil) ?_
     rfl
  ·
   refine qA rfl (qk (gr [.d, .d] (rd rfl (qV rfl rfl rfl rfl) (rc rfl (qg ?_)))))
   refine zq 45 rfl hr (fun h45_11 hr => ?_) (fun h45_11 hr => ?_)
   ·
    refine qy rfl (qk (gr [.d, .d, .d, .w] (rd rfl (qi rfl qa1 rfl (qdt _) (qds _) rfl) (rd rfl (qn rfl rfl (by exact qL) rfl) ?_))))
    obtain ⟨r_13, hr_13, hr⟩ := zb hr
    refine rd rfl (qM rfl qhN (.oc rfl .nil) (qhJ _ _ hr_13)) (eqR rfl (qt _ rfl rfl rfl (Wk.refl _) (pf0 _) (by exact qr) (qI _) rfl rfl) (qg ?_))
    obtain rfl := Option.some.inj hr
    refine qS Tryz.func85 _ (.cons (z4 rfl (.head _) (by exact qr) (qI _) (Wk.refl _)) .nil) ?_
    rfl
   ·
    refine qA rfl (qU (qK (qk (gr [.d, .w] (rd rfl (qn rfl rfl (by exact qr) (qI _)) (eqR rfl (qt _ rfl rfl rfl (Wk.refl _) (pf0 _) (by exact qr) (qI _) rfl rfl) (qg ?_)))))))
    obtain rfl := Option.some.inj hr
    refine qS Tryz.func85 _ (.cons (z4 rfl (.head _) (by exact qr) (qI _) (Wk.refl _)) .nil) ?_
    rfl
noncomputable def qaF (k : ((List T)) → Option ((List T))) (rec : (List (Int × T)) → Int → (List T) → Option ((List T))) (env_a0 : (List (Int × T))) (fresh_a1 : Int) : List T → (List T) → Option ((List T))
 | [], out_4 =>
 (k out_4)
 | q_8 :: rest, out_4 =>
 ((qcf rec env_a0 fresh_a1 q_8).bind fun r_9 =>
 ((zY 56 out_4 [r_9]).bind fun l_10 =>
 (qaF k rec env_a0 fresh_a1 rest l_10)))
noncomputable def qbX : Nat → (List (Int × T)) → Int → (List T) → Option ((List T))
 | 0, _, _, _ => none
 | fuel + 1, env_a0, fresh_a1, l_a2 =>
  (fun (rec : (List (Int × T)) → Int → (List T) → Option ((List T))) =>
   (qaF (fun out_7 =>
   some (out_7)) rec env_a0 fresh_a1 l_a2 [])) (qbX fuel)
set_option maxHeartbeats 1000000 in
theorem qfE (fuel : Nat) (rec : (List (Int × T)) → Int → (List T) → Option ((List T))) (IHR : ∀ (env_a0 : (List (Int × T))) (fresh_a1 : Int) (l_a2 : (List T)) (res : (List T)), rec env_a0 fresh_a1 l_a2 = some res → zi Tryz.prog 56 [.lst (env_a0.map zp), .int .i64 fresh_a1, .lst (l_a2.map ze)] (.lst (res.map ze))) (env_a0 : (List (Int × T))) (fresh_a1 : Int) (l_a2 : (List T)) (res : (List T))
 (hr : (qaF (fun out_7 =>
some (out_7)) rec env_a0 fresh_a1 l_a2 []) = some res) : zi Tryz.prog 56 [.lst (env_a0.map zp), .int .i64 fresh_a1, .lst (l_a2.map ze)] (.lst (res.map ze)) := by
 refine q7 [(0, .lst (env_a0.map zp)), (1, .int .i64 fresh_a1), (2, .lst (l_a2.map ze))] Tryz.func56 rfl rfl fun K hK => (qk (gr [.w] (ew rfl (qb8 47 4 (.inl rfl)) ?_)))
 rintro _ _ ⟨u6_0, rfl, rfl⟩
 refine qg (qk (gr [.w] (ew rfl (qb8 47 4 (.inl rfl)) ?_)))
 rintro _ _ ⟨u7_1, rfl, rfl⟩
 refine qg (qk (qk (gr [.d] (rc rfl (qg ?_)))))
 obtain ⟨kk0, hkk0, hr⟩ := exK (fun k => qaF k rec env_a0 fresh_a1 l_a2 []) hr
 refine qfb 2 rfl (asl rfl) fun hla0 => ?_
 simp only [List.length_map] at hla0
 refine qaW (fun env σ => ∃ (out_7 : (List T)) (u_6 : Value), env = [(7, .own u_6 (out_7.map ze))] ∧ σ = [.row u_6 out_7.length 47 4] ∧ kk0 out_7 = some res) ?_ (fun HK0 => ?_)
 ·
  rintro _ _ ⟨out_7, u_6, rfl, rfl, hr⟩
  rw [hkk0] at hr
  refine qk (gr [.d, .d] (rf rfl (rc rfl (qg ?_))))
  obtain rfl := Option.some.inj hr
  refine qS Tryz.func56 _ (.cons (za rfl (Wk.own _ _)) .nil) ?_
  rfl
 ·
  refine qal [(0, .lst (env_a0.map zp)), (1, .int .i64 fresh_a1), (2, .lst (l_a2.map ze)), (7, .own u7_1 ([].map ze)), (8, .int .i64 ((0 : Nat) : Int))] (sc rfl (sc rfl (sc rfl (sc rfl (sc rfl (Sub.nil _)))))) (qbf [_] _ (pf0 _) (qcc (fun n env σ => ∃ (out_4 : (List T)) (i_5 : Nat) (u_3 : Value), (n = l_a2.length - i_5) ∧ (env = [(0, .lst (env_a0.map zp)), (1, .int .i64 fresh_a1), (2, .lst (l_a2.map ze)), (7, .own u_3 (out_4.map ze)), (8, .int .i64 (i_5 : Int))]) ∧ (σ = [.row u_3 out_4.length 47 4]) ∧ (i_5 ≤ l_a2.length) ∧ (qaF kk0 rec env_a0 fresh_a1 (l_a2.drop i_5) out_4 = some res)) _ ⟨[], 0, u7_1, rfl, rfl, rfl, Nat.zero_le _, hr⟩ ?_))
  rintro n _ _ ⟨out_4, i_5, u_3, rfl, rfl, rfl, hi0, hr⟩ IH0
  rcases zh l_a2 i_5 hi0 with ⟨ht0, hd0, he0⟩ | ⟨q_8, ht0, hd0, hq0, hlt0⟩
  ·
   rw [hd0, qaF] at hr
   refine qk (qk (gr [.d, .d, .d, .d] (rf rfl (rf rfl (rd rfl (qbd (f := ze) l_a2 rfl qC rfl (asl rfl)) (rd rfl (qV rfl rfl rfl rfl) (qg (qaJ 12 false rfl ht0 (qA rfl (qbB rfl (qal [(7, .own u_3 (out_4.map ze))] (sc rfl (Sub.nil _)) ?_)))))))))))
   exact HK0 _ _ ⟨out_4, u_3, rfl, rfl, hr⟩
  ·
   rw [hd0, qaF] at hr
   refine qk (qk (gr [.d, .d, .d, .d] (rf rfl (rf rfl (rd rfl (qbd (f := ze) l_a2 rfl qC rfl (asl rfl)) (rd rfl (qV rfl rfl rfl rfl) (qg (qaJ 12 true rfl ht0 (qy rfl (qU (qk (qaP (gr [.d, .d, .d, .d, .d, .d, .d, .d, .d, .w, .d] ?_)))))))))))))
   refine rf rfl (rf rfl (rf rfl (rf rfl (rf rfl (rd rfl (qB (f := ze) l_a2 rfl qC rfl (asl rfl) rfl hq0 qI rfl) (rd rfl (qn rfl rfl (by exact qr) (qI _)) ?_))))))
   obtain ⟨r_9, hr_9, hr⟩ := zb hr
   refine rd rfl (qM rfl qge (.oc rfl (.oc rfl (.oc rfl .nil))) (qfJ rec IHR _ _ _ _ hr_9)) (rd rfl (qgi (f := ze) [.tmp 22] [r_9] rfl qC rfl rfl (by decide) (by decide) (.oc rfl .nil) qI (fun _ => rfl)) ?_)
   obtain ⟨l_10, hl_10, hr⟩ := zb hr
   refine ew rfl (qcd (f := ze) out_4 [r_9] rfl qC rfl rfl (asl rfl) (pf0 _) rfl qI hl_10) ?_
   rintro _ _ ⟨u24_10, rfl, rfl⟩
   refine rc rfl (qg (qK (gr [.d, .d, .d] (rf rfl (rd rfl (zZ (r := ((i_5 + 1 : Nat) : Int)) rfl rfl rfl (by simp [iar]) (by omega)) (rc rfl (qg (qal [(0, .lst (env_a0.map zp)), (1, .int .i64 fresh_a1), (2, .lst (l_a2.map ze)), (7, .own u24_10 (l_10.map ze)), (8, .int .i64 ((i_5 + 1 : Nat) : Int))] (sc rfl (sc rfl (sc rfl (sc rfl (sc rfl (Sub.nil _)))))) ?_))))))))
   exact IH0 _ _ _ (by omega) ⟨l_10, (i_5 + 1), u24_10, rfl, rfl, rfl, (by omega), hr⟩
theorem qel : ∀ (fuel : Nat) (env_a0 : (List (Int × T))) (fresh_a1 : Int) (l_a2 : (List T)) (res : (List T)), qbX fuel env_a0 fresh_a1 l_a2 = some res → zi Tryz.prog 56 [.lst (env_a0.map zp), .int .i64 fresh_a1, .lst (l_a2.map ze)] (.lst (res.map ze))
 | 0, _, _, _, _, h => by cases h
 | fuel + 1, env_a0, fresh_a1, l_a2, res, h => qfE fuel (qbX fuel) (qel fuel) env_a0 fresh_a1 l_a2 res h
noncomputable def qcn (fuel : Nat) (env_a0 : (List (Int × T))) (fresh_a1 : Int) (g_a2 : Gl) : Option (Gl) :=
 ((qbX fuel env_a0 fresh_a1 g_a2.ts).bind fun r_2 =>
 some ((⟨g_a2.op, g_a2.n, r_2⟩ : Gl)))
set_option maxHeartbeats 1000000 in
theorem qft (fuel : Nat) (env_a0 : (List (Int × T))) (fresh_a1 : Int) (g_a2 : Gl) (res : Gl) (hr : qcn fuel env_a0 fresh_a1 g_a2 = some res) : zi Tryz.prog 27 [.lst (env_a0.map zp), .int .i64 fresh_a1, zk g_a2] (zk res) := by
 unfold qcn at hr
 refine q7 [(0, .lst (env_a0.map zp)), (1, .int .i64 fresh_a1), (2, zk g_a2)] Tryz.func27 rfl rfl fun K hK => (qk (gr [.d, .w] (rd rfl (qdH rfl rfl rfl) (ew rfl (qY rfl qeW) ?_))))
 rintro _ _ ⟨b6_0, rfl, rfl⟩
 refine qg (qk (ga [(0, .d), (1, .d), (2, .d), (3, .d), (4, .d), (5, .d), (6, .d), (7, .d), (8, .d), (9, .d), (10, .w)] (rd rfl (qi rfl qcp rfl rfl rfl rfl) (rd rfl (qn rfl rfl (by exact qL) rfl) (rd rfl (qi rfl qiW rfl rfl rfl rfl) (rd rfl (qn rfl rfl (by exact qbr) rfl) (rf rfl (rf rfl (rd rfl (qi rfl qcm rfl rfl rfl rfl) (rd rfl (qn rfl rfl (by exact qT) rfl) ?_))))))))))
 obtain ⟨r_2, hr_2, hr⟩ := zb hr
 refine rd rfl (qM rfl qem (.oc rfl (.oc rfl (.oc rfl .nil))) (qel fuel _ _ _ _ hr_2)) (rd rfl (qbj rfl qhw (.oc rfl (.oc rfl (.oc rfl .nil))) (.cons rfl rfl rfl (.cons rfl rfl rfl (.cons rfl rfl rfl (.nil _))))) (eqR rfl (qt _ rfl rfl rfl (Wk.refl _) (pf0 _) (by exact qbs) rfl rfl rfl) (qg ?_)))
 obtain rfl := Option.some.inj hr
 refine qS Tryz.func27 _ (.cons (z4 rfl (.head _) (by exact qbs) rfl (Wk.refl _)) .nil) ?_
 rfl
noncomputable def q9 (k : (Bool) → Option (Bool)) (env_5 : (List (Int × T))) (fuel : Nat) : List Gl → Bool → Option (Bool)
 | [], ok_7 =>
 (k ok_7)
 | q_10 :: rest, ok_7 =>
 (bif ok_7 then
 ((qcn fuel env_5 1000 q_10).bind fun r_12 =>
 ((qbU fuel r_12).bind fun r_13 =>
 (q9 k env_5 fuel rest (r_13 == (1 : Int)))))
 else
 (k ok_7))
noncomputable def q8 (k : ((List (Int × T))) → (Bool) → Option (Bool)) (fuel : Nat) (r_1 : (List At)) : List At → (List (Int × T)) → Bool → Nat → Option (Bool)
 | [], env_2, ok_3, i_4 =>
 (k env_2 ok_3)
 | q_14 :: rest, env_2, ok_3, i_4 =>
 (bif ok_3 then
 ((zw r_1 (i_4 : Int)).bind fun q_16 =>
 ((qcT fuel env_2 q_16 q_14).bind fun r_17 =>
 (q8 k fuel r_1 rest r_17.1 r_17.2 (i_4 + 1))))
 else
 (k env_2 ok_3))
noncomputable def qbQ (fuel : Nat) (r_a0 : qG) (l_a1 : (List At)) : Option (Bool) :=
 ((qcH r_a0).bind fun r_1 =>
 (q8 (fun env_5 ok_6 =>
 (q9 (fun ok_9 =>
 some (ok_9)) env_5 fuel r_a0.f3_Guard ok_6)) fuel r_1 l_a1 [] ((r_1.length : Int) == (l_a1.length : Int)) 0))
set_option maxHeartbeats 1000000 in
theorem qd7 (fuel : Nat) (r_a0 : qG) (l_a1 : (List At)) (res : Bool) (hr : qbQ fuel r_a0 l_a1 = some res) : zi Tryz.prog 9 [qp r_a0, .lst (l_a1.map zl)] (.bool res) := by
 unfold qbQ at hr
 refine q7 [(0, qp r_a0), (1, .lst (l_a1.map zl))] Tryz.func9 rfl rfl fun K hK => (qk (gr [.d, .d] (rd rfl (qdH rfl rfl rfl) (rc rfl (qg (qk (gr [.d] (rc rfl (qg (qk (gr [.d, .d, .d] (rd rfl (qn rfl rfl (by exact qai) (qab _)) ?_))))))))))))
 obtain ⟨r_1, hr_1, hr⟩ := zb hr
 refine rd rfl (qM rfl qgT (.oc rfl .nil) (qg7 _ _ hr_1)) (rc rfl (qg (qk (gr [.d, .d, .d, .d, .d, .d] (rf rfl (rd rfl (qbd (f := zl) r_1 rfl qO rfl (asl rfl)) (rf rfl (rd rfl (qbd (f := zl) l_a1 rfl qO rfl (asl rfl)) (rd rfl (qV rfl rfl rfl rfl) (rc rfl (qg (qk (qk ?_)))))))))))))
 refine gr [.d] (rc rfl (qg ?_))
 obtain ⟨kk0, hkk0, hr⟩ := exK (fun k => q8 k fuel r_1 l_a1 [] ((r_1.length : Int) == (l_a1.length : Int)) 0) hr
 refine qfb 1 rfl (asl rfl) fun hla0 => ?_
 simp only [List.length_map] at hla0
 refine qaW (fun env σ => ∃ (env_5 : (List (Int × T))) (ok_6 : Bool), env = [(2, .ptr (qp r_a0)), (5, .lst (env_5.map zp)), (7, .bool ok_6)] ∧ σ = [] ∧ kk0 env_5 ok_6 = some res) ?_ (fun HK0 => ?_)
 ·
  rintro _ _ ⟨env_5, ok_6, rfl, rfl, hr⟩
  rw [hkk0] at hr
  refine qk (qk (gr [.d] (rc rfl (qg ?_))))
  obtain ⟨kk1, hkk1, hr⟩ := exK (fun k => q9 k env_5 fuel r_a0.f3_Guard ok_6) hr
  refine qmw 2 [3] (l := r_a0.f3_Guard.map zk) rfl rfl (asl rfl) fun hla1 => ?_
  simp only [List.length_map] at hla1
  refine qaW (fun env σ => ∃ (ok_9 : Bool), env = [(7, .bool ok_9)] ∧ σ = [] ∧ kk1 ok_9 = some res) ?_ (fun HK1 => ?_)
  ·
   rintro _ _ ⟨ok_9, rfl, rfl, hr⟩
   rw [hkk1] at hr
   refine qk (gr [.d, .d] (rf rfl (rc rfl (qg ?_))))
   obtain rfl := Option.some.inj hr
   refine qS Tryz.func9 _ (.cons (za rfl (Wk.refl _)) .nil) ?_
   rfl
  ·
   refine qal [(2, .ptr (qp r_a0)), (5, .lst (env_5.map zp)), (7, .bool ok_6), (9, .int .i64 ((0 : Nat) : Int))] (sc rfl (sc rfl (sc rfl (sc rfl (Sub.nil _))))) (qcc (fun n env σ => ∃ (ok_7 : Bool) (i_8 : Nat), (n = r_a0.f3_Guard.length - i_8) ∧ (env = [(2, .ptr (qp r_a0)), (5, .lst (env_5.map zp)), (7, .bool ok_7), (9, .int .i64 (i_8 : Int))]) ∧ (σ = []) ∧ (i_8 ≤ r_a0.f3_Guard.length) ∧ (q9 kk1 env_5 fuel (r_a0.f3_Guard.drop i_8) ok_7 = some res)) _ ⟨ok_6, 0, rfl, rfl, rfl, Nat.zero_le _, hr⟩ ?_)
   rintro n _ _ ⟨ok_7, i_8, rfl, rfl, rfl, hi1, hr⟩ IH1
   rcases zh r_a0.f3_Guard i_8 hi1 with ⟨ht1, hd1, he1⟩ | ⟨q_10, ht1, hd1, hq1, hlt1⟩
   ·
    rw [hd1, q9] at hr
    refine qk (qk (gr [.d, .d, .d, .d, .d, .d, .d, .d] (rf rfl (rd rfl (qi rfl qao rfl rfl rfl rfl) (rd rfl (qn rfl rfl (by exact qE) rfl) (rd rfl (qbd (f := zk) r_a0.f3_Guard rfl qH rfl (asl rfl)) (rd rfl (qV rfl rfl rfl rfl) (rf rfl (qdS 44 false rfl ht1 (rh rfl (rd rfl (qN rfl rfl rfl) (qg (qA rfl ?_)))))))))))))
    refine qbB rfl (qal [(7, .bool ok_7)] (sc rfl (Sub.nil _)) ?_)
    exact HK1 _ _ ⟨ok_7, rfl, rfl, hr⟩
   ·
    rw [hd1, q9] at hr
    refine qk (qk (gr [.d, .d, .d, .d, .d, .d, .d, .d] (rf rfl (rd rfl (qi rfl qao rfl rfl rfl rfl) (rd rfl (qn rfl rfl (by exact qE) rfl) (rd rfl (qbd (f := zk) r_a0.f3_Guard rfl qH rfl (asl rfl)) (rd rfl (qV rfl rfl rfl rfl) (rf rfl (qdS 44 true rfl ht1 (rf rfl (rd rfl (qP rfl rfl rfl) (qg ?_))))))))))))
    refine zq 46 rfl hr (fun h46_10 hr => ?_) (fun h46_10 hr => ?_)
    ·
     refine qy rfl (qU (qk (qaP (gr [.d, .d, .d, .d, .d, .d, .d, .d, .d, .d] (rf rfl (rd rfl (qi rfl qao rfl rfl rfl rfl) (rd rfl (qn rfl rfl (by exact qE) rfl) (rf rfl (rd rfl (qB (f := zk) r_a0.f3_Guard rfl qH rfl (asl rfl) rfl hq1 qbu rfl) (rd rfl (qn rfl rfl (by exact qbs) (qbu _)) ?_))))))))))
     obtain ⟨r_12, hr_12, hr⟩ := zb hr
     refine rd rfl (qM rfl qfq (.oc rfl (.oc rfl (.oc rfl .nil))) (qft fuel _ _ _ _ hr_12)) ?_
     obtain ⟨r_13, hr_13, hr⟩ := zb hr
     refine rd rfl (qM rfl qhp (.oc rfl .nil) (qhu fuel _ _ hr_13)) (rd rfl (qV rfl rfl rfl rfl) (rc rfl (qg (qK (gr [.d, .d, .d] (rf rfl (rd rfl (zZ (r := ((i_8 + 1 : Nat) : Int)) rfl rfl rfl (by simp [iar]) (by omega)) (rc rfl (qg (qal [(2, .ptr (qp r_a0)), (5, .lst (env_5.map zp)), (7, .bool (r_13 == (1 : Int))), (9, .int .i64 ((i_8 + 1 : Nat) : Int))] (sc rfl (sc rfl (sc rfl (sc rfl (Sub.nil _))))) ?_))))))))))
     exact IH1 _ _ _ (by omega) ⟨(r_13 == (1 : Int)), (i_8 + 1), rfl, rfl, rfl, (by omega), hr⟩
    ·
     refine qA rfl (qbB rfl (qal [(7, .bool ok_7)] (sc rfl (Sub.nil _)) ?_))
     exact HK1 _ _ ⟨ok_7, rfl, rfl, hr⟩
 ·
  refine qal [(1, .lst (l_a1.map zl)), (2, .ptr (qp r_a0)), (6, .lst (r_1.map zl)), (5, .lst ([].map zp)), (7, .bool ((r_1.length : Int) == (l_a1.length : Int))), (8, .int .i64 ((0 : Nat) : Int))] (sc rfl (sc rfl (sc rfl (Sub.cons rfl (Wk.full _) (sc rfl (sc rfl (Sub.nil _))))))) (qcc (fun n env σ => ∃ (env_2 : (List (Int × T))) (ok_3 : Bool) (i_4 : Nat), (n = l_a1.length - i_4) ∧ (env = [(1, .lst (l_a1.map zl)), (2, .ptr (qp r_a0)), (6, .lst (r_1.map zl)), (5, .lst (env_2.map zp)), (7, .bool ok_3), (8, .int .i64 (i_4 : Int))]) ∧ (σ = []) ∧ (i_4 ≤ l_a1.length) ∧ (q8 kk0 fuel r_1 (l_a1.drop i_4) env_2 ok_3 i_4 = some res)) _ ⟨[], ((r_1.length : Int) == (l_a1.length : Int)), 0, rfl, rfl, rfl, Nat.zero_le _, hr⟩ ?_)
  rintro n _ _ ⟨env_2, ok_3, i_4, rfl, rfl, rfl, hi0, hr⟩ IH0
  rcases zh l_a1 i_4 hi0 with ⟨ht0, hd0, he0⟩ | ⟨q_14, ht0, hd0, hq0, hlt0⟩
  ·
   rw [hd0, q8] at hr
   refine qk (qk (gr [.d, .d, .d, .d, .d, .d, .d] (rf rfl (rf rfl (rd rfl (qbd (f := zl) l_a1 rfl qO rfl (asl rfl)) (rd rfl (qV rfl rfl rfl rfl) (rf rfl (qdS 21 false rfl ht0 (rh rfl (rd rfl (qN rfl rfl rfl) (qg (qA rfl (qbB rfl ?_)))))))))))))
   refine qal [(2, .ptr (qp r_a0)), (5, .lst (env_2.map zp)), (7, .bool ok_3)] (sc rfl (sc rfl (sc rfl (Sub.nil _)))) ?_
   exact HK0 _ _ ⟨env_2, ok_3, rfl, rfl, hr⟩
  ·
   rw [hd0, q8] at hr
   refine qk (qk (gr [.d, .d, .d, .d, .d, .d, .d] (rf rfl (rf rfl (rd rfl (qbd (f := zl) l_a1 rfl qO rfl (asl rfl)) (rd rfl (qV rfl rfl rfl rfl) (rf rfl (qdS 21 true rfl ht0 (rf rfl (rd rfl (qP rfl rfl rfl) (qg ?_)))))))))))
   refine zq 23 rfl hr (fun h23_14 hr => ?_) (fun h23_14 hr => ?_)
   ·
    refine qy rfl (qU (qk (qaP (ga [(0, .d), (1, .d), (2, .d), (3, .d), (4, .d), (5, .d), (6, .d), (7, .d), (8, .d), (9, .d), (10, .d), (11, .d), (12, .d), (13, .d), (14, .d)] (rf rfl (rf rfl (rf rfl ?_)))))))
    obtain ⟨q_16, hq_16, hr⟩ := zb hr
    refine rd rfl (qB (f := zl) r_1 rfl qO rfl (asl rfl) rfl hq_16 qb6 rfl) (rd rfl (qn rfl rfl (by exact qbW) (qb6 _)) (rf rfl (rf rfl (rd rfl (qB (f := zl) l_a1 rfl qO rfl (asl rfl) rfl hq0 qb6 rfl) (rd rfl (qn rfl rfl (by exact qbW) (qb6 _)) ?_)))))
    obtain ⟨r_17, hr_17, hr⟩ := zb hr
    refine rd rfl (qM rfl qhs (.oc rfl (.oc rfl (.oc rfl .nil))) (qhC fuel _ _ _ _ hr_17)) (rf rfl (rd rfl (qbi rfl rfl rfl) (rd rfl (qbi rfl rfl rfl) (rc rfl (rc rfl (qg (qK (gr [.d, .d, .d] (rf rfl (rd rfl (zZ (r := ((i_4 + 1 : Nat) : Int)) rfl rfl rfl (by simp [iar]) (by omega)) (rc rfl (qg (qal [(1, .lst (l_a1.map zl)), (2, .ptr (qp r_a0)), (6, .lst (r_1.map zl)), (5, .lst (r_17.1.map zp)), (7, .bool r_17.2), (8, .int .i64 ((i_4 + 1 : Nat) : Int))] (sc rfl (sc rfl (sc rfl (sc rfl (sc rfl (sc rfl (Sub.nil _))))))) ?_)))))))))))))
    exact IH0 _ _ _ (by omega) ⟨r_17.1, r_17.2, (i_4 + 1), rfl, rfl, rfl, (by omega), hr⟩
   ·
    refine qA rfl (qbB rfl (qal [(2, .ptr (qp r_a0)), (5, .lst (env_2.map zp)), (7, .bool ok_3)] (sc rfl (sc rfl (sc rfl (Sub.nil _)))) ?_))
    exact HK0 _ _ ⟨env_2, ok_3, rfl, rfl, hr⟩
noncomputable def qaG (k : Option (Bool)) (fuel : Nat) : List At → Option (Bool)
 | [] =>
 k
 | q_18 :: rest =>
 ((qlv q_18).bind fun r_19 =>
 (bif (!r_19) then
 ((qaN fuel).bind fun r_21 =>
 some (r_21))
 else
 (qaG k fuel rest)))
noncomputable def qcr (fuel : Nat) (r_a0 : qG) (l_a1 : (List At)) : Option (Bool) :=
 ((qb9 [r_a0] 60).bind fun r_1 =>
 (bif r_1 then
 ((qaN fuel).bind fun r_3 =>
 some (r_3))
 else
 ((qcK fuel r_a0).bind fun r_4 =>
 (bif (!r_4) then
 ((qaN fuel).bind fun r_6 =>
 some (r_6))
 else
 (bif (decide ((l_a1.length : Int) > (5 : Int))) then
 ((qaN fuel).bind fun r_8 =>
 some (r_8))
 else
 ((qbw l_a1 60).bind fun r_9 =>
 (bif r_9 then
 ((qaN fuel).bind fun r_11 =>
 some (r_11))
 else
 (qaG (((qdA fuel r_a0).bind fun r_13 =>
 ((qbQ fuel r_13 l_a1).bind fun r_14 =>
 ((qbQ fuel r_a0 l_a1).bind fun r_15 =>
 (bif (r_14 == r_15) then
 ((qaN fuel).bind fun r_17 =>
 some (r_17))
 else
 some (false)))))) fuel l_a1))))))))
set_option maxHeartbeats 1000000 in
theorem qfB (fuel : Nat) (r_a0 : qG) (l_a1 : (List At)) (res : Bool) (hr : qcr fuel r_a0 l_a1 = some res) : zi Tryz.prog 3 [qp r_a0, .lst (l_a1.map zl)] (.bool res) := by
 unfold qcr at hr
 refine q7 [(0, qp r_a0), (1, .lst (l_a1.map zl))] Tryz.func3 rfl rfl fun K hK => (qk (gr [.d, .d] (rd rfl (qdH rfl rfl rfl) (rc rfl (qg (qk (qk (gr [.d, .d, .d, .d, .d, .d, .d, .d, .d, .d, .d, .d, .d, .d, .d, .d, .d] (rd rfl (qn rfl rfl (by exact qai) (qab _)) (rd rfl (qgi (f := qp) [.tmp 6] [r_a0] rfl qfh rfl rfl (by decide) (by decide) (.oc rfl .nil) qab (fun _ => rfl)) ?_))))))))))
 obtain ⟨r_1, hr_1, hr⟩ := zb hr
 refine rd rfl (by exact qM rfl qfF (.cons rfl (Wk.full _) (.oc rfl .nil)) (qfG _ _ _ hr_1)) ?_
 refine rf rfl ?_
 refine zJ 9 rfl hr (fun h9_1 hr => ?_) (fun h9_1 hr => ?_)
 ·
  refine rh rfl (rh rfl (rh rfl (rd rfl (qP rfl rfl rfl) (rf rfl (rh rfl (rh rfl (rh rfl (rd rfl (qP rfl rfl rfl) (rf rfl (rh rfl (rh rfl (rd rfl (qP rfl rfl rfl) (qg ?_)))))))))))))
  refine qy rfl (qk (gr [.d, .d] ?_))
  obtain ⟨r_3, hr_3, hr⟩ := zb hr
  refine rd rfl (qM rfl qbE .nil (qbF fuel _ hr_3)) (rc rfl (qg ?_))
  obtain rfl := Option.some.inj hr
  refine qS Tryz.func3 _ (.cons (za rfl (Wk.refl _)) .nil) ?_
  rfl
 ·
  refine rd rfl (qn rfl rfl (by exact qai) (qab _)) ?_
  obtain ⟨r_4, hr_4, hr⟩ := zb hr
  refine rd rfl (qM rfl qgO (.oc rfl .nil) (qgX fuel _ _ hr_4)) (rd rfl (qdN rfl rfl) (rd rfl (qN rfl rfl rfl) (rf rfl ?_)))
  refine zJ 14 rfl hr (fun h14_4 hr => ?_) (fun h14_4 hr => ?_)
  ·
   refine rh rfl (rh rfl (rh rfl (rd rfl (qP rfl rfl rfl) (rf rfl (rh rfl (rh rfl (rd rfl (qP rfl rfl rfl) (qg (qy rfl (qk (gr [.d, .d] ?_)))))))))))
   obtain ⟨r_6, hr_6, hr⟩ := zb hr
   refine rd rfl (qM rfl qbE .nil (qbF fuel _ hr_6)) (rc rfl (qg ?_))
   obtain rfl := Option.some.inj hr
   refine qS Tryz.func3 _ (.cons (za rfl (Wk.refl _)) .nil) ?_
   rfl
  ·
   refine rf rfl (rd rfl (qbd (f := zl) l_a1 rfl qO rfl (asl rfl)) (rd rfl (qV rfl rfl rfl rfl) (rd rfl (qN rfl rfl rfl) (rf rfl ?_))))
   refine zJ 19 rfl hr (fun h19_6 hr => ?_) (fun h19_6 hr => ?_)
   ·
    refine rh rfl (rh rfl (rd rfl (qP rfl rfl rfl) (qg (qy rfl (qk (gr [.d, .d] ?_))))))
    obtain ⟨r_8, hr_8, hr⟩ := zb hr
    refine rd rfl (qM rfl qbE .nil (qbF fuel _ hr_8)) (rc rfl (qg ?_))
    obtain rfl := Option.some.inj hr
    refine qS Tryz.func3 _ (.cons (za rfl (Wk.refl _)) .nil) ?_
    rfl
   ·
    refine rf rfl ?_
    obtain ⟨r_9, hr_9, hr⟩ := zb hr
    refine rd rfl (qM rfl qdg (.oc rfl (.oc rfl .nil)) (qdj _ _ _ hr_9)) (rd rfl (qN rfl rfl rfl) (qg ?_))
    refine zq 22 rfl hr (fun h22_9 hr => ?_) (fun h22_9 hr => ?_)
    ·
     refine qy rfl (qk (gr [.d, .d] ?_))
     obtain ⟨r_11, hr_11, hr⟩ := zb hr
     refine rd rfl (qM rfl qbE .nil (qbF fuel _ hr_11)) (rc rfl (qg ?_))
     obtain rfl := Option.some.inj hr
     refine qS Tryz.func3 _ (.cons (za rfl (Wk.refl _)) .nil) ?_
     rfl
    ·
     refine qA rfl (qU (qk (qk (gr [.d] (rc rfl (qg ?_))))))
     obtain ⟨kk0, hkk0, hr⟩ := exK (fun k => qaG k fuel l_a1) hr
     refine qfb 1 rfl (asl rfl) fun hla0 => ?_
     simp only [List.length_map] at hla0
     refine qaW (fun env σ => env = [(1, .lst (l_a1.map zl)), (2, .ptr (qp r_a0))] ∧ σ = [] ∧ kk0 = some res) ?_ (fun HK0 => ?_)
     ·
      rintro _ _ ⟨rfl, rfl, hr⟩
      rw [hkk0] at hr
      refine qk (ga [(0, .d), (1, .d), (2, .d), (3, .d), (4, .d), (5, .d), (6, .d), (7, .d), (8, .d), (9, .d), (10, .d), (11, .d)] (rd rfl (qn rfl rfl (by exact qai) (qab _)) ?_))
      obtain ⟨r_13, hr_13, hr⟩ := zb hr
      refine rd rfl (qM rfl qhF (.oc rfl .nil) (qhE fuel _ _ hr_13)) (rf rfl ?_)
      obtain ⟨r_14, hr_14, hr⟩ := zb hr
      refine rd rfl (qM rfl qd6 (.oc rfl (.oc rfl .nil)) (qd7 fuel _ _ _ hr_14)) (rd rfl (qn rfl rfl (by exact qai) (qab _)) (rf rfl ?_))
      obtain ⟨r_15, hr_15, hr⟩ := zb hr
      refine rd rfl (qM rfl qd6 (.oc rfl (.oc rfl .nil)) (qd7 fuel _ _ _ hr_15)) (rd rfl (qte rfl Tryz.underlying4 rfl rfl) (rf rfl ?_))
      refine zJ 45 rfl hr (fun h45_15 hr => ?_) (fun h45_15 hr => ?_)
      ·
       obtain ⟨r_17, hr_17, hr⟩ := zb hr
       refine rd rfl (qM rfl qbE .nil (qbF fuel _ hr_17)) (rd rfl (qP rfl rfl rfl) (rc rfl (qg ?_)))
       obtain rfl := Option.some.inj hr
       refine qS Tryz.func3 _ (.cons (za rfl (Wk.refl _)) .nil) ?_
       rfl
      ·
       refine rh rfl (rd rfl (qN rfl rfl rfl) (rc rfl (qg ?_)))
       obtain rfl := Option.some.inj hr
       refine qS Tryz.func3 _ (.cons (za rfl (Wk.refl _)) .nil) ?_
       rfl
     ·
      refine qal [(1, .lst (l_a1.map zl)), (2, .ptr (qp r_a0)), (5, .int .i64 ((0 : Nat) : Int))] (sc rfl (sc rfl (sc rfl (Sub.nil _)))) (qcc (fun n env σ => ∃ (i_12 : Nat), (n = l_a1.length - i_12) ∧ (env = [(1, .lst (l_a1.map zl)), (2, .ptr (qp r_a0)), (5, .int .i64 (i_12 : Int))]) ∧ (σ = []) ∧ (i_12 ≤ l_a1.length) ∧ (qaG kk0 fuel (l_a1.drop i_12) = some res)) _ ⟨0, rfl, rfl, rfl, Nat.zero_le _, hr⟩ ?_)
      rintro n _ _ ⟨i_12, rfl, rfl, rfl, hi0, hr⟩ IH0
      rcases zh l_a1 i_12 hi0 with ⟨ht0, hd0, he0⟩ | ⟨q_18, ht0, hd0, hq0, hlt0⟩
      ·
       rw [hd0, qaG] at hr
       refine qk (qk (gr [.d, .d, .d, .d] (rf rfl (rf rfl (rd rfl (qbd (f := zl) l_a1 rfl qO rfl (asl rfl)) (rd rfl (qV rfl rfl rfl rfl) (qg (qaJ 27 false rfl ht0 (qA rfl (qbB rfl (qal [(1, .lst (l_a1.map zl)), (2, .ptr (qp r_a0))] (sc rfl (sc rfl (Sub.nil _))) ?_)))))))))))
       exact HK0 _ _ ⟨rfl, rfl, hr⟩
      ·
       rw [hd0, qaG] at hr
       refine qk (qk (gr [.d, .d, .d, .d] (rf rfl (rf rfl (rd rfl (qbd (f := zl) l_a1 rfl qO rfl (asl rfl)) (rd rfl (qV rfl rfl rfl rfl) (qg (qaJ 27 true rfl ht0 (qy rfl (qU (qk (qaP (qk ?_)))))))))))))
       refine gr [.d, .d, .d, .d, .d, .d] (rf rfl (rf rfl (rd rfl (qB (f := zl) l_a1 rfl qO rfl (asl rfl) rfl hq0 qb6 rfl) (rd rfl (qn rfl rfl (by exact qbW) (qb6 _)) ?_))))
       obtain ⟨r_19, hr_19, hr⟩ := zb hr
       refine rd rfl (qM rfl qfL (.oc rfl .nil) (qfK _ _ hr_19)) (rd rfl (qdN rfl rfl) (qg ?_))
       refine zq 35 rfl hr (fun h35_19 hr => ?_) (fun h35_19 hr => ?_)
       ·
        refine qy rfl (qk (gr [.d, .d] ?_))
        obtain ⟨r_21, hr_21, hr⟩ := zb hr
        refine rd rfl (qM rfl qbE .nil (qbF fuel _ hr_21)) (rc rfl (qg ?_))
        obtain rfl := Option.some.inj hr
        refine qS Tryz.func3 _ (.cons (za rfl (Wk.refl _)) .nil) ?_
        rfl
       ·
        refine qA rfl (qU (qK (gr [.d, .d, .d] (rf rfl (rd rfl (zZ (r := ((i_12 + 1 : Nat) : Int)) rfl rfl rfl (by simp [iar]) (by omega)) (rc rfl (qg (qal [(1, .lst (l_a1.map zl)), (2, .ptr (qp r_a0)), (5, .int .i64 ((i_12 + 1 : Nat) : Int))] (sc rfl (sc rfl (sc rfl (Sub.nil _)))) ?_))))))))
        exact IH0 _ _ _ (by omega) ⟨(i_12 + 1), rfl, rfl, rfl, (by omega), hr⟩
def yR {α : Type} (x : Option α) (Q : α → Prop) : Prop := ∃ a, x = some a ∧ Q a
def acc {S : Type} (f : Int → S → Int × S) : List Int → S → List Int × S
 | [], s => ([], s)
 | v :: l, s => ((f v s).1 :: (acc f l (f v s).2).1, (acc f l (f v s).2).2)
section
variable {S : Type} {f : Int → S → Int × S}
theorem qhU : ∀ (l : List Int) (s : S), (acc f l s).1.length = l.length
 | [], _ => rfl
 | v :: l, s => by rw [acc, List.length_cons, qhU l, List.length_cons]
theorem qfX : ∀ (l m : List Int) (s : S), acc f (l ++ m) s = ((acc f l s).1 ++ (acc f m (acc f l s).2).1, (acc f m (acc f l s).2).2)
 | [], m, s => rfl
 | v :: l, m, s => by
  rw [List.cons_append, acc, acc, qfX l m]
  rfl
def Kept (f : Int → S → Int × S) (I : Nat → S → Prop) : Prop := (∀ n v s, I (n + 1) s → I n (f v s).2) ∧ ∀ n s, I (n + 1) s → I n s
theorem Kept.less {I : Nat → S → Prop} (h : Kept f I) {n m : Nat} {s : S} (hI : I n s) (hm : m ≤ n) : I m s := by
 induction n with
 | zero =>
  have : m = 0 := by omega
  rw [this]
  exact hI
 | succ n ih =>
  by_cases e : m = n + 1
  · rw [e]; exact hI
  · exact ih (h.2 n s hI) (by omega)
theorem Kept.acc {I : Nat → S → Prop} (h : Kept f I) : ∀ (l : List Int) (n : Nat) (s : S), I (l.length + n) s → I n (acc f l s).2
 | [], n, s, hI => by simpa [Go.Proofs.YtabbfihjeppbhaaGreat.acc] using hI
 | v :: l, n, s, hI => by
  rw [Go.Proofs.YtabbfihjeppbhaaGreat.acc]
  refine Kept.acc h l n _ (h.1 _ v s ?_)
  rw [List.length_cons] at hI
  rwa [show l.length + n + 1 = l.length + 1 + n by omega]
theorem qoT (q : T) (ts : List T) (s : S) : yG (q :: ts) (acc f (zm (q :: ts)) s).1 = zaj q (acc f (yh q) s).1 :: yG ts (acc f (zm ts) (acc f (yh q) s).2).1 := by
 rw [zm, qfX, yG]
 have h : (acc f (yh q) s).1.length = (yh q).length := qhU _ _
 dsimp only
 rw [← h, List.take_left, List.drop_left]
theorem accL2 (q : T) (ts : List T) (s : S) : (acc f (zm (q :: ts)) s).2 = (acc f (zm ts) (acc f (yh q) s).2).2 := by rw [zm, qfX]
theorem qoo (q : At) (ts : List At) (s : S) : yD (q :: ts) (acc f (zA (q :: ts)) s).1 = ⟨q.n, yG q.ts (acc f (zm q.ts) s).1⟩ :: yD ts (acc f (zA ts) (acc f (zm q.ts) s).2).1 := by
 rw [zA, qfX, yD]
 have h : (acc f (zm q.ts) s).1.length = (zm q.ts).length := qhU _ _
 dsimp only
 rw [← h, List.take_left, List.drop_left]
theorem accA2 (q : At) (ts : List At) (s : S) : (acc f (zA (q :: ts)) s).2 = (acc f (zA ts) (acc f (zm q.ts) s).2).2 := by rw [zA, qfX]
theorem qrQ (q : Gl) (ts : List Gl) (s : S) : zad (q :: ts) (acc f (zV (q :: ts)) s).1 = ⟨q.op, q.n, yG q.ts (acc f (zm q.ts) s).1⟩ :: zad ts (acc f (zV ts) (acc f (zm q.ts) s).2).1 := by
 rw [zV, qfX, zad]
 have h : (acc f (zm q.ts) s).1.length = (zm q.ts).length := qhU _ _
 dsimp only
 rw [← h, List.take_left, List.drop_left]
theorem accG2 (q : Gl) (ts : List Gl) (s : S) : (acc f (zV (q :: ts)) s).2 = (acc f (zV ts) (acc f (zm q.ts) s).2).2 := by rw [zV, qfX]
end
theorem qof {q : T} (h : q.k = 1) (l : List Int) : zaj q l = .mk q.k (l.headD 0) q.s q.ar := by
 cases q
 simp only [T.k] at h
 subst h
 rw [qiD]
 rfl
theorem qoG {q : T} (h : q.k = 2) (l : List Int) : zaj q l = .mk q.k q.i q.s (yG q.ar l) := by
 cases q
 simp only [T.k] at h
 subst h
 rw [qiw]
 rfl
theorem qnM {q : T} (h1 : q.k ≠ 1) (h2 : q.k ≠ 2) (l : List Int) : zaj q l = .mk q.k q.i q.s q.ar := by
 cases q
 simp only [T.k] at h1 h2
 rw [qhT h1 h2]
 rfl
theorem beqT {a b : Int} (h : a = b) : (a == b) = true := by simpa using h
theorem beqF {a b : Int} (h : a ≠ b) : (a == b) = false := by simpa using h
theorem bif3 {α : Type} {q : T} {x y z : Option α} {r : Option α} (h1 : q.k = 1 → x = r) (h2 : q.k = 2 → y = r) (h3 : q.k ≠ 1 → q.k ≠ 2 → z = r) : (bif (q.k == (1 : Int)) then x else (bif (q.k == (2 : Int)) then y else z)) = r := by
 rcases y4 q.k with h | h | ⟨ha, hb⟩
 · rw [beqT h, cond_true]; exact h1 h
 · rw [beqF (by omega), cond_false, beqT h, cond_true]; exact h2 h
 · rw [beqF ha, cond_false, beqF hb, cond_false]; exact h3 ha hb
/-! ### weights -/
def wA : List At → Nat
 | [] => 0
 | a :: l => 1 + wtL a.ts + wA l
def wG : List Gl → Nat
 | [] => 0
 | a :: l => 1 + wtL a.ts + wG l
theorem qgw : ∀ l : List At, (zA l).length ≤ wA l
 | [] => Nat.le_refl _
 | a :: l => by
  have := qlP a.ts
  have := qgw l
  rw [zA, List.length_append, wA]
  omega
theorem qkB : ∀ l : List Gl, (zV l).length ≤ wG l
 | [] => Nat.le_refl _
 | a :: l => by
  have := qlP a.ts
  have := qkB l
  rw [zV, List.length_append, wG]
  omega
theorem qj4 : ∀ l : List At, l.length ≤ wA l
 | [] => Nat.le_refl _
 | a :: l => by
  have := qj4 l
  rw [List.length_cons, wA]
  omega
theorem qnw : ∀ l : List Gl, l.length ≤ wG l
 | [] => Nat.le_refl _
 | a :: l => by
  have := qnw l
  rw [List.length_cons, wG]
  omega
theorem qr6 : ∀ a b : List At, wA (a ++ b) = wA a + wA b
 | [], b => by simp [wA]
 | x :: a, b => by rw [List.cons_append, wA, wA, qr6 a b]; omega
theorem qpK : ∀ a b : List Gl, wG (a ++ b) = wG a + wG b
 | [], b => by simp [wG]
 | x :: a, b => by rw [List.cons_append, wG, wG, qpK a b]; omega
theorem zbh {α : Type} {b : Nat} (hb : b ≤ 100) {l : List α} {x : α} {n : Nat} (h : l.length + (n + 1) ≤ 1000000) : zY b l [x] = some (l ++ [x]) := by
 refine qki ?_ (by simp; omega)
 have : (l.length + [x].length) * b ≤ 1000000 * 100 := Nat.mul_le_mul (by simp; omega) hb
 omega
/-! ### source.Number -/
def fS (v : Int) (m : List (Int × Int)) : Int × List (Int × Int) := match zH m v with
 | some k => (k, m)
 | none => ((m.length : Int), zaz m v (m.length : Int))
def iS (n : Nat) (m : List (Int × Int)) : Prop := m.length + n ≤ 1000000
theorem qg0 : Kept fS iS := by
 refine ⟨fun n v m h => ?_, fun n m h => by unfold iS at h ⊢; omega⟩
 unfold iS at h ⊢
 unfold fS
 split
 · show m.length + n ≤ 1000000
   omega
 · have := qlL m v (m.length : Int)
   show (zaz m v _).length + n ≤ 1000000
   omega
theorem qtD {rec : List T → List (Int × Int) → Option (List T × List (Int × Int))} {q : T} {s : List (Int × Int)} (hr : q.k = 2 → rec q.ar s = some (yG q.ar (acc fS (zm q.ar) s).1, (acc fS (zm q.ar) s).2)) (hI : iS (yh q).length s) : qce rec q s = some (zaj q (acc fS (yh q) s).1, (acc fS (yh q) s).2) := by
 unfold qce
 refine bif3 (fun h => ?_) (fun h => ?_) (fun h1 h2 => ?_)
 · rw [qof h, qjq h]
   rw [qjq h] at hI
   unfold iS at hI
   rw [acc, acc]
   unfold fS
   cases hg : zH s q.i with
   | none => simp [zam, show s.length < 9223372036854775807 by simp at hI; omega]
   | some k => simp
 · rw [qoG h, qiX h, hr h]
   rfl
 · rw [qnM h1 h2, qoq h1 h2]
   rfl
theorem qp4 {rec : List T → List (Int × Int) → Option (List T × List (Int × Int))} (k : List T → List (Int × Int) → Option (List T × List (Int × Int))) : ∀ (ts out : List T) (s : List (Int × Int)), (∀ q ∈ ts, ∀ s, iS (zm q.ar).length s → rec q.ar s = some (yG q.ar (acc fS (zm q.ar) s).1, (acc fS (zm q.ar) s).2)) → out.length + ts.length ≤ 1000000 → iS (zm ts).length s →
 qbv k rec ts out s = k (out ++ yG ts (acc fS (zm ts) s).1) (acc fS (zm ts) s).2
 | [], out, s, _, _, _ => by rw [qbv, yG, List.append_nil]; rfl
 | q :: ts, out, s, hr, hl, hI => by
  rw [zm, List.length_append] at hI
  rw [List.length_cons] at hl
  rw [qbv, qtD (fun h => hr q (List.mem_cons_self ..) s (qg0.less hI (by rw [qiX h]; omega))) (qg0.less hI (by omega)), Option.bind_some, zbh (by omega) hl, Option.bind_some,
   qp4 k ts _ _ (fun t ht => hr t (List.mem_cons_of_mem _ ht)) (by rw [List.length_append, List.length_singleton]; omega) (qg0.acc _ _ _ hI), qoT, accL2, List.append_assoc, List.singleton_append]
theorem qm2 : ∀ (fuel : Nat) (ts : List T) (s : List (Int × Int)), wtL ts < fuel → wtL ts ≤ 1000000 → iS (zm ts).length s → qcD fuel ts s = some (yG ts (acc fS (zm ts) s).1, (acc fS (zm ts) s).2)
 | 0, _, _, h, _, _ => absurd h (Nat.not_lt_zero _)
 | fuel + 1, ts, s, h, hw, hI => by
  have := qeH ts
  rw [qcD]
  dsimp only
  rw [qp4 _ ts [] s (fun q hq s hs => ?_) (by simp; omega) hI]
  · rfl
  · have h1 := qen hq
    have h2 := qeT q
    exact qm2 fuel q.ar s (by omega) (by omega) hs
theorem qqH (k : List At → List (Int × Int) → Option (List At × List (Int × Int))) (fuel : Nat) : ∀ (ts out : List At) (s : List (Int × Int)), wA ts < fuel → wA ts ≤ 1000000 → out.length + ts.length ≤ 1000000 → iS (zA ts).length s →
 qbI k fuel ts out s = k (out ++ yD ts (acc fS (zA ts) s).1) (acc fS (zA ts) s).2
 | [], out, s, _, _, _, _ => by rw [qbI, yD, List.append_nil]; rfl
 | q :: ts, out, s, hf, hw, hl, hI => by
  rw [zA, List.length_append] at hI
  rw [List.length_cons] at hl
  rw [wA] at hf hw
  rw [qbI, qcV, qm2 fuel q.ts s (by omega) (by omega) (qg0.less hI (by omega)), Option.bind_some, Option.bind_some, zbh (by omega) hl, Option.bind_some,
   qqH k fuel ts _ _ (by omega) (by omega) (by rw [List.length_append, List.length_singleton]; omega) (qg0.acc _ _ _ hI), qoo, accA2, List.append_assoc, List.singleton_append]
theorem qpO (fuel : Nat) (ts : List At) (s : List (Int × Int)) (hf : wA ts < fuel) (hw : wA ts ≤ 1000000) (hI : iS (zA ts).length s) : qc4 fuel ts s = some (yD ts (acc fS (zA ts) s).1, (acc fS (zA ts) s).2) := by
 have := qj4 ts
 rw [qc4, qqH _ fuel ts [] s hf hw (by simp; omega) hI]
 rfl
theorem qp0 (k : List Gl → List (Int × Int) → Option (List Gl × List (Int × Int))) (fuel : Nat) : ∀ (ts out : List Gl) (s : List (Int × Int)), wG ts < fuel → wG ts ≤ 1000000 → out.length + ts.length ≤ 1000000 → iS (zV ts).length s →
 qbH k fuel ts out s = k (out ++ zad ts (acc fS (zV ts) s).1) (acc fS (zV ts) s).2
 | [], out, s, _, _, _, _ => by rw [qbH, zad, List.append_nil]; rfl
 | q :: ts, out, s, hf, hw, hl, hI => by
  rw [zV, List.length_append] at hI
  rw [List.length_cons] at hl
  rw [wG] at hf hw
  rw [qbH, qcP, qm2 fuel q.ts s (by omega) (by omega) (qg0.less hI (by omega)), Option.bind_some, Option.bind_some, zbh (by omega) hl, Option.bind_some,
   qp0 k fuel ts _ _ (by omega) (by omega) (by rw [List.length_append, List.length_singleton]; omega) (qg0.acc _ _ _ hI), qrQ, accG2, List.append_assoc, List.singleton_append]
theorem qqj (fuel : Nat) (ts : List Gl) (s : List (Int × Int)) (hf : wG ts < fuel) (hw : wG ts ≤ 1000000) (hI : iS (zV ts).length s) : qc2 fuel ts s = some (zad ts (acc fS (zV ts) s).1, (acc fS (zV ts) s).2) := by
 have := qnw ts
 rw [qc2, qp0 _ fuel ts [] s hf hw (by simp; omega) hI]
 rfl
def mOf (l : List Int) : List (Int × Int) := l.zip (rng l.length)
theorem qrp (n : Nat) : rng (n + 1) = rng n ++ [(n : Int)] := by
 unfold rng
 rw [List.range_succ, List.map_append, List.map_singleton]
theorem qnQ (l : List Int) (v : Int) : mOf (l ++ [v]) = mOf l ++ [(v, (l.length : Int))] := by
 unfold mOf
 rw [List.length_append, List.length_singleton, qrp, List.zip_append (qnb _).symm]
 rfl
theorem qq1 (l : List Int) : (mOf l).length = l.length := by
 unfold mOf
 rw [List.length_zip, qnb, Nat.min_self]
theorem qiI {β : Type} : ∀ (l m : List (Int × β)) (v : Int), zH (l ++ m) v = (zH l v).or (zH m v)
 | [], m, v => rfl
 | q :: l, m, v => by
  rw [List.cons_append, zH, zH]
  split
  · rfl
  · exact qiI l m v
theorem qlO {β : Type} : ∀ (l : List (Int × β)) (v : Int) (d : β), zH l v = none → zaz l v d = l ++ [(v, d)]
 | [], _, _, _ => rfl
 | q :: l, v, d, h => by
  rw [zH] at h
  rw [zaz]
  split at h
  · cases h
  · rename_i hq
    rw [if_neg hq, qlO l v d h, List.cons_append]
theorem qnH {l : List Int} {v x : Int} (h : x ∈ l) : plc (l ++ [v]) x = plc l x := by
 rw [qk7 h, qk7 (List.mem_append_left _ h), List.idxOf_append, if_pos h]
theorem qnN {l : List Int} {v : Int} (h : v ∉ l) : plc (l ++ [v]) v = (l.length : Int) := by
 rw [qk7 (by simp), List.idxOf_append, if_neg h]
 simp
theorem qqh (v : Int) : ∀ (n : Nat) (l : List Int), l.length = n → l.Nodup → zH (mOf l) v = if v ∈ l then some (plc l v) else none := by
 intro n
 induction n with
 | zero =>
  intro l hl _
  rw [List.eq_nil_of_length_eq_zero hl]
  rfl
 | succ n ih' =>
  intro l hl hn
  rcases List.eq_nil_or_concat l with rfl | ⟨l, x, rfl⟩
  · cases hl
  rw [List.concat_eq_append] at hl hn ⊢
  have ih := ih' l (by simpa using hl)
  have hn1 : l.Nodup := (List.nodup_append.1 hn).1
  have hx : x ∉ l := fun h => (List.nodup_append.1 hn).2.2 x h x (by simp) rfl
  rw [qnQ, qiI, ih hn1]
  by_cases hv : v ∈ l
  · rw [if_pos hv, if_pos (List.mem_append_left _ hv), qnH hv]
    rfl
  · rw [if_neg hv]
    by_cases e : x = v
    · subst e
      rw [if_pos (by simp), qnN hx]
      simp [zH]
    · rw [if_neg (by simp [hv, Ne.symm e])]
      simp [zH, e]
theorem qod (l : List Int) (v : Int) (h : l.Nodup) : zH (mOf l) v = if v ∈ l then some (plc l v) else none := qqh v _ l rfl h
theorem qs9 {l : List Int} (hn : l.Nodup) (v : Int) : fS v (mOf l) = (plc (yz l v) v, mOf (yz l v)) := by
 unfold fS
 rw [qod l v hn]
 by_cases h : v ∈ l
 · rw [if_pos h, yz, if_pos h]
 · have hg : zH (mOf l) v = none := by rw [qod l v hn, if_neg h]
   rw [if_neg h, yz, if_neg h]
   dsimp only
   rw [qlO _ _ _ hg, qq1, qnQ, qnN h]
theorem qpe {l : List Int} (hn : l.Nodup) (v : Int) : (yz l v).Nodup := by
 have := qgV [v] l hn
 exact this
theorem qrd {l : List Int} {x : Int} (v : Int) (h : x ∈ l) : plc (yz l v) x = plc l x := by
 unfold yz
 split
 · rfl
 · exact qnH h
theorem qn5 : ∀ (xs l : List Int) (x : Int), x ∈ l → plc (z9 l xs) x = plc l x
 | [], l, x, h => rfl
 | v :: xs, l, x, h => by
  show plc (z9 (yz l v) xs) x = _
  rw [qn5 xs (yz l v) x (qiV.2 (.inl h)), qrd v h]
theorem qtr : ∀ (xs l : List Int), l.Nodup → acc fS xs (mOf l) = (xs.map (plc (z9 l xs)), mOf (z9 l xs))
 | [], l, _ => rfl
 | v :: xs, l, hn => by
  rw [acc, qs9 hn, qtr xs (yz l v) (qpe hn v)]
  show (_ :: _, _) = _
  rw [List.map_cons]
  have : plc (z9 l (v :: xs)) v = plc (yz l v) v := qn5 xs (yz l v) v (qiV.2 (.inr rfl))
  rw [this]
  rfl
/-! ### rules as data -/
def toR (r : qG) : Ru := ⟨r.f0_Name, r.f1_Keep, r.f2_Remove, r.f3_Guard, r.f4_Body, r.f5_Vars⟩
def ofR (r : Ru) : qG := ⟨r.n, r.K, r.R, r.G, r.B, r.v⟩
theorem qlB (r : Ru) : toR (ofR r) = r := rfl
structure Bd (m : Nat) (r : Ru) : Prop where
 a : wA r.K ≤ m
 b : wA r.R ≤ m
 c : wG r.G ≤ m
 d : wG r.B ≤ m
theorem Bd.occ {m : Nat} {r : Ru} (h : Bd m r) : (yt r).length ≤ 4 * m := by
 have h1 := qgw r.K
 have h2 := qgw r.R
 have h3 := qkB r.G
 have h4 := qkB r.B
 have := h.a
 have := h.b
 have := h.c
 have := h.d
 unfold yt occH zaE
 simp only [List.length_append]
 omega
theorem qqw (r : Ru) (a b c d : List Int) (ha : a.length = (zA r.K).length) (hb : b.length = (zA r.R).length) (hc : c.length = (zV r.G).length) : setU r ((a ++ b) ++ (c ++ d)) = { r with K := yD r.K a, R := yD r.R b, G := zad r.G c, B := zad r.B d } := by
 unfold setU zbl setH occH
 dsimp only
 have h1 : (a ++ b).length = (zA r.K ++ zA r.R).length := by rw [List.length_append, List.length_append, ha, hb]
 rw [← h1, List.take_left, List.drop_left, ← ha, List.take_left, List.drop_left, ← hc, List.take_left, List.drop_left]
theorem qmD (fuel : Nat) (r : qG) (hB : Bd 100000 (toR r)) (hf : 100000 < fuel) : qcA fuel r = some (ofR (Nb (toR r))) := by
 have h1 := hB.a
 have h2 := hB.b
 have h3 := hB.c
 have h4 := hB.d
 have o1 := qgw (toR r).K
 have o2 := qgw (toR r).R
 have o3 := qkB (toR r).G
 have o4 := qkB (toR r).B
 simp only [toR] at h1 h2 h3 h4 o1 o2 o3 o4
 have hI : iS (((zA r.f1_Keep).length + ((zA r.f2_Remove).length + ((zV r.f3_Guard).length + (zV r.f4_Body).length)))) ([] : List (Int × Int)) := by
  unfold iS
  simp
  omega
 have hI1 := qg0.acc _ _ _ hI
 have hI2 := qg0.acc _ _ _ hI1
 have hI3 := qg0.acc _ _ _ hI2
 rw [qcA, qpO fuel _ _ (by omega) (by omega) (qg0.less hI (by omega)), Option.bind_some, qpO fuel _ _ (by omega) (by omega) (qg0.less hI1 (by omega)), Option.bind_some,
  qqj fuel _ _ (by omega) (by omega) (qg0.less hI2 (by omega)), Option.bind_some, qqj fuel _ _ (by omega) (by omega) hI3, Option.bind_some]
 have e : acc fS (yt (toR r)) [] = ((yt (toR r)).map (plc (vsU (toR r))), mOf (vsU (toR r))) := qtr (yt (toR r)) [] List.nodup_nil
 unfold yt occH zaE at e
 rw [qfX, qfX, qfX] at e
 dsimp only [toR] at e
 obtain ⟨e1, e2⟩ := Prod.mk.inj e
 unfold Nb
 have hu : (yt (toR r)).map (plc (vsU (toR r))) = ((zA r.f1_Keep ++ zA r.f2_Remove ++ (zV r.f3_Guard ++ zV r.f4_Body)).map (plc (vsU ⟨r.f0_Name, r.f1_Keep, r.f2_Remove, r.f3_Guard, r.f4_Body, r.f5_Vars⟩))) := rfl
 have hs := qqw (toR r) (acc fS (zA r.f1_Keep) []).1 (acc fS (zA r.f2_Remove) (acc fS (zA r.f1_Keep) []).2).1 (acc fS (zV r.f3_Guard) (acc fS (zA r.f2_Remove) (acc fS (zA r.f1_Keep) []).2).2).1 (acc fS (zV r.f4_Body) (acc fS (zV r.f3_Guard) (acc fS (zA r.f2_Remove) (acc fS (zA r.f1_Keep) []).2).2).2).1 (qhU _ _) (qhU _ _) (qhU _ _)
 rw [hu, ← e1, hs]
 dsimp only [ofR, wv, toR]
 rw [e2, qq1]
/-! ### the variables of the reference -/
theorem qsc (n : Int) : ∀ l : List Int, qbk (some false) n l = some (decide (n ∈ l))
 | [] => by rw [qbk]; rfl
 | x :: l => by
  rw [qbk, qsc n l]
  by_cases h : x = n
  · subst h; simp
  · have h' : n ≠ x := fun e => h e.symm
    rw [beq_false_of_ne h]
    simp [h']
theorem qtx (l : List Int) (n : Int) : qdu l n = some (decide (n ∈ l)) := qsc n l
theorem qo9 (t : T) : qco t = some t.used := by
 rw [qco, T.used]
 by_cases h : t.k = 2
 · rw [if_pos h, show (t.k == (2 : Int)) = true by simpa using h]; rfl
 · rw [if_neg h, show (t.k == (2 : Int)) = false by simpa using h]; rfl
theorem qpH {rec : List Int → T → Option (List Int)} (k : List Int → Option (List Int)) : ∀ (ts : List T) (l : List Int) (m : Nat), (∀ t ∈ ts, ∀ l : List Int, l.length + wt t ≤ m → rec l t = some (z9 l (yh t))) → l.length + wtL ts ≤ m → qaD k rec ts l = k (z9 l (zm ts))
 | [], l, m, _, _ => by rw [qaD]; simp [zm, qih]
 | t :: ts, l, m, h, hm => by
  simp only [wtL] at hm
  rw [qaD, h t (List.mem_cons_self ..) l (by omega)]
  simp only [Option.bind_some]
  have hl := qiN (yh t) l
  have ho := qqz t
  rw [qpH k ts _ m (fun u hu => h u (List.mem_cons_of_mem _ hu)) (by omega), ← qnG]
  simp [zm]
theorem qnn : ∀ (fuel : Nat) (t : T) (l : List Int), wt t < fuel → l.length + wt t ≤ 1000000000 → qbx fuel l t = some (z9 l (yh t))
 | 0, _, _, h, _ => by omega
 | fuel + 1, t, l, h, hm => by
  rw [qbx]
  have hwt := qeT t
  have key : ∀ l' : List Int, l'.length ≤ l.length + 1 → qaD (fun l_9 => some l_9) (qbx fuel) t.used l' = some (z9 l' (zm t.used)) := fun l' hl' => by
   have hu := qjI t
   refine qpH _ t.used l' (l'.length + wtL t.used) (fun u hu' l2 hl2 => qnn fuel u l2 ?_ ?_) (Nat.le_refl _)
   · have := qsy hu'; omega
   · omega
  show qbP _ _ _ = _
  unfold qbP
  rw [qtx]
  simp only [Option.bind_some, qo9]
  by_cases hk : t.k = 1
  · rw [show (t.k == (1 : Int)) = true by simpa using hk]
    have hused : t.used = [] := by unfold T.used; rw [if_neg (by omega)]
    have hocc := qn2 hk
    simp only [cond_true]
    by_cases hx : t.i ∈ l
    · rw [decide_eq_true hx]
      simp only [Bool.not_true, cond_false]
      rw [key l (by omega), hocc, hused]
      simp [zm, z9, yz, hx]
    · rw [decide_eq_false hx]
      simp only [Bool.not_false, cond_true]
      rw [qki (by simp; omega) (by simp; omega)]
      simp only [Option.bind_some]
      rw [key _ (by simp), hocc, hused]
      simp [zm, z9, yz, hx]
  · rw [show (t.k == (1 : Int)) = false by simpa using hk]
    simp only [cond_false]
    rw [key l (by omega), qsH hk]
theorem qmM (fuel : Nat) (k : List Int → Option (List Int)) : ∀ (ts : List T) (l : List Int), wtL ts < fuel → l.length + wtL ts ≤ 1000000000 → qa2 k fuel ts l = k (z9 l (zm ts))
 | [], l, _, _ => by rw [qa2]; simp [zm, qih]
 | t :: ts, l, h, hm => by
  simp only [wtL] at h hm
  rw [qa2, qnn fuel t l (by omega) (by omega)]
  simp only [Option.bind_some]
  have hl := qiN (yh t) l
  have ho := qqz t
  rw [qmM fuel k ts _ (by omega) (by omega), ← qnG]
  simp [zm]
theorem qmE (fuel : Nat) (ts : List T) (h : wtL ts < fuel) (hm : wtL ts ≤ 1000000000) : qcb fuel ts = some (z9 [] (zm ts)) := by
 rw [qcb, qmM fuel _ ts [] h (by simpa using hm)]
/-! ### all terms -/
def tsA (l : List At) : List T := l.flatMap (·.ts)
def tsG (l : List Gl) : List T := l.flatMap (·.ts)
theorem qnk : ∀ l : List At, zm (tsA l) = zA l
 | [] => rfl
 | a :: l => by
  have := qnk l
  unfold tsA at this ⊢
  rw [List.flatMap_cons, qiL, this, zA]
theorem qnp : ∀ l : List Gl, zm (tsG l) = zV l
 | [] => rfl
 | a :: l => by
  have := qnp l
  unfold tsG at this ⊢
  rw [List.flatMap_cons, qiL, this, zV]
theorem qmr : ∀ l : List At, wtL (tsA l) ≤ wA l
 | [] => Nat.le_refl _
 | a :: l => by
  have := qmr l
  unfold tsA at this ⊢
  rw [List.flatMap_cons, qja, wA]
  omega
theorem qlV : ∀ l : List Gl, wtL (tsG l) ≤ wG l
 | [] => Nat.le_refl _
 | a :: l => by
  have := qlV l
  unfold tsG at this ⊢
  rw [List.flatMap_cons, qja, wG]
  omega
theorem qgI {α : Type} {b : Nat} (hb : b ≤ 100) {l m : List α} (h : l.length + m.length ≤ 1000000) : zY b l m = some (l ++ m) := by
 refine qki ?_ (by omega)
 have : (l.length + m.length) * b ≤ 1000000 * 100 := Nat.mul_le_mul h hb
 omega
theorem qoL (k : List T → Option (List T)) : ∀ (l : List At) (out : List T), out.length + (tsA l).length ≤ 1000000 → qba k l out = k (out ++ tsA l)
 | [], out, _ => by rw [qba]; simp [tsA]
 | a :: l, out, h => by
  have e : tsA (a :: l) = a.ts ++ tsA l := rfl
  rw [e, List.length_append] at h
  rw [qba, qgI (by omega) (by omega), Option.bind_some, qoL k l _ (by rw [List.length_append]; omega), e, List.append_assoc]
theorem qoN (k : List T → Option (List T)) : ∀ (l : List At) (out : List T), out.length + (tsA l).length ≤ 1000000 → qa4 k l out = k (out ++ tsA l)
 | [], out, _ => by rw [qa4]; simp [tsA]
 | a :: l, out, h => by
  have e : tsA (a :: l) = a.ts ++ tsA l := rfl
  rw [e, List.length_append] at h
  rw [qa4, qgI (by omega) (by omega), Option.bind_some, qoN k l _ (by rw [List.length_append]; omega), e, List.append_assoc]
theorem qoA (k : List T → Option (List T)) : ∀ (l : List Gl) (out : List T), out.length + (tsG l).length ≤ 1000000 → qa9 k l out = k (out ++ tsG l)
 | [], out, _ => by rw [qa9]; simp [tsG]
 | a :: l, out, h => by
  have e : tsG (a :: l) = a.ts ++ tsG l := rfl
  rw [e, List.length_append] at h
  rw [qa9, qgI (by omega) (by omega), Option.bind_some, qoA k l _ (by rw [List.length_append]; omega), e, List.append_assoc]
theorem qn8 (k : List T → Option (List T)) : ∀ (l : List Gl) (out : List T), out.length + (tsG l).length ≤ 1000000 → qa7 k l out = k (out ++ tsG l)
 | [], out, _ => by rw [qa7]; simp [tsG]
 | a :: l, out, h => by
  have e : tsG (a :: l) = a.ts ++ tsG l := rfl
  rw [e, List.length_append] at h
  rw [qa7, qgI (by omega) (by omega), Option.bind_some, qn8 k l _ (by rw [List.length_append]; omega), e, List.append_assoc]
def tsU (r : Ru) : List T := tsA r.K ++ tsA r.R ++ tsG r.G ++ tsG r.B
theorem qp3 (r : Ru) : zm (tsU r) = yt r := by
 unfold tsU yt occH zaE
 rw [qiL, qiL, qiL, qnk, qnk, qnp, qnp]
 simp
theorem qoj (r : qG) (hB : Bd 100000 (toR r)) : qcj r = some (tsU (toR r)) := by
 have h1 := hB.a
 have h2 := hB.b
 have h3 := hB.c
 have h4 := hB.d
 simp only [toR] at h1 h2 h3 h4
 have o1 := qmr r.f1_Keep
 have o2 := qmr r.f2_Remove
 have o3 := qlV r.f3_Guard
 have o4 := qlV r.f4_Body
 have l1 := qeH (tsA r.f1_Keep)
 have l2 := qeH (tsA r.f2_Remove)
 have l3 := qeH (tsG r.f3_Guard)
 have l4 := qeH (tsG r.f4_Body)
 rw [qcj, qoL _ _ _ (by simp; omega), qoN _ _ _ (by simp; omega), qoA _ _ _ (by simp; omega), qn8 _ _ _ (by simp; omega), List.nil_append]
 rfl
theorem qr4 {m : Nat} {r : Ru} (h : Bd m r) : wtL (tsU r) ≤ 4 * m := by
 have := h.a
 have := h.b
 have := h.c
 have := h.d
 have o1 := qmr r.K
 have o2 := qmr r.R
 have o3 := qlV r.G
 have o4 := qlV r.B
 unfold tsU
 rw [qja, qja, qja]
 omega
/-! ### places -/
def zaB (ρ : Int → Int) (l : List At) : List At := l.map fun a => ⟨a.n, zaR ρ a.ts⟩
def za2 (ρ : Int → Int) (l : List Gl) : List Gl := l.map fun a => ⟨a.op, a.n, zaR ρ a.ts⟩
theorem qfO (ρ : Int → Int) : ∀ l : List At, zaB ρ l = yD l ((zA l).map ρ)
 | [] => rfl
 | a :: l => by
  have h : ((zm a.ts).map ρ).length = (zm a.ts).length := List.length_map _
  show (⟨a.n, zaR ρ a.ts⟩ : At) :: zaB ρ l = _
  rw [qfO ρ l, yD, zA, List.map_append, ← h, List.take_left, List.drop_left, qjP]
theorem qjN (ρ : Int → Int) : ∀ l : List Gl, za2 ρ l = zad l ((zV l).map ρ)
 | [] => rfl
 | a :: l => by
  have h : ((zm a.ts).map ρ).length = (zm a.ts).length := List.length_map _
  show (⟨a.op, a.n, zaR ρ a.ts⟩ : Gl) :: za2 ρ l = _
  rw [qjN ρ l, zad, zV, List.map_append, ← h, List.take_left, List.drop_left, qjP]
theorem qoK (r : Ru) (ρ : Int → Int) : setU r ((yt r).map ρ) = ⟨r.n, zaB ρ r.K, zaB ρ r.R, za2 ρ r.G, za2 ρ r.B, r.v⟩ := by
 have e : (yt r).map ρ = ((zA r.K).map ρ ++ (zA r.R).map ρ) ++ ((zV r.G).map ρ ++ (zV r.B).map ρ) := by
  unfold yt occH zaE
  simp only [List.map_append]
 rw [e, qqw r _ _ _ _ (List.length_map _) (List.length_map _) (List.length_map _), qfO, qfO, qjN, qjN]
/-! ### equality -/
theorem yR.bind {α β : Type} {x : Option α} {R : α → Prop} {f : α → Option β} {Q : β → Prop} (h : yR x R) (hf : ∀ a, R a → yR (f a) Q) : yR (x.bind f) Q := by
 obtain ⟨a, rfl, ha⟩ := h
 exact hf a ha
theorem yR.mono {α : Type} {x : Option α} {R Q : α → Prop} (h : yR x R) (hf : ∀ a, R a → Q a) : yR x Q := by
 obtain ⟨a, e, ha⟩ := h
 exact ⟨a, e, hf a ha⟩
theorem yR.pure {α : Type} {a : α} {Q : α → Prop} (h : Q a) : yR (some a) Q := ⟨a, rfl, h⟩
theorem yR.cond {α : Type} {b : Bool} {x y : Option α} {Q : α → Prop} (h1 : b = true → yR x Q) (h2 : b = false → yR y Q) : yR (bif b then x else y) Q := by
 cases b with
 | true => exact h1 rfl
 | false => exact h2 rfl
def z6 (p : Prop) (b : Bool) : Prop := b = true ↔ p
theorem z6.f {p : Prop} (h : ¬ p) : z6 p false := ⟨fun e => (by cases e), fun e => absurd e h⟩
theorem z6.t {p : Prop} (h : p) : z6 p true := ⟨fun _ => h, fun _ => rfl⟩
theorem qk9 (l : List At) : (zC l).length = l.length := by
 induction l with
 | nil => rfl
 | cons a l ih => rw [zC, List.length_cons, ih, List.length_cons]
theorem qk8 (l : List Gl) : (zL l).length = l.length := by
 induction l with
 | nil => rfl
 | cons a l ih => rw [zL, List.length_cons, ih, List.length_cons]
theorem qmS {a b : At} (h : wtL a.ts ≤ 1000000000) : yR (qjd a b) (z6 (a.n = b.n ∧ zE a.ts = zE b.ts)) := by
 rw [qjd, if_pos h]
 refine .pure ?_
 unfold z6
 rw [beq_iff_eq, qqq]
theorem qnv {a b : Gl} (h : wtL a.ts ≤ 1000000000) : yR (qir a b) (z6 (a.op = b.op ∧ a.n = b.n ∧ zE a.ts = zE b.ts)) := by
 rw [qir, if_pos h]
 refine .pure ?_
 unfold z6
 rw [qqJ]
theorem qka (a b : At) (l m : List At) : zC (a :: l) = zC (b :: m) ↔ (a.n = b.n ∧ zE a.ts = zE b.ts) ∧ zC l = zC m := by
 rw [zC, zC]
 constructor
 · intro h
   obtain ⟨h1, h2⟩ := List.cons.inj h
   injection h1 with h1 h3
   exact ⟨⟨h1, h3⟩, h2⟩
 · rintro ⟨⟨h1, h2⟩, h3⟩
   rw [h1, h2, h3]
theorem qj9 (a b : Gl) (l m : List Gl) : zL (a :: l) = zL (b :: m) ↔ (a.op = b.op ∧ a.n = b.n ∧ zE a.ts = zE b.ts) ∧ zL l = zL m := by
 rw [zL, zL]
 constructor
 · intro h
   obtain ⟨h1, h2⟩ := List.cons.inj h
   injection h1 with h0 h1 h3
   exact ⟨⟨h0, h1, h3⟩, h2⟩
 · rintro ⟨⟨h0, h1, h2⟩, h3⟩
   rw [h0, h1, h2, h3]
theorem qqY {α : Type} {l : List α} {i : Nat} (h : i < l.length) : ∃ q, l[i]? = some q ∧ l.drop i = q :: l.drop (i + 1) := ⟨l[i], by simp [h], List.drop_eq_getElem_cons h⟩
theorem qlk (b : List At) : ∀ (xs : List At) (i : Nat), (∀ a ∈ xs, wtL a.ts ≤ 1000000000) → i + xs.length = b.length → yR (qbn (some true) b xs i) (z6 (zC xs = zC (b.drop i)))
 | [], i, _, h => by
  rw [qbn, List.drop_eq_nil_of_le (by simp at h; omega)]
  exact .pure (.t rfl)
 | a :: xs, i, hw, h => by
  rw [List.length_cons] at h
  obtain ⟨q, hq, hd⟩ := qqY (l := b) (i := i) (by omega)
  rw [qbn, qex, hq, Option.bind_some, hd]
  refine .bind (qmS (b := q) (hw a (List.mem_cons_self ..))) fun r hr => ?_
  refine .cond (fun e => .pure (.f fun k => ?_)) fun e => ?_
  · have h1 := hr.2 ((qka _ _ _ _).1 k).1
    rw [h1] at e
    cases e
  · have h1 := hr.1 (by simpa using e)
    refine (qlk b xs (i + 1) (fun x hx => hw x (List.mem_cons_of_mem _ hx)) (by omega)).mono fun r2 hr2 => ?_
    unfold z6 at hr2 ⊢
    rw [hr2, qka]
    exact ⟨fun k => ⟨h1, k⟩, fun k => k.2⟩
theorem qny (a b : List At) (hw : ∀ x ∈ a, wtL x.ts ≤ 1000000000) : yR (qcZ a b) (z6 (zC a = zC b)) := by
 rw [qcZ]
 refine .cond (fun e => .pure (.f fun k => ?_)) fun e => ?_
 · have h := congrArg List.length k
   rw [qk9, qk9] at h
   simp [h] at e
 · have h : a.length = b.length := by
    have : (a.length : Int) = (b.length : Int) := by simpa using e
    omega
   have := qlk b a 0 hw (by omega)
   rwa [List.drop_zero] at this
theorem qli (b : List Gl) : ∀ (xs : List Gl) (i : Nat), (∀ a ∈ xs, wtL a.ts ≤ 1000000000) → i + xs.length = b.length → yR (qbo (some true) b xs i) (z6 (zL xs = zL (b.drop i)))
 | [], i, _, h => by
  rw [qbo, List.drop_eq_nil_of_le (by simp at h; omega)]
  exact .pure (.t rfl)
 | a :: xs, i, hw, h => by
  rw [List.length_cons] at h
  obtain ⟨q, hq, hd⟩ := qqY (l := b) (i := i) (by omega)
  rw [qbo, qex, hq, Option.bind_some, hd]
  refine .bind (qnv (b := q) (hw a (List.mem_cons_self ..))) fun r hr => ?_
  refine .cond (fun e => .pure (.f fun k => ?_)) fun e => ?_
  · have h1 := hr.2 ((qj9 _ _ _ _).1 k).1
    rw [h1] at e
    cases e
  · have h1 := hr.1 (by simpa using e)
    refine (qli b xs (i + 1) (fun x hx => hw x (List.mem_cons_of_mem _ hx)) (by omega)).mono fun r2 hr2 => ?_
    unfold z6 at hr2 ⊢
    rw [hr2, qj9]
    exact ⟨fun k => ⟨h1, k⟩, fun k => k.2⟩
theorem qnx (a b : List Gl) (hw : ∀ x ∈ a, wtL x.ts ≤ 1000000000) : yR (qc0 a b) (z6 (zL a = zL b)) := by
 rw [qc0]
 refine .cond (fun e => .pure (.f fun k => ?_)) fun e => ?_
 · have h := congrArg List.length k
   rw [qk8, qk8] at h
   simp [h] at e
 · have h : a.length = b.length := by
    have : (a.length : Int) = (b.length : Int) := by simpa using e
    omega
   have := qli b a 0 hw (by omega)
   rwa [List.drop_zero] at this
theorem qmA {x : At} : ∀ {l : List At}, x ∈ l → wtL x.ts ≤ wA l
 | a :: l, h => by
  rw [wA]
  rcases List.mem_cons.1 h with rfl | h
  · omega
  · have := qmA h
    omega
theorem qmp {x : Gl} : ∀ {l : List Gl}, x ∈ l → wtL x.ts ≤ wG l
 | a :: l, h => by
  rw [wG]
  rcases List.mem_cons.1 h with rfl | h
  · omega
  · have := qmp h
    omega
theorem qla (a b : Ru) : Sm a b ↔ a.n = b.n ∧ zC a.K = zC b.K ∧ zC a.R = zC b.R ∧ zL a.G = zL b.G ∧ zL a.B = zL b.B ∧ a.v = b.v := by
 unfold Sm zX
 constructor
 · intro h
   injection h with h1 h2 h3 h4 h5 h6
   exact ⟨h1, h2, h3, h4, h5, h6⟩
 · rintro ⟨h1, h2, h3, h4, h5, h6⟩
   rw [h1, h2, h3, h4, h5, h6]
theorem qjp (a b : List At) (hw : ∀ x ∈ a, wtL x.ts ≤ 1000000000) : yR (qc5 a b) (z6 (zC a = zC b)) := by
 rw [qc5]
 exact .bind (qny a b hw) fun r h => .pure h
theorem qjl (a b : List Gl) (hw : ∀ x ∈ a, wtL x.ts ≤ 1000000000) : yR (qc6 a b) (z6 (zL a = zL b)) := by
 rw [qc6]
 exact .bind (qnx a b hw) fun r h => .pure h
theorem qrw (a b : qG) (hB : Bd 100000 (toR a)) : yR (qeb a b) (z6 (Sm (toR a) (toR b))) := by
 have hA : ∀ (l : List At), wA l ≤ 100000 → ∀ x ∈ l, wtL x.ts ≤ 1000000000 := fun l hl x hx => by
  have := qmA hx
  omega
 have hG : ∀ (l : List Gl), wG l ≤ 100000 → ∀ x ∈ l, wtL x.ts ≤ 1000000000 := fun l hl x hx => by
  have := qmp hx
  omega
 rw [qeb]
 refine .cond (fun e1 => ?_) fun e => .pure (.f fun k => ?_)
 rotate_left
 · rw [beq_eq_false_iff_ne] at e
   exact e (congrArg ByteArray.toList ((qla _ _).1 k).1)
 have e1 : a.f0_Name = b.f0_Name := qi8 (by simpa using e1)
 refine .cond (fun e2 => ?_) fun e => .pure (.f fun k => ?_)
 rotate_left
 · rw [beq_eq_false_iff_ne] at e
   exact e ((qla _ _).1 k).2.2.2.2.2
 have e2 : a.f5_Vars = b.f5_Vars := by simpa using e2
 refine .bind (qjp _ _ (hA _ hB.a)) fun r3 h3 => .cond (fun t3 => ?_) fun e => .pure (.f fun k => ?_)
 rotate_left
 · rw [h3.2 ((qla _ _).1 k).2.1] at e
   cases e
 refine .bind (qjp _ _ (hA _ hB.b)) fun r4 h4 => .cond (fun t4 => ?_) fun e => .pure (.f fun k => ?_)
 rotate_left
 · rw [h4.2 ((qla _ _).1 k).2.2.1] at e
   cases e
 refine .bind (qjl _ _ (hG _ hB.c)) fun r5 h5 => .cond (fun t5 => ?_) fun e => .pure (.f fun k => ?_)
 rotate_left
 · rw [h5.2 ((qla _ _).1 k).2.2.2.1] at e
   cases e
 refine .bind (qjl _ _ (hG _ hB.d)) fun r6 h6 => .pure ?_
 unfold z6
 rw [qla]
 unfold z6 at h6
 rw [h6]
 exact ⟨fun k => ⟨e1, h3.1 t3, h4.1 t4, h5.1 t5, k, e2⟩, fun k => k.2.2.2.2.1⟩
def tst (p : Int × Int) : Gl := ⟨5, ⟨#[]⟩, [.mk 1 p.1 ⟨#[]⟩ [], .mk 1 p.2 ⟨#[]⟩ []]⟩
abbrev SL := List (Int × Bool) × List Gl × Int
def fL (v : Int) (s : SL) : Int × SL := if (zH s.1 v).getD false = true then (s.2.2, (s.1, s.2.1 ++ [tst (s.2.2, v)], s.2.2 + 1)) else (v, (zaz s.1 v true, s.2.1, s.2.2))
def iL (n : Nat) (s : SL) : Prop := s.1.length + n ≤ 1000000 ∧ s.2.1.length + n ≤ 1000000 ∧ -1000000000 ≤ s.2.2 ∧ s.2.2 + n ≤ 1000000000
theorem qjZ : Kept fL iL := by
 refine ⟨fun n v s h => ?_, fun n s h => by unfold iL at h ⊢; omega⟩
 unfold iL at h ⊢
 unfold fL
 obtain ⟨h1, h2, h3, h4⟩ := h
 split
 · dsimp only
   rw [List.length_append, List.length_singleton]
   omega
 · have := qlL s.1 v true
   dsimp only
   omega
theorem qtg {v : Int} {s : SL} (h : iL 1 s) : qc7 v s.1 s.2.1 s.2.2 = some (fL v s) := by
 obtain ⟨h1, h2, h3, h4⟩ := h
 rw [qc7]
 unfold fL
 cases hg : (zH s.1 v).getD false with
 | true =>
  rw [if_pos rfl, Bool.not_true, cond_false, qfo, qfo, Option.bind_some, Option.bind_some, zbh (by omega) (by omega), Option.bind_some, qh2 (n := s.2.2 + 1) (by omega), show s.2.2 + 1 - 1 = s.2.2 by omega, qh2 (by omega)]
  rfl
 | false =>
  rw [if_neg (by simp), Bool.not_false, cond_true]
  unfold zam
  rw [if_pos (by omega), Option.bind_some]
theorem qoI {α : Type} {done ts : List α} {q : α} : zw (done ++ q :: ts) (done.length : Int) = some q := by
 rw [qex]
 simp
theorem qmO {α : Type} {done ts : List α} {q x : α} : (done ++ q :: ts).set (done.length : Int).toNat x = (done ++ [x]) ++ ts := by
 rw [Int.toNat_natCast, List.set_append_right _ _ (Nat.le_refl _)]
 simp
theorem qqr {rec : List T → List (Int × Bool) → List Gl → Int → Option (List T × List (Int × Bool) × List Gl × Int)} (k : List T → List (Int × Bool) → List Gl → Int → Option (List T × List (Int × Bool) × List Gl × Int)) :
 ∀ (ts done : List T) (s : SL), (∀ q ∈ ts, ∀ s, iL (zm q.ar).length s → rec q.ar s.1 s.2.1 s.2.2 = some (yG q.ar (acc fL (zm q.ar) s).1, (acc fL (zm q.ar) s).2)) → iL (zm ts).length s →
 qaO k rec ts.length (done.length : Int) s.1 s.2.1 s.2.2 (done ++ ts) = k (done ++ yG ts (acc fL (zm ts) s).1) (acc fL (zm ts) s).2.1 (acc fL (zm ts) s).2.2.1 (acc fL (zm ts) s).2.2.2
 | [], done, s, _, _ => by rw [List.length_nil, qaO, yG]; rfl
 | q :: ts, done, s, hr, hI => by
  rw [zm, List.length_append] at hI
  have step : ∀ (x : T) (s' : SL), x = zaj q (acc fL (yh q) s).1 → s' = (acc fL (yh q) s).2 → qaO k rec ts.length ((done.length : Int) + 1) s'.1 s'.2.1 s'.2.2 ((done ++ q :: ts).set (done.length : Int).toNat x) = k (done ++ yG (q :: ts) (acc fL (zm (q :: ts)) s).1) (acc fL (zm (q :: ts)) s).2.1 (acc fL (zm (q :: ts)) s).2.2.1 (acc fL (zm (q :: ts)) s).2.2.2 := fun x s' hx hs => by
   rw [qmO, show ((done.length : Int) + 1) = ((done ++ [x]).length : Int) by simp, qqr k ts (done ++ [x]) s' (fun t ht => hr t (List.mem_cons_of_mem _ ht)) (by rw [hs]; exact qjZ.acc _ _ _ hI), qoT, accL2, hx, hs, List.append_assoc, List.singleton_append]
  rw [List.length_cons, qaO, qoI, Option.bind_some]
  refine bif3 (fun h => ?_) (fun h => ?_) (fun h1 h2 => ?_)
  · rw [qtg (qjZ.less hI (by rw [qjq h]; simp)), Option.bind_some]
    refine step _ (fL q.i s).2 ?_ ?_
    · rw [qof h, qjq h]; rfl
    · rw [qjq h]; rfl
  · rw [hr q (List.mem_cons_self ..) s (qjZ.less hI (by rw [qiX h]; omega)), Option.bind_some]
    refine step _ (acc fL (zm q.ar) s).2 ?_ ?_
    · rw [qoG h, qiX h]
    · rw [qiX h]
  · have e : (done ++ q :: ts) = (done ++ q :: ts).set (done.length : Int).toNat q := by rw [qmO]; simp
    rw [e]
    refine step _ s ?_ ?_
    · rw [qnM h1 h2]; cases q; rfl
    · rw [qoq h1 h2]; rfl
theorem qqD : ∀ (fuel : Nat) (ts : List T) (s : SL), wtL ts < fuel → wtL ts ≤ 1000000 → iL (zm ts).length s → qcq fuel ts s.1 s.2.1 s.2.2 = some (yG ts (acc fL (zm ts) s).1, (acc fL (zm ts) s).2)
 | 0, _, _, h, _, _ => absurd h (Nat.not_lt_zero _)
 | fuel + 1, ts, s, h, hw, hI => by
  have := qeH ts
  rw [qcq]
  dsimp only
  rw [qgI (by omega) (by simp; omega), Option.bind_some, List.nil_append, show ((ts.length : Int) - 0).toNat = ts.length by omega]
  have := qqr (rec := qcq fuel) (fun a_9 mm_10 l_12 l_13 => some (a_9, mm_10, l_12, l_13)) ts [] s (fun q hq s hs => by
   have h1 := qen hq
   have h2 := qeT q
   exact qqD fuel q.ar s (by omega) (by omega) hs) hI
  exact this
theorem qmy (fuel : Nat) (k : List At → List (Int × Bool) → List Gl → Int → Option (List At × List (Int × Bool) × List Gl × Int)) :
 ∀ (ts done : List At) (s : SL), wA ts < fuel → wA ts ≤ 1000000 → iL (zA ts).length s →
 qbT k fuel ts.length (done.length : Int) s.1 s.2.1 s.2.2 (done ++ ts) = k (done ++ yD ts (acc fL (zA ts) s).1) (acc fL (zA ts) s).2.1 (acc fL (zA ts) s).2.2.1 (acc fL (zA ts) s).2.2.2
 | [], done, s, _, _, _ => by rw [List.length_nil, qbT, yD]; rfl
 | q :: ts, done, s, hf, hw, hI => by
  rw [zA, List.length_append] at hI
  rw [wA] at hf hw
  rw [List.length_cons, qbT, qoI, Option.bind_some, qqD fuel q.ts s (by omega) (by omega) (qjZ.less hI (by omega)), Option.bind_some, qmO]
  have := qmy fuel k ts (done ++ [⟨q.n, yG q.ts (acc fL (zm q.ts) s).1⟩]) (acc fL (zm q.ts) s).2 (by omega) (by omega) (qjZ.acc _ _ _ hI)
  rw [List.length_append, List.length_singleton, Int.natCast_add] at this
  rw [qoo, accA2]
  rw [List.append_assoc, List.singleton_append] at this
  rw [List.append_assoc, List.singleton_append]
  rw [List.append_assoc, List.singleton_append] at this
  exact this
theorem ql6 (fuel : Nat) (ts : List At) (s : SL) (hf : wA ts < fuel) (hw : wA ts ≤ 1000000) (hI : iL (zA ts).length s) : qde fuel ts s.1 s.2.1 s.2.2 = some (yD ts (acc fL (zA ts) s).1, (acc fL (zA ts) s).2) := by
 have := qj4 ts
 rw [qde, qgI (by omega) (by simp; omega), Option.bind_some, List.nil_append, show ((ts.length : Int) - 0).toNat = ts.length by omega]
 exact qmy fuel (fun a_9 mm_10 l_12 l_13 => some (a_9, mm_10, l_12, l_13)) ts [] s hf hw hI
def sOf (l : List Int) : List (Int × Bool) := l.map fun v => (v, true)
theorem qly (v : Int) : ∀ l : List Int, zH (sOf l) v = if v ∈ l then some true else none
 | [] => rfl
 | x :: l => by
  have := qly v l
  unfold sOf at this ⊢
  rw [List.map_cons, zH]
  by_cases h : x = v
  · subst h
    simp
  · rw [if_neg (by exact h), this]
    have hx : (v ∈ x :: l) ↔ v ∈ l := by
     rw [List.mem_cons]
     exact ⟨fun e => e.resolve_left fun e => h e.symm, .inr⟩
    by_cases hv : v ∈ l
    · rw [if_pos hv, if_pos (hx.2 hv)]
    · rw [if_neg hv, if_neg fun e => hv (hx.1 e)]
theorem qsB : ∀ (l s : List Int) (g : List Gl) (n : Int), acc fL l (sOf s, g, n) = ((z5 s n l).1, (sOf (z9 s l), g ++ (z5 s n l).2.map tst, n + (z5 s n l).2.length))
 | [], s, g, n => by
  rw [acc, z5, qih]
  simp
 | v :: l, s, g, n => by
  rw [acc]
  unfold fL
  dsimp only
  rw [qly]
  by_cases h : v ∈ s
  · rw [if_pos h, if_pos (by rfl)]
    dsimp only
    have hu : z9 s (v :: l) = z9 s l := by
     show z9 (yz s v) l = _
     rw [yz, if_pos h]
    rw [show acc (fun v (s : SL) => if (zH s.1 v).getD false = true then (s.2.2, (s.1, s.2.1 ++ [tst (s.2.2, v)], s.2.2 + 1)) else (v, (zaz s.1 v true, s.2.1, s.2.2))) l = acc fL l from rfl, qsB l s, qjo h, hu]
    simp
    omega
  · rw [if_neg h, if_neg (by simp)]
    dsimp only
    have hm : zaz (sOf s) v true = sOf (s ++ [v]) := by
     rw [qlO _ _ _ (by rw [qly, if_neg h])]
     unfold sOf
     rw [List.map_append]
     rfl
    have hu : z9 s (v :: l) = z9 (s ++ [v]) l := by
     show z9 (yz s v) l = _
     rw [yz, if_neg h]
    rw [show acc (fun v (s : SL) => if (zH s.1 v).getD false = true then (s.2.2, (s.1, s.2.1 ++ [tst (s.2.2, v)], s.2.2 + 1)) else (v, (zaz s.1 v true, s.2.1, s.2.2))) l = acc fL l from rfl, hm, qsB l (s ++ [v]), qhZ h, hu]
def zS (r : Ru) : Ru := { setH r (z5 [] r.v (occH r)).1 with G := (z5 [] r.v (occH r)).2.map tst ++ r.G }
theorem qsI (r : Ru) (a b : List Int) (ha : a.length = (zA r.K).length) : setH r (a ++ b) = { r with K := yD r.K a, R := yD r.R b } := by
 unfold setH
 rw [← ha, List.take_left, List.drop_left]
theorem qpQ (a b : List Gl) (ha : a.length ≤ 1000000) (hb : b.length ≤ 1000000) (h : a.length + b.length ≤ 1000000) : qbL [a, b] = some (a ++ b) := by
 rw [qbL, qap, qh2 (by omega), decide_eq_false (by omega), cond_false, qap, qh2 (by omega), decide_eq_false (by omega), cond_false, qap]
 unfold ql8
 rw [if_pos (by omega), Option.bind_some, qaw, qgI (by omega) (by simp; omega), Option.bind_some, qaw, qgI (by omega) (by simp; omega), Option.bind_some, qaw]
 simp
/-! ### weights stay -/
mutual
theorem qtc : ∀ (t : T) (l : List Int), wt (zaj t l) = wt t
 | .mk k i s ar, l => by
  rcases y4 k with rfl | rfl | ⟨h1, h2⟩
  · rw [qiD, wt, wt]
  · rw [qiw, wt, wt, qlG ar l]
  · rw [qhT h1 h2]
theorem qlG : ∀ (ts : List T) (l : List Int), wtL (yG ts l) = wtL ts
 | [], _ => rfl
 | t :: ts, l => by rw [yG, wtL, wtL, qtc t, qlG ts]
end
theorem qkr : ∀ (xs : List At) (l : List Int), wA (yD xs l) = wA xs
 | [], _ => rfl
 | a :: xs, l => by rw [yD, wA, wA, qlG, qkr xs]
theorem qn7 : ∀ (xs : List Gl) (l : List Int), wG (zad xs l) = wG xs
 | [], _ => rfl
 | a :: xs, l => by rw [zad, wG, wG, qlG, qn7 xs]
theorem Bd.mono {m n : Nat} {r : Ru} (h : Bd m r) (hm : m ≤ n) : Bd n r := ⟨Nat.le_trans h.a hm, Nat.le_trans h.b hm, Nat.le_trans h.c hm, Nat.le_trans h.d hm⟩
theorem Bd.setU {m : Nat} {r : Ru} (h : Bd m r) (l : List Int) : Bd m (setU r l) := by
 unfold Go.Proofs.YtabbfihjeppbhaaGreat.setU zbl setH
 exact ⟨by rw [qkr]; exact h.a, by rw [qkr]; exact h.b, by rw [qn7]; exact h.c, by rw [qn7]; exact h.d⟩
theorem Bd.nb {m : Nat} {r : Ru} (h : Bd m r) : Bd m (Nb r) := by
 have := h.setU ((yt r).map (plc (vsU r)))
 exact ⟨this.a, this.b, this.c, this.d⟩
theorem qqn : ∀ l : List (Int × Int), wG (l.map tst) = 3 * l.length
 | [] => rfl
 | p :: l => by
  rw [List.map_cons, wG, qqn l, List.length_cons]
  simp [tst, wtL, wt]
  omega
theorem qpZ {m : Nat} {r : Ru} (h : Bd m r) : (occH r).length ≤ 2 * m := by
 have h1 := qgw r.K
 have h2 := qgw r.R
 have := h.a
 have := h.b
 unfold occH
 rw [List.length_append]
 omega
theorem qr5 (l s : List Int) (n : Int) : (z5 s n l).2.length ≤ l.length := by
 have h := qlD l s n
 have : s.length ≤ (z9 s l).length := by
  have key : ∀ (xs l : List Int), l.length ≤ (z9 l xs).length := by
   intro xs
   induction xs with
   | nil => intro l; exact Nat.le_refl _
   | cons x xs ih =>
    intro l
    refine Nat.le_trans ?_ (ih (yz l x))
    unfold yz
    split
    · exact Nat.le_refl _
    · simp
  exact key l s
 omega
theorem Bd.pre {m : Nat} {r : Ru} (h : Bd m r) : Bd (7 * m) (zS r) := by
 have h1 := h.a
 have h2 := h.b
 have h3 := h.c
 have h4 := h.d
 have ho := qpZ h
 have hl := qr5 (occH r) [] r.v
 unfold zS setH
 refine ⟨?_, ?_, ?_, ?_⟩ <;> dsimp only
 · rw [qkr]; omega
 · rw [qkr]; omega
 · rw [qpK, qqn]; omega
 · omega
/-! ### numbered -/
theorem Sm.symm {a b : Ru} (h : Sm a b) : Sm b a := Eq.symm h
theorem Sm.rfl' (a : Ru) : Sm a a := rfl
theorem Sm.trans {a b c : Ru} (h : Sm a b) (k : Sm b c) : Sm a c := Eq.trans h k
theorem qml (fuel : Nat) (r : qG) (hB : Bd 100000 (toR r)) (hf : 100000 < fuel) : yR (qda fuel r) (z6 (zaL (toR r))) := by
 rw [qda, qmD fuel r hB hf, Option.bind_some]
 refine .bind (qrw r _ hB) fun b hb => .pure ?_
 unfold z6 at hb ⊢
 rw [hb]
 exact ⟨fun h => h.symm, fun h => h.symm⟩
theorem zaL.vle {m : Nat} {r : Ru} (h : zaL r) (hB : Bd m r) : 0 ≤ r.v ∧ r.v ≤ 4 * m := by
 have h1 := h.v
 have h2 := qiN (yt r) []
 have h3 := hB.occ
 have e : vsU r = z9 [] (yt r) := rfl
 rw [← e] at h2
 simp at h2
 omega
theorem zaL.lt {r : Ru} (h : zaL r) {x : Int} (hx : x ∈ yt r) : 0 ≤ x ∧ x < r.v := by
 have h1 := qno.2 hx
 rw [h.vs] at h1
 have h2 := qs2.1 h1
 rw [h.v]
 exact h2
theorem qjM {r : Ru} {x : Int} (h : x ∈ occH r) : x ∈ yt r := List.mem_append.2 (.inl h)
/-! ### the program's linear form -/
open Classical in
noncomputable def za4 (r : Ru) : Ru := if zaL r ∧ (zS r).G.length ≤ 12 then Nb (zS r) else r
theorem qpF (fuel : Nat) (r : qG) (hB : Bd 1000 (toR r)) (hf : 100000 < fuel) : qdA fuel r = some (ofR (za4 (toR r))) := by
 obtain ⟨b, e, hb⟩ := qml fuel r (hB.mono (by omega)) hf
 rw [qdA, e, Option.bind_some]
 unfold za4
 cases b with
 | false =>
  rw [Bool.not_false, cond_true, if_neg (fun h => by have := hb.2 h.1; cases this)]
  rfl
 | true =>
  have hN := hb.1 rfl
  have hv := hN.vle hB
  have h1 := hB.a
  have h2 := hB.b
  have h3 := hB.c
  simp only [toR] at h1 h2 h3 hv
  have o1 := qgw r.f1_Keep
  have o2 := qgw r.f2_Remove
  have hI : iL ((zA r.f1_Keep).length + (zA r.f2_Remove).length) ((([] : List (Int × Bool)), ([] : List Gl), r.f5_Vars) : SL) := by
   unfold iL
   simp
   omega
  have hI1 := qjZ.acc _ _ _ hI
  have q1 := ql6 fuel r.f1_Keep ([], [], r.f5_Vars) (by omega) (by omega) (qjZ.less hI (by omega))
  have q2 := ql6 fuel r.f2_Remove (acc fL (zA r.f1_Keep) ([], [], r.f5_Vars)).2 (by omega) (by omega) hI1
  dsimp only at q1
  rw [Bool.not_true, cond_false, q1, Option.bind_some]
  dsimp only
  rw [q2, Option.bind_some]
  have ea : acc fL (occH (toR r)) ([], [], r.f5_Vars) = ((z5 [] r.f5_Vars (occH (toR r))).1, (sOf (z9 [] (occH (toR r))), (z5 [] r.f5_Vars (occH (toR r))).2.map tst, r.f5_Vars + (z5 [] r.f5_Vars (occH (toR r))).2.length)) := qsB (occH (toR r)) [] [] r.f5_Vars
  unfold occH at ea
  rw [qfX] at ea
  dsimp only [toR] at ea
  obtain ⟨e1, e2⟩ := Prod.mk.inj ea
  have ep : zS (toR r) = ⟨r.f0_Name, yD r.f1_Keep (acc fL (zA r.f1_Keep) ([], [], r.f5_Vars)).1, yD r.f2_Remove (acc fL (zA r.f2_Remove) (acc fL (zA r.f1_Keep) ([], [], r.f5_Vars)).2).1, (acc fL (zA r.f2_Remove) (acc fL (zA r.f1_Keep) ([], [], r.f5_Vars)).2).2.2.1 ++ r.f3_Guard, r.f4_Body, r.f5_Vars⟩ := by
   unfold zS occH
   dsimp only [toR]
   rw [e2, ← e1, qsI _ _ _ (qhU _ _)]
  have hl := qr5 (occH (toR r)) [] r.f5_Vars
  have hl2 := qpZ hB
  have hg : (acc fL (zA r.f2_Remove) (acc fL (zA r.f1_Keep) ([], [], r.f5_Vars)).2).2.2.1.length ≤ 2000 := by
   rw [e2]
   dsimp only
   rw [List.length_map]
   unfold occH at hl
   dsimp only [toR] at hl
   unfold occH at hl2
   dsimp only [toR] at hl2
   omega
  have h3l := qnw r.f3_Guard
  rw [qpQ (acc fL (zA r.f2_Remove) (acc fL (zA r.f1_Keep) ([], [], r.f5_Vars)).2).2.2.1 r.f3_Guard (by omega) (by omega) (by omega), Option.bind_some]
  have hG : (zS (toR r)).G = (acc fL (zA r.f2_Remove) (acc fL (zA r.f1_Keep) ([], [], r.f5_Vars)).2).2.2.1 ++ r.f3_Guard := by rw [ep]
  by_cases h12 : (zS (toR r)).G.length ≤ 12
  · have hd : ¬ (((acc fL (zA r.f2_Remove) (acc fL (zA r.f1_Keep) ([], [], r.f5_Vars)).2).2.2.1 ++ r.f3_Guard).length : Int) > 12 := by
     rw [← hG]
     omega
    rw [decide_eq_false hd, cond_false, if_pos ⟨hN, h12⟩]
    have hBp := hB.pre
    have := qmD fuel (ofR (zS (toR r))) (hBp.mono (by omega)) hf
    rw [qlB] at this
    rw [ep] at this ⊢
    unfold ofR at this
    dsimp only at this
    rw [this]
    rfl
  · have hd : (((acc fL (zA r.f2_Remove) (acc fL (zA r.f1_Keep) ([], [], r.f5_Vars)).2).2.2.1 ++ r.f3_Guard).length : Int) > 12 := by
     rw [← hG]
     omega
    rw [decide_eq_true hd, cond_true, if_neg (fun h => h12 h.2)]
    rfl
/-! ### linearity -/
abbrev Nd := ql
theorem uT {a b : Int} (h : a = b) : (a == b) = true := by simpa using h
theorem uF {a b : Int} (h : a ≠ b) : (a == b) = false := by simpa using h
theorem qsw {α : Type} {done ts : List α} {q : α} : zw (done ++ q :: ts) (done.length : Int) = some q := by
 rw [qex]
 simp
theorem qtG {α : Type} {done ts : List α} {q x : α} : (done ++ q :: ts).set (done.length : Int).toNat x = (done ++ [x]) ++ ts := by
 rw [Int.toNat_natCast, List.set_append_right _ _ (Nat.le_refl _)]
 simp
theorem zab {α : Type} {l : List α} {i : Int} (h0 : 0 ≤ i) (h : i < l.length) : ∃ q, zw l i = some q ∧ q ∈ l := by
 have hn : i.toNat < l.length := by omega
 refine ⟨l[i.toNat], ?_, List.getElem_mem hn⟩
 unfold zw
 rw [if_pos h0]
 simp [hn]
theorem qnL {α : Type} {b : Nat} (hb : b ≤ 100) {l : List α} {x : α} {n : Nat} (h : l.length + (n + 1) ≤ 10000000) : zY b l [x] = some (l ++ [x]) := by
 refine qki ?_ (by simp; omega)
 have : (l.length + [x].length) * b ≤ 10000000 * 100 := Nat.mul_le_mul (by simp; omega) hb
 omega
theorem qpt {α : Type} {b : Nat} (hb : b ≤ 100) {l m : List α} (h : l.length + m.length ≤ 10000000) : zY b l m = some (l ++ m) := by
 refine qki ?_ (by omega)
 have : (l.length + m.length) * b ≤ 10000000 * 100 := Nat.mul_le_mul h hb
 omega
theorem qkA {α : Type} {l : List α} {i : Int} {q : α} (h : zw l i = some q) : 0 ≤ i ∧ i < l.length ∧ q ∈ l := by
 obtain ⟨h0, h1⟩ := qax h
 have := (List.getElem?_eq_some_iff.1 h1).1
 exact ⟨h0, by omega, List.mem_of_getElem? h1⟩
theorem qrr {α β : Type} {l : List α} {i : Int} {q : α} (f : α → β) (h : zw l i = some q) : zw (l.map f) i = some (f q) := by
 obtain ⟨h0, h1⟩ := qax h
 unfold zw
 rw [if_pos h0, List.getElem?_map, h1]
 rfl
theorem qsa {α : Type} {l m : List α} {i : Int} {q : α} (h : zw l i = some q) : zw (l ++ m) i = some q := by
 obtain ⟨h0, h1⟩ := qax h
 have := (List.getElem?_eq_some_iff.1 h1).1
 unfold zw
 rw [if_pos h0, List.getElem?_append_left this, h1]
structure StG (g : List Nd) (c : List Int) : Prop where
 len : c.length = g.length
 cls : ∀ v ∈ c, 0 ≤ v ∧ v < g.length
 idem : ∀ v ∈ c, zw c v = some v
 kid : ∀ q ∈ g, ∀ k ∈ q.f3_Kids, 0 ≤ k ∧ k < g.length
/-! ### shape -/
theorem qnB (c : List Int) (cl : Int) : ∀ (l : List Nd) (i : Nat), i + l.length = c.length → ∃ r : Int, qae (some (-1)) c cl l i = some r ∧ (r = -1 ∨ (∃ q, (i : Int) ≤ r ∧ l[r.toNat - i]? = some q ∧ zw c r = some cl ∧ q.f0_Kind ≠ 1))
 | [], i, _ => ⟨-1, by rw [qae], .inl rfl⟩
 | q :: l, i, h => by
  rw [List.length_cons] at h
  obtain ⟨v, hv, _⟩ := zab (l := c) (i := (i : Int)) (by omega) (by omega)
  obtain ⟨r, e, hr⟩ := qnB c cl l (i + 1) (by omega)
  rw [qae, hv, Option.bind_some]
  have next : ∃ r : Int, qae (some (-1)) c cl l (i + 1) = some r ∧ (r = -1 ∨ (∃ q', (i : Int) ≤ r ∧ (q :: l)[r.toNat - i]? = some q' ∧ zw c r = some cl ∧ q'.f0_Kind ≠ 1)) := by
   refine ⟨r, e, hr.imp id ?_⟩
   rintro ⟨q', h1, h2, h3, h4⟩
   refine ⟨q', by omega, ?_, h3, h4⟩
   rw [show r.toNat - i = (r.toNat - (i + 1)) + 1 by omega, List.getElem?_cons_succ]
   exact h2
  by_cases h1 : v = cl
  · rw [uT h1, cond_true]
    by_cases h2 : q.f0_Kind = 1
    · rw [show (q.f0_Kind != 1) = false by simp [h2], cond_false]
      exact next
    · rw [show (q.f0_Kind != 1) = true by simp [h2], cond_true]
      exact ⟨i, rfl, .inr ⟨q, Int.le_refl _, by simp, by rw [hv, h1], h2⟩⟩
  · rw [uF h1, cond_false]
    exact next
theorem qiR {g : List Nd} {c : List Int} (h : StG g c) (cl : Int) : ∃ r : Int, qah cl g c = some r ∧ (r = -1 ∨ ∃ q, zw g r = some q ∧ zw c r = some cl ∧ q.f0_Kind ≠ 1) := by
 obtain ⟨r, e, hr⟩ := qnB c cl g 0 (by have := h.len; omega)
 refine ⟨r, e, hr.imp id ?_⟩
 rintro ⟨q, h1, h2, h3, h4⟩
 refine ⟨q, ?_, h3, h4⟩
 unfold zw
 rw [if_pos (by omega)]
 simpa using h2
/-! ### joining -/
def mrg (y x v : Int) : Int := if v = y then x else v
theorem qn4 (k : List Nd → List Int → Option (Bool × List Nd × List Int)) (x y : Int) (g : List Nd) : ∀ (r done : List Int) (m : Nat), r.length < m → done.length + r.length ≤ 10000000 → qam k x y m (done.length : Int) g (done ++ r) = k g (done ++ r.map (mrg y x))
 | [], done, m, hm, _ => by
  obtain ⟨m, rfl⟩ : ∃ n, m = n + 1 := ⟨m - 1, by omega⟩
  rw [qam, decide_eq_false (by simp), cond_false]
  rfl
 | v :: r, done, m, hm, hl => by
  rw [List.length_cons] at hm hl
  obtain ⟨m, rfl⟩ : ∃ n, m = n + 1 := ⟨m - 1, by omega⟩
  have e : wr ((done.length : Int) + 1) = ((done ++ [mrg y x v]).length : Int) := by
   rw [qh2 (by omega), List.length_append, List.length_singleton]
   omega
  have ih := qn4 k x y g r (done ++ [mrg y x v]) m (by omega) (by rw [List.length_append, List.length_singleton]; omega)
  rw [List.append_assoc, List.append_assoc, List.singleton_append, List.singleton_append] at ih
  rw [qam, decide_eq_true (by simp; omega), cond_true, qsw, Option.bind_some, e]
  by_cases h : v = y
  · have hm : mrg y x v = x := if_pos h
    rw [uT h, cond_true, qtG, List.append_assoc, List.singleton_append]
    rw [hm] at ih ⊢
    rw [ih, List.map_cons, hm]
  · have hm : mrg y x v = v := if_neg h
    rw [uF h, cond_false]
    rw [hm] at ih ⊢
    rw [ih, List.map_cons, hm]
def cnt (c : List Int) : Nat := (z9 [] c).length
theorem qku {c : List Int} {x : Int} : x ∈ z9 [] c ↔ x ∈ c := by simp [qiG]
theorem qqK : ∀ {a b : List Int}, a.Nodup → (∀ x ∈ a, x ∈ b) → a.length ≤ b.length
 | [], _, _, _ => Nat.zero_le _
 | x :: a, b, hn, h => by
  obtain ⟨h1, h2⟩ := List.nodup_cons.1 hn
  have hx := h x (List.mem_cons_self ..)
  have := qqK (b := b.erase x) h2 fun y hy => (List.mem_erase_of_ne (fun e : y = x => h1 (by rw [← e]; exact hy))).2 (h y (List.mem_cons_of_mem _ hy))
  have hl := List.length_erase_of_mem hx
  have hp := List.length_pos_of_mem hx
  rw [List.length_cons]
  omega
theorem StG.merge {g : List Nd} {c : List Int} (h : StG g c) {x y : Int} (hx : x ∈ c) (hxy : x ≠ y) : StG g (c.map (mrg y x)) := by
 refine ⟨by rw [List.length_map]; exact h.len, fun v hv => ?_, fun v hv => ?_, h.kid⟩
 · obtain ⟨u, hu, rfl⟩ := List.mem_map.1 hv
   unfold mrg
   split
   · exact h.cls x hx
   · exact h.cls u hu
 · obtain ⟨u, hu, rfl⟩ := List.mem_map.1 hv
   by_cases e : u = y
   · have hm : mrg y x u = x := if_pos e
     rw [hm, qrr (mrg y x) (h.idem x hx)]
     congr 1
     exact if_neg hxy
   · have hm : mrg y x u = u := if_neg e
     rw [hm, qrr (mrg y x) (h.idem u hu), hm]
theorem qtd (c : List Int) (f : Int → Int) (x y : Int) (hy : y ∈ c) (hx : x ∈ c) (hxy : x ≠ y) : cnt (c.map (mrg y x)) < cnt c := by
 have hn : (z9 [] (c.map (mrg y x))).Nodup := qgV _ _ List.nodup_nil
 have hsub : ∀ v ∈ (z9 [] (c.map (mrg y x))), v ∈ (z9 [] c).erase y := fun v hv => by
  obtain ⟨u, hu, rfl⟩ := List.mem_map.1 (qku.1 hv)
  have hne : mrg y x u ≠ y := by
   unfold mrg
   split
   · exact hxy
   · assumption
  refine (List.mem_erase_of_ne hne).2 (qku.2 ?_)
  unfold mrg
  split
  · exact hx
  · exact hu
 have h1 := qqK hn hsub
 have hy' := qku.2 hy
 have h2 := List.length_erase_of_mem hy'
 have h3 := List.length_pos_of_mem hy'
 unfold cnt
 omega
def Resp (g : List Nd) (E : Int → Int → Prop) : Prop := (∀ i, E i i) ∧ (∀ i j, E i j → E j i) ∧ (∀ i j k, E i j → E j k → E i k) ∧ ∀ i j p q, E i j → zw g i = some p → zw g j = some q → p.f0_Kind ≠ 1 → q.f0_Kind ≠ 1 → p.f0_Kind = q.f0_Kind ∧ p.f1_Int = q.f1_Int ∧ p.f2_Name = q.f2_Name ∧ p.f3_Kids.length = q.f3_Kids.length ∧ ∀ n a b, zw p.f3_Kids n = some a → zw q.f3_Kids n = some b → E a b
def zbq (c : List Int) (E : Int → Int → Prop) : Prop := ∀ i j v, zw c i = some v → zw c j = some v → E i j
def za8 (g : List Nd) (c : List Int) (a b : Int) (r : Option (Bool × List Nd × List Int)) : Prop := ∃ ok c', r = some (ok, g, c') ∧ StG g c' ∧ cnt c' ≤ cnt c ∧ ∀ E, Resp g E → zbq c E → E a b → ok = true ∧ zbq c' E
theorem qpT {rec : Int → Int → List Nd → List Int → Option (Bool × List Nd × List Int)} {g : List Nd} (q : Nd) (n : Nat) (hrec : ∀ (a b : Int) (c : List Int), StG g c → cnt c < n → 0 ≤ a → a < g.length → 0 ≤ b → b < g.length → za8 g c a b (rec a b g c)) :
 ∀ (l : List Int) (i : Nat) (c : List Int), StG g c → cnt c < n → i + l.length = q.f3_Kids.length → (∀ x ∈ l, 0 ≤ x ∧ x < g.length) → (∀ x ∈ q.f3_Kids, 0 ≤ x ∧ x < g.length) →
 ∃ ok c', qak (fun g_31 g_32 => some (true, g_31, g_32)) rec q l i g c = some (ok, g, c') ∧ StG g c' ∧ cnt c' ≤ cnt c ∧ ∀ E, Resp g E → zbq c E → (∀ (m : Nat) x y, l[m]? = some x → zw q.f3_Kids ((i + m : Nat) : Int) = some y → E x y) → ok = true ∧ zbq c' E
 | [], i, c, hs, _, _, _, _ => ⟨true, c, by rw [qak], hs, Nat.le_refl _, fun E _ hf _ => ⟨rfl, hf⟩⟩
 | x :: l, i, c, hs, hc, hl, hx, hq => by
  rw [List.length_cons] at hl
  obtain ⟨y, hy, hym⟩ := zab (l := q.f3_Kids) (i := (i : Int)) (by omega) (by omega)
  have h1 := hx x (List.mem_cons_self ..)
  have h2 := hq y hym
  obtain ⟨ok, c', e, s', le', f'⟩ := hrec x y c hs hc h1.1 h1.2 h2.1 h2.2
  rw [qak, hy, Option.bind_some, e, Option.bind_some]
  dsimp only
  cases ok with
  | false =>
   rw [Bool.not_false, cond_true]
   refine ⟨false, c', rfl, s', le', fun E hE hF hm => ?_⟩
   have := (f' E hE hF (hm 0 x y rfl (by simpa using hy))).1
   cases this
  | true =>
   rw [Bool.not_true, cond_false]
   obtain ⟨ok2, c2, e2, s2, le2, f2⟩ := qpT q n hrec l (i + 1) c' s' (by omega) (by omega) (fun z hz => hx z (List.mem_cons_of_mem _ hz)) hq
   refine ⟨ok2, c2, e2, s2, by omega, fun E hE hF hm => ?_⟩
   refine f2 E hE (f' E hE hF (hm 0 x y rfl (by simpa using hy))).2 fun m u v hu hv => hm (m + 1) u v (by simpa using hu) ?_
   rw [show i + (m + 1) = i + 1 + m by omega]
   exact hv
theorem qoS {g : List Nd} (hg : g.length ≤ 1000000) : ∀ (fuel : Nat) (a b : Int) (c : List Int), StG g c → cnt c < fuel → g.length + cnt c + 1 < fuel → 0 ≤ a → a < g.length → 0 ≤ b → b < g.length → za8 g c a b (qaS fuel a b g c)
 | 0, _, _, _, _, h, _, _, _, _, _ => absurd h (Nat.not_lt_zero _)
 | fuel + 1, a, b, c, hs, hf, hf2, ha, ha2, hb, hb2 => by
  have hlen := hs.len
  obtain ⟨x, ex, hx⟩ := zab (l := c) ha (by omega)
  obtain ⟨y, ey, hy⟩ := zab (l := c) hb (by omega)
  rw [qaS]
  dsimp only
  rw [ex, Option.bind_some, ey, Option.bind_some]
  by_cases hxy : x = y
  · rw [uT hxy, cond_true]
    exact ⟨true, c, rfl, hs, Nat.le_refl _, fun E _ hF _ => ⟨rfl, hF⟩⟩
  rw [uF hxy, cond_false]
  obtain ⟨m, em, hm⟩ := qiR hs x
  obtain ⟨n, en, hn⟩ := qiR hs y
  have hs' := hs.merge hx hxy
  have hc := qtd c id x y hy hx hxy
  have hl := qn4 (fun g_13 g_14 => (bif (decide (m < (0 : Int))) then some (true, g_13, g_14) else (bif (decide (n < (0 : Int))) then some (true, g_13, g_14) else ((zw g_13 m).bind fun q_18 => ((zw g_13 n).bind fun q_19 => (bif (q_18.f0_Kind != q_19.f0_Kind) then some (false, g_13, g_14) else (bif (q_18.f1_Int != q_19.f1_Int) then some (false, g_13, g_14) else (bif (!(q_18.f2_Name.toList == q_19.f2_Name.toList)) then some (false, g_13, g_14) else (bif ((q_18.f3_Kids.length : Int) != (q_19.f3_Kids.length : Int)) then some (false, g_13, g_14) else (qak (fun g_31 g_32 => some (true, g_31, g_32)) (qaS fuel) q_19 q_18.f3_Kids 0 g_13 g_14)))))))))) x y g c [] fuel (by omega) (by simp; omega)
  rw [List.nil_append, List.nil_append] at hl
  rw [em, Option.bind_some, en, Option.bind_some]
  refine (congrArg (za8 g c a b) hl).mpr ?_
  have fit : ∀ E, Resp g E → zbq c E → E a b → zbq (c.map (mrg y x)) E := fun E hE hF hab i j v hi hj => by
   obtain ⟨i0, i1, _⟩ := qkA hi
   obtain ⟨j0, j1, _⟩ := qkA hj
   rw [List.length_map] at i1 j1
   obtain ⟨p, ep, _⟩ := zab i0 i1
   obtain ⟨q, eq, _⟩ := zab j0 j1
   have e1 := qrr (mrg y x) ep
   have e2 := qrr (mrg y x) eq
   rw [hi] at e1
   rw [hj] at e2
   have e1 := Option.some.inj e1
   have e2 := Option.some.inj e2
   have toA : ∀ k w, zw c k = some w → w = x ∨ w = y → E k a := fun k w hk hw => by
    rcases hw with rfl | rfl
    · exact hF k a _ hk ex
    · exact hE.2.2.1 _ _ _ (hF k b _ hk ey) (hE.2.1 _ _ hab)
   unfold mrg at e1 e2
   by_cases hp : p = y
   · rw [if_pos hp] at e1
     have hq : q = x ∨ q = y := by
      by_cases hq : q = y
      · exact .inr hq
      · rw [if_neg hq] at e2
        exact .inl (e2.symm.trans e1)
     exact hE.2.2.1 _ _ _ (toA i p ep (.inr hp)) (hE.2.1 _ _ (toA j q eq hq))
   · rw [if_neg hp] at e1
     by_cases hq : q = y
     · rw [if_pos hq] at e2
       exact hE.2.2.1 _ _ _ (toA i p ep (.inl (e1.symm.trans e2))) (hE.2.1 _ _ (toA j q eq (.inr hq)))
     · rw [if_neg hq] at e2
       exact hF i j p ep (by rw [eq, ← e2, e1])
  have easy : za8 g c a b (some (true, g, c.map (mrg y x))) := ⟨true, _, rfl, hs', by omega, fun E hE hF hab => ⟨rfl, fit E hE hF hab⟩⟩
  rcases hm with rfl | ⟨p, hp, cp, kp⟩
  · rw [decide_eq_true (by omega), cond_true]
    exact easy
  have m0 := (qkA hp).1
  rw [decide_eq_false (by omega), cond_false]
  rcases hn with rfl | ⟨q, hq, cq, kq⟩
  · rw [decide_eq_true (by omega), cond_true]
    exact easy
  have n0 := (qkA hq).1
  rw [decide_eq_false (by omega), cond_false, hp, Option.bind_some, hq, Option.bind_some]
  have rel : ∀ E, Resp g E → zbq c E → E a b → E m n := fun E hE hF hab => hE.2.2.1 _ _ _ (hF m a x cp ex) (hE.2.2.1 _ _ _ hab (hF b n y ey cq))
  have bad : (∀ E, Resp g E → zbq c E → E a b → False) → za8 g c a b (some (false, g, c.map (mrg y x))) := fun h => ⟨false, _, rfl, hs', by omega, fun E hE hF hab => (h E hE hF hab).elim⟩
  by_cases e1 : p.f0_Kind = q.f0_Kind
  rotate_left
  · rw [show (p.f0_Kind != q.f0_Kind) = true by simpa using e1, cond_true]
    exact bad fun E hE hF hab => e1 (hE.2.2.2 m n p q (rel E hE hF hab) hp hq kp kq).1
  rw [show (p.f0_Kind != q.f0_Kind) = false by simpa using e1, cond_false]
  by_cases e2 : p.f1_Int = q.f1_Int
  rotate_left
  · rw [show (p.f1_Int != q.f1_Int) = true by simpa using e2, cond_true]
    exact bad fun E hE hF hab => e2 (hE.2.2.2 m n p q (rel E hE hF hab) hp hq kp kq).2.1
  rw [show (p.f1_Int != q.f1_Int) = false by simpa using e2, cond_false]
  by_cases e3 : p.f2_Name.toList = q.f2_Name.toList
  rotate_left
  · rw [show (!(p.f2_Name.toList == q.f2_Name.toList)) = true by simpa using e3, cond_true]
    exact bad fun E hE hF hab => e3 (by rw [(hE.2.2.2 m n p q (rel E hE hF hab) hp hq kp kq).2.2.1])
  rw [show (!(p.f2_Name.toList == q.f2_Name.toList)) = false by simpa using e3, cond_false]
  by_cases e4 : p.f3_Kids.length = q.f3_Kids.length
  rotate_left
  · rw [show ((p.f3_Kids.length : Int) != (q.f3_Kids.length : Int)) = true by simp; omega, cond_true]
    exact bad fun E hE hF hab => e4 (hE.2.2.2 m n p q (rel E hE hF hab) hp hq kp kq).2.2.2.1
  rw [show ((p.f3_Kids.length : Int) != (q.f3_Kids.length : Int)) = false by simp; omega, cond_false]
  obtain ⟨ok, c2, e5, s2, le2, f2⟩ := qpT (rec := qaS fuel) (g := g) q (cnt (c.map (mrg y x)) + 1) (fun a b c3 h1 h2 h3 h4 h5 h6 => qoS hg fuel a b c3 h1 (by omega) (by omega) h3 h4 h5 h6) p.f3_Kids 0 (c.map (mrg y x)) hs' (by omega) (by omega) (hs.kid p (qkA hp).2.2) (hs.kid q (qkA hq).2.2)
  refine ⟨ok, c2, e5, s2, by omega, fun E hE hF hab => ?_⟩
  refine f2 E hE (fit E hE hF hab) fun k u v hu hv => ?_
  rw [Nat.zero_add] at hv
  exact (hE.2.2.2 m n p q (rel E hE hF hab) hp hq kp kq).2.2.2.2 k u v (by rw [qex]; exact hu) hv
/-! ### entering -/
def Kd (M : Nat) (g : List Nd) : Prop := ∀ q ∈ g, q.f3_Kids.length ≤ M
def Ent (M : Nat) (g : List Nd) (c : List Int) (n : Nat) (i : Int) (g' : List Nd) (c' : List Int) : Prop := StG g' c' ∧ Kd M g' ∧ (∃ e, g' = g ++ e ∧ e.length ≤ n ∧ c' = c ++ (List.range' g.length e.length).map fun (x : Nat) => (x : Int)) ∧ 0 ≤ i ∧ i < g'.length
def zaA (M : Nat) (g : List Nd) (c : List Int) (n : Nat) (g' : List Nd) (c' : List Int) : Prop := StG g' c' ∧ Kd M g' ∧ ∃ e, g' = g ++ e ∧ e.length ≤ n ∧ c' = c ++ (List.range' g.length e.length).map fun (x : Nat) => (x : Int)
theorem zaA.rfl' {M : Nat} {g : List Nd} {c : List Int} (h : StG g c) (k : Kd M g) (n : Nat) : zaA M g c n g c := ⟨h, k, [], by simp, by simp, by simp⟩
theorem zaA.trans {M : Nat} {g g1 g2 : List Nd} {c c1 c2 : List Int} {m n : Nat} (h : zaA M g c m g1 c1) (k : zaA M g1 c1 n g2 c2) : zaA M g c (m + n) g2 c2 := by
 obtain ⟨_, _, e, rfl, he, rfl⟩ := h
 obtain ⟨a, b, f, rfl, hf, rfl⟩ := k
 refine ⟨a, b, e ++ f, by rw [List.append_assoc], by rw [List.length_append]; omega, ?_⟩
 rw [List.length_append, List.length_append, ← List.range'_append, List.map_append, List.append_assoc]
 simp
theorem zaA.more {M : Nat} {g g1 : List Nd} {c c1 : List Int} {m n : Nat} (h : zaA M g c m g1 c1) (hm : m ≤ n) : zaA M g c n g1 c1 := by
 obtain ⟨a, b, e, rfl, he, rfl⟩ := h
 exact ⟨a, b, e, rfl, by omega, rfl⟩
theorem zaA.le {M : Nat} {g g1 : List Nd} {c c1 : List Int} {m : Nat} (h : zaA M g c m g1 c1) : g.length ≤ g1.length ∧ g1.length ≤ g.length + m := by
 obtain ⟨a, b, e, rfl, he, rfl⟩ := h
 rw [List.length_append]
 omega
theorem StG.snoc {g : List Nd} {c : List Int} (h : StG g c) {q : Nd} (hq : ∀ k ∈ q.f3_Kids, 0 ≤ k ∧ k < g.length) : StG (g ++ [q]) (c ++ [(g.length : Int)]) := by
 have hl := h.len
 refine ⟨by simp [hl], fun v hv => ?_, fun v hv => ?_, fun p hp k hk => ?_⟩
 · rw [List.length_append, List.length_singleton]
   rcases List.mem_append.1 hv with hv | hv
   · have := h.cls v hv
     omega
   · rw [List.mem_singleton.1 hv]
     omega
 · rcases List.mem_append.1 hv with hv | hv
   · exact qsa (h.idem v hv)
   · rw [List.mem_singleton.1 hv, ← hl]
     exact qsw
 · rw [List.length_append, List.length_singleton]
   rcases List.mem_append.1 hp with hp | hp
   · have := h.kid p hp k hk
     omega
   · rw [List.mem_singleton.1 hp] at hk
     have := hq k hk
     omega
abbrev EnR := Option (Int × List Nd × List Int)
theorem qoH (t : T) (g0 : List Nd) (c0 : List Int) (k : EnR) : ∀ (l : List Nd) (i : Nat), qX k g0 c0 t l i = k ∨ ∃ j q, qX k g0 c0 t l i = some (((i + j : Nat) : Int), g0, c0) ∧ l[j]? = some q ∧ q.f0_Kind = 1 ∧ q.f1_Int = t.i
 | [], i => .inl (by rw [qX])
 | q :: l, i => by
  rw [qX]
  have next : qX k g0 c0 t l (i + 1) = k ∨ ∃ j q', qX k g0 c0 t l (i + 1) = some (((i + j : Nat) : Int), g0, c0) ∧ (q :: l)[j]? = some q' ∧ q'.f0_Kind = 1 ∧ q'.f1_Int = t.i := by
   rcases qoH t g0 c0 k l (i + 1) with h | ⟨j, q', h1, h2, h3⟩
   · exact .inl h
   · exact .inr ⟨j + 1, q', by rw [h1, show i + 1 + j = i + (j + 1) by omega], by simpa using h2, h3⟩
  by_cases h1 : q.f0_Kind = 1
  · rw [uT h1, cond_true]
    by_cases h2 : q.f1_Int = t.i
    · rw [uT h2, cond_true]
      exact .inr ⟨0, q, rfl, rfl, h1, h2⟩
    · rw [uF h2, cond_false]
      exact next
  · rw [uF h1, cond_false]
    exact next
inductive Rp (g : List Nd) : Int → T → Prop
 | mk (i : Int) (q : Nd) (t : T) : zw g i = some q → q.f0_Kind = t.k → q.f1_Int = t.i → q.f2_Name = t.s → q.f3_Kids.length = t.ar.length → (∀ n a u, zw q.f3_Kids n = some a → zw t.ar n = some u → Rp g a u) → Rp g i t
theorem Rp.more {g : List Nd} (e : List Nd) {i : Int} {t : T} (h : Rp g i t) : Rp (g ++ e) i t := by
 induction h with
 | mk i q t h1 h2 h3 h4 h5 _ ih => exact .mk i q t (qsa h1) h2 h3 h4 h5 ih
def zbu (g : List Nd) : Prop := ∀ q ∈ g, q.f0_Kind = 1 → q.f2_Name = ⟨#[]⟩ ∧ q.f3_Kids = []
theorem qoV {M : Nat} {rec : T → List Nd → List Int → EnR} (k : List Nd → List Int → Int → Int → ByteArray → List Int → EnR) (k1 k2 : Int) (s : ByteArray) :
 ∀ (l : List T) (g : List Nd) (c : List Int) (kids : List Int), (∀ t ∈ l, ∀ g c, StG g c → Kd M g → zbu g → g.length + wt t ≤ 1000000 → ∃ i g' c', rec t g c = some (i, g', c') ∧ Ent M g c (wt t) i g' c' ∧ zbu g' ∧ Rp g' i t) → StG g c → Kd M g → zbu g → g.length + wtL l ≤ 1000000 → kids.length + l.length ≤ 1000000 → (∀ a ∈ kids, 0 ≤ a ∧ a < g.length) →
 ∃ g' c' ks, qad k rec l g c k1 k2 s kids = k g' c' k1 k2 s (kids ++ ks) ∧ zaA M g c (wtL l) g' c' ∧ zbu g' ∧ ks.length = l.length ∧ (∀ a ∈ kids ++ ks, 0 ≤ a ∧ a < g'.length) ∧ ∀ (n : Nat) a u, ks[n]? = some a → l[n]? = some u → Rp g' a u
 | [], g, c, kids, _, hs, hk, hv, _, _, hb => ⟨g, c, [], by rw [qad, List.append_nil], zaA.rfl' hs hk _, hv, rfl, by simpa using hb, fun n a u h => by simp at h⟩
 | t :: l, g, c, kids, hr, hs, hk, hv, hw, hl, hb => by
  rw [wtL] at hw
  rw [List.length_cons] at hl
  obtain ⟨i, g1, c1, e1, h1, v1, r1⟩ := hr t (List.mem_cons_self ..) g c hs hk hv (by omega)
  obtain ⟨a1, b1, x1, i0, i1⟩ := h1
  have E1 : zaA M g c (wt t) g1 c1 := ⟨a1, b1, x1⟩
  have hle := E1.le
  obtain ⟨g2, c2, ks, e2, E2, v2, l2, b2, r2⟩ := qoV k k1 k2 s l g1 c1 (kids ++ [i]) (fun t ht => hr t (List.mem_cons_of_mem _ ht)) a1 b1 v1 (by omega) (by rw [List.length_append, List.length_singleton]; omega) (fun a ha => by
   rcases List.mem_append.1 ha with ha | ha
   · have := hb a ha
     omega
   · rw [List.mem_singleton.1 ha]
     exact ⟨i0, i1⟩)
  refine ⟨g2, c2, i :: ks, ?_, E1.trans E2, v2, by simp [l2], by simpa using b2, ?_⟩
  · rw [qad, e1, Option.bind_some, qnL (by omega) (n := l.length) (by omega), Option.bind_some, e2, List.append_assoc, List.singleton_append]
  · intro n a u ha hu
    cases n with
    | zero =>
     simp only [List.getElem?_cons_zero, Option.some.injEq] at ha hu
     subst ha hu
     obtain ⟨_, _, e, rfl, _⟩ := E2
     exact r1.more e
    | succ n => exact r2 n a u (by simpa using ha) (by simpa using hu)
inductive zaa : T → Prop
 | mk (t : T) : (t.k = 1 → t.s = ⟨#[]⟩ ∧ t.ar = []) → (∀ u ∈ t.ar, zaa u) → zaa t
theorem qke {M : Nat} : ∀ (fuel : Nat) (t : T) (g : List Nd) (c : List Int), zaa t → wt t < fuel → wt t ≤ M → StG g c → Kd M g → zbu g → g.length + wt t ≤ 1000000 →
 ∃ i g' c', qaE fuel t g c = some (i, g', c') ∧ Ent M g c (wt t) i g' c' ∧ zbu g' ∧ Rp g' i t
 | 0, _, _, _, _, h, _, _, _, _, _ => absurd h (Nat.not_lt_zero _)
 | fuel + 1, t, g, c, hok, hf, hM, hs, hk, hv, hw => by
  obtain ⟨_, hv1, hv2⟩ := hok
  have hwt := qeT t
  have hlen := qeH t.ar
  have main : ∃ i g' c', qad (fun g_18 g_19 x_21 x_22 x_23 x_24 => ((zY 56 g_18 [(⟨x_21, x_22, x_23, x_24⟩ : ql)]).bind fun l_25 => ((zY 8 g_19 [(wr ((l_25.length : Int) - (1 : Int)))]).bind fun l_27 => some ((wr ((l_25.length : Int) - (1 : Int))), l_25, l_27)))) (qaE fuel) t.ar g c t.k t.i t.s [] = some (i, g', c') ∧ Ent M g c (wt t) i g' c' ∧ zbu g' ∧ Rp g' i t := by
   obtain ⟨g1, c1, ks, e1, E1, v1, l1, b1, r1⟩ := qoV (M := M) (rec := qaE fuel) (fun g_18 g_19 x_21 x_22 x_23 x_24 => ((zY 56 g_18 [(⟨x_21, x_22, x_23, x_24⟩ : ql)]).bind fun l_25 => ((zY 8 g_19 [(wr ((l_25.length : Int) - (1 : Int)))]).bind fun l_27 => some ((wr ((l_25.length : Int) - (1 : Int))), l_25, l_27)))) t.k t.i t.s t.ar g c [] (fun u hu g c h1 h2 h3 h4 => qke fuel u g c (hv2 u hu) (by have := qpr hu; omega) (by have := qpr hu; omega) h1 h2 h3 h4) hs hk hv (by omega) (by simp; omega) (by simp)
   rw [List.nil_append] at e1 b1
   obtain ⟨s1, k1, x, hx, hxl, hc⟩ := E1
   have hl1 := s1.len
   have hg1 : g1.length ≤ g.length + wtL t.ar := by rw [hx, List.length_append]; omega
   have ha : zY 56 g1 [(⟨t.k, t.i, t.s, ks⟩ : Nd)] = some (g1 ++ [⟨t.k, t.i, t.s, ks⟩]) := qnL (by omega) (n := 0) (by omega)
   have hwr : wr (((g1 ++ [(⟨t.k, t.i, t.s, ks⟩ : Nd)]).length : Int) - 1) = (g1.length : Int) := by
    rw [List.length_append, List.length_singleton, qh2 (by omega)]
    omega
   have hb : zY 8 c1 [((g1.length : Nat) : Int)] = some (c1 ++ [((g1.length : Nat) : Int)]) := qnL (by omega) (n := 0) (by omega)
   refine ⟨(g1.length : Int), g1 ++ [⟨t.k, t.i, t.s, ks⟩], c1 ++ [(g1.length : Int)], ?_, ⟨s1.snoc b1, ?_, ⟨x ++ [⟨t.k, t.i, t.s, ks⟩], ?_, ?_, ?_⟩, by omega, ?_⟩, ?_, ?_⟩
   · rw [e1, ha, Option.bind_some, hwr, hb, Option.bind_some]
   · intro q hq
     rcases List.mem_append.1 hq with hq | hq
     · exact k1 q hq
     · rw [List.mem_singleton.1 hq]
       show ks.length ≤ M
       omega
   · rw [hx, List.append_assoc]
   · rw [List.length_append, List.length_singleton]
     omega
   · rw [hc, List.length_append, List.length_singleton, List.range'_concat, List.map_append, List.append_assoc]
     congr 3
     simp [hx]
   · rw [List.length_append, List.length_singleton]
     omega
   · intro q hq hq1
     rcases List.mem_append.1 hq with hq | hq
     · exact v1 q hq hq1
     · rw [List.mem_singleton.1 hq] at hq1 ⊢
       obtain ⟨h1, h2⟩ := hv1 hq1
       refine ⟨h1, ?_⟩
       rw [h2] at l1
       exact List.eq_nil_of_length_eq_zero l1
   · refine .mk _ ⟨t.k, t.i, t.s, ks⟩ t ?_ rfl rfl rfl l1 fun n a u ha hu => ?_
     · rw [← List.append_nil [(⟨t.k, t.i, t.s, ks⟩ : Nd)]]
       exact qsw (done := g1) (ts := [])
     · exact (r1 n.toNat a u (qax ha).2 (qax hu).2).more _
  rw [qaE]
  dsimp only
  unfold qbz
  by_cases h1 : t.k = 1
  · rw [uT h1, cond_true]
    rcases qoH t g c _ g 0 with h | ⟨j, q, h, hj, hq1, hq2⟩
    · rw [h]
      exact main
    · have hjl := (List.getElem?_eq_some_iff.1 hj).1
      obtain ⟨hs1, hs2⟩ := hv1 h1
      obtain ⟨hn1, hn2⟩ := hv q (List.mem_of_getElem? hj) hq1
      refine ⟨_, g, c, h, ⟨hs, hk, ⟨[], by simp, by simp, by simp⟩, by omega, by omega⟩, hv, .mk _ q t (by rw [qex, Nat.zero_add]; exact hj) (by rw [hq1, h1]) hq2 (by rw [hn1, hs1]) (by rw [hn2, hs2]; rfl) fun n a u ha => ?_⟩
      rw [hn2] at ha
      exact absurd (qi4 ha) (by simp)
  · rw [uF h1, cond_false]
    exact main
abbrev Ms := qs
/-! ### least, term -/
theorem qoR (c : List Int) (cl : Int) (k : Int → Option Int) : ∀ (l : List Nd) (v : Int) (i : Nat), i + l.length ≤ c.length → ∃ r, qW k c cl l v i = k r
 | [], v, i, _ => ⟨v, by rw [qW]⟩
 | q :: l, v, i, h => by
  rw [List.length_cons] at h
  obtain ⟨x, hx, _⟩ := zab (l := c) (i := (i : Int)) (by omega) (by omega)
  have next := fun v => qoR c cl k l v (i + 1) (by omega)
  rw [qW, hx, Option.bind_some]
  cases (x == cl) with
  | false => exact next v
  | true =>
   cases (q.f0_Kind == (1 : Int)) with
   | false => exact next v
   | true =>
    cases (decide (v < 0)) with
    | true => exact next _
    | false =>
     cases (decide (q.f1_Int < v)) with
     | true => exact next _
     | false => exact next _
theorem qmz {g : List Nd} {c : List Int} (h : StG g c) (cl : Int) : ∃ r, qbq cl g c = some r := by
 obtain ⟨r, e⟩ := qoR c cl (fun v => some v) g (-1) 0 (by have := h.len; omega)
 exact ⟨r, e⟩
theorem qpY {rec : Int → List Nd → List Int → Option T} {g : List Nd} {c : List Int} (h : StG g c) {q : Nd} (hq : q ∈ g) (hM : q.f3_Kids.length ≤ 100000) (k : Int → Int → ByteArray → List T → Option T) (a b : Int) (s : ByteArray) (hr : ∀ x ∈ q.f3_Kids, ∀ v, zw c x = some v → ∃ t, rec v g c = some t) :
 ∀ (n i : Nat) (l : List T), q.f3_Kids.length < n + i → i ≤ q.f3_Kids.length → l.length = i → ∃ l', qaz k rec g c q n (i : Int) a b s l = k a b s l'
 | 0, i, l, h1, h2, _ => by omega
 | n + 1, i, l, h1, h2, h3 => by
  have hl := h.len
  rw [qaz]
  by_cases hi : i < q.f3_Kids.length
  · obtain ⟨x, hx, hxm⟩ := zab (l := q.f3_Kids) (i := (i : Int)) (by omega) (by omega)
    have hxb := h.kid q hq x hxm
    obtain ⟨v, hv, _⟩ := zab (l := c) hxb.1 (by omega)
    obtain ⟨t, ht⟩ := hr x hxm v hv
    have hi' : wr ((i : Int) + 1) = ((i + 1 : Nat) : Int) := by
     rw [qh2 (by omega)]
     omega
    obtain ⟨l', e⟩ := qpY h hq hM k a b s hr n (i + 1) (l ++ [t]) (by omega) (by omega) (by simp [h3])
    refine ⟨l', ?_⟩
    rw [decide_eq_true (by omega), cond_true, hx, Option.bind_some, hv, Option.bind_some, ht, Option.bind_some, qnL (by omega) (n := 0) (by omega), Option.bind_some, hi', e]
  · rw [decide_eq_false (by omega), cond_false]
    exact ⟨l, rfl⟩
def yQ (M : Nat) (g : List Nd) (c : List Int) (K : Nat) (v : Int) : Prop := ∀ fuel, K + M + 2 ≤ fuel → ∃ t, qaT fuel v g c = some t
theorem yQ.more {M : Nat} {g : List Nd} {c : List Int} {K L : Nat} {v : Int} (h : yQ M g c K v) (hl : K ≤ L) : yQ M g c L v := fun fuel hf => h fuel (by omega)
theorem qme {M : Nat} (hM : M ≤ 100000) {g : List Nd} {c : List Int} (h : StG g c) (hk : Kd M g) {K : Nat} {v r : Int} (hr : qah v g c = some r) (hs : r < 0 ∨ ∃ q, zw g r = some q ∧ ∀ x ∈ q.f3_Kids, ∀ w, zw c x = some w → yQ M g c K w) : yQ M g c (K + 1) v := by
 intro fuel hf
 obtain ⟨fuel, rfl⟩ : ∃ n, fuel = n + 1 := ⟨fuel - 1, by omega⟩
 rw [qaT]
 dsimp only
 rw [hr, Option.bind_some]
 by_cases h0 : r < 0
 · rw [decide_eq_true h0, cond_true]
   obtain ⟨x, e⟩ := qmz h v
   exact ⟨_, by rw [e, Option.bind_some]⟩
 · rcases hs with hs | ⟨q, hq, hx⟩
   · exact absurd hs h0
   · rw [decide_eq_false h0, cond_false, hq, Option.bind_some]
     have hqm := qi4 hq
     have hkq := hk q hqm
     obtain ⟨l', e⟩ := qpY h hqm (by omega) (rec := qaT fuel) (fun t_14 t_15 t_16 t_17 => some ((T.mk t_14 t_15 t_16 t_17))) q.f0_Kind q.f1_Int q.f2_Name (fun x hxm w hw => hx x hxm w hw fuel (by omega)) fuel 0 [] (by omega) (by omega) rfl
     exact ⟨_, e⟩
/-! ### measured -/
def AllM (a : List Ms) : Prop := ∀ y ∈ a, 0 ≤ y.f0_Size ∧ y.f0_Size ≤ 201
def SetM (a : List Ms) (v : Int) : Prop := ∃ y, zw a v = some y ∧ 0 < y.f0_Size
abbrev MsR := Option (List Ms × Bool)
theorem qre (k : Bool → Ms → MsR) (a : List Ms) (g : List Nd) (c : List Int) {r : Int} (hr : r < 0) (n : Nat) (hn : 0 < n) (d : Bool) (j : Int) (x : Ms) : q0 k a g c r n d j x = k d x := by
 obtain ⟨n, rfl⟩ : ∃ m, n = m + 1 := ⟨n - 1, by omega⟩
 rw [q0, decide_eq_false (by omega), cond_false]
theorem qpL {g : List Nd} {c : List Int} (h : StG g c) {a : List Ms} (ha : AllM a) (hal : a.length = g.length) (k : Bool → Ms → MsR) {r : Int} {q : Nd} (hq : zw g r = some q) (hM : q.f3_Kids.length ≤ 100000) :
 ∀ (n j : Nat) (d : Bool) (x : Ms), q.f3_Kids.length < n + j → j ≤ q.f3_Kids.length → 1 ≤ x.f0_Size → x.f0_Size ≤ 201 → ∃ d' x', q0 k a g c r n d (j : Int) x = k d' x' ∧ (1 ≤ x'.f0_Size ∧ x'.f0_Size ≤ 201) ∧ (d' = true → d = true ∧ ∀ (i : Nat) y, j ≤ i → q.f3_Kids[i]? = some y → ∀ w, zw c y = some w → SetM a w)
 | 0, j, d, x, h1, h2, _, _ => by omega
 | n + 1, j, d, x, h1, h2, h3, h4 => by
  have hl := h.len
  have hr0 := (qkA hq).1
  rw [q0, decide_eq_true (by omega), cond_true, hq, Option.bind_some]
  by_cases hj : j < q.f3_Kids.length
  · obtain ⟨y, hy, hym⟩ := zab (l := q.f3_Kids) (i := (j : Int)) (by omega) (by omega)
    have hyb := h.kid q (qi4 hq) y hym
    obtain ⟨w, hw, hwm⟩ := zab (l := c) hyb.1 (by omega)
    have hwb := h.cls w hwm
    obtain ⟨z, hz, hzm⟩ := zab (l := a) hwb.1 (by omega)
    have hzb := ha z hzm
    have hj' : wr ((j : Int) + 1) = ((j + 1 : Nat) : Int) := by
     rw [qh2 (by omega)]
     omega
    have hsz : wr (x.f0_Size + z.f0_Size) = x.f0_Size + z.f0_Size := qh2 (by omega)
    rw [decide_eq_true (by omega), cond_true, hy, Option.bind_some, hw, Option.bind_some, hz, Option.bind_some, hj', hsz]
    have hx1 : 1 ≤ yF (x.f0_Size + z.f0_Size) 201 := by rw [qou]; omega
    have hx2 : yF (x.f0_Size + z.f0_Size) 201 ≤ 201 := by rw [qou]; omega
    have next := fun d => qpL h ha hal k hq hM n (j + 1) d ⟨yF (x.f0_Size + z.f0_Size) 201, (yF (zag x.f1_Depth (wr (z.f1_Depth + (1 : Int)))) (21 : Int))⟩ (by omega) (by omega) hx1 hx2
    cases d with
    | true =>
     rw [cond_true]
     obtain ⟨d', x', e, hx, hd⟩ := next (decide (z.f0_Size > 0))
     refine ⟨d', x', e, hx, fun hd' => ⟨rfl, fun i y' hi hy' w' hw' => ?_⟩⟩
     obtain ⟨h5, h6⟩ := hd hd'
     by_cases hij : i = j
     · subst hij
       rw [qex] at hy
       obtain rfl := Option.some.inj (hy.symm.trans hy')
       obtain rfl := Option.some.inj (hw.symm.trans hw')
       exact ⟨z, hz, by simpa using h5⟩
     · exact h6 i y' (by omega) hy' w' hw'
    | false =>
     rw [cond_false]
     obtain ⟨d', x', e, hx, hd⟩ := next false
     exact ⟨d', x', e, hx, fun hd' => by cases (hd hd').1⟩
  · rw [decide_eq_false (by omega), cond_false]
    refine ⟨d, x, rfl, ⟨h3, h4⟩, fun hd => ⟨hd, fun i y hi hy => ?_⟩⟩
    have := (List.getElem?_eq_some_iff.1 hy).1
    omega
noncomputable def yZ (c : List Int) (j : Nat) : Bool := (c[j]? == some (j : Int))
noncomputable def unS (a : List Ms) (j : Nat) : Bool := match a[j]? with
 | some y => decide (¬ 0 < y.f0_Size)
 | none => true
noncomputable def un (c : List Int) (a : List Ms) (n : Nat) : Nat := (List.range n).countP fun j => yZ c j && unS a j
theorem qkv {p p' : Nat → Bool} {v : Nat} : ∀ {l : List Nat}, l.Nodup → v ∈ l → p v = true → p' v = false → (∀ x, x ≠ v → p' x = p x) → l.countP p = l.countP p' + 1
 | [], _, h, _, _, _ => by cases h
 | x :: l, hn, h, h1, h2, h3 => by
  obtain ⟨hx, hn⟩ := List.nodup_cons.1 hn
  by_cases e : x = v
  · subst e
    have : l.countP p = l.countP p' := List.countP_congr fun y hy => by rw [h3 y fun e => hx (e ▸ hy)]
    rw [List.countP_cons, List.countP_cons, h1, h2, this]
    simp
  · have := qkv hn ((List.mem_cons.1 h).resolve_left fun k => e k.symm) h1 h2 h3
    rw [List.countP_cons, List.countP_cons, h3 x e, this]
    omega
theorem qth {c : List Int} {a : List Ms} {n : Nat} {v : Int} {y x : Ms} (hv : 0 ≤ v ∧ v < n) (hal : a.length = n) (hc : zw c v = some v) (ha : zw a v = some y) (hy : ¬ 0 < y.f0_Size) (hx : 0 < x.f0_Size) : un c a n = un c (a.set v.toNat x) n + 1 := by
 have hc := (qax hc).2
 have ha := (qax ha).2
 refine qkv (v := v.toNat) List.nodup_range (List.mem_range.2 (by omega)) ?_ ?_ fun j hj => ?_
 · unfold yZ unS
   rw [hc, ha]
   simp
   omega
 · unfold unS
   rw [List.getElem?_set_self (by omega)]
   simp [hx]
 · unfold unS
   rw [List.getElem?_set_ne (by omega)]
structure MI (M : Nat) (g : List Nd) (c : List Int) (left : Int) (a : List Ms) : Prop where
 len : a.length = g.length
 all : AllM a
 cnt : left = un c a g.length
 term : ∀ v, SetM a v → yQ M g c (g.length - left.toNat) v
theorem qtp (c : List Int) (a : List Ms) (n : Nat) : un c a n ≤ n := by
 have := List.countP_le_length (p := fun j => yZ c j && unS a j) (l := List.range n)
 unfold un
 simpa using this
theorem qlo {M : Nat} (hM : M ≤ 100000) {g : List Nd} (hg : g.length ≤ 1000000) {c : List Int} (h : StG g c) (hk : Kd M g) (fuel : Nat) (hf : M + 1 < fuel) (k : Int → List Ms → MsR) :
 ∀ (l : List Nd) (left : Int) (i : Nat) (a : List Ms), i + l.length = g.length → MI M g c left a → ∃ left' a', qJ k g c fuel l left i a = k left' a' ∧ MI M g c left' a' ∧ left' ≤ left
 | [], left, i, a, _, hI => ⟨left, a, by rw [qJ], hI, Int.le_refl _⟩
 | q :: l, left, i, a, hi, hI => by
  have hl := h.len
  rw [List.length_cons] at hi
  obtain ⟨v, hv, hvm⟩ := zab (l := c) (i := (i : Int)) (by omega) (by omega)
  have hvb := h.cls v hvm
  have hvi := h.idem v hvm
  obtain ⟨y, hy, hym⟩ := zab (l := a) hvb.1 (by rw [hI.len]; exact hvb.2)
  rw [qJ, hv, Option.bind_some, hy, Option.bind_some]
  by_cases hs : y.f0_Size > 0
  · rw [decide_eq_true hs, cond_true]
    exact qlo hM hg h hk fuel hf k l left (i + 1) a (by omega) hI
  rw [decide_eq_false hs, cond_false]
  obtain ⟨r, hr, hrq⟩ := qiR h v
  rw [hr, Option.bind_some]
  have hun := qtp c a g.length
  have hle := hI.cnt
  have both : ∀ d (x : Ms), (1 ≤ x.f0_Size ∧ x.f0_Size ≤ 201) → (d = true → yQ M g c (g.length - left.toNat + 1) v) → ∃ left' a', (bif d then qJ k g c fuel l (wr (left - (1 : Int))) (i + 1) (a.set v.toNat x) else qJ k g c fuel l left (i + 1) a) = k left' a' ∧ MI M g c left' a' ∧ left' ≤ left := by
   intro d x hx hd
   cases d with
   | false =>
    rw [cond_false]
    exact qlo hM hg h hk fuel hf k l left (i + 1) a (by omega) hI
   | true =>
    rw [cond_true]
    have hu := qth (x := x) hvb hI.len hvi hy hs (by omega)
    have hw : wr (left - 1) = left - 1 := qh2 (by omega)
    rw [hw]
    obtain ⟨left', a', e, hI', hl'⟩ := qlo hM hg h hk fuel hf k l (left - 1) (i + 1) (a.set v.toNat x) (by omega) ⟨by rw [List.length_set]; exact hI.len, fun z hz => by
     rcases List.mem_or_eq_of_mem_set hz with hz | rfl
     · exact hI.all z hz
     · omega, by omega, fun w hw => by
     by_cases e : w = v
     · subst e
       exact (hd rfl).more (by omega)
     · refine (hI.term w ?_).more (by omega)
       obtain ⟨z, hz, hz0⟩ := hw
       have hw0 := (qax hz).1
       refine ⟨z, ?_, hz0⟩
       unfold zw at hz ⊢
       rw [if_pos hw0] at hz ⊢
       rwa [List.getElem?_set_ne (by omega)] at hz⟩
    exact ⟨left', a', e, hI', by omega⟩
  rcases hrq with rfl | ⟨p, hp, hpc, hpk⟩
  · rw [qre _ a g c (by omega) fuel (by omega)]
    exact both true ⟨1, 1⟩ (by simp) fun _ => qme hM h hk hr (.inl (by omega))
  · have hpm := qi4 hp
    have hkp := hk p hpm
    obtain ⟨d, x, e, hx, hd⟩ := qpL h hI.all hI.len (fun done_25 x_26 => bif done_25 then qJ k g c fuel l (wr (left - (1 : Int))) (i + 1) (a.set v.toNat x_26) else qJ k g c fuel l left (i + 1) a) hp (by omega) fuel 0 true ⟨1, 1⟩ (by omega) (by omega) (by simp) (by simp)
    refine Exists.imp (fun left' h => h.imp fun a' h => ⟨e.trans h.1, h.2⟩) (both d x hx fun hd' => qme hM h hk hr (.inr ⟨p, hp, fun z hz w hw => ?_⟩))
    obtain ⟨n, hn⟩ := List.mem_iff_getElem?.1 hz
    exact hI.term w ((hd hd').2 n z (Nat.zero_le _) hn w hw)
theorem qpE {M : Nat} (hM : M ≤ 100000) {g : List Nd} (hg : g.length ≤ 1000000) {c : List Int} (h : StG g c) (hk : Kd M g) (fuel : Nat) (hf : M + 1 < fuel) :
 ∀ (n : Nat) (left : Int) (a : List Ms), left < n → MI M g c left a → ∃ m ok, qaq (fun a_8 => some (a_8, true)) g c fuel n left a = some (m, ok) ∧ (ok = true → ∃ left', left' ≤ 0 ∧ MI M g c left' m)
 | 0, left, a, h1, hI => by
  have := hI.cnt
  omega
 | n + 1, left, a, h1, hI => by
  rw [qaq]
  by_cases h0 : left > 0
  · rw [decide_eq_true h0, cond_true]
    obtain ⟨left', a', e, hI', hle⟩ := qlo hM hg h hk fuel hf (fun left_13 a_14 => bif (left_13 == left) then some ([], false) else qaq (fun a_8 => some (a_8, true)) g c fuel n left_13 a_14) g left 0 a (by omega) hI
    rw [e]
    by_cases he : left' = left
    · rw [uT he, cond_true]
      exact ⟨_, _, rfl, fun h => by cases h⟩
    · rw [uF he, cond_false]
      exact qpE hM hg h hk fuel hf n left' a' (by omega) hI'
  · rw [decide_eq_false h0, cond_false]
    exact ⟨a, true, rfl, fun _ => ⟨left, by omega, hI⟩⟩
theorem qnc (c : List Int) (k : Int → MsR) : ∀ (l : List Nd) (left : Int) (i : Nat), i + l.length = c.length → 0 ≤ left → left + l.length ≤ 1000000 → qaf k c l left i = k (left + (List.range' i l.length).countP (yZ c))
 | [], left, i, _, _, _ => by
  rw [qaf]
  simp
 | q :: l, left, i, h, h0, h1 => by
  rw [List.length_cons] at h h1
  obtain ⟨v, hv, _⟩ := zab (l := c) (i := (i : Int)) (by omega) (by omega)
  rw [qaf, hv, Option.bind_some, List.length_cons, List.range'_succ, List.countP_cons]
  rw [qex] at hv
  by_cases e : v = (i : Int)
  · have hi : yZ c i = true := by
     unfold yZ
     rw [hv, e]
     simp
    rw [uT e, cond_true, qh2 (by omega), qnc c k l (left + 1) (i + 1) (by omega) (by omega) (by omega), hi]
    congr 1
    simp
    omega
  · have hi : yZ c i = false := by
     unfold yZ
     rw [hv]
     simpa using e
    rw [uF e, cond_false, qnc c k l left (i + 1) (by omega) (by omega) (by omega), hi]
    simp
theorem qru {M : Nat} (hM : M ≤ 100000) {g : List Nd} (hg : g.length ≤ 100000) {c : List Int} (h : StG g c) (hk : Kd M g) (fuel : Nat) (hf : g.length + M + 1 < fuel) : ∃ m ok, qby fuel g c = some (m, ok) ∧ (ok = true → ∀ v ∈ c, (∃ y, zw m v = some y) ∧ yQ M g c g.length v) := by
 have hl := h.len
 unfold qby
 have hm : zay 16 (g.length : Int) = some g.length := by
  unfold zay
  rw [Int.toNat_natCast, if_pos (by omega)]
 rw [hm, Option.bind_some, qnc c _ g 0 0 (by omega) (by omega) (by omega)]
 have hrep : ∀ y ∈ List.replicate g.length (⟨0, 0⟩ : Ms), y = ⟨0, 0⟩ := fun y hy => List.eq_of_mem_replicate hy
 have hun : un c (List.replicate g.length ⟨0, 0⟩) g.length = (List.range' 0 g.length).countP (yZ c) := by
  unfold un
  rw [← List.range_eq_range']
  refine List.countP_congr fun j hj => ?_
  have hu : unS (List.replicate g.length ⟨0, 0⟩) j = true := by
   unfold unS
   rw [List.getElem?_replicate]
   split
   · rename_i y hy
     split at hy
     · obtain rfl := Option.some.inj hy
       simp
     · cases hy
   · rfl
  rw [hu, Bool.and_true]
 have hule := qtp c (List.replicate g.length ⟨0, 0⟩) g.length
 obtain ⟨m, ok, e, hok⟩ := qpE hM (by omega) h hk fuel (by omega) fuel (0 + ((List.range' 0 g.length).countP (yZ c) : Int)) (List.replicate g.length ⟨0, 0⟩) (by omega) ⟨by simp, fun y hy => by
  rw [hrep y hy]
  simp, by omega, fun v hv => by
  obtain ⟨y, hy, hy0⟩ := hv
  rw [hrep y (qi4 hy)] at hy0
  exact absurd hy0 (by simp)⟩
 refine ⟨m, ok, e, fun h1 v hv => ?_⟩
 obtain ⟨left, hle, hI⟩ := hok h1
 have hvb := h.cls v hv
 obtain ⟨y, hy, _⟩ := zab (l := m) hvb.1 (by rw [hI.len]; exact hvb.2)
 refine ⟨⟨y, hy⟩, (hI.term v ⟨y, hy, ?_⟩).more (by omega)⟩
 have h0 : un c m g.length = 0 := by
  have := hI.cnt
  omega
 have hall := List.countP_eq_zero.1 h0 v.toNat (List.mem_range.2 (by omega))
 have hc := (qax (h.idem v hv)).2
 have hy' := (qax hy).2
 have hr : yZ c v.toNat = true := by
  unfold yZ
  rw [hc]
  simp
  omega
 rw [hr, Bool.true_and] at hall
 unfold unS at hall
 rw [hy'] at hall
 simpa using hall
end Go.Proofs.YtabbfihjeppbhaaGreat
