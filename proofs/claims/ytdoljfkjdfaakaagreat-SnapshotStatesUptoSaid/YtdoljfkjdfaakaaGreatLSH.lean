/-
  Texts of the seat, merged.
-/
import Derived.Test.YtdoljfkjdfaakaaGreatLSA
import Derived.Test.YtdoljfkjdfaakaaGreatLSB
import Derived.Test.YtdoljfkjdfaakaaGreatLSC
import Derived.Test.YtdoljfkjdfaakaaGreatLSD
import Derived.Test.YtdoljfkjdfaakaaGreatLSE
import Derived.Test.YtdoljfkjdfaakaaGreatLSF
import Derived.Test.YtdoljfkjdfaakaaGreatLSG
import Derived.Test.YtdoljfkjdfaakaaGreatChecked
import Derived.WalkKit
import Derived.Lib.Hide
import Derived.Lib.AppendStr
import Derived.Deep.AppendLies
import Derived.Deep.AppendSrc
import Derived.Deep.Draws
import Derived.Deep.QuietTactic
import Derived.BigQuiet
import Derived.Deep.RegionWith
import Derived.Maps.AppendAt
import Derived.WalkSpells
import Derived.Orders
import Derived.Deep.Slices
import Derived.Deep.Fields
import Derived.ChangeArms
import Derived.Lib.OthersKept
import Derived.Lib.TrimU
import Derived.Lib.IndexAny
import Derived.Deep.LoopGhost
import Derived.Lib.Bytealg
import Derived.RangeFuncBox
import Derived.RangeFuncNested
import Derived.RangeFuncBound
import Derived.RangeFuncCalls
import Derived.RangeFuncLeaves
import Derived.Shelf.Abstract
import Derived.OwnWalkIn
import Derived.TacticsInMore
import Derived.LoopNIn
import Derived.LoopIn
import Derived.RangeFuncWrites
import Derived.Maps.OwnIn
import Derived.Maps.Views
import Derived.Laws.OwnMore
import Derived.Maps.OwnSet
import Derived.Laws.IdiomStrings
import Derived.Test.YtdoljfkjdfaakaaGreatRows
import Derived.ProofKit
import Derived.OpenShut
import Derived.Carry
import Derived.OrdersIn
import Derived.Great.BuildSlice
import Derived.ArgAppend
import Derived.Laws.MakeOwn
import Derived.Laws.Cover3
import Derived.Laws.CopyRow
import Derived.MapKept
import Derived.Maps.RangeRun
import Derived.DeepKeys5
import Derived.WideKeyRuns
import Derived.RangeFuncOwn
import Derived.Defers
import Derived.Recover
import Derived.Tactics
import Derived.Tactics2
set_option linter.unusedVariables false
set_option linter.unusedSimpArgs false
set_option linter.unnecessarySimpa false
set_option linter.all false
namespace Go.Proofs.YtdoljfkjdfaakaaGreat
set_option maxRecDepth 100000
open Go.RowKit
set_option maxHeartbeats 1000000 in
theorem qku (fuel : Nat) (b_a0 : (List (Int × T))) (res : Bool) (hr : qff fuel b_a0 = some res) : Gives Tryz.prog 218 [.lst (b_a0.map encP)] (.bool res) := by
  unfold qff at hr
  refine qR [(0, .lst (b_a0.map encP))] Tryz.func218 rfl rfl fun K hK => (qh (gr [.d] (r_d rfl rfl rfl (qe rfl rfl) (qj (qh (qh (gr [.d] (r_d rfl rfl rfl (qe rfl rfl) (qj ?_)))))))))
  obtain ⟨kk0, hkk0, hr⟩ := exK (fun k => qbt k b_a0 fuel b_a0) hr
  refine qdG 0 rfl (asl rfl) fun hla0 => ?_
  simp only [List.length_map] at hla0
  refine qV (fun env σ => env = [] ∧ σ = [] ∧ kk0 = some res) ?_ (fun HK0 => ?_)
  ·
   rintro _ _ ⟨rfl, rfl, hr⟩
   rw [hkk0] at hr
   refine qh (gr [.d] (r_d rfl rfl rfl (qe rfl rfl) (qj ?_)))
   obtain rfl := Option.some.inj hr
   refine qJ Tryz.func218 _ (.cons (resTmp rfl (Wk.refl _)) .nil) ?_
   rfl
  ·
   refine qM [(0, .lst (b_a0.map encP)), (3, .int .i64 ((0 : Nat) : Int))] (Sub.cons' rfl (Sub.cons' rfl (Sub.nil _))) (qaM (fun n env σ => ∃ (i_1 : Nat), (n = b_a0.length - i_1) ∧ (env = [(0, .lst (b_a0.map encP)), (3, .int .i64 (i_1 : Int))]) ∧ (σ = []) ∧ (i_1 ≤ b_a0.length) ∧ (qbt kk0 b_a0 fuel (b_a0.drop i_1) = some res)) _ ⟨0, rfl, rfl, rfl, Nat.zero_le _, hr⟩ ?_)
   rintro n _ _ ⟨i_1, rfl, rfl, rfl, hi0, hr⟩ IH0
   rcases listStep b_a0 i_1 hi0 with ⟨ht0, hd0, he0⟩ | ⟨q_2, ht0, hd0, hq0, hlt0⟩
   ·
    rw [hd0, qbt] at hr
    refine qh (qh (gr [.d, .d, .d, .d] (r_d rfl rfl rfl (qb rfl rfl) (r_d rfl rfl rfl (qb rfl rfl) (r_d rfl rfl rfl (qT (f := encP) b_a0 rfl qb7 rfl (asl rfl)) (r_d rfl rfl rfl (qB rfl rfl rfl rfl) (qj (qC 11 false rfl ht0 (qs rfl (qaw rfl (qM [] (Sub.nil _) ?_)))))))))))
    exact HK0 _ _ ⟨rfl, rfl, hr⟩
   ·
    rw [hd0, qbt] at hr
    refine qh (qh (gr [.d, .d, .d, .d] (r_d rfl rfl rfl (qb rfl rfl) (r_d rfl rfl rfl (qb rfl rfl) (r_d rfl rfl rfl (qT (f := encP) b_a0 rfl qb7 rfl (asl rfl)) (r_d rfl rfl rfl (qB rfl rfl rfl rfl) (qj (qC 11 true rfl ht0 (qo rfl (qE (qh ?_)))))))))))
    refine q0 (qh (gr [.d, .d, .d, .d, .d, .d, .d] (r_d rfl rfl rfl (qb rfl rfl) (r_d rfl rfl rfl (qb rfl rfl) (r_d rfl rfl rfl (qN (f := encP) b_a0 rfl qb7 rfl (asl rfl) rfl hq0 qgK rfl) (r_d rfl rfl rfl (qg rfl qfu rfl rfl rfl rfl) (r_d rfl rfl rfl (qk rfl rfl (by exact qav) (qck _)) ?_)))))))
    obtain ⟨r_3, hr_3, hr⟩ := bindS hr
    refine r_d rfl rfl rfl (qK rfl qft (.oc rfl .nil) (qfo fuel _ _ hr_3)) (r_d rfl rfl rfl (qe rfl rfl) (qj (qh (gr [.d] (r_d rfl rfl rfl (qe rfl rfl) (qj ?_))))))
    obtain ⟨kk1, hkk1, hr⟩ := exK (fun k => qbC k b_a0 r_3) hr
    refine qdG 19 rfl (asl rfl) fun hla1 => ?_
    simp only [List.length_map] at hla1
    refine qV (fun env σ => env = [(0, .lst (b_a0.map encP)), (3, .int .i64 (i_1 : Int))] ∧ σ = [] ∧ kk1 = some res) ?_ (fun HK1 => ?_)
    ·
     rintro _ _ ⟨rfl, rfl, hr⟩
     rw [hkk1] at hr
     refine qF (gr [.d, .d, .d] (r_d rfl rfl rfl (qb rfl rfl) (r_d rfl rfl rfl (s_ar (r := ((i_1 + 1 : Nat) : Int)) rfl rfl rfl (by simp [iar]) (by omega)) (r_d rfl rfl rfl (qe rfl rfl) (qj (qM [(0, .lst (b_a0.map encP)), (3, .int .i64 ((i_1 + 1 : Nat) : Int))] (Sub.cons' rfl (Sub.cons' rfl (Sub.nil _))) ?_))))))
     exact IH0 _ _ _ (by omega) ⟨(i_1 + 1), rfl, rfl, rfl, (by omega), hr⟩
    ·
     refine qM [(0, .lst (b_a0.map encP)), (3, .int .i64 ((i_1 : Nat) : Int)), (4, .lst (r_3.map (D.int .i64))), (5, .int .i64 ((0 : Nat) : Int))] (Sub.cons' rfl (Sub.cons' rfl (Sub.cons' rfl (Sub.cons' rfl (Sub.nil _))))) (qaM (fun n env σ => ∃ (k_4 : Nat), (n = r_3.length - k_4) ∧ (env = [(0, .lst (b_a0.map encP)), (3, .int .i64 (i_1 : Int)), (4, .lst (r_3.map (D.int .i64))), (5, .int .i64 (k_4 : Int))]) ∧ (σ = []) ∧ (k_4 ≤ r_3.length) ∧ (qbC kk1 b_a0 (r_3.drop k_4) = some res)) _ ⟨0, rfl, rfl, rfl, Nat.zero_le _, hr⟩ ?_)
     rintro n _ _ ⟨k_4, rfl, rfl, rfl, hi1, hr⟩ IH1
     rcases listStep r_3 k_4 hi1 with ⟨ht1, hd1, he1⟩ | ⟨q_5, ht1, hd1, hq1, hlt1⟩
     ·
      rw [hd1, qbC] at hr
      refine qh (qh (gr [.d, .d, .d, .d] (r_d rfl rfl rfl (qb rfl rfl) (r_d rfl rfl rfl (qb rfl rfl) (r_d rfl rfl rfl (qT (f := (D.int .i64)) r_3 rfl qH rfl (asl rfl)) (r_d rfl rfl rfl (qB rfl rfl rfl rfl) (qj (qC 23 false rfl ht1 (qs rfl (qaw rfl (qM [(0, .lst (b_a0.map encP)), (3, .int .i64 (i_1 : Int))] (Sub.cons' rfl (Sub.cons' rfl (Sub.nil _))) ?_)))))))))))
      exact HK1 _ _ ⟨rfl, rfl, hr⟩
     ·
      rw [hd1, qbC] at hr
      refine qh (qh (gr [.d, .d, .d, .d] (r_d rfl rfl rfl (qb rfl rfl) (r_d rfl rfl rfl (qb rfl rfl) (r_d rfl rfl rfl (qT (f := (D.int .i64)) r_3 rfl qH rfl (asl rfl)) (r_d rfl rfl rfl (qB rfl rfl rfl rfl) (qj (qC 23 true rfl ht1 (qo rfl (qE (qh ?_)))))))))))
      refine q0 (qh (gr [.d, .d, .d, .d, .d, .d, .d, .d, .d, .w, .w, .d] (r_d rfl rfl rfl (qb rfl rfl) (r_d rfl rfl rfl (qb rfl rfl) (r_d rfl rfl rfl (qb rfl rfl) (r_d rfl rfl rfl (qN (f := (D.int .i64)) r_3 rfl qH rfl (asl rfl) rfl hq1 (fun _ => rfl) rfl) (r_d rfl rfl rfl (qk rfl rfl (by exact qW) rfl) ?_)))))))
      obtain ⟨r_6, hr_6, hr⟩ := bindS hr
      refine r_d rfl rfl rfl (qK rfl qhC (.oc rfl (.oc rfl .nil)) (qhx _ _ _ hr_6)) (r_d rfl rfl rfl (qb rfl rfl) (r_d rfl rfl rfl (qaH rfl rfl rfl) (r_d rfl rfl rfl (qaH rfl rfl rfl) (r_w rfl rfl rfl (qa8 rfl qhO) ?_))))
      rintro _ _ ⟨b6_6, rfl, rfl⟩
      refine qbE rfl rfl rfl (qag _ rfl rfl rfl (Wk.refl _) (pf0 _) (by exact qav) (qck _) rfl rfl) (r_d rfl rfl rfl (qe rfl rfl) (qj (qaT 6 b6_6 rfl (pf0 _) (qh (gr [.d] (r_d rfl rfl rfl (qb rfl rfl) (qj ?_)))))))
      refine g_sB 35 rfl hr (fun h35_7 hr => ?_) (fun h35_7 hr => ?_)
      ·
       refine qo rfl (qh (gr [.d] (r_d rfl rfl rfl (qe rfl rfl) (qj ?_))))
       obtain rfl := Option.some.inj hr
       refine qJ Tryz.func218 _ (.cons (resTmp rfl (Wk.refl _)) .nil) ?_
       rfl
      ·
       refine qs rfl (qE (qF (gr [.d, .d, .d] (r_d rfl rfl rfl (qb rfl rfl) (r_d rfl rfl rfl (s_ar (r := ((k_4 + 1 : Nat) : Int)) rfl rfl rfl (by simp [iar]) (by omega)) (r_d rfl rfl rfl (qe rfl rfl) (qj (qM [(0, .lst (b_a0.map encP)), (3, .int .i64 ((i_1 : Nat) : Int)), (4, .lst (r_3.map (D.int .i64))), (5, .int .i64 ((k_4 + 1 : Nat) : Int))] (Sub.cons' rfl (Sub.cons' rfl (Sub.cons' rfl (Sub.cons' rfl (Sub.nil _))))) ?_))))))))
       exact IH1 _ _ _ (by omega) ⟨(k_4 + 1), rfl, rfl, rfl, (by omega), hr⟩
noncomputable def qaF (k : Option (Bool)) (b_a0 : (List (Int × T))) : List (Int × T) → Nat → Option (Bool)
  | [], i_1 =>
  k
  | q_3 :: rest, i_1 =>
  (bif (decide (q_3.1 < (0 : Int))) then
  some (false)
  else
  (bif (decide (q_3.1 > (1048576 : Int))) then
  some (false)
  else
  (bif (decide ((i_1 : Int) > (0 : Int))) then
  ((getI b_a0 (wr ((i_1 : Int) - (1 : Int)))).bind fun q_7 =>
  (bif (decide (q_3.1 ≤ q_7.1)) then
  some (false)
  else
  ((qlQ q_3.2).bind fun r_9 =>
  (bif (!r_9) then
  some (false)
  else
  (qaF k b_a0 rest (i_1 + 1))))))
  else
  ((qlQ q_3.2).bind fun r_11 =>
  (bif (!r_11) then
  some (false)
  else
  (qaF k b_a0 rest (i_1 + 1)))))))
noncomputable def qer (fuel : Nat) (b_a0 : (List (Int × T))) : Option (Bool) :=
  (qaF (((qff fuel b_a0).bind fun r_2 =>
  some (r_2))) b_a0 b_a0 0)
set_option maxHeartbeats 1000000 in
theorem qky (fuel : Nat) (b_a0 : (List (Int × T))) (res : Bool) (hr : qer fuel b_a0 = some res) : Gives Tryz.prog 173 [.lst (b_a0.map encP)] (.bool res) := by
  unfold qer at hr
  refine qR [(0, .lst (b_a0.map encP))] Tryz.func173 rfl rfl fun K hK => (qh (gr [.d] (r_d rfl rfl rfl (qe rfl rfl) (qj (qh (qh (gr [.d] (r_d rfl rfl rfl (qe rfl rfl) (qj ?_)))))))))
  obtain ⟨kk0, hkk0, hr⟩ := exK (fun k => qaF k b_a0 b_a0 0) hr
  refine qdG 0 rfl (asl rfl) fun hla0 => ?_
  simp only [List.length_map] at hla0
  refine qV (fun env σ => env = [(0, .lst (b_a0.map encP))] ∧ σ = [] ∧ kk0 = some res) ?_ (fun HK0 => ?_)
  ·
   rintro _ _ ⟨rfl, rfl, hr⟩
   rw [hkk0] at hr
   refine qh (gr [.d, .d, .d] (r_d rfl rfl rfl (qb rfl rfl) ?_))
   obtain ⟨r_2, hr_2, hr⟩ := bindS hr
   refine r_d rfl rfl rfl (qK rfl qkf (.oc rfl .nil) (qku fuel _ _ hr_2)) (r_d rfl rfl rfl (qe rfl rfl) (qj ?_))
   obtain rfl := Option.some.inj hr
   refine qJ Tryz.func173 _ (.cons (resTmp rfl (Wk.refl _)) .nil) ?_
   rfl
  ·
   refine qM [(0, .lst (b_a0.map encP)), (3, .int .i64 ((0 : Nat) : Int))] (Sub.cons' rfl (Sub.cons' rfl (Sub.nil _))) (qaM (fun n env σ => ∃ (i_1 : Nat), (n = b_a0.length - i_1) ∧ (env = [(0, .lst (b_a0.map encP)), (3, .int .i64 (i_1 : Int))]) ∧ (σ = []) ∧ (i_1 ≤ b_a0.length) ∧ (qaF kk0 b_a0 (b_a0.drop i_1) i_1 = some res)) _ ⟨0, rfl, rfl, rfl, Nat.zero_le _, hr⟩ ?_)
   rintro n _ _ ⟨i_1, rfl, rfl, rfl, hi0, hr⟩ IH0
   rcases listStep b_a0 i_1 hi0 with ⟨ht0, hd0, he0⟩ | ⟨q_3, ht0, hd0, hq0, hlt0⟩
   ·
    rw [hd0, qaF] at hr
    refine qh (qh (gr [.d, .d, .d, .d] (r_d rfl rfl rfl (qb rfl rfl) (r_d rfl rfl rfl (qb rfl rfl) (r_d rfl rfl rfl (qT (f := encP) b_a0 rfl qb7 rfl (asl rfl)) (r_d rfl rfl rfl (qB rfl rfl rfl rfl) (qj (qC 7 false rfl ht0 (qs rfl (qaw rfl (qM [(0, .lst (b_a0.map encP))] (Sub.cons' rfl (Sub.nil _)) ?_)))))))))))
    exact HK0 _ _ ⟨rfl, rfl, hr⟩
   ·
    rw [hd0, qaF] at hr
    refine qh (qh (gr [.d, .d, .d, .d] (r_d rfl rfl rfl (qb rfl rfl) (r_d rfl rfl rfl (qb rfl rfl) (r_d rfl rfl rfl (qT (f := encP) b_a0 rfl qb7 rfl (asl rfl)) (r_d rfl rfl rfl (qB rfl rfl rfl rfl) (qj (qC 7 true rfl ht0 (qo rfl (qE (qh ?_)))))))))))
    refine q0 (qh (ga [(0, .d), (1, .d), (2, .d), (3, .d), (4, .d), (5, .d), (6, .d), (7, .d), (8, .d), (9, .d), (10, .d), (11, .d), (12, .d), (13, .d), (14, .d), (15, .d), (16, .d), (17, .d), (18, .d), (19, .d), (20, .d), (21, .d), (22, .d), (23, .d), (24, .d), (25, .d), (26, .d), (27, .d), (28, .d), (29, .d), (30, .d), (31, .d), (32, .d), (33, .d), (34, .d), (35, .d), (36, .d), (37, .d), (38, .d), (39, .d), (40, .d)] (r_d rfl rfl rfl (qb rfl rfl) (r_d rfl rfl rfl (qb rfl rfl) (r_d rfl rfl rfl (qN (f := encP) b_a0 rfl qb7 rfl (asl rfl) rfl hq0 qgK rfl) (r_d rfl rfl rfl (qg rfl qgp rfl rfl rfl rfl) (r_d rfl rfl rfl (qk rfl rfl (by exact qW) rfl) (r_d rfl rfl rfl (qB rfl rfl rfl rfl) (r_d rfl rfl rfl (qb rfl rfl) ?_)))))))))
    refine r_sB 16 rfl hr (fun h16_3 hr => ?_) (fun h16_3 hr => ?_)
    ·
     refine qc rfl rfl rfl (qc rfl rfl rfl (qc rfl rfl rfl (qc rfl rfl rfl (qc rfl rfl rfl (qc rfl rfl rfl (r_d rfl rfl rfl (qy rfl rfl rfl) (r_d rfl rfl rfl (qb rfl rfl) (qc rfl rfl rfl (qc rfl rfl rfl (qc rfl rfl rfl (qc rfl rfl rfl ?_)))))))))))
     refine qc rfl rfl rfl (qc rfl rfl rfl (qc rfl rfl rfl (qc rfl rfl rfl (qc rfl rfl rfl (qc rfl rfl rfl (qc rfl rfl rfl (qc rfl rfl rfl (qc rfl rfl rfl (qc rfl rfl rfl (qc rfl rfl rfl (qc rfl rfl rfl ?_)))))))))))
     refine r_d rfl rfl rfl (qy rfl rfl rfl) (r_d rfl rfl rfl (qb rfl rfl) (qc rfl rfl rfl (qc rfl rfl rfl (qc rfl rfl rfl (qc rfl rfl rfl (qc rfl rfl rfl (qc rfl rfl rfl (qc rfl rfl rfl (r_d rfl rfl rfl (qy rfl rfl rfl) (qj (qo rfl ?_)))))))))))
     refine qh (gr [.d] (r_d rfl rfl rfl (qe rfl rfl) (qj ?_)))
     obtain rfl := Option.some.inj hr
     refine qJ Tryz.func173 _ (.cons (resTmp rfl (Wk.refl _)) .nil) ?_
     rfl
    ·
     refine r_d rfl rfl rfl (qb rfl rfl) (r_d rfl rfl rfl (qb rfl rfl) (r_d rfl rfl rfl (qN (f := encP) b_a0 rfl qb7 rfl (asl rfl) rfl hq0 qgK rfl) (r_d rfl rfl rfl (qg rfl qgp rfl rfl rfl rfl) (r_d rfl rfl rfl (qk rfl rfl (by exact qW) rfl) (r_d rfl rfl rfl (qB rfl rfl rfl rfl) (r_d rfl rfl rfl (qD rfl rfl rfl) (r_d rfl rfl rfl (qb rfl rfl) ?_)))))))
     refine r_sB 24 rfl hr (fun h24_4 hr => ?_) (fun h24_4 hr => ?_)
     ·
      refine qc rfl rfl rfl (qc rfl rfl rfl (qc rfl rfl rfl (qc rfl rfl rfl (qc rfl rfl rfl (qc rfl rfl rfl (qc rfl rfl rfl (qc rfl rfl rfl (qc rfl rfl rfl (qc rfl rfl rfl (qc rfl rfl rfl (qc rfl rfl rfl ?_)))))))))))
      refine qc rfl rfl rfl (qc rfl rfl rfl (qc rfl rfl rfl (qc rfl rfl rfl (r_d rfl rfl rfl (qy rfl rfl rfl) (r_d rfl rfl rfl (qb rfl rfl) (qc rfl rfl rfl (qc rfl rfl rfl (qc rfl rfl rfl (qc rfl rfl rfl (qc rfl rfl rfl (qc rfl rfl rfl ?_)))))))))))
      refine qc rfl rfl rfl (r_d rfl rfl rfl (qy rfl rfl rfl) (qj (qo rfl (qh (gr [.d] (r_d rfl rfl rfl (qe rfl rfl) (qj ?_)))))))
      obtain rfl := Option.some.inj hr
      refine qJ Tryz.func173 _ (.cons (resTmp rfl (Wk.refl _)) .nil) ?_
      rfl
     ·
      refine r_d rfl rfl rfl (qb rfl rfl) (r_d rfl rfl rfl (qB rfl rfl rfl rfl) (r_d rfl rfl rfl (qb rfl rfl) ?_))
      refine r_sB 27 rfl hr (fun h27_5 hr => ?_) (fun h27_5 hr => ?_)
      ·
       refine r_d rfl rfl rfl (qb rfl rfl) (r_d rfl rfl rfl (qb rfl rfl) (r_d rfl rfl rfl (qN (f := encP) b_a0 rfl qb7 rfl (asl rfl) rfl hq0 qgK rfl) (r_d rfl rfl rfl (qg rfl qgp rfl rfl rfl rfl) (r_d rfl rfl rfl (qk rfl rfl (by exact qW) rfl) (r_d rfl rfl rfl (qb rfl rfl) (r_d rfl rfl rfl (qb rfl rfl) (r_d rfl rfl rfl (qkF rfl rfl rfl rfl) ?_)))))))
       obtain ⟨q_7, hq_7, hr⟩ := bindS hr
       refine r_d rfl rfl rfl (qN (f := encP) b_a0 rfl qb7 rfl (asl rfl) rfl hq_7 qgK rfl) (r_d rfl rfl rfl (qg rfl qgp rfl rfl rfl rfl) (r_d rfl rfl rfl (qk rfl rfl (by exact qW) rfl) (r_d rfl rfl rfl (qB rfl rfl rfl rfl) (r_d rfl rfl rfl (qy rfl rfl rfl) (r_d rfl rfl rfl (qD rfl rfl rfl) (r_d rfl rfl rfl (qb rfl rfl) ?_))))))
       refine r_sB 42 rfl hr (fun h42_7 hr => ?_) (fun h42_7 hr => ?_)
       ·
        refine qc rfl rfl rfl (qc rfl rfl rfl (qc rfl rfl rfl (qc rfl rfl rfl (qc rfl rfl rfl (qc rfl rfl rfl (qc rfl rfl rfl (r_d rfl rfl rfl (qy rfl rfl rfl) (qj (qo rfl (qh (gr [.d] ?_)))))))))))
        refine r_d rfl rfl rfl (qe rfl rfl) (qj ?_)
        obtain rfl := Option.some.inj hr
        refine qJ Tryz.func173 _ (.cons (resTmp rfl (Wk.refl _)) .nil) ?_
        rfl
       ·
        refine r_d rfl rfl rfl (qb rfl rfl) (r_d rfl rfl rfl (qb rfl rfl) (r_d rfl rfl rfl (qN (f := encP) b_a0 rfl qb7 rfl (asl rfl) rfl hq0 qgK rfl) (r_d rfl rfl rfl (qg rfl qfu rfl rfl rfl rfl) (r_d rfl rfl rfl (qk rfl rfl (by exact qav) (qck _)) ?_))))
        obtain ⟨r_9, hr_9, hr⟩ := bindS hr
        refine r_d rfl rfl rfl (qK rfl qh2 (.oc rfl .nil) (qh1 _ _ hr_9)) (r_d rfl rfl rfl (qdO rfl rfl) (r_d rfl rfl rfl (qD rfl rfl rfl) (qj ?_)))
        refine g_sB 50 rfl hr (fun h50_9 hr => ?_) (fun h50_9 hr => ?_)
        ·
         refine qo rfl (qh (gr [.d] (r_d rfl rfl rfl (qe rfl rfl) (qj ?_))))
         obtain rfl := Option.some.inj hr
         refine qJ Tryz.func173 _ (.cons (resTmp rfl (Wk.refl _)) .nil) ?_
         rfl
        ·
         refine qs rfl (qE (qF (gr [.d, .d, .d] (r_d rfl rfl rfl (qb rfl rfl) (r_d rfl rfl rfl (s_ar (r := ((i_1 + 1 : Nat) : Int)) rfl rfl rfl (by simp [iar]) (by omega)) (r_d rfl rfl rfl (qe rfl rfl) (qj (qM [(0, .lst (b_a0.map encP)), (3, .int .i64 ((i_1 + 1 : Nat) : Int))] (Sub.cons' rfl (Sub.cons' rfl (Sub.nil _))) ?_))))))))
         exact IH0 _ _ _ (by omega) ⟨(i_1 + 1), rfl, rfl, rfl, (by omega), hr⟩
      ·
       refine qc rfl rfl rfl (qc rfl rfl rfl (qc rfl rfl rfl (qc rfl rfl rfl (qc rfl rfl rfl (qc rfl rfl rfl (qc rfl rfl rfl (qc rfl rfl rfl (qc rfl rfl rfl (qc rfl rfl rfl (qc rfl rfl rfl (qc rfl rfl rfl ?_)))))))))))
       refine r_d rfl rfl rfl (qD rfl rfl rfl) (r_d rfl rfl rfl (qD rfl rfl rfl) (r_d rfl rfl rfl (qb rfl rfl) (r_d rfl rfl rfl (qb rfl rfl) (r_d rfl rfl rfl (qb rfl rfl) (r_d rfl rfl rfl (qN (f := encP) b_a0 rfl qb7 rfl (asl rfl) rfl hq0 qgK rfl) (r_d rfl rfl rfl (qg rfl qfu rfl rfl rfl rfl) (r_d rfl rfl rfl (qk rfl rfl (by exact qav) (qck _)) ?_)))))))
       obtain ⟨r_11, hr_11, hr⟩ := bindS hr
       refine r_d rfl rfl rfl (qK rfl qh2 (.oc rfl .nil) (qh1 _ _ hr_11)) (r_d rfl rfl rfl (qdO rfl rfl) (r_d rfl rfl rfl (qD rfl rfl rfl) (qj ?_)))
       refine g_sB 50 rfl hr (fun h50_11 hr => ?_) (fun h50_11 hr => ?_)
       ·
        refine qo rfl (qh (gr [.d] (r_d rfl rfl rfl (qe rfl rfl) (qj ?_))))
        obtain rfl := Option.some.inj hr
        refine qJ Tryz.func173 _ (.cons (resTmp rfl (Wk.refl _)) .nil) ?_
        rfl
       ·
        refine qs rfl (qE (qF (gr [.d, .d, .d] (r_d rfl rfl rfl (qb rfl rfl) (r_d rfl rfl rfl (s_ar (r := ((i_1 + 1 : Nat) : Int)) rfl rfl rfl (by simp [iar]) (by omega)) (r_d rfl rfl rfl (qe rfl rfl) (qj (qM [(0, .lst (b_a0.map encP)), (3, .int .i64 ((i_1 + 1 : Nat) : Int))] (Sub.cons' rfl (Sub.cons' rfl (Sub.nil _))) ?_))))))))
        exact IH0 _ _ _ (by omega) ⟨(i_1 + 1), rfl, rfl, rfl, (by omega), hr⟩
noncomputable def qbY (k : Option (Bool)) (n_a1 : Int) : List Int → Option (Bool)
  | [] =>
  k
  | q_2 :: rest =>
  (bif (q_2 == n_a1) then
  some (true)
  else
  (qbY k n_a1 rest))
noncomputable def qgL (l_a0 : (List Int)) (n_a1 : Int) : Option (Bool) :=
  (qbY (some (false)) n_a1 l_a0)
set_option maxHeartbeats 1000000 in
theorem qll (l_a0 : (List Int)) (n_a1 : Int) (res : Bool) (hr : qgL l_a0 n_a1 = some res) : Gives Tryz.prog 241 [.lst (l_a0.map (D.int .i64)), .int .i64 n_a1] (.bool res) := by
  unfold qgL at hr
  refine qR [(0, .lst (l_a0.map (D.int .i64))), (1, .int .i64 n_a1)] Tryz.func241 rfl rfl fun K hK => (qh (gr [.d] (r_d rfl rfl rfl (qe rfl rfl) (qj (qh (qh (gr [.d] (r_d rfl rfl rfl (qe rfl rfl) (qj ?_)))))))))
  obtain ⟨kk0, hkk0, hr⟩ := exK (fun k => qbY k n_a1 l_a0) hr
  refine qdG 0 rfl (asl rfl) fun hla0 => ?_
  simp only [List.length_map] at hla0
  refine qV (fun env σ => env = [] ∧ σ = [] ∧ kk0 = some res) ?_ (fun HK0 => ?_)
  ·
   rintro _ _ ⟨rfl, rfl, hr⟩
   rw [hkk0] at hr
   refine qh (gr [.d] (r_d rfl rfl rfl (qe rfl rfl) (qj ?_)))
   obtain rfl := Option.some.inj hr
   refine qJ Tryz.func241 _ (.cons (resTmp rfl (Wk.refl _)) .nil) ?_
   rfl
  ·
   refine qM [(0, .lst (l_a0.map (D.int .i64))), (1, .int .i64 n_a1), (5, .int .i64 ((0 : Nat) : Int))] (Sub.cons' rfl (Sub.cons' rfl (Sub.cons' rfl (Sub.nil _)))) (qaM (fun n env σ => ∃ (i_1 : Nat), (n = l_a0.length - i_1) ∧ (env = [(0, .lst (l_a0.map (D.int .i64))), (1, .int .i64 n_a1), (5, .int .i64 (i_1 : Int))]) ∧ (σ = []) ∧ (i_1 ≤ l_a0.length) ∧ (qbY kk0 n_a1 (l_a0.drop i_1) = some res)) _ ⟨0, rfl, rfl, rfl, Nat.zero_le _, hr⟩ ?_)
   rintro n _ _ ⟨i_1, rfl, rfl, rfl, hi0, hr⟩ IH0
   rcases listStep l_a0 i_1 hi0 with ⟨ht0, hd0, he0⟩ | ⟨q_2, ht0, hd0, hq0, hlt0⟩
   ·
    rw [hd0, qbY] at hr
    refine qh (qh (gr [.d, .d, .d, .d] (r_d rfl rfl rfl (qb rfl rfl) (r_d rfl rfl rfl (qb rfl rfl) (r_d rfl rfl rfl (qT (f := (D.int .i64)) l_a0 rfl qH rfl (asl rfl)) (r_d rfl rfl rfl (qB rfl rfl rfl rfl) (qj (qC 9 false rfl ht0 (qs rfl (qaw rfl (qM [] (Sub.nil _) ?_)))))))))))
    exact HK0 _ _ ⟨rfl, rfl, hr⟩
   ·
    rw [hd0, qbY] at hr
    refine qh (qh (gr [.d, .d, .d, .d] (r_d rfl rfl rfl (qb rfl rfl) (r_d rfl rfl rfl (qb rfl rfl) (r_d rfl rfl rfl (qT (f := (D.int .i64)) l_a0 rfl qH rfl (asl rfl)) (r_d rfl rfl rfl (qB rfl rfl rfl rfl) (qj (qC 9 true rfl ht0 (qo rfl (qE (qh ?_)))))))))))
    refine q0 (qh (gr [.d, .d, .d, .d, .d, .d] (r_d rfl rfl rfl (qb rfl rfl) (r_d rfl rfl rfl (qb rfl rfl) (r_d rfl rfl rfl (qN (f := (D.int .i64)) l_a0 rfl qH rfl (asl rfl) rfl hq0 (fun _ => rfl) rfl) (r_d rfl rfl rfl (qk rfl rfl (by exact qW) rfl) (r_d rfl rfl rfl (qb rfl rfl) (r_d rfl rfl rfl (qB rfl rfl rfl rfl) (qj ?_)))))))))
    refine g_sB 17 rfl hr (fun h17_2 hr => ?_) (fun h17_2 hr => ?_)
    ·
     refine qo rfl (qh (gr [.d] (r_d rfl rfl rfl (qe rfl rfl) (qj ?_))))
     obtain rfl := Option.some.inj hr
     refine qJ Tryz.func241 _ (.cons (resTmp rfl (Wk.refl _)) .nil) ?_
     rfl
    ·
     refine qs rfl (qE (qF (gr [.d, .d, .d] (r_d rfl rfl rfl (qb rfl rfl) (r_d rfl rfl rfl (s_ar (r := ((i_1 + 1 : Nat) : Int)) rfl rfl rfl (by simp [iar]) (by omega)) (r_d rfl rfl rfl (qe rfl rfl) (qj (qM [(0, .lst (l_a0.map (D.int .i64))), (1, .int .i64 n_a1), (5, .int .i64 ((i_1 + 1 : Nat) : Int))] (Sub.cons' rfl (Sub.cons' rfl (Sub.cons' rfl (Sub.nil _)))) ?_))))))))
     exact IH0 _ _ _ (by omega) ⟨(i_1 + 1), rfl, rfl, rfl, (by omega), hr⟩
noncomputable def qbD (k : Option (Bool)) (f_a0 : qZ) : List Int → Nat → Option (Bool)
  | [], i_5 =>
  k
  | q_6 :: rest, i_5 =>
  (bif (decide (q_6 < (1 : Int))) then
  some (false)
  else
  ((subO f_a0.f1_IDs 0 (i_5 : Int)).bind fun l_8 =>
  ((qgL l_8 q_6).bind fun r_9 =>
  (bif r_9 then
  some (false)
  else
  (qbD k f_a0 rest (i_5 + 1))))))
noncomputable def qep (f_a0 : qZ) : Option (Bool) :=
  (bif (decide (f_a0.f0_Rule < (0 : Int))) then
  some (false)
  else
  (bif (decide (f_a0.f0_Rule ≥ (40 : Int))) then
  some (false)
  else
  (bif (decide ((f_a0.f1_IDs.length : Int) < (1 : Int))) then
  some (false)
  else
  (bif (decide ((f_a0.f1_IDs.length : Int) > (4 : Int))) then
  some (false)
  else
  (qbD (some (true)) f_a0 f_a0.f1_IDs 0)))))
set_option maxHeartbeats 1000000 in
theorem qkD (f_a0 : qZ) (res : Bool) (hr : qep f_a0 = some res) : Gives Tryz.prog 219 [qq f_a0] (.bool res) := by
  unfold qep at hr
  refine qR [(0, qq f_a0)] Tryz.func219 rfl rfl fun K hK => (qh (gr [.d, .d] (r_d rfl rfl rfl (qef rfl rfl rfl) (r_d rfl rfl rfl (qe rfl rfl) (qj (qh (qh (gr [.d, .d, .d, .d, .d, .d, .d, .d, .d, .d, .d, .d, .d, .d, .d, .d, .d, .d, .d, .d] (r_d rfl rfl rfl (qg rfl qfR rfl rfl rfl rfl) (r_d rfl rfl rfl (qk rfl rfl (by exact qW) rfl) (r_d rfl rfl rfl (qB rfl rfl rfl rfl) ?_)))))))))))
  refine r_d rfl rfl rfl (qb rfl rfl) ?_
  refine r_sB 7 rfl hr (fun h7_0 hr => ?_) (fun h7_0 hr => ?_)
  ·
   refine qc rfl rfl rfl (qc rfl rfl rfl (qc rfl rfl rfl (r_d rfl rfl rfl (qy rfl rfl rfl) (r_d rfl rfl rfl (qb rfl rfl) (qc rfl rfl rfl (qc rfl rfl rfl (qc rfl rfl rfl (qc rfl rfl rfl (r_d rfl rfl rfl (qy rfl rfl rfl) (r_d rfl rfl rfl (qb rfl rfl) (qc rfl rfl rfl ?_)))))))))))
   refine qc rfl rfl rfl (qc rfl rfl rfl (qc rfl rfl rfl (r_d rfl rfl rfl (qy rfl rfl rfl) (qj (qo rfl (qh (gr [.d] (r_d rfl rfl rfl (qe rfl rfl) (qj ?_)))))))))
   obtain rfl := Option.some.inj hr
   refine qJ Tryz.func219 _ (.cons (resTmp rfl (Wk.refl _)) .nil) ?_
   rfl
  ·
   refine r_d rfl rfl rfl (qg rfl qfR rfl rfl rfl rfl) (r_d rfl rfl rfl (qk rfl rfl (by exact qW) rfl) (r_d rfl rfl rfl (qB rfl rfl rfl rfl) (r_d rfl rfl rfl (qD rfl rfl rfl) (r_d rfl rfl rfl (qb rfl rfl) ?_))))
   refine r_sB 12 rfl hr (fun h12_1 hr => ?_) (fun h12_1 hr => ?_)
   ·
    refine qc rfl rfl rfl (qc rfl rfl rfl (qc rfl rfl rfl (qc rfl rfl rfl (r_d rfl rfl rfl (qy rfl rfl rfl) (r_d rfl rfl rfl (qb rfl rfl) (qc rfl rfl rfl (qc rfl rfl rfl (qc rfl rfl rfl (qc rfl rfl rfl (r_d rfl rfl rfl (qy rfl rfl rfl) (qj ?_)))))))))))
    refine qo rfl (qh (gr [.d] (r_d rfl rfl rfl (qe rfl rfl) (qj ?_))))
    obtain rfl := Option.some.inj hr
    refine qJ Tryz.func219 _ (.cons (resTmp rfl (Wk.refl _)) .nil) ?_
    rfl
   ·
    refine r_d rfl rfl rfl (qg rfl qcb rfl rfl rfl rfl) (r_d rfl rfl rfl (qk rfl rfl (by exact qao) rfl) (r_d rfl rfl rfl (qT (f := (D.int .i64)) f_a0.f1_IDs rfl qH rfl (asl rfl)) (r_d rfl rfl rfl (qB rfl rfl rfl rfl) (r_d rfl rfl rfl (qD rfl rfl rfl) (r_d rfl rfl rfl (qb rfl rfl) ?_)))))
    refine r_sB 18 rfl hr (fun h18_2 hr => ?_) (fun h18_2 hr => ?_)
    ·
     refine qc rfl rfl rfl (qc rfl rfl rfl (qc rfl rfl rfl (qc rfl rfl rfl (r_d rfl rfl rfl (qy rfl rfl rfl) (qj (qo rfl (qh (gr [.d] (r_d rfl rfl rfl (qe rfl rfl) (qj ?_))))))))))
     obtain rfl := Option.some.inj hr
     refine qJ Tryz.func219 _ (.cons (resTmp rfl (Wk.refl _)) .nil) ?_
     rfl
    ·
     refine r_d rfl rfl rfl (qg rfl qcb rfl rfl rfl rfl) (r_d rfl rfl rfl (qk rfl rfl (by exact qao) rfl) (r_d rfl rfl rfl (qT (f := (D.int .i64)) f_a0.f1_IDs rfl qH rfl (asl rfl)) (r_d rfl rfl rfl (qB rfl rfl rfl rfl) (r_d rfl rfl rfl (qD rfl rfl rfl) (qj ?_)))))
     refine g_sB 23 rfl hr (fun h23_3 hr => ?_) (fun h23_3 hr => ?_)
     ·
      refine qo rfl (qh (gr [.d] (r_d rfl rfl rfl (qe rfl rfl) (qj ?_))))
      obtain rfl := Option.some.inj hr
      refine qJ Tryz.func219 _ (.cons (resTmp rfl (Wk.refl _)) .nil) ?_
      rfl
     ·
      refine qs rfl (qE (qh (qh (gr [.d] (r_d rfl rfl rfl (qe rfl rfl) (qj ?_))))))
      obtain ⟨kk0, hkk0, hr⟩ := exK (fun k => qbD k f_a0 f_a0.f1_IDs 0) hr
      refine qdG 14 rfl (asl rfl) fun hla0 => ?_
      simp only [List.length_map] at hla0
      refine qV (fun env σ => env = [] ∧ σ = [] ∧ kk0 = some res) ?_ (fun HK0 => ?_)
      ·
       rintro _ _ ⟨rfl, rfl, hr⟩
       rw [hkk0] at hr
       refine qh (gr [.d] (r_d rfl rfl rfl (qe rfl rfl) (qj ?_)))
       obtain rfl := Option.some.inj hr
       refine qJ Tryz.func219 _ (.cons (resTmp rfl (Wk.refl _)) .nil) ?_
       rfl
      ·
       refine qM [(1, .ptr (qq f_a0)), (3, .int .i64 ((0 : Nat) : Int))] (Sub.cons' rfl (Sub.cons' rfl (Sub.nil _))) (qaM (fun n env σ => ∃ (i_5 : Nat), (n = f_a0.f1_IDs.length - i_5) ∧ (env = [(1, .ptr (qq f_a0)), (3, .int .i64 (i_5 : Int))]) ∧ (σ = []) ∧ (i_5 ≤ f_a0.f1_IDs.length) ∧ (qbD kk0 f_a0 (f_a0.f1_IDs.drop i_5) i_5 = some res)) _ ⟨0, rfl, rfl, rfl, Nat.zero_le _, hr⟩ ?_)
       rintro n _ _ ⟨i_5, rfl, rfl, rfl, hi0, hr⟩ IH0
       rcases listStep f_a0.f1_IDs i_5 hi0 with ⟨ht0, hd0, he0⟩ | ⟨q_6, ht0, hd0, hq0, hlt0⟩
       ·
        rw [hd0, qbD] at hr
        refine qh (qh (gr [.d, .d, .d, .d, .d] (r_d rfl rfl rfl (qb rfl rfl) (r_d rfl rfl rfl (qg rfl qcb rfl rfl rfl rfl) (r_d rfl rfl rfl (qk rfl rfl (by exact qao) rfl) (r_d rfl rfl rfl (qT (f := (D.int .i64)) f_a0.f1_IDs rfl qH rfl (asl rfl)) (r_d rfl rfl rfl (qB rfl rfl rfl rfl) (qj (qC 28 false rfl ht0 (qs rfl (qaw rfl ?_)))))))))))
        refine qM [] (Sub.nil _) ?_
        exact HK0 _ _ ⟨rfl, rfl, hr⟩
       ·
        rw [hd0, qbD] at hr
        refine qh (qh (gr [.d, .d, .d, .d, .d] (r_d rfl rfl rfl (qb rfl rfl) (r_d rfl rfl rfl (qg rfl qcb rfl rfl rfl rfl) (r_d rfl rfl rfl (qk rfl rfl (by exact qao) rfl) (r_d rfl rfl rfl (qT (f := (D.int .i64)) f_a0.f1_IDs rfl qH rfl (asl rfl)) (r_d rfl rfl rfl (qB rfl rfl rfl rfl) (qj (qC 28 true rfl ht0 (qo rfl (qE ?_)))))))))))
        refine qh (q0 (qh (ga [(0, .d), (1, .d), (2, .d), (3, .d), (4, .d), (5, .d), (6, .d), (7, .d), (8, .d), (9, .d), (10, .d), (11, .d), (12, .d), (13, .d), (14, .d), (15, .d), (16, .d), (17, .d)] (r_d rfl rfl rfl (qg rfl qcb rfl rfl rfl rfl) (r_d rfl rfl rfl (qk rfl rfl (by exact qao) rfl) (r_d rfl rfl rfl (qb rfl rfl) (r_d rfl rfl rfl (qN (f := (D.int .i64)) f_a0.f1_IDs rfl qH rfl (asl rfl) rfl hq0 (fun _ => rfl) rfl) (r_d rfl rfl rfl (qk rfl rfl (by exact qW) rfl) (r_d rfl rfl rfl (qB rfl rfl rfl rfl) (r_d rfl rfl rfl (qb rfl rfl) ?_))))))))))
        refine r_sB 37 rfl hr (fun h37_6 hr => ?_) (fun h37_6 hr => ?_)
        ·
         refine qc rfl rfl rfl (qc rfl rfl rfl (qc rfl rfl rfl (qc rfl rfl rfl (qc rfl rfl rfl (qc rfl rfl rfl (qc rfl rfl rfl (qc rfl rfl rfl (qc rfl rfl rfl (qc rfl rfl rfl (r_d rfl rfl rfl (qy rfl rfl rfl) (qj ?_)))))))))))
         refine qo rfl (qh (gr [.d] (r_d rfl rfl rfl (qe rfl rfl) (qj ?_))))
         obtain rfl := Option.some.inj hr
         refine qJ Tryz.func219 _ (.cons (resTmp rfl (Wk.refl _)) .nil) ?_
         rfl
        ·
         refine r_d rfl rfl rfl (qg rfl qcb rfl rfl rfl rfl) (r_d rfl rfl rfl (qk rfl rfl (by exact qao) rfl) (r_d rfl rfl rfl (qb rfl rfl) ?_))
         obtain ⟨l_8, hl_8, hr⟩ := bindS hr
         refine r_d rfl rfl rfl (qpV (f := (D.int .i64)) f_a0.f1_IDs 0 (i_5 : Int) rfl qH rfl (asl rfl) qn2 (qnA rfl) (fun _ => rfl) hl_8) (r_d rfl rfl rfl (qg rfl qcb rfl rfl rfl rfl) (r_d rfl rfl rfl (qk rfl rfl (by exact qao) rfl) (r_d rfl rfl rfl (qb rfl rfl) (r_d rfl rfl rfl (qN (f := (D.int .i64)) f_a0.f1_IDs rfl qH rfl (asl rfl) rfl hq0 (fun _ => rfl) rfl) (r_d rfl rfl rfl (qk rfl rfl (by exact qW) rfl) ?_)))))
         obtain ⟨r_9, hr_9, hr⟩ := bindS hr
         refine r_d rfl rfl rfl (qK rfl qli (.oc rfl (.oc rfl .nil)) (qll _ _ _ hr_9)) (r_d rfl rfl rfl (qD rfl rfl rfl) (qj ?_))
         refine g_sB 48 rfl hr (fun h48_9 hr => ?_) (fun h48_9 hr => ?_)
         ·
          refine qo rfl (qh (gr [.d] (r_d rfl rfl rfl (qe rfl rfl) (qj ?_))))
          obtain rfl := Option.some.inj hr
          refine qJ Tryz.func219 _ (.cons (resTmp rfl (Wk.refl _)) .nil) ?_
          rfl
         ·
          refine qs rfl (qE (qF (gr [.d, .d, .d] (r_d rfl rfl rfl (qb rfl rfl) (r_d rfl rfl rfl (s_ar (r := ((i_5 + 1 : Nat) : Int)) rfl rfl rfl (by simp [iar]) (by omega)) (r_d rfl rfl rfl (qe rfl rfl) (qj (qM [(1, .ptr (qq f_a0)), (3, .int .i64 ((i_5 + 1 : Nat) : Int))] (Sub.cons' rfl (Sub.cons' rfl (Sub.nil _))) ?_))))))))
          exact IH0 _ _ _ (by omega) ⟨(i_5 + 1), rfl, rfl, rfl, (by omega), hr⟩
noncomputable def qaG (k : Option (Bool)) (l_a0 : (List qZ)) : List qZ → Nat → Option (Bool)
  | [], i_2 =>
  k
  | q_3 :: rest, i_2 =>
  ((qep q_3).bind fun r_4 =>
  (bif (!r_4) then
  some (false)
  else
  (bif (decide ((i_2 : Int) > (0 : Int))) then
  ((getI l_a0 (wr ((i_2 : Int) - (1 : Int)))).bind fun q_7 =>
  ((qdN q_7 q_3).bind fun r_8 =>
  (bif (decide (r_8 ≥ (0 : Int))) then
  some (false)
  else
  (qaG k l_a0 rest (i_2 + 1)))))
  else
  (qaG k l_a0 rest (i_2 + 1)))))
noncomputable def qen (l_a0 : (List qZ)) : Option (Bool) :=
  (bif (decide ((l_a0.length : Int) > (5000 : Int))) then
  some (false)
  else
  (qaG (some (true)) l_a0 l_a0 0))
set_option maxHeartbeats 1000000 in
theorem qkG (l_a0 : (List qZ)) (res : Bool) (hr : qen l_a0 = some res) : Gives Tryz.prog 174 [.lst (l_a0.map qq)] (.bool res) := by
  unfold qen at hr
  refine qR [(0, .lst (l_a0.map qq))] Tryz.func174 rfl rfl fun K hK => (qh (gr [.d] (r_d rfl rfl rfl (qe rfl rfl) (qj (qh (qh (gr [.d, .d, .d] (r_d rfl rfl rfl (qb rfl rfl) (r_d rfl rfl rfl (qT (f := qq) l_a0 rfl qbh rfl (asl rfl)) (r_d rfl rfl rfl (qB rfl rfl rfl rfl) (qj ?_)))))))))))
  refine g_sB 6 rfl hr (fun h6_0 hr => ?_) (fun h6_0 hr => ?_)
  ·
   refine qo rfl (qh (gr [.d] (r_d rfl rfl rfl (qe rfl rfl) (qj ?_))))
   obtain rfl := Option.some.inj hr
   refine qJ Tryz.func174 _ (.cons (resTmp rfl (Wk.refl _)) .nil) ?_
   rfl
  ·
   refine qs rfl (qE (qh (qh (gr [.d] (r_d rfl rfl rfl (qe rfl rfl) (qj ?_))))))
   obtain ⟨kk0, hkk0, hr⟩ := exK (fun k => qaG k l_a0 l_a0 0) hr
   refine qdG 0 rfl (asl rfl) fun hla0 => ?_
   simp only [List.length_map] at hla0
   refine qV (fun env σ => env = [] ∧ σ = [] ∧ kk0 = some res) ?_ (fun HK0 => ?_)
   ·
    rintro _ _ ⟨rfl, rfl, hr⟩
    rw [hkk0] at hr
    refine qh (gr [.d] (r_d rfl rfl rfl (qe rfl rfl) (qj ?_)))
    obtain rfl := Option.some.inj hr
    refine qJ Tryz.func174 _ (.cons (resTmp rfl (Wk.refl _)) .nil) ?_
    rfl
   ·
    refine qM [(0, .lst (l_a0.map qq)), (3, .int .i64 ((0 : Nat) : Int))] (Sub.cons' rfl (Sub.cons' rfl (Sub.nil _))) (qaM (fun n env σ => ∃ (i_2 : Nat), (n = l_a0.length - i_2) ∧ (env = [(0, .lst (l_a0.map qq)), (3, .int .i64 (i_2 : Int))]) ∧ (σ = []) ∧ (i_2 ≤ l_a0.length) ∧ (qaG kk0 l_a0 (l_a0.drop i_2) i_2 = some res)) _ ⟨0, rfl, rfl, rfl, Nat.zero_le _, hr⟩ ?_)
    rintro n _ _ ⟨i_2, rfl, rfl, rfl, hi0, hr⟩ IH0
    rcases listStep l_a0 i_2 hi0 with ⟨ht0, hd0, he0⟩ | ⟨q_3, ht0, hd0, hq0, hlt0⟩
    ·
     rw [hd0, qaG] at hr
     refine qh (qh (gr [.d, .d, .d, .d] (r_d rfl rfl rfl (qb rfl rfl) (r_d rfl rfl rfl (qb rfl rfl) (r_d rfl rfl rfl (qT (f := qq) l_a0 rfl qbh rfl (asl rfl)) (r_d rfl rfl rfl (qB rfl rfl rfl rfl) (qj (qC 10 false rfl ht0 (qs rfl (qaw rfl (qM [] (Sub.nil _) ?_)))))))))))
     exact HK0 _ _ ⟨rfl, rfl, hr⟩
    ·
     rw [hd0, qaG] at hr
     refine qh (qh (gr [.d, .d, .d, .d] (r_d rfl rfl rfl (qb rfl rfl) (r_d rfl rfl rfl (qb rfl rfl) (r_d rfl rfl rfl (qT (f := qq) l_a0 rfl qbh rfl (asl rfl)) (r_d rfl rfl rfl (qB rfl rfl rfl rfl) (qj (qC 10 true rfl ht0 (qo rfl (qE (qh ?_)))))))))))
     refine q0 (qh (ga [(0, .d), (1, .d), (2, .d), (3, .d), (4, .d), (5, .d), (6, .d), (7, .d), (8, .d), (9, .d), (10, .d), (11, .d), (12, .d), (13, .d), (14, .d), (15, .d), (16, .d), (17, .d), (18, .d), (19, .d), (20, .d), (21, .d), (22, .d)] (r_d rfl rfl rfl (qb rfl rfl) (r_d rfl rfl rfl (qb rfl rfl) (r_d rfl rfl rfl (qN (f := qq) l_a0 rfl qbh rfl (asl rfl) rfl hq0 qb9 rfl) (r_d rfl rfl rfl (qk rfl rfl (by exact qgS) (qb9 _)) ?_))))))
     obtain ⟨r_4, hr_4, hr⟩ := bindS hr
     refine r_d rfl rfl rfl (qK rfl qkv (.oc rfl .nil) (qkD _ _ hr_4)) (r_d rfl rfl rfl (qdO rfl rfl) (r_d rfl rfl rfl (qb rfl rfl) ?_))
     refine r_sB 19 rfl hr (fun h19_4 hr => ?_) (fun h19_4 hr => ?_)
     ·
      refine qc rfl rfl rfl (qc rfl rfl rfl (qc rfl rfl rfl (qc rfl rfl rfl (qc rfl rfl rfl (qc rfl rfl rfl (qc rfl rfl rfl (qc rfl rfl rfl (qc rfl rfl rfl (qc rfl rfl rfl (qc rfl rfl rfl (qc rfl rfl rfl ?_)))))))))))
      refine qc rfl rfl rfl (qc rfl rfl rfl (qc rfl rfl rfl (r_d rfl rfl rfl (qy rfl rfl rfl) (qj (qo rfl (qh (gr [.d] (r_d rfl rfl rfl (qe rfl rfl) (qj ?_)))))))))
      obtain rfl := Option.some.inj hr
      refine qJ Tryz.func174 _ (.cons (resTmp rfl (Wk.refl _)) .nil) ?_
      rfl
     ·
      refine r_d rfl rfl rfl (qb rfl rfl) (r_d rfl rfl rfl (qB rfl rfl rfl rfl) (r_d rfl rfl rfl (qb rfl rfl) ?_))
      refine r_sB 22 rfl hr (fun h22_5 hr => ?_) (fun h22_5 hr => ?_)
      ·
       refine r_d rfl rfl rfl (qb rfl rfl) (r_d rfl rfl rfl (qb rfl rfl) (r_d rfl rfl rfl (qkF rfl rfl rfl rfl) ?_))
       obtain ⟨q_7, hq_7, hr⟩ := bindS hr
       refine r_d rfl rfl rfl (qN (f := qq) l_a0 rfl qbh rfl (asl rfl) rfl hq_7 qb9 rfl) (r_d rfl rfl rfl (qk rfl rfl (by exact qgS) (qb9 _)) (r_d rfl rfl rfl (qb rfl rfl) (r_d rfl rfl rfl (qb rfl rfl) (r_d rfl rfl rfl (qN (f := qq) l_a0 rfl qbh rfl (asl rfl) rfl hq0 qb9 rfl) (r_d rfl rfl rfl (qk rfl rfl (by exact qgS) (qb9 _)) ?_)))))
       obtain ⟨r_8, hr_8, hr⟩ := bindS hr
       refine r_d rfl rfl rfl (qK rfl qjM (.oc rfl (.oc rfl .nil)) (qjK _ _ _ hr_8)) (r_d rfl rfl rfl (qB rfl rfl rfl rfl) (r_d rfl rfl rfl (qy rfl rfl rfl) (r_d rfl rfl rfl (qD rfl rfl rfl) (qj ?_))))
       refine g_sB 35 rfl hr (fun h35_8 hr => ?_) (fun h35_8 hr => ?_)
       ·
        refine qo rfl (qh (gr [.d] (r_d rfl rfl rfl (qe rfl rfl) (qj ?_))))
        obtain rfl := Option.some.inj hr
        refine qJ Tryz.func174 _ (.cons (resTmp rfl (Wk.refl _)) .nil) ?_
        rfl
       ·
        refine qs rfl (qE (qF (gr [.d, .d, .d] (r_d rfl rfl rfl (qb rfl rfl) (r_d rfl rfl rfl (s_ar (r := ((i_2 + 1 : Nat) : Int)) rfl rfl rfl (by simp [iar]) (by omega)) (r_d rfl rfl rfl (qe rfl rfl) (qj (qM [(0, .lst (l_a0.map qq)), (3, .int .i64 ((i_2 + 1 : Nat) : Int))] (Sub.cons' rfl (Sub.cons' rfl (Sub.nil _))) ?_))))))))
        exact IH0 _ _ _ (by omega) ⟨(i_2 + 1), rfl, rfl, rfl, (by omega), hr⟩
      ·
       refine qc rfl rfl rfl (qc rfl rfl rfl (qc rfl rfl rfl (qc rfl rfl rfl (qc rfl rfl rfl (qc rfl rfl rfl (qc rfl rfl rfl (qc rfl rfl rfl (qc rfl rfl rfl (qc rfl rfl rfl (qc rfl rfl rfl (r_d rfl rfl rfl (qD rfl rfl rfl) ?_)))))))))))
       refine r_d rfl rfl rfl (qD rfl rfl rfl) (qj (qs rfl (qE (qF (gr [.d, .d, .d] (r_d rfl rfl rfl (qb rfl rfl) (r_d rfl rfl rfl (s_ar (r := ((i_2 + 1 : Nat) : Int)) rfl rfl rfl (by simp [iar]) (by omega)) (r_d rfl rfl rfl (qe rfl rfl) (qj (qM [(0, .lst (l_a0.map qq)), (3, .int .i64 ((i_2 + 1 : Nat) : Int))] (Sub.cons' rfl (Sub.cons' rfl (Sub.nil _))) ?_))))))))))
       exact IH0 _ _ _ (by omega) ⟨(i_2 + 1), rfl, rfl, rfl, (by omega), hr⟩
noncomputable def qbB (fuel : Nat) (a_a0 : At) : Option ((List Int)) :=
  ((qcj fuel a_a0.ts).bind fun r_1 =>
  some (r_1))
set_option maxHeartbeats 1000000 in
theorem qeH (fuel : Nat) (a_a0 : At) (res : (List Int)) (hr : qbB fuel a_a0 = some res) : Gives Tryz.prog 176 [encA a_a0] (.lst (res.map (D.int .i64))) := by
  unfold qbB at hr
  refine qR [(0, encA a_a0)] Tryz.func176 rfl rfl fun K hK => (qh (gr [.d, .d] (r_d rfl rfl rfl (qef rfl rfl rfl) (r_d rfl rfl rfl (qe rfl rfl) (qj (qh (gr [.d, .d, .d, .d] (r_d rfl rfl rfl (qg rfl qeb rfl rfl rfl rfl) (r_d rfl rfl rfl (qk rfl rfl (by exact qal) rfl) ?_)))))))))
  obtain ⟨r_1, hr_1, hr⟩ := bindS hr
  refine r_d rfl rfl rfl (qK rfl qe3 (.oc rfl .nil) (qeW fuel _ _ hr_1)) (r_d rfl rfl rfl (qe rfl rfl) (qj ?_))
  obtain rfl := Option.some.inj hr
  refine qJ Tryz.func176 _ (.cons (resTmp rfl (Wk.refl _)) .nil) ?_
  rfl
noncomputable def qbM (k : Option (Bool)) (b_a2 : (List (Int × T))) (fresh_a1 : Int) : List Int → Option (Bool)
  | [] =>
  k
  | q_2 :: rest =>
  (bif (decide (q_2 ≥ fresh_a1)) then
  some (false)
  else
  ((qd8 b_a2 q_2).bind fun r_4 =>
  (bif r_4.2 then
  some (false)
  else
  (qbM k b_a2 fresh_a1 rest))))
noncomputable def qcC (vars_a0 : (List Int)) (fresh_a1 : Int) (b_a2 : (List (Int × T))) : Option (Bool) :=
  (qbM (some (true)) b_a2 fresh_a1 vars_a0)
set_option maxHeartbeats 1000000 in
theorem qgh (vars_a0 : (List Int)) (fresh_a1 : Int) (b_a2 : (List (Int × T))) (res : Bool) (hr : qcC vars_a0 fresh_a1 b_a2 = some res) : Gives Tryz.prog 175 [.lst (vars_a0.map (D.int .i64)), .int .i64 fresh_a1, .lst (b_a2.map encP)] (.bool res) := by
  unfold qcC at hr
  refine qR [(0, .lst (vars_a0.map (D.int .i64))), (1, .int .i64 fresh_a1), (2, .lst (b_a2.map encP))] Tryz.func175 rfl rfl fun K hK => (qh (gr [.d] (r_d rfl rfl rfl (qe rfl rfl) (qj (qh (qh (gr [.d] (r_d rfl rfl rfl (qe rfl rfl) (qj ?_)))))))))
  obtain ⟨kk0, hkk0, hr⟩ := exK (fun k => qbM k b_a2 fresh_a1 vars_a0) hr
  refine qdG 0 rfl (asl rfl) fun hla0 => ?_
  simp only [List.length_map] at hla0
  refine qV (fun env σ => env = [] ∧ σ = [] ∧ kk0 = some res) ?_ (fun HK0 => ?_)
  ·
   rintro _ _ ⟨rfl, rfl, hr⟩
   rw [hkk0] at hr
   refine qh (gr [.d] (r_d rfl rfl rfl (qe rfl rfl) (qj ?_)))
   obtain rfl := Option.some.inj hr
   refine qJ Tryz.func175 _ (.cons (resTmp rfl (Wk.refl _)) .nil) ?_
   rfl
  ·
   refine qM [(0, .lst (vars_a0.map (D.int .i64))), (1, .int .i64 fresh_a1), (2, .lst (b_a2.map encP)), (7, .int .i64 ((0 : Nat) : Int))] (Sub.cons' rfl (Sub.cons' rfl (Sub.cons' rfl (Sub.cons' rfl (Sub.nil _))))) (qaM (fun n env σ => ∃ (i_1 : Nat), (n = vars_a0.length - i_1) ∧ (env = [(0, .lst (vars_a0.map (D.int .i64))), (1, .int .i64 fresh_a1), (2, .lst (b_a2.map encP)), (7, .int .i64 (i_1 : Int))]) ∧ (σ = []) ∧ (i_1 ≤ vars_a0.length) ∧ (qbM kk0 b_a2 fresh_a1 (vars_a0.drop i_1) = some res)) _ ⟨0, rfl, rfl, rfl, Nat.zero_le _, hr⟩ ?_)
   rintro n _ _ ⟨i_1, rfl, rfl, rfl, hi0, hr⟩ IH0
   rcases listStep vars_a0 i_1 hi0 with ⟨ht0, hd0, he0⟩ | ⟨q_2, ht0, hd0, hq0, hlt0⟩
   ·
    rw [hd0, qbM] at hr
    refine qh (qh (gr [.d, .d, .d, .d] (r_d rfl rfl rfl (qb rfl rfl) (r_d rfl rfl rfl (qb rfl rfl) (r_d rfl rfl rfl (qT (f := (D.int .i64)) vars_a0 rfl qH rfl (asl rfl)) (r_d rfl rfl rfl (qB rfl rfl rfl rfl) (qj (qC 13 false rfl ht0 (qs rfl (qaw rfl (qM [] (Sub.nil _) ?_)))))))))))
    exact HK0 _ _ ⟨rfl, rfl, hr⟩
   ·
    rw [hd0, qbM] at hr
    refine qh (qh (gr [.d, .d, .d, .d] (r_d rfl rfl rfl (qb rfl rfl) (r_d rfl rfl rfl (qb rfl rfl) (r_d rfl rfl rfl (qT (f := (D.int .i64)) vars_a0 rfl qH rfl (asl rfl)) (r_d rfl rfl rfl (qB rfl rfl rfl rfl) (qj (qC 13 true rfl ht0 (qo rfl (qE (qh ?_)))))))))))
    refine q0 (qh (qh (gr [.d, .d, .d, .d, .d, .d] (r_d rfl rfl rfl (qb rfl rfl) (r_d rfl rfl rfl (qb rfl rfl) (r_d rfl rfl rfl (qN (f := (D.int .i64)) vars_a0 rfl qH rfl (asl rfl) rfl hq0 (fun _ => rfl) rfl) (r_d rfl rfl rfl (qk rfl rfl (by exact qW) rfl) (r_d rfl rfl rfl (qb rfl rfl) (r_d rfl rfl rfl (qB rfl rfl rfl rfl) (qj ?_))))))))))
    refine g_sB 21 rfl hr (fun h21_2 hr => ?_) (fun h21_2 hr => ?_)
    ·
     refine qo rfl (qh (gr [.d] (r_d rfl rfl rfl (qe rfl rfl) (qj ?_))))
     obtain rfl := Option.some.inj hr
     refine qJ Tryz.func175 _ (.cons (resTmp rfl (Wk.refl _)) .nil) ?_
     rfl
    ·
     refine qs rfl (qE (qh (gr [.d, .d, .d, .d, .d, .d, .d, .d, .d, .w, .w, .d] (r_d rfl rfl rfl (qb rfl rfl) (r_d rfl rfl rfl (qb rfl rfl) (r_d rfl rfl rfl (qb rfl rfl) (r_d rfl rfl rfl (qN (f := (D.int .i64)) vars_a0 rfl qH rfl (asl rfl) rfl hq0 (fun _ => rfl) rfl) (r_d rfl rfl rfl (qk rfl rfl (by exact qW) rfl) ?_))))))))
     obtain ⟨r_4, hr_4, hr⟩ := bindS hr
     refine r_d rfl rfl rfl (qK rfl qhC (.oc rfl (.oc rfl .nil)) (qhx _ _ _ hr_4)) (r_d rfl rfl rfl (qb rfl rfl) (r_d rfl rfl rfl (qaH rfl rfl rfl) (r_d rfl rfl rfl (qaH rfl rfl rfl) (r_w rfl rfl rfl (qa8 rfl qhO) ?_))))
     rintro _ _ ⟨b8_4, rfl, rfl⟩
     refine qbE rfl rfl rfl (qag _ rfl rfl rfl (Wk.refl _) (pf0 _) (by exact qav) (qck _) rfl rfl) (r_d rfl rfl rfl (qe rfl rfl) (qj (qaT 8 b8_4 rfl (pf0 _) (qh (gr [.d] (r_d rfl rfl rfl (qb rfl rfl) (qj ?_)))))))
     refine g_sB 31 rfl hr (fun h31_5 hr => ?_) (fun h31_5 hr => ?_)
     ·
      refine qo rfl (qh (gr [.d] (r_d rfl rfl rfl (qe rfl rfl) (qj ?_))))
      obtain rfl := Option.some.inj hr
      refine qJ Tryz.func175 _ (.cons (resTmp rfl (Wk.refl _)) .nil) ?_
      rfl
     ·
      refine qs rfl (qE (qF (gr [.d, .d, .d] (r_d rfl rfl rfl (qb rfl rfl) (r_d rfl rfl rfl (s_ar (r := ((i_1 + 1 : Nat) : Int)) rfl rfl rfl (by simp [iar]) (by omega)) (r_d rfl rfl rfl (qe rfl rfl) (qj (qM [(0, .lst (vars_a0.map (D.int .i64))), (1, .int .i64 fresh_a1), (2, .lst (b_a2.map encP)), (7, .int .i64 ((i_1 + 1 : Nat) : Int))] (Sub.cons' rfl (Sub.cons' rfl (Sub.cons' rfl (Sub.cons' rfl (Sub.nil _))))) ?_))))))))
      exact IH0 _ _ _ (by omega) ⟨(i_1 + 1), rfl, rfl, rfl, (by omega), hr⟩
noncomputable def qdP (r_a0 : qU) : Option (Bool) :=
  some (((r_a0.f2_Remove.length : Int) == (0 : Int)))
set_option maxHeartbeats 1000000 in
theorem qiJ (r_a0 : qU) (res : Bool) (hr : qdP r_a0 = some res) : Gives Tryz.prog 178 [qm r_a0] (.bool res) := by
  unfold qdP at hr
  refine qR [(0, qm r_a0)] Tryz.func178 rfl rfl fun K hK => (qh (gr [.d, .d] (r_d rfl rfl rfl (qef rfl rfl rfl) (r_d rfl rfl rfl (qe rfl rfl) (qj (qh (gr [.d, .d, .d, .d, .d] (r_d rfl rfl rfl (qg rfl qe2 rfl rfl rfl rfl) (r_d rfl rfl rfl (qk rfl rfl (by exact qca) rfl) (r_d rfl rfl rfl (qT (f := encA) r_a0.f2_Remove rfl qS rfl (asl rfl)) (r_d rfl rfl rfl (qB rfl rfl rfl rfl) ?_)))))))))))
  refine r_d rfl rfl rfl (qe rfl rfl) (qj ?_)
  obtain rfl := Option.some.inj hr
  refine qJ Tryz.func178 _ (.cons (resTmp rfl (Wk.refl _)) .nil) ?_
  rfl
noncomputable def qdt (r_a0 : qU) : Option ((List At)) :=
  ((appO 40 [] r_a0.f1_Keep).bind fun l_3 =>
  ((appO 40 l_3 r_a0.f2_Remove).bind fun l_5 =>
  some (l_5)))
set_option maxHeartbeats 1000000 in
theorem qib (r_a0 : qU) (res : (List At)) (hr : qdt r_a0 = some res) : Gives Tryz.prog 179 [qm r_a0] (.lst (res.map encA)) := by
  unfold qdt at hr
  refine qR [(0, qm r_a0)] Tryz.func179 rfl rfl fun K hK => (qh (gr [.d, .w] (r_d rfl rfl rfl (qef rfl rfl rfl) (r_w rfl rfl rfl (qcw 107 2 (.inl rfl)) ?_))))
  rintro _ _ ⟨u2_0, rfl, rfl⟩
  refine qj (qh (gr [.w] (r_w rfl rfl rfl (qcw 107 2 (.inl rfl)) ?_)))
  rintro _ _ ⟨u3_1, rfl, rfl⟩
  refine qj (qh (gr [.d, .d, .d, .w, .d] (r_d rfl rfl rfl (qb rfl rfl) (r_d rfl rfl rfl (qg rfl qeV rfl rfl rfl rfl) (r_d rfl rfl rfl (qk rfl rfl (by exact qca) rfl) ?_)))))
  obtain ⟨l_3, hl_3, hr⟩ := bindS hr
  refine r_w rfl rfl rfl (qcK (f := encA) [] r_a0.f1_Keep rfl qS rfl rfl (asl rfl) (pf0 _) rfl qan hl_3) ?_
  rintro _ _ ⟨u7_3, rfl, rfl⟩
  refine r_d rfl rfl rfl (qe rfl rfl) (qj (qh (gr [.d, .d, .d, .w, .d] (r_d rfl rfl rfl (qb rfl rfl) (r_d rfl rfl rfl (qg rfl qe2 rfl rfl rfl rfl) (r_d rfl rfl rfl (qk rfl rfl (by exact qca) rfl) ?_))))))
  obtain ⟨l_5, hl_5, hr⟩ := bindS hr
  refine r_w rfl rfl rfl (qcK (f := encA) l_3 r_a0.f2_Remove rfl qS rfl rfl (asl rfl) (pf0 _) rfl qan hl_5) ?_
  rintro _ _ ⟨u11_5, rfl, rfl⟩
  refine r_d rfl rfl rfl (qe rfl rfl) (qj ?_)
  obtain rfl := Option.some.inj hr
  refine qJ Tryz.func179 _ (.cons (resTmp rfl (Wk.own _ _)) .nil) ?_
  rfl
noncomputable def qbH (k : Option (At × Bool)) (id_a1 : Int) : List (Int × At) → Option (At × Bool)
  | [] =>
  k
  | q_3 :: rest =>
  (bif (q_3.1 == id_a1) then
  some (q_3.2, true)
  else
  (qbH k id_a1 rest))
noncomputable def qfw (l_a0 : (List (Int × At))) (id_a1 : Int) : Option (At × Bool) :=
  (qbH (some ((⟨⟨#[]⟩, []⟩ : At), false)) id_a1 l_a0)
set_option maxHeartbeats 1000000 in
theorem qkL (l_a0 : (List (Int × At))) (id_a1 : Int) (res : At × Bool) (hr : qfw l_a0 id_a1 = some res) : Gives Tryz.prog 180 [.lst (l_a0.map encIt), .int .i64 id_a1] (.tup [encA res.1, .bool res.2]) := by
  unfold qfw at hr
  refine qR [(0, .lst (l_a0.map encIt)), (1, .int .i64 id_a1)] Tryz.func180 rfl rfl fun K hK => (qh (gr [.w, .d] (r_w rfl rfl rfl (qa8 rfl qjv) ?_)))
  rintro _ _ ⟨b4_0, rfl, rfl⟩
  refine r_d rfl rfl rfl (qe rfl rfl) (qj (qh (qh (gr [.d] (r_d rfl rfl rfl (qe rfl rfl) (qj ?_))))))
  obtain ⟨kk0, hkk0, hr⟩ := exK (fun k => qbH k id_a1 l_a0) hr
  refine qdG 0 rfl (asl rfl) fun hla0 => ?_
  simp only [List.length_map] at hla0
  refine qV (fun env σ => env = [(4, .ref b4_0 0 [])] ∧ σ = [.cell b4_0 (.agg [.str ⟨#[]⟩, .lst ([].map encT)])] ∧ kk0 = some res) ?_ (fun HK0 => ?_)
  ·
   rintro _ _ ⟨rfl, rfl, hr⟩
   rw [hkk0] at hr
   refine qh (gr [.d, .w, .d] (r_d rfl rfl rfl (qeB rfl ql9 .nil (.nil _)) (qbE rfl rfl rfl (qag _ rfl rfl rfl (Wk.refl _) (pf0 _) (by exact qbQ) rfl rfl rfl) (r_d rfl rfl rfl (qe rfl rfl) (qj ?_)))))
   obtain rfl := Option.some.inj hr
   refine qJ Tryz.func180 _ (.cons (resRef rfl (.head _) (by exact qbQ) rfl (Wk.refl _)) (.cons (resTmp rfl (Wk.refl _)) .nil)) ?_
   rfl
  ·
   refine qM [(0, .lst (l_a0.map encIt)), (1, .int .i64 id_a1), (4, .ref b4_0 0 []), (6, .int .i64 ((0 : Nat) : Int))] (Sub.cons' rfl (Sub.cons' rfl (Sub.cons' rfl (Sub.cons' rfl (Sub.nil _))))) (qaM (fun n env σ => ∃ (i_2 : Nat), (n = l_a0.length - i_2) ∧ (env = [(0, .lst (l_a0.map encIt)), (1, .int .i64 id_a1), (4, .ref b4_0 0 []), (6, .int .i64 (i_2 : Int))]) ∧ (σ = [.cell b4_0 (.agg [.str ⟨#[]⟩, .lst ([].map encT)])]) ∧ (i_2 ≤ l_a0.length) ∧ (qbH kk0 id_a1 (l_a0.drop i_2) = some res)) _ ⟨0, rfl, rfl, rfl, Nat.zero_le _, hr⟩ ?_)
   rintro n _ _ ⟨i_2, rfl, rfl, rfl, hi0, hr⟩ IH0
   rcases listStep l_a0 i_2 hi0 with ⟨ht0, hd0, he0⟩ | ⟨q_3, ht0, hd0, hq0, hlt0⟩
   ·
    rw [hd0, qbH] at hr
    refine qh (qh (gr [.d, .d, .d, .d] (r_d rfl rfl rfl (qb rfl rfl) (r_d rfl rfl rfl (qb rfl rfl) (r_d rfl rfl rfl (qT (f := encIt) l_a0 rfl qa7 rfl (asl rfl)) (r_d rfl rfl rfl (qB rfl rfl rfl rfl) (qj (qC 10 false rfl ht0 (qs rfl (qaw rfl (qM [(4, .ref b4_0 0 [])] (Sub.cons' rfl (Sub.nil _)) ?_)))))))))))
    exact HK0 _ _ ⟨rfl, rfl, hr⟩
   ·
    rw [hd0, qbH] at hr
    refine qh (qh (gr [.d, .d, .d, .d] (r_d rfl rfl rfl (qb rfl rfl) (r_d rfl rfl rfl (qb rfl rfl) (r_d rfl rfl rfl (qT (f := encIt) l_a0 rfl qa7 rfl (asl rfl)) (r_d rfl rfl rfl (qB rfl rfl rfl rfl) (qj (qC 10 true rfl ht0 (qo rfl (qE (qh ?_)))))))))))
    refine q0 (qh (gr [.d, .d, .d, .d, .d, .d, .d] (r_d rfl rfl rfl (qb rfl rfl) (r_d rfl rfl rfl (qb rfl rfl) (r_d rfl rfl rfl (qN (f := encIt) l_a0 rfl qa7 rfl (asl rfl) rfl hq0 qfW rfl) (r_d rfl rfl rfl (qg rfl qg8 rfl rfl rfl rfl) (r_d rfl rfl rfl (qk rfl rfl (by exact qW) rfl) (r_d rfl rfl rfl (qb rfl rfl) (r_d rfl rfl rfl (qB rfl rfl rfl rfl) (qj ?_))))))))))
    refine g_sB 19 rfl hr (fun h19_3 hr => ?_) (fun h19_3 hr => ?_)
    ·
     refine qo rfl (qh (gr [.d, .d, .d, .d, .d, .w, .d] (r_d rfl rfl rfl (qb rfl rfl) (r_d rfl rfl rfl (qb rfl rfl) (r_d rfl rfl rfl (qN (f := encIt) l_a0 rfl qa7 rfl (asl rfl) rfl hq0 qfW rfl) (r_d rfl rfl rfl (qg rfl qg6 rfl rfl rfl rfl) (r_d rfl rfl rfl (qk rfl rfl (by exact qbQ) (qan _)) (qbE rfl rfl rfl (qag _ rfl rfl rfl (Wk.refl _) (pf0 _) (by exact qbQ) (qan _) rfl rfl) (r_d rfl rfl rfl (qe rfl rfl) (qj ?_))))))))))
     obtain rfl := Option.some.inj hr
     refine qJ Tryz.func180 _ (.cons (resRef rfl (.head _) (by exact qbQ) (qan _) (Wk.refl _)) (.cons (resTmp rfl (Wk.refl _)) .nil)) ?_
     rfl
    ·
     refine qs rfl (qE (qF (gr [.d, .d, .d] (r_d rfl rfl rfl (qb rfl rfl) (r_d rfl rfl rfl (s_ar (r := ((i_2 + 1 : Nat) : Int)) rfl rfl rfl (by simp [iar]) (by omega)) (r_d rfl rfl rfl (qe rfl rfl) (qj (qM [(0, .lst (l_a0.map encIt)), (1, .int .i64 id_a1), (4, .ref b4_0 0 []), (6, .int .i64 ((i_2 + 1 : Nat) : Int))] (Sub.cons' rfl (Sub.cons' rfl (Sub.cons' rfl (Sub.cons' rfl (Sub.nil _))))) ?_))))))))
     exact IH0 _ _ _ (by omega) ⟨(i_2 + 1), rfl, rfl, rfl, (by omega), hr⟩
noncomputable def qbf (k : Option (Bool)) (l_a1 : (List (Int × At))) : List Int → Option (Bool)
  | [] =>
  k
  | q_24 :: rest =>
  ((qfw l_a1 q_24).bind fun r_25 =>
  (bif (!r_25.2) then
  some (false)
  else
  (qbf k l_a1 rest)))
noncomputable def qbc (k : Option (Bool)) (l_a1 : (List (Int × At))) (p_a0 : qI) : List qZ → Option (Bool)
  | [] =>
  k
  | q_14 :: rest =>
  (bif (decide (q_14.f0_Rule < (0 : Int))) then
  some (false)
  else
  (bif (decide (q_14.f0_Rule ≥ (p_a0.f1_Rules.length : Int))) then
  some (false)
  else
  ((getI p_a0.f1_Rules q_14.f0_Rule).bind fun q_17 =>
  ((qdP q_17).bind fun r_19 =>
  (bif (!r_19) then
  some (false)
  else
  ((qdt q_17).bind fun r_21 =>
  (bif ((q_14.f1_IDs.length : Int) != (r_21.length : Int)) then
  some (false)
  else
  (qbf ((qbc k l_a1 p_a0 rest)) l_a1 q_14.f1_IDs))))))))
noncomputable def qbb (k : Option (Bool)) (b_a2 : (List (Int × T))) (fresh_a5 : Int) (fuel : Nat) : List (Int × T) → Option (Bool)
  | [] =>
  k
  | q_28 :: rest =>
  (bif (decide (q_28.1 ≥ fresh_a5)) then
  some (false)
  else
  ((qb0 fuel q_28.2).bind fun r_30 =>
  ((qcC r_30 fresh_a5 b_a2).bind fun r_31 =>
  (bif (!r_31) then
  some (false)
  else
  (qbb k b_a2 fresh_a5 fuel rest)))))
noncomputable def qba (k : Option (Bool)) (b_a2 : (List (Int × T))) (fresh_a5 : Int) (fuel : Nat) (next_a4 : Int) (p_a0 : qI) : List (Int × At) → Option (Bool)
  | [] =>
  k
  | q_33 :: rest =>
  (bif (decide (q_33.1 ≥ next_a4)) then
  some (false)
  else
  ((qaW p_a0.f0_Decls q_33.2.n (q_33.2.ts.length : Int)).bind fun r_36 =>
  (bif (!r_36) then
  some (false)
  else
  ((qbB fuel q_33.2).bind fun r_38 =>
  ((qcC r_38 fresh_a5 b_a2).bind fun r_39 =>
  (bif (!r_39) then
  some (false)
  else
  (qba k b_a2 fresh_a5 fuel next_a4 p_a0 rest)))))))
noncomputable def qd7 (fuel : Nat) (p_a0 : qI) (l_a1 : (List (Int × At))) (b_a2 : (List (Int × T))) (h_a3 : (List qZ)) (next_a4 : Int) (fresh_a5 : Int) : Option (Bool) :=
  ((qei l_a1).bind fun r_1 =>
  (bif (!r_1) then
  some (false)
  else
  ((qer fuel b_a2).bind fun r_3 =>
  (bif (!r_3) then
  some (false)
  else
  ((qen h_a3).bind fun r_5 =>
  (bif (!r_5) then
  some (false)
  else
  (bif (decide (next_a4 < (1 : Int))) then
  some (false)
  else
  (bif (decide (next_a4 > (2147483648 : Int))) then
  some (false)
  else
  (bif (decide (fresh_a5 < (0 : Int))) then
  some (false)
  else
  (bif (decide (fresh_a5 > (1048576 : Int))) then
  some (false)
  else
  (qba ((qbb ((qbc (some (true)) l_a1 p_a0 h_a3)) b_a2 fresh_a5 fuel b_a2)) b_a2 fresh_a5 fuel next_a4 p_a0 l_a1)))))))))))
set_option maxHeartbeats 1000000 in
theorem qjS (fuel : Nat) (p_a0 : qI) (l_a1 : (List (Int × At))) (b_a2 : (List (Int × T))) (h_a3 : (List qZ)) (next_a4 : Int) (fresh_a5 : Int) (res : Bool) (hr : qd7 fuel p_a0 l_a1 b_a2 h_a3 next_a4 fresh_a5 = some res) : Gives Tryz.prog 95 [qn p_a0, .lst (l_a1.map encIt), .lst (b_a2.map encP), .lst (h_a3.map qq), .int .i64 next_a4, .int .i64 fresh_a5] (.bool res) := by
  unfold qd7 at hr
  refine qR [(0, qn p_a0), (1, .lst (l_a1.map encIt)), (2, .lst (b_a2.map encP)), (3, .lst (h_a3.map qq)), (4, .int .i64 next_a4), (5, .int .i64 fresh_a5)] Tryz.func95 rfl rfl fun K hK => (qh (gr [.d, .d] (r_d rfl rfl rfl (qef rfl rfl rfl) (r_d rfl rfl rfl (qe rfl rfl) (qj (qh (qh (gr [.d, .d, .d, .d, .d, .d, .d, .d, .d, .d, .d, .d, .d, .d, .d, .d, .d, .d, .d, .d, .d, .d, .d, .d, .d, .d, .d, .d, .d] (r_d rfl rfl rfl (qb rfl rfl) ?_)))))))))
  obtain ⟨r_1, hr_1, hr⟩ := bindS hr
  refine r_d rfl rfl rfl (qK rfl qki (.oc rfl .nil) (qj3 _ _ hr_1)) (r_d rfl rfl rfl (qdO rfl rfl) (r_d rfl rfl rfl (qb rfl rfl) ?_))
  refine r_sB 24 rfl hr (fun h24_1 hr => ?_) (fun h24_1 hr => ?_)
  ·
   refine qc rfl rfl rfl (qc rfl rfl rfl (qc rfl rfl rfl (r_d rfl rfl rfl (qy rfl rfl rfl) (r_d rfl rfl rfl (qb rfl rfl) (qc rfl rfl rfl (qc rfl rfl rfl (qc rfl rfl rfl (r_d rfl rfl rfl (qy rfl rfl rfl) (r_d rfl rfl rfl (qb rfl rfl) (qc rfl rfl rfl (qc rfl rfl rfl ?_)))))))))))
   refine r_d rfl rfl rfl (qy rfl rfl rfl) (r_d rfl rfl rfl (qb rfl rfl) (qc rfl rfl rfl (qc rfl rfl rfl (r_d rfl rfl rfl (qy rfl rfl rfl) (r_d rfl rfl rfl (qb rfl rfl) (qc rfl rfl rfl (qc rfl rfl rfl (r_d rfl rfl rfl (qy rfl rfl rfl) (r_d rfl rfl rfl (qb rfl rfl) (qc rfl rfl rfl (qc rfl rfl rfl ?_)))))))))))
   refine r_d rfl rfl rfl (qy rfl rfl rfl) (qj (qo rfl (qh (gr [.d] (r_d rfl rfl rfl (qe rfl rfl) (qj ?_))))))
   obtain rfl := Option.some.inj hr
   refine qJ Tryz.func95 _ (.cons (resTmp rfl (Wk.refl _)) .nil) ?_
   rfl
  ·
   refine r_d rfl rfl rfl (qb rfl rfl) ?_
   obtain ⟨r_3, hr_3, hr⟩ := bindS hr
   refine r_d rfl rfl rfl (qK rfl qj7 (.oc rfl .nil) (qky fuel _ _ hr_3)) (r_d rfl rfl rfl (qdO rfl rfl) (r_d rfl rfl rfl (qD rfl rfl rfl) (r_d rfl rfl rfl (qb rfl rfl) ?_)))
   refine r_sB 29 rfl hr (fun h29_3 hr => ?_) (fun h29_3 hr => ?_)
   ·
    refine qc rfl rfl rfl (qc rfl rfl rfl (qc rfl rfl rfl (r_d rfl rfl rfl (qy rfl rfl rfl) (r_d rfl rfl rfl (qb rfl rfl) (qc rfl rfl rfl (qc rfl rfl rfl (r_d rfl rfl rfl (qy rfl rfl rfl) (r_d rfl rfl rfl (qb rfl rfl) (qc rfl rfl rfl (qc rfl rfl rfl (r_d rfl rfl rfl (qy rfl rfl rfl) ?_)))))))))))
    refine r_d rfl rfl rfl (qb rfl rfl) (qc rfl rfl rfl (qc rfl rfl rfl (r_d rfl rfl rfl (qy rfl rfl rfl) (r_d rfl rfl rfl (qb rfl rfl) (qc rfl rfl rfl (qc rfl rfl rfl (r_d rfl rfl rfl (qy rfl rfl rfl) (qj (qo rfl (qh (gr [.d] ?_)))))))))))
    refine r_d rfl rfl rfl (qe rfl rfl) (qj ?_)
    obtain rfl := Option.some.inj hr
    refine qJ Tryz.func95 _ (.cons (resTmp rfl (Wk.refl _)) .nil) ?_
    rfl
   ·
    refine r_d rfl rfl rfl (qb rfl rfl) ?_
    obtain ⟨r_5, hr_5, hr⟩ := bindS hr
    refine r_d rfl rfl rfl (qK rfl qka (.oc rfl .nil) (qkG _ _ hr_5)) (r_d rfl rfl rfl (qdO rfl rfl) (r_d rfl rfl rfl (qD rfl rfl rfl) (r_d rfl rfl rfl (qb rfl rfl) ?_)))
    refine r_sB 34 rfl hr (fun h34_5 hr => ?_) (fun h34_5 hr => ?_)
    ·
     refine qc rfl rfl rfl (qc rfl rfl rfl (r_d rfl rfl rfl (qy rfl rfl rfl) (r_d rfl rfl rfl (qb rfl rfl) (qc rfl rfl rfl (qc rfl rfl rfl (r_d rfl rfl rfl (qy rfl rfl rfl) (r_d rfl rfl rfl (qb rfl rfl) (qc rfl rfl rfl (qc rfl rfl rfl (r_d rfl rfl rfl (qy rfl rfl rfl) (r_d rfl rfl rfl (qb rfl rfl) ?_)))))))))))
     refine qc rfl rfl rfl (qc rfl rfl rfl (r_d rfl rfl rfl (qy rfl rfl rfl) (qj (qo rfl (qh (gr [.d] (r_d rfl rfl rfl (qe rfl rfl) (qj ?_))))))))
     obtain rfl := Option.some.inj hr
     refine qJ Tryz.func95 _ (.cons (resTmp rfl (Wk.refl _)) .nil) ?_
     rfl
    ·
     refine r_d rfl rfl rfl (qb rfl rfl) (r_d rfl rfl rfl (qB rfl rfl rfl rfl) (r_d rfl rfl rfl (qD rfl rfl rfl) (r_d rfl rfl rfl (qb rfl rfl) ?_)))
     refine r_sB 38 rfl hr (fun h38_6 hr => ?_) (fun h38_6 hr => ?_)
     ·
      refine qc rfl rfl rfl (qc rfl rfl rfl (r_d rfl rfl rfl (qy rfl rfl rfl) (r_d rfl rfl rfl (qb rfl rfl) (qc rfl rfl rfl (qc rfl rfl rfl (r_d rfl rfl rfl (qy rfl rfl rfl) (r_d rfl rfl rfl (qb rfl rfl) (qc rfl rfl rfl (qc rfl rfl rfl (r_d rfl rfl rfl (qy rfl rfl rfl) (qj ?_)))))))))))
      refine qo rfl (qh (gr [.d] (r_d rfl rfl rfl (qe rfl rfl) (qj ?_))))
      obtain rfl := Option.some.inj hr
      refine qJ Tryz.func95 _ (.cons (resTmp rfl (Wk.refl _)) .nil) ?_
      rfl
     ·
      refine r_d rfl rfl rfl (qb rfl rfl) (r_d rfl rfl rfl (qB rfl rfl rfl rfl) (r_d rfl rfl rfl (qD rfl rfl rfl) (r_d rfl rfl rfl (qb rfl rfl) ?_)))
      refine r_sB 42 rfl hr (fun h42_7 hr => ?_) (fun h42_7 hr => ?_)
      ·
       refine qc rfl rfl rfl (qc rfl rfl rfl (r_d rfl rfl rfl (qy rfl rfl rfl) (r_d rfl rfl rfl (qb rfl rfl) (qc rfl rfl rfl (qc rfl rfl rfl (r_d rfl rfl rfl (qy rfl rfl rfl) (qj (qo rfl (qh (gr [.d] (r_d rfl rfl rfl (qe rfl rfl) ?_)))))))))))
       refine qj ?_
       obtain rfl := Option.some.inj hr
       refine qJ Tryz.func95 _ (.cons (resTmp rfl (Wk.refl _)) .nil) ?_
       rfl
      ·
       refine r_d rfl rfl rfl (qb rfl rfl) (r_d rfl rfl rfl (qB rfl rfl rfl rfl) (r_d rfl rfl rfl (qD rfl rfl rfl) (r_d rfl rfl rfl (qb rfl rfl) ?_)))
       refine r_sB 46 rfl hr (fun h46_8 hr => ?_) (fun h46_8 hr => ?_)
       ·
        refine qc rfl rfl rfl (qc rfl rfl rfl (r_d rfl rfl rfl (qy rfl rfl rfl) (qj (qo rfl (qh (gr [.d] (r_d rfl rfl rfl (qe rfl rfl) (qj ?_))))))))
        obtain rfl := Option.some.inj hr
        refine qJ Tryz.func95 _ (.cons (resTmp rfl (Wk.refl _)) .nil) ?_
        rfl
       ·
        refine r_d rfl rfl rfl (qb rfl rfl) (r_d rfl rfl rfl (qB rfl rfl rfl rfl) (r_d rfl rfl rfl (qD rfl rfl rfl) (qj ?_)))
        refine g_sB 49 rfl hr (fun h49_9 hr => ?_) (fun h49_9 hr => ?_)
        ·
         refine qo rfl (qh (gr [.d] (r_d rfl rfl rfl (qe rfl rfl) (qj ?_))))
         obtain rfl := Option.some.inj hr
         refine qJ Tryz.func95 _ (.cons (resTmp rfl (Wk.refl _)) .nil) ?_
         rfl
        ·
         refine qs rfl (qE (qh (qh (gr [.d] (r_d rfl rfl rfl (qe rfl rfl) (qj ?_))))))
         obtain ⟨kk0, hkk0, hr⟩ := exK (fun k => qba k b_a2 fresh_a5 fuel next_a4 p_a0 l_a1) hr
         refine qdG 1 rfl (asl rfl) fun hla0 => ?_
         simp only [List.length_map] at hla0
         refine qV (fun env σ => env = [(1, .lst (l_a1.map encIt)), (2, .lst (b_a2.map encP)), (3, .lst (h_a3.map qq)), (5, .int .i64 fresh_a5), (6, .ptr (qn p_a0))] ∧ σ = [] ∧ kk0 = some res) ?_ (fun HK0 => ?_)
         ·
          rintro _ _ ⟨rfl, rfl, hr⟩
          rw [hkk0] at hr
          refine qh (qh (gr [.d] (r_d rfl rfl rfl (qe rfl rfl) (qj ?_))))
          obtain ⟨kk1, hkk1, hr⟩ := exK (fun k => qbb k b_a2 fresh_a5 fuel b_a2) hr
          refine qdG 2 rfl (asl rfl) fun hla1 => ?_
          simp only [List.length_map] at hla1
          refine qV (fun env σ => env = [(1, .lst (l_a1.map encIt)), (3, .lst (h_a3.map qq)), (6, .ptr (qn p_a0))] ∧ σ = [] ∧ kk1 = some res) ?_ (fun HK1 => ?_)
          ·
           rintro _ _ ⟨rfl, rfl, hr⟩
           rw [hkk1] at hr
           refine qh (qh (gr [.d] (r_d rfl rfl rfl (qe rfl rfl) (qj ?_))))
           obtain ⟨kk2, hkk2, hr⟩ := exK (fun k => qbc k l_a1 p_a0 h_a3) hr
           refine qdG 3 rfl (asl rfl) fun hla2 => ?_
           simp only [List.length_map] at hla2
           refine qV (fun env σ => env = [] ∧ σ = [] ∧ kk2 = some res) ?_ (fun HK2 => ?_)
           ·
            rintro _ _ ⟨rfl, rfl, hr⟩
            rw [hkk2] at hr
            refine qh (gr [.d] (r_d rfl rfl rfl (qe rfl rfl) (qj ?_)))
            obtain rfl := Option.some.inj hr
            refine qJ Tryz.func95 _ (.cons (resTmp rfl (Wk.refl _)) .nil) ?_
            rfl
           ·
            refine qM [(1, .lst (l_a1.map encIt)), (3, .lst (h_a3.map qq)), (6, .ptr (qn p_a0)), (16, .int .i64 ((0 : Nat) : Int))] (Sub.cons' rfl (Sub.cons' rfl (Sub.cons' rfl (Sub.cons' rfl (Sub.nil _))))) (qaM (fun n env σ => ∃ (i_13 : Nat), (n = h_a3.length - i_13) ∧ (env = [(1, .lst (l_a1.map encIt)), (3, .lst (h_a3.map qq)), (6, .ptr (qn p_a0)), (16, .int .i64 (i_13 : Int))]) ∧ (σ = []) ∧ (i_13 ≤ h_a3.length) ∧ (qbc kk2 l_a1 p_a0 (h_a3.drop i_13) = some res)) _ ⟨0, rfl, rfl, rfl, Nat.zero_le _, hr⟩ ?_)
            rintro n _ _ ⟨i_13, rfl, rfl, rfl, hi2, hr⟩ IH2
            rcases listStep h_a3 i_13 hi2 with ⟨ht2, hd2, he2⟩ | ⟨q_14, ht2, hd2, hq2, hlt2⟩
            ·
             rw [hd2, qbc] at hr
             refine qh (qh (gr [.d, .d, .d, .d] (r_d rfl rfl rfl (qb rfl rfl) (r_d rfl rfl rfl (qb rfl rfl) (r_d rfl rfl rfl (qT (f := qq) h_a3 rfl qbh rfl (asl rfl)) (r_d rfl rfl rfl (qB rfl rfl rfl rfl) (qj (qC 115 false rfl ht2 (qs rfl (qaw rfl (qM [] (Sub.nil _) ?_)))))))))))
             exact HK2 _ _ ⟨rfl, rfl, hr⟩
            ·
             rw [hd2, qbc] at hr
             refine qh (qh (gr [.d, .d, .d, .d] (r_d rfl rfl rfl (qb rfl rfl) (r_d rfl rfl rfl (qb rfl rfl) (r_d rfl rfl rfl (qT (f := qq) h_a3 rfl qbh rfl (asl rfl)) (r_d rfl rfl rfl (qB rfl rfl rfl rfl) (qj (qC 115 true rfl ht2 (qo rfl (qE (qh ?_)))))))))))
             refine q0 (qh (qh (ga [(0, .d), (1, .d), (2, .d), (3, .d), (4, .d), (5, .d), (6, .d), (7, .d), (8, .d), (9, .d), (10, .d), (11, .d), (12, .d), (13, .d), (14, .d), (15, .d), (16, .d)] (r_d rfl rfl rfl (qb rfl rfl) (r_d rfl rfl rfl (qb rfl rfl) (r_d rfl rfl rfl (qN (f := qq) h_a3 rfl qbh rfl (asl rfl) rfl hq2 qb9 rfl) (r_d rfl rfl rfl (qg rfl qfR rfl rfl rfl rfl) (r_d rfl rfl rfl (qk rfl rfl (by exact qW) rfl) (r_d rfl rfl rfl (qB rfl rfl rfl rfl) (r_d rfl rfl rfl (qb rfl rfl) ?_))))))))))
             refine r_sB 124 rfl hr (fun h124_14 hr => ?_) (fun h124_14 hr => ?_)
             ·
              refine qc rfl rfl rfl (qc rfl rfl rfl (qc rfl rfl rfl (qc rfl rfl rfl (qc rfl rfl rfl (qc rfl rfl rfl (qc rfl rfl rfl (qc rfl rfl rfl (qc rfl rfl rfl (r_d rfl rfl rfl (qy rfl rfl rfl) (qj (qo rfl ?_)))))))))))
              refine qh (gr [.d] (r_d rfl rfl rfl (qe rfl rfl) (qj ?_)))
              obtain rfl := Option.some.inj hr
              refine qJ Tryz.func95 _ (.cons (resTmp rfl (Wk.refl _)) .nil) ?_
              rfl
             ·
              refine r_d rfl rfl rfl (qb rfl rfl) (r_d rfl rfl rfl (qb rfl rfl) (r_d rfl rfl rfl (qN (f := qq) h_a3 rfl qbh rfl (asl rfl) rfl hq2 qb9 rfl) (r_d rfl rfl rfl (qg rfl qfR rfl rfl rfl rfl) (r_d rfl rfl rfl (qk rfl rfl (by exact qW) rfl) (r_d rfl rfl rfl (qg rfl qaJ rfl rfl rfl rfl) (r_d rfl rfl rfl (qk rfl rfl (by exact qbZ) rfl) (r_d rfl rfl rfl (qT (f := qm) p_a0.f1_Rules rfl qbe rfl (asl rfl)) (r_d rfl rfl rfl (qB rfl rfl rfl rfl) (r_d rfl rfl rfl (qD rfl rfl rfl) (qj ?_))))))))))
              refine g_sB 134 rfl hr (fun h134_15 hr => ?_) (fun h134_15 hr => ?_)
              ·
               refine qo rfl (qh (gr [.d] (r_d rfl rfl rfl (qe rfl rfl) (qj ?_))))
               obtain rfl := Option.some.inj hr
               refine qJ Tryz.func95 _ (.cons (resTmp rfl (Wk.refl _)) .nil) ?_
               rfl
              ·
               refine qs rfl (qE (qh (ga [(0, .d), (1, .d), (2, .d), (3, .d), (4, .d), (5, .d), (6, .d), (7, .d), (8, .d), (9, .w), (10, .w)] (r_d rfl rfl rfl (qg rfl qaJ rfl rfl rfl rfl) (r_d rfl rfl rfl (qk rfl rfl (by exact qbZ) rfl) (r_d rfl rfl rfl (qb rfl rfl) (r_d rfl rfl rfl (qb rfl rfl) (r_d rfl rfl rfl (qN (f := qq) h_a3 rfl qbh rfl (asl rfl) rfl hq2 qb9 rfl) (r_d rfl rfl rfl (qg rfl qfR rfl rfl rfl rfl) (r_d rfl rfl rfl (qk rfl rfl (by exact qW) rfl) ?_))))))))))
               obtain ⟨q_17, hq_17, hr⟩ := bindS hr
               refine r_d rfl rfl rfl (qN (f := qm) p_a0.f1_Rules rfl qbe rfl (asl rfl) rfl hq_17 qah rfl) (r_d rfl rfl rfl (qk rfl rfl (by exact qbF) (qah _)) (r_w rfl rfl rfl (qa8 rfl qjI) ?_))
               rintro _ _ ⟨b17_17, rfl, rfl⟩
               refine qbE rfl rfl rfl (qag _ rfl rfl rfl (Wk.refl _) (pf0 _) (by exact qbF) (qah _) rfl rfl) (qj (qaT 17 b17_17 rfl (pf0 _) (qh (qh (ga [(0, .d), (1, .d), (2, .d), (3, .d), (4, .d), (5, .d), (6, .d), (7, .d), (8, .d), (9, .d), (10, .d), (11, .d), (12, .d), (13, .d), (14, .d)] (r_d rfl rfl rfl (qk rfl rfl (by exact qbF) (qah _)) ?_))))))
               obtain ⟨r_19, hr_19, hr⟩ := bindS hr
               refine r_d rfl rfl rfl (qK rfl qiG (.oc rfl .nil) (qiJ _ _ hr_19)) (r_d rfl rfl rfl (qdO rfl rfl) (r_d rfl rfl rfl (qb rfl rfl) ?_))
               refine r_sB 147 rfl hr (fun h147_19 hr => ?_) (fun h147_19 hr => ?_)
               ·
                refine qc rfl rfl rfl (qc rfl rfl rfl (qc rfl rfl rfl (qc rfl rfl rfl (qc rfl rfl rfl (qc rfl rfl rfl (qc rfl rfl rfl (qc rfl rfl rfl (qc rfl rfl rfl (qc rfl rfl rfl (r_d rfl rfl rfl (qy rfl rfl rfl) (qj ?_)))))))))))
                refine qo rfl (qh (gr [.d] (r_d rfl rfl rfl (qe rfl rfl) (qj ?_))))
                obtain rfl := Option.some.inj hr
                refine qJ Tryz.func95 _ (.cons (resTmp rfl (Wk.refl _)) .nil) ?_
                rfl
               ·
                refine r_d rfl rfl rfl (qb rfl rfl) (r_d rfl rfl rfl (qb rfl rfl) (r_d rfl rfl rfl (qN (f := qq) h_a3 rfl qbh rfl (asl rfl) rfl hq2 qb9 rfl) (r_d rfl rfl rfl (qg rfl qcb rfl rfl rfl rfl) (r_d rfl rfl rfl (qk rfl rfl (by exact qao) rfl) (r_d rfl rfl rfl (qT (f := (D.int .i64)) q_14.f1_IDs rfl qH rfl (asl rfl)) (r_d rfl rfl rfl (qk rfl rfl (by exact qbF) (qah _)) ?_))))))
                obtain ⟨r_21, hr_21, hr⟩ := bindS hr
                refine r_d rfl rfl rfl (qK rfl qhU (.oc rfl .nil) (qib _ _ hr_21)) (r_d rfl rfl rfl (qT (f := encA) r_21 rfl qS rfl (asl rfl)) (r_d rfl rfl rfl (qB rfl rfl rfl rfl) (r_d rfl rfl rfl (qD rfl rfl rfl) (qj ?_))))
                refine g_sB 158 rfl hr (fun h158_21 hr => ?_) (fun h158_21 hr => ?_)
                ·
                 refine qo rfl (qh (gr [.d] (r_d rfl rfl rfl (qe rfl rfl) (qj ?_))))
                 obtain rfl := Option.some.inj hr
                 refine qJ Tryz.func95 _ (.cons (resTmp rfl (Wk.refl _)) .nil) ?_
                 rfl
                ·
                 refine qs rfl (qE (qh (gr [.d] (r_d rfl rfl rfl (qe rfl rfl) (qj ?_)))))
                 obtain ⟨kk3, hkk3, hr⟩ := exK (fun k => qbf k l_a1 q_14.f1_IDs) hr
                 refine qdG 152 rfl (asl rfl) fun hla3 => ?_
                 simp only [List.length_map] at hla3
                 refine qV (fun env σ => env = [(1, .lst (l_a1.map encIt)), (3, .lst (h_a3.map qq)), (6, .ptr (qn p_a0)), (16, .int .i64 (i_13 : Int))] ∧ σ = [] ∧ kk3 = some res) ?_ (fun HK3 => ?_)
                 ·
                  rintro _ _ ⟨rfl, rfl, hr⟩
                  rw [hkk3] at hr
                  refine qF (gr [.d, .d, .d] (r_d rfl rfl rfl (qb rfl rfl) (r_d rfl rfl rfl (s_ar (r := ((i_13 + 1 : Nat) : Int)) rfl rfl rfl (by simp [iar]) (by omega)) (r_d rfl rfl rfl (qe rfl rfl) (qj (qM [(1, .lst (l_a1.map encIt)), (3, .lst (h_a3.map qq)), (6, .ptr (qn p_a0)), (16, .int .i64 ((i_13 + 1 : Nat) : Int))] (Sub.cons' rfl (Sub.cons' rfl (Sub.cons' rfl (Sub.cons' rfl (Sub.nil _))))) ?_))))))
                  exact IH2 _ _ _ (by omega) ⟨(i_13 + 1), rfl, rfl, rfl, (by omega), hr⟩
                 ·
                  refine qM [(1, .lst (l_a1.map encIt)), (3, .lst (h_a3.map qq)), (6, .ptr (qn p_a0)), (16, .int .i64 ((i_13 : Nat) : Int)), (18, .int .i64 ((0 : Nat) : Int))] (Sub.cons' rfl (Sub.cons' rfl (Sub.cons' rfl (Sub.cons' rfl (Sub.cons' rfl (Sub.nil _)))))) (qaM (fun n env σ => ∃ (k_23 : Nat), (n = q_14.f1_IDs.length - k_23) ∧ (env = [(1, .lst (l_a1.map encIt)), (3, .lst (h_a3.map qq)), (6, .ptr (qn p_a0)), (16, .int .i64 (i_13 : Int)), (18, .int .i64 (k_23 : Int))]) ∧ (σ = []) ∧ (k_23 ≤ q_14.f1_IDs.length) ∧ (qbf kk3 l_a1 (q_14.f1_IDs.drop k_23) = some res)) _ ⟨0, rfl, rfl, rfl, Nat.zero_le _, hr⟩ ?_)
                  rintro n _ _ ⟨k_23, rfl, rfl, rfl, hi3, hr⟩ IH3
                  rcases listStep q_14.f1_IDs k_23 hi3 with ⟨ht3, hd3, he3⟩ | ⟨q_24, ht3, hd3, hq3, hlt3⟩
                  ·
                   rw [hd3, qbf] at hr
                   refine qh (qh (gr [.d, .d, .d, .d, .d, .d, .d, .d] (r_d rfl rfl rfl (qb rfl rfl) (r_d rfl rfl rfl (qb rfl rfl) (r_d rfl rfl rfl (qb rfl rfl) (r_d rfl rfl rfl (qN (f := qq) h_a3 rfl qbh rfl (asl rfl) rfl hq2 qb9 rfl) (r_d rfl rfl rfl (qg rfl qcb rfl rfl rfl rfl) (r_d rfl rfl rfl (qk rfl rfl (by exact qao) rfl) (r_d rfl rfl rfl (qT (f := (D.int .i64)) q_14.f1_IDs rfl qH rfl (asl rfl)) (r_d rfl rfl rfl (qB rfl rfl rfl rfl) (qj ?_)))))))))))
                   refine qC 166 false rfl ht3 (qs rfl (qaw rfl (qM [(1, .lst (l_a1.map encIt)), (3, .lst (h_a3.map qq)), (6, .ptr (qn p_a0)), (16, .int .i64 (i_13 : Int))] (Sub.cons' rfl (Sub.cons' rfl (Sub.cons' rfl (Sub.cons' rfl (Sub.nil _))))) ?_)))
                   exact HK3 _ _ ⟨rfl, rfl, hr⟩
                  ·
                   rw [hd3, qbf] at hr
                   refine qh (qh (gr [.d, .d, .d, .d, .d, .d, .d, .d] (r_d rfl rfl rfl (qb rfl rfl) (r_d rfl rfl rfl (qb rfl rfl) (r_d rfl rfl rfl (qb rfl rfl) (r_d rfl rfl rfl (qN (f := qq) h_a3 rfl qbh rfl (asl rfl) rfl hq2 qb9 rfl) (r_d rfl rfl rfl (qg rfl qcb rfl rfl rfl rfl) (r_d rfl rfl rfl (qk rfl rfl (by exact qao) rfl) (r_d rfl rfl rfl (qT (f := (D.int .i64)) q_14.f1_IDs rfl qH rfl (asl rfl)) (r_d rfl rfl rfl (qB rfl rfl rfl rfl) (qj ?_)))))))))))
                   refine qC 166 true rfl ht3 (qo rfl (qE (qh (q0 (qh (gr [.d, .d, .d, .d, .d, .d, .d, .d, .d, .d, .d, .d, .d, .w, .w, .d] (r_d rfl rfl rfl (qb rfl rfl) (r_d rfl rfl rfl (qb rfl rfl) (r_d rfl rfl rfl (qb rfl rfl) (r_d rfl rfl rfl (qN (f := qq) h_a3 rfl qbh rfl (asl rfl) rfl hq2 qb9 rfl) (r_d rfl rfl rfl (qg rfl qcb rfl rfl rfl rfl) ?_)))))))))))
                   refine r_d rfl rfl rfl (qk rfl rfl (by exact qao) rfl) (r_d rfl rfl rfl (qb rfl rfl) (r_d rfl rfl rfl (qN (f := (D.int .i64)) q_14.f1_IDs rfl qH rfl (asl rfl) rfl hq3 (fun _ => rfl) rfl) (r_d rfl rfl rfl (qk rfl rfl (by exact qW) rfl) ?_)))
                   obtain ⟨r_25, hr_25, hr⟩ := bindS hr
                   refine r_d rfl rfl rfl (qK rfl qkX (.oc rfl (.oc rfl .nil)) (qkL _ _ _ hr_25)) (r_d rfl rfl rfl (qb rfl rfl) (r_d rfl rfl rfl (qaH rfl rfl rfl) (r_d rfl rfl rfl (qaH rfl rfl rfl) (r_w rfl rfl rfl (qa8 rfl qjv) ?_))))
                   rintro _ _ ⟨b19_25, rfl, rfl⟩
                   refine qbE rfl rfl rfl (qag _ rfl rfl rfl (Wk.refl _) (pf0 _) (by exact qbQ) (qan _) rfl rfl) (r_d rfl rfl rfl (qe rfl rfl) (qj (qaT 19 b19_25 rfl (pf0 _) (qh (gr [.d, .d] (r_d rfl rfl rfl (qb rfl rfl) (r_d rfl rfl rfl (qdO rfl rfl) (qj ?_))))))))
                   refine g_sB 183 rfl hr (fun h183_26 hr => ?_) (fun h183_26 hr => ?_)
                   ·
                    refine qo rfl (qh (gr [.d] (r_d rfl rfl rfl (qe rfl rfl) (qj ?_))))
                    obtain rfl := Option.some.inj hr
                    refine qJ Tryz.func95 _ (.cons (resTmp rfl (Wk.refl _)) .nil) ?_
                    rfl
                   ·
                    refine qs rfl (qE (qF (gr [.d, .d, .d] (r_d rfl rfl rfl (qb rfl rfl) (r_d rfl rfl rfl (s_ar (r := ((k_23 + 1 : Nat) : Int)) rfl rfl rfl (by simp [iar]) (by omega)) (r_d rfl rfl rfl (qe rfl rfl) (qj (qM [(1, .lst (l_a1.map encIt)), (3, .lst (h_a3.map qq)), (6, .ptr (qn p_a0)), (16, .int .i64 ((i_13 : Nat) : Int)), (18, .int .i64 ((k_23 + 1 : Nat) : Int))] (Sub.cons' rfl (Sub.cons' rfl (Sub.cons' rfl (Sub.cons' rfl (Sub.cons' rfl (Sub.nil _)))))) ?_))))))))
                    exact IH3 _ _ _ (by omega) ⟨(k_23 + 1), rfl, rfl, rfl, (by omega), hr⟩
          ·
           refine qM [(1, .lst (l_a1.map encIt)), (2, .lst (b_a2.map encP)), (3, .lst (h_a3.map qq)), (5, .int .i64 fresh_a5), (6, .ptr (qn p_a0)), (15, .int .i64 ((0 : Nat) : Int))] (Sub.cons' rfl (Sub.cons' rfl (Sub.cons' rfl (Sub.cons' rfl (Sub.cons' rfl (Sub.cons' rfl (Sub.nil _))))))) (qaM (fun n env σ => ∃ (i_12 : Nat), (n = b_a2.length - i_12) ∧ (env = [(1, .lst (l_a1.map encIt)), (2, .lst (b_a2.map encP)), (3, .lst (h_a3.map qq)), (5, .int .i64 fresh_a5), (6, .ptr (qn p_a0)), (15, .int .i64 (i_12 : Int))]) ∧ (σ = []) ∧ (i_12 ≤ b_a2.length) ∧ (qbb kk1 b_a2 fresh_a5 fuel (b_a2.drop i_12) = some res)) _ ⟨0, rfl, rfl, rfl, Nat.zero_le _, hr⟩ ?_)
           rintro n _ _ ⟨i_12, rfl, rfl, rfl, hi1, hr⟩ IH1
           rcases listStep b_a2 i_12 hi1 with ⟨ht1, hd1, he1⟩ | ⟨q_28, ht1, hd1, hq1, hlt1⟩
           ·
            rw [hd1, qbb] at hr
            refine qh (qh (gr [.d, .d, .d, .d] (r_d rfl rfl rfl (qb rfl rfl) (r_d rfl rfl rfl (qb rfl rfl) (r_d rfl rfl rfl (qT (f := encP) b_a2 rfl qb7 rfl (asl rfl)) (r_d rfl rfl rfl (qB rfl rfl rfl rfl) (qj (qC 90 false rfl ht1 (qs rfl (qaw rfl (qM [(1, .lst (l_a1.map encIt)), (3, .lst (h_a3.map qq)), (6, .ptr (qn p_a0))] (Sub.cons' rfl (Sub.cons' rfl (Sub.cons' rfl (Sub.nil _)))) ?_)))))))))))
            exact HK1 _ _ ⟨rfl, rfl, hr⟩
           ·
            rw [hd1, qbb] at hr
            refine qh (qh (gr [.d, .d, .d, .d] (r_d rfl rfl rfl (qb rfl rfl) (r_d rfl rfl rfl (qb rfl rfl) (r_d rfl rfl rfl (qT (f := encP) b_a2 rfl qb7 rfl (asl rfl)) (r_d rfl rfl rfl (qB rfl rfl rfl rfl) (qj (qC 90 true rfl ht1 (qo rfl (qE (qh ?_)))))))))))
            refine q0 (qh (gr [.d, .d, .d, .d, .d, .d, .d, .d, .d, .d, .d, .d, .d, .d, .d, .d, .d, .d, .d] (r_d rfl rfl rfl (qb rfl rfl) (r_d rfl rfl rfl (qb rfl rfl) (r_d rfl rfl rfl (qN (f := encP) b_a2 rfl qb7 rfl (asl rfl) rfl hq1 qgK rfl) (r_d rfl rfl rfl (qg rfl qgp rfl rfl rfl rfl) (r_d rfl rfl rfl (qk rfl rfl (by exact qW) rfl) (r_d rfl rfl rfl (qb rfl rfl) (r_d rfl rfl rfl (qB rfl rfl rfl rfl) (r_d rfl rfl rfl (qb rfl rfl) ?_))))))))))
            refine r_sB 100 rfl hr (fun h100_28 hr => ?_) (fun h100_28 hr => ?_)
            ·
             refine qc rfl rfl rfl (qc rfl rfl rfl (qc rfl rfl rfl (qc rfl rfl rfl (qc rfl rfl rfl (qc rfl rfl rfl (qc rfl rfl rfl (qc rfl rfl rfl (qc rfl rfl rfl (qc rfl rfl rfl (r_d rfl rfl rfl (qy rfl rfl rfl) (qj ?_)))))))))))
             refine qo rfl (qh (gr [.d] (r_d rfl rfl rfl (qe rfl rfl) (qj ?_))))
             obtain rfl := Option.some.inj hr
             refine qJ Tryz.func95 _ (.cons (resTmp rfl (Wk.refl _)) .nil) ?_
             rfl
            ·
             refine r_d rfl rfl rfl (qb rfl rfl) (r_d rfl rfl rfl (qb rfl rfl) (r_d rfl rfl rfl (qN (f := encP) b_a2 rfl qb7 rfl (asl rfl) rfl hq1 qgK rfl) (r_d rfl rfl rfl (qg rfl qfu rfl rfl rfl rfl) (r_d rfl rfl rfl (qk rfl rfl (by exact qav) (qck _)) ?_))))
             obtain ⟨r_30, hr_30, hr⟩ := bindS hr
             refine r_d rfl rfl rfl (qK rfl qft (.oc rfl .nil) (qfo fuel _ _ hr_30)) (r_d rfl rfl rfl (qb rfl rfl) (r_d rfl rfl rfl (qb rfl rfl) ?_))
             obtain ⟨r_31, hr_31, hr⟩ := bindS hr
             refine r_d rfl rfl rfl (qK rfl qgm (.oc rfl (.oc rfl (.oc rfl .nil))) (qgh _ _ _ _ hr_31)) (r_d rfl rfl rfl (qdO rfl rfl) (r_d rfl rfl rfl (qD rfl rfl rfl) (qj ?_)))
             refine g_sB 111 rfl hr (fun h111_31 hr => ?_) (fun h111_31 hr => ?_)
             ·
              refine qo rfl (qh (gr [.d] (r_d rfl rfl rfl (qe rfl rfl) (qj ?_))))
              obtain rfl := Option.some.inj hr
              refine qJ Tryz.func95 _ (.cons (resTmp rfl (Wk.refl _)) .nil) ?_
              rfl
             ·
              refine qs rfl (qE (qF (gr [.d, .d, .d] (r_d rfl rfl rfl (qb rfl rfl) (r_d rfl rfl rfl (s_ar (r := ((i_12 + 1 : Nat) : Int)) rfl rfl rfl (by simp [iar]) (by omega)) (r_d rfl rfl rfl (qe rfl rfl) (qj (qM [(1, .lst (l_a1.map encIt)), (2, .lst (b_a2.map encP)), (3, .lst (h_a3.map qq)), (5, .int .i64 fresh_a5), (6, .ptr (qn p_a0)), (15, .int .i64 ((i_12 + 1 : Nat) : Int))] (Sub.cons' rfl (Sub.cons' rfl (Sub.cons' rfl (Sub.cons' rfl (Sub.cons' rfl (Sub.cons' rfl (Sub.nil _))))))) ?_))))))))
              exact IH1 _ _ _ (by omega) ⟨(i_12 + 1), rfl, rfl, rfl, (by omega), hr⟩
         ·
          refine qM [(1, .lst (l_a1.map encIt)), (2, .lst (b_a2.map encP)), (3, .lst (h_a3.map qq)), (4, .int .i64 next_a4), (5, .int .i64 fresh_a5), (6, .ptr (qn p_a0)), (13, .int .i64 ((0 : Nat) : Int))] (Sub.cons' rfl (Sub.cons' rfl (Sub.cons' rfl (Sub.cons' rfl (Sub.cons' rfl (Sub.cons' rfl (Sub.cons' rfl (Sub.nil _)))))))) (qaM (fun n env σ => ∃ (i_11 : Nat), (n = l_a1.length - i_11) ∧ (env = [(1, .lst (l_a1.map encIt)), (2, .lst (b_a2.map encP)), (3, .lst (h_a3.map qq)), (4, .int .i64 next_a4), (5, .int .i64 fresh_a5), (6, .ptr (qn p_a0)), (13, .int .i64 (i_11 : Int))]) ∧ (σ = []) ∧ (i_11 ≤ l_a1.length) ∧ (qba kk0 b_a2 fresh_a5 fuel next_a4 p_a0 (l_a1.drop i_11) = some res)) _ ⟨0, rfl, rfl, rfl, Nat.zero_le _, hr⟩ ?_)
          rintro n _ _ ⟨i_11, rfl, rfl, rfl, hi0, hr⟩ IH0
          rcases listStep l_a1 i_11 hi0 with ⟨ht0, hd0, he0⟩ | ⟨q_33, ht0, hd0, hq0, hlt0⟩
          ·
           rw [hd0, qba] at hr
           refine qh (qh (gr [.d, .d, .d, .d] (r_d rfl rfl rfl (qb rfl rfl) (r_d rfl rfl rfl (qb rfl rfl) (r_d rfl rfl rfl (qT (f := encIt) l_a1 rfl qa7 rfl (asl rfl)) (r_d rfl rfl rfl (qB rfl rfl rfl rfl) (qj (qC 53 false rfl ht0 (qs rfl (qaw rfl (qM [(1, .lst (l_a1.map encIt)), (2, .lst (b_a2.map encP)), (3, .lst (h_a3.map qq)), (5, .int .i64 fresh_a5), (6, .ptr (qn p_a0))] (Sub.cons' rfl (Sub.cons' rfl (Sub.cons' rfl (Sub.cons' rfl (Sub.cons' rfl (Sub.nil _)))))) ?_)))))))))))
           exact HK0 _ _ ⟨rfl, rfl, hr⟩
          ·
           rw [hd0, qba] at hr
           refine qh (qh (gr [.d, .d, .d, .d] (r_d rfl rfl rfl (qb rfl rfl) (r_d rfl rfl rfl (qb rfl rfl) (r_d rfl rfl rfl (qT (f := encIt) l_a1 rfl qa7 rfl (asl rfl)) (r_d rfl rfl rfl (qB rfl rfl rfl rfl) (qj (qC 53 true rfl ht0 (qo rfl (qE (qh ?_)))))))))))
           refine q0 (qh (gr [.d, .d, .d, .d, .d, .w, .w] (r_d rfl rfl rfl (qb rfl rfl) (r_d rfl rfl rfl (qb rfl rfl) (r_d rfl rfl rfl (qN (f := encIt) l_a1 rfl qa7 rfl (asl rfl) rfl hq0 qfW rfl) (r_d rfl rfl rfl (qg rfl qg6 rfl rfl rfl rfl) (r_d rfl rfl rfl (qk rfl rfl (by exact qbQ) (qan _)) (r_w rfl rfl rfl (qa8 rfl qjv) ?_))))))))
           rintro _ _ ⟨b14_33, rfl, rfl⟩
           refine qbE rfl rfl rfl (qag _ rfl rfl rfl (Wk.refl _) (pf0 _) (by exact qbQ) (qan _) rfl rfl) (qj (qaT 14 b14_33 rfl (pf0 _) (qh (gr [.d, .d, .d, .d, .d, .d, .d, .d, .d, .d, .d, .d, .d, .d, .d, .d, .d, .d, .d, .d, .d, .d, .d, .d, .d, .d] (r_d rfl rfl rfl (qb rfl rfl) (r_d rfl rfl rfl (qb rfl rfl) (r_d rfl rfl rfl (qN (f := encIt) l_a1 rfl qa7 rfl (asl rfl) rfl hq0 qfW rfl) (r_d rfl rfl rfl (qg rfl qg8 rfl rfl rfl rfl) (r_d rfl rfl rfl (qk rfl rfl (by exact qW) rfl) (r_d rfl rfl rfl (qb rfl rfl) (r_d rfl rfl rfl (qB rfl rfl rfl rfl) ?_)))))))))))
           refine r_d rfl rfl rfl (qb rfl rfl) ?_
           refine r_sB 68 rfl hr (fun h68_34 hr => ?_) (fun h68_34 hr => ?_)
           ·
            refine qc rfl rfl rfl (qc rfl rfl rfl (qc rfl rfl rfl (qc rfl rfl rfl (qc rfl rfl rfl (qc rfl rfl rfl (qc rfl rfl rfl (qc rfl rfl rfl (qc rfl rfl rfl (r_d rfl rfl rfl (qy rfl rfl rfl) (r_d rfl rfl rfl (qb rfl rfl) (qc rfl rfl rfl ?_)))))))))))
            refine qc rfl rfl rfl (qc rfl rfl rfl (qc rfl rfl rfl (qc rfl rfl rfl (qc rfl rfl rfl (r_d rfl rfl rfl (qy rfl rfl rfl) (qj (qo rfl (qh (gr [.d] (r_d rfl rfl rfl (qe rfl rfl) (qj ?_)))))))))))
            obtain rfl := Option.some.inj hr
            refine qJ Tryz.func95 _ (.cons (resTmp rfl (Wk.refl _)) .nil) ?_
            rfl
           ·
            refine r_d rfl rfl rfl (qg rfl qce rfl rfl rfl rfl) (r_d rfl rfl rfl (qk rfl rfl (by exact qde) rfl) (r_d rfl rfl rfl (qg rfl qgx rfl rfl rfl rfl) (r_d rfl rfl rfl (qk rfl rfl (by exact qdg) rfl) (r_d rfl rfl rfl (qg rfl qeb rfl rfl rfl rfl) (r_d rfl rfl rfl (qk rfl rfl (by exact qal) rfl) (r_d rfl rfl rfl (qT (f := encT) q_33.2.ts rfl qaj rfl (asl rfl)) ?_))))))
            obtain ⟨r_36, hr_36, hr⟩ := bindS hr
            refine r_d rfl rfl rfl (qK rfl qcS (.oc rfl (.oc rfl (.oc rfl .nil))) (qcY _ _ _ _ hr_36)) (r_d rfl rfl rfl (qdO rfl rfl) (r_d rfl rfl rfl (qD rfl rfl rfl) (r_d rfl rfl rfl (qb rfl rfl) ?_)))
            refine r_sB 79 rfl hr (fun h79_36 hr => ?_) (fun h79_36 hr => ?_)
            ·
             refine qc rfl rfl rfl (qc rfl rfl rfl (qc rfl rfl rfl (qc rfl rfl rfl (qc rfl rfl rfl (qc rfl rfl rfl (r_d rfl rfl rfl (qy rfl rfl rfl) (qj (qo rfl (qh (gr [.d] (r_d rfl rfl rfl (qe rfl rfl) ?_)))))))))))
             refine qj ?_
             obtain rfl := Option.some.inj hr
             refine qJ Tryz.func95 _ (.cons (resTmp rfl (Wk.refl _)) .nil) ?_
             rfl
            ·
             refine r_d rfl rfl rfl (qk rfl rfl (by exact qbQ) (qan _)) ?_
             obtain ⟨r_38, hr_38, hr⟩ := bindS hr
             refine r_d rfl rfl rfl (qK rfl qeC (.oc rfl .nil) (qeH fuel _ _ hr_38)) (r_d rfl rfl rfl (qb rfl rfl) (r_d rfl rfl rfl (qb rfl rfl) ?_))
             obtain ⟨r_39, hr_39, hr⟩ := bindS hr
             refine r_d rfl rfl rfl (qK rfl qgm (.oc rfl (.oc rfl (.oc rfl .nil))) (qgh _ _ _ _ hr_39)) (r_d rfl rfl rfl (qdO rfl rfl) (r_d rfl rfl rfl (qD rfl rfl rfl) (qj ?_)))
             refine g_sB 86 rfl hr (fun h86_39 hr => ?_) (fun h86_39 hr => ?_)
             ·
              refine qo rfl (qh (gr [.d] (r_d rfl rfl rfl (qe rfl rfl) (qj ?_))))
              obtain rfl := Option.some.inj hr
              refine qJ Tryz.func95 _ (.cons (resTmp rfl (Wk.refl _)) .nil) ?_
              rfl
             ·
              refine qs rfl (qE (qF (gr [.d, .d, .d] (r_d rfl rfl rfl (qb rfl rfl) (r_d rfl rfl rfl (s_ar (r := ((i_11 + 1 : Nat) : Int)) rfl rfl rfl (by simp [iar]) (by omega)) (r_d rfl rfl rfl (qe rfl rfl) (qj (qM [(1, .lst (l_a1.map encIt)), (2, .lst (b_a2.map encP)), (3, .lst (h_a3.map qq)), (4, .int .i64 next_a4), (5, .int .i64 fresh_a5), (6, .ptr (qn p_a0)), (13, .int .i64 ((i_11 + 1 : Nat) : Int))] (Sub.cons' rfl (Sub.cons' rfl (Sub.cons' rfl (Sub.cons' rfl (Sub.cons' rfl (Sub.cons' rfl (Sub.cons' rfl (Sub.nil _)))))))) ?_))))))))
              exact IH0 _ _ _ (by omega) ⟨(i_11 + 1), rfl, rfl, rfl, (by omega), hr⟩
noncomputable def qb3 (k : ((List qc5)) → Option ((List qc5))) (i_5 : Nat) (q_8 : qU) : Nat → (List qc5) → Option ((List qc5))
  | 0, out_10 =>
  (k out_10)
  | k_14 + 1, out_10 =>
  ((appO 24 out_10 [(⟨(i_5 : Int), (k_14 : Int), (decide ((k_14 : Int) < (q_8.f1_Keep.length : Int)))⟩ : qc5)]).bind fun l_15 =>
  (qb3 k i_5 q_8 k_14 l_15))
noncomputable def qbT (k : ((List qc5)) → Option ((List qc5))) : List qU → (List qc5) → Nat → Option ((List qc5))
  | [], out_4, i_5 =>
  (k out_4)
  | q_8 :: rest, out_4, i_5 =>
  ((downO (wr ((wr ((q_8.f1_Keep.length : Int) + (q_8.f2_Remove.length : Int))) - (1 : Int)))).bind fun m_17 =>
  (qb3 (fun out_13 =>
  (qbT k rest out_13 (i_5 + 1))) i_5 q_8 m_17 out_4))
noncomputable def qfL (p_a0 : qI) : Option ((List qc5)) :=
  (qbT (fun out_7 =>
  some (out_7)) p_a0.f1_Rules [] 0)
set_option maxHeartbeats 1000000 in
theorem qln (p_a0 : qI) (res : (List qc5)) (hr : qfL p_a0 = some res) : Gives Tryz.prog 96 [qn p_a0] (.lst (res.map qcQ)) := by
  unfold qfL at hr
  refine qR [(0, qn p_a0)] Tryz.func96 rfl rfl fun K hK => (qh (gr [.d, .w] (r_d rfl rfl rfl (qef rfl rfl rfl) (r_w rfl rfl rfl (qcw 240 3 (.inl rfl)) ?_))))
  rintro _ _ ⟨u2_0, rfl, rfl⟩
  refine qj (qh (gr [.w] (r_w rfl rfl rfl (qcw 240 3 (.inl rfl)) ?_)))
  rintro _ _ ⟨u3_1, rfl, rfl⟩
  refine qj (qh (qh (gr [.d] (r_d rfl rfl rfl (qe rfl rfl) (qj ?_)))))
  obtain ⟨kk0, hkk0, hr⟩ := exK (fun k => qbT k p_a0.f1_Rules [] 0) hr
  refine quq 0 [1] (l := p_a0.f1_Rules.map qm) rfl rfl (asl rfl) fun hla0 => ?_
  simp only [List.length_map] at hla0
  refine qV (fun env σ => ∃ (out_7 : (List qc5)) (u_6 : Value), env = [(3, .own u_6 (out_7.map qcQ))] ∧ σ = [.row u_6 out_7.length 240 3] ∧ kk0 out_7 = some res) ?_ (fun HK0 => ?_)
  ·
   rintro _ _ ⟨out_7, u_6, rfl, rfl, hr⟩
   rw [hkk0] at hr
   refine qh (gr [.d, .d] (r_d rfl rfl rfl (qb rfl rfl) (r_d rfl rfl rfl (qe rfl rfl) (qj ?_))))
   obtain rfl := Option.some.inj hr
   refine qJ Tryz.func96 _ (.cons (resTmp rfl (Wk.own _ _)) .nil) ?_
   rfl
  ·
   refine qM [(1, .ptr (qn p_a0)), (3, .own u3_1 ([].map qcQ)), (4, .int .i64 ((0 : Nat) : Int))] (Sub.cons' rfl (Sub.cons' rfl (Sub.cons' rfl (Sub.nil _)))) (qc6 [_] _ (pf0 _) (qaM (fun n env σ => ∃ (out_4 : (List qc5)) (i_5 : Nat) (u_3 : Value), (n = p_a0.f1_Rules.length - i_5) ∧ (env = [(1, .ptr (qn p_a0)), (3, .own u_3 (out_4.map qcQ)), (4, .int .i64 (i_5 : Int))]) ∧ (σ = [.row u_3 out_4.length 240 3]) ∧ (i_5 ≤ p_a0.f1_Rules.length) ∧ (qbT kk0 (p_a0.f1_Rules.drop i_5) out_4 i_5 = some res)) _ ⟨[], 0, u3_1, rfl, rfl, rfl, Nat.zero_le _, hr⟩ ?_))
   rintro n _ _ ⟨out_4, i_5, u_3, rfl, rfl, rfl, hi0, hr⟩ IH0
   rcases listStep p_a0.f1_Rules i_5 hi0 with ⟨ht0, hd0, he0⟩ | ⟨q_8, ht0, hd0, hq0, hlt0⟩
   ·
    rw [hd0, qbT] at hr
    refine qh (qh (gr [.d, .d, .d, .d, .d] (r_d rfl rfl rfl (qb rfl rfl) (r_d rfl rfl rfl (qg rfl qaJ rfl rfl rfl rfl) (r_d rfl rfl rfl (qk rfl rfl (by exact qbZ) rfl) (r_d rfl rfl rfl (qT (f := qm) p_a0.f1_Rules rfl qbe rfl (asl rfl)) (r_d rfl rfl rfl (qB rfl rfl rfl rfl) (qj (qC 11 false rfl ht0 (qs rfl (qaw rfl ?_)))))))))))
    refine qM [(3, .own u_3 (out_4.map qcQ))] (Sub.cons' rfl (Sub.nil _)) ?_
    exact HK0 _ _ ⟨out_4, u_3, rfl, rfl, hr⟩
   ·
    rw [hd0, qbT] at hr
    refine qh (qh (gr [.d, .d, .d, .d, .d] (r_d rfl rfl rfl (qb rfl rfl) (r_d rfl rfl rfl (qg rfl qaJ rfl rfl rfl rfl) (r_d rfl rfl rfl (qk rfl rfl (by exact qbZ) rfl) (r_d rfl rfl rfl (qT (f := qm) p_a0.f1_Rules rfl qbe rfl (asl rfl)) (r_d rfl rfl rfl (qB rfl rfl rfl rfl) (qj (qC 11 true rfl ht0 (qo rfl (qE ?_)))))))))))
    refine qh (q0 (qh (gr [.d, .d, .d, .d, .d, .d, .d, .d] (r_d rfl rfl rfl (qg rfl qaJ rfl rfl rfl rfl) (r_d rfl rfl rfl (qk rfl rfl (by exact qbZ) rfl) (r_d rfl rfl rfl (qb rfl rfl) (r_d rfl rfl rfl (qN (f := qm) p_a0.f1_Rules rfl qbe rfl (asl rfl) rfl hq0 qah rfl) (r_d rfl rfl rfl (qg rfl qeV rfl rfl rfl rfl) (r_d rfl rfl rfl (qk rfl rfl (by exact qca) rfl) (r_d rfl rfl rfl (qT (f := encA) q_8.f1_Keep rfl qS rfl (asl rfl)) (r_d rfl rfl rfl (qe rfl rfl) ?_)))))))))))
    refine qj (qh (gr [.d, .d, .d, .d, .d, .d, .d, .d, .d, .d, .d] (r_d rfl rfl rfl (qb rfl rfl) (r_d rfl rfl rfl (qg rfl qaJ rfl rfl rfl rfl) (r_d rfl rfl rfl (qk rfl rfl (by exact qbZ) rfl) (r_d rfl rfl rfl (qb rfl rfl) (r_d rfl rfl rfl (qN (f := qm) p_a0.f1_Rules rfl qbe rfl (asl rfl) rfl hq0 qah rfl) (r_d rfl rfl rfl (qg rfl qe2 rfl rfl rfl rfl) (r_d rfl rfl rfl (qk rfl rfl (by exact qca) rfl) (r_d rfl rfl rfl (qT (f := encA) q_8.f2_Remove rfl qS rfl (asl rfl)) (r_d rfl rfl rfl (qkF rfl rfl rfl rfl) ?_)))))))))))
    refine r_d rfl rfl rfl (qkF rfl rfl rfl rfl) (r_d rfl rfl rfl (qe rfl rfl) (qj ?_))
    obtain ⟨m_17, hm_17, hr⟩ := bindS hr
    have hm_17' := qrG hm_17
    obtain ⟨kk1, hkk1, hr⟩ := exK (fun k => qb3 k i_5 q_8 m_17 out_4) hr
    refine qV (fun env σ => ∃ (out_13 : (List qc5)) (u_12 : Value), env = [(1, .ptr (qn p_a0)), (3, .own u_12 (out_13.map qcQ)), (4, .int .i64 (i_5 : Int))] ∧ σ = [.row u_12 out_13.length 240 3] ∧ kk1 out_13 = some res) ?_ (fun HK1 => ?_)
    ·
     rintro _ _ ⟨out_13, u_12, rfl, rfl, hr⟩
     rw [hkk1] at hr
     refine qF (gr [.d, .d, .d] (r_d rfl rfl rfl (qb rfl rfl) (r_d rfl rfl rfl (s_ar (r := ((i_5 + 1 : Nat) : Int)) rfl rfl rfl (by simp [iar]) (by omega)) (r_d rfl rfl rfl (qe rfl rfl) (qj (qM [(1, .ptr (qn p_a0)), (3, .own u_12 (out_13.map qcQ)), (4, .int .i64 ((i_5 + 1 : Nat) : Int))] (Sub.cons' rfl (Sub.cons' rfl (Sub.cons' rfl (Sub.nil _)))) ?_))))))
     exact IH0 _ _ _ (by omega) ⟨out_13, (i_5 + 1), u_12, rfl, rfl, rfl, (by omega), hr⟩
    ·
     refine qvK 6 (d' := .int .i64 ((m_17 : Int) - 1)) rfl (congrArg (D.int .i64) hm_17') (qM [(1, .ptr (qn p_a0)), (4, .int .i64 ((i_5 : Nat) : Int)), (5, .int .i64 (q_8.f1_Keep.length : Int)), (3, .own u_3 (out_4.map qcQ)), (6, .int .i64 ((m_17 : Int) - 1))] (Sub.cons' rfl (Sub.cons' rfl (Sub.cons' rfl (Sub.cons' rfl (Sub.cons' rfl (Sub.nil _)))))) (qaM (fun n env σ => ∃ (out_10 : (List qc5)) (k_11 : Nat) (u_9 : Value), (k_11 = n) ∧ (env = [(1, .ptr (qn p_a0)), (4, .int .i64 (i_5 : Int)), (5, .int .i64 (q_8.f1_Keep.length : Int)), (3, .own u_9 (out_10.map qcQ)), (6, .int .i64 ((k_11 : Int) - 1))]) ∧ (σ = [.row u_9 out_10.length 240 3]) ∧ (qb3 kk1 i_5 q_8 k_11 out_10 = some res)) _ ⟨out_4, m_17, u_3, rfl, rfl, rfl, hr⟩ ?_))
     rintro n _ _ ⟨out_10, k_11, u_9, rfl, rfl, rfl, hr⟩ IH1
     refine qhJ 6 rfl fun hb1 => ?_
     rcases downStep k_11 with ⟨hm1, ht1⟩ | ⟨k_14, hm1, ht1⟩
     ·
      rw [hm1, qb3] at hr
      refine qh (qh (gr [.d, .d] (r_d rfl rfl rfl (qb rfl rfl) (r_d rfl rfl rfl (qB rfl rfl rfl rfl) (qj (qC 32 false rfl ht1 (qs rfl (qaw rfl (qM [(1, .ptr (qn p_a0)), (3, .own u_9 (out_10.map qcQ)), (4, .int .i64 (i_5 : Int))] (Sub.cons' rfl (Sub.cons' rfl (Sub.cons' rfl (Sub.nil _)))) ?_)))))))))
      exact HK1 _ _ ⟨out_10, u_9, rfl, rfl, hr⟩
     ·
      rw [hm1, qb3] at hr
      have ht1 : decide ((k_14 : Int) ≥ (0 : Int)) = true := decide_eq_true (by omega)
      refine qvK 6 (d' := .int .i64 (k_14 : Int)) rfl (by subst hm1; congr 1; omega) (qh (qh (gr [.d, .d] (r_d rfl rfl rfl (qb rfl rfl) (r_d rfl rfl rfl (qB rfl rfl rfl rfl) (qj (qC 32 true rfl ht1 (qo rfl (qE (qh (q0 ?_)))))))))))
      refine gr [.d, .d, .d, .d, .d, .d, .d, .d, .w, .d] (r_d rfl rfl rfl (qb rfl rfl) (r_d rfl rfl rfl (qb rfl rfl) (r_d rfl rfl rfl (qb rfl rfl) (r_d rfl rfl rfl (qb rfl rfl) (r_d rfl rfl rfl (qb rfl rfl) (r_d rfl rfl rfl (qB rfl rfl rfl rfl) (r_d rfl rfl rfl (qeB rfl qrJ (.oc rfl (.oc rfl (.oc rfl .nil))) (.cons rfl rfl rfl (.cons rfl rfl rfl (.cons rfl rfl rfl (.nil _))))) (r_d rfl rfl rfl (qiL (f := qcQ) [.tmp 41] [(⟨(i_5 : Int), (k_14 : Int), (decide ((k_14 : Int) < (q_8.f1_Keep.length : Int)))⟩ : qc5)] rfl qlz rfl rfl (by decide) (by decide) (.oc rfl .nil) qm4 (fun _ => rfl)) ?_))))))))
      obtain ⟨l_15, hl_15, hr⟩ := bindS hr
      refine r_w rfl rfl rfl (qcK (f := qcQ) out_10 [(⟨(i_5 : Int), (k_14 : Int), (decide ((k_14 : Int) < (q_8.f1_Keep.length : Int)))⟩ : qc5)] rfl qlz rfl rfl (asl rfl) (pf0 _) rfl qm4 hl_15) ?_
      rintro _ _ ⟨u43_15, rfl, rfl⟩
      refine r_d rfl rfl rfl (qe rfl rfl) (qj (qF (gr [.d, .d, .d] (r_d rfl rfl rfl (qb rfl rfl) (r_d rfl rfl rfl (s_ar (r := (k_14 : Int) - 1) rfl rfl rfl rfl (by omega)) (r_d rfl rfl rfl (qe rfl rfl) (qj (qM [(1, .ptr (qn p_a0)), (4, .int .i64 ((i_5 : Nat) : Int)), (5, .int .i64 (q_8.f1_Keep.length : Int)), (3, .own u43_15 (l_15.map qcQ)), (6, .int .i64 ((k_14 : Int) - 1))] (Sub.cons' rfl (Sub.cons' rfl (Sub.cons' rfl (Sub.cons' rfl (Sub.cons' rfl (Sub.nil _)))))) ?_))))))))
      exact IH1 _ _ _ (by omega) ⟨l_15, k_14, u43_15, rfl, rfl, rfl, hr⟩
noncomputable def qej (p_a0 : qI) (g_a1 : Gl) : Option (Bool) :=
  ((qlN g_a1).bind fun r_1 =>
  (bif (!r_1) then
  some (false)
  else
  (bif (decide (g_a1.op > (4 : Int))) then
  some (false)
  else
  (bif (g_a1.op != (0 : Int)) then
  some (true)
  else
  ((qaW p_a0.f0_Decls g_a1.n (g_a1.ts.length : Int)).bind fun r_5 =>
  some (r_5))))))
set_option maxHeartbeats 1000000 in
theorem qkk (p_a0 : qI) (g_a1 : Gl) (res : Bool) (hr : qej p_a0 g_a1 = some res) : Gives Tryz.prog 97 [qn p_a0, encG g_a1] (.bool res) := by
  unfold qej at hr
  refine qR [(0, qn p_a0), (1, encG g_a1)] Tryz.func97 rfl rfl fun K hK => (qh (gr [.d, .d, .d] (r_d rfl rfl rfl (qef rfl rfl rfl) (r_d rfl rfl rfl (qef rfl rfl rfl) (r_d rfl rfl rfl (qe rfl rfl) (qj (qh (qh (gr [.d, .d, .d, .d, .d, .d, .d, .d] (r_d rfl rfl rfl (qk rfl rfl (by exact qdb) (qbi _)) ?_))))))))))
  obtain ⟨r_1, hr_1, hr⟩ := bindS hr
  refine r_d rfl rfl rfl (qK rfl qgM (.oc rfl .nil) (qgO _ _ hr_1)) (r_d rfl rfl rfl (qdO rfl rfl) (r_d rfl rfl rfl (qb rfl rfl) ?_))
  refine r_sB 8 rfl hr (fun h8_1 hr => ?_) (fun h8_1 hr => ?_)
  ·
   refine qc rfl rfl rfl (qc rfl rfl rfl (qc rfl rfl rfl (r_d rfl rfl rfl (qy rfl rfl rfl) (qj (qo rfl (qh (gr [.d] (r_d rfl rfl rfl (qe rfl rfl) (qj ?_)))))))))
   obtain rfl := Option.some.inj hr
   refine qJ Tryz.func97 _ (.cons (resTmp rfl (Wk.refl _)) .nil) ?_
   rfl
  ·
   refine r_d rfl rfl rfl (qg rfl qdo rfl rfl rfl rfl) (r_d rfl rfl rfl (qk rfl rfl (by exact qW) rfl) (r_d rfl rfl rfl (qB rfl rfl rfl rfl) (r_d rfl rfl rfl (qD rfl rfl rfl) (qj ?_))))
   refine g_sB 12 rfl hr (fun h12_2 hr => ?_) (fun h12_2 hr => ?_)
   ·
    refine qo rfl (qh (gr [.d] (r_d rfl rfl rfl (qe rfl rfl) (qj ?_))))
    obtain rfl := Option.some.inj hr
    refine qJ Tryz.func97 _ (.cons (resTmp rfl (Wk.refl _)) .nil) ?_
    rfl
   ·
    refine qs rfl (qE (qh (gr [.d, .d, .d, .d, .d, .d, .d, .d, .d, .d, .d, .d, .d, .d] (r_d rfl rfl rfl (qg rfl qdo rfl rfl rfl rfl) (r_d rfl rfl rfl (qk rfl rfl (by exact qW) rfl) (r_d rfl rfl rfl (qB rfl rfl rfl rfl) (r_d rfl rfl rfl (qb rfl rfl) ?_)))))))
    refine r_sB 16 rfl hr (fun h16_3 hr => ?_) (fun h16_3 hr => ?_)
    ·
     refine qc rfl rfl rfl (qc rfl rfl rfl (qc rfl rfl rfl (qc rfl rfl rfl (qc rfl rfl rfl (qc rfl rfl rfl (qc rfl rfl rfl (qc rfl rfl rfl (r_d rfl rfl rfl (qy rfl rfl rfl) (r_d rfl rfl rfl (qe rfl rfl) (qj ?_))))))))))
     obtain rfl := Option.some.inj hr
     refine qJ Tryz.func97 _ (.cons (resTmp rfl (Wk.refl _)) .nil) ?_
     rfl
    ·
     refine r_d rfl rfl rfl (qg rfl qce rfl rfl rfl rfl) (r_d rfl rfl rfl (qk rfl rfl (by exact qde) rfl) (r_d rfl rfl rfl (qg rfl qhc rfl rfl rfl rfl) (r_d rfl rfl rfl (qk rfl rfl (by exact qdg) rfl) (r_d rfl rfl rfl (qg rfl qcB rfl rfl rfl rfl) (r_d rfl rfl rfl (qk rfl rfl (by exact qal) rfl) (r_d rfl rfl rfl (qT (f := encT) g_a1.ts rfl qaj rfl (asl rfl)) ?_))))))
     obtain ⟨r_5, hr_5, hr⟩ := bindS hr
     refine r_d rfl rfl rfl (qK rfl qcS (.oc rfl (.oc rfl (.oc rfl .nil))) (qcY _ _ _ _ hr_5)) (r_d rfl rfl rfl (qD rfl rfl rfl) (r_d rfl rfl rfl (qe rfl rfl) (qj ?_)))
     obtain rfl := Option.some.inj hr
     refine qJ Tryz.func97 _ (.cons (resTmp rfl (Wk.refl _)) .nil) ?_
     rfl
noncomputable def qeA (fuel : Nat) (g_a0 : Gl) (fresh_a1 : Int) (b_a2 : (List (Int × T))) : Option (Bool) :=
  ((qcn fuel g_a0).bind fun r_1 =>
  ((qcC r_1 fresh_a1 b_a2).bind fun r_2 =>
  some (r_2)))
set_option maxHeartbeats 1000000 in
theorem qkK (fuel : Nat) (g_a0 : Gl) (fresh_a1 : Int) (b_a2 : (List (Int × T))) (res : Bool) (hr : qeA fuel g_a0 fresh_a1 b_a2 = some res) : Gives Tryz.prog 98 [encG g_a0, .int .i64 fresh_a1, .lst (b_a2.map encP)] (.bool res) := by
  unfold qeA at hr
  refine qR [(0, encG g_a0), (1, .int .i64 fresh_a1), (2, .lst (b_a2.map encP))] Tryz.func98 rfl rfl fun K hK => (qh (gr [.d, .d] (r_d rfl rfl rfl (qef rfl rfl rfl) (r_d rfl rfl rfl (qe rfl rfl) (qj (qh (gr [.d, .d, .d, .d, .d, .d] (r_d rfl rfl rfl (qk rfl rfl (by exact qdb) (qbi _)) ?_))))))))
  obtain ⟨r_1, hr_1, hr⟩ := bindS hr
  refine r_d rfl rfl rfl (qK rfl qfA (.oc rfl .nil) (qfC fuel _ _ hr_1)) (r_d rfl rfl rfl (qb rfl rfl) (r_d rfl rfl rfl (qb rfl rfl) ?_))
  obtain ⟨r_2, hr_2, hr⟩ := bindS hr
  refine r_d rfl rfl rfl (qK rfl qgm (.oc rfl (.oc rfl (.oc rfl .nil))) (qgh _ _ _ _ hr_2)) (r_d rfl rfl rfl (qe rfl rfl) (qj ?_))
  obtain rfl := Option.some.inj hr
  refine qJ Tryz.func98 _ (.cons (resTmp rfl (Wk.refl _)) .nil) ?_
  rfl
noncomputable def qeo (g_a0 : Gl) : Option (Bool) :=
  (bif (g_a0.op == (0 : Int)) then
  (bif (g_a0.n.toList == (⟨#[]⟩ : ByteArray).toList) then
  some (((g_a0.ts.length : Int) == (0 : Int)))
  else
  some (false))
  else
  some (false))
set_option maxHeartbeats 1000000 in
theorem qkx (g_a0 : Gl) (res : Bool) (hr : qeo g_a0 = some res) : Gives Tryz.prog 99 [encG g_a0] (.bool res) := by
  unfold qeo at hr
  refine qR [(0, encG g_a0)] Tryz.func99 rfl rfl fun K hK => (qh (gr [.d, .d] (r_d rfl rfl rfl (qef rfl rfl rfl) (r_d rfl rfl rfl (qe rfl rfl) (qj (qh (gr [.d, .d, .d, .d, .d, .d, .d, .d, .d, .d, .d, .d, .d, .d, .d] (r_d rfl rfl rfl (qg rfl qdo rfl rfl rfl rfl) (r_d rfl rfl rfl (qk rfl rfl (by exact qW) rfl) (r_d rfl rfl rfl (qB rfl rfl rfl rfl) (r_d rfl rfl rfl (qb rfl rfl) ?_)))))))))))
  refine r_sB 6 rfl hr (fun h6_0 hr => ?_) (fun h6_0 hr => ?_)
  ·
   refine r_d rfl rfl rfl (qg rfl qhc rfl rfl rfl rfl) (r_d rfl rfl rfl (qk rfl rfl (by exact qdg) rfl) (r_d rfl rfl rfl (qnN rfl rfl rfl rfl) (r_d rfl rfl rfl (qy rfl rfl rfl) (r_d rfl rfl rfl (qb rfl rfl) ?_))))
   refine r_sB 11 rfl hr (fun h11_1 hr => ?_) (fun h11_1 hr => ?_)
   ·
    refine r_d rfl rfl rfl (qg rfl qcB rfl rfl rfl rfl) (r_d rfl rfl rfl (qk rfl rfl (by exact qal) rfl) (r_d rfl rfl rfl (qT (f := encT) g_a0.ts rfl qaj rfl (asl rfl)) (r_d rfl rfl rfl (qB rfl rfl rfl rfl) (r_d rfl rfl rfl (qy rfl rfl rfl) (r_d rfl rfl rfl (qe rfl rfl) (qj ?_))))))
    obtain rfl := Option.some.inj hr
    refine qJ Tryz.func99 _ (.cons (resTmp rfl (Wk.refl _)) .nil) ?_
    rfl
   ·
    refine qc rfl rfl rfl (qc rfl rfl rfl (qc rfl rfl rfl (qc rfl rfl rfl (r_d rfl rfl rfl (qD rfl rfl rfl) (r_d rfl rfl rfl (qe rfl rfl) (qj ?_))))))
    obtain rfl := Option.some.inj hr
    refine qJ Tryz.func99 _ (.cons (resTmp rfl (Wk.refl _)) .nil) ?_
    rfl
  ·
   refine qc rfl rfl rfl (qc rfl rfl rfl (qc rfl rfl rfl (r_d rfl rfl rfl (qD rfl rfl rfl) (r_d rfl rfl rfl (qb rfl rfl) (qc rfl rfl rfl (qc rfl rfl rfl (qc rfl rfl rfl (qc rfl rfl rfl (r_d rfl rfl rfl (qD rfl rfl rfl) (r_d rfl rfl rfl (qe rfl rfl) (qj ?_)))))))))))
   obtain rfl := Option.some.inj hr
   refine qJ Tryz.func99 _ (.cons (resTmp rfl (Wk.refl _)) .nil) ?_
   rfl
noncomputable def qaU (k : Option (Bool)) (c_a1 : qar) (fuel : Nat) (p_a0 : qI) (r_6 : (List qc5)) : List qas → Option (Bool)
  | [] =>
  k
  | q_8 :: rest =>
  (bif (q_8.f1_ID == (0 : Int)) then
  (bif (q_8.f2_Occ != (0 : Int)) then
  some (false)
  else
  ((qej p_a0 q_8.f0_Goal).bind fun r_12 =>
  (bif (!r_12) then
  some (false)
  else
  ((qeA fuel q_8.f0_Goal c_a1.f5_Fresh c_a1.f2_Binds).bind fun r_14 =>
  (bif (!r_14) then
  some (false)
  else
  (qaU k c_a1 fuel p_a0 r_6 rest))))))
  else
  (bif (decide (q_8.f1_ID < (1 : Int))) then
  some (false)
  else
  (bif (decide (q_8.f1_ID ≥ c_a1.f4_Next)) then
  some (false)
  else
  ((qeo q_8.f0_Goal).bind fun r_18 =>
  (bif (!r_18) then
  some (false)
  else
  (bif (decide (q_8.f2_Occ < ((-1) : Int))) then
  some (false)
  else
  (bif (decide (q_8.f2_Occ > (r_6.length : Int))) then
  some (false)
  else
  (qaU k c_a1 fuel p_a0 r_6 rest))))))))
noncomputable def qet (fuel : Nat) (p_a0 : qI) (c_a1 : qar) : Option (Bool) :=
  ((qds fuel p_a0).bind fun r_1 =>
  (bif (r_1.2 != (0 : Int)) then
  some (false)
  else
  (bif (decide ((c_a1.f0_Stack.length : Int) > (1000 : Int))) then
  some (false)
  else
  ((qd7 fuel p_a0 c_a1.f1_Store c_a1.f2_Binds c_a1.f3_Fired c_a1.f4_Next c_a1.f5_Fresh).bind fun r_4 =>
  (bif (!r_4) then
  some (false)
  else
  ((qfL p_a0).bind fun r_6 =>
  (qaU (some (true)) c_a1 fuel p_a0 r_6 c_a1.f0_Stack)))))))
set_option maxHeartbeats 1000000 in
theorem qkn (fuel : Nat) (p_a0 : qI) (c_a1 : qar) (res : Bool) (hr : qet fuel p_a0 c_a1 = some res) : Gives Tryz.prog 23 [qn p_a0, qae c_a1] (.bool res) := by
  unfold qet at hr
  refine qR [(0, qn p_a0), (1, qae c_a1)] Tryz.func23 rfl rfl fun K hK => (qh (gr [.d, .d, .d] (r_d rfl rfl rfl (qef rfl rfl rfl) (r_d rfl rfl rfl (qef rfl rfl rfl) (r_d rfl rfl rfl (qe rfl rfl) (qj (qh (gr [.d, .d, .d, .d, .d, .d, .d] (r_d rfl rfl rfl (qk rfl rfl (by exact qam) (qak _)) ?_)))))))))
  obtain ⟨r_1, hr_1, hr⟩ := bindS hr
  refine r_d rfl rfl rfl (qK rfl qh4 (.oc rfl .nil) (qie fuel _ _ hr_1)) (r_d rfl rfl rfl (qb rfl rfl) (r_d rfl rfl rfl (qaH rfl rfl rfl) (r_d rfl rfl rfl (qaH rfl rfl rfl) (r_d rfl rfl rfl (qe rfl rfl) (r_d rfl rfl rfl (qe rfl rfl) (qj (qh (qh (gr [.d, .d, .d, .d, .d, .d, .d, .d] (r_d rfl rfl rfl (qb rfl rfl) (r_d rfl rfl rfl (qB rfl rfl rfl rfl) ?_)))))))))))
  refine r_d rfl rfl rfl (qb rfl rfl) ?_
  refine r_sB 17 rfl hr (fun h17_1 hr => ?_) (fun h17_1 hr => ?_)
  ·
   refine qc rfl rfl rfl (qc rfl rfl rfl (qc rfl rfl rfl (qc rfl rfl rfl (r_d rfl rfl rfl (qy rfl rfl rfl) (qj (qo rfl (qh (gr [.d] (r_d rfl rfl rfl (qe rfl rfl) (qj ?_))))))))))
   obtain rfl := Option.some.inj hr
   refine qJ Tryz.func23 _ (.cons (resTmp rfl (Wk.refl _)) .nil) ?_
   rfl
  ·
   refine r_d rfl rfl rfl (qg rfl qd5 rfl rfl rfl rfl) (r_d rfl rfl rfl (qk rfl rfl (by exact qew) rfl) (r_d rfl rfl rfl (qT (f := qP) c_a1.f0_Stack rfl qcv rfl (asl rfl)) (r_d rfl rfl rfl (qB rfl rfl rfl rfl) (r_d rfl rfl rfl (qD rfl rfl rfl) (qj ?_)))))
   refine g_sB 22 rfl hr (fun h22_2 hr => ?_) (fun h22_2 hr => ?_)
   ·
    refine qo rfl (qh (gr [.d] (r_d rfl rfl rfl (qe rfl rfl) (qj ?_))))
    obtain rfl := Option.some.inj hr
    refine qJ Tryz.func23 _ (.cons (resTmp rfl (Wk.refl _)) .nil) ?_
    rfl
   ·
    refine qs rfl (qE (qh (qh (gr [.d, .d, .d, .d, .d, .d, .d, .d, .d, .d, .d, .d, .d] (r_d rfl rfl rfl (qk rfl rfl (by exact qam) (qak _)) (r_d rfl rfl rfl (qg rfl qig rfl rfl rfl rfl) (r_d rfl rfl rfl (qk rfl rfl (by exact qja) rfl) (r_d rfl rfl rfl (qg rfl qg1 rfl rfl rfl rfl) (r_d rfl rfl rfl (qk rfl rfl (by exact qiK) rfl) (r_d rfl rfl rfl (qg rfl qil rfl rfl rfl rfl) (r_d rfl rfl rfl (qk rfl rfl (by exact qi8) rfl) ?_)))))))))))
    refine r_d rfl rfl rfl (qg rfl qio rfl rfl rfl rfl) (r_d rfl rfl rfl (qk rfl rfl (by exact qW) rfl) (r_d rfl rfl rfl (qg rfl qiB rfl rfl rfl rfl) (r_d rfl rfl rfl (qk rfl rfl (by exact qW) rfl) ?_)))
    obtain ⟨r_4, hr_4, hr⟩ := bindS hr
    refine r_d rfl rfl rfl (qK rfl qjU (.oc rfl (.oc rfl (.oc rfl (.oc rfl (.oc rfl (.oc rfl .nil)))))) (qjS fuel _ _ _ _ _ _ _ hr_4)) (r_d rfl rfl rfl (qdO rfl rfl) (qj ?_))
    refine g_sB 35 rfl hr (fun h35_4 hr => ?_) (fun h35_4 hr => ?_)
    ·
     refine qo rfl (qh (gr [.d] (r_d rfl rfl rfl (qe rfl rfl) (qj ?_))))
     obtain rfl := Option.some.inj hr
     refine qJ Tryz.func23 _ (.cons (resTmp rfl (Wk.refl _)) .nil) ?_
     rfl
    ·
     refine qs rfl (qE (qh (gr [.d, .d, .d, .d] (r_d rfl rfl rfl (qk rfl rfl (by exact qam) (qak _)) ?_))))
     obtain ⟨r_6, hr_6, hr⟩ := bindS hr
     refine r_d rfl rfl rfl (qK rfl qlr (.oc rfl .nil) (qln _ _ hr_6)) (r_d rfl rfl rfl (qT (f := qcQ) r_6 rfl qlz rfl (asl rfl)) (r_d rfl rfl rfl (qe rfl rfl) (qj (qh (qh (gr [.d] (r_d rfl rfl rfl (qe rfl rfl) (qj ?_))))))))
     obtain ⟨kk0, hkk0, hr⟩ := exK (fun k => qaU k c_a1 fuel p_a0 r_6 c_a1.f0_Stack) hr
     refine qdG 19 rfl (asl rfl) fun hla0 => ?_
     simp only [List.length_map] at hla0
     refine qV (fun env σ => env = [] ∧ σ = [] ∧ kk0 = some res) ?_ (fun HK0 => ?_)
     ·
      rintro _ _ ⟨rfl, rfl, hr⟩
      rw [hkk0] at hr
      refine qh (gr [.d] (r_d rfl rfl rfl (qe rfl rfl) (qj ?_)))
      obtain rfl := Option.some.inj hr
      refine qJ Tryz.func23 _ (.cons (resTmp rfl (Wk.refl _)) .nil) ?_
      rfl
     ·
      refine qM [(2, .ptr (qn p_a0)), (3, .ptr (qae c_a1)), (7, .int .i64 (r_6.length : Int)), (8, .int .i64 ((0 : Nat) : Int))] (Sub.cons' rfl (Sub.cons' rfl (Sub.cons' rfl (Sub.cons' rfl (Sub.nil _))))) (qaM (fun n env σ => ∃ (i_7 : Nat), (n = c_a1.f0_Stack.length - i_7) ∧ (env = [(2, .ptr (qn p_a0)), (3, .ptr (qae c_a1)), (7, .int .i64 (r_6.length : Int)), (8, .int .i64 (i_7 : Int))]) ∧ (σ = []) ∧ (i_7 ≤ c_a1.f0_Stack.length) ∧ (qaU kk0 c_a1 fuel p_a0 r_6 (c_a1.f0_Stack.drop i_7) = some res)) _ ⟨0, rfl, rfl, rfl, Nat.zero_le _, hr⟩ ?_)
      rintro n _ _ ⟨i_7, rfl, rfl, rfl, hi0, hr⟩ IH0
      rcases listStep c_a1.f0_Stack i_7 hi0 with ⟨ht0, hd0, he0⟩ | ⟨q_8, ht0, hd0, hq0, hlt0⟩
      ·
       rw [hd0, qaU] at hr
       refine qh (qh (gr [.d, .d, .d, .d, .d] (r_d rfl rfl rfl (qb rfl rfl) (r_d rfl rfl rfl (qg rfl qd5 rfl rfl rfl rfl) (r_d rfl rfl rfl (qk rfl rfl (by exact qew) rfl) (r_d rfl rfl rfl (qT (f := qP) c_a1.f0_Stack rfl qcv rfl (asl rfl)) (r_d rfl rfl rfl (qB rfl rfl rfl rfl) (qj (qC 43 false rfl ht0 (qs rfl (qaw rfl ?_)))))))))))
       refine qM [] (Sub.nil _) ?_
       exact HK0 _ _ ⟨rfl, rfl, hr⟩
      ·
       rw [hd0, qaU] at hr
       refine qh (qh (gr [.d, .d, .d, .d, .d] (r_d rfl rfl rfl (qb rfl rfl) (r_d rfl rfl rfl (qg rfl qd5 rfl rfl rfl rfl) (r_d rfl rfl rfl (qk rfl rfl (by exact qew) rfl) (r_d rfl rfl rfl (qT (f := qP) c_a1.f0_Stack rfl qcv rfl (asl rfl)) (r_d rfl rfl rfl (qB rfl rfl rfl rfl) (qj (qC 43 true rfl ht0 (qo rfl (qE ?_)))))))))))
       refine qh (q0 (qh (gr [.d, .d, .d, .d, .d, .w, .w] (r_d rfl rfl rfl (qg rfl qd5 rfl rfl rfl rfl) (r_d rfl rfl rfl (qk rfl rfl (by exact qew) rfl) (r_d rfl rfl rfl (qb rfl rfl) (r_d rfl rfl rfl (qN (f := qP) c_a1.f0_Stack rfl qcv rfl (asl rfl) rfl hq0 qdD rfl) (r_d rfl rfl rfl (qk rfl rfl (by exact qe4) (qdD _)) (r_w rfl rfl rfl (qa8 rfl qlt) ?_)))))))))
       rintro _ _ ⟨b9_8, rfl, rfl⟩
       refine qbE rfl rfl rfl (qag _ rfl rfl rfl (Wk.refl _) (pf0 _) (by exact qe4) (qdD _) (by first | rfl | simp [sz, szs, qdC, qbi]) rfl) (qj (qaT 9 b9_8 rfl (pf0 _) (qh (gr [.d, .d, .d] (r_d rfl rfl rfl (qg rfl qfT rfl rfl (by simp [szs, sz, qbi]) rfl) (r_d rfl rfl rfl (qk rfl rfl (by exact qW) rfl) (r_d rfl rfl rfl (qB rfl rfl rfl rfl) (qj ?_))))))))
       refine g_sB 53 rfl hr (fun h53_9 hr => ?_) (fun h53_9 hr => ?_)
       ·
        refine qo rfl (qh (gr [.d, .d, .d, .d, .d, .d, .d, .d, .d, .d, .d, .d, .d, .d, .d, .d, .d, .d, .d, .d] (r_d rfl rfl rfl (qg rfl qgE rfl rfl (by simp [szs, sz, qbi]) rfl) (r_d rfl rfl rfl (qk rfl rfl (by exact qW) rfl) (r_d rfl rfl rfl (qB rfl rfl rfl rfl) (r_d rfl rfl rfl (qb rfl rfl) ?_))))))
        refine r_sB 57 rfl hr (fun h57_10 hr => ?_) (fun h57_10 hr => ?_)
        ·
         refine qc rfl rfl rfl (qc rfl rfl rfl (qc rfl rfl rfl (qc rfl rfl rfl (qc rfl rfl rfl (r_d rfl rfl rfl (qy rfl rfl rfl) (r_d rfl rfl rfl (qb rfl rfl) (qc rfl rfl rfl (qc rfl rfl rfl (qc rfl rfl rfl (qc rfl rfl rfl (qc rfl rfl rfl ?_)))))))))))
         refine qc rfl rfl rfl (qc rfl rfl rfl (qc rfl rfl rfl (r_d rfl rfl rfl (qy rfl rfl rfl) (qj (qo rfl (qh (gr [.d] (r_d rfl rfl rfl (qe rfl rfl) (qj ?_)))))))))
         obtain rfl := Option.some.inj hr
         refine qJ Tryz.func23 _ (.cons (resTmp rfl (Wk.refl _)) .nil) ?_
         rfl
        ·
         refine r_d rfl rfl rfl (qk rfl rfl (by exact qam) (qak _)) (r_d rfl rfl rfl (qg rfl qe1 rfl rfl rfl rfl) (r_d rfl rfl rfl (qk rfl rfl (by exact qdb) (qbi _)) ?_))
         obtain ⟨r_12, hr_12, hr⟩ := bindS hr
         refine r_d rfl rfl rfl (qK rfl qkH (.oc rfl (.oc rfl .nil)) (qkk _ _ _ hr_12)) (r_d rfl rfl rfl (qdO rfl rfl) (r_d rfl rfl rfl (qD rfl rfl rfl) (r_d rfl rfl rfl (qb rfl rfl) ?_)))
         refine r_sB 64 rfl hr (fun h64_12 hr => ?_) (fun h64_12 hr => ?_)
         ·
          refine qc rfl rfl rfl (qc rfl rfl rfl (qc rfl rfl rfl (qc rfl rfl rfl (qc rfl rfl rfl (qc rfl rfl rfl (qc rfl rfl rfl (qc rfl rfl rfl (r_d rfl rfl rfl (qy rfl rfl rfl) (qj (qo rfl (qh ?_)))))))))))
          refine gr [.d] (r_d rfl rfl rfl (qe rfl rfl) (qj ?_))
          obtain rfl := Option.some.inj hr
          refine qJ Tryz.func23 _ (.cons (resTmp rfl (Wk.refl _)) .nil) ?_
          rfl
         ·
          refine r_d rfl rfl rfl (qg rfl qe1 rfl rfl rfl rfl) (r_d rfl rfl rfl (qk rfl rfl (by exact qdb) (qbi _)) (r_d rfl rfl rfl (qg rfl qiB rfl rfl rfl rfl) (r_d rfl rfl rfl (qk rfl rfl (by exact qW) rfl) (r_d rfl rfl rfl (qg rfl qg1 rfl rfl rfl rfl) (r_d rfl rfl rfl (qk rfl rfl (by exact qiK) rfl) ?_)))))
          obtain ⟨r_14, hr_14, hr⟩ := bindS hr
          refine r_d rfl rfl rfl (qK rfl qk0 (.oc rfl (.oc rfl (.oc rfl .nil))) (qkK fuel _ _ _ _ hr_14)) (r_d rfl rfl rfl (qdO rfl rfl) (r_d rfl rfl rfl (qD rfl rfl rfl) (qj ?_)))
          refine g_sB 73 rfl hr (fun h73_14 hr => ?_) (fun h73_14 hr => ?_)
          ·
           refine qo rfl (qh (gr [.d] (r_d rfl rfl rfl (qe rfl rfl) (qj ?_))))
           obtain rfl := Option.some.inj hr
           refine qJ Tryz.func23 _ (.cons (resTmp rfl (Wk.refl _)) .nil) ?_
           rfl
          ·
           refine qs rfl (qE (qF (gr [.d, .d, .d] (r_d rfl rfl rfl (qb rfl rfl) (r_d rfl rfl rfl (s_ar (r := ((i_7 + 1 : Nat) : Int)) rfl rfl rfl (by simp [iar]) (by omega)) (r_d rfl rfl rfl (qe rfl rfl) (qj (qM [(2, .ptr (qn p_a0)), (3, .ptr (qae c_a1)), (7, .int .i64 (r_6.length : Int)), (8, .int .i64 ((i_7 + 1 : Nat) : Int))] (Sub.cons' rfl (Sub.cons' rfl (Sub.cons' rfl (Sub.cons' rfl (Sub.nil _))))) ?_))))))))
           exact IH0 _ _ _ (by omega) ⟨(i_7 + 1), rfl, rfl, rfl, (by omega), hr⟩
       ·
        refine qs rfl (qh (gr [.d, .d, .d, .d, .d, .d, .d, .d, .d, .d, .d, .d, .d, .d, .d, .d, .d, .d, .d, .d, .d, .d, .d, .d, .d, .d, .d] (r_d rfl rfl rfl (qg rfl qfT rfl rfl (by simp [szs, sz, qbi]) rfl) (r_d rfl rfl rfl (qk rfl rfl (by exact qW) rfl) (r_d rfl rfl rfl (qB rfl rfl rfl rfl) (r_d rfl rfl rfl (qb rfl rfl) ?_))))))
        refine r_sB 77 rfl hr (fun h77_15 hr => ?_) (fun h77_15 hr => ?_)
        ·
         refine qc rfl rfl rfl (qc rfl rfl rfl (qc rfl rfl rfl (qc rfl rfl rfl (qc rfl rfl rfl (r_d rfl rfl rfl (qy rfl rfl rfl) (r_d rfl rfl rfl (qb rfl rfl) (qc rfl rfl rfl (qc rfl rfl rfl (qc rfl rfl rfl (qc rfl rfl rfl (r_d rfl rfl rfl (qy rfl rfl rfl) ?_)))))))))))
         refine r_d rfl rfl rfl (qb rfl rfl) (qc rfl rfl rfl (qc rfl rfl rfl (qc rfl rfl rfl (r_d rfl rfl rfl (qy rfl rfl rfl) (r_d rfl rfl rfl (qb rfl rfl) (qc rfl rfl rfl (qc rfl rfl rfl (qc rfl rfl rfl (qc rfl rfl rfl (r_d rfl rfl rfl (qy rfl rfl rfl) (qj ?_)))))))))))
         refine qo rfl (qh (gr [.d] (r_d rfl rfl rfl (qe rfl rfl) (qj ?_))))
         obtain rfl := Option.some.inj hr
         refine qJ Tryz.func23 _ (.cons (resTmp rfl (Wk.refl _)) .nil) ?_
         rfl
        ·
         refine r_d rfl rfl rfl (qg rfl qfT rfl rfl (by simp [szs, sz, qbi]) rfl) (r_d rfl rfl rfl (qk rfl rfl (by exact qW) rfl) (r_d rfl rfl rfl (qg rfl qio rfl rfl rfl rfl) (r_d rfl rfl rfl (qk rfl rfl (by exact qW) rfl) (r_d rfl rfl rfl (qB rfl rfl rfl rfl) (r_d rfl rfl rfl (qD rfl rfl rfl) (r_d rfl rfl rfl (qb rfl rfl) ?_))))))
         refine r_sB 84 rfl hr (fun h84_16 hr => ?_) (fun h84_16 hr => ?_)
         ·
          refine qc rfl rfl rfl (qc rfl rfl rfl (qc rfl rfl rfl (qc rfl rfl rfl (r_d rfl rfl rfl (qy rfl rfl rfl) (r_d rfl rfl rfl (qb rfl rfl) (qc rfl rfl rfl (qc rfl rfl rfl (qc rfl rfl rfl (r_d rfl rfl rfl (qy rfl rfl rfl) (r_d rfl rfl rfl (qb rfl rfl) (qc rfl rfl rfl ?_)))))))))))
          refine qc rfl rfl rfl (qc rfl rfl rfl (qc rfl rfl rfl (r_d rfl rfl rfl (qy rfl rfl rfl) (qj (qo rfl (qh (gr [.d] (r_d rfl rfl rfl (qe rfl rfl) (qj ?_)))))))))
          obtain rfl := Option.some.inj hr
          refine qJ Tryz.func23 _ (.cons (resTmp rfl (Wk.refl _)) .nil) ?_
          rfl
         ·
          refine r_d rfl rfl rfl (qg rfl qe1 rfl rfl rfl rfl) (r_d rfl rfl rfl (qk rfl rfl (by exact qdb) (qbi _)) ?_)
          obtain ⟨r_18, hr_18, hr⟩ := bindS hr
          refine r_d rfl rfl rfl (qK rfl qkB (.oc rfl .nil) (qkx _ _ hr_18)) (r_d rfl rfl rfl (qdO rfl rfl) (r_d rfl rfl rfl (qD rfl rfl rfl) (r_d rfl rfl rfl (qb rfl rfl) ?_)))
          refine r_sB 90 rfl hr (fun h90_18 hr => ?_) (fun h90_18 hr => ?_)
          ·
           refine qc rfl rfl rfl (qc rfl rfl rfl (qc rfl rfl rfl (r_d rfl rfl rfl (qy rfl rfl rfl) (r_d rfl rfl rfl (qb rfl rfl) (qc rfl rfl rfl (qc rfl rfl rfl (qc rfl rfl rfl (qc rfl rfl rfl (r_d rfl rfl rfl (qy rfl rfl rfl) (qj (qo rfl ?_)))))))))))
           refine qh (gr [.d] (r_d rfl rfl rfl (qe rfl rfl) (qj ?_)))
           obtain rfl := Option.some.inj hr
           refine qJ Tryz.func23 _ (.cons (resTmp rfl (Wk.refl _)) .nil) ?_
           rfl
          ·
           refine r_d rfl rfl rfl (qg rfl qgE rfl rfl (by simp [szs, sz, qbi]) rfl) (r_d rfl rfl rfl (qk rfl rfl (by exact qW) rfl) (r_d rfl rfl rfl (qB rfl rfl rfl rfl) (r_d rfl rfl rfl (qD rfl rfl rfl) (r_d rfl rfl rfl (qb rfl rfl) ?_))))
           refine r_sB 95 rfl hr (fun h95_19 hr => ?_) (fun h95_19 hr => ?_)
           ·
            refine qc rfl rfl rfl (qc rfl rfl rfl (qc rfl rfl rfl (qc rfl rfl rfl (r_d rfl rfl rfl (qy rfl rfl rfl) (qj (qo rfl (qh (gr [.d] (r_d rfl rfl rfl (qe rfl rfl) (qj ?_))))))))))
            obtain rfl := Option.some.inj hr
            refine qJ Tryz.func23 _ (.cons (resTmp rfl (Wk.refl _)) .nil) ?_
            rfl
           ·
            refine r_d rfl rfl rfl (qg rfl qgE rfl rfl (by simp [szs, sz, qbi]) rfl) (r_d rfl rfl rfl (qk rfl rfl (by exact qW) rfl) (r_d rfl rfl rfl (qb rfl rfl) (r_d rfl rfl rfl (qB rfl rfl rfl rfl) (r_d rfl rfl rfl (qD rfl rfl rfl) (qj ?_)))))
            refine g_sB 100 rfl hr (fun h100_20 hr => ?_) (fun h100_20 hr => ?_)
            ·
             refine qo rfl (qh (gr [.d] (r_d rfl rfl rfl (qe rfl rfl) (qj ?_))))
             obtain rfl := Option.some.inj hr
             refine qJ Tryz.func23 _ (.cons (resTmp rfl (Wk.refl _)) .nil) ?_
             rfl
            ·
             refine qs rfl (qE (qF (gr [.d, .d, .d] (r_d rfl rfl rfl (qb rfl rfl) (r_d rfl rfl rfl (s_ar (r := ((i_7 + 1 : Nat) : Int)) rfl rfl rfl (by simp [iar]) (by omega)) (r_d rfl rfl rfl (qe rfl rfl) (qj (qM [(2, .ptr (qn p_a0)), (3, .ptr (qae c_a1)), (7, .int .i64 (r_6.length : Int)), (8, .int .i64 ((i_7 + 1 : Nat) : Int))] (Sub.cons' rfl (Sub.cons' rfl (Sub.cons' rfl (Sub.cons' rfl (Sub.nil _))))) ?_))))))))
             exact IH0 _ _ _ (by omega) ⟨(i_7 + 1), rfl, rfl, rfl, (by omega), hr⟩
noncomputable def qbg (k : Option (Bool)) (n_a1 : Int) : List Int → Option (Bool)
  | [] =>
  k
  | q_2 :: rest =>
  (bif (q_2 == n_a1) then
  some (true)
  else
  (qbg k n_a1 rest))
noncomputable def qbV (l_a0 : (List Int)) (n_a1 : Int) : Option (Bool) :=
  (qbg (some (false)) n_a1 l_a0)
set_option maxHeartbeats 1000000 in
theorem qeT (l_a0 : (List Int)) (n_a1 : Int) (res : Bool) (hr : qbV l_a0 n_a1 = some res) : Gives Tryz.prog 186 [.lst (l_a0.map (D.int .i64)), .int .i64 n_a1] (.bool res) := by
  unfold qbV at hr
  refine qR [(0, .lst (l_a0.map (D.int .i64))), (1, .int .i64 n_a1)] Tryz.func186 rfl rfl fun K hK => (qh (gr [.d] (r_d rfl rfl rfl (qe rfl rfl) (qj (qh (qh (gr [.d] (r_d rfl rfl rfl (qe rfl rfl) (qj ?_)))))))))
  obtain ⟨kk0, hkk0, hr⟩ := exK (fun k => qbg k n_a1 l_a0) hr
  refine qdG 0 rfl (asl rfl) fun hla0 => ?_
  simp only [List.length_map] at hla0
  refine qV (fun env σ => env = [] ∧ σ = [] ∧ kk0 = some res) ?_ (fun HK0 => ?_)
  ·
   rintro _ _ ⟨rfl, rfl, hr⟩
   rw [hkk0] at hr
   refine qh (gr [.d] (r_d rfl rfl rfl (qe rfl rfl) (qj ?_)))
   obtain rfl := Option.some.inj hr
   refine qJ Tryz.func186 _ (.cons (resTmp rfl (Wk.refl _)) .nil) ?_
   rfl
  ·
   refine qM [(0, .lst (l_a0.map (D.int .i64))), (1, .int .i64 n_a1), (5, .int .i64 ((0 : Nat) : Int))] (Sub.cons' rfl (Sub.cons' rfl (Sub.cons' rfl (Sub.nil _)))) (qaM (fun n env σ => ∃ (i_1 : Nat), (n = l_a0.length - i_1) ∧ (env = [(0, .lst (l_a0.map (D.int .i64))), (1, .int .i64 n_a1), (5, .int .i64 (i_1 : Int))]) ∧ (σ = []) ∧ (i_1 ≤ l_a0.length) ∧ (qbg kk0 n_a1 (l_a0.drop i_1) = some res)) _ ⟨0, rfl, rfl, rfl, Nat.zero_le _, hr⟩ ?_)
   rintro n _ _ ⟨i_1, rfl, rfl, rfl, hi0, hr⟩ IH0
   rcases listStep l_a0 i_1 hi0 with ⟨ht0, hd0, he0⟩ | ⟨q_2, ht0, hd0, hq0, hlt0⟩
   ·
    rw [hd0, qbg] at hr
    refine qh (qh (gr [.d, .d, .d, .d] (r_d rfl rfl rfl (qb rfl rfl) (r_d rfl rfl rfl (qb rfl rfl) (r_d rfl rfl rfl (qT (f := (D.int .i64)) l_a0 rfl qH rfl (asl rfl)) (r_d rfl rfl rfl (qB rfl rfl rfl rfl) (qj (qC 9 false rfl ht0 (qs rfl (qaw rfl (qM [] (Sub.nil _) ?_)))))))))))
    exact HK0 _ _ ⟨rfl, rfl, hr⟩
   ·
    rw [hd0, qbg] at hr
    refine qh (qh (gr [.d, .d, .d, .d] (r_d rfl rfl rfl (qb rfl rfl) (r_d rfl rfl rfl (qb rfl rfl) (r_d rfl rfl rfl (qT (f := (D.int .i64)) l_a0 rfl qH rfl (asl rfl)) (r_d rfl rfl rfl (qB rfl rfl rfl rfl) (qj (qC 9 true rfl ht0 (qo rfl (qE (qh ?_)))))))))))
    refine q0 (qh (gr [.d, .d, .d, .d, .d, .d] (r_d rfl rfl rfl (qb rfl rfl) (r_d rfl rfl rfl (qb rfl rfl) (r_d rfl rfl rfl (qN (f := (D.int .i64)) l_a0 rfl qH rfl (asl rfl) rfl hq0 (fun _ => rfl) rfl) (r_d rfl rfl rfl (qk rfl rfl (by exact qW) rfl) (r_d rfl rfl rfl (qb rfl rfl) (r_d rfl rfl rfl (qB rfl rfl rfl rfl) (qj ?_)))))))))
    refine g_sB 17 rfl hr (fun h17_2 hr => ?_) (fun h17_2 hr => ?_)
    ·
     refine qo rfl (qh (gr [.d] (r_d rfl rfl rfl (qe rfl rfl) (qj ?_))))
     obtain rfl := Option.some.inj hr
     refine qJ Tryz.func186 _ (.cons (resTmp rfl (Wk.refl _)) .nil) ?_
     rfl
    ·
     refine qs rfl (qE (qF (gr [.d, .d, .d] (r_d rfl rfl rfl (qb rfl rfl) (r_d rfl rfl rfl (s_ar (r := ((i_1 + 1 : Nat) : Int)) rfl rfl rfl (by simp [iar]) (by omega)) (r_d rfl rfl rfl (qe rfl rfl) (qj (qM [(0, .lst (l_a0.map (D.int .i64))), (1, .int .i64 n_a1), (5, .int .i64 ((i_1 + 1 : Nat) : Int))] (Sub.cons' rfl (Sub.cons' rfl (Sub.cons' rfl (Sub.nil _)))) ?_))))))))
     exact IH0 _ _ _ (by omega) ⟨(i_1 + 1), rfl, rfl, rfl, (by omega), hr⟩
noncomputable def qbX (k : Option (Bool)) (m_a1 : (List Int)) : List Int → Option (Bool)
  | [] =>
  k
  | q_2 :: rest =>
  ((qbV m_a1 q_2).bind fun r_3 =>
  (bif (!r_3) then
  some (false)
  else
  (qbX k m_a1 rest)))
noncomputable def qcO (l_a0 : (List Int)) (m_a1 : (List Int)) : Option (Bool) :=
  (qbX (some (true)) m_a1 l_a0)
set_option maxHeartbeats 1000000 in
theorem qgG (l_a0 : (List Int)) (m_a1 : (List Int)) (res : Bool) (hr : qcO l_a0 m_a1 = some res) : Gives Tryz.prog 224 [.lst (l_a0.map (D.int .i64)), .lst (m_a1.map (D.int .i64))] (.bool res) := by
  unfold qcO at hr
  refine qR [(0, .lst (l_a0.map (D.int .i64))), (1, .lst (m_a1.map (D.int .i64)))] Tryz.func224 rfl rfl fun K hK => (qh (gr [.d] (r_d rfl rfl rfl (qe rfl rfl) (qj (qh (qh (gr [.d] (r_d rfl rfl rfl (qe rfl rfl) (qj ?_)))))))))
  obtain ⟨kk0, hkk0, hr⟩ := exK (fun k => qbX k m_a1 l_a0) hr
  refine qdG 0 rfl (asl rfl) fun hla0 => ?_
  simp only [List.length_map] at hla0
  refine qV (fun env σ => env = [] ∧ σ = [] ∧ kk0 = some res) ?_ (fun HK0 => ?_)
  ·
   rintro _ _ ⟨rfl, rfl, hr⟩
   rw [hkk0] at hr
   refine qh (gr [.d] (r_d rfl rfl rfl (qe rfl rfl) (qj ?_)))
   obtain rfl := Option.some.inj hr
   refine qJ Tryz.func224 _ (.cons (resTmp rfl (Wk.refl _)) .nil) ?_
   rfl
  ·
   refine qM [(0, .lst (l_a0.map (D.int .i64))), (1, .lst (m_a1.map (D.int .i64))), (5, .int .i64 ((0 : Nat) : Int))] (Sub.cons' rfl (Sub.cons' rfl (Sub.cons' rfl (Sub.nil _)))) (qaM (fun n env σ => ∃ (i_1 : Nat), (n = l_a0.length - i_1) ∧ (env = [(0, .lst (l_a0.map (D.int .i64))), (1, .lst (m_a1.map (D.int .i64))), (5, .int .i64 (i_1 : Int))]) ∧ (σ = []) ∧ (i_1 ≤ l_a0.length) ∧ (qbX kk0 m_a1 (l_a0.drop i_1) = some res)) _ ⟨0, rfl, rfl, rfl, Nat.zero_le _, hr⟩ ?_)
   rintro n _ _ ⟨i_1, rfl, rfl, rfl, hi0, hr⟩ IH0
   rcases listStep l_a0 i_1 hi0 with ⟨ht0, hd0, he0⟩ | ⟨q_2, ht0, hd0, hq0, hlt0⟩
   ·
    rw [hd0, qbX] at hr
    refine qh (qh (gr [.d, .d, .d, .d] (r_d rfl rfl rfl (qb rfl rfl) (r_d rfl rfl rfl (qb rfl rfl) (r_d rfl rfl rfl (qT (f := (D.int .i64)) l_a0 rfl qH rfl (asl rfl)) (r_d rfl rfl rfl (qB rfl rfl rfl rfl) (qj (qC 9 false rfl ht0 (qs rfl (qaw rfl (qM [] (Sub.nil _) ?_)))))))))))
    exact HK0 _ _ ⟨rfl, rfl, hr⟩
   ·
    rw [hd0, qbX] at hr
    refine qh (qh (gr [.d, .d, .d, .d] (r_d rfl rfl rfl (qb rfl rfl) (r_d rfl rfl rfl (qb rfl rfl) (r_d rfl rfl rfl (qT (f := (D.int .i64)) l_a0 rfl qH rfl (asl rfl)) (r_d rfl rfl rfl (qB rfl rfl rfl rfl) (qj (qC 9 true rfl ht0 (qo rfl (qE (qh ?_)))))))))))
    refine q0 (qh (gr [.d, .d, .d, .d, .d, .d, .d] (r_d rfl rfl rfl (qb rfl rfl) (r_d rfl rfl rfl (qb rfl rfl) (r_d rfl rfl rfl (qb rfl rfl) (r_d rfl rfl rfl (qN (f := (D.int .i64)) l_a0 rfl qH rfl (asl rfl) rfl hq0 (fun _ => rfl) rfl) (r_d rfl rfl rfl (qk rfl rfl (by exact qW) rfl) ?_)))))))
    obtain ⟨r_3, hr_3, hr⟩ := bindS hr
    refine r_d rfl rfl rfl (qK rfl qeR (.oc rfl (.oc rfl .nil)) (qeT _ _ _ hr_3)) (r_d rfl rfl rfl (qdO rfl rfl) (qj ?_))
    refine g_sB 18 rfl hr (fun h18_3 hr => ?_) (fun h18_3 hr => ?_)
    ·
     refine qo rfl (qh (gr [.d] (r_d rfl rfl rfl (qe rfl rfl) (qj ?_))))
     obtain rfl := Option.some.inj hr
     refine qJ Tryz.func224 _ (.cons (resTmp rfl (Wk.refl _)) .nil) ?_
     rfl
    ·
     refine qs rfl (qE (qF (gr [.d, .d, .d] (r_d rfl rfl rfl (qb rfl rfl) (r_d rfl rfl rfl (s_ar (r := ((i_1 + 1 : Nat) : Int)) rfl rfl rfl (by simp [iar]) (by omega)) (r_d rfl rfl rfl (qe rfl rfl) (qj (qM [(0, .lst (l_a0.map (D.int .i64))), (1, .lst (m_a1.map (D.int .i64))), (5, .int .i64 ((i_1 + 1 : Nat) : Int))] (Sub.cons' rfl (Sub.cons' rfl (Sub.cons' rfl (Sub.nil _)))) ?_))))))))
     exact IH0 _ _ _ (by omega) ⟨(i_1 + 1), rfl, rfl, rfl, (by omega), hr⟩
noncomputable def qaq (k : Option (Bool)) (fuel : Nat) : List Gl → (List Int) → Option (Bool)
  | [], known_9 =>
  k
  | q_11 :: rest, known_9 =>
  (bif (q_11.op == (3 : Int)) then
  some (false)
  else
  (bif (q_11.op == (0 : Int)) then
  ((qcn fuel q_11).bind fun r_15 =>
  ((qcO r_15 known_9).bind fun r_16 =>
  (bif (!r_16) then
  some (false)
  else
  (bif (q_11.op == (4 : Int)) then
  ((getI q_11.ts 0).bind fun q_19 =>
  (bif (q_19.k != (1 : Int)) then
  some (false)
  else
  ((qbV known_9 q_19.i).bind fun r_21 =>
  (bif r_21 then
  some (false)
  else
  ((getI q_11.ts 1).bind fun q_23 =>
  ((qb0 fuel q_23).bind fun r_24 =>
  ((qcO r_24 known_9).bind fun r_25 =>
  (bif (!r_25) then
  some (false)
  else
  ((appO 8 known_9 [q_19.i]).bind fun l_27 =>
  (qaq k fuel rest l_27))))))))))
  else
  (qaq k fuel rest known_9)))))
  else
  (bif (q_11.op == (4 : Int)) then
  ((getI q_11.ts 0).bind fun q_30 =>
  (bif (q_30.k != (1 : Int)) then
  some (false)
  else
  ((qbV known_9 q_30.i).bind fun r_32 =>
  (bif r_32 then
  some (false)
  else
  ((getI q_11.ts 1).bind fun q_34 =>
  ((qb0 fuel q_34).bind fun r_35 =>
  ((qcO r_35 known_9).bind fun r_36 =>
  (bif (!r_36) then
  some (false)
  else
  ((appO 8 known_9 [q_30.i]).bind fun l_38 =>
  (qaq k fuel rest l_38))))))))))
  else
  (qaq k fuel rest known_9))))
noncomputable def qbJ (k : ((List Int)) → Option (Bool)) (fuel : Nat) : List At → (List Int) → Option (Bool)
  | [], known_4 =>
  (k known_4)
  | q_40 :: rest, known_4 =>
  ((qbB fuel q_40).bind fun r_41 =>
  ((appO 8 known_4 r_41).bind fun l_42 =>
  (qbJ k fuel rest l_42)))
noncomputable def qeD (fuel : Nat) (r_a0 : qU) : Option (Bool) :=
  ((qdt r_a0).bind fun r_2 =>
  (qbJ (fun known_7 =>
  (qaq (some (true)) fuel r_a0.f4_Body known_7)) fuel r_2 []))
end Go.Proofs.YtdoljfkjdfaakaaGreat
