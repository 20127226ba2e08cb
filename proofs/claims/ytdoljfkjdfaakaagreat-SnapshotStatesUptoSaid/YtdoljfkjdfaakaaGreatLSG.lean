/-
  Texts of the seat, merged.
-/
import Derived.Test.YtdoljfkjdfaakaaGreatLSA
import Derived.Test.YtdoljfkjdfaakaaGreatLSB
import Derived.Test.YtdoljfkjdfaakaaGreatLSC
import Derived.Test.YtdoljfkjdfaakaaGreatLSD
import Derived.Test.YtdoljfkjdfaakaaGreatLSE
import Derived.Test.YtdoljfkjdfaakaaGreatLSF
import Derived.Test.YtdoljfkjdfaakaaGreatChecked
import Derived.WalkKit
import Derived.Lib.Hide
import Derived.Lib.AppendStr
import Derived.Deep.AppendLies
import Derived.Deep.AppendSrc
import Derived.Deep.Draws
import Derived.Deep.QuietTactic
import Derived.BigQuiet
import Derived.Deep.RegionWith
import Derived.Maps.AppendAt
import Derived.WalkSpells
import Derived.Orders
import Derived.Deep.Slices
import Derived.Deep.Fields
import Derived.ChangeArms
import Derived.Lib.OthersKept
import Derived.Lib.TrimU
import Derived.Lib.IndexAny
import Derived.Deep.LoopGhost
import Derived.Lib.Bytealg
import Derived.RangeFuncBox
import Derived.RangeFuncNested
import Derived.RangeFuncBound
import Derived.RangeFuncCalls
import Derived.RangeFuncLeaves
import Derived.Shelf.Abstract
import Derived.OwnWalkIn
import Derived.TacticsInMore
import Derived.LoopNIn
import Derived.LoopIn
import Derived.RangeFuncWrites
import Derived.Maps.OwnIn
import Derived.Maps.Views
import Derived.Laws.OwnMore
import Derived.Maps.OwnSet
import Derived.Laws.IdiomStrings
import Derived.Test.YtdoljfkjdfaakaaGreatRows
import Derived.ProofKit
import Derived.OpenShut
import Derived.Carry
import Derived.OrdersIn
import Derived.Great.BuildSlice
import Derived.ArgAppend
import Derived.Laws.MakeOwn
import Derived.Laws.Cover3
import Derived.Laws.CopyRow
import Derived.MapKept
import Derived.Maps.RangeRun
import Derived.DeepKeys5
import Derived.WideKeyRuns
import Derived.RangeFuncOwn
import Derived.Defers
import Derived.Recover
import Derived.Tactics
import Derived.Tactics2
set_option linter.unusedVariables false
set_option linter.unusedSimpArgs false
set_option linter.unnecessarySimpa false
set_option linter.all false
namespace Go.Proofs.YtdoljfkjdfaakaaGreat
set_option maxRecDepth 100000
open Go.RowKit
structure qc5 where
  f0_Rule : Int
  f1_Head : Int
  f2_Kept : Bool
def qcQ (x : qc5) : D := .agg [.int .i64 x.f0_Rule, .int .i64 x.f1_Head, .bool x.f2_Kept]
theorem qm4 (x : qc5) : sz (qcQ x) = 3 := by
  simp only [qcQ, sz, szs]
noncomputable def qbz (k : Option (Bool)) : List At → Option (Bool)
  | [] =>
  k
  | q_2 :: rest =>
  ((qdc q_2.ts).bind fun r_3 =>
  (bif (!r_3) then
  some (false)
  else
  (qbz k rest)))
noncomputable def qek (l_a0 : (List At)) : Option (Bool) :=
  (qbz (some (true)) l_a0)
set_option maxHeartbeats 1000000 in
theorem qif (l_a0 : (List At)) (res : Bool) (hr : qek l_a0 = some res) : Gives Tryz.prog 93 [.lst (l_a0.map encA)] (.bool res) := by
  unfold qek at hr
  refine qR [(0, .lst (l_a0.map encA))] Tryz.func93 rfl rfl fun K hK => (qh (gr [.d] (r_d rfl rfl rfl (qe rfl rfl) (qj (qh (qh (gr [.d] (r_d rfl rfl rfl (qe rfl rfl) (qj ?_)))))))))
  obtain ⟨kk0, hkk0, hr⟩ := exK (fun k => qbz k l_a0) hr
  refine qdG 0 rfl (asl rfl) fun hla0 => ?_
  simp only [List.length_map] at hla0
  refine qV (fun env σ => env = [] ∧ σ = [] ∧ kk0 = some res) ?_ (fun HK0 => ?_)
  ·
   rintro _ _ ⟨rfl, rfl, hr⟩
   rw [hkk0] at hr
   refine qh (gr [.d] (r_d rfl rfl rfl (qe rfl rfl) (qj ?_)))
   obtain rfl := Option.some.inj hr
   refine qJ Tryz.func93 _ (.cons (resTmp rfl (Wk.refl _)) .nil) ?_
   rfl
  ·
   refine qM [(0, .lst (l_a0.map encA)), (3, .int .i64 ((0 : Nat) : Int))] (Sub.cons' rfl (Sub.cons' rfl (Sub.nil _))) (qaM (fun n env σ => ∃ (i_1 : Nat), (n = l_a0.length - i_1) ∧ (env = [(0, .lst (l_a0.map encA)), (3, .int .i64 (i_1 : Int))]) ∧ (σ = []) ∧ (i_1 ≤ l_a0.length) ∧ (qbz kk0 (l_a0.drop i_1) = some res)) _ ⟨0, rfl, rfl, rfl, Nat.zero_le _, hr⟩ ?_)
   rintro n _ _ ⟨i_1, rfl, rfl, rfl, hi0, hr⟩ IH0
   rcases listStep l_a0 i_1 hi0 with ⟨ht0, hd0, he0⟩ | ⟨q_2, ht0, hd0, hq0, hlt0⟩
   ·
    rw [hd0, qbz] at hr
    refine qh (qh (gr [.d, .d, .d, .d] (r_d rfl rfl rfl (qb rfl rfl) (r_d rfl rfl rfl (qb rfl rfl) (r_d rfl rfl rfl (qT (f := encA) l_a0 rfl qS rfl (asl rfl)) (r_d rfl rfl rfl (qB rfl rfl rfl rfl) (qj (qC 7 false rfl ht0 (qs rfl (qaw rfl (qM [] (Sub.nil _) ?_)))))))))))
    exact HK0 _ _ ⟨rfl, rfl, hr⟩
   ·
    rw [hd0, qbz] at hr
    refine qh (qh (gr [.d, .d, .d, .d] (r_d rfl rfl rfl (qb rfl rfl) (r_d rfl rfl rfl (qb rfl rfl) (r_d rfl rfl rfl (qT (f := encA) l_a0 rfl qS rfl (asl rfl)) (r_d rfl rfl rfl (qB rfl rfl rfl rfl) (qj (qC 7 true rfl ht0 (qo rfl (qE (qh ?_)))))))))))
    refine q0 (qh (gr [.d, .d, .d, .d, .d, .d, .d] (r_d rfl rfl rfl (qb rfl rfl) (r_d rfl rfl rfl (qb rfl rfl) (r_d rfl rfl rfl (qN (f := encA) l_a0 rfl qS rfl (asl rfl) rfl hq0 qan rfl) (r_d rfl rfl rfl (qg rfl qeb rfl rfl rfl rfl) (r_d rfl rfl rfl (qk rfl rfl (by exact qal) rfl) ?_)))))))
    obtain ⟨r_3, hr_3, hr⟩ := bindS hr
    refine r_d rfl rfl rfl (qK rfl qgo (.oc rfl .nil) (qgk _ _ hr_3)) (r_d rfl rfl rfl (qdO rfl rfl) (qj ?_))
    refine g_sB 16 rfl hr (fun h16_3 hr => ?_) (fun h16_3 hr => ?_)
    ·
     refine qo rfl (qh (gr [.d] (r_d rfl rfl rfl (qe rfl rfl) (qj ?_))))
     obtain rfl := Option.some.inj hr
     refine qJ Tryz.func93 _ (.cons (resTmp rfl (Wk.refl _)) .nil) ?_
     rfl
    ·
     refine qs rfl (qE (qF (gr [.d, .d, .d] (r_d rfl rfl rfl (qb rfl rfl) (r_d rfl rfl rfl (s_ar (r := ((i_1 + 1 : Nat) : Int)) rfl rfl rfl (by simp [iar]) (by omega)) (r_d rfl rfl rfl (qe rfl rfl) (qj (qM [(0, .lst (l_a0.map encA)), (3, .int .i64 ((i_1 + 1 : Nat) : Int))] (Sub.cons' rfl (Sub.cons' rfl (Sub.nil _))) ?_))))))))
     exact IH0 _ _ _ (by omega) ⟨(i_1 + 1), rfl, rfl, rfl, (by omega), hr⟩
noncomputable def qaS (k : Option (Bool)) : List qU → Option (Bool)
  | [] =>
  k
  | q_4 :: rest =>
  (bif (decide ((q_4.f1_Keep.length : Int) > (3 : Int))) then
  some (false)
  else
  (bif (decide ((q_4.f2_Remove.length : Int) > (3 : Int))) then
  some (false)
  else
  (bif (decide ((wr ((q_4.f1_Keep.length : Int) + (q_4.f2_Remove.length : Int))) > (3 : Int))) then
  some (false)
  else
  (bif (decide ((q_4.f3_Guard.length : Int) > (6 : Int))) then
  some (false)
  else
  (bif (decide ((q_4.f4_Body.length : Int) > (6 : Int))) then
  some (false)
  else
  ((qek q_4.f1_Keep).bind fun r_11 =>
  (bif (!r_11) then
  some (false)
  else
  ((qek q_4.f2_Remove).bind fun r_13 =>
  (bif (!r_13) then
  some (false)
  else
  ((qcU q_4.f3_Guard 6).bind fun r_15 =>
  (bif (!r_15) then
  some (false)
  else
  ((qcU q_4.f4_Body 6).bind fun r_17 =>
  (bif (!r_17) then
  some (false)
  else
  (qaS k rest))))))))))))))
noncomputable def qdz (p_a0 : qI) : Option (Bool) :=
  (bif (decide ((p_a0.f0_Decls.length : Int) > (12 : Int))) then
  some (false)
  else
  (bif (decide ((p_a0.f1_Rules.length : Int) > (8 : Int))) then
  some (false)
  else
  (qaS (some (true)) p_a0.f1_Rules)))
set_option maxHeartbeats 1000000 in
theorem qjj (p_a0 : qI) (res : Bool) (hr : qdz p_a0 = some res) : Gives Tryz.prog 21 [qn p_a0] (.bool res) := by
  unfold qdz at hr
  refine qR [(0, qn p_a0)] Tryz.func21 rfl rfl fun K hK => (qh (gr [.d, .d] (r_d rfl rfl rfl (qef rfl rfl rfl) (r_d rfl rfl rfl (qe rfl rfl) (qj (qh (qh (gr [.d, .d, .d, .d, .d, .d, .d, .d, .d, .d] (r_d rfl rfl rfl (qg rfl qce rfl rfl rfl rfl) (r_d rfl rfl rfl (qk rfl rfl (by exact qde) rfl) (r_d rfl rfl rfl (qT (f := qt) p_a0.f0_Decls rfl qbU rfl (asl rfl)) ?_)))))))))))
  refine r_d rfl rfl rfl (qB rfl rfl rfl rfl) (r_d rfl rfl rfl (qb rfl rfl) ?_)
  refine r_sB 9 rfl hr (fun h9_0 hr => ?_) (fun h9_0 hr => ?_)
  ·
   refine qc rfl rfl rfl (qc rfl rfl rfl (qc rfl rfl rfl (qc rfl rfl rfl (r_d rfl rfl rfl (qy rfl rfl rfl) (qj (qo rfl (qh (gr [.d] (r_d rfl rfl rfl (qe rfl rfl) (qj ?_))))))))))
   obtain rfl := Option.some.inj hr
   refine qJ Tryz.func21 _ (.cons (resTmp rfl (Wk.refl _)) .nil) ?_
   rfl
  ·
   refine r_d rfl rfl rfl (qg rfl qaJ rfl rfl rfl rfl) (r_d rfl rfl rfl (qk rfl rfl (by exact qbZ) rfl) (r_d rfl rfl rfl (qT (f := qm) p_a0.f1_Rules rfl qbe rfl (asl rfl)) (r_d rfl rfl rfl (qB rfl rfl rfl rfl) (r_d rfl rfl rfl (qD rfl rfl rfl) (qj ?_)))))
   refine g_sB 14 rfl hr (fun h14_1 hr => ?_) (fun h14_1 hr => ?_)
   ·
    refine qo rfl (qh (gr [.d] (r_d rfl rfl rfl (qe rfl rfl) (qj ?_))))
    obtain rfl := Option.some.inj hr
    refine qJ Tryz.func21 _ (.cons (resTmp rfl (Wk.refl _)) .nil) ?_
    rfl
   ·
    refine qs rfl (qE (qh (qh (gr [.d] (r_d rfl rfl rfl (qe rfl rfl) (qj ?_))))))
    obtain ⟨kk0, hkk0, hr⟩ := exK (fun k => qaS k p_a0.f1_Rules) hr
    refine qdG 11 rfl (asl rfl) fun hla0 => ?_
    simp only [List.length_map] at hla0
    refine qV (fun env σ => env = [] ∧ σ = [] ∧ kk0 = some res) ?_ (fun HK0 => ?_)
    ·
     rintro _ _ ⟨rfl, rfl, hr⟩
     rw [hkk0] at hr
     refine qh (gr [.d] (r_d rfl rfl rfl (qe rfl rfl) (qj ?_)))
     obtain rfl := Option.some.inj hr
     refine qJ Tryz.func21 _ (.cons (resTmp rfl (Wk.refl _)) .nil) ?_
     rfl
    ·
     refine qM [(1, .ptr (qn p_a0)), (3, .int .i64 ((0 : Nat) : Int))] (Sub.cons' rfl (Sub.cons' rfl (Sub.nil _))) (qaM (fun n env σ => ∃ (i_3 : Nat), (n = p_a0.f1_Rules.length - i_3) ∧ (env = [(1, .ptr (qn p_a0)), (3, .int .i64 (i_3 : Int))]) ∧ (σ = []) ∧ (i_3 ≤ p_a0.f1_Rules.length) ∧ (qaS kk0 (p_a0.f1_Rules.drop i_3) = some res)) _ ⟨0, rfl, rfl, rfl, Nat.zero_le _, hr⟩ ?_)
     rintro n _ _ ⟨i_3, rfl, rfl, rfl, hi0, hr⟩ IH0
     rcases listStep p_a0.f1_Rules i_3 hi0 with ⟨ht0, hd0, he0⟩ | ⟨q_4, ht0, hd0, hq0, hlt0⟩
     ·
      rw [hd0, qaS] at hr
      refine qh (qh (gr [.d, .d, .d, .d, .d] (r_d rfl rfl rfl (qb rfl rfl) (r_d rfl rfl rfl (qg rfl qaJ rfl rfl rfl rfl) (r_d rfl rfl rfl (qk rfl rfl (by exact qbZ) rfl) (r_d rfl rfl rfl (qT (f := qm) p_a0.f1_Rules rfl qbe rfl (asl rfl)) (r_d rfl rfl rfl (qB rfl rfl rfl rfl) (qj (qC 19 false rfl ht0 (qs rfl (qaw rfl ?_)))))))))))
      refine qM [] (Sub.nil _) ?_
      exact HK0 _ _ ⟨rfl, rfl, hr⟩
     ·
      rw [hd0, qaS] at hr
      refine qh (qh (gr [.d, .d, .d, .d, .d] (r_d rfl rfl rfl (qb rfl rfl) (r_d rfl rfl rfl (qg rfl qaJ rfl rfl rfl rfl) (r_d rfl rfl rfl (qk rfl rfl (by exact qbZ) rfl) (r_d rfl rfl rfl (qT (f := qm) p_a0.f1_Rules rfl qbe rfl (asl rfl)) (r_d rfl rfl rfl (qB rfl rfl rfl rfl) (qj (qC 19 true rfl ht0 (qo rfl (qE ?_)))))))))))
      refine qh (q0 (qh (gr [.d, .d, .d, .d, .d, .w, .w] (r_d rfl rfl rfl (qg rfl qaJ rfl rfl rfl rfl) (r_d rfl rfl rfl (qk rfl rfl (by exact qbZ) rfl) (r_d rfl rfl rfl (qb rfl rfl) (r_d rfl rfl rfl (qN (f := qm) p_a0.f1_Rules rfl qbe rfl (asl rfl) rfl hq0 qah rfl) (r_d rfl rfl rfl (qk rfl rfl (by exact qbF) (qah _)) (r_w rfl rfl rfl (qa8 rfl qjI) ?_)))))))))
      rintro _ _ ⟨b4_4, rfl, rfl⟩
      refine qbE rfl rfl rfl (qag _ rfl rfl rfl (Wk.refl _) (pf0 _) (by exact qbF) (qah _) rfl rfl) (qj (qaT 4 b4_4 rfl (pf0 _) (qh (qh (gr [.d, .d, .d, .d, .d, .d, .d, .d, .d, .d, .d, .d, .d, .d, .d, .d, .d, .d, .d, .d, .d, .d, .d, .d, .d, .d, .d, .d, .d, .d, .d, .d] (r_d rfl rfl rfl (qg rfl qeV rfl rfl rfl rfl) (r_d rfl rfl rfl (qk rfl rfl (by exact qca) rfl) (r_d rfl rfl rfl (qT (f := encA) q_4.f1_Keep rfl qS rfl (asl rfl)) (r_d rfl rfl rfl (qB rfl rfl rfl rfl) (r_d rfl rfl rfl (qb rfl rfl) ?_))))))))))
      refine r_sB 31 rfl hr (fun h31_5 hr => ?_) (fun h31_5 hr => ?_)
      ·
       refine qc rfl rfl rfl (qc rfl rfl rfl (qc rfl rfl rfl (qc rfl rfl rfl (r_d rfl rfl rfl (qy rfl rfl rfl) (r_d rfl rfl rfl (qb rfl rfl) (qc rfl rfl rfl (qc rfl rfl rfl (qc rfl rfl rfl (qc rfl rfl rfl (qc rfl rfl rfl (qc rfl rfl rfl ?_)))))))))))
       refine qc rfl rfl rfl (qc rfl rfl rfl (r_d rfl rfl rfl (qy rfl rfl rfl) (r_d rfl rfl rfl (qb rfl rfl) (qc rfl rfl rfl (qc rfl rfl rfl (qc rfl rfl rfl (qc rfl rfl rfl (r_d rfl rfl rfl (qy rfl rfl rfl) (r_d rfl rfl rfl (qb rfl rfl) (qc rfl rfl rfl (qc rfl rfl rfl ?_)))))))))))
       refine qc rfl rfl rfl (qc rfl rfl rfl (r_d rfl rfl rfl (qy rfl rfl rfl) (qj (qo rfl (qh (gr [.d] (r_d rfl rfl rfl (qe rfl rfl) (qj ?_))))))))
       obtain rfl := Option.some.inj hr
       refine qJ Tryz.func21 _ (.cons (resTmp rfl (Wk.refl _)) .nil) ?_
       rfl
      ·
       refine r_d rfl rfl rfl (qg rfl qe2 rfl rfl rfl rfl) (r_d rfl rfl rfl (qk rfl rfl (by exact qca) rfl) (r_d rfl rfl rfl (qT (f := encA) q_4.f2_Remove rfl qS rfl (asl rfl)) (r_d rfl rfl rfl (qB rfl rfl rfl rfl) (r_d rfl rfl rfl (qD rfl rfl rfl) (r_d rfl rfl rfl (qb rfl rfl) ?_)))))
       refine r_sB 37 rfl hr (fun h37_6 hr => ?_) (fun h37_6 hr => ?_)
       ·
        refine qc rfl rfl rfl (qc rfl rfl rfl (qc rfl rfl rfl (qc rfl rfl rfl (qc rfl rfl rfl (qc rfl rfl rfl (qc rfl rfl rfl (qc rfl rfl rfl (r_d rfl rfl rfl (qy rfl rfl rfl) (r_d rfl rfl rfl (qb rfl rfl) (qc rfl rfl rfl (qc rfl rfl rfl ?_)))))))))))
        refine qc rfl rfl rfl (qc rfl rfl rfl (r_d rfl rfl rfl (qy rfl rfl rfl) (r_d rfl rfl rfl (qb rfl rfl) (qc rfl rfl rfl (qc rfl rfl rfl (qc rfl rfl rfl (qc rfl rfl rfl (r_d rfl rfl rfl (qy rfl rfl rfl) (qj (qo rfl (qh ?_)))))))))))
        refine gr [.d] (r_d rfl rfl rfl (qe rfl rfl) (qj ?_))
        obtain rfl := Option.some.inj hr
        refine qJ Tryz.func21 _ (.cons (resTmp rfl (Wk.refl _)) .nil) ?_
        rfl
       ·
        refine r_d rfl rfl rfl (qg rfl qeV rfl rfl rfl rfl) (r_d rfl rfl rfl (qk rfl rfl (by exact qca) rfl) (r_d rfl rfl rfl (qT (f := encA) q_4.f1_Keep rfl qS rfl (asl rfl)) (r_d rfl rfl rfl (qg rfl qe2 rfl rfl rfl rfl) (r_d rfl rfl rfl (qk rfl rfl (by exact qca) rfl) (r_d rfl rfl rfl (qT (f := encA) q_4.f2_Remove rfl qS rfl (asl rfl)) (r_d rfl rfl rfl (qkF rfl rfl rfl rfl) (r_d rfl rfl rfl (qB rfl rfl rfl rfl) (r_d rfl rfl rfl (qD rfl rfl rfl) (r_d rfl rfl rfl (qb rfl rfl) ?_)))))))))
        refine r_sB 47 rfl hr (fun h47_7 hr => ?_) (fun h47_7 hr => ?_)
        ·
         refine qc rfl rfl rfl (qc rfl rfl rfl (qc rfl rfl rfl (qc rfl rfl rfl (r_d rfl rfl rfl (qy rfl rfl rfl) (r_d rfl rfl rfl (qb rfl rfl) (qc rfl rfl rfl (qc rfl rfl rfl (qc rfl rfl rfl (qc rfl rfl rfl (r_d rfl rfl rfl (qy rfl rfl rfl) (qj ?_)))))))))))
         refine qo rfl (qh (gr [.d] (r_d rfl rfl rfl (qe rfl rfl) (qj ?_))))
         obtain rfl := Option.some.inj hr
         refine qJ Tryz.func21 _ (.cons (resTmp rfl (Wk.refl _)) .nil) ?_
         rfl
        ·
         refine r_d rfl rfl rfl (qg rfl qdM rfl rfl rfl rfl) (r_d rfl rfl rfl (qk rfl rfl (by exact qa4) rfl) (r_d rfl rfl rfl (qT (f := encG) q_4.f3_Guard rfl qY rfl (asl rfl)) (r_d rfl rfl rfl (qB rfl rfl rfl rfl) (r_d rfl rfl rfl (qD rfl rfl rfl) (r_d rfl rfl rfl (qb rfl rfl) ?_)))))
         refine r_sB 53 rfl hr (fun h53_8 hr => ?_) (fun h53_8 hr => ?_)
         ·
          refine qc rfl rfl rfl (qc rfl rfl rfl (qc rfl rfl rfl (qc rfl rfl rfl (r_d rfl rfl rfl (qy rfl rfl rfl) (qj (qo rfl (qh (gr [.d] (r_d rfl rfl rfl (qe rfl rfl) (qj ?_))))))))))
          obtain rfl := Option.some.inj hr
          refine qJ Tryz.func21 _ (.cons (resTmp rfl (Wk.refl _)) .nil) ?_
          rfl
         ·
          refine r_d rfl rfl rfl (qg rfl qec rfl rfl rfl rfl) (r_d rfl rfl rfl (qk rfl rfl (by exact qa4) rfl) (r_d rfl rfl rfl (qT (f := encG) q_4.f4_Body rfl qY rfl (asl rfl)) (r_d rfl rfl rfl (qB rfl rfl rfl rfl) (r_d rfl rfl rfl (qD rfl rfl rfl) (qj ?_)))))
          refine g_sB 58 rfl hr (fun h58_9 hr => ?_) (fun h58_9 hr => ?_)
          ·
           refine qo rfl (qh (gr [.d] (r_d rfl rfl rfl (qe rfl rfl) (qj ?_))))
           obtain rfl := Option.some.inj hr
           refine qJ Tryz.func21 _ (.cons (resTmp rfl (Wk.refl _)) .nil) ?_
           rfl
          ·
           refine qs rfl (qE (qh (gr [.d, .d, .d, .d, .d, .d, .d, .d, .d, .d, .d, .d, .d, .d, .d, .d, .d, .d, .d, .d, .d, .d] (r_d rfl rfl rfl (qg rfl qeV rfl rfl rfl rfl) (r_d rfl rfl rfl (qk rfl rfl (by exact qca) rfl) ?_)))))
           obtain ⟨r_11, hr_11, hr⟩ := bindS hr
           refine r_d rfl rfl rfl (qK rfl qic (.oc rfl .nil) (qif _ _ hr_11)) (r_d rfl rfl rfl (qdO rfl rfl) (r_d rfl rfl rfl (qb rfl rfl) ?_))
           refine r_sB 63 rfl hr (fun h63_11 hr => ?_) (fun h63_11 hr => ?_)
           ·
            refine qc rfl rfl rfl (qc rfl rfl rfl (qc rfl rfl rfl (qc rfl rfl rfl (r_d rfl rfl rfl (qy rfl rfl rfl) (r_d rfl rfl rfl (qb rfl rfl) (qc rfl rfl rfl (qc rfl rfl rfl (qc rfl rfl rfl (qc rfl rfl rfl (r_d rfl rfl rfl (qy rfl rfl rfl) (r_d rfl rfl rfl (qb rfl rfl) ?_)))))))))))
            refine qc rfl rfl rfl (qc rfl rfl rfl (qc rfl rfl rfl (qc rfl rfl rfl (r_d rfl rfl rfl (qy rfl rfl rfl) (qj (qo rfl (qh (gr [.d] (r_d rfl rfl rfl (qe rfl rfl) (qj ?_))))))))))
            obtain rfl := Option.some.inj hr
            refine qJ Tryz.func21 _ (.cons (resTmp rfl (Wk.refl _)) .nil) ?_
            rfl
           ·
            refine r_d rfl rfl rfl (qg rfl qe2 rfl rfl rfl rfl) (r_d rfl rfl rfl (qk rfl rfl (by exact qca) rfl) ?_)
            obtain ⟨r_13, hr_13, hr⟩ := bindS hr
            refine r_d rfl rfl rfl (qK rfl qic (.oc rfl .nil) (qif _ _ hr_13)) (r_d rfl rfl rfl (qdO rfl rfl) (r_d rfl rfl rfl (qD rfl rfl rfl) (r_d rfl rfl rfl (qb rfl rfl) ?_)))
            refine r_sB 69 rfl hr (fun h69_13 hr => ?_) (fun h69_13 hr => ?_)
            ·
             refine qc rfl rfl rfl (qc rfl rfl rfl (qc rfl rfl rfl (qc rfl rfl rfl (r_d rfl rfl rfl (qy rfl rfl rfl) (r_d rfl rfl rfl (qb rfl rfl) (qc rfl rfl rfl (qc rfl rfl rfl (qc rfl rfl rfl (qc rfl rfl rfl (r_d rfl rfl rfl (qy rfl rfl rfl) (qj ?_)))))))))))
             refine qo rfl (qh (gr [.d] (r_d rfl rfl rfl (qe rfl rfl) (qj ?_))))
             obtain rfl := Option.some.inj hr
             refine qJ Tryz.func21 _ (.cons (resTmp rfl (Wk.refl _)) .nil) ?_
             rfl
            ·
             refine r_d rfl rfl rfl (qg rfl qdM rfl rfl rfl rfl) (r_d rfl rfl rfl (qk rfl rfl (by exact qa4) rfl) ?_)
             obtain ⟨r_15, hr_15, hr⟩ := bindS hr
             refine r_d rfl rfl rfl (qK rfl qf1 (.oc rfl (.oc rfl .nil)) (qf3 _ _ _ hr_15)) (r_d rfl rfl rfl (qdO rfl rfl) (r_d rfl rfl rfl (qD rfl rfl rfl) (r_d rfl rfl rfl (qb rfl rfl) ?_)))
             refine r_sB 75 rfl hr (fun h75_15 hr => ?_) (fun h75_15 hr => ?_)
             ·
              refine qc rfl rfl rfl (qc rfl rfl rfl (qc rfl rfl rfl (qc rfl rfl rfl (r_d rfl rfl rfl (qy rfl rfl rfl) (qj (qo rfl (qh (gr [.d] (r_d rfl rfl rfl (qe rfl rfl) (qj ?_))))))))))
              obtain rfl := Option.some.inj hr
              refine qJ Tryz.func21 _ (.cons (resTmp rfl (Wk.refl _)) .nil) ?_
              rfl
             ·
              refine r_d rfl rfl rfl (qg rfl qec rfl rfl rfl rfl) (r_d rfl rfl rfl (qk rfl rfl (by exact qa4) rfl) ?_)
              obtain ⟨r_17, hr_17, hr⟩ := bindS hr
              refine r_d rfl rfl rfl (qK rfl qf1 (.oc rfl (.oc rfl .nil)) (qf3 _ _ _ hr_17)) (r_d rfl rfl rfl (qdO rfl rfl) (r_d rfl rfl rfl (qD rfl rfl rfl) (qj ?_)))
              refine g_sB 80 rfl hr (fun h80_17 hr => ?_) (fun h80_17 hr => ?_)
              ·
               refine qo rfl (qh (gr [.d] (r_d rfl rfl rfl (qe rfl rfl) (qj ?_))))
               obtain rfl := Option.some.inj hr
               refine qJ Tryz.func21 _ (.cons (resTmp rfl (Wk.refl _)) .nil) ?_
               rfl
              ·
               refine qs rfl (qE (qF (gr [.d, .d, .d] (r_d rfl rfl rfl (qb rfl rfl) (r_d rfl rfl rfl (s_ar (r := ((i_3 + 1 : Nat) : Int)) rfl rfl rfl (by simp [iar]) (by omega)) (r_d rfl rfl rfl (qe rfl rfl) (qj (qM [(1, .ptr (qn p_a0)), (3, .int .i64 ((i_3 + 1 : Nat) : Int))] (Sub.cons' rfl (Sub.cons' rfl (Sub.nil _))) ?_))))))))
               exact IH0 _ _ _ (by omega) ⟨(i_3 + 1), rfl, rfl, rfl, (by omega), hr⟩
noncomputable def qay (k : Option (Bool)) (arity_a2 : Int) (name_a1 : ByteArray) : List S_api_Decl → Option (Bool)
  | [] =>
  k
  | q_2 :: rest =>
  (bif (q_2.f0_Name.toList == name_a1.toList) then
  (bif (q_2.f1_Arity == arity_a2) then
  some (true)
  else
  (qay k arity_a2 name_a1 rest))
  else
  (qay k arity_a2 name_a1 rest))
noncomputable def qaW (decls_a0 : (List S_api_Decl)) (name_a1 : ByteArray) (arity_a2 : Int) : Option (Bool) :=
  (qay (some (false)) arity_a2 name_a1 decls_a0)
set_option maxHeartbeats 1000000 in
theorem qcY (decls_a0 : (List S_api_Decl)) (name_a1 : ByteArray) (arity_a2 : Int) (res : Bool) (hr : qaW decls_a0 name_a1 arity_a2 = some res) : Gives Tryz.prog 170 [.lst (decls_a0.map qt), .str name_a1, .int .i64 arity_a2] (.bool res) := by
  unfold qaW at hr
  refine qR [(0, .lst (decls_a0.map qt)), (1, .str name_a1), (2, .int .i64 arity_a2)] Tryz.func170 rfl rfl fun K hK => (qh (gr [.d] (r_d rfl rfl rfl (qe rfl rfl) (qj (qh (qh (gr [.d] (r_d rfl rfl rfl (qe rfl rfl) (qj ?_)))))))))
  obtain ⟨kk0, hkk0, hr⟩ := exK (fun k => qay k arity_a2 name_a1 decls_a0) hr
  refine qdG 0 rfl (asl rfl) fun hla0 => ?_
  simp only [List.length_map] at hla0
  refine qV (fun env σ => env = [] ∧ σ = [] ∧ kk0 = some res) ?_ (fun HK0 => ?_)
  ·
   rintro _ _ ⟨rfl, rfl, hr⟩
   rw [hkk0] at hr
   refine qh (gr [.d] (r_d rfl rfl rfl (qe rfl rfl) (qj ?_)))
   obtain rfl := Option.some.inj hr
   refine qJ Tryz.func170 _ (.cons (resTmp rfl (Wk.refl _)) .nil) ?_
   rfl
  ·
   refine qM [(0, .lst (decls_a0.map qt)), (1, .str name_a1), (2, .int .i64 arity_a2), (7, .int .i64 ((0 : Nat) : Int))] (Sub.cons' rfl (Sub.cons' rfl (Sub.cons' rfl (Sub.cons' rfl (Sub.nil _))))) (qaM (fun n env σ => ∃ (i_1 : Nat), (n = decls_a0.length - i_1) ∧ (env = [(0, .lst (decls_a0.map qt)), (1, .str name_a1), (2, .int .i64 arity_a2), (7, .int .i64 (i_1 : Int))]) ∧ (σ = []) ∧ (i_1 ≤ decls_a0.length) ∧ (qay kk0 arity_a2 name_a1 (decls_a0.drop i_1) = some res)) _ ⟨0, rfl, rfl, rfl, Nat.zero_le _, hr⟩ ?_)
   rintro n _ _ ⟨i_1, rfl, rfl, rfl, hi0, hr⟩ IH0
   rcases listStep decls_a0 i_1 hi0 with ⟨ht0, hd0, he0⟩ | ⟨q_2, ht0, hd0, hq0, hlt0⟩
   ·
    rw [hd0, qay] at hr
    refine qh (qh (gr [.d, .d, .d, .d] (r_d rfl rfl rfl (qb rfl rfl) (r_d rfl rfl rfl (qb rfl rfl) (r_d rfl rfl rfl (qT (f := qt) decls_a0 rfl qbU rfl (asl rfl)) (r_d rfl rfl rfl (qB rfl rfl rfl rfl) (qj (qC 11 false rfl ht0 (qs rfl (qaw rfl (qM [] (Sub.nil _) ?_)))))))))))
    exact HK0 _ _ ⟨rfl, rfl, hr⟩
   ·
    rw [hd0, qay] at hr
    refine qh (qh (gr [.d, .d, .d, .d] (r_d rfl rfl rfl (qb rfl rfl) (r_d rfl rfl rfl (qb rfl rfl) (r_d rfl rfl rfl (qT (f := qt) decls_a0 rfl qbU rfl (asl rfl)) (r_d rfl rfl rfl (qB rfl rfl rfl rfl) (qj (qC 11 true rfl ht0 (qo rfl (qE (qh ?_)))))))))))
    refine q0 (qh (gr [.d, .d, .d, .d, .d, .d, .d, .d, .d, .d, .d, .d, .d, .d, .d, .d] (r_d rfl rfl rfl (qb rfl rfl) (r_d rfl rfl rfl (qb rfl rfl) (r_d rfl rfl rfl (qN (f := qt) decls_a0 rfl qbU rfl (asl rfl) rfl hq0 qdf rfl) (r_d rfl rfl rfl (qg rfl qg7 rfl rfl rfl rfl) (r_d rfl rfl rfl (qk rfl rfl (by exact qdg) rfl) (r_d rfl rfl rfl (qb rfl rfl) (r_d rfl rfl rfl (qnN rfl rfl rfl rfl) (r_d rfl rfl rfl (qb rfl rfl) ?_))))))))))
    refine r_sB 21 rfl hr (fun h21_2 hr => ?_) (fun h21_2 hr => ?_)
    ·
     refine r_d rfl rfl rfl (qb rfl rfl) (r_d rfl rfl rfl (qb rfl rfl) (r_d rfl rfl rfl (qN (f := qt) decls_a0 rfl qbU rfl (asl rfl) rfl hq0 qdf rfl) (r_d rfl rfl rfl (qg rfl qiq rfl rfl rfl rfl) (r_d rfl rfl rfl (qk rfl rfl (by exact qW) rfl) (r_d rfl rfl rfl (qb rfl rfl) (r_d rfl rfl rfl (qB rfl rfl rfl rfl) (r_d rfl rfl rfl (qy rfl rfl rfl) (qj ?_))))))))
     refine g_sB 29 rfl hr (fun h29_3 hr => ?_) (fun h29_3 hr => ?_)
     ·
      refine qo rfl (qh (gr [.d] (r_d rfl rfl rfl (qe rfl rfl) (qj ?_))))
      obtain rfl := Option.some.inj hr
      refine qJ Tryz.func170 _ (.cons (resTmp rfl (Wk.refl _)) .nil) ?_
      rfl
     ·
      refine qs rfl (qE (qF (gr [.d, .d, .d] (r_d rfl rfl rfl (qb rfl rfl) (r_d rfl rfl rfl (s_ar (r := ((i_1 + 1 : Nat) : Int)) rfl rfl rfl (by simp [iar]) (by omega)) (r_d rfl rfl rfl (qe rfl rfl) (qj (qM [(0, .lst (decls_a0.map qt)), (1, .str name_a1), (2, .int .i64 arity_a2), (7, .int .i64 ((i_1 + 1 : Nat) : Int))] (Sub.cons' rfl (Sub.cons' rfl (Sub.cons' rfl (Sub.cons' rfl (Sub.nil _))))) ?_))))))))
      exact IH0 _ _ _ (by omega) ⟨(i_1 + 1), rfl, rfl, rfl, (by omega), hr⟩
    ·
     refine qc rfl rfl rfl (qc rfl rfl rfl (qc rfl rfl rfl (qc rfl rfl rfl (qc rfl rfl rfl (qc rfl rfl rfl (qc rfl rfl rfl (r_d rfl rfl rfl (qD rfl rfl rfl) (qj (qs rfl (qE (qF ?_)))))))))))
     refine gr [.d, .d, .d] (r_d rfl rfl rfl (qb rfl rfl) (r_d rfl rfl rfl (s_ar (r := ((i_1 + 1 : Nat) : Int)) rfl rfl rfl (by simp [iar]) (by omega)) (r_d rfl rfl rfl (qe rfl rfl) (qj (qM [(0, .lst (decls_a0.map qt)), (1, .str name_a1), (2, .int .i64 arity_a2), (7, .int .i64 ((i_1 + 1 : Nat) : Int))] (Sub.cons' rfl (Sub.cons' rfl (Sub.cons' rfl (Sub.cons' rfl (Sub.nil _))))) ?_)))))
     exact IH0 _ _ _ (by omega) ⟨(i_1 + 1), rfl, rfl, rfl, (by omega), hr⟩
noncomputable def qcs (r_a0 : qU) : Option ((List At)) :=
  ((appO 40 [] r_a0.f1_Keep).bind fun l_3 =>
  ((appO 40 l_3 r_a0.f2_Remove).bind fun l_5 =>
  some (l_5)))
set_option maxHeartbeats 1000000 in
theorem qfa (r_a0 : qU) (res : (List At)) (hr : qcs r_a0 = some res) : Gives Tryz.prog 214 [qm r_a0] (.lst (res.map encA)) := by
  unfold qcs at hr
  refine qR [(0, qm r_a0)] Tryz.func214 rfl rfl fun K hK => (qh (gr [.d, .w] (r_d rfl rfl rfl (qef rfl rfl rfl) (r_w rfl rfl rfl (qcw 107 2 (.inl rfl)) ?_))))
  rintro _ _ ⟨u2_0, rfl, rfl⟩
  refine qj (qh (ga [(1, .d), (2, .d), (4, .d), (5, .d), (0, .w), (3, .w), (6, .w), (7, .d)] (r_d rfl rfl rfl (qg rfl qeV rfl rfl rfl rfl) (r_d rfl rfl rfl (qk rfl rfl (by exact qca) rfl) (r_d rfl rfl rfl (qg rfl qe2 rfl rfl rfl rfl) (r_d rfl rfl rfl (qk rfl rfl (by exact qca) rfl) (r_w rfl rfl rfl (qmw rfl qS rfl) ?_)))))))
  rintro _ _ ⟨u3_1, rfl, rfl⟩
  obtain ⟨l_3, hl_3, hr⟩ := bindS hr
  refine r_w rfl rfl rfl (qcK (f := encA) [] r_a0.f1_Keep rfl qS rfl rfl (asl rfl) (pf0 _) rfl qan hl_3) ?_
  rintro _ _ ⟨u6_3, rfl, rfl⟩
  obtain ⟨l_5, hl_5, hr⟩ := bindS hr
  refine r_w rfl rfl rfl (qcK (f := encA) l_3 r_a0.f2_Remove rfl qS rfl rfl (asl rfl) (pf0 _) rfl qan hl_5) ?_
  rintro _ _ ⟨u9_5, rfl, rfl⟩
  refine r_d rfl rfl rfl (qe rfl rfl) (qj ?_)
  obtain rfl := Option.some.inj hr
  refine qJ Tryz.func214 _ (.cons (resTmp rfl (Wk.own _ _)) .nil) ?_
  rfl
noncomputable def qcX (r_a0 : qU) : Option ((List Gl)) :=
  ((appO 48 [] r_a0.f3_Guard).bind fun l_3 =>
  ((appO 48 l_3 r_a0.f4_Body).bind fun l_5 =>
  some (l_5)))
set_option maxHeartbeats 1000000 in
theorem qf4 (r_a0 : qU) (res : (List Gl)) (hr : qcX r_a0 = some res) : Gives Tryz.prog 215 [qm r_a0] (.lst (res.map encG)) := by
  unfold qcX at hr
  refine qR [(0, qm r_a0)] Tryz.func215 rfl rfl fun K hK => (qh (gr [.d, .w] (r_d rfl rfl rfl (qef rfl rfl rfl) (r_w rfl rfl rfl (qcw 73 3 (.inl rfl)) ?_))))
  rintro _ _ ⟨u2_0, rfl, rfl⟩
  refine qj (qh (ga [(1, .d), (2, .d), (4, .d), (5, .d), (0, .w), (3, .w), (6, .w), (7, .d)] (r_d rfl rfl rfl (qg rfl qdM rfl rfl rfl rfl) (r_d rfl rfl rfl (qk rfl rfl (by exact qa4) rfl) (r_d rfl rfl rfl (qg rfl qec rfl rfl rfl rfl) (r_d rfl rfl rfl (qk rfl rfl (by exact qa4) rfl) (r_w rfl rfl rfl (qmw rfl qY rfl) ?_)))))))
  rintro _ _ ⟨u3_1, rfl, rfl⟩
  obtain ⟨l_3, hl_3, hr⟩ := bindS hr
  refine r_w rfl rfl rfl (qcK (f := encG) [] r_a0.f3_Guard rfl qY rfl rfl (asl rfl) (pf0 _) rfl qbi hl_3) ?_
  rintro _ _ ⟨u6_3, rfl, rfl⟩
  obtain ⟨l_5, hl_5, hr⟩ := bindS hr
  refine r_w rfl rfl rfl (qcK (f := encG) l_3 r_a0.f4_Body rfl qY rfl rfl (asl rfl) (pf0 _) rfl qbi hl_5) ?_
  rintro _ _ ⟨u9_5, rfl, rfl⟩
  refine r_d rfl rfl rfl (qe rfl rfl) (qj ?_)
  obtain rfl := Option.some.inj hr
  refine qJ Tryz.func215 _ (.cons (resTmp rfl (Wk.own _ _)) .nil) ?_
  rfl
noncomputable def qb1 (k : Option (Bool)) (n_a1 : Int) : List Int → Option (Bool)
  | [] =>
  k
  | q_2 :: rest =>
  (bif (q_2 == n_a1) then
  some (true)
  else
  (qb1 k n_a1 rest))
noncomputable def qfM (l_a0 : (List Int)) (n_a1 : Int) : Option (Bool) :=
  (qb1 (some (false)) n_a1 l_a0)
set_option maxHeartbeats 1000000 in
theorem qlo (l_a0 : (List Int)) (n_a1 : Int) (res : Bool) (hr : qfM l_a0 n_a1 = some res) : Gives Tryz.prog 242 [.lst (l_a0.map (D.int .i64)), .int .i64 n_a1] (.bool res) := by
  unfold qfM at hr
  refine qR [(0, .lst (l_a0.map (D.int .i64))), (1, .int .i64 n_a1)] Tryz.func242 rfl rfl fun K hK => (qh (gr [.d] (r_d rfl rfl rfl (qe rfl rfl) (qj (qh (qh (gr [.d] (r_d rfl rfl rfl (qe rfl rfl) (qj ?_)))))))))
  obtain ⟨kk0, hkk0, hr⟩ := exK (fun k => qb1 k n_a1 l_a0) hr
  refine qdG 0 rfl (asl rfl) fun hla0 => ?_
  simp only [List.length_map] at hla0
  refine qV (fun env σ => env = [] ∧ σ = [] ∧ kk0 = some res) ?_ (fun HK0 => ?_)
  ·
   rintro _ _ ⟨rfl, rfl, hr⟩
   rw [hkk0] at hr
   refine qh (gr [.d] (r_d rfl rfl rfl (qe rfl rfl) (qj ?_)))
   obtain rfl := Option.some.inj hr
   refine qJ Tryz.func242 _ (.cons (resTmp rfl (Wk.refl _)) .nil) ?_
   rfl
  ·
   refine qM [(0, .lst (l_a0.map (D.int .i64))), (1, .int .i64 n_a1), (5, .int .i64 ((0 : Nat) : Int))] (Sub.cons' rfl (Sub.cons' rfl (Sub.cons' rfl (Sub.nil _)))) (qaM (fun n env σ => ∃ (i_1 : Nat), (n = l_a0.length - i_1) ∧ (env = [(0, .lst (l_a0.map (D.int .i64))), (1, .int .i64 n_a1), (5, .int .i64 (i_1 : Int))]) ∧ (σ = []) ∧ (i_1 ≤ l_a0.length) ∧ (qb1 kk0 n_a1 (l_a0.drop i_1) = some res)) _ ⟨0, rfl, rfl, rfl, Nat.zero_le _, hr⟩ ?_)
   rintro n _ _ ⟨i_1, rfl, rfl, rfl, hi0, hr⟩ IH0
   rcases listStep l_a0 i_1 hi0 with ⟨ht0, hd0, he0⟩ | ⟨q_2, ht0, hd0, hq0, hlt0⟩
   ·
    rw [hd0, qb1] at hr
    refine qh (qh (gr [.d, .d, .d, .d] (r_d rfl rfl rfl (qb rfl rfl) (r_d rfl rfl rfl (qb rfl rfl) (r_d rfl rfl rfl (qT (f := (D.int .i64)) l_a0 rfl qH rfl (asl rfl)) (r_d rfl rfl rfl (qB rfl rfl rfl rfl) (qj (qC 9 false rfl ht0 (qs rfl (qaw rfl (qM [] (Sub.nil _) ?_)))))))))))
    exact HK0 _ _ ⟨rfl, rfl, hr⟩
   ·
    rw [hd0, qb1] at hr
    refine qh (qh (gr [.d, .d, .d, .d] (r_d rfl rfl rfl (qb rfl rfl) (r_d rfl rfl rfl (qb rfl rfl) (r_d rfl rfl rfl (qT (f := (D.int .i64)) l_a0 rfl qH rfl (asl rfl)) (r_d rfl rfl rfl (qB rfl rfl rfl rfl) (qj (qC 9 true rfl ht0 (qo rfl (qE (qh ?_)))))))))))
    refine q0 (qh (gr [.d, .d, .d, .d, .d, .d] (r_d rfl rfl rfl (qb rfl rfl) (r_d rfl rfl rfl (qb rfl rfl) (r_d rfl rfl rfl (qN (f := (D.int .i64)) l_a0 rfl qH rfl (asl rfl) rfl hq0 (fun _ => rfl) rfl) (r_d rfl rfl rfl (qk rfl rfl (by exact qW) rfl) (r_d rfl rfl rfl (qb rfl rfl) (r_d rfl rfl rfl (qB rfl rfl rfl rfl) (qj ?_)))))))))
    refine g_sB 17 rfl hr (fun h17_2 hr => ?_) (fun h17_2 hr => ?_)
    ·
     refine qo rfl (qh (gr [.d] (r_d rfl rfl rfl (qe rfl rfl) (qj ?_))))
     obtain rfl := Option.some.inj hr
     refine qJ Tryz.func242 _ (.cons (resTmp rfl (Wk.refl _)) .nil) ?_
     rfl
    ·
     refine qs rfl (qE (qF (gr [.d, .d, .d] (r_d rfl rfl rfl (qb rfl rfl) (r_d rfl rfl rfl (s_ar (r := ((i_1 + 1 : Nat) : Int)) rfl rfl rfl (by simp [iar]) (by omega)) (r_d rfl rfl rfl (qe rfl rfl) (qj (qM [(0, .lst (l_a0.map (D.int .i64))), (1, .int .i64 n_a1), (5, .int .i64 ((i_1 + 1 : Nat) : Int))] (Sub.cons' rfl (Sub.cons' rfl (Sub.cons' rfl (Sub.nil _)))) ?_))))))))
     exact IH0 _ _ _ (by omega) ⟨(i_1 + 1), rfl, rfl, rfl, (by omega), hr⟩
noncomputable def qdK (t_a0 : T) : Option ((List T)) :=
  (bif (t_a0.k == (2 : Int)) then
  some (t_a0.ar)
  else
  some ([]))
set_option maxHeartbeats 1000000 in
theorem qkV (t_a0 : T) (res : (List T)) (hr : qdK t_a0 = some res) : Gives Tryz.prog 200 [encT t_a0] (.lst (res.map encT)) := by
  unfold qdK at hr
  refine qR [(0, encT t_a0)] Tryz.func200 rfl rfl fun K hK => (qh (gr [.d, .d] (r_d rfl rfl rfl (qef rfl rfl rfl) (r_d rfl rfl rfl (qe rfl rfl) (qj (qh (qh (gr [.d, .d, .d] (r_d rfl rfl rfl (qg rfl qgd rfl (qlK _) (qlO _) rfl) (r_d rfl rfl rfl (qk rfl rfl (by exact qW) rfl) (r_d rfl rfl rfl (qB rfl rfl rfl rfl) ?_)))))))))))
  refine qj ?_
  refine g_sB 5 rfl hr (fun h5_0 hr => ?_) (fun h5_0 hr => ?_)
  ·
   refine qo rfl (qh (gr [.d, .d, .d] (r_d rfl rfl rfl (qg rfl qkY rfl (qrr _) (qrb _) rfl) (r_d rfl rfl rfl (qk rfl rfl (by exact qal) rfl) (r_d rfl rfl rfl (qe rfl rfl) (qj ?_))))))
   obtain rfl := Option.some.inj hr
   refine qJ Tryz.func200 _ (.cons (resTmp rfl (Wk.refl _)) .nil) ?_
   rfl
  ·
   refine qs rfl (qE (qh (gr [.d] (r_d rfl rfl rfl (qe rfl rfl) (qj ?_)))))
   obtain rfl := Option.some.inj hr
   refine qJ Tryz.func200 _ (.cons (resTmp rfl (Wk.full _)) .nil) ?_
   rfl
noncomputable def qaL (k : ((List Int)) → Option ((List Int))) (rec : (List Int) → T → Option ((List Int))) : List T → (List Int) → Option ((List Int))
  | [], l_6 =>
  (k l_6)
  | q_10 :: rest, l_6 =>
  ((rec l_6 q_10).bind fun r_11 =>
  (qaL k rec rest r_11))
noncomputable def qcy (k : ((List Int)) → Option ((List Int))) (l_a0 : (List Int)) (t_a1 : T) : Option ((List Int)) :=
  (bif (t_a1.k == (1 : Int)) then
  ((qfM l_a0 t_a1.i).bind fun r_14 =>
  (bif (!r_14) then
  ((appO 8 l_a0 [t_a1.i]).bind fun l_16 =>
  (k l_16))
  else
  (k l_a0)))
  else
  (k l_a0))
noncomputable def qcf : Nat → (List Int) → T → Option ((List Int))
  | 0, _, _ => none
  | fuel + 1, l_a0, t_a1 =>
    (fun (rec : (List Int) → T → Option ((List Int))) =>
      (qcy (fun l_3 =>
      ((qdK t_a1).bind fun r_4 =>
      (qaL (fun l_9 =>
      some (l_9)) rec r_4 l_3))) l_a0 t_a1)) (qcf fuel)
set_option maxHeartbeats 1000000 in
theorem qjy (fuel : Nat) (rec : (List Int) → T → Option ((List Int))) (IHR : ∀ (l_a0 : (List Int)) (t_a1 : T) (u_o0 : Value) (res : (List Int)), rec l_a0 t_a1 = some res → Spec Tryz.prog 222 [.own u_o0 (l_a0.map (D.int .i64)), encT t_a1] [.row u_o0 l_a0.length 3 1] (fun d σ => ∃ (u_o0' : Value), d = .own u_o0' (res.map (D.int .i64)) ∧ σ = [.row u_o0' res.length 3 1])) (l_a0 : (List Int)) (t_a1 : T) (u_o0 : Value) (res : (List Int))
    (hr : (qcy (fun l_3 =>
((qdK t_a1).bind fun r_4 =>
(qaL (fun l_9 =>
some (l_9)) rec r_4 l_3))) l_a0 t_a1) = some res) : Spec Tryz.prog 222 [.own u_o0 (l_a0.map (D.int .i64)), encT t_a1] [.row u_o0 l_a0.length 3 1] (fun d σ => ∃ (u_o0' : Value), d = .own u_o0' (res.map (D.int .i64)) ∧ σ = [.row u_o0' res.length 3 1]) := by
  refine qR [(0, .own u_o0 (l_a0.map (D.int .i64))), (1, encT t_a1)] Tryz.func222 rfl rfl fun K hK => (qh (gr [.d, .w] (r_d rfl rfl rfl (qef rfl rfl rfl) (r_w rfl rfl rfl (qcw 3 1 (.inl rfl)) ?_))))
  rintro _ _ ⟨u4_0, rfl, rfl⟩
  refine qj ?_
  obtain ⟨kkJ0, hkkJ0, hr⟩ := exK (fun k => qcy k l_a0 t_a1) hr
  refine qsm (fun env σ => ∃ (l_3 : (List Int)) (u_2 : Value), env = [(0, .own u_2 (l_3.map (D.int .i64))), (3, .ptr (encT t_a1))] ∧ σ = [.row u_2 l_3.length 3 1] ∧ kkJ0 l_3 = some res) ?_ (fun HKJ0 => ?_)
  ·
   rintro _ _ ⟨l_3, u_2, rfl, rfl, hr⟩
   rw [hkkJ0] at hr
   refine qh (gr [.d, .d, .d] (r_d rfl rfl rfl (qk rfl rfl (by exact qav) (qck _)) ?_))
   obtain ⟨r_4, hr_4, hr⟩ := bindS hr
   refine r_d rfl rfl rfl (qK rfl qkO (.oc rfl .nil) (qkV _ _ hr_4)) (r_d rfl rfl rfl (qe rfl rfl) (qj (qh (qh (gr [.d] (r_d rfl rfl rfl (qe rfl rfl) (qj ?_)))))))
   obtain ⟨kk0, hkk0, hr⟩ := exK (fun k => qaL k rec r_4 l_3) hr
   refine qdG 23 rfl (asl rfl) fun hla0 => ?_
   simp only [List.length_map] at hla0
   refine qV (fun env σ => ∃ (l_9 : (List Int)) (u_8 : Value), env = [(0, .own u_8 (l_9.map (D.int .i64)))] ∧ σ = [.row u_8 l_9.length 3 1] ∧ kk0 l_9 = some res) ?_ (fun HK0 => ?_)
   ·
    rintro _ _ ⟨l_9, u_8, rfl, rfl, hr⟩
    rw [hkk0] at hr
    refine qh (gr [.d, .d] (r_d rfl rfl rfl (qb rfl rfl) (r_d rfl rfl rfl (qe rfl rfl) (qj ?_))))
    obtain rfl := Option.some.inj hr
    refine qJ Tryz.func222 _ (.cons (resTmp rfl (Wk.refl _)) .nil) ?_
    exact ⟨u_8, rfl, rfl⟩
   ·
    refine qM [(5, .lst (r_4.map encT)), (0, .own u_2 (l_3.map (D.int .i64))), (6, .int .i64 ((0 : Nat) : Int))] (Sub.cons' rfl (Sub.cons' rfl (Sub.cons' rfl (Sub.nil _)))) (qaM (fun n env σ => ∃ (l_6 : (List Int)) (i_7 : Nat) (u_5 : Value), (n = r_4.length - i_7) ∧ (env = [(5, .lst (r_4.map encT)), (0, .own u_5 (l_6.map (D.int .i64))), (6, .int .i64 (i_7 : Int))]) ∧ (σ = [.row u_5 l_6.length 3 1]) ∧ (i_7 ≤ r_4.length) ∧ (qaL kk0 rec (r_4.drop i_7) l_6 = some res)) _ ⟨l_3, 0, u_2, rfl, rfl, rfl, Nat.zero_le _, hr⟩ ?_)
    rintro n _ _ ⟨l_6, i_7, u_5, rfl, rfl, rfl, hi0, hr⟩ IH0
    rcases listStep r_4 i_7 hi0 with ⟨ht0, hd0, he0⟩ | ⟨q_10, ht0, hd0, hq0, hlt0⟩
    ·
     rw [hd0, qaL] at hr
     refine qh (qh (gr [.d, .d, .d, .d] (r_d rfl rfl rfl (qb rfl rfl) (r_d rfl rfl rfl (qb rfl rfl) (r_d rfl rfl rfl (qT (f := encT) r_4 rfl qaj rfl (asl rfl)) (r_d rfl rfl rfl (qB rfl rfl rfl rfl) (qj (qC 27 false rfl ht0 (qs rfl (qaw rfl (qM [(0, .own u_5 (l_6.map (D.int .i64)))] (Sub.cons' rfl (Sub.nil _)) ?_)))))))))))
     exact HK0 _ _ ⟨l_6, u_5, rfl, rfl, hr⟩
    ·
     rw [hd0, qaL] at hr
     refine qh (qh (gr [.d, .d, .d, .d] (r_d rfl rfl rfl (qb rfl rfl) (r_d rfl rfl rfl (qb rfl rfl) (r_d rfl rfl rfl (qT (f := encT) r_4 rfl qaj rfl (asl rfl)) (r_d rfl rfl rfl (qB rfl rfl rfl rfl) (qj (qC 27 true rfl ht0 (qo rfl (qE (qh ?_)))))))))))
     refine q0 (gr [.d, .d, .d, .d, .d, .w, .d] (r_d rfl rfl rfl (qb rfl rfl) (r_d rfl rfl rfl (qb rfl rfl) (r_d rfl rfl rfl (qb rfl rfl) (r_d rfl rfl rfl (qN (f := encT) r_4 rfl qaj rfl (asl rfl) rfl hq0 qck rfl) (r_d rfl rfl rfl (qk rfl rfl (by exact qav) (qck _)) ?_))))))
     obtain ⟨r_11, hr_11, hr⟩ := bindS hr
     refine r_w rfl rfl rfl (qac _ rfl qgu (.oc rfl (.oc rfl .nil)) (by exact (pf0 _)) (IHR _ _ _ _ hr_11)) ?_
     rintro _ _ ⟨_, ⟨u35_11, rfl, rfl⟩, rfl⟩
     refine r_st ((.row u35_11 r_11.length 3 1) :: _) rfl (r_d rfl rfl rfl (qe rfl rfl) (qj (qF (gr [.d, .d, .d] (r_d rfl rfl rfl (qb rfl rfl) (r_d rfl rfl rfl (s_ar (r := ((i_7 + 1 : Nat) : Int)) rfl rfl rfl (by simp [iar]) (by omega)) (r_d rfl rfl rfl (qe rfl rfl) (qj (qM [(5, .lst (r_4.map encT)), (0, .own u35_11 (r_11.map (D.int .i64))), (6, .int .i64 ((i_7 + 1 : Nat) : Int))] (Sub.cons' rfl (Sub.cons' rfl (Sub.cons' rfl (Sub.nil _)))) ?_)))))))))
     exact IH0 _ _ _ (by omega) ⟨r_11, (i_7 + 1), u35_11, rfl, rfl, rfl, (by omega), hr⟩
  ·
   unfold qcy at hr
   refine qh (gr [.d, .d, .d, .d, .d, .d, .d, .d, .d, .d] (r_d rfl rfl rfl (qg rfl qgd rfl (qlK _) (qlO _) rfl) (r_d rfl rfl rfl (qk rfl rfl (by exact qW) rfl) (r_d rfl rfl rfl (qB rfl rfl rfl rfl) (r_d rfl rfl rfl (qb rfl rfl) ?_)))))
   refine r_sB 10 rfl hr (fun h10_12 hr => ?_) (fun h10_12 hr => ?_)
   ·
    refine r_d rfl rfl rfl (qb rfl rfl) (r_d rfl rfl rfl (qg rfl qe0 rfl (qjO _) (qjR _) rfl) (r_d rfl rfl rfl (qk rfl rfl (by exact qW) rfl) ?_))
    obtain ⟨r_14, hr_14, hr⟩ := bindS hr
    refine r_d rfl rfl rfl (qK rfl qlj (.cons rfl (Wk.own _ _) (.oc rfl .nil)) (qlo _ _ _ hr_14)) (r_d rfl rfl rfl (qdO rfl rfl) (r_d rfl rfl rfl (qy rfl rfl rfl) (qj ?_)))
    refine g_sB 16 rfl hr (fun h16_14 hr => ?_) (fun h16_14 hr => ?_)
    ·
     refine qo rfl (gr [.d, .d, .d, .d, .w, .d] (r_d rfl rfl rfl (qb rfl rfl) (r_d rfl rfl rfl (qg rfl qe0 rfl (qjO _) (qjR _) rfl) (r_d rfl rfl rfl (qk rfl rfl (by exact qW) rfl) (r_d rfl rfl rfl (qiL (f := (D.int .i64)) [.tmp 19] [t_a1.i] rfl qH rfl rfl (by decide) (by decide) (.oc rfl .nil) (fun _ => rfl) (fun _ => rfl)) ?_)))))
     obtain ⟨l_16, hl_16, hr⟩ := bindS hr
     refine r_w rfl rfl rfl (qcK (f := (D.int .i64)) l_a0 [t_a1.i] rfl qH rfl rfl (asl rfl) (pf1 _ _ _) rfl (fun _ => rfl) hl_16) ?_
     rintro _ _ ⟨u21_16, rfl, rfl⟩
     refine r_d rfl rfl rfl (qe rfl rfl) (qj (qM [(0, .own u21_16 (l_16.map (D.int .i64))), (3, .ptr (encT t_a1))] (Sub.cons' rfl (Sub.cons' rfl (Sub.nil _))) (qc6 [_] _ (pf0 _) ?_)))
     exact HKJ0 _ _ ⟨l_16, u21_16, rfl, rfl, hr⟩
    ·
     refine qs rfl (qE (qM [(0, .own u_o0 (l_a0.map (D.int .i64))), (3, .ptr (encT t_a1))] (Sub.cons' rfl (Sub.cons' rfl (Sub.nil _))) (qc6 [_] _ (pf1 _ _ _) ?_)))
     exact HKJ0 _ _ ⟨l_a0, u_o0, rfl, rfl, hr⟩
   ·
    refine qc rfl rfl rfl (qc rfl rfl rfl (qc rfl rfl rfl (qc rfl rfl rfl (qc rfl rfl rfl (r_d rfl rfl rfl (qD rfl rfl rfl) (qj (qs rfl (qE (qM [(0, .own u_o0 (l_a0.map (D.int .i64))), (3, .ptr (encT t_a1))] (Sub.cons' rfl (Sub.cons' rfl (Sub.nil _))) (qc6 [_] _ (pf1 _ _ _) ?_))))))))))
    exact HKJ0 _ _ ⟨l_a0, u_o0, rfl, rfl, hr⟩
theorem qfO : ∀ (fuel : Nat) (l_a0 : (List Int)) (t_a1 : T) (u_o0 : Value) (res : (List Int)), qcf fuel l_a0 t_a1 = some res → Spec Tryz.prog 222 [.own u_o0 (l_a0.map (D.int .i64)), encT t_a1] [.row u_o0 l_a0.length 3 1] (fun d σ => ∃ (u_o0' : Value), d = .own u_o0' (res.map (D.int .i64)) ∧ σ = [.row u_o0' res.length 3 1])
  | 0, _, _, _, _, h => by cases h
  | fuel + 1, l_a0, t_a1, u_o0, res, h => qjy fuel (qcf fuel) (qfO fuel) l_a0 t_a1 u_o0 res h
noncomputable def qbd (k : ((List Int)) → Option ((List Int))) (fuel : Nat) : List T → (List Int) → Option ((List Int))
  | [], out_4 =>
  (k out_4)
  | q_8 :: rest, out_4 =>
  ((qcf fuel out_4 q_8).bind fun r_9 =>
  (qbd k fuel rest r_9))
noncomputable def qcj (fuel : Nat) (l_a0 : (List T)) : Option ((List Int)) :=
  (qbd (fun out_7 =>
  some (out_7)) fuel l_a0 [])
set_option maxHeartbeats 1000000 in
theorem qeW (fuel : Nat) (l_a0 : (List T)) (res : (List Int)) (hr : qcj fuel l_a0 = some res) : Gives Tryz.prog 221 [.lst (l_a0.map encT)] (.lst (res.map (D.int .i64))) := by
  unfold qcj at hr
  refine qR [(0, .lst (l_a0.map encT))] Tryz.func221 rfl rfl fun K hK => (qh (gr [.w] (r_w rfl rfl rfl (qcw 3 1 (.inl rfl)) ?_)))
  rintro _ _ ⟨u2_0, rfl, rfl⟩
  refine qj (qh (gr [.w] (r_w rfl rfl rfl (qcw 3 1 (.inl rfl)) ?_)))
  rintro _ _ ⟨u3_1, rfl, rfl⟩
  refine qj (qh (qh (gr [.d] (r_d rfl rfl rfl (qe rfl rfl) (qj ?_)))))
  obtain ⟨kk0, hkk0, hr⟩ := exK (fun k => qbd k fuel l_a0 []) hr
  refine qdG 0 rfl (asl rfl) fun hla0 => ?_
  simp only [List.length_map] at hla0
  refine qV (fun env σ => ∃ (out_7 : (List Int)) (u_6 : Value), env = [(3, .own u_6 (out_7.map (D.int .i64)))] ∧ σ = [.row u_6 out_7.length 3 1] ∧ kk0 out_7 = some res) ?_ (fun HK0 => ?_)
  ·
   rintro _ _ ⟨out_7, u_6, rfl, rfl, hr⟩
   rw [hkk0] at hr
   refine qh (gr [.d, .d] (r_d rfl rfl rfl (qb rfl rfl) (r_d rfl rfl rfl (qe rfl rfl) (qj ?_))))
   obtain rfl := Option.some.inj hr
   refine qJ Tryz.func221 _ (.cons (resTmp rfl (Wk.own _ _)) .nil) ?_
   rfl
  ·
   refine qM [(0, .lst (l_a0.map encT)), (3, .own u3_1 ([].map (D.int .i64))), (4, .int .i64 ((0 : Nat) : Int))] (Sub.cons' rfl (Sub.cons' rfl (Sub.cons' rfl (Sub.nil _)))) (qc6 [_] _ (pf0 _) (qaM (fun n env σ => ∃ (out_4 : (List Int)) (i_5 : Nat) (u_3 : Value), (n = l_a0.length - i_5) ∧ (env = [(0, .lst (l_a0.map encT)), (3, .own u_3 (out_4.map (D.int .i64))), (4, .int .i64 (i_5 : Int))]) ∧ (σ = [.row u_3 out_4.length 3 1]) ∧ (i_5 ≤ l_a0.length) ∧ (qbd kk0 fuel (l_a0.drop i_5) out_4 = some res)) _ ⟨[], 0, u3_1, rfl, rfl, rfl, Nat.zero_le _, hr⟩ ?_))
   rintro n _ _ ⟨out_4, i_5, u_3, rfl, rfl, rfl, hi0, hr⟩ IH0
   rcases listStep l_a0 i_5 hi0 with ⟨ht0, hd0, he0⟩ | ⟨q_8, ht0, hd0, hq0, hlt0⟩
   ·
    rw [hd0, qbd] at hr
    refine qh (qh (gr [.d, .d, .d, .d] (r_d rfl rfl rfl (qb rfl rfl) (r_d rfl rfl rfl (qb rfl rfl) (r_d rfl rfl rfl (qT (f := encT) l_a0 rfl qaj rfl (asl rfl)) (r_d rfl rfl rfl (qB rfl rfl rfl rfl) (qj (qC 8 false rfl ht0 (qs rfl (qaw rfl (qM [(3, .own u_3 (out_4.map (D.int .i64)))] (Sub.cons' rfl (Sub.nil _)) ?_)))))))))))
    exact HK0 _ _ ⟨out_4, u_3, rfl, rfl, hr⟩
   ·
    rw [hd0, qbd] at hr
    refine qh (qh (gr [.d, .d, .d, .d] (r_d rfl rfl rfl (qb rfl rfl) (r_d rfl rfl rfl (qb rfl rfl) (r_d rfl rfl rfl (qT (f := encT) l_a0 rfl qaj rfl (asl rfl)) (r_d rfl rfl rfl (qB rfl rfl rfl rfl) (qj (qC 8 true rfl ht0 (qo rfl (qE (qh ?_)))))))))))
    refine q0 (gr [.d, .d, .d, .d, .d, .w, .d] (r_d rfl rfl rfl (qb rfl rfl) (r_d rfl rfl rfl (qb rfl rfl) (r_d rfl rfl rfl (qb rfl rfl) (r_d rfl rfl rfl (qN (f := encT) l_a0 rfl qaj rfl (asl rfl) rfl hq0 qck rfl) (r_d rfl rfl rfl (qk rfl rfl (by exact qav) (qck _)) ?_))))))
    obtain ⟨r_9, hr_9, hr⟩ := bindS hr
    refine r_w rfl rfl rfl (qac _ rfl qgu (.oc rfl (.oc rfl .nil)) (by exact (pf0 _)) (qfO fuel _ _ _ _ hr_9)) ?_
    rintro _ _ ⟨_, ⟨u16_9, rfl, rfl⟩, rfl⟩
    refine r_st ((.row u16_9 r_9.length 3 1) :: _) rfl (r_d rfl rfl rfl (qe rfl rfl) (qj (qF (gr [.d, .d, .d] (r_d rfl rfl rfl (qb rfl rfl) (r_d rfl rfl rfl (s_ar (r := ((i_5 + 1 : Nat) : Int)) rfl rfl rfl (by simp [iar]) (by omega)) (r_d rfl rfl rfl (qe rfl rfl) (qj (qM [(0, .lst (l_a0.map encT)), (3, .own u16_9 (r_9.map (D.int .i64))), (4, .int .i64 ((i_5 + 1 : Nat) : Int))] (Sub.cons' rfl (Sub.cons' rfl (Sub.cons' rfl (Sub.nil _)))) ?_)))))))))
    exact IH0 _ _ _ (by omega) ⟨r_9, (i_5 + 1), u16_9, rfl, rfl, rfl, (by omega), hr⟩
noncomputable def qbI (k : ((List T)) → Option ((List Int))) : List Gl → (List T) → Option ((List Int))
  | [], l_10 =>
  (k l_10)
  | q_15 :: rest, l_10 =>
  ((appO 56 l_10 q_15.ts).bind fun l_16 =>
  (qbI k rest l_16))
noncomputable def qbN (k : ((List T)) → Option ((List Int))) : List At → (List T) → Option ((List Int))
  | [], l_4 =>
  (k l_4)
  | q_18 :: rest, l_4 =>
  ((appO 56 l_4 q_18.ts).bind fun l_19 =>
  (qbN k rest l_19))
noncomputable def qeI (fuel : Nat) (r_a0 : qU) : Option ((List Int)) :=
  ((qcs r_a0).bind fun r_2 =>
  (qbN (fun l_7 =>
  ((qcX r_a0).bind fun r_8 =>
  (qbI (fun l_13 =>
  ((qcj fuel l_13).bind fun r_14 =>
  some (r_14))) r_8 l_7))) r_2 []))
set_option maxHeartbeats 1000000 in
theorem qk4 (fuel : Nat) (r_a0 : qU) (res : (List Int)) (hr : qeI fuel r_a0 = some res) : Gives Tryz.prog 216 [qm r_a0] (.lst (res.map (D.int .i64))) := by
  unfold qeI at hr
  refine qR [(0, qm r_a0)] Tryz.func216 rfl rfl fun K hK => (qh (gr [.d, .d] (r_d rfl rfl rfl (qef rfl rfl rfl) (r_d rfl rfl rfl (qe rfl rfl) (qj (qh (gr [.w] (r_w rfl rfl rfl (qcw 114 4 (.inl rfl)) ?_))))))))
  rintro _ _ ⟨u3_0, rfl, rfl⟩
  refine qj (qh (gr [.d, .d, .d] (r_d rfl rfl rfl (qk rfl rfl (by exact qbF) (qah _)) ?_)))
  obtain ⟨r_2, hr_2, hr⟩ := bindS hr
  refine r_d rfl rfl rfl (qK rfl qfg (.oc rfl .nil) (qfa _ _ hr_2)) (r_d rfl rfl rfl (qe rfl rfl) (qj (qh (qh (gr [.d] (r_d rfl rfl rfl (qe rfl rfl) (qj ?_)))))))
  obtain ⟨kk0, hkk0, hr⟩ := exK (fun k => qbN k r_2 []) hr
  refine qdG 9 rfl (asl rfl) fun hla0 => ?_
  simp only [List.length_map] at hla0
  refine qV (fun env σ => ∃ (l_7 : (List T)) (u_6 : Value), env = [(1, .ptr (qm r_a0)), (3, .own u_6 (l_7.map encT))] ∧ σ = [.row u_6 l_7.length 114 4] ∧ kk0 l_7 = some res) ?_ (fun HK0 => ?_)
  ·
   rintro _ _ ⟨l_7, u_6, rfl, rfl, hr⟩
   rw [hkk0] at hr
   refine qh (gr [.d, .d, .d] (r_d rfl rfl rfl (qk rfl rfl (by exact qbF) (qah _)) ?_))
   obtain ⟨r_8, hr_8, hr⟩ := bindS hr
   refine r_d rfl rfl rfl (qK rfl qf6 (.oc rfl .nil) (qf4 _ _ hr_8)) (r_d rfl rfl rfl (qe rfl rfl) (qj (qh (qh (gr [.d] (r_d rfl rfl rfl (qe rfl rfl) (qj ?_)))))))
   obtain ⟨kk1, hkk1, hr⟩ := exK (fun k => qbI k r_8 l_7) hr
   refine qdG 24 rfl (asl rfl) fun hla1 => ?_
   simp only [List.length_map] at hla1
   refine qV (fun env σ => ∃ (l_13 : (List T)) (u_12 : Value), env = [(3, .own u_12 (l_13.map encT))] ∧ σ = [.row u_12 l_13.length 114 4] ∧ kk1 l_13 = some res) ?_ (fun HK1 => ?_)
   ·
    rintro _ _ ⟨l_13, u_12, rfl, rfl, hr⟩
    rw [hkk1] at hr
    refine qh (gr [.d, .d, .d] (r_d rfl rfl rfl (qb rfl rfl) ?_))
    obtain ⟨r_14, hr_14, hr⟩ := bindS hr
    refine r_d rfl rfl rfl (qK rfl qe3 (.cons rfl (Wk.own _ _) .nil) (qeW fuel _ _ hr_14)) (r_d rfl rfl rfl (qe rfl rfl) (qj ?_))
    obtain rfl := Option.some.inj hr
    refine qJ Tryz.func216 _ (.cons (resTmp rfl (Wk.refl _)) .nil) ?_
    rfl
   ·
    refine qM [(6, .lst (r_8.map encG)), (3, .own u_6 (l_7.map encT)), (7, .int .i64 ((0 : Nat) : Int))] (Sub.cons' rfl (Sub.cons' rfl (Sub.cons' rfl (Sub.nil _)))) (qaM (fun n env σ => ∃ (l_10 : (List T)) (i_11 : Nat) (u_9 : Value), (n = r_8.length - i_11) ∧ (env = [(6, .lst (r_8.map encG)), (3, .own u_9 (l_10.map encT)), (7, .int .i64 (i_11 : Int))]) ∧ (σ = [.row u_9 l_10.length 114 4]) ∧ (i_11 ≤ r_8.length) ∧ (qbI kk1 (r_8.drop i_11) l_10 = some res)) _ ⟨l_7, 0, u_6, rfl, rfl, rfl, Nat.zero_le _, hr⟩ ?_)
    rintro n _ _ ⟨l_10, i_11, u_9, rfl, rfl, rfl, hi1, hr⟩ IH1
    rcases listStep r_8 i_11 hi1 with ⟨ht1, hd1, he1⟩ | ⟨q_15, ht1, hd1, hq1, hlt1⟩
    ·
     rw [hd1, qbI] at hr
     refine qh (qh (gr [.d, .d, .d, .d] (r_d rfl rfl rfl (qb rfl rfl) (r_d rfl rfl rfl (qb rfl rfl) (r_d rfl rfl rfl (qT (f := encG) r_8 rfl qY rfl (asl rfl)) (r_d rfl rfl rfl (qB rfl rfl rfl rfl) (qj (qC 28 false rfl ht1 (qs rfl (qaw rfl (qM [(3, .own u_9 (l_10.map encT))] (Sub.cons' rfl (Sub.nil _)) ?_)))))))))))
     exact HK1 _ _ ⟨l_10, u_9, rfl, rfl, hr⟩
    ·
     rw [hd1, qbI] at hr
     refine qh (qh (gr [.d, .d, .d, .d] (r_d rfl rfl rfl (qb rfl rfl) (r_d rfl rfl rfl (qb rfl rfl) (r_d rfl rfl rfl (qT (f := encG) r_8 rfl qY rfl (asl rfl)) (r_d rfl rfl rfl (qB rfl rfl rfl rfl) (qj (qC 28 true rfl ht1 (qo rfl (qE (qh ?_)))))))))))
     refine q0 (gr [.d, .d, .d, .d, .d, .d, .w, .d] (r_d rfl rfl rfl (qb rfl rfl) (r_d rfl rfl rfl (qb rfl rfl) (r_d rfl rfl rfl (qb rfl rfl) (r_d rfl rfl rfl (qN (f := encG) r_8 rfl qY rfl (asl rfl) rfl hq1 qbi rfl) (r_d rfl rfl rfl (qg rfl qcB rfl rfl rfl rfl) (r_d rfl rfl rfl (qk rfl rfl (by exact qal) rfl) ?_)))))))
     obtain ⟨l_16, hl_16, hr⟩ := bindS hr
     refine r_w rfl rfl rfl (qcK (f := encT) l_10 q_15.ts rfl qaj rfl rfl (asl rfl) (pf0 _) rfl qck hl_16) ?_
     rintro _ _ ⟨u37_16, rfl, rfl⟩
     refine r_d rfl rfl rfl (qe rfl rfl) (qj (qF (gr [.d, .d, .d] (r_d rfl rfl rfl (qb rfl rfl) (r_d rfl rfl rfl (s_ar (r := ((i_11 + 1 : Nat) : Int)) rfl rfl rfl (by simp [iar]) (by omega)) (r_d rfl rfl rfl (qe rfl rfl) (qj (qM [(6, .lst (r_8.map encG)), (3, .own u37_16 (l_16.map encT)), (7, .int .i64 ((i_11 + 1 : Nat) : Int))] (Sub.cons' rfl (Sub.cons' rfl (Sub.cons' rfl (Sub.nil _)))) ?_))))))))
     exact IH1 _ _ _ (by omega) ⟨l_16, (i_11 + 1), u37_16, rfl, rfl, rfl, (by omega), hr⟩
  ·
   refine qM [(1, .ptr (qm r_a0)), (4, .lst (r_2.map encA)), (3, .own u3_0 ([].map encT)), (5, .int .i64 ((0 : Nat) : Int))] (Sub.cons' rfl (Sub.cons' rfl (Sub.cons' rfl (Sub.cons' rfl (Sub.nil _))))) (qaM (fun n env σ => ∃ (l_4 : (List T)) (i_5 : Nat) (u_3 : Value), (n = r_2.length - i_5) ∧ (env = [(1, .ptr (qm r_a0)), (4, .lst (r_2.map encA)), (3, .own u_3 (l_4.map encT)), (5, .int .i64 (i_5 : Int))]) ∧ (σ = [.row u_3 l_4.length 114 4]) ∧ (i_5 ≤ r_2.length) ∧ (qbN kk0 (r_2.drop i_5) l_4 = some res)) _ ⟨[], 0, u3_0, rfl, rfl, rfl, Nat.zero_le _, hr⟩ ?_)
   rintro n _ _ ⟨l_4, i_5, u_3, rfl, rfl, rfl, hi0, hr⟩ IH0
   rcases listStep r_2 i_5 hi0 with ⟨ht0, hd0, he0⟩ | ⟨q_18, ht0, hd0, hq0, hlt0⟩
   ·
    rw [hd0, qbN] at hr
    refine qh (qh (gr [.d, .d, .d, .d] (r_d rfl rfl rfl (qb rfl rfl) (r_d rfl rfl rfl (qb rfl rfl) (r_d rfl rfl rfl (qT (f := encA) r_2 rfl qS rfl (asl rfl)) (r_d rfl rfl rfl (qB rfl rfl rfl rfl) (qj (qC 13 false rfl ht0 (qs rfl (qaw rfl (qM [(1, .ptr (qm r_a0)), (3, .own u_3 (l_4.map encT))] (Sub.cons' rfl (Sub.cons' rfl (Sub.nil _))) ?_)))))))))))
    exact HK0 _ _ ⟨l_4, u_3, rfl, rfl, hr⟩
   ·
    rw [hd0, qbN] at hr
    refine qh (qh (gr [.d, .d, .d, .d] (r_d rfl rfl rfl (qb rfl rfl) (r_d rfl rfl rfl (qb rfl rfl) (r_d rfl rfl rfl (qT (f := encA) r_2 rfl qS rfl (asl rfl)) (r_d rfl rfl rfl (qB rfl rfl rfl rfl) (qj (qC 13 true rfl ht0 (qo rfl (qE (qh ?_)))))))))))
    refine q0 (gr [.d, .d, .d, .d, .d, .d, .w, .d] (r_d rfl rfl rfl (qb rfl rfl) (r_d rfl rfl rfl (qb rfl rfl) (r_d rfl rfl rfl (qb rfl rfl) (r_d rfl rfl rfl (qN (f := encA) r_2 rfl qS rfl (asl rfl) rfl hq0 qan rfl) (r_d rfl rfl rfl (qg rfl qeb rfl rfl rfl rfl) (r_d rfl rfl rfl (qk rfl rfl (by exact qal) rfl) ?_)))))))
    obtain ⟨l_19, hl_19, hr⟩ := bindS hr
    refine r_w rfl rfl rfl (qcK (f := encT) l_4 q_18.ts rfl qaj rfl rfl (asl rfl) (pf0 _) rfl qck hl_19) ?_
    rintro _ _ ⟨u22_19, rfl, rfl⟩
    refine r_d rfl rfl rfl (qe rfl rfl) (qj (qF (gr [.d, .d, .d] (r_d rfl rfl rfl (qb rfl rfl) (r_d rfl rfl rfl (s_ar (r := ((i_5 + 1 : Nat) : Int)) rfl rfl rfl (by simp [iar]) (by omega)) (r_d rfl rfl rfl (qe rfl rfl) (qj (qM [(1, .ptr (qm r_a0)), (4, .lst (r_2.map encA)), (3, .own u22_19 (l_19.map encT)), (5, .int .i64 ((i_5 + 1 : Nat) : Int))] (Sub.cons' rfl (Sub.cons' rfl (Sub.cons' rfl (Sub.cons' rfl (Sub.nil _))))) ?_))))))))
    exact IH0 _ _ _ (by omega) ⟨l_19, (i_5 + 1), u22_19, rfl, rfl, rfl, (by omega), hr⟩
noncomputable def qaK (k : (Int) → Option (Int)) (name_a1 : ByteArray) : List S_api_Decl → Int → Option (Int)
  | [], e_1 =>
  (k e_1)
  | q_6 :: rest, e_1 =>
  (bif (q_6.f0_Name.toList == name_a1.toList) then
  (qaK k name_a1 rest 9)
  else
  (qaK k name_a1 rest e_1))
noncomputable def qc7 (decls_a0 : (List S_api_Decl)) (name_a1 : ByteArray) (arity_a2 : Int) : Option (Int) :=
  (qaK (fun e_3 =>
  ((qaW decls_a0 name_a1 arity_a2).bind fun r_4 =>
  (bif r_4 then
  some (0)
  else
  some (e_3)))) name_a1 decls_a0 7)
set_option maxHeartbeats 1000000 in
theorem qhe (decls_a0 : (List S_api_Decl)) (name_a1 : ByteArray) (arity_a2 : Int) (res : Int) (hr : qc7 decls_a0 name_a1 arity_a2 = some res) : Gives Tryz.prog 236 [.lst (decls_a0.map qt), .str name_a1, .int .i64 arity_a2] (.int .i64 res) := by
  unfold qc7 at hr
  refine qR [(0, .lst (decls_a0.map qt)), (1, .str name_a1), (2, .int .i64 arity_a2)] Tryz.func236 rfl rfl fun K hK => (qh (gr [.d] (r_d rfl rfl rfl (qe rfl rfl) (qj (qh (gr [.d] (r_d rfl rfl rfl (qe rfl rfl) (qj (qh (qh (gr [.d] ?_)))))))))))
  refine r_d rfl rfl rfl (qe rfl rfl) (qj ?_)
  obtain ⟨kk0, hkk0, hr⟩ := exK (fun k => qaK k name_a1 decls_a0 7) hr
  refine qdG 0 rfl (asl rfl) fun hla0 => ?_
  simp only [List.length_map] at hla0
  refine qV (fun env σ => ∃ (e_3 : Int), env = [(0, .lst (decls_a0.map qt)), (1, .str name_a1), (2, .int .i64 arity_a2), (7, .int .i64 e_3)] ∧ σ = [] ∧ kk0 e_3 = some res) ?_ (fun HK0 => ?_)
  ·
   rintro _ _ ⟨e_3, rfl, rfl, hr⟩
   rw [hkk0] at hr
   refine qh (qh (gr [.d, .d, .d, .d] (r_d rfl rfl rfl (qb rfl rfl) (r_d rfl rfl rfl (qb rfl rfl) (r_d rfl rfl rfl (qb rfl rfl) ?_)))))
   obtain ⟨r_4, hr_4, hr⟩ := bindS hr
   refine r_d rfl rfl rfl (qK rfl qcS (.oc rfl (.oc rfl (.oc rfl .nil))) (qcY _ _ _ _ hr_4)) (qj ?_)
   refine g_sB 25 rfl hr (fun h25_4 hr => ?_) (fun h25_4 hr => ?_)
   ·
    refine qo rfl (qh (gr [.d] (r_d rfl rfl rfl (qe rfl rfl) (qj ?_))))
    obtain rfl := Option.some.inj hr
    refine qJ Tryz.func236 _ (.cons (resTmp rfl (Wk.refl _)) .nil) ?_
    rfl
   ·
    refine qs rfl (qE (qh (gr [.d, .d] (r_d rfl rfl rfl (qb rfl rfl) (r_d rfl rfl rfl (qe rfl rfl) (qj ?_))))))
    obtain rfl := Option.some.inj hr
    refine qJ Tryz.func236 _ (.cons (resTmp rfl (Wk.refl _)) .nil) ?_
    rfl
  ·
   refine qM [(0, .lst (decls_a0.map qt)), (1, .str name_a1), (2, .int .i64 arity_a2), (7, .int .i64 7), (8, .int .i64 ((0 : Nat) : Int))] (Sub.cons' rfl (Sub.cons' rfl (Sub.cons' rfl (Sub.cons' rfl (Sub.cons' rfl (Sub.nil _)))))) (qaM (fun n env σ => ∃ (e_1 : Int) (i_2 : Nat), (n = decls_a0.length - i_2) ∧ (env = [(0, .lst (decls_a0.map qt)), (1, .str name_a1), (2, .int .i64 arity_a2), (7, .int .i64 e_1), (8, .int .i64 (i_2 : Int))]) ∧ (σ = []) ∧ (i_2 ≤ decls_a0.length) ∧ (qaK kk0 name_a1 (decls_a0.drop i_2) e_1 = some res)) _ ⟨7, 0, rfl, rfl, rfl, Nat.zero_le _, hr⟩ ?_)
   rintro n _ _ ⟨e_1, i_2, rfl, rfl, rfl, hi0, hr⟩ IH0
   rcases listStep decls_a0 i_2 hi0 with ⟨ht0, hd0, he0⟩ | ⟨q_6, ht0, hd0, hq0, hlt0⟩
   ·
    rw [hd0, qaK] at hr
    refine qh (qh (gr [.d, .d, .d, .d] (r_d rfl rfl rfl (qb rfl rfl) (r_d rfl rfl rfl (qb rfl rfl) (r_d rfl rfl rfl (qT (f := qt) decls_a0 rfl qbU rfl (asl rfl)) (r_d rfl rfl rfl (qB rfl rfl rfl rfl) (qj (qC 12 false rfl ht0 (qs rfl (qaw rfl (qM [(0, .lst (decls_a0.map qt)), (1, .str name_a1), (2, .int .i64 arity_a2), (7, .int .i64 e_1)] (Sub.cons' rfl (Sub.cons' rfl (Sub.cons' rfl (Sub.cons' rfl (Sub.nil _))))) ?_)))))))))))
    exact HK0 _ _ ⟨e_1, rfl, rfl, hr⟩
   ·
    rw [hd0, qaK] at hr
    refine qh (qh (gr [.d, .d, .d, .d] (r_d rfl rfl rfl (qb rfl rfl) (r_d rfl rfl rfl (qb rfl rfl) (r_d rfl rfl rfl (qT (f := qt) decls_a0 rfl qbU rfl (asl rfl)) (r_d rfl rfl rfl (qB rfl rfl rfl rfl) (qj (qC 12 true rfl ht0 (qo rfl (qE (qh ?_)))))))))))
    refine q0 (qh (gr [.d, .d, .d, .d, .d, .d, .d] (r_d rfl rfl rfl (qb rfl rfl) (r_d rfl rfl rfl (qb rfl rfl) (r_d rfl rfl rfl (qN (f := qt) decls_a0 rfl qbU rfl (asl rfl) rfl hq0 qdf rfl) (r_d rfl rfl rfl (qg rfl qg7 rfl rfl rfl rfl) (r_d rfl rfl rfl (qk rfl rfl (by exact qdg) rfl) (r_d rfl rfl rfl (qb rfl rfl) (r_d rfl rfl rfl (qnN rfl rfl rfl rfl) (qj ?_))))))))))
    refine g_sB 21 rfl hr (fun h21_6 hr => ?_) (fun h21_6 hr => ?_)
    ·
     refine qo rfl (gr [.d] (r_d rfl rfl rfl (qe rfl rfl) (qj (qF (gr [.d, .d, .d] (r_d rfl rfl rfl (qb rfl rfl) (r_d rfl rfl rfl (s_ar (r := ((i_2 + 1 : Nat) : Int)) rfl rfl rfl (by simp [iar]) (by omega)) (r_d rfl rfl rfl (qe rfl rfl) (qj (qM [(0, .lst (decls_a0.map qt)), (1, .str name_a1), (2, .int .i64 arity_a2), (7, .int .i64 9), (8, .int .i64 ((i_2 + 1 : Nat) : Int))] (Sub.cons' rfl (Sub.cons' rfl (Sub.cons' rfl (Sub.cons' rfl (Sub.cons' rfl (Sub.nil _)))))) ?_))))))))))
     exact IH0 _ _ _ (by omega) ⟨9, (i_2 + 1), rfl, rfl, rfl, (by omega), hr⟩
    ·
     refine qs rfl (qE (qF (gr [.d, .d, .d] (r_d rfl rfl rfl (qb rfl rfl) (r_d rfl rfl rfl (s_ar (r := ((i_2 + 1 : Nat) : Int)) rfl rfl rfl (by simp [iar]) (by omega)) (r_d rfl rfl rfl (qe rfl rfl) (qj (qM [(0, .lst (decls_a0.map qt)), (1, .str name_a1), (2, .int .i64 arity_a2), (7, .int .i64 e_1), (8, .int .i64 ((i_2 + 1 : Nat) : Int))] (Sub.cons' rfl (Sub.cons' rfl (Sub.cons' rfl (Sub.cons' rfl (Sub.cons' rfl (Sub.nil _)))))) ?_))))))))
     exact IH0 _ _ _ (by omega) ⟨e_1, (i_2 + 1), rfl, rfl, rfl, (by omega), hr⟩
noncomputable def qaX (k : Option (Int)) (decls_a0 : (List S_api_Decl)) : List Gl → Option (Int)
  | [] =>
  k
  | q_2 :: rest =>
  (bif (q_2.op != (0 : Int)) then
  (qaX k decls_a0 rest)
  else
  ((qc7 decls_a0 q_2.n (q_2.ts.length : Int)).bind fun r_4 =>
  (bif (r_4 != (0 : Int)) then
  some (r_4)
  else
  (qaX k decls_a0 rest))))
noncomputable def qfc (decls_a0 : (List S_api_Decl)) (l_a1 : (List Gl)) : Option (Int) :=
  (qaX (some (0)) decls_a0 l_a1)
set_option maxHeartbeats 1000000 in
theorem qkC (decls_a0 : (List S_api_Decl)) (l_a1 : (List Gl)) (res : Int) (hr : qfc decls_a0 l_a1 = some res) : Gives Tryz.prog 237 [.lst (decls_a0.map qt), .lst (l_a1.map encG)] (.int .i64 res) := by
  unfold qfc at hr
  refine qR [(0, .lst (decls_a0.map qt)), (1, .lst (l_a1.map encG))] Tryz.func237 rfl rfl fun K hK => (qh (gr [.d] (r_d rfl rfl rfl (qe rfl rfl) (qj (qh (qh (gr [.d] (r_d rfl rfl rfl (qe rfl rfl) (qj ?_)))))))))
  obtain ⟨kk0, hkk0, hr⟩ := exK (fun k => qaX k decls_a0 l_a1) hr
  refine qdG 1 rfl (asl rfl) fun hla0 => ?_
  simp only [List.length_map] at hla0
  refine qV (fun env σ => env = [] ∧ σ = [] ∧ kk0 = some res) ?_ (fun HK0 => ?_)
  ·
   rintro _ _ ⟨rfl, rfl, hr⟩
   rw [hkk0] at hr
   refine qh (gr [.d] (r_d rfl rfl rfl (qe rfl rfl) (qj ?_)))
   obtain rfl := Option.some.inj hr
   refine qJ Tryz.func237 _ (.cons (resTmp rfl (Wk.refl _)) .nil) ?_
   rfl
  ·
   refine qM [(0, .lst (decls_a0.map qt)), (1, .lst (l_a1.map encG)), (5, .int .i64 ((0 : Nat) : Int))] (Sub.cons' rfl (Sub.cons' rfl (Sub.cons' rfl (Sub.nil _)))) (qaM (fun n env σ => ∃ (i_1 : Nat), (n = l_a1.length - i_1) ∧ (env = [(0, .lst (decls_a0.map qt)), (1, .lst (l_a1.map encG)), (5, .int .i64 (i_1 : Int))]) ∧ (σ = []) ∧ (i_1 ≤ l_a1.length) ∧ (qaX kk0 decls_a0 (l_a1.drop i_1) = some res)) _ ⟨0, rfl, rfl, rfl, Nat.zero_le _, hr⟩ ?_)
   rintro n _ _ ⟨i_1, rfl, rfl, rfl, hi0, hr⟩ IH0
   rcases listStep l_a1 i_1 hi0 with ⟨ht0, hd0, he0⟩ | ⟨q_2, ht0, hd0, hq0, hlt0⟩
   ·
    rw [hd0, qaX] at hr
    refine qh (qh (gr [.d, .d, .d, .d] (r_d rfl rfl rfl (qb rfl rfl) (r_d rfl rfl rfl (qb rfl rfl) (r_d rfl rfl rfl (qT (f := encG) l_a1 rfl qY rfl (asl rfl)) (r_d rfl rfl rfl (qB rfl rfl rfl rfl) (qj (qC 10 false rfl ht0 (qs rfl (qaw rfl (qM [] (Sub.nil _) ?_)))))))))))
    exact HK0 _ _ ⟨rfl, rfl, hr⟩
   ·
    rw [hd0, qaX] at hr
    refine qh (qh (gr [.d, .d, .d, .d] (r_d rfl rfl rfl (qb rfl rfl) (r_d rfl rfl rfl (qb rfl rfl) (r_d rfl rfl rfl (qT (f := encG) l_a1 rfl qY rfl (asl rfl)) (r_d rfl rfl rfl (qB rfl rfl rfl rfl) (qj (qC 10 true rfl ht0 (qo rfl (qE (qh ?_)))))))))))
    refine q0 (qh (qh (gr [.d, .d, .d, .d, .d, .d] (r_d rfl rfl rfl (qb rfl rfl) (r_d rfl rfl rfl (qb rfl rfl) (r_d rfl rfl rfl (qN (f := encG) l_a1 rfl qY rfl (asl rfl) rfl hq0 qbi rfl) (r_d rfl rfl rfl (qg rfl qdo rfl rfl rfl rfl) (r_d rfl rfl rfl (qk rfl rfl (by exact qW) rfl) (r_d rfl rfl rfl (qB rfl rfl rfl rfl) (qj ?_))))))))))
    refine g_sB 18 rfl hr (fun h18_2 hr => ?_) (fun h18_2 hr => ?_)
    ·
     refine qo rfl (qaw rfl (gr [.d, .d, .d] (r_d rfl rfl rfl (qb rfl rfl) (r_d rfl rfl rfl (s_ar (r := ((i_1 + 1 : Nat) : Int)) rfl rfl rfl (by simp [iar]) (by omega)) (r_d rfl rfl rfl (qe rfl rfl) (qj (qM [(0, .lst (decls_a0.map qt)), (1, .lst (l_a1.map encG)), (5, .int .i64 ((i_1 + 1 : Nat) : Int))] (Sub.cons' rfl (Sub.cons' rfl (Sub.cons' rfl (Sub.nil _)))) ?_)))))))
     exact IH0 _ _ _ (by omega) ⟨(i_1 + 1), rfl, rfl, rfl, (by omega), hr⟩
    ·
     refine qs rfl (qE (qh (ga [(0, .d), (1, .d), (2, .d), (3, .d), (4, .d), (5, .d), (6, .d), (7, .d), (8, .d), (9, .d), (10, .d), (11, .d), (12, .d), (13, .d)] (r_d rfl rfl rfl (qb rfl rfl) (r_d rfl rfl rfl (qb rfl rfl) (r_d rfl rfl rfl (qb rfl rfl) (r_d rfl rfl rfl (qN (f := encG) l_a1 rfl qY rfl (asl rfl) rfl hq0 qbi rfl) (r_d rfl rfl rfl (qg rfl qhc rfl rfl rfl rfl) (r_d rfl rfl rfl (qk rfl rfl (by exact qdg) rfl) (r_d rfl rfl rfl (qb rfl rfl) (r_d rfl rfl rfl (qb rfl rfl) ?_)))))))))))
     refine r_d rfl rfl rfl (qN (f := encG) l_a1 rfl qY rfl (asl rfl) rfl hq0 qbi rfl) (r_d rfl rfl rfl (qg rfl qcB rfl rfl rfl rfl) (r_d rfl rfl rfl (qk rfl rfl (by exact qal) rfl) (r_d rfl rfl rfl (qT (f := encT) q_2.ts rfl qaj rfl (asl rfl)) ?_)))
     obtain ⟨r_4, hr_4, hr⟩ := bindS hr
     refine r_d rfl rfl rfl (qK rfl qhf (.oc rfl (.oc rfl (.oc rfl .nil))) (qhe _ _ _ _ hr_4)) (r_d rfl rfl rfl (qe rfl rfl) (qj (qh (gr [.d, .d] (r_d rfl rfl rfl (qb rfl rfl) (r_d rfl rfl rfl (qB rfl rfl rfl rfl) (qj ?_)))))))
     refine g_sB 33 rfl hr (fun h33_4 hr => ?_) (fun h33_4 hr => ?_)
     ·
      refine qo rfl (qh (gr [.d, .d] (r_d rfl rfl rfl (qb rfl rfl) (r_d rfl rfl rfl (qe rfl rfl) (qj ?_)))))
      obtain rfl := Option.some.inj hr
      refine qJ Tryz.func237 _ (.cons (resTmp rfl (Wk.refl _)) .nil) ?_
      rfl
     ·
      refine qs rfl (qE (qF (gr [.d, .d, .d] (r_d rfl rfl rfl (qb rfl rfl) (r_d rfl rfl rfl (s_ar (r := ((i_1 + 1 : Nat) : Int)) rfl rfl rfl (by simp [iar]) (by omega)) (r_d rfl rfl rfl (qe rfl rfl) (qj (qM [(0, .lst (decls_a0.map qt)), (1, .lst (l_a1.map encG)), (5, .int .i64 ((i_1 + 1 : Nat) : Int))] (Sub.cons' rfl (Sub.cons' rfl (Sub.cons' rfl (Sub.nil _)))) ?_))))))))
      exact IH0 _ _ _ (by omega) ⟨(i_1 + 1), rfl, rfl, rfl, (by omega), hr⟩
noncomputable def qdJ (op_a0 : Int) : Option (Bool) :=
  (bif (decide (op_a0 ≥ (5 : Int))) then
  some ((decide (op_a0 ≤ (12 : Int))))
  else
  some (false))
set_option maxHeartbeats 1000000 in
theorem qiw (op_a0 : Int) (res : Bool) (hr : qdJ op_a0 = some res) : Gives Tryz.prog 238 [.int .i64 op_a0] (.bool res) := by
  unfold qdJ at hr
  refine qR [(0, .int .i64 op_a0)] Tryz.func238 rfl rfl fun K hK => (qh (gr [.d] (r_d rfl rfl rfl (qe rfl rfl) (qj (qh (gr [.d, .d, .d, .d, .d, .d, .d] (r_d rfl rfl rfl (qb rfl rfl) (r_d rfl rfl rfl (qB rfl rfl rfl rfl) (r_d rfl rfl rfl (qb rfl rfl) ?_)))))))))
  refine r_sB 5 rfl hr (fun h5_0 hr => ?_) (fun h5_0 hr => ?_)
  ·
   refine r_d rfl rfl rfl (qb rfl rfl) (r_d rfl rfl rfl (qB rfl rfl rfl rfl) (r_d rfl rfl rfl (qy rfl rfl rfl) (r_d rfl rfl rfl (qe rfl rfl) (qj ?_))))
   obtain rfl := Option.some.inj hr
   refine qJ Tryz.func238 _ (.cons (resTmp rfl (Wk.refl _)) .nil) ?_
   rfl
  ·
   refine qc rfl rfl rfl (qc rfl rfl rfl (r_d rfl rfl rfl (qD rfl rfl rfl) (r_d rfl rfl rfl (qe rfl rfl) (qj ?_))))
   obtain rfl := Option.some.inj hr
   refine qJ Tryz.func238 _ (.cons (resTmp rfl (Wk.refl _)) .nil) ?_
   rfl
noncomputable def qaR (k : ((List T)) → Option ((List Int))) : List At → (List T) → Option ((List Int))
  | [], l_4 =>
  (k l_4)
  | q_9 :: rest, l_4 =>
  ((appO 56 l_4 q_9.ts).bind fun l_10 =>
  (qaR k rest l_10))
noncomputable def qdB (fuel : Nat) (r_a0 : qU) : Option ((List Int)) :=
  ((qcs r_a0).bind fun r_2 =>
  (qaR (fun l_7 =>
  ((qcj fuel l_7).bind fun r_8 =>
  some (r_8))) r_2 []))
set_option maxHeartbeats 1000000 in
theorem qjA (fuel : Nat) (r_a0 : qU) (res : (List Int)) (hr : qdB fuel r_a0 = some res) : Gives Tryz.prog 239 [qm r_a0] (.lst (res.map (D.int .i64))) := by
  unfold qdB at hr
  refine qR [(0, qm r_a0)] Tryz.func239 rfl rfl fun K hK => (qh (gr [.d, .d] (r_d rfl rfl rfl (qef rfl rfl rfl) (r_d rfl rfl rfl (qe rfl rfl) (qj (qh (gr [.w] (r_w rfl rfl rfl (qcw 114 4 (.inl rfl)) ?_))))))))
  rintro _ _ ⟨u3_0, rfl, rfl⟩
  refine qj (qh (gr [.d, .d, .d] (r_d rfl rfl rfl (qk rfl rfl (by exact qbF) (qah _)) ?_)))
  obtain ⟨r_2, hr_2, hr⟩ := bindS hr
  refine r_d rfl rfl rfl (qK rfl qfg (.oc rfl .nil) (qfa _ _ hr_2)) (r_d rfl rfl rfl (qe rfl rfl) (qj (qh (qh (gr [.d] (r_d rfl rfl rfl (qe rfl rfl) (qj ?_)))))))
  obtain ⟨kk0, hkk0, hr⟩ := exK (fun k => qaR k r_2 []) hr
  refine qdG 7 rfl (asl rfl) fun hla0 => ?_
  simp only [List.length_map] at hla0
  refine qV (fun env σ => ∃ (l_7 : (List T)) (u_6 : Value), env = [(3, .own u_6 (l_7.map encT))] ∧ σ = [.row u_6 l_7.length 114 4] ∧ kk0 l_7 = some res) ?_ (fun HK0 => ?_)
  ·
   rintro _ _ ⟨l_7, u_6, rfl, rfl, hr⟩
   rw [hkk0] at hr
   refine qh (gr [.d, .d, .d] (r_d rfl rfl rfl (qb rfl rfl) ?_))
   obtain ⟨r_8, hr_8, hr⟩ := bindS hr
   refine r_d rfl rfl rfl (qK rfl qe3 (.cons rfl (Wk.own _ _) .nil) (qeW fuel _ _ hr_8)) (r_d rfl rfl rfl (qe rfl rfl) (qj ?_))
   obtain rfl := Option.some.inj hr
   refine qJ Tryz.func239 _ (.cons (resTmp rfl (Wk.refl _)) .nil) ?_
   rfl
  ·
   refine qM [(4, .lst (r_2.map encA)), (3, .own u3_0 ([].map encT)), (5, .int .i64 ((0 : Nat) : Int))] (Sub.cons' rfl (Sub.cons' rfl (Sub.cons' rfl (Sub.nil _)))) (qaM (fun n env σ => ∃ (l_4 : (List T)) (i_5 : Nat) (u_3 : Value), (n = r_2.length - i_5) ∧ (env = [(4, .lst (r_2.map encA)), (3, .own u_3 (l_4.map encT)), (5, .int .i64 (i_5 : Int))]) ∧ (σ = [.row u_3 l_4.length 114 4]) ∧ (i_5 ≤ r_2.length) ∧ (qaR kk0 (r_2.drop i_5) l_4 = some res)) _ ⟨[], 0, u3_0, rfl, rfl, rfl, Nat.zero_le _, hr⟩ ?_)
   rintro n _ _ ⟨l_4, i_5, u_3, rfl, rfl, rfl, hi0, hr⟩ IH0
   rcases listStep r_2 i_5 hi0 with ⟨ht0, hd0, he0⟩ | ⟨q_9, ht0, hd0, hq0, hlt0⟩
   ·
    rw [hd0, qaR] at hr
    refine qh (qh (gr [.d, .d, .d, .d] (r_d rfl rfl rfl (qb rfl rfl) (r_d rfl rfl rfl (qb rfl rfl) (r_d rfl rfl rfl (qT (f := encA) r_2 rfl qS rfl (asl rfl)) (r_d rfl rfl rfl (qB rfl rfl rfl rfl) (qj (qC 11 false rfl ht0 (qs rfl (qaw rfl (qM [(3, .own u_3 (l_4.map encT))] (Sub.cons' rfl (Sub.nil _)) ?_)))))))))))
    exact HK0 _ _ ⟨l_4, u_3, rfl, rfl, hr⟩
   ·
    rw [hd0, qaR] at hr
    refine qh (qh (gr [.d, .d, .d, .d] (r_d rfl rfl rfl (qb rfl rfl) (r_d rfl rfl rfl (qb rfl rfl) (r_d rfl rfl rfl (qT (f := encA) r_2 rfl qS rfl (asl rfl)) (r_d rfl rfl rfl (qB rfl rfl rfl rfl) (qj (qC 11 true rfl ht0 (qo rfl (qE (qh ?_)))))))))))
    refine q0 (gr [.d, .d, .d, .d, .d, .d, .w, .d] (r_d rfl rfl rfl (qb rfl rfl) (r_d rfl rfl rfl (qb rfl rfl) (r_d rfl rfl rfl (qb rfl rfl) (r_d rfl rfl rfl (qN (f := encA) r_2 rfl qS rfl (asl rfl) rfl hq0 qan rfl) (r_d rfl rfl rfl (qg rfl qeb rfl rfl rfl rfl) (r_d rfl rfl rfl (qk rfl rfl (by exact qal) rfl) ?_)))))))
    obtain ⟨l_10, hl_10, hr⟩ := bindS hr
    refine r_w rfl rfl rfl (qcK (f := encT) l_4 q_9.ts rfl qaj rfl rfl (asl rfl) (pf0 _) rfl qck hl_10) ?_
    rintro _ _ ⟨u20_10, rfl, rfl⟩
    refine r_d rfl rfl rfl (qe rfl rfl) (qj (qF (gr [.d, .d, .d] (r_d rfl rfl rfl (qb rfl rfl) (r_d rfl rfl rfl (s_ar (r := ((i_5 + 1 : Nat) : Int)) rfl rfl rfl (by simp [iar]) (by omega)) (r_d rfl rfl rfl (qe rfl rfl) (qj (qM [(4, .lst (r_2.map encA)), (3, .own u20_10 (l_10.map encT)), (5, .int .i64 ((i_5 + 1 : Nat) : Int))] (Sub.cons' rfl (Sub.cons' rfl (Sub.cons' rfl (Sub.nil _)))) ?_))))))))
    exact IH0 _ _ _ (by omega) ⟨l_10, (i_5 + 1), u20_10, rfl, rfl, rfl, (by omega), hr⟩
noncomputable def qcn (fuel : Nat) (g_a0 : Gl) : Option ((List Int)) :=
  ((qcj fuel g_a0.ts).bind fun r_1 =>
  some (r_1))
set_option maxHeartbeats 1000000 in
theorem qfC (fuel : Nat) (g_a0 : Gl) (res : (List Int)) (hr : qcn fuel g_a0 = some res) : Gives Tryz.prog 182 [encG g_a0] (.lst (res.map (D.int .i64))) := by
  unfold qcn at hr
  refine qR [(0, encG g_a0)] Tryz.func182 rfl rfl fun K hK => (qh (gr [.d, .d] (r_d rfl rfl rfl (qef rfl rfl rfl) (r_d rfl rfl rfl (qe rfl rfl) (qj (qh (gr [.d, .d, .d, .d] (r_d rfl rfl rfl (qg rfl qcB rfl rfl rfl rfl) (r_d rfl rfl rfl (qk rfl rfl (by exact qal) rfl) ?_)))))))))
  obtain ⟨r_1, hr_1, hr⟩ := bindS hr
  refine r_d rfl rfl rfl (qK rfl qe3 (.oc rfl .nil) (qeW fuel _ _ hr_1)) (r_d rfl rfl rfl (qe rfl rfl) (qj ?_))
  obtain rfl := Option.some.inj hr
  refine qJ Tryz.func182 _ (.cons (resTmp rfl (Wk.refl _)) .nil) ?_
  rfl
noncomputable def qb8 (k : Option (Bool)) (n_a1 : Int) : List Int → Option (Bool)
  | [] =>
  k
  | q_2 :: rest =>
  (bif (q_2 == n_a1) then
  some (true)
  else
  (qb8 k n_a1 rest))
noncomputable def qg2 (l_a0 : (List Int)) (n_a1 : Int) : Option (Bool) :=
  (qb8 (some (false)) n_a1 l_a0)
set_option maxHeartbeats 1000000 in
theorem qlF (l_a0 : (List Int)) (n_a1 : Int) (res : Bool) (hr : qg2 l_a0 n_a1 = some res) : Gives Tryz.prog 240 [.lst (l_a0.map (D.int .i64)), .int .i64 n_a1] (.bool res) := by
  unfold qg2 at hr
  refine qR [(0, .lst (l_a0.map (D.int .i64))), (1, .int .i64 n_a1)] Tryz.func240 rfl rfl fun K hK => (qh (gr [.d] (r_d rfl rfl rfl (qe rfl rfl) (qj (qh (qh (gr [.d] (r_d rfl rfl rfl (qe rfl rfl) (qj ?_)))))))))
  obtain ⟨kk0, hkk0, hr⟩ := exK (fun k => qb8 k n_a1 l_a0) hr
  refine qdG 0 rfl (asl rfl) fun hla0 => ?_
  simp only [List.length_map] at hla0
  refine qV (fun env σ => env = [] ∧ σ = [] ∧ kk0 = some res) ?_ (fun HK0 => ?_)
  ·
   rintro _ _ ⟨rfl, rfl, hr⟩
   rw [hkk0] at hr
   refine qh (gr [.d] (r_d rfl rfl rfl (qe rfl rfl) (qj ?_)))
   obtain rfl := Option.some.inj hr
   refine qJ Tryz.func240 _ (.cons (resTmp rfl (Wk.refl _)) .nil) ?_
   rfl
  ·
   refine qM [(0, .lst (l_a0.map (D.int .i64))), (1, .int .i64 n_a1), (5, .int .i64 ((0 : Nat) : Int))] (Sub.cons' rfl (Sub.cons' rfl (Sub.cons' rfl (Sub.nil _)))) (qaM (fun n env σ => ∃ (i_1 : Nat), (n = l_a0.length - i_1) ∧ (env = [(0, .lst (l_a0.map (D.int .i64))), (1, .int .i64 n_a1), (5, .int .i64 (i_1 : Int))]) ∧ (σ = []) ∧ (i_1 ≤ l_a0.length) ∧ (qb8 kk0 n_a1 (l_a0.drop i_1) = some res)) _ ⟨0, rfl, rfl, rfl, Nat.zero_le _, hr⟩ ?_)
   rintro n _ _ ⟨i_1, rfl, rfl, rfl, hi0, hr⟩ IH0
   rcases listStep l_a0 i_1 hi0 with ⟨ht0, hd0, he0⟩ | ⟨q_2, ht0, hd0, hq0, hlt0⟩
   ·
    rw [hd0, qb8] at hr
    refine qh (qh (gr [.d, .d, .d, .d] (r_d rfl rfl rfl (qb rfl rfl) (r_d rfl rfl rfl (qb rfl rfl) (r_d rfl rfl rfl (qT (f := (D.int .i64)) l_a0 rfl qH rfl (asl rfl)) (r_d rfl rfl rfl (qB rfl rfl rfl rfl) (qj (qC 9 false rfl ht0 (qs rfl (qaw rfl (qM [] (Sub.nil _) ?_)))))))))))
    exact HK0 _ _ ⟨rfl, rfl, hr⟩
   ·
    rw [hd0, qb8] at hr
    refine qh (qh (gr [.d, .d, .d, .d] (r_d rfl rfl rfl (qb rfl rfl) (r_d rfl rfl rfl (qb rfl rfl) (r_d rfl rfl rfl (qT (f := (D.int .i64)) l_a0 rfl qH rfl (asl rfl)) (r_d rfl rfl rfl (qB rfl rfl rfl rfl) (qj (qC 9 true rfl ht0 (qo rfl (qE (qh ?_)))))))))))
    refine q0 (qh (gr [.d, .d, .d, .d, .d, .d] (r_d rfl rfl rfl (qb rfl rfl) (r_d rfl rfl rfl (qb rfl rfl) (r_d rfl rfl rfl (qN (f := (D.int .i64)) l_a0 rfl qH rfl (asl rfl) rfl hq0 (fun _ => rfl) rfl) (r_d rfl rfl rfl (qk rfl rfl (by exact qW) rfl) (r_d rfl rfl rfl (qb rfl rfl) (r_d rfl rfl rfl (qB rfl rfl rfl rfl) (qj ?_)))))))))
    refine g_sB 17 rfl hr (fun h17_2 hr => ?_) (fun h17_2 hr => ?_)
    ·
     refine qo rfl (qh (gr [.d] (r_d rfl rfl rfl (qe rfl rfl) (qj ?_))))
     obtain rfl := Option.some.inj hr
     refine qJ Tryz.func240 _ (.cons (resTmp rfl (Wk.refl _)) .nil) ?_
     rfl
    ·
     refine qs rfl (qE (qF (gr [.d, .d, .d] (r_d rfl rfl rfl (qb rfl rfl) (r_d rfl rfl rfl (s_ar (r := ((i_1 + 1 : Nat) : Int)) rfl rfl rfl (by simp [iar]) (by omega)) (r_d rfl rfl rfl (qe rfl rfl) (qj (qM [(0, .lst (l_a0.map (D.int .i64))), (1, .int .i64 n_a1), (5, .int .i64 ((i_1 + 1 : Nat) : Int))] (Sub.cons' rfl (Sub.cons' rfl (Sub.cons' rfl (Sub.nil _)))) ?_))))))))
     exact IH0 _ _ _ (by omega) ⟨(i_1 + 1), rfl, rfl, rfl, (by omega), hr⟩
noncomputable def qa2 (k : Option (Int)) (r_8 : (List Int)) : List Int → Option (Int)
  | [] =>
  k
  | q_13 :: rest =>
  ((qg2 r_8 q_13).bind fun r_14 =>
  (bif (!r_14) then
  some (17)
  else
  (qa2 k r_8 rest)))
noncomputable def qa1 (k : Option (Int)) (fuel : Nat) (r_8 : (List Int)) : List Gl → Option (Int)
  | [] =>
  k
  | q_10 :: rest =>
  ((qcn fuel q_10).bind fun r_11 =>
  (qa2 ((qa1 k fuel r_8 rest)) r_8 r_11))
noncomputable def qa5 (k : Option (Int)) : List Gl → Option (Int)
  | [] =>
  k
  | q_16 :: rest =>
  ((qdJ q_16.op).bind fun r_17 =>
  (bif r_17 then
  some (10)
  else
  (qa5 k rest)))
noncomputable def qaI (k : Option (Int)) : List Gl → Option (Int)
  | [] =>
  k
  | q_19 :: rest =>
  ((qdJ q_19.op).bind fun r_20 =>
  (bif (!r_20) then
  (bif (q_19.op != (1 : Int)) then
  some (10)
  else
  (qaI k rest))
  else
  (qaI k rest)))
noncomputable def qa6 (k : Option (Int)) (decls_a0 : (List S_api_Decl)) : List At → Option (Int)
  | [] =>
  k
  | q_23 :: rest =>
  ((qc7 decls_a0 q_23.n (q_23.ts.length : Int)).bind fun r_24 =>
  (bif (r_24 != (0 : Int)) then
  some (r_24)
  else
  (qa6 k decls_a0 rest)))
noncomputable def qc8 (fuel : Nat) (decls_a0 : (List S_api_Decl)) (r_a1 : qU) : Option (Int) :=
  ((qcs r_a1).bind fun r_1 =>
  (qa6 (((qcX r_a1).bind fun r_3 =>
  ((qfc decls_a0 r_3).bind fun r_4 =>
  (bif (r_4 != (0 : Int)) then
  some (r_4)
  else
  (qaI ((qa5 (((qdB fuel r_a1).bind fun r_8 =>
  (qa1 (some (0)) fuel r_8 r_a1.f3_Guard))) r_a1.f4_Body)) r_a1.f3_Guard))))) decls_a0 r_1))
set_option maxHeartbeats 1000000 in
theorem qhh (fuel : Nat) (decls_a0 : (List S_api_Decl)) (r_a1 : qU) (res : Int) (hr : qc8 fuel decls_a0 r_a1 = some res) : Gives Tryz.prog 217 [.lst (decls_a0.map qt), qm r_a1] (.int .i64 res) := by
  unfold qc8 at hr
  refine qR [(0, .lst (decls_a0.map qt)), (1, qm r_a1)] Tryz.func217 rfl rfl fun K hK => (qh (gr [.d, .d] (r_d rfl rfl rfl (qef rfl rfl rfl) (r_d rfl rfl rfl (qe rfl rfl) (qj (qh (gr [.d, .d, .d] (r_d rfl rfl rfl (qk rfl rfl (by exact qbF) (qah _)) ?_))))))))
  obtain ⟨r_1, hr_1, hr⟩ := bindS hr
  refine r_d rfl rfl rfl (qK rfl qfg (.oc rfl .nil) (qfa _ _ hr_1)) (r_d rfl rfl rfl (qe rfl rfl) (qj (qh (qh (gr [.d] (r_d rfl rfl rfl (qe rfl rfl) (qj ?_)))))))
  obtain ⟨kk0, hkk0, hr⟩ := exK (fun k => qa6 k decls_a0 r_1) hr
  refine qdG 16 rfl (asl rfl) fun hla0 => ?_
  simp only [List.length_map] at hla0
  refine qV (fun env σ => env = [(0, .lst (decls_a0.map qt)), (3, .ptr (qm r_a1))] ∧ σ = [] ∧ kk0 = some res) ?_ (fun HK0 => ?_)
  ·
   rintro _ _ ⟨rfl, rfl, hr⟩
   rw [hkk0] at hr
   refine qh (gr [.d, .d, .d, .d, .d] (r_d rfl rfl rfl (qb rfl rfl) (r_d rfl rfl rfl (qk rfl rfl (by exact qbF) (qah _)) ?_)))
   obtain ⟨r_3, hr_3, hr⟩ := bindS hr
   refine r_d rfl rfl rfl (qK rfl qf6 (.oc rfl .nil) (qf4 _ _ hr_3)) ?_
   obtain ⟨r_4, hr_4, hr⟩ := bindS hr
   refine r_d rfl rfl rfl (qK rfl qkb (.oc rfl (.oc rfl .nil)) (qkC _ _ _ hr_4)) (r_d rfl rfl rfl (qe rfl rfl) (qj (qh (qh (gr [.d, .d] (r_d rfl rfl rfl (qb rfl rfl) (r_d rfl rfl rfl (qB rfl rfl rfl rfl) (qj ?_))))))))
   refine g_sB 44 rfl hr (fun h44_4 hr => ?_) (fun h44_4 hr => ?_)
   ·
    refine qo rfl (qh (gr [.d, .d] (r_d rfl rfl rfl (qb rfl rfl) (r_d rfl rfl rfl (qe rfl rfl) (qj ?_)))))
    obtain rfl := Option.some.inj hr
    refine qJ Tryz.func217 _ (.cons (resTmp rfl (Wk.refl _)) .nil) ?_
    rfl
   ·
    refine qs rfl (qE (qh (qh (gr [.d] (r_d rfl rfl rfl (qe rfl rfl) (qj ?_))))))
    obtain ⟨kk1, hkk1, hr⟩ := exK (fun k => qaI k r_a1.f3_Guard) hr
    refine qlc 3 [3] (l := r_a1.f3_Guard.map encG) rfl rfl (asl rfl) fun hla1 => ?_
    simp only [List.length_map] at hla1
    refine qV (fun env σ => env = [(3, .ptr (qm r_a1))] ∧ σ = [] ∧ kk1 = some res) ?_ (fun HK1 => ?_)
    ·
     rintro _ _ ⟨rfl, rfl, hr⟩
     rw [hkk1] at hr
     refine qh (qh (gr [.d] (r_d rfl rfl rfl (qe rfl rfl) (qj ?_))))
     obtain ⟨kk2, hkk2, hr⟩ := exK (fun k => qa5 k r_a1.f4_Body) hr
     refine qlc 3 [4] (l := r_a1.f4_Body.map encG) rfl rfl (asl rfl) fun hla2 => ?_
     simp only [List.length_map] at hla2
     refine qV (fun env σ => env = [(3, .ptr (qm r_a1))] ∧ σ = [] ∧ kk2 = some res) ?_ (fun HK2 => ?_)
     ·
      rintro _ _ ⟨rfl, rfl, hr⟩
      rw [hkk2] at hr
      refine qh (gr [.d, .d, .d] (r_d rfl rfl rfl (qk rfl rfl (by exact qbF) (qah _)) ?_))
      obtain ⟨r_8, hr_8, hr⟩ := bindS hr
      refine r_d rfl rfl rfl (qK rfl qjD (.oc rfl .nil) (qjA fuel _ _ hr_8)) (r_d rfl rfl rfl (qe rfl rfl) (qj (qh (qh (gr [.d] (r_d rfl rfl rfl (qe rfl rfl) (qj ?_)))))))
      obtain ⟨kk3, hkk3, hr⟩ := exK (fun k => qa1 k fuel r_8 r_a1.f3_Guard) hr
      refine qlc 3 [3] (l := r_a1.f3_Guard.map encG) rfl rfl (asl rfl) fun hla3 => ?_
      simp only [List.length_map] at hla3
      refine qV (fun env σ => env = [] ∧ σ = [] ∧ kk3 = some res) ?_ (fun HK3 => ?_)
      ·
       rintro _ _ ⟨rfl, rfl, hr⟩
       rw [hkk3] at hr
       refine qh (gr [.d] (r_d rfl rfl rfl (qe rfl rfl) (qj ?_)))
       obtain rfl := Option.some.inj hr
       refine qJ Tryz.func217 _ (.cons (resTmp rfl (Wk.refl _)) .nil) ?_
       rfl
      ·
       refine qM [(3, .ptr (qm r_a1)), (11, .lst (r_8.map (D.int .i64))), (12, .int .i64 ((0 : Nat) : Int))] (Sub.cons' rfl (Sub.cons' rfl (Sub.cons' rfl (Sub.nil _)))) (qaM (fun n env σ => ∃ (i_9 : Nat), (n = r_a1.f3_Guard.length - i_9) ∧ (env = [(3, .ptr (qm r_a1)), (11, .lst (r_8.map (D.int .i64))), (12, .int .i64 (i_9 : Int))]) ∧ (σ = []) ∧ (i_9 ≤ r_a1.f3_Guard.length) ∧ (qa1 kk3 fuel r_8 (r_a1.f3_Guard.drop i_9) = some res)) _ ⟨0, rfl, rfl, rfl, Nat.zero_le _, hr⟩ ?_)
       rintro n _ _ ⟨i_9, rfl, rfl, rfl, hi3, hr⟩ IH3
       rcases listStep r_a1.f3_Guard i_9 hi3 with ⟨ht3, hd3, he3⟩ | ⟨q_10, ht3, hd3, hq3, hlt3⟩
       ·
        rw [hd3, qa1] at hr
        refine qh (qh (gr [.d, .d, .d, .d, .d] (r_d rfl rfl rfl (qb rfl rfl) (r_d rfl rfl rfl (qg rfl qdM rfl rfl rfl rfl) (r_d rfl rfl rfl (qk rfl rfl (by exact qa4) rfl) (r_d rfl rfl rfl (qT (f := encG) r_a1.f3_Guard rfl qY rfl (asl rfl)) (r_d rfl rfl rfl (qB rfl rfl rfl rfl) (qj (qC 90 false rfl ht3 (qs rfl (qaw rfl ?_)))))))))))
        refine qM [] (Sub.nil _) ?_
        exact HK3 _ _ ⟨rfl, rfl, hr⟩
       ·
        rw [hd3, qa1] at hr
        refine qh (qh (gr [.d, .d, .d, .d, .d] (r_d rfl rfl rfl (qb rfl rfl) (r_d rfl rfl rfl (qg rfl qdM rfl rfl rfl rfl) (r_d rfl rfl rfl (qk rfl rfl (by exact qa4) rfl) (r_d rfl rfl rfl (qT (f := encG) r_a1.f3_Guard rfl qY rfl (asl rfl)) (r_d rfl rfl rfl (qB rfl rfl rfl rfl) (qj (qC 90 true rfl ht3 (qo rfl (qE ?_)))))))))))
        refine qh (q0 (qh (gr [.d, .d, .d, .d, .d, .d, .d] (r_d rfl rfl rfl (qg rfl qdM rfl rfl rfl rfl) (r_d rfl rfl rfl (qk rfl rfl (by exact qa4) rfl) (r_d rfl rfl rfl (qb rfl rfl) (r_d rfl rfl rfl (qN (f := encG) r_a1.f3_Guard rfl qY rfl (asl rfl) rfl hq3 qbi rfl) (r_d rfl rfl rfl (qk rfl rfl (by exact qdb) (qbi _)) ?_))))))))
        obtain ⟨r_11, hr_11, hr⟩ := bindS hr
        refine r_d rfl rfl rfl (qK rfl qfA (.oc rfl .nil) (qfC fuel _ _ hr_11)) (r_d rfl rfl rfl (qe rfl rfl) (qj (qh (gr [.d] (r_d rfl rfl rfl (qe rfl rfl) (qj ?_))))))
        obtain ⟨kk4, hkk4, hr⟩ := exK (fun k => qa2 k r_8 r_11) hr
        refine qdG 98 rfl (asl rfl) fun hla4 => ?_
        simp only [List.length_map] at hla4
        refine qV (fun env σ => env = [(3, .ptr (qm r_a1)), (11, .lst (r_8.map (D.int .i64))), (12, .int .i64 (i_9 : Int))] ∧ σ = [] ∧ kk4 = some res) ?_ (fun HK4 => ?_)
        ·
         rintro _ _ ⟨rfl, rfl, hr⟩
         rw [hkk4] at hr
         refine qF (gr [.d, .d, .d] (r_d rfl rfl rfl (qb rfl rfl) (r_d rfl rfl rfl (s_ar (r := ((i_9 + 1 : Nat) : Int)) rfl rfl rfl (by simp [iar]) (by omega)) (r_d rfl rfl rfl (qe rfl rfl) (qj (qM [(3, .ptr (qm r_a1)), (11, .lst (r_8.map (D.int .i64))), (12, .int .i64 ((i_9 + 1 : Nat) : Int))] (Sub.cons' rfl (Sub.cons' rfl (Sub.cons' rfl (Sub.nil _)))) ?_))))))
         exact IH3 _ _ _ (by omega) ⟨(i_9 + 1), rfl, rfl, rfl, (by omega), hr⟩
        ·
         refine qM [(3, .ptr (qm r_a1)), (11, .lst (r_8.map (D.int .i64))), (12, .int .i64 ((i_9 : Nat) : Int)), (13, .lst (r_11.map (D.int .i64))), (14, .int .i64 ((0 : Nat) : Int))] (Sub.cons' rfl (Sub.cons' rfl (Sub.cons' rfl (Sub.cons' rfl (Sub.cons' rfl (Sub.nil _)))))) (qaM (fun n env σ => ∃ (k_12 : Nat), (n = r_11.length - k_12) ∧ (env = [(3, .ptr (qm r_a1)), (11, .lst (r_8.map (D.int .i64))), (12, .int .i64 (i_9 : Int)), (13, .lst (r_11.map (D.int .i64))), (14, .int .i64 (k_12 : Int))]) ∧ (σ = []) ∧ (k_12 ≤ r_11.length) ∧ (qa2 kk4 r_8 (r_11.drop k_12) = some res)) _ ⟨0, rfl, rfl, rfl, Nat.zero_le _, hr⟩ ?_)
         rintro n _ _ ⟨k_12, rfl, rfl, rfl, hi4, hr⟩ IH4
         rcases listStep r_11 k_12 hi4 with ⟨ht4, hd4, he4⟩ | ⟨q_13, ht4, hd4, hq4, hlt4⟩
         ·
          rw [hd4, qa2] at hr
          refine qh (qh (gr [.d, .d, .d, .d] (r_d rfl rfl rfl (qb rfl rfl) (r_d rfl rfl rfl (qb rfl rfl) (r_d rfl rfl rfl (qT (f := (D.int .i64)) r_11 rfl qH rfl (asl rfl)) (r_d rfl rfl rfl (qB rfl rfl rfl rfl) (qj (qC 102 false rfl ht4 (qs rfl (qaw rfl (qM [(3, .ptr (qm r_a1)), (11, .lst (r_8.map (D.int .i64))), (12, .int .i64 (i_9 : Int))] (Sub.cons' rfl (Sub.cons' rfl (Sub.cons' rfl (Sub.nil _)))) ?_)))))))))))
          exact HK4 _ _ ⟨rfl, rfl, hr⟩
         ·
          rw [hd4, qa2] at hr
          refine qh (qh (gr [.d, .d, .d, .d] (r_d rfl rfl rfl (qb rfl rfl) (r_d rfl rfl rfl (qb rfl rfl) (r_d rfl rfl rfl (qT (f := (D.int .i64)) r_11 rfl qH rfl (asl rfl)) (r_d rfl rfl rfl (qB rfl rfl rfl rfl) (qj (qC 102 true rfl ht4 (qo rfl (qE (qh ?_)))))))))))
          refine q0 (qh (gr [.d, .d, .d, .d, .d, .d, .d] (r_d rfl rfl rfl (qb rfl rfl) (r_d rfl rfl rfl (qb rfl rfl) (r_d rfl rfl rfl (qb rfl rfl) (r_d rfl rfl rfl (qN (f := (D.int .i64)) r_11 rfl qH rfl (asl rfl) rfl hq4 (fun _ => rfl) rfl) (r_d rfl rfl rfl (qk rfl rfl (by exact qW) rfl) ?_)))))))
          obtain ⟨r_14, hr_14, hr⟩ := bindS hr
          refine r_d rfl rfl rfl (qK rfl qlH (.oc rfl (.oc rfl .nil)) (qlF _ _ _ hr_14)) (r_d rfl rfl rfl (qdO rfl rfl) (qj ?_))
          refine g_sB 111 rfl hr (fun h111_14 hr => ?_) (fun h111_14 hr => ?_)
          ·
           refine qo rfl (qh (gr [.d] (r_d rfl rfl rfl (qe rfl rfl) (qj ?_))))
           obtain rfl := Option.some.inj hr
           refine qJ Tryz.func217 _ (.cons (resTmp rfl (Wk.refl _)) .nil) ?_
           rfl
          ·
           refine qs rfl (qE (qF (gr [.d, .d, .d] (r_d rfl rfl rfl (qb rfl rfl) (r_d rfl rfl rfl (s_ar (r := ((k_12 + 1 : Nat) : Int)) rfl rfl rfl (by simp [iar]) (by omega)) (r_d rfl rfl rfl (qe rfl rfl) (qj (qM [(3, .ptr (qm r_a1)), (11, .lst (r_8.map (D.int .i64))), (12, .int .i64 ((i_9 : Nat) : Int)), (13, .lst (r_11.map (D.int .i64))), (14, .int .i64 ((k_12 + 1 : Nat) : Int))] (Sub.cons' rfl (Sub.cons' rfl (Sub.cons' rfl (Sub.cons' rfl (Sub.cons' rfl (Sub.nil _)))))) ?_))))))))
           exact IH4 _ _ _ (by omega) ⟨(k_12 + 1), rfl, rfl, rfl, (by omega), hr⟩
     ·
      refine qM [(3, .ptr (qm r_a1)), (10, .int .i64 ((0 : Nat) : Int))] (Sub.cons' rfl (Sub.cons' rfl (Sub.nil _))) (qaM (fun n env σ => ∃ (i_7 : Nat), (n = r_a1.f4_Body.length - i_7) ∧ (env = [(3, .ptr (qm r_a1)), (10, .int .i64 (i_7 : Int))]) ∧ (σ = []) ∧ (i_7 ≤ r_a1.f4_Body.length) ∧ (qa5 kk2 (r_a1.f4_Body.drop i_7) = some res)) _ ⟨0, rfl, rfl, rfl, Nat.zero_le _, hr⟩ ?_)
      rintro n _ _ ⟨i_7, rfl, rfl, rfl, hi2, hr⟩ IH2
      rcases listStep r_a1.f4_Body i_7 hi2 with ⟨ht2, hd2, he2⟩ | ⟨q_16, ht2, hd2, hq2, hlt2⟩
      ·
       rw [hd2, qa5] at hr
       refine qh (qh (gr [.d, .d, .d, .d, .d] (r_d rfl rfl rfl (qb rfl rfl) (r_d rfl rfl rfl (qg rfl qec rfl rfl rfl rfl) (r_d rfl rfl rfl (qk rfl rfl (by exact qa4) rfl) (r_d rfl rfl rfl (qT (f := encG) r_a1.f4_Body rfl qY rfl (asl rfl)) (r_d rfl rfl rfl (qB rfl rfl rfl rfl) (qj (qC 74 false rfl ht2 (qs rfl (qaw rfl ?_)))))))))))
       refine qM [(3, .ptr (qm r_a1))] (Sub.cons' rfl (Sub.nil _)) ?_
       exact HK2 _ _ ⟨rfl, rfl, hr⟩
      ·
       rw [hd2, qa5] at hr
       refine qh (qh (gr [.d, .d, .d, .d, .d] (r_d rfl rfl rfl (qb rfl rfl) (r_d rfl rfl rfl (qg rfl qec rfl rfl rfl rfl) (r_d rfl rfl rfl (qk rfl rfl (by exact qa4) rfl) (r_d rfl rfl rfl (qT (f := encG) r_a1.f4_Body rfl qY rfl (asl rfl)) (r_d rfl rfl rfl (qB rfl rfl rfl rfl) (qj (qC 74 true rfl ht2 (qo rfl (qE ?_)))))))))))
       refine qh (q0 (qh (gr [.d, .d, .d, .d, .d, .d, .d] (r_d rfl rfl rfl (qg rfl qec rfl rfl rfl rfl) (r_d rfl rfl rfl (qk rfl rfl (by exact qa4) rfl) (r_d rfl rfl rfl (qb rfl rfl) (r_d rfl rfl rfl (qN (f := encG) r_a1.f4_Body rfl qY rfl (asl rfl) rfl hq2 qbi rfl) (r_d rfl rfl rfl (qg rfl qdo rfl rfl rfl rfl) (r_d rfl rfl rfl (qk rfl rfl (by exact qW) rfl) ?_)))))))))
       obtain ⟨r_17, hr_17, hr⟩ := bindS hr
       refine r_d rfl rfl rfl (qK rfl qij (.oc rfl .nil) (qiw _ _ hr_17)) (qj ?_)
       refine g_sB 83 rfl hr (fun h83_17 hr => ?_) (fun h83_17 hr => ?_)
       ·
        refine qo rfl (qh (gr [.d] (r_d rfl rfl rfl (qe rfl rfl) (qj ?_))))
        obtain rfl := Option.some.inj hr
        refine qJ Tryz.func217 _ (.cons (resTmp rfl (Wk.refl _)) .nil) ?_
        rfl
       ·
        refine qs rfl (qE (qF (gr [.d, .d, .d] (r_d rfl rfl rfl (qb rfl rfl) (r_d rfl rfl rfl (s_ar (r := ((i_7 + 1 : Nat) : Int)) rfl rfl rfl (by simp [iar]) (by omega)) (r_d rfl rfl rfl (qe rfl rfl) (qj (qM [(3, .ptr (qm r_a1)), (10, .int .i64 ((i_7 + 1 : Nat) : Int))] (Sub.cons' rfl (Sub.cons' rfl (Sub.nil _))) ?_))))))))
        exact IH2 _ _ _ (by omega) ⟨(i_7 + 1), rfl, rfl, rfl, (by omega), hr⟩
    ·
     refine qM [(3, .ptr (qm r_a1)), (9, .int .i64 ((0 : Nat) : Int))] (Sub.cons' rfl (Sub.cons' rfl (Sub.nil _))) (qaM (fun n env σ => ∃ (i_6 : Nat), (n = r_a1.f3_Guard.length - i_6) ∧ (env = [(3, .ptr (qm r_a1)), (9, .int .i64 (i_6 : Int))]) ∧ (σ = []) ∧ (i_6 ≤ r_a1.f3_Guard.length) ∧ (qaI kk1 (r_a1.f3_Guard.drop i_6) = some res)) _ ⟨0, rfl, rfl, rfl, Nat.zero_le _, hr⟩ ?_)
     rintro n _ _ ⟨i_6, rfl, rfl, rfl, hi1, hr⟩ IH1
     rcases listStep r_a1.f3_Guard i_6 hi1 with ⟨ht1, hd1, he1⟩ | ⟨q_19, ht1, hd1, hq1, hlt1⟩
     ·
      rw [hd1, qaI] at hr
      refine qh (qh (gr [.d, .d, .d, .d, .d] (r_d rfl rfl rfl (qb rfl rfl) (r_d rfl rfl rfl (qg rfl qdM rfl rfl rfl rfl) (r_d rfl rfl rfl (qk rfl rfl (by exact qa4) rfl) (r_d rfl rfl rfl (qT (f := encG) r_a1.f3_Guard rfl qY rfl (asl rfl)) (r_d rfl rfl rfl (qB rfl rfl rfl rfl) (qj (qC 50 false rfl ht1 (qs rfl (qaw rfl ?_)))))))))))
      refine qM [(3, .ptr (qm r_a1))] (Sub.cons' rfl (Sub.nil _)) ?_
      exact HK1 _ _ ⟨rfl, rfl, hr⟩
     ·
      rw [hd1, qaI] at hr
      refine qh (qh (gr [.d, .d, .d, .d, .d] (r_d rfl rfl rfl (qb rfl rfl) (r_d rfl rfl rfl (qg rfl qdM rfl rfl rfl rfl) (r_d rfl rfl rfl (qk rfl rfl (by exact qa4) rfl) (r_d rfl rfl rfl (qT (f := encG) r_a1.f3_Guard rfl qY rfl (asl rfl)) (r_d rfl rfl rfl (qB rfl rfl rfl rfl) (qj (qC 50 true rfl ht1 (qo rfl (qE ?_)))))))))))
      refine qh (q0 (qh (gr [.d, .d, .d, .d, .d, .d, .d, .d, .d, .d, .d, .d, .d, .d, .d, .d, .d] (r_d rfl rfl rfl (qg rfl qdM rfl rfl rfl rfl) (r_d rfl rfl rfl (qk rfl rfl (by exact qa4) rfl) (r_d rfl rfl rfl (qb rfl rfl) (r_d rfl rfl rfl (qN (f := encG) r_a1.f3_Guard rfl qY rfl (asl rfl) rfl hq1 qbi rfl) (r_d rfl rfl rfl (qg rfl qdo rfl rfl rfl rfl) (r_d rfl rfl rfl (qk rfl rfl (by exact qW) rfl) ?_)))))))))
      obtain ⟨r_20, hr_20, hr⟩ := bindS hr
      refine r_d rfl rfl rfl (qK rfl qij (.oc rfl .nil) (qiw _ _ hr_20)) (r_d rfl rfl rfl (qdO rfl rfl) (r_d rfl rfl rfl (qb rfl rfl) ?_))
      refine r_sB 61 rfl hr (fun h61_20 hr => ?_) (fun h61_20 hr => ?_)
      ·
       refine r_d rfl rfl rfl (qg rfl qdM rfl rfl rfl rfl) (r_d rfl rfl rfl (qk rfl rfl (by exact qa4) rfl) (r_d rfl rfl rfl (qb rfl rfl) (r_d rfl rfl rfl (qN (f := encG) r_a1.f3_Guard rfl qY rfl (asl rfl) rfl hq1 qbi rfl) (r_d rfl rfl rfl (qg rfl qdo rfl rfl rfl rfl) (r_d rfl rfl rfl (qk rfl rfl (by exact qW) rfl) (r_d rfl rfl rfl (qB rfl rfl rfl rfl) (r_d rfl rfl rfl (qy rfl rfl rfl) (qj ?_))))))))
       refine g_sB 69 rfl hr (fun h69_21 hr => ?_) (fun h69_21 hr => ?_)
       ·
        refine qo rfl (qh (gr [.d] (r_d rfl rfl rfl (qe rfl rfl) (qj ?_))))
        obtain rfl := Option.some.inj hr
        refine qJ Tryz.func217 _ (.cons (resTmp rfl (Wk.refl _)) .nil) ?_
        rfl
       ·
        refine qs rfl (qE (qF (gr [.d, .d, .d] (r_d rfl rfl rfl (qb rfl rfl) (r_d rfl rfl rfl (s_ar (r := ((i_6 + 1 : Nat) : Int)) rfl rfl rfl (by simp [iar]) (by omega)) (r_d rfl rfl rfl (qe rfl rfl) (qj (qM [(3, .ptr (qm r_a1)), (9, .int .i64 ((i_6 + 1 : Nat) : Int))] (Sub.cons' rfl (Sub.cons' rfl (Sub.nil _))) ?_))))))))
        exact IH1 _ _ _ (by omega) ⟨(i_6 + 1), rfl, rfl, rfl, (by omega), hr⟩
      ·
       refine qc rfl rfl rfl (qc rfl rfl rfl (qc rfl rfl rfl (qc rfl rfl rfl (qc rfl rfl rfl (qc rfl rfl rfl (qc rfl rfl rfl (r_d rfl rfl rfl (qD rfl rfl rfl) (qj (qs rfl (qE (qF ?_)))))))))))
       refine gr [.d, .d, .d] (r_d rfl rfl rfl (qb rfl rfl) (r_d rfl rfl rfl (s_ar (r := ((i_6 + 1 : Nat) : Int)) rfl rfl rfl (by simp [iar]) (by omega)) (r_d rfl rfl rfl (qe rfl rfl) (qj (qM [(3, .ptr (qm r_a1)), (9, .int .i64 ((i_6 + 1 : Nat) : Int))] (Sub.cons' rfl (Sub.cons' rfl (Sub.nil _))) ?_)))))
       exact IH1 _ _ _ (by omega) ⟨(i_6 + 1), rfl, rfl, rfl, (by omega), hr⟩
  ·
   refine qM [(0, .lst (decls_a0.map qt)), (3, .ptr (qm r_a1)), (5, .lst (r_1.map encA)), (6, .int .i64 ((0 : Nat) : Int))] (Sub.cons' rfl (Sub.cons' rfl (Sub.cons' rfl (Sub.cons' rfl (Sub.nil _))))) (qaM (fun n env σ => ∃ (i_2 : Nat), (n = r_1.length - i_2) ∧ (env = [(0, .lst (decls_a0.map qt)), (3, .ptr (qm r_a1)), (5, .lst (r_1.map encA)), (6, .int .i64 (i_2 : Int))]) ∧ (σ = []) ∧ (i_2 ≤ r_1.length) ∧ (qa6 kk0 decls_a0 (r_1.drop i_2) = some res)) _ ⟨0, rfl, rfl, rfl, Nat.zero_le _, hr⟩ ?_)
   rintro n _ _ ⟨i_2, rfl, rfl, rfl, hi0, hr⟩ IH0
   rcases listStep r_1 i_2 hi0 with ⟨ht0, hd0, he0⟩ | ⟨q_23, ht0, hd0, hq0, hlt0⟩
   ·
    rw [hd0, qa6] at hr
    refine qh (qh (gr [.d, .d, .d, .d] (r_d rfl rfl rfl (qb rfl rfl) (r_d rfl rfl rfl (qb rfl rfl) (r_d rfl rfl rfl (qT (f := encA) r_1 rfl qS rfl (asl rfl)) (r_d rfl rfl rfl (qB rfl rfl rfl rfl) (qj (qC 20 false rfl ht0 (qs rfl (qaw rfl (qM [(0, .lst (decls_a0.map qt)), (3, .ptr (qm r_a1))] (Sub.cons' rfl (Sub.cons' rfl (Sub.nil _))) ?_)))))))))))
    exact HK0 _ _ ⟨rfl, rfl, hr⟩
   ·
    rw [hd0, qa6] at hr
    refine qh (qh (gr [.d, .d, .d, .d] (r_d rfl rfl rfl (qb rfl rfl) (r_d rfl rfl rfl (qb rfl rfl) (r_d rfl rfl rfl (qT (f := encA) r_1 rfl qS rfl (asl rfl)) (r_d rfl rfl rfl (qB rfl rfl rfl rfl) (qj (qC 20 true rfl ht0 (qo rfl (qE (qh ?_)))))))))))
    refine q0 (qh (ga [(0, .d), (1, .d), (2, .d), (3, .d), (4, .d), (5, .d), (6, .d), (7, .d), (8, .d), (9, .d), (10, .d), (11, .d), (12, .d), (13, .d)] (r_d rfl rfl rfl (qb rfl rfl) (r_d rfl rfl rfl (qb rfl rfl) (r_d rfl rfl rfl (qb rfl rfl) (r_d rfl rfl rfl (qN (f := encA) r_1 rfl qS rfl (asl rfl) rfl hq0 qan rfl) (r_d rfl rfl rfl (qg rfl qgx rfl rfl rfl rfl) (r_d rfl rfl rfl (qk rfl rfl (by exact qdg) rfl) (r_d rfl rfl rfl (qb rfl rfl) (r_d rfl rfl rfl (qb rfl rfl) (r_d rfl rfl rfl (qN (f := encA) r_1 rfl qS rfl (asl rfl) rfl hq0 qan rfl) ?_)))))))))))
    refine r_d rfl rfl rfl (qg rfl qeb rfl rfl rfl rfl) (r_d rfl rfl rfl (qk rfl rfl (by exact qal) rfl) (r_d rfl rfl rfl (qT (f := encT) q_23.ts rfl qaj rfl (asl rfl)) ?_))
    obtain ⟨r_24, hr_24, hr⟩ := bindS hr
    refine r_d rfl rfl rfl (qK rfl qhf (.oc rfl (.oc rfl (.oc rfl .nil))) (qhe _ _ _ _ hr_24)) (r_d rfl rfl rfl (qe rfl rfl) (qj (qh (gr [.d, .d] (r_d rfl rfl rfl (qb rfl rfl) (r_d rfl rfl rfl (qB rfl rfl rfl rfl) (qj ?_)))))))
    refine g_sB 37 rfl hr (fun h37_24 hr => ?_) (fun h37_24 hr => ?_)
    ·
     refine qo rfl (qh (gr [.d, .d] (r_d rfl rfl rfl (qb rfl rfl) (r_d rfl rfl rfl (qe rfl rfl) (qj ?_)))))
     obtain rfl := Option.some.inj hr
     refine qJ Tryz.func217 _ (.cons (resTmp rfl (Wk.refl _)) .nil) ?_
     rfl
    ·
     refine qs rfl (qE (qF (gr [.d, .d, .d] (r_d rfl rfl rfl (qb rfl rfl) (r_d rfl rfl rfl (s_ar (r := ((i_2 + 1 : Nat) : Int)) rfl rfl rfl (by simp [iar]) (by omega)) (r_d rfl rfl rfl (qe rfl rfl) (qj (qM [(0, .lst (decls_a0.map qt)), (3, .ptr (qm r_a1)), (5, .lst (r_1.map encA)), (6, .int .i64 ((i_2 + 1 : Nat) : Int))] (Sub.cons' rfl (Sub.cons' rfl (Sub.cons' rfl (Sub.cons' rfl (Sub.nil _))))) ?_))))))))
     exact IH0 _ _ _ (by omega) ⟨(i_2 + 1), rfl, rfl, rfl, (by omega), hr⟩
noncomputable def qaP (k : Option (Int)) : List Int → Nat → Option (Int)
  | [], i_10 =>
  k
  | q_17 :: rest, i_10 =>
  (bif (q_17 != (i_10 : Int)) then
  some (2)
  else
  (qaP k rest (i_10 + 1)))
noncomputable def qaO (k : Option (Int)) : List Gl → Option (Int)
  | [] =>
  k
  | q_19 :: rest =>
  ((qlN q_19).bind fun r_20 =>
  (bif (!r_20) then
  some (2)
  else
  (qaO k rest)))
noncomputable def qaN (k : Option (Int)) : List At → Option (Int)
  | [] =>
  k
  | q_22 :: rest =>
  ((qi9 q_22).bind fun r_23 =>
  (bif (!r_23) then
  some (2)
  else
  (qaN k rest)))
noncomputable def qdl (fuel : Nat) (decls_a0 : (List S_api_Decl)) (r_a1 : qU) : Option (Int) :=
  ((qcs r_a1).bind fun r_1 =>
  ((qcX r_a1).bind fun r_2 =>
  (bif ((r_1.length : Int) == (0 : Int)) then
  some (6)
  else
  (bif (decide ((r_1.length : Int) > (4 : Int))) then
  some (6)
  else
  (bif (decide ((r_a1.f3_Guard.length : Int) > (12 : Int))) then
  some (6)
  else
  (bif (decide ((r_a1.f4_Body.length : Int) > (12 : Int))) then
  some (6)
  else
  (qaN ((qaO (((qeI fuel r_a1).bind fun r_9 =>
  (qaP ((bif (r_a1.f5_Vars != (r_9.length : Int)) then
  some (2)
  else
  (bif (!(r_a1.f0_Name.toList == (⟨#[]⟩ : ByteArray).toList)) then
  ((qmC r_a1.f0_Name).bind fun r_13 =>
  (bif (!r_13) then
  some (7)
  else
  ((qc8 fuel decls_a0 r_a1).bind fun r_15 =>
  some (r_15))))
  else
  ((qc8 fuel decls_a0 r_a1).bind fun r_16 =>
  some (r_16))))) r_9 0))) r_2)) r_1)))))))
set_option maxHeartbeats 1000000 in
theorem qi2 (fuel : Nat) (decls_a0 : (List S_api_Decl)) (r_a1 : qU) (res : Int) (hr : qdl fuel decls_a0 r_a1 = some res) : Gives Tryz.prog 171 [.lst (decls_a0.map qt), qm r_a1] (.int .i64 res) := by
  unfold qdl at hr
  refine qR [(0, .lst (decls_a0.map qt)), (1, qm r_a1)] Tryz.func171 rfl rfl fun K hK => (qh (gr [.d, .d] (r_d rfl rfl rfl (qef rfl rfl rfl) (r_d rfl rfl rfl (qe rfl rfl) (qj (qh (gr [.d, .d, .d] (r_d rfl rfl rfl (qk rfl rfl (by exact qbF) (qah _)) ?_))))))))
  obtain ⟨r_1, hr_1, hr⟩ := bindS hr
  refine r_d rfl rfl rfl (qK rfl qfg (.oc rfl .nil) (qfa _ _ hr_1)) (r_d rfl rfl rfl (qe rfl rfl) (qj (qh (gr [.d, .d, .d] (r_d rfl rfl rfl (qk rfl rfl (by exact qbF) (qah _)) ?_)))))
  obtain ⟨r_2, hr_2, hr⟩ := bindS hr
  refine r_d rfl rfl rfl (qK rfl qf6 (.oc rfl .nil) (qf4 _ _ hr_2)) (r_d rfl rfl rfl (qe rfl rfl) (qj (qh (qh (gr [.d, .d, .d, .d, .d, .d, .d, .d, .d, .d, .d, .d, .d, .d, .d, .d, .d, .d, .d, .d] (r_d rfl rfl rfl (qb rfl rfl) (r_d rfl rfl rfl (qT (f := encA) r_1 rfl qS rfl (asl rfl)) (r_d rfl rfl rfl (qB rfl rfl rfl rfl) (r_d rfl rfl rfl (qb rfl rfl) ?_)))))))))
  refine r_sB 18 rfl hr (fun h18_2 hr => ?_) (fun h18_2 hr => ?_)
  ·
   refine qc rfl rfl rfl (qc rfl rfl rfl (qc rfl rfl rfl (r_d rfl rfl rfl (qy rfl rfl rfl) (r_d rfl rfl rfl (qb rfl rfl) (qc rfl rfl rfl (qc rfl rfl rfl (qc rfl rfl rfl (qc rfl rfl rfl (r_d rfl rfl rfl (qy rfl rfl rfl) (r_d rfl rfl rfl (qb rfl rfl) (qc rfl rfl rfl ?_)))))))))))
   refine qc rfl rfl rfl (qc rfl rfl rfl (qc rfl rfl rfl (r_d rfl rfl rfl (qy rfl rfl rfl) (qj (qo rfl (qh (gr [.d] (r_d rfl rfl rfl (qe rfl rfl) (qj ?_)))))))))
   obtain rfl := Option.some.inj hr
   refine qJ Tryz.func171 _ (.cons (resTmp rfl (Wk.refl _)) .nil) ?_
   rfl
  ·
   refine r_d rfl rfl rfl (qb rfl rfl) (r_d rfl rfl rfl (qT (f := encA) r_1 rfl qS rfl (asl rfl)) (r_d rfl rfl rfl (qB rfl rfl rfl rfl) (r_d rfl rfl rfl (qD rfl rfl rfl) (r_d rfl rfl rfl (qb rfl rfl) ?_))))
   refine r_sB 23 rfl hr (fun h23_3 hr => ?_) (fun h23_3 hr => ?_)
   ·
    refine qc rfl rfl rfl (qc rfl rfl rfl (qc rfl rfl rfl (qc rfl rfl rfl (r_d rfl rfl rfl (qy rfl rfl rfl) (r_d rfl rfl rfl (qb rfl rfl) (qc rfl rfl rfl (qc rfl rfl rfl (qc rfl rfl rfl (qc rfl rfl rfl (r_d rfl rfl rfl (qy rfl rfl rfl) (qj ?_)))))))))))
    refine qo rfl (qh (gr [.d] (r_d rfl rfl rfl (qe rfl rfl) (qj ?_))))
    obtain rfl := Option.some.inj hr
    refine qJ Tryz.func171 _ (.cons (resTmp rfl (Wk.refl _)) .nil) ?_
    rfl
   ·
    refine r_d rfl rfl rfl (qg rfl qdM rfl rfl rfl rfl) (r_d rfl rfl rfl (qk rfl rfl (by exact qa4) rfl) (r_d rfl rfl rfl (qT (f := encG) r_a1.f3_Guard rfl qY rfl (asl rfl)) (r_d rfl rfl rfl (qB rfl rfl rfl rfl) (r_d rfl rfl rfl (qD rfl rfl rfl) (r_d rfl rfl rfl (qb rfl rfl) ?_)))))
    refine r_sB 29 rfl hr (fun h29_4 hr => ?_) (fun h29_4 hr => ?_)
    ·
     refine qc rfl rfl rfl (qc rfl rfl rfl (qc rfl rfl rfl (qc rfl rfl rfl (r_d rfl rfl rfl (qy rfl rfl rfl) (qj (qo rfl (qh (gr [.d] (r_d rfl rfl rfl (qe rfl rfl) (qj ?_))))))))))
     obtain rfl := Option.some.inj hr
     refine qJ Tryz.func171 _ (.cons (resTmp rfl (Wk.refl _)) .nil) ?_
     rfl
    ·
     refine r_d rfl rfl rfl (qg rfl qec rfl rfl rfl rfl) (r_d rfl rfl rfl (qk rfl rfl (by exact qa4) rfl) (r_d rfl rfl rfl (qT (f := encG) r_a1.f4_Body rfl qY rfl (asl rfl)) (r_d rfl rfl rfl (qB rfl rfl rfl rfl) (r_d rfl rfl rfl (qD rfl rfl rfl) (qj ?_)))))
     refine g_sB 34 rfl hr (fun h34_5 hr => ?_) (fun h34_5 hr => ?_)
     ·
      refine qo rfl (qh (gr [.d] (r_d rfl rfl rfl (qe rfl rfl) (qj ?_))))
      obtain rfl := Option.some.inj hr
      refine qJ Tryz.func171 _ (.cons (resTmp rfl (Wk.refl _)) .nil) ?_
      rfl
     ·
      refine qs rfl (qE (qh (qh (gr [.d] (r_d rfl rfl rfl (qe rfl rfl) (qj ?_))))))
      obtain ⟨kk0, hkk0, hr⟩ := exK (fun k => qaN k r_1) hr
      refine qdG 12 rfl (asl rfl) fun hla0 => ?_
      simp only [List.length_map] at hla0
      refine qV (fun env σ => env = [(0, .lst (decls_a0.map qt)), (3, .ptr (qm r_a1)), (6, .lst (r_2.map encG))] ∧ σ = [] ∧ kk0 = some res) ?_ (fun HK0 => ?_)
      ·
       rintro _ _ ⟨rfl, rfl, hr⟩
       rw [hkk0] at hr
       refine qh (qh (gr [.d] (r_d rfl rfl rfl (qe rfl rfl) (qj ?_))))
       obtain ⟨kk1, hkk1, hr⟩ := exK (fun k => qaO k r_2) hr
       refine qdG 6 rfl (asl rfl) fun hla1 => ?_
       simp only [List.length_map] at hla1
       refine qV (fun env σ => env = [(0, .lst (decls_a0.map qt)), (3, .ptr (qm r_a1))] ∧ σ = [] ∧ kk1 = some res) ?_ (fun HK1 => ?_)
       ·
        rintro _ _ ⟨rfl, rfl, hr⟩
        rw [hkk1] at hr
        refine qh (gr [.d, .d, .d] (r_d rfl rfl rfl (qk rfl rfl (by exact qbF) (qah _)) ?_))
        obtain ⟨r_9, hr_9, hr⟩ := bindS hr
        refine r_d rfl rfl rfl (qK rfl qk8 (.oc rfl .nil) (qk4 fuel _ _ hr_9)) (r_d rfl rfl rfl (qe rfl rfl) (qj (qh (qh (gr [.d] (r_d rfl rfl rfl (qe rfl rfl) (qj ?_)))))))
        obtain ⟨kk2, hkk2, hr⟩ := exK (fun k => qaP k r_9 0) hr
        refine qdG 60 rfl (asl rfl) fun hla2 => ?_
        simp only [List.length_map] at hla2
        refine qV (fun env σ => env = [(0, .lst (decls_a0.map qt)), (3, .ptr (qm r_a1)), (9, .lst (r_9.map (D.int .i64)))] ∧ σ = [] ∧ kk2 = some res) ?_ (fun HK2 => ?_)
        ·
         rintro _ _ ⟨rfl, rfl, hr⟩
         rw [hkk2] at hr
         refine qh (qh (gr [.d, .d, .d, .d, .d] (r_d rfl rfl rfl (qg rfl qk7 rfl rfl rfl rfl) (r_d rfl rfl rfl (qk rfl rfl (by exact qW) rfl) (r_d rfl rfl rfl (qb rfl rfl) (r_d rfl rfl rfl (qT (f := (D.int .i64)) r_9 rfl qH rfl (asl rfl)) (r_d rfl rfl rfl (qB rfl rfl rfl rfl) (qj ?_))))))))
         refine g_sB 77 rfl hr (fun h77_10 hr => ?_) (fun h77_10 hr => ?_)
         ·
          refine qo rfl (qh (gr [.d] (r_d rfl rfl rfl (qe rfl rfl) (qj ?_))))
          obtain rfl := Option.some.inj hr
          refine qJ Tryz.func171 _ (.cons (resTmp rfl (Wk.refl _)) .nil) ?_
          rfl
         ·
          refine qs rfl (qE (qh (qh (gr [.d, .d, .d, .d, .d, .d, .d, .d, .d] (r_d rfl rfl rfl (qg rfl qi0 rfl rfl rfl rfl) (r_d rfl rfl rfl (qk rfl rfl (by exact qdg) rfl) (r_d rfl rfl rfl (qnN rfl rfl rfl rfl) (r_d rfl rfl rfl (qb rfl rfl) ?_))))))))
          refine r_sB 81 rfl hr (fun h81_11 hr => ?_) (fun h81_11 hr => ?_)
          ·
           refine r_d rfl rfl rfl (qg rfl qi0 rfl rfl rfl rfl) (r_d rfl rfl rfl (qk rfl rfl (by exact qdg) rfl) ?_)
           obtain ⟨r_13, hr_13, hr⟩ := bindS hr
           refine r_d rfl rfl rfl (qK rfl qh5 (.oc rfl .nil) (qh9 _ _ hr_13)) (r_d rfl rfl rfl (qdO rfl rfl) (r_d rfl rfl rfl (qy rfl rfl rfl) (qj ?_)))
           refine g_sB 86 rfl hr (fun h86_13 hr => ?_) (fun h86_13 hr => ?_)
           ·
            refine qo rfl (qh (gr [.d] (r_d rfl rfl rfl (qe rfl rfl) (qj ?_))))
            obtain rfl := Option.some.inj hr
            refine qJ Tryz.func171 _ (.cons (resTmp rfl (Wk.refl _)) .nil) ?_
            rfl
           ·
            refine qs rfl (qE (qh (gr [.d, .d, .d, .d] (r_d rfl rfl rfl (qb rfl rfl) (r_d rfl rfl rfl (qk rfl rfl (by exact qbF) (qah _)) ?_)))))
            obtain ⟨r_15, hr_15, hr⟩ := bindS hr
            refine r_d rfl rfl rfl (qK rfl qhi (.oc rfl (.oc rfl .nil)) (qhh fuel _ _ _ hr_15)) (r_d rfl rfl rfl (qe rfl rfl) (qj ?_))
            obtain rfl := Option.some.inj hr
            refine qJ Tryz.func171 _ (.cons (resTmp rfl (Wk.refl _)) .nil) ?_
            rfl
          ·
           refine qc rfl rfl rfl (qc rfl rfl rfl (qc rfl rfl rfl (qc rfl rfl rfl (r_d rfl rfl rfl (qD rfl rfl rfl) (qj (qs rfl (qE (qh (gr [.d, .d, .d, .d] (r_d rfl rfl rfl (qb rfl rfl) (r_d rfl rfl rfl (qk rfl rfl (by exact qbF) (qah _)) ?_)))))))))))
           obtain ⟨r_16, hr_16, hr⟩ := bindS hr
           refine r_d rfl rfl rfl (qK rfl qhi (.oc rfl (.oc rfl .nil)) (qhh fuel _ _ _ hr_16)) (r_d rfl rfl rfl (qe rfl rfl) (qj ?_))
           obtain rfl := Option.some.inj hr
           refine qJ Tryz.func171 _ (.cons (resTmp rfl (Wk.refl _)) .nil) ?_
           rfl
        ·
         refine qM [(0, .lst (decls_a0.map qt)), (3, .ptr (qm r_a1)), (9, .lst (r_9.map (D.int .i64))), (10, .int .i64 ((0 : Nat) : Int))] (Sub.cons' rfl (Sub.cons' rfl (Sub.cons' rfl (Sub.cons' rfl (Sub.nil _))))) (qaM (fun n env σ => ∃ (i_10 : Nat), (n = r_9.length - i_10) ∧ (env = [(0, .lst (decls_a0.map qt)), (3, .ptr (qm r_a1)), (9, .lst (r_9.map (D.int .i64))), (10, .int .i64 (i_10 : Int))]) ∧ (σ = []) ∧ (i_10 ≤ r_9.length) ∧ (qaP kk2 (r_9.drop i_10) i_10 = some res)) _ ⟨0, rfl, rfl, rfl, Nat.zero_le _, hr⟩ ?_)
         rintro n _ _ ⟨i_10, rfl, rfl, rfl, hi2, hr⟩ IH2
         rcases listStep r_9 i_10 hi2 with ⟨ht2, hd2, he2⟩ | ⟨q_17, ht2, hd2, hq2, hlt2⟩
         ·
          rw [hd2, qaP] at hr
          refine qh (qh (gr [.d, .d, .d, .d] (r_d rfl rfl rfl (qb rfl rfl) (r_d rfl rfl rfl (qb rfl rfl) (r_d rfl rfl rfl (qT (f := (D.int .i64)) r_9 rfl qH rfl (asl rfl)) (r_d rfl rfl rfl (qB rfl rfl rfl rfl) (qj (qC 64 false rfl ht2 (qs rfl (qaw rfl (qM [(0, .lst (decls_a0.map qt)), (3, .ptr (qm r_a1)), (9, .lst (r_9.map (D.int .i64)))] (Sub.cons' rfl (Sub.cons' rfl (Sub.cons' rfl (Sub.nil _)))) ?_)))))))))))
          exact HK2 _ _ ⟨rfl, rfl, hr⟩
         ·
          rw [hd2, qaP] at hr
          refine qh (qh (gr [.d, .d, .d, .d] (r_d rfl rfl rfl (qb rfl rfl) (r_d rfl rfl rfl (qb rfl rfl) (r_d rfl rfl rfl (qT (f := (D.int .i64)) r_9 rfl qH rfl (asl rfl)) (r_d rfl rfl rfl (qB rfl rfl rfl rfl) (qj (qC 64 true rfl ht2 (qo rfl (qE (qh ?_)))))))))))
          refine q0 (qh (gr [.d, .d, .d, .d, .d, .d] (r_d rfl rfl rfl (qb rfl rfl) (r_d rfl rfl rfl (qb rfl rfl) (r_d rfl rfl rfl (qN (f := (D.int .i64)) r_9 rfl qH rfl (asl rfl) rfl hq2 (fun _ => rfl) rfl) (r_d rfl rfl rfl (qk rfl rfl (by exact qW) rfl) (r_d rfl rfl rfl (qb rfl rfl) (r_d rfl rfl rfl (qB rfl rfl rfl rfl) (qj ?_)))))))))
          refine g_sB 72 rfl hr (fun h72_17 hr => ?_) (fun h72_17 hr => ?_)
          ·
           refine qo rfl (qh (gr [.d] (r_d rfl rfl rfl (qe rfl rfl) (qj ?_))))
           obtain rfl := Option.some.inj hr
           refine qJ Tryz.func171 _ (.cons (resTmp rfl (Wk.refl _)) .nil) ?_
           rfl
          ·
           refine qs rfl (qE (qF (gr [.d, .d, .d] (r_d rfl rfl rfl (qb rfl rfl) (r_d rfl rfl rfl (s_ar (r := ((i_10 + 1 : Nat) : Int)) rfl rfl rfl (by simp [iar]) (by omega)) (r_d rfl rfl rfl (qe rfl rfl) (qj (qM [(0, .lst (decls_a0.map qt)), (3, .ptr (qm r_a1)), (9, .lst (r_9.map (D.int .i64))), (10, .int .i64 ((i_10 + 1 : Nat) : Int))] (Sub.cons' rfl (Sub.cons' rfl (Sub.cons' rfl (Sub.cons' rfl (Sub.nil _))))) ?_))))))))
           exact IH2 _ _ _ (by omega) ⟨(i_10 + 1), rfl, rfl, rfl, (by omega), hr⟩
       ·
        refine qM [(0, .lst (decls_a0.map qt)), (3, .ptr (qm r_a1)), (6, .lst (r_2.map encG)), (8, .int .i64 ((0 : Nat) : Int))] (Sub.cons' rfl (Sub.cons' rfl (Sub.cons' rfl (Sub.cons' rfl (Sub.nil _))))) (qaM (fun n env σ => ∃ (i_8 : Nat), (n = r_2.length - i_8) ∧ (env = [(0, .lst (decls_a0.map qt)), (3, .ptr (qm r_a1)), (6, .lst (r_2.map encG)), (8, .int .i64 (i_8 : Int))]) ∧ (σ = []) ∧ (i_8 ≤ r_2.length) ∧ (qaO kk1 (r_2.drop i_8) = some res)) _ ⟨0, rfl, rfl, rfl, Nat.zero_le _, hr⟩ ?_)
        rintro n _ _ ⟨i_8, rfl, rfl, rfl, hi1, hr⟩ IH1
        rcases listStep r_2 i_8 hi1 with ⟨ht1, hd1, he1⟩ | ⟨q_19, ht1, hd1, hq1, hlt1⟩
        ·
         rw [hd1, qaO] at hr
         refine qh (qh (gr [.d, .d, .d, .d] (r_d rfl rfl rfl (qb rfl rfl) (r_d rfl rfl rfl (qb rfl rfl) (r_d rfl rfl rfl (qT (f := encG) r_2 rfl qY rfl (asl rfl)) (r_d rfl rfl rfl (qB rfl rfl rfl rfl) (qj (qC 50 false rfl ht1 (qs rfl (qaw rfl (qM [(0, .lst (decls_a0.map qt)), (3, .ptr (qm r_a1))] (Sub.cons' rfl (Sub.cons' rfl (Sub.nil _))) ?_)))))))))))
         exact HK1 _ _ ⟨rfl, rfl, hr⟩
        ·
         rw [hd1, qaO] at hr
         refine qh (qh (gr [.d, .d, .d, .d] (r_d rfl rfl rfl (qb rfl rfl) (r_d rfl rfl rfl (qb rfl rfl) (r_d rfl rfl rfl (qT (f := encG) r_2 rfl qY rfl (asl rfl)) (r_d rfl rfl rfl (qB rfl rfl rfl rfl) (qj (qC 50 true rfl ht1 (qo rfl (qE (qh ?_)))))))))))
         refine q0 (qh (gr [.d, .d, .d, .d, .d, .d] (r_d rfl rfl rfl (qb rfl rfl) (r_d rfl rfl rfl (qb rfl rfl) (r_d rfl rfl rfl (qN (f := encG) r_2 rfl qY rfl (asl rfl) rfl hq1 qbi rfl) (r_d rfl rfl rfl (qk rfl rfl (by exact qdb) (qbi _)) ?_))))))
         obtain ⟨r_20, hr_20, hr⟩ := bindS hr
         refine r_d rfl rfl rfl (qK rfl qgM (.oc rfl .nil) (qgO _ _ hr_20)) (r_d rfl rfl rfl (qdO rfl rfl) (qj ?_))
         refine g_sB 58 rfl hr (fun h58_20 hr => ?_) (fun h58_20 hr => ?_)
         ·
          refine qo rfl (qh (gr [.d] (r_d rfl rfl rfl (qe rfl rfl) (qj ?_))))
          obtain rfl := Option.some.inj hr
          refine qJ Tryz.func171 _ (.cons (resTmp rfl (Wk.refl _)) .nil) ?_
          rfl
         ·
          refine qs rfl (qE (qF (gr [.d, .d, .d] (r_d rfl rfl rfl (qb rfl rfl) (r_d rfl rfl rfl (s_ar (r := ((i_8 + 1 : Nat) : Int)) rfl rfl rfl (by simp [iar]) (by omega)) (r_d rfl rfl rfl (qe rfl rfl) (qj (qM [(0, .lst (decls_a0.map qt)), (3, .ptr (qm r_a1)), (6, .lst (r_2.map encG)), (8, .int .i64 ((i_8 + 1 : Nat) : Int))] (Sub.cons' rfl (Sub.cons' rfl (Sub.cons' rfl (Sub.cons' rfl (Sub.nil _))))) ?_))))))))
          exact IH1 _ _ _ (by omega) ⟨(i_8 + 1), rfl, rfl, rfl, (by omega), hr⟩
      ·
       refine qM [(0, .lst (decls_a0.map qt)), (3, .ptr (qm r_a1)), (5, .lst (r_1.map encA)), (6, .lst (r_2.map encG)), (7, .int .i64 ((0 : Nat) : Int))] (Sub.cons' rfl (Sub.cons' rfl (Sub.cons' rfl (Sub.cons' rfl (Sub.cons' rfl (Sub.nil _)))))) (qaM (fun n env σ => ∃ (i_7 : Nat), (n = r_1.length - i_7) ∧ (env = [(0, .lst (decls_a0.map qt)), (3, .ptr (qm r_a1)), (5, .lst (r_1.map encA)), (6, .lst (r_2.map encG)), (7, .int .i64 (i_7 : Int))]) ∧ (σ = []) ∧ (i_7 ≤ r_1.length) ∧ (qaN kk0 (r_1.drop i_7) = some res)) _ ⟨0, rfl, rfl, rfl, Nat.zero_le _, hr⟩ ?_)
       rintro n _ _ ⟨i_7, rfl, rfl, rfl, hi0, hr⟩ IH0
       rcases listStep r_1 i_7 hi0 with ⟨ht0, hd0, he0⟩ | ⟨q_22, ht0, hd0, hq0, hlt0⟩
       ·
        rw [hd0, qaN] at hr
        refine qh (qh (gr [.d, .d, .d, .d] (r_d rfl rfl rfl (qb rfl rfl) (r_d rfl rfl rfl (qb rfl rfl) (r_d rfl rfl rfl (qT (f := encA) r_1 rfl qS rfl (asl rfl)) (r_d rfl rfl rfl (qB rfl rfl rfl rfl) (qj (qC 38 false rfl ht0 (qs rfl (qaw rfl (qM [(0, .lst (decls_a0.map qt)), (3, .ptr (qm r_a1)), (6, .lst (r_2.map encG))] (Sub.cons' rfl (Sub.cons' rfl (Sub.cons' rfl (Sub.nil _)))) ?_)))))))))))
        exact HK0 _ _ ⟨rfl, rfl, hr⟩
       ·
        rw [hd0, qaN] at hr
        refine qh (qh (gr [.d, .d, .d, .d] (r_d rfl rfl rfl (qb rfl rfl) (r_d rfl rfl rfl (qb rfl rfl) (r_d rfl rfl rfl (qT (f := encA) r_1 rfl qS rfl (asl rfl)) (r_d rfl rfl rfl (qB rfl rfl rfl rfl) (qj (qC 38 true rfl ht0 (qo rfl (qE (qh ?_)))))))))))
        refine q0 (qh (gr [.d, .d, .d, .d, .d, .d] (r_d rfl rfl rfl (qb rfl rfl) (r_d rfl rfl rfl (qb rfl rfl) (r_d rfl rfl rfl (qN (f := encA) r_1 rfl qS rfl (asl rfl) rfl hq0 qan rfl) (r_d rfl rfl rfl (qk rfl rfl (by exact qbQ) (qan _)) ?_))))))
        obtain ⟨r_23, hr_23, hr⟩ := bindS hr
        refine r_d rfl rfl rfl (qK rfl qdn (.oc rfl .nil) (qdp _ _ hr_23)) (r_d rfl rfl rfl (qdO rfl rfl) (qj ?_))
        refine g_sB 46 rfl hr (fun h46_23 hr => ?_) (fun h46_23 hr => ?_)
        ·
         refine qo rfl (qh (gr [.d] (r_d rfl rfl rfl (qe rfl rfl) (qj ?_))))
         obtain rfl := Option.some.inj hr
         refine qJ Tryz.func171 _ (.cons (resTmp rfl (Wk.refl _)) .nil) ?_
         rfl
        ·
         refine qs rfl (qE (qF (gr [.d, .d, .d] (r_d rfl rfl rfl (qb rfl rfl) (r_d rfl rfl rfl (s_ar (r := ((i_7 + 1 : Nat) : Int)) rfl rfl rfl (by simp [iar]) (by omega)) (r_d rfl rfl rfl (qe rfl rfl) (qj (qM [(0, .lst (decls_a0.map qt)), (3, .ptr (qm r_a1)), (5, .lst (r_1.map encA)), (6, .lst (r_2.map encG)), (7, .int .i64 ((i_7 + 1 : Nat) : Int))] (Sub.cons' rfl (Sub.cons' rfl (Sub.cons' rfl (Sub.cons' rfl (Sub.cons' rfl (Sub.nil _)))))) ?_))))))))
         exact IH0 _ _ _ (by omega) ⟨(i_7 + 1), rfl, rfl, rfl, (by omega), hr⟩
noncomputable def qbv (k : Option (Int × Int)) (fuel : Nat) (p_a0 : qI) : List qU → Nat → Option (Int × Int)
  | [], i_4 =>
  k
  | q_5 :: rest, i_4 =>
  ((qdl fuel p_a0.f0_Decls q_5).bind fun r_6 =>
  (bif (r_6 != (0 : Int)) then
  some ((i_4 : Int), r_6)
  else
  (qbv k fuel p_a0 rest (i_4 + 1))))
noncomputable def qbj (k : Option (Int × Int)) (p_a0 : qI) : List S_api_Decl → Nat → Option (Int × Int)
  | [], i_2 =>
  k
  | q_8 :: rest, i_2 =>
  ((qmC q_8.f0_Name).bind fun r_10 =>
  (bif (!r_10) then
  some ((-1), 7)
  else
  (bif (decide (q_8.f1_Arity < (0 : Int))) then
  some ((-1), 9)
  else
  (bif (decide (q_8.f1_Arity > (6 : Int))) then
  some ((-1), 9)
  else
  ((subO p_a0.f0_Decls 0 (i_2 : Int)).bind fun l_14 =>
  ((qaW l_14 q_8.f0_Name q_8.f1_Arity).bind fun r_15 =>
  (bif r_15 then
  some ((-1), 8)
  else
  (qbj k p_a0 rest (i_2 + 1)))))))))
noncomputable def qds (fuel : Nat) (p_a0 : qI) : Option (Int × Int) :=
  (bif (decide ((p_a0.f0_Decls.length : Int) > (30 : Int))) then
  some ((-1), 6)
  else
  (qbj ((bif (decide ((p_a0.f1_Rules.length : Int) > (40 : Int))) then
  some ((-1), 6)
  else
  (qbv (some (0, 0)) fuel p_a0 p_a0.f1_Rules 0))) p_a0 p_a0.f0_Decls 0))
set_option maxHeartbeats 1000000 in
theorem qie (fuel : Nat) (p_a0 : qI) (res : Int × Int) (hr : qds fuel p_a0 = some res) : Gives Tryz.prog 94 [qn p_a0] (.tup [.int .i64 res.1, .int .i64 res.2]) := by
  unfold qds at hr
  refine qR [(0, qn p_a0)] Tryz.func94 rfl rfl fun K hK => (qh (gr [.d, .d, .d] (r_d rfl rfl rfl (qef rfl rfl rfl) (r_d rfl rfl rfl (qe rfl rfl) (r_d rfl rfl rfl (qe rfl rfl) (qj (qh (qh (gr [.d, .d, .d, .d] (r_d rfl rfl rfl (qg rfl qce rfl rfl rfl rfl) (r_d rfl rfl rfl (qk rfl rfl (by exact qde) rfl) ?_)))))))))))
  refine r_d rfl rfl rfl (qT (f := qt) p_a0.f0_Decls rfl qbU rfl (asl rfl)) (r_d rfl rfl rfl (qB rfl rfl rfl rfl) (qj ?_))
  refine g_sB 11 rfl hr (fun h11_0 hr => ?_) (fun h11_0 hr => ?_)
  ·
   refine qo rfl (qh (gr [.d, .d] (r_d rfl rfl rfl (qe rfl rfl) (r_d rfl rfl rfl (qe rfl rfl) (qj ?_)))))
   obtain rfl := Option.some.inj hr
   refine qJ Tryz.func94 _ (.cons (resTmp rfl (Wk.refl _)) (.cons (resTmp rfl (Wk.refl _)) .nil)) ?_
   rfl
  ·
   refine qs rfl (qE (qh (qh (gr [.d] (r_d rfl rfl rfl (qe rfl rfl) (qj ?_))))))
   obtain ⟨kk0, hkk0, hr⟩ := exK (fun k => qbj k p_a0 p_a0.f0_Decls 0) hr
   refine qdG 9 rfl (asl rfl) fun hla0 => ?_
   simp only [List.length_map] at hla0
   refine qV (fun env σ => env = [(1, .ptr (qn p_a0))] ∧ σ = [] ∧ kk0 = some res) ?_ (fun HK0 => ?_)
   ·
    rintro _ _ ⟨rfl, rfl, hr⟩
    rw [hkk0] at hr
    refine qh (qh (gr [.d, .d, .d, .d] (r_d rfl rfl rfl (qg rfl qaJ rfl rfl rfl rfl) (r_d rfl rfl rfl (qk rfl rfl (by exact qbZ) rfl) (r_d rfl rfl rfl (qT (f := qm) p_a0.f1_Rules rfl qbe rfl (asl rfl)) (r_d rfl rfl rfl (qB rfl rfl rfl rfl) (qj ?_)))))))
    refine g_sB 51 rfl hr (fun h51_2 hr => ?_) (fun h51_2 hr => ?_)
    ·
     refine qo rfl (qh (gr [.d, .d] (r_d rfl rfl rfl (qe rfl rfl) (r_d rfl rfl rfl (qe rfl rfl) (qj ?_)))))
     obtain rfl := Option.some.inj hr
     refine qJ Tryz.func94 _ (.cons (resTmp rfl (Wk.refl _)) (.cons (resTmp rfl (Wk.refl _)) .nil)) ?_
     rfl
    ·
     refine qs rfl (qE (qh (qh (gr [.d] (r_d rfl rfl rfl (qe rfl rfl) (qj ?_))))))
     obtain ⟨kk1, hkk1, hr⟩ := exK (fun k => qbv k fuel p_a0 p_a0.f1_Rules 0) hr
     refine qdG 49 rfl (asl rfl) fun hla1 => ?_
     simp only [List.length_map] at hla1
     refine qV (fun env σ => env = [] ∧ σ = [] ∧ kk1 = some res) ?_ (fun HK1 => ?_)
     ·
      rintro _ _ ⟨rfl, rfl, hr⟩
      rw [hkk1] at hr
      refine qh (gr [.d, .d] (r_d rfl rfl rfl (qe rfl rfl) (r_d rfl rfl rfl (qe rfl rfl) (qj ?_))))
      obtain rfl := Option.some.inj hr
      refine qJ Tryz.func94 _ (.cons (resTmp rfl (Wk.refl _)) (.cons (resTmp rfl (Wk.refl _)) .nil)) ?_
      rfl
     ·
      refine qM [(1, .ptr (qn p_a0)), (6, .int .i64 ((0 : Nat) : Int))] (Sub.cons' rfl (Sub.cons' rfl (Sub.nil _))) (qaM (fun n env σ => ∃ (i_4 : Nat), (n = p_a0.f1_Rules.length - i_4) ∧ (env = [(1, .ptr (qn p_a0)), (6, .int .i64 (i_4 : Int))]) ∧ (σ = []) ∧ (i_4 ≤ p_a0.f1_Rules.length) ∧ (qbv kk1 fuel p_a0 (p_a0.f1_Rules.drop i_4) i_4 = some res)) _ ⟨0, rfl, rfl, rfl, Nat.zero_le _, hr⟩ ?_)
      rintro n _ _ ⟨i_4, rfl, rfl, rfl, hi1, hr⟩ IH1
      rcases listStep p_a0.f1_Rules i_4 hi1 with ⟨ht1, hd1, he1⟩ | ⟨q_5, ht1, hd1, hq1, hlt1⟩
      ·
       rw [hd1, qbv] at hr
       refine qh (qh (gr [.d, .d, .d, .d, .d] (r_d rfl rfl rfl (qb rfl rfl) (r_d rfl rfl rfl (qg rfl qaJ rfl rfl rfl rfl) (r_d rfl rfl rfl (qk rfl rfl (by exact qbZ) rfl) (r_d rfl rfl rfl (qT (f := qm) p_a0.f1_Rules rfl qbe rfl (asl rfl)) (r_d rfl rfl rfl (qB rfl rfl rfl rfl) (qj (qC 56 false rfl ht1 (qs rfl (qaw rfl ?_)))))))))))
       refine qM [] (Sub.nil _) ?_
       exact HK1 _ _ ⟨rfl, rfl, hr⟩
      ·
       rw [hd1, qbv] at hr
       refine qh (qh (gr [.d, .d, .d, .d, .d] (r_d rfl rfl rfl (qb rfl rfl) (r_d rfl rfl rfl (qg rfl qaJ rfl rfl rfl rfl) (r_d rfl rfl rfl (qk rfl rfl (by exact qbZ) rfl) (r_d rfl rfl rfl (qT (f := qm) p_a0.f1_Rules rfl qbe rfl (asl rfl)) (r_d rfl rfl rfl (qB rfl rfl rfl rfl) (qj (qC 56 true rfl ht1 (qo rfl (qE ?_)))))))))))
       refine qh (q0 (qh (ga [(0, .d), (1, .d), (2, .d), (3, .d), (4, .d), (5, .d), (6, .d), (7, .d), (8, .d)] (r_d rfl rfl rfl (qg rfl qce rfl rfl rfl rfl) (r_d rfl rfl rfl (qk rfl rfl (by exact qde) rfl) (r_d rfl rfl rfl (qg rfl qaJ rfl rfl rfl rfl) (r_d rfl rfl rfl (qk rfl rfl (by exact qbZ) rfl) (r_d rfl rfl rfl (qb rfl rfl) (r_d rfl rfl rfl (qN (f := qm) p_a0.f1_Rules rfl qbe rfl (asl rfl) rfl hq1 qah rfl) (r_d rfl rfl rfl (qk rfl rfl (by exact qbF) (qah _)) ?_))))))))))
       obtain ⟨r_6, hr_6, hr⟩ := bindS hr
       refine r_d rfl rfl rfl (qK rfl qjc (.oc rfl (.oc rfl .nil)) (qi2 fuel _ _ _ hr_6)) (r_d rfl rfl rfl (qe rfl rfl) (qj (qh (gr [.d, .d] (r_d rfl rfl rfl (qb rfl rfl) (r_d rfl rfl rfl (qB rfl rfl rfl rfl) (qj ?_)))))))
       refine g_sB 68 rfl hr (fun h68_6 hr => ?_) (fun h68_6 hr => ?_)
       ·
        refine qo rfl (qh (gr [.d, .d, .d, .d] (r_d rfl rfl rfl (qb rfl rfl) (r_d rfl rfl rfl (qb rfl rfl) (r_d rfl rfl rfl (qe rfl rfl) (r_d rfl rfl rfl (qe rfl rfl) (qj ?_)))))))
        obtain rfl := Option.some.inj hr
        refine qJ Tryz.func94 _ (.cons (resTmp rfl (Wk.refl _)) (.cons (resTmp rfl (Wk.refl _)) .nil)) ?_
        rfl
       ·
        refine qs rfl (qE (qF (gr [.d, .d, .d] (r_d rfl rfl rfl (qb rfl rfl) (r_d rfl rfl rfl (s_ar (r := ((i_4 + 1 : Nat) : Int)) rfl rfl rfl (by simp [iar]) (by omega)) (r_d rfl rfl rfl (qe rfl rfl) (qj (qM [(1, .ptr (qn p_a0)), (6, .int .i64 ((i_4 + 1 : Nat) : Int))] (Sub.cons' rfl (Sub.cons' rfl (Sub.nil _))) ?_))))))))
        exact IH1 _ _ _ (by omega) ⟨(i_4 + 1), rfl, rfl, rfl, (by omega), hr⟩
   ·
    refine qM [(1, .ptr (qn p_a0)), (4, .int .i64 ((0 : Nat) : Int))] (Sub.cons' rfl (Sub.cons' rfl (Sub.nil _))) (qaM (fun n env σ => ∃ (i_2 : Nat), (n = p_a0.f0_Decls.length - i_2) ∧ (env = [(1, .ptr (qn p_a0)), (4, .int .i64 (i_2 : Int))]) ∧ (σ = []) ∧ (i_2 ≤ p_a0.f0_Decls.length) ∧ (qbj kk0 p_a0 (p_a0.f0_Decls.drop i_2) i_2 = some res)) _ ⟨0, rfl, rfl, rfl, Nat.zero_le _, hr⟩ ?_)
    rintro n _ _ ⟨i_2, rfl, rfl, rfl, hi0, hr⟩ IH0
    rcases listStep p_a0.f0_Decls i_2 hi0 with ⟨ht0, hd0, he0⟩ | ⟨q_8, ht0, hd0, hq0, hlt0⟩
    ·
     rw [hd0, qbj] at hr
     refine qh (qh (gr [.d, .d, .d, .d, .d] (r_d rfl rfl rfl (qb rfl rfl) (r_d rfl rfl rfl (qg rfl qce rfl rfl rfl rfl) (r_d rfl rfl rfl (qk rfl rfl (by exact qde) rfl) (r_d rfl rfl rfl (qT (f := qt) p_a0.f0_Decls rfl qbU rfl (asl rfl)) (r_d rfl rfl rfl (qB rfl rfl rfl rfl) (qj (qC 16 false rfl ht0 (qs rfl (qaw rfl ?_)))))))))))
     refine qM [(1, .ptr (qn p_a0))] (Sub.cons' rfl (Sub.nil _)) ?_
     exact HK0 _ _ ⟨rfl, rfl, hr⟩
    ·
     rw [hd0, qbj] at hr
     refine qh (qh (gr [.d, .d, .d, .d, .d] (r_d rfl rfl rfl (qb rfl rfl) (r_d rfl rfl rfl (qg rfl qce rfl rfl rfl rfl) (r_d rfl rfl rfl (qk rfl rfl (by exact qde) rfl) (r_d rfl rfl rfl (qT (f := qt) p_a0.f0_Decls rfl qbU rfl (asl rfl)) (r_d rfl rfl rfl (qB rfl rfl rfl rfl) (qj (qC 16 true rfl ht0 (qo rfl (qE ?_)))))))))))
     refine qh (q0 (qh (gr [.d, .d, .d, .d, .d, .w, .w] (r_d rfl rfl rfl (qg rfl qce rfl rfl rfl rfl) (r_d rfl rfl rfl (qk rfl rfl (by exact qde) rfl) (r_d rfl rfl rfl (qb rfl rfl) (r_d rfl rfl rfl (qN (f := qt) p_a0.f0_Decls rfl qbU rfl (asl rfl) rfl hq0 qdf rfl) (r_d rfl rfl rfl (qk rfl rfl (by exact qhP) (qdf _)) (r_w rfl rfl rfl (qa8 rfl ql3) ?_)))))))))
     rintro _ _ ⟨b5_8, rfl, rfl⟩
     refine qbE rfl rfl rfl (qag _ rfl rfl rfl (Wk.refl _) (pf0 _) (by exact qhP) (qdf _) rfl rfl) (qj (qaT 5 b5_8 rfl (pf0 _) (q0 (qh (gr [.d, .d, .d, .d, .d] (r_d rfl rfl rfl (qg rfl qg7 rfl rfl rfl rfl) (r_d rfl rfl rfl (qk rfl rfl (by exact qdg) rfl) ?_)))))))
     obtain ⟨r_10, hr_10, hr⟩ := bindS hr
     refine r_d rfl rfl rfl (qK rfl qh5 (.oc rfl .nil) (qh9 _ _ hr_10)) (r_d rfl rfl rfl (qdO rfl rfl) (r_d rfl rfl rfl (qe rfl rfl) (qj ?_)))
     refine g_sB 24 rfl hr (fun h24_10 hr => ?_) (fun h24_10 hr => ?_)
     ·
      refine qo rfl (qh (gr [.d, .d] (r_d rfl rfl rfl (qe rfl rfl) (r_d rfl rfl rfl (qe rfl rfl) (qj ?_)))))
      obtain rfl := Option.some.inj hr
      refine qJ Tryz.func94 _ (.cons (resTmp rfl (Wk.refl _)) (.cons (resTmp rfl (Wk.refl _)) .nil)) ?_
      rfl
     ·
      refine qs rfl (qh (gr [.d, .d, .d, .d, .d, .d, .d, .d, .d] (r_d rfl rfl rfl (qg rfl qiq rfl rfl rfl rfl) (r_d rfl rfl rfl (qk rfl rfl (by exact qW) rfl) (r_d rfl rfl rfl (qB rfl rfl rfl rfl) (r_d rfl rfl rfl (qb rfl rfl) ?_))))))
      refine r_sB 33 rfl hr (fun h33_11 hr => ?_) (fun h33_11 hr => ?_)
      ·
       refine qc rfl rfl rfl (qc rfl rfl rfl (qc rfl rfl rfl (r_d rfl rfl rfl (qy rfl rfl rfl) (r_d rfl rfl rfl (qe rfl rfl) (qj (qo rfl (qh (gr [.d, .d] (r_d rfl rfl rfl (qe rfl rfl) (r_d rfl rfl rfl (qe rfl rfl) (qj ?_)))))))))))
       obtain rfl := Option.some.inj hr
       refine qJ Tryz.func94 _ (.cons (resTmp rfl (Wk.refl _)) (.cons (resTmp rfl (Wk.refl _)) .nil)) ?_
       rfl
      ·
       refine r_d rfl rfl rfl (qg rfl qiq rfl rfl rfl rfl) (r_d rfl rfl rfl (qk rfl rfl (by exact qW) rfl) (r_d rfl rfl rfl (qB rfl rfl rfl rfl) (r_d rfl rfl rfl (qD rfl rfl rfl) (r_d rfl rfl rfl (qe rfl rfl) (qj ?_)))))
       refine g_sB 29 rfl hr (fun h29_12 hr => ?_) (fun h29_12 hr => ?_)
       ·
        refine qo rfl (qh (gr [.d, .d] (r_d rfl rfl rfl (qe rfl rfl) (r_d rfl rfl rfl (qe rfl rfl) (qj ?_)))))
        obtain rfl := Option.some.inj hr
        refine qJ Tryz.func94 _ (.cons (resTmp rfl (Wk.refl _)) (.cons (resTmp rfl (Wk.refl _)) .nil)) ?_
        rfl
       ·
        refine qs rfl (qh (ga [(0, .d), (1, .d), (2, .d), (3, .d), (4, .d), (5, .d), (6, .d), (7, .d), (8, .d), (9, .d)] (r_d rfl rfl rfl (qg rfl qce rfl rfl rfl rfl) (r_d rfl rfl rfl (qk rfl rfl (by exact qde) rfl) (r_d rfl rfl rfl (qb rfl rfl) ?_)))))
        obtain ⟨l_14, hl_14, hr⟩ := bindS hr
        refine r_d rfl rfl rfl (qpV (f := qt) p_a0.f0_Decls 0 (i_2 : Int) rfl qbU rfl (asl rfl) qn2 (qnA rfl) qdf hl_14) (r_d rfl rfl rfl (qg rfl qg7 rfl rfl rfl rfl) (r_d rfl rfl rfl (qk rfl rfl (by exact qdg) rfl) (r_d rfl rfl rfl (qg rfl qiq rfl rfl rfl rfl) (r_d rfl rfl rfl (qk rfl rfl (by exact qW) rfl) ?_))))
        obtain ⟨r_15, hr_15, hr⟩ := bindS hr
        refine r_d rfl rfl rfl (qK rfl qcS (.oc rfl (.oc rfl (.oc rfl .nil))) (qcY _ _ _ _ hr_15)) (r_d rfl rfl rfl (qe rfl rfl) (qj ?_))
        refine g_sB 38 rfl hr (fun h38_15 hr => ?_) (fun h38_15 hr => ?_)
        ·
         refine qo rfl (qh (gr [.d, .d] (r_d rfl rfl rfl (qe rfl rfl) (r_d rfl rfl rfl (qe rfl rfl) (qj ?_)))))
         obtain rfl := Option.some.inj hr
         refine qJ Tryz.func94 _ (.cons (resTmp rfl (Wk.refl _)) (.cons (resTmp rfl (Wk.refl _)) .nil)) ?_
         rfl
        ·
         refine qs rfl (qE (qF (qF (gr [.d, .d, .d] (r_d rfl rfl rfl (qb rfl rfl) (r_d rfl rfl rfl (s_ar (r := ((i_2 + 1 : Nat) : Int)) rfl rfl rfl (by simp [iar]) (by omega)) (r_d rfl rfl rfl (qe rfl rfl) (qj (qM [(1, .ptr (qn p_a0)), (4, .int .i64 ((i_2 + 1 : Nat) : Int))] (Sub.cons' rfl (Sub.cons' rfl (Sub.nil _))) ?_)))))))))
         exact IH0 _ _ _ (by omega) ⟨(i_2 + 1), rfl, rfl, rfl, (by omega), hr⟩
noncomputable def qaE (k : Option (Bool)) (l_a0 : (List (Int × At))) : List (Int × At) → Nat → Option (Bool)
  | [], i_2 =>
  k
  | q_3 :: rest, i_2 =>
  (bif (decide (q_3.1 < (1 : Int))) then
  some (false)
  else
  (bif (decide ((i_2 : Int) > (0 : Int))) then
  ((getI l_a0 (wr ((i_2 : Int) - (1 : Int)))).bind fun q_6 =>
  (bif (decide (q_6.1 ≥ q_3.1)) then
  some (false)
  else
  ((qi9 q_3.2).bind fun r_8 =>
  (bif (!r_8) then
  some (false)
  else
  (qaE k l_a0 rest (i_2 + 1))))))
  else
  ((qi9 q_3.2).bind fun r_10 =>
  (bif (!r_10) then
  some (false)
  else
  (qaE k l_a0 rest (i_2 + 1))))))
noncomputable def qei (l_a0 : (List (Int × At))) : Option (Bool) :=
  (bif (decide ((l_a0.length : Int) > (500 : Int))) then
  some (false)
  else
  (qaE (some (true)) l_a0 l_a0 0))
set_option maxHeartbeats 1000000 in
theorem qj3 (l_a0 : (List (Int × At))) (res : Bool) (hr : qei l_a0 = some res) : Gives Tryz.prog 172 [.lst (l_a0.map encIt)] (.bool res) := by
  unfold qei at hr
  refine qR [(0, .lst (l_a0.map encIt))] Tryz.func172 rfl rfl fun K hK => (qh (gr [.d] (r_d rfl rfl rfl (qe rfl rfl) (qj (qh (qh (gr [.d, .d, .d] (r_d rfl rfl rfl (qb rfl rfl) (r_d rfl rfl rfl (qT (f := encIt) l_a0 rfl qa7 rfl (asl rfl)) (r_d rfl rfl rfl (qB rfl rfl rfl rfl) (qj ?_)))))))))))
  refine g_sB 6 rfl hr (fun h6_0 hr => ?_) (fun h6_0 hr => ?_)
  ·
   refine qo rfl (qh (gr [.d] (r_d rfl rfl rfl (qe rfl rfl) (qj ?_))))
   obtain rfl := Option.some.inj hr
   refine qJ Tryz.func172 _ (.cons (resTmp rfl (Wk.refl _)) .nil) ?_
   rfl
  ·
   refine qs rfl (qE (qh (qh (gr [.d] (r_d rfl rfl rfl (qe rfl rfl) (qj ?_))))))
   obtain ⟨kk0, hkk0, hr⟩ := exK (fun k => qaE k l_a0 l_a0 0) hr
   refine qdG 0 rfl (asl rfl) fun hla0 => ?_
   simp only [List.length_map] at hla0
   refine qV (fun env σ => env = [] ∧ σ = [] ∧ kk0 = some res) ?_ (fun HK0 => ?_)
   ·
    rintro _ _ ⟨rfl, rfl, hr⟩
    rw [hkk0] at hr
    refine qh (gr [.d] (r_d rfl rfl rfl (qe rfl rfl) (qj ?_)))
    obtain rfl := Option.some.inj hr
    refine qJ Tryz.func172 _ (.cons (resTmp rfl (Wk.refl _)) .nil) ?_
    rfl
   ·
    refine qM [(0, .lst (l_a0.map encIt)), (3, .int .i64 ((0 : Nat) : Int))] (Sub.cons' rfl (Sub.cons' rfl (Sub.nil _))) (qaM (fun n env σ => ∃ (i_2 : Nat), (n = l_a0.length - i_2) ∧ (env = [(0, .lst (l_a0.map encIt)), (3, .int .i64 (i_2 : Int))]) ∧ (σ = []) ∧ (i_2 ≤ l_a0.length) ∧ (qaE kk0 l_a0 (l_a0.drop i_2) i_2 = some res)) _ ⟨0, rfl, rfl, rfl, Nat.zero_le _, hr⟩ ?_)
    rintro n _ _ ⟨i_2, rfl, rfl, rfl, hi0, hr⟩ IH0
    rcases listStep l_a0 i_2 hi0 with ⟨ht0, hd0, he0⟩ | ⟨q_3, ht0, hd0, hq0, hlt0⟩
    ·
     rw [hd0, qaE] at hr
     refine qh (qh (gr [.d, .d, .d, .d] (r_d rfl rfl rfl (qb rfl rfl) (r_d rfl rfl rfl (qb rfl rfl) (r_d rfl rfl rfl (qT (f := encIt) l_a0 rfl qa7 rfl (asl rfl)) (r_d rfl rfl rfl (qB rfl rfl rfl rfl) (qj (qC 10 false rfl ht0 (qs rfl (qaw rfl (qM [] (Sub.nil _) ?_)))))))))))
     exact HK0 _ _ ⟨rfl, rfl, hr⟩
    ·
     rw [hd0, qaE] at hr
     refine qh (qh (gr [.d, .d, .d, .d] (r_d rfl rfl rfl (qb rfl rfl) (r_d rfl rfl rfl (qb rfl rfl) (r_d rfl rfl rfl (qT (f := encIt) l_a0 rfl qa7 rfl (asl rfl)) (r_d rfl rfl rfl (qB rfl rfl rfl rfl) (qj (qC 10 true rfl ht0 (qo rfl (qE (qh ?_)))))))))))
     refine q0 (qh (ga [(0, .d), (1, .d), (2, .d), (3, .d), (4, .d), (5, .d), (6, .d), (7, .d), (8, .d), (9, .d), (10, .d), (11, .d), (12, .d), (13, .d), (14, .d), (15, .d), (16, .d), (17, .d), (18, .d), (19, .d), (20, .d), (21, .d), (22, .d), (23, .d), (24, .d), (25, .d), (26, .d), (27, .d), (28, .d), (29, .d), (30, .d), (31, .d), (32, .d)] (r_d rfl rfl rfl (qb rfl rfl) (r_d rfl rfl rfl (qb rfl rfl) (r_d rfl rfl rfl (qN (f := encIt) l_a0 rfl qa7 rfl (asl rfl) rfl hq0 qfW rfl) (r_d rfl rfl rfl (qg rfl qg8 rfl rfl rfl rfl) (r_d rfl rfl rfl (qk rfl rfl (by exact qW) rfl) (r_d rfl rfl rfl (qB rfl rfl rfl rfl) (r_d rfl rfl rfl (qb rfl rfl) ?_)))))))))
     refine r_sB 19 rfl hr (fun h19_3 hr => ?_) (fun h19_3 hr => ?_)
     ·
      refine qc rfl rfl rfl (qc rfl rfl rfl (qc rfl rfl rfl (qc rfl rfl rfl (qc rfl rfl rfl (qc rfl rfl rfl (qc rfl rfl rfl (qc rfl rfl rfl (qc rfl rfl rfl (qc rfl rfl rfl (qc rfl rfl rfl (qc rfl rfl rfl ?_)))))))))))
      refine qc rfl rfl rfl (qc rfl rfl rfl (qc rfl rfl rfl (qc rfl rfl rfl (r_d rfl rfl rfl (qy rfl rfl rfl) (r_d rfl rfl rfl (qb rfl rfl) (qc rfl rfl rfl (qc rfl rfl rfl (qc rfl rfl rfl (qc rfl rfl rfl (qc rfl rfl rfl (qc rfl rfl rfl ?_)))))))))))
      refine qc rfl rfl rfl (r_d rfl rfl rfl (qy rfl rfl rfl) (qj (qo rfl (qh (gr [.d] (r_d rfl rfl rfl (qe rfl rfl) (qj ?_)))))))
      obtain rfl := Option.some.inj hr
      refine qJ Tryz.func172 _ (.cons (resTmp rfl (Wk.refl _)) .nil) ?_
      rfl
     ·
      refine r_d rfl rfl rfl (qb rfl rfl) (r_d rfl rfl rfl (qB rfl rfl rfl rfl) (r_d rfl rfl rfl (qb rfl rfl) ?_))
      refine r_sB 22 rfl hr (fun h22_4 hr => ?_) (fun h22_4 hr => ?_)
      ·
       refine r_d rfl rfl rfl (qb rfl rfl) (r_d rfl rfl rfl (qb rfl rfl) (r_d rfl rfl rfl (qkF rfl rfl rfl rfl) ?_))
       obtain ⟨q_6, hq_6, hr⟩ := bindS hr
       refine r_d rfl rfl rfl (qN (f := encIt) l_a0 rfl qa7 rfl (asl rfl) rfl hq_6 qfW rfl) (r_d rfl rfl rfl (qg rfl qg8 rfl rfl rfl rfl) (r_d rfl rfl rfl (qk rfl rfl (by exact qW) rfl) (r_d rfl rfl rfl (qb rfl rfl) (r_d rfl rfl rfl (qb rfl rfl) (r_d rfl rfl rfl (qN (f := encIt) l_a0 rfl qa7 rfl (asl rfl) rfl hq0 qfW rfl) (r_d rfl rfl rfl (qg rfl qg8 rfl rfl rfl rfl) (r_d rfl rfl rfl (qk rfl rfl (by exact qW) rfl) (r_d rfl rfl rfl (qB rfl rfl rfl rfl) (r_d rfl rfl rfl (qy rfl rfl rfl) (r_d rfl rfl rfl (qD rfl rfl rfl) (r_d rfl rfl rfl (qb rfl rfl) ?_)))))))))))
       refine r_sB 37 rfl hr (fun h37_6 hr => ?_) (fun h37_6 hr => ?_)
       ·
        refine qc rfl rfl rfl (qc rfl rfl rfl (qc rfl rfl rfl (qc rfl rfl rfl (qc rfl rfl rfl (qc rfl rfl rfl (qc rfl rfl rfl (r_d rfl rfl rfl (qy rfl rfl rfl) (qj (qo rfl (qh (gr [.d] ?_)))))))))))
        refine r_d rfl rfl rfl (qe rfl rfl) (qj ?_)
        obtain rfl := Option.some.inj hr
        refine qJ Tryz.func172 _ (.cons (resTmp rfl (Wk.refl _)) .nil) ?_
        rfl
       ·
        refine r_d rfl rfl rfl (qb rfl rfl) (r_d rfl rfl rfl (qb rfl rfl) (r_d rfl rfl rfl (qN (f := encIt) l_a0 rfl qa7 rfl (asl rfl) rfl hq0 qfW rfl) (r_d rfl rfl rfl (qg rfl qg6 rfl rfl rfl rfl) (r_d rfl rfl rfl (qk rfl rfl (by exact qbQ) (qan _)) ?_))))
        obtain ⟨r_8, hr_8, hr⟩ := bindS hr
        refine r_d rfl rfl rfl (qK rfl qdn (.oc rfl .nil) (qdp _ _ hr_8)) (r_d rfl rfl rfl (qdO rfl rfl) (r_d rfl rfl rfl (qD rfl rfl rfl) (qj ?_)))
        refine g_sB 45 rfl hr (fun h45_8 hr => ?_) (fun h45_8 hr => ?_)
        ·
         refine qo rfl (qh (gr [.d] (r_d rfl rfl rfl (qe rfl rfl) (qj ?_))))
         obtain rfl := Option.some.inj hr
         refine qJ Tryz.func172 _ (.cons (resTmp rfl (Wk.refl _)) .nil) ?_
         rfl
        ·
         refine qs rfl (qE (qF (gr [.d, .d, .d] (r_d rfl rfl rfl (qb rfl rfl) (r_d rfl rfl rfl (s_ar (r := ((i_2 + 1 : Nat) : Int)) rfl rfl rfl (by simp [iar]) (by omega)) (r_d rfl rfl rfl (qe rfl rfl) (qj (qM [(0, .lst (l_a0.map encIt)), (3, .int .i64 ((i_2 + 1 : Nat) : Int))] (Sub.cons' rfl (Sub.cons' rfl (Sub.nil _))) ?_))))))))
         exact IH0 _ _ _ (by omega) ⟨(i_2 + 1), rfl, rfl, rfl, (by omega), hr⟩
      ·
       refine qc rfl rfl rfl (qc rfl rfl rfl (qc rfl rfl rfl (qc rfl rfl rfl (qc rfl rfl rfl (qc rfl rfl rfl (qc rfl rfl rfl (qc rfl rfl rfl (qc rfl rfl rfl (qc rfl rfl rfl (qc rfl rfl rfl (qc rfl rfl rfl ?_)))))))))))
       refine r_d rfl rfl rfl (qD rfl rfl rfl) (r_d rfl rfl rfl (qD rfl rfl rfl) (r_d rfl rfl rfl (qb rfl rfl) (r_d rfl rfl rfl (qb rfl rfl) (r_d rfl rfl rfl (qb rfl rfl) (r_d rfl rfl rfl (qN (f := encIt) l_a0 rfl qa7 rfl (asl rfl) rfl hq0 qfW rfl) (r_d rfl rfl rfl (qg rfl qg6 rfl rfl rfl rfl) (r_d rfl rfl rfl (qk rfl rfl (by exact qbQ) (qan _)) ?_)))))))
       obtain ⟨r_10, hr_10, hr⟩ := bindS hr
       refine r_d rfl rfl rfl (qK rfl qdn (.oc rfl .nil) (qdp _ _ hr_10)) (r_d rfl rfl rfl (qdO rfl rfl) (r_d rfl rfl rfl (qD rfl rfl rfl) (qj ?_)))
       refine g_sB 45 rfl hr (fun h45_10 hr => ?_) (fun h45_10 hr => ?_)
       ·
        refine qo rfl (qh (gr [.d] (r_d rfl rfl rfl (qe rfl rfl) (qj ?_))))
        obtain rfl := Option.some.inj hr
        refine qJ Tryz.func172 _ (.cons (resTmp rfl (Wk.refl _)) .nil) ?_
        rfl
       ·
        refine qs rfl (qE (qF (gr [.d, .d, .d] (r_d rfl rfl rfl (qb rfl rfl) (r_d rfl rfl rfl (s_ar (r := ((i_2 + 1 : Nat) : Int)) rfl rfl rfl (by simp [iar]) (by omega)) (r_d rfl rfl rfl (qe rfl rfl) (qj (qM [(0, .lst (l_a0.map encIt)), (3, .int .i64 ((i_2 + 1 : Nat) : Int))] (Sub.cons' rfl (Sub.cons' rfl (Sub.nil _))) ?_))))))))
        exact IH0 _ _ _ (by omega) ⟨(i_2 + 1), rfl, rfl, rfl, (by omega), hr⟩
noncomputable def qb0 (fuel : Nat) (t_a0 : T) : Option ((List Int)) :=
  ((qcf fuel [] t_a0).bind fun r_1 =>
  some (r_1))
set_option maxHeartbeats 1000000 in
theorem qfo (fuel : Nat) (t_a0 : T) (res : (List Int)) (hr : qb0 fuel t_a0 = some res) : Gives Tryz.prog 177 [encT t_a0] (.lst (res.map (D.int .i64))) := by
  unfold qb0 at hr
  refine qR [(0, encT t_a0)] Tryz.func177 rfl rfl fun K hK => (qh (gr [.d, .d] (r_d rfl rfl rfl (qef rfl rfl rfl) (r_d rfl rfl rfl (qe rfl rfl) (qj (qh (qt3 3 1 (gr [.d, .w, .d] (r_d rfl rfl rfl (qk rfl rfl (by exact qav) (qck _)) ?_)))))))))
  obtain ⟨r_1, hr_1, hr⟩ := bindS hr
  refine r_w rfl rfl rfl (qac _ rfl qgu (.consN (.oc rfl .nil)) (by exact (pf0 _)) (qfO fuel _ _ _ _ hr_1)) ?_
  rintro _ _ ⟨_, ⟨u4_1, rfl, rfl⟩, rfl⟩
  refine r_st ((.row u4_1 r_1.length 3 1) :: _) rfl (r_d rfl rfl rfl (qe rfl rfl) (qj ?_))
  obtain rfl := Option.some.inj hr
  refine qJ Tryz.func177 _ (.cons (resTmp rfl (Wk.own _ _)) .nil) ?_
  rfl
noncomputable def qa9 (k : Option (T × Bool)) (v_a1 : Int) : List (Int × T) → Option (T × Bool)
  | [] =>
  k
  | q_3 :: rest =>
  (bif (q_3.1 == v_a1) then
  some (q_3.2, true)
  else
  (qa9 k v_a1 rest))
noncomputable def qd8 (b_a0 : (List (Int × T))) (v_a1 : Int) : Option (T × Bool) :=
  (qa9 (some ((T.mk 0 0 ⟨#[]⟩ []), false)) v_a1 b_a0)
set_option maxHeartbeats 1000000 in
theorem qhx (b_a0 : (List (Int × T))) (v_a1 : Int) (res : T × Bool) (hr : qd8 b_a0 v_a1 = some res) : Gives Tryz.prog 220 [.lst (b_a0.map encP), .int .i64 v_a1] (.tup [encT res.1, .bool res.2]) := by
  unfold qd8 at hr
  refine qR [(0, .lst (b_a0.map encP)), (1, .int .i64 v_a1)] Tryz.func220 rfl rfl fun K hK => (qh (gr [.w, .d] (r_w rfl rfl rfl (qa8 rfl qhO) ?_)))
  rintro _ _ ⟨b4_0, rfl, rfl⟩
  refine r_d rfl rfl rfl (qe rfl rfl) (qj (qh (qh (gr [.d] (r_d rfl rfl rfl (qe rfl rfl) (qj ?_))))))
  obtain ⟨kk0, hkk0, hr⟩ := exK (fun k => qa9 k v_a1 b_a0) hr
  refine qdG 0 rfl (asl rfl) fun hla0 => ?_
  simp only [List.length_map] at hla0
  refine qV (fun env σ => env = [(4, .ref b4_0 0 [])] ∧ σ = [.cell b4_0 (.agg [.int .i64 0, .int .i64 0, .str ⟨#[]⟩, .lst ([].map encT)])] ∧ kk0 = some res) ?_ (fun HK0 => ?_)
  ·
   rintro _ _ ⟨rfl, rfl, hr⟩
   rw [hkk0] at hr
   refine qh (gr [.d, .w, .d] (r_d rfl rfl rfl (qeB rfl ql7 .nil (.nil _)) (qbE rfl rfl rfl (qag _ rfl rfl rfl (Wk.refl _) (pf0 _) (by exact qav) rfl rfl rfl) (r_d rfl rfl rfl (qe rfl rfl) (qj ?_)))))
   obtain rfl := Option.some.inj hr
   refine qJ Tryz.func220 _ (.cons (resRef rfl (.head _) (by exact qav) rfl (Wk.refl _)) (.cons (resTmp rfl (Wk.refl _)) .nil)) ?_
   first | rfl | simp [packD, encT, qiZ, T.k, T.i, T.s, T.ar]
  ·
   refine qM [(0, .lst (b_a0.map encP)), (1, .int .i64 v_a1), (4, .ref b4_0 0 []), (6, .int .i64 ((0 : Nat) : Int))] (Sub.cons' rfl (Sub.cons' rfl (Sub.cons' rfl (Sub.cons' rfl (Sub.nil _))))) (qaM (fun n env σ => ∃ (i_2 : Nat), (n = b_a0.length - i_2) ∧ (env = [(0, .lst (b_a0.map encP)), (1, .int .i64 v_a1), (4, .ref b4_0 0 []), (6, .int .i64 (i_2 : Int))]) ∧ (σ = [.cell b4_0 (.agg [.int .i64 0, .int .i64 0, .str ⟨#[]⟩, .lst ([].map encT)])]) ∧ (i_2 ≤ b_a0.length) ∧ (qa9 kk0 v_a1 (b_a0.drop i_2) = some res)) _ ⟨0, rfl, rfl, rfl, Nat.zero_le _, hr⟩ ?_)
   rintro n _ _ ⟨i_2, rfl, rfl, rfl, hi0, hr⟩ IH0
   rcases listStep b_a0 i_2 hi0 with ⟨ht0, hd0, he0⟩ | ⟨q_3, ht0, hd0, hq0, hlt0⟩
   ·
    rw [hd0, qa9] at hr
    refine qh (qh (gr [.d, .d, .d, .d] (r_d rfl rfl rfl (qb rfl rfl) (r_d rfl rfl rfl (qb rfl rfl) (r_d rfl rfl rfl (qT (f := encP) b_a0 rfl qb7 rfl (asl rfl)) (r_d rfl rfl rfl (qB rfl rfl rfl rfl) (qj (qC 10 false rfl ht0 (qs rfl (qaw rfl (qM [(4, .ref b4_0 0 [])] (Sub.cons' rfl (Sub.nil _)) ?_)))))))))))
    exact HK0 _ _ ⟨rfl, rfl, hr⟩
   ·
    rw [hd0, qa9] at hr
    refine qh (qh (gr [.d, .d, .d, .d] (r_d rfl rfl rfl (qb rfl rfl) (r_d rfl rfl rfl (qb rfl rfl) (r_d rfl rfl rfl (qT (f := encP) b_a0 rfl qb7 rfl (asl rfl)) (r_d rfl rfl rfl (qB rfl rfl rfl rfl) (qj (qC 10 true rfl ht0 (qo rfl (qE (qh ?_)))))))))))
    refine q0 (qh (gr [.d, .d, .d, .d, .d, .d, .d] (r_d rfl rfl rfl (qb rfl rfl) (r_d rfl rfl rfl (qb rfl rfl) (r_d rfl rfl rfl (qN (f := encP) b_a0 rfl qb7 rfl (asl rfl) rfl hq0 qgK rfl) (r_d rfl rfl rfl (qg rfl qgp rfl rfl rfl rfl) (r_d rfl rfl rfl (qk rfl rfl (by exact qW) rfl) (r_d rfl rfl rfl (qb rfl rfl) (r_d rfl rfl rfl (qB rfl rfl rfl rfl) (qj ?_))))))))))
    refine g_sB 19 rfl hr (fun h19_3 hr => ?_) (fun h19_3 hr => ?_)
    ·
     refine qo rfl (qh (gr [.d, .d, .d, .d, .d, .w, .d] (r_d rfl rfl rfl (qb rfl rfl) (r_d rfl rfl rfl (qb rfl rfl) (r_d rfl rfl rfl (qN (f := encP) b_a0 rfl qb7 rfl (asl rfl) rfl hq0 qgK rfl) (r_d rfl rfl rfl (qg rfl qfu rfl rfl rfl rfl) (r_d rfl rfl rfl (qk rfl rfl (by exact qav) (qck _)) (qbE rfl rfl rfl (qag _ rfl rfl rfl (Wk.refl _) (pf0 _) (by exact qav) (qck _) rfl rfl) (r_d rfl rfl rfl (qe rfl rfl) (qj ?_))))))))))
     obtain rfl := Option.some.inj hr
     refine qJ Tryz.func220 _ (.cons (resRef rfl (.head _) (by exact qav) (qck _) (Wk.refl _)) (.cons (resTmp rfl (Wk.refl _)) .nil)) ?_
     rfl
    ·
     refine qs rfl (qE (qF (gr [.d, .d, .d] (r_d rfl rfl rfl (qb rfl rfl) (r_d rfl rfl rfl (s_ar (r := ((i_2 + 1 : Nat) : Int)) rfl rfl rfl (by simp [iar]) (by omega)) (r_d rfl rfl rfl (qe rfl rfl) (qj (qM [(0, .lst (b_a0.map encP)), (1, .int .i64 v_a1), (4, .ref b4_0 0 []), (6, .int .i64 ((i_2 + 1 : Nat) : Int))] (Sub.cons' rfl (Sub.cons' rfl (Sub.cons' rfl (Sub.cons' rfl (Sub.nil _))))) ?_))))))))
     exact IH0 _ _ _ (by omega) ⟨(i_2 + 1), rfl, rfl, rfl, (by omega), hr⟩
noncomputable def qbC (k : Option (Bool)) (b_a0 : (List (Int × T))) : List Int → Option (Bool)
  | [] =>
  k
  | q_5 :: rest =>
  ((qd8 b_a0 q_5).bind fun r_6 =>
  (bif r_6.2 then
  some (false)
  else
  (qbC k b_a0 rest)))
noncomputable def qbt (k : Option (Bool)) (b_a0 : (List (Int × T))) (fuel : Nat) : List (Int × T) → Option (Bool)
  | [] =>
  k
  | q_2 :: rest =>
  ((qb0 fuel q_2.2).bind fun r_3 =>
  (qbC ((qbt k b_a0 fuel rest)) b_a0 r_3))
noncomputable def qff (fuel : Nat) (b_a0 : (List (Int × T))) : Option (Bool) :=
  (qbt (some (true)) b_a0 fuel b_a0)
end Go.Proofs.YtdoljfkjdfaakaaGreat
