/-
  Texts of the seat, merged.
-/
import Derived.Test.YtdoljfkjdfaakaaGreatLSA
import Derived.Test.YtdoljfkjdfaakaaGreatLSB
import Derived.Test.YtdoljfkjdfaakaaGreatLSC
import Derived.Test.YtdoljfkjdfaakaaGreatChecked
import Derived.WalkKit
import Derived.Lib.Hide
import Derived.Lib.AppendStr
import Derived.Deep.AppendLies
import Derived.Deep.AppendSrc
import Derived.Deep.Draws
import Derived.Deep.QuietTactic
import Derived.BigQuiet
import Derived.Deep.RegionWith
import Derived.Maps.AppendAt
import Derived.WalkSpells
import Derived.Orders
import Derived.Deep.Slices
import Derived.Deep.Fields
import Derived.ChangeArms
import Derived.Lib.OthersKept
import Derived.Lib.TrimU
import Derived.Lib.IndexAny
import Derived.Deep.LoopGhost
import Derived.Lib.Bytealg
import Derived.RangeFuncBox
import Derived.RangeFuncNested
import Derived.RangeFuncBound
import Derived.RangeFuncCalls
import Derived.RangeFuncLeaves
import Derived.Shelf.Abstract
import Derived.OwnWalkIn
import Derived.TacticsInMore
import Derived.LoopNIn
import Derived.LoopIn
import Derived.RangeFuncWrites
import Derived.Maps.OwnIn
import Derived.Maps.Views
import Derived.Laws.OwnMore
import Derived.Maps.OwnSet
import Derived.Laws.IdiomStrings
import Derived.Test.YtdoljfkjdfaakaaGreatRows
import Derived.ProofKit
import Derived.OpenShut
import Derived.Carry
import Derived.OrdersIn
import Derived.Great.BuildSlice
import Derived.ArgAppend
import Derived.Laws.MakeOwn
import Derived.Laws.Cover3
import Derived.Laws.CopyRow
import Derived.MapKept
import Derived.Maps.RangeRun
import Derived.DeepKeys5
import Derived.WideKeyRuns
set_option linter.unusedVariables false
set_option linter.unusedSimpArgs false
set_option linter.unnecessarySimpa false
set_option linter.all false
namespace Go.Proofs.YtdoljfkjdfaakaaGreat
set_option maxRecDepth 100000
open Go.RowKit
structure S_api_Decl where
  f0_Name : ByteArray
  f1_Arity : Int
def qt (x : S_api_Decl) : D := .agg [.str x.f0_Name, .int .i64 x.f1_Arity]
theorem qdf (x : S_api_Decl) : sz (qt x) = 2 := by
  simp only [qt, sz, szs]
structure qU where
  f0_Name : ByteArray
  f1_Keep : (List At)
  f2_Remove : (List At)
  f3_Guard : (List Gl)
  f4_Body : (List Gl)
  f5_Vars : Int
def qm (x : qU) : D := .agg [.str x.f0_Name, .lst (x.f1_Keep.map encA), .lst (x.f2_Remove.map encA), .lst (x.f3_Guard.map encG), .lst (x.f4_Body.map encG), .int .i64 x.f5_Vars]
theorem qah (x : qU) : sz (qm x) = 6 := by
  simp only [qm, sz, szs]
structure qI where
  f0_Decls : (List S_api_Decl)
  f1_Rules : (List qU)
def qn (x : qI) : D := .agg [.lst (x.f0_Decls.map qt), .lst (x.f1_Rules.map qm)]
theorem qak (x : qI) : sz (qn x) = 2 := by
  simp only [qn, sz, szs]
theorem qiH : ZeroV Tryz.prog 76 (.nilp) := .val (.pointer none) rfl (by kernel_rfl) rfl
structure qa where
  f0_b : (List Int)
  f1_bad : Bool
def qf (x : qa) : D := .agg [.lst (x.f0_b.map (D.int .u8)), .bool x.f1_bad]
structure qas where
  f0_Goal : Gl
  f1_ID : Int
  f2_Occ : Int
def qP (x : qas) : D := .agg [encG x.f0_Goal, .int .i64 x.f1_ID, .int .i64 x.f2_Occ]
theorem qdD (x : qas) : sz (qP x) = 5 := by
  simp only [qP, sz, szs, qbi]
structure qZ where
  f0_Rule : Int
  f1_IDs : (List Int)
def qq (x : qZ) : D := .agg [.int .i64 x.f0_Rule, .lst (x.f1_IDs.map (D.int .i64))]
theorem qb9 (x : qZ) : sz (qq x) = 2 := by
  simp only [qq, sz, szs]
structure qar where
  f0_Stack : (List qas)
  f1_Store : (List (Int × At))
  f2_Binds : (List (Int × T))
  f3_Fired : (List qZ)
  f4_Next : Int
  f5_Fresh : Int
  f6_Failed : Bool
def qae (x : qar) : D := .agg [.lst (x.f0_Stack.map qP), .lst (x.f1_Store.map encIt), .lst (x.f2_Binds.map encP), .lst (x.f3_Fired.map qq), .int .i64 x.f4_Next, .int .i64 x.f5_Fresh, .bool x.f6_Failed]
theorem qc0 (x : qar) : sz (qae x) = 7 := by
  simp only [qae, sz, szs]
structure qX where
  f0_ID : Int
  f1_Atom : At
  f2_Just : (List Int)
def qu (x : qX) : D := .agg [.int .i64 x.f0_ID, encA x.f1_Atom, .lst (x.f2_Just.map (D.int .i64))]
theorem qai (x : qX) : sz (qu x) = 4 := by
  simp only [qu, sz, szs, qan]
structure qat where
  f0_Rule : Int
  f1_Heads : (List Int)
  f2_Gone : (List Int)
  f3_Made : (List Int)
  f4_Failed : Bool
  f5_Just : (List Int)
def qv (x : qat) : D := .agg [.int .i64 x.f0_Rule, .lst (x.f1_Heads.map (D.int .i64)), .lst (x.f2_Gone.map (D.int .i64)), .lst (x.f3_Made.map (D.int .i64)), .bool x.f4_Failed, .lst (x.f5_Just.map (D.int .i64))]
theorem qdh (x : qat) : sz (qv x) = 6 := by
  simp only [qv, sz, szs]
structure qab where
  f0_Facts : (List qX)
  f1_Past : (List qX)
  f2_Log : (List qat)
  f3_Next : Int
  f4_Given : Int
def qx (x : qab) : D := .agg [.lst (x.f0_Facts.map qu), .lst (x.f1_Past.map qu), .lst (x.f2_Log.map qv), .int .i64 x.f3_Next, .int .i64 x.f4_Given]
theorem qd6 (x : qab) : sz (qx x) = 5 := by
  simp only [qx, sz, szs]
noncomputable def qr (n_a1 : Int) (low_a2 : Int) (high_a3 : Int) (c_0 : qa) : Option (qa) :=
  (bif c_0.f1_bad then
  ((qkt c_0.f0_b n_a1).bind fun r_2 =>
  some ((⟨r_2, true⟩ : qa)))
  else
  (bif (decide (n_a1 < low_a2)) then
  ((qkt c_0.f0_b n_a1).bind fun r_4 =>
  some ((⟨r_4, true⟩ : qa)))
  else
  ((qkt c_0.f0_b n_a1).bind fun r_5 =>
  some ((⟨r_5, (decide (n_a1 > high_a3))⟩ : qa)))))
set_option maxHeartbeats 1000000 in
theorem qw (n_a1 : Int) (low_a2 : Int) (high_a3 : Int) (c_0 : qa) (b_o0 : Nat) (res : qa) (hr : qr n_a1 low_a2 high_a3 c_0 = some res) : Spec Tryz.prog 34 [.ref b_o0 0 [], .int .i64 n_a1, .int .i64 low_a2, .int .i64 high_a3] [.cell b_o0 (qf c_0)] (fun d σ => d = .tup [] ∧ σ = [.cell b_o0 (qf res)]) := by
  unfold qr at hr
  refine qR [(0, .ref b_o0 0 []), (1, .int .i64 n_a1), (2, .int .i64 low_a2), (3, .int .i64 high_a3)] Tryz.func34 rfl rfl fun K hK => (qh (gr [.d, .d, .d, .d, .r, .d, .d, .d, .d, .d, .d, .d, .d, .d, .d, .d, .d, .w] (r_d rfl rfl rfl (qb rfl rfl) (r_d rfl rfl rfl (qb rfl rfl) (r_d rfl rfl rfl (qQ rfl rfl) (r_d rfl rfl rfl (qL rfl qG rfl) (r_r rfl rfl rfl (qap rfl rfl (.head _) rfl rfl (by exact qcE) rfl) (r_d rfl rfl rfl (qb rfl rfl) ?_))))))))
  refine r_sB 13 rfl hr (fun h13_0 hr => ?_) (fun h13_0 hr => ?_)
  ·
   refine qc rfl rfl rfl (qc rfl rfl rfl (qc rfl rfl rfl (r_d rfl rfl rfl (qy rfl rfl rfl) (r_d rfl rfl rfl (qb rfl rfl) (qc rfl rfl rfl (qc rfl rfl rfl (qc rfl rfl rfl (r_d rfl rfl rfl (qy rfl rfl rfl) (r_d rfl rfl rfl (qQ rfl rfl) (r_d rfl rfl rfl (qL rfl qG rfl) (qbE rfl rfl rfl (qcu _ rfl rfl rfl (Wk.refl _) (pf0 _) rfl rfl (by exact qcE) rfl rfl rfl) ?_)))))))))))
   refine qj (gr [.d, .d, .d, .d, .r, .d, .d, .d, .d, .w] (r_d rfl rfl rfl (qb rfl rfl) (r_d rfl rfl rfl (qb rfl rfl) (r_d rfl rfl rfl (qQ rfl rfl) (r_d rfl rfl rfl (qL rfl qaQ rfl) (r_r rfl rfl rfl (qap rfl rfl (.head _) rfl rfl (by exact qdR) rfl) (r_d rfl rfl rfl (qb rfl rfl) ?_)))))))
   obtain ⟨r_2, hr_2, hr⟩ := bindS hr
   refine r_d rfl rfl rfl (qK rfl qji (.oc rfl (.oc rfl .nil)) (qju _ _ _ hr_2)) (r_d rfl rfl rfl (qQ rfl rfl) (r_d rfl rfl rfl (qL rfl qaQ rfl) (qbE rfl rfl rfl (qcu _ rfl rfl rfl (Wk.refl _) (pf0 _) rfl rfl (by exact qdR) rfl rfl rfl) (qj ?_))))
   obtain rfl := Option.some.inj hr
   refine qfN Tryz.func34 _ .nil ?_
   exact ⟨rfl, rfl⟩
  ·
   refine r_d rfl rfl rfl (qb rfl rfl) (r_d rfl rfl rfl (qb rfl rfl) (r_d rfl rfl rfl (qB rfl rfl rfl rfl) (r_d rfl rfl rfl (qD rfl rfl rfl) (r_d rfl rfl rfl (qb rfl rfl) ?_))))
   refine r_sB 18 rfl hr (fun h18_2 hr => ?_) (fun h18_2 hr => ?_)
   ·
    refine qc rfl rfl rfl (qc rfl rfl rfl (qc rfl rfl rfl (r_d rfl rfl rfl (qy rfl rfl rfl) (r_d rfl rfl rfl (qQ rfl rfl) (r_d rfl rfl rfl (qL rfl qG rfl) (qbE rfl rfl rfl (qcu _ rfl rfl rfl (Wk.refl _) (pf0 _) rfl rfl (by exact qcE) rfl rfl rfl) (qj (gr [.d, .d, .d, .d, .r, .d, .d, .d, .d, .w] (r_d rfl rfl rfl (qb rfl rfl) (r_d rfl rfl rfl (qb rfl rfl) (r_d rfl rfl rfl (qQ rfl rfl) ?_)))))))))))
    refine r_d rfl rfl rfl (qL rfl qaQ rfl) (r_r rfl rfl rfl (qap rfl rfl (.head _) rfl rfl (by exact qdR) rfl) (r_d rfl rfl rfl (qb rfl rfl) ?_))
    obtain ⟨r_4, hr_4, hr⟩ := bindS hr
    refine r_d rfl rfl rfl (qK rfl qji (.oc rfl (.oc rfl .nil)) (qju _ _ _ hr_4)) (r_d rfl rfl rfl (qQ rfl rfl) (r_d rfl rfl rfl (qL rfl qaQ rfl) (qbE rfl rfl rfl (qcu _ rfl rfl rfl (Wk.refl _) (pf0 _) rfl rfl (by exact qdR) rfl rfl rfl) (qj ?_))))
    obtain rfl := Option.some.inj hr
    refine qfN Tryz.func34 _ .nil ?_
    exact ⟨rfl, rfl⟩
   ·
    refine r_d rfl rfl rfl (qb rfl rfl) (r_d rfl rfl rfl (qb rfl rfl) (r_d rfl rfl rfl (qB rfl rfl rfl rfl) (r_d rfl rfl rfl (qD rfl rfl rfl) (r_d rfl rfl rfl (qQ rfl rfl) (r_d rfl rfl rfl (qL rfl qG rfl) (qbE rfl rfl rfl (qcu _ rfl rfl rfl (Wk.refl _) (pf0 _) rfl rfl (by exact qcE) rfl rfl rfl) (qj (gr [.d, .d, .d, .d, .r, .d, .d, .d, .d, .w] (r_d rfl rfl rfl (qb rfl rfl) (r_d rfl rfl rfl (qb rfl rfl) (r_d rfl rfl rfl (qQ rfl rfl) ?_)))))))))))
    refine r_d rfl rfl rfl (qL rfl qaQ rfl) (r_r rfl rfl rfl (qap rfl rfl (.head _) rfl rfl (by exact qdR) rfl) (r_d rfl rfl rfl (qb rfl rfl) ?_))
    obtain ⟨r_5, hr_5, hr⟩ := bindS hr
    refine r_d rfl rfl rfl (qK rfl qji (.oc rfl (.oc rfl .nil)) (qju _ _ _ hr_5)) (r_d rfl rfl rfl (qQ rfl rfl) (r_d rfl rfl rfl (qL rfl qaQ rfl) (qbE rfl rfl rfl (qcu _ rfl rfl rfl (Wk.refl _) (pf0 _) rfl rfl (by exact qdR) rfl rfl rfl) (qj ?_))))
    obtain rfl := Option.some.inj hr
    refine qfN Tryz.func34 _ .nil ?_
    exact ⟨rfl, rfl⟩
noncomputable def qb6 (s_a1 : ByteArray) (c_0 : qa) : Option (qa) :=
  (bif c_0.f1_bad then
  ((qkz c_0.f0_b s_a1).bind fun r_2 =>
  some ((⟨r_2, true⟩ : qa)))
  else
  ((qkz c_0.f0_b s_a1).bind fun r_3 =>
  some ((⟨r_3, (decide ((s_a1.size : Int) > (40 : Int)))⟩ : qa))))
set_option maxHeartbeats 1000000 in
theorem qeE (s_a1 : ByteArray) (c_0 : qa) (b_o0 : Nat) (res : qa) (hr : qb6 s_a1 c_0 = some res) : Spec Tryz.prog 37 [.ref b_o0 0 [], .str s_a1] [.cell b_o0 (qf c_0)] (fun d σ => d = .tup [] ∧ σ = [.cell b_o0 (qf res)]) := by
  unfold qb6 at hr
  refine qR [(0, .ref b_o0 0 []), (1, .str s_a1)] Tryz.func37 rfl rfl fun K hK => (qh (gr [.d, .d, .d, .d, .r, .d, .d, .d, .d, .d, .d, .d, .w] (r_d rfl rfl rfl (qb rfl rfl) (r_d rfl rfl rfl (qb rfl rfl) (r_d rfl rfl rfl (qQ rfl rfl) (r_d rfl rfl rfl (qL rfl qG rfl) (r_r rfl rfl rfl (qap rfl rfl (.head _) rfl rfl (by exact qcE) rfl) (r_d rfl rfl rfl (qb rfl rfl) ?_))))))))
  refine r_sB 9 rfl hr (fun h9_0 hr => ?_) (fun h9_0 hr => ?_)
  ·
   refine qc rfl rfl rfl (qc rfl rfl rfl (qc rfl rfl rfl (r_d rfl rfl rfl (qy rfl rfl rfl) (r_d rfl rfl rfl (qQ rfl rfl) (r_d rfl rfl rfl (qL rfl qG rfl) (qbE rfl rfl rfl (qcu _ rfl rfl rfl (Wk.refl _) (pf0 _) rfl rfl (by exact qcE) rfl rfl rfl) (qj (gr [.d, .d, .d, .d, .r, .d, .d, .d, .d, .w] (r_d rfl rfl rfl (qb rfl rfl) (r_d rfl rfl rfl (qb rfl rfl) (r_d rfl rfl rfl (qQ rfl rfl) ?_)))))))))))
   refine r_d rfl rfl rfl (qL rfl qaQ rfl) (r_r rfl rfl rfl (qap rfl rfl (.head _) rfl rfl (by exact qdR) rfl) (r_d rfl rfl rfl (qb rfl rfl) ?_))
   obtain ⟨r_2, hr_2, hr⟩ := bindS hr
   refine r_d rfl rfl rfl (qK rfl qld (.oc rfl (.oc rfl .nil)) (qla _ _ _ hr_2)) (r_d rfl rfl rfl (qQ rfl rfl) (r_d rfl rfl rfl (qL rfl qaQ rfl) (qbE rfl rfl rfl (qcu _ rfl rfl rfl (Wk.refl _) (pf0 _) rfl rfl (by exact qdR) rfl rfl rfl) (qj ?_))))
   obtain rfl := Option.some.inj hr
   refine qfN Tryz.func37 _ .nil ?_
   exact ⟨rfl, rfl⟩
  ·
   refine r_d rfl rfl rfl (qb rfl rfl) (r_d rfl rfl rfl (qup rfl Tryz.underlying9 rfl) (r_d rfl rfl rfl (qB rfl rfl rfl rfl) (r_d rfl rfl rfl (qD rfl rfl rfl) (r_d rfl rfl rfl (qQ rfl rfl) (r_d rfl rfl rfl (qL rfl qG rfl) (qbE rfl rfl rfl (qcu _ rfl rfl rfl (Wk.refl _) (pf0 _) rfl rfl (by exact qcE) rfl rfl rfl) (qj (gr [.d, .d, .d, .d, .r, .d, .d, .d, .d, .w] (r_d rfl rfl rfl (qb rfl rfl) (r_d rfl rfl rfl (qb rfl rfl) (r_d rfl rfl rfl (qQ rfl rfl) ?_)))))))))))
   refine r_d rfl rfl rfl (qL rfl qaQ rfl) (r_r rfl rfl rfl (qap rfl rfl (.head _) rfl rfl (by exact qdR) rfl) (r_d rfl rfl rfl (qb rfl rfl) ?_))
   obtain ⟨r_3, hr_3, hr⟩ := bindS hr
   refine r_d rfl rfl rfl (qK rfl qld (.oc rfl (.oc rfl .nil)) (qla _ _ _ hr_3)) (r_d rfl rfl rfl (qQ rfl rfl) (r_d rfl rfl rfl (qL rfl qaQ rfl) (qbE rfl rfl rfl (qcu _ rfl rfl rfl (Wk.refl _) (pf0 _) rfl rfl (by exact qdR) rfl rfl rfl) (qj ?_))))
   obtain rfl := Option.some.inj hr
   refine qfN Tryz.func37 _ .nil ?_
   exact ⟨rfl, rfl⟩
noncomputable def qf5 (d_a0 : S_api_Decl) (c_0 : qa) : Option (qa) :=
  ((qb6 d_a0.f0_Name c_0).bind fun r_1 =>
  ((qr d_a0.f1_Arity 0 6 r_1).bind fun r_2 =>
  some (r_2)))
set_option maxHeartbeats 1000000 in
theorem qkw (d_a0 : S_api_Decl) (c_0 : qa) (b_o0 : Nat) (res : qa) (hr : qf5 d_a0 c_0 = some res) : Spec Tryz.prog 36 [qt d_a0, .ptr (.ref b_o0 0 [])] [.cell b_o0 (qf c_0)] (fun d σ => d = .tup [] ∧ σ = [.cell b_o0 (qf res)]) := by
  unfold qf5 at hr
  refine qR [(0, qt d_a0), (1, .ptr (.ref b_o0 0 []))] Tryz.func36 rfl rfl fun K hK => (qh (gr [.d] (r_d rfl rfl rfl (qef rfl rfl rfl) (qj (qh (gr [.d, .d, .d, .w] (r_d rfl rfl rfl (qk rfl rfl (by exact qO) rfl) (r_d rfl rfl rfl (qg rfl qg7 rfl rfl rfl rfl) (r_d rfl rfl rfl (qk rfl rfl (by exact qdg) rfl) ?_)))))))))
  obtain ⟨r_1, hr_1, hr⟩ := bindS hr
  refine r_w rfl rfl rfl (qac _ rfl qfb (.oc rfl (.oc rfl .nil)) (by exact (pf0 _)) (qeE _ _ _ _ hr_1)) ?_
  rintro _ _ ⟨_, ⟨rfl, rfl⟩, rfl⟩
  refine r_st ((.cell b_o0 (qf r_1)) :: _) rfl (qj (gr [.d, .d, .d, .w] (r_d rfl rfl rfl (qk rfl rfl (by exact qO) rfl) (r_d rfl rfl rfl (qg rfl qiq rfl rfl rfl rfl) (r_d rfl rfl rfl (qk rfl rfl (by exact qW) rfl) ?_)))))
  obtain ⟨r_2, hr_2, hr⟩ := bindS hr
  refine r_w rfl rfl rfl (qac _ rfl qz (.oc rfl (.oc rfl (.oc rfl (.oc rfl .nil)))) (by exact (pf0 _)) (qw _ _ _ _ _ _ hr_2)) ?_
  rintro _ _ ⟨_, ⟨rfl, rfl⟩, rfl⟩
  refine r_st ((.cell b_o0 (qf r_2)) :: _) rfl (qj ?_)
  obtain rfl := Option.some.inj hr
  refine qfN Tryz.func36 _ .nil ?_
  exact ⟨rfl, rfl⟩
noncomputable def qdW (k : (qa) → Option (qa)) : List S_api_Decl → qa → Option (qa)
  | [], w_4 =>
  (k w_4)
  | q_6 :: rest, w_4 =>
  ((qf5 q_6 w_4).bind fun r_8 =>
  (qdW k rest r_8))
noncomputable def qhK (l_a1 : (List S_api_Decl)) (most_a2 : Int) (c_0 : qa) : Option (qa) :=
  ((qr (l_a1.length : Int) 0 most_a2 c_0).bind fun r_1 =>
  (bif r_1.f1_bad then
  some (r_1)
  else
  (qdW (fun w_5 =>
  some (w_5)) l_a1 r_1)))
set_option maxHeartbeats 1000000 in
theorem ql2 (l_a1 : (List S_api_Decl)) (most_a2 : Int) (c_0 : qa) (b_o0 : Nat) (res : qa) (hr : qhK l_a1 most_a2 c_0 = some res) : Spec Tryz.prog 35 [.ref b_o0 0 [], .lst (l_a1.map qt), .int .i64 most_a2, .clo (.func 36) [] [.ptr (.ref b_o0 0 [])]] [.cell b_o0 (qf c_0)] (fun d σ => d = .tup [] ∧ σ = [.cell b_o0 (qf res)]) := by
  unfold qhK at hr
  refine qR [(0, .ref b_o0 0 []), (1, .lst (l_a1.map qt)), (2, .int .i64 most_a2), (3, .clo (.func 36) [] [.ptr (.ref b_o0 0 [])])] Tryz.func35 rfl rfl fun K hK => (qh (gr [.d, .d, .d, .d, .w] (r_d rfl rfl rfl (qb rfl rfl) (r_d rfl rfl rfl (qb rfl rfl) (r_d rfl rfl rfl (qT (f := qt) l_a1 rfl qbU rfl (asl rfl)) (r_d rfl rfl rfl (qb rfl rfl) ?_))))))
  obtain ⟨r_1, hr_1, hr⟩ := bindS hr
  refine r_w rfl rfl rfl (qac _ rfl qz (.oc rfl (.oc rfl (.oc rfl (.oc rfl .nil)))) (by exact (pf0 _)) (qw _ _ _ _ _ _ hr_1)) ?_
  rintro _ _ ⟨_, ⟨rfl, rfl⟩, rfl⟩
  refine r_st ((.cell b_o0 (qf r_1)) :: _) rfl (qj (qh (qh (gr [.d, .d, .d, .r] (r_d rfl rfl rfl (qb rfl rfl) (r_d rfl rfl rfl (qQ rfl rfl) (r_d rfl rfl rfl (qL rfl qG rfl) (r_r rfl rfl rfl (qap rfl rfl (.head _) rfl rfl (by exact qcE) rfl) (qj ?_)))))))))
  refine g_sB 18 rfl hr (fun h18_1 hr => ?_) (fun h18_1 hr => ?_)
  ·
   refine qo rfl ?_
   obtain rfl := Option.some.inj hr
   refine qJ Tryz.func35 _ .nil ?_
   exact ⟨rfl, rfl⟩
  ·
   refine qs rfl (qE (qh (gr [.d, .d, .d] (r_d rfl rfl rfl (qb rfl rfl) (r_d rfl rfl rfl (qT (f := qt) l_a1 rfl qbU rfl (asl rfl)) (r_d rfl rfl rfl (qb rfl rfl) (qj ?_)))))))
   obtain ⟨kk0, hkk0, hr⟩ := exK (fun k => qdW k l_a1 r_1) hr
   refine qdG 1 rfl (asl rfl) fun hla0 => ?_
   simp only [List.length_map] at hla0
   refine qV (fun env σ => ∃ (w_5 : qa), env = [] ∧ σ = [.cell b_o0 (qf w_5)] ∧ kk0 w_5 = some res) ?_ (fun HK0 => ?_)
   ·
    rintro _ _ ⟨w_5, rfl, rfl, hr⟩
    rw [hkk0] at hr
    obtain rfl := Option.some.inj hr
    refine qfN Tryz.func35 _ .nil ?_
    exact ⟨rfl, rfl⟩
   ·
    refine qM [(3, .clo (.func 36) [] [.ptr (.ref b_o0 0 [])]), (19, .lst (l_a1.map qt)), (20, .int .i64 (l_a1.length : Int)), (21, .int .i64 ((0 : Nat) : Int))] (Sub.cons' rfl (Sub.cons' rfl (Sub.cons' rfl (Sub.cons' rfl (Sub.nil _))))) (qaM (fun n env σ => ∃ (i_3 : Nat) (w_4 : qa), (n = l_a1.length - i_3) ∧ (env = [(3, .clo (.func 36) [] [.ptr (.ref b_o0 0 [])]), (19, .lst (l_a1.map qt)), (20, .int .i64 (l_a1.length : Int)), (21, .int .i64 (i_3 : Int))]) ∧ (σ = [.cell b_o0 (qf w_4)]) ∧ (i_3 ≤ l_a1.length) ∧ (qdW kk0 (l_a1.drop i_3) w_4 = some res)) _ ⟨0, r_1, rfl, rfl, rfl, Nat.zero_le _, hr⟩ ?_)
    rintro n _ _ ⟨i_3, w_4, rfl, rfl, rfl, hi0, hr⟩ IH0
    rcases listStep l_a1 i_3 hi0 with ⟨ht0, hd0, he0⟩ | ⟨q_6, ht0, hd0, hq0, hlt0⟩
    ·
     rw [hd0, qdW] at hr
     refine qh (gr [.d] (r_d rfl rfl rfl (qB rfl rfl rfl rfl) (qj (qh (qC 22 false rfl ht0 (qs rfl (qaw rfl (qM [] (Sub.nil _) ?_))))))))
     exact HK0 _ _ ⟨w_4, rfl, rfl, hr⟩
    ·
     rw [hd0, qdW] at hr
     refine qh (gr [.d] (r_d rfl rfl rfl (qB rfl rfl rfl rfl) (qj (qh (qC 22 true rfl ht0 (qo rfl (qE (qh (q0 (qh (gr [.d, .d, .w, .w] ?_)))))))))))
     refine r_d rfl rfl rfl (qN (f := qt) l_a1 rfl qbU rfl (asl rfl) rfl hq0 qdf rfl) (r_d rfl rfl rfl (qk rfl rfl (by exact qhP) (qdf _)) (r_w rfl rfl rfl (qa8 rfl ql3) ?_))
     rintro _ _ ⟨b9_6, rfl, rfl⟩
     refine qbE rfl rfl rfl (qag _ rfl rfl rfl (Wk.refl _) (pf0 _) (by exact qhP) (qdf _) rfl rfl) (qj (qaT 9 b9_6 rfl (pf0 _) (gr [.d, .d, .w] (r_d rfl rfl rfl (qb rfl rfl) (r_d rfl rfl rfl (qk rfl rfl (by exact qhP) (qdf _)) ?_)))))
     obtain ⟨r_8, hr_8, hr⟩ := bindS hr
     refine r_w rfl rfl rfl (qfj _ rfl rfl qlD (.oc rfl .nil) rfl (by exact (pf0 _)) (qkw _ _ _ _ hr_8)) ?_
     rintro _ _ ⟨_, ⟨rfl, rfl⟩, rfl⟩
     refine r_st ((.cell b_o0 (qf r_8)) :: _) rfl (qj (qF (gr [.d, .d] (r_d rfl rfl rfl (s_ar (r := ((i_3 + 1 : Nat) : Int)) rfl rfl rfl (by simp [iar]) (by omega)) (r_d rfl rfl rfl (qb rfl rfl) (qj (qM [(3, .clo (.func 36) [] [.ptr (.ref b_o0 0 [])]), (19, .lst (l_a1.map qt)), (20, .int .i64 (l_a1.length : Int)), (21, .int .i64 ((i_3 + 1 : Nat) : Int))] (Sub.cons' rfl (Sub.cons' rfl (Sub.cons' rfl (Sub.cons' rfl (Sub.nil _))))) ?_)))))))
     exact IH0 _ _ _ (by omega) ⟨(i_3 + 1), r_8, rfl, rfl, rfl, (by omega), hr⟩
noncomputable def qax (rec : (List T) → Int → qa → Option (qa)) (t_a1 : T) (c_0 : qa) : Option (qa) :=
  ((qr t_a1.k 0 2 c_0).bind fun r_1 =>
  (bif (t_a1.k == (0 : Int)) then
  ((qr t_a1.i (-2147483648) 2147483648 r_1).bind fun r_3 =>
  some (r_3))
  else
  (bif (t_a1.k == (1 : Int)) then
  ((qr t_a1.i 0 1048576 r_1).bind fun r_5 =>
  some (r_5))
  else
  ((qb6 t_a1.s r_1).bind fun r_6 =>
  ((rec t_a1.ar 6 r_6).bind fun r_7 =>
  some (r_7))))))
set_option maxHeartbeats 1000000 in
theorem qgP (rec : (List T) → Int → qa → Option (qa)) (IHR : ∀ (l_a1 : (List T)) (most_a2 : Int) (c_0 : qa) (b_o0 : Nat) (res : qa), rec l_a1 most_a2 c_0 = some res → Spec Tryz.prog 154 [.ref b_o0 0 [], .lst (l_a1.map encT), .int .i64 most_a2, .clo (.func 66) [.ref b_o0 0 []] []] [.cell b_o0 (qf c_0)] (fun d σ => d = .tup [] ∧ σ = [.cell b_o0 (qf res)])) (t_a1 : T) (c_0 : qa) (b_o0 : Nat) (res : qa) (hr : qax rec t_a1 c_0 = some res) : Spec Tryz.prog 66 [.ref b_o0 0 [], encT t_a1] [.cell b_o0 (qf c_0)] (fun d σ => d = .tup [] ∧ σ = [.cell b_o0 (qf res)]) := by
  unfold qax at hr
  refine qR [(0, .ref b_o0 0 []), (1, encT t_a1)] Tryz.func66 rfl rfl fun K hK => (qh (gr [.d] (r_d rfl rfl rfl (qef rfl rfl rfl) (qj (qh (gr [.d, .d, .d, .w] (r_d rfl rfl rfl (qb rfl rfl) (r_d rfl rfl rfl (qg rfl qgd rfl (qlK _) (qlO _) rfl) (r_d rfl rfl rfl (qk rfl rfl (by exact qW) rfl) ?_)))))))))
  obtain ⟨r_1, hr_1, hr⟩ := bindS hr
  refine r_w rfl rfl rfl (qac _ rfl qz (.oc rfl (.oc rfl (.oc rfl (.oc rfl .nil)))) (by exact (pf0 _)) (qw _ _ _ _ _ _ hr_1)) ?_
  rintro _ _ ⟨_, ⟨rfl, rfl⟩, rfl⟩
  refine r_st ((.cell b_o0 (qf r_1)) :: _) rfl (qj (qh (gr [.d, .d] (r_d rfl rfl rfl (qg rfl qgd rfl (qlK _) (qlO _) rfl) (r_d rfl rfl rfl (qk rfl rfl (by exact qW) rfl) (qj (q0 (qh (gr [.d, .d] (r_d rfl rfl rfl (qB rfl rfl rfl rfl) (r_d rfl rfl rfl (qe rfl rfl) ?_)))))))))))
  refine qj ?_
  refine g_sB 20 rfl hr (fun h20_1 hr => ?_) (fun h20_1 hr => ?_)
  ·
   refine qo rfl (gr [.d, .d, .d, .w] (r_d rfl rfl rfl (qb rfl rfl) (r_d rfl rfl rfl (qg rfl qe0 rfl (qjO _) (qjR _) rfl) (r_d rfl rfl rfl (qk rfl rfl (by exact qW) rfl) ?_))))
   obtain ⟨r_3, hr_3, hr⟩ := bindS hr
   refine r_w rfl rfl rfl (qac _ rfl qz (.oc rfl (.oc rfl (.oc rfl (.oc rfl .nil)))) (by exact (pf0 _)) (qw _ _ _ _ _ _ hr_3)) ?_
   rintro _ _ ⟨_, ⟨rfl, rfl⟩, rfl⟩
   refine r_st ((.cell b_o0 (qf r_3)) :: _) rfl (qj (qF ?_))
   obtain rfl := Option.some.inj hr
   refine qfN Tryz.func66 _ .nil ?_
   exact ⟨rfl, rfl⟩
  ·
   refine qs rfl (qh (gr [.d, .d] (r_d rfl rfl rfl (qB rfl rfl rfl rfl) (r_d rfl rfl rfl (qe rfl rfl) (qj ?_)))))
   refine g_sB 26 rfl hr (fun h26_3 hr => ?_) (fun h26_3 hr => ?_)
   ·
    refine qo rfl (gr [.d, .d, .d, .w] (r_d rfl rfl rfl (qb rfl rfl) (r_d rfl rfl rfl (qg rfl qe0 rfl (qjO _) (qjR _) rfl) (r_d rfl rfl rfl (qk rfl rfl (by exact qW) rfl) ?_))))
    obtain ⟨r_5, hr_5, hr⟩ := bindS hr
    refine r_w rfl rfl rfl (qac _ rfl qz (.oc rfl (.oc rfl (.oc rfl (.oc rfl .nil)))) (by exact (pf0 _)) (qw _ _ _ _ _ _ hr_5)) ?_
    rintro _ _ ⟨_, ⟨rfl, rfl⟩, rfl⟩
    refine r_st ((.cell b_o0 (qf r_5)) :: _) rfl (qj (qF ?_))
    obtain rfl := Option.some.inj hr
    refine qfN Tryz.func66 _ .nil ?_
    exact ⟨rfl, rfl⟩
   ·
    refine qs rfl (qh (gr [.d, .d, .d, .w] (r_d rfl rfl rfl (qb rfl rfl) (r_d rfl rfl rfl (qg rfl qmt rfl (qtA _) (qt1 _) rfl) (r_d rfl rfl rfl (qk rfl rfl (by exact qdg) rfl) ?_)))))
    obtain ⟨r_6, hr_6, hr⟩ := bindS hr
    refine r_w rfl rfl rfl (qac _ rfl qfb (.oc rfl (.oc rfl .nil)) (by exact (pf0 _)) (qeE _ _ _ _ hr_6)) ?_
    rintro _ _ ⟨_, ⟨rfl, rfl⟩, rfl⟩
    refine r_st ((.cell b_o0 (qf r_6)) :: _) rfl (qj (gr [.d, .d, .d, .d, .d, .w] (r_d rfl rfl rfl (qb rfl rfl) (r_d rfl rfl rfl (qg rfl qkY rfl (qrr _) (qrb _) rfl) (r_d rfl rfl rfl (qk rfl rfl (by exact qal) rfl) (r_d rfl rfl rfl (qb rfl rfl) (r_d rfl rfl rfl (qcg rfl rfl rfl) ?_)))))))
    obtain ⟨r_7, hr_7, hr⟩ := bindS hr
    refine r_w rfl rfl rfl (qac _ rfl qhu (.oc rfl (.oc rfl (.oc rfl (.oc rfl .nil)))) (by exact (pf0 _)) (IHR _ _ _ _ _ hr_7)) ?_
    rintro _ _ ⟨_, ⟨rfl, rfl⟩, rfl⟩
    refine r_st ((.cell b_o0 (qf r_7)) :: _) rfl (qj (qF ?_))
    obtain rfl := Option.some.inj hr
    refine qfN Tryz.func66 _ .nil ?_
    exact ⟨rfl, rfl⟩
noncomputable def qcq (k : (qa) → Option (qa)) (rec : (List T) → Int → qa → Option (qa)) : List T → qa → Option (qa)
  | [], w_4 =>
  (k w_4)
  | q_6 :: rest, w_4 =>
  ((qax rec q_6 w_4).bind fun r_8 =>
  (qcq k rec rest r_8))
noncomputable def qcI : Nat → (List T) → Int → qa → Option (qa)
  | 0, _, _, _ => none
  | fuel + 1, l_a1, most_a2, c_0 =>
    (fun (rec : (List T) → Int → qa → Option (qa)) =>
      ((qr (l_a1.length : Int) 0 most_a2 c_0).bind fun r_1 =>
      (bif r_1.f1_bad then
      some (r_1)
      else
      (qcq (fun w_5 =>
      some (w_5)) rec l_a1 r_1)))) (qcI fuel)
set_option maxHeartbeats 1000000 in
theorem qlX (fuel : Nat) (rec : (List T) → Int → qa → Option (qa)) (IHR : ∀ (l_a1 : (List T)) (most_a2 : Int) (c_0 : qa) (b_o0 : Nat) (res : qa), rec l_a1 most_a2 c_0 = some res → Spec Tryz.prog 154 [.ref b_o0 0 [], .lst (l_a1.map encT), .int .i64 most_a2, .clo (.func 66) [.ref b_o0 0 []] []] [.cell b_o0 (qf c_0)] (fun d σ => d = .tup [] ∧ σ = [.cell b_o0 (qf res)])) (l_a1 : (List T)) (most_a2 : Int) (c_0 : qa) (b_o0 : Nat) (res : qa)
    (hr : ((qr (l_a1.length : Int) 0 most_a2 c_0).bind fun r_1 =>
(bif r_1.f1_bad then
some (r_1)
else
(qcq (fun w_5 =>
some (w_5)) rec l_a1 r_1))) = some res) : Spec Tryz.prog 154 [.ref b_o0 0 [], .lst (l_a1.map encT), .int .i64 most_a2, .clo (.func 66) [.ref b_o0 0 []] []] [.cell b_o0 (qf c_0)] (fun d σ => d = .tup [] ∧ σ = [.cell b_o0 (qf res)]) := by
  refine qR [(0, .ref b_o0 0 []), (1, .lst (l_a1.map encT)), (2, .int .i64 most_a2), (3, .clo (.func 66) [.ref b_o0 0 []] [])] Tryz.func154 rfl rfl fun K hK => (qh (gr [.d, .d, .d, .d, .w] (r_d rfl rfl rfl (qb rfl rfl) (r_d rfl rfl rfl (qb rfl rfl) (r_d rfl rfl rfl (qT (f := encT) l_a1 rfl qaj rfl (asl rfl)) (r_d rfl rfl rfl (qb rfl rfl) ?_))))))
  obtain ⟨r_1, hr_1, hr⟩ := bindS hr
  refine r_w rfl rfl rfl (qac _ rfl qz (.oc rfl (.oc rfl (.oc rfl (.oc rfl .nil)))) (by exact (pf0 _)) (qw _ _ _ _ _ _ hr_1)) ?_
  rintro _ _ ⟨_, ⟨rfl, rfl⟩, rfl⟩
  refine r_st ((.cell b_o0 (qf r_1)) :: _) rfl (qj (qh (qh (gr [.d, .d, .d, .r] (r_d rfl rfl rfl (qb rfl rfl) (r_d rfl rfl rfl (qQ rfl rfl) (r_d rfl rfl rfl (qL rfl qG rfl) (r_r rfl rfl rfl (qap rfl rfl (.head _) rfl rfl (by exact qcE) rfl) (qj ?_)))))))))
  refine g_sB 18 rfl hr (fun h18_1 hr => ?_) (fun h18_1 hr => ?_)
  ·
   refine qo rfl ?_
   obtain rfl := Option.some.inj hr
   refine qJ Tryz.func154 _ .nil ?_
   exact ⟨rfl, rfl⟩
  ·
   refine qs rfl (qE (qh (gr [.d, .d, .d] (r_d rfl rfl rfl (qb rfl rfl) (r_d rfl rfl rfl (qT (f := encT) l_a1 rfl qaj rfl (asl rfl)) (r_d rfl rfl rfl (qb rfl rfl) (qj ?_)))))))
   obtain ⟨kk0, hkk0, hr⟩ := exK (fun k => qcq k rec l_a1 r_1) hr
   refine qdG 1 rfl (asl rfl) fun hla0 => ?_
   simp only [List.length_map] at hla0
   refine qV (fun env σ => ∃ (w_5 : qa), env = [] ∧ σ = [.cell b_o0 (qf w_5)] ∧ kk0 w_5 = some res) ?_ (fun HK0 => ?_)
   ·
    rintro _ _ ⟨w_5, rfl, rfl, hr⟩
    rw [hkk0] at hr
    obtain rfl := Option.some.inj hr
    refine qfN Tryz.func154 _ .nil ?_
    exact ⟨rfl, rfl⟩
   ·
    refine qM [(3, .clo (.func 66) [.ref b_o0 0 []] []), (19, .lst (l_a1.map encT)), (20, .int .i64 (l_a1.length : Int)), (21, .int .i64 ((0 : Nat) : Int))] (Sub.cons' rfl (Sub.cons' rfl (Sub.cons' rfl (Sub.cons' rfl (Sub.nil _))))) (qaM (fun n env σ => ∃ (i_3 : Nat) (w_4 : qa), (n = l_a1.length - i_3) ∧ (env = [(3, .clo (.func 66) [.ref b_o0 0 []] []), (19, .lst (l_a1.map encT)), (20, .int .i64 (l_a1.length : Int)), (21, .int .i64 (i_3 : Int))]) ∧ (σ = [.cell b_o0 (qf w_4)]) ∧ (i_3 ≤ l_a1.length) ∧ (qcq kk0 rec (l_a1.drop i_3) w_4 = some res)) _ ⟨0, r_1, rfl, rfl, rfl, Nat.zero_le _, hr⟩ ?_)
    rintro n _ _ ⟨i_3, w_4, rfl, rfl, rfl, hi0, hr⟩ IH0
    rcases listStep l_a1 i_3 hi0 with ⟨ht0, hd0, he0⟩ | ⟨q_6, ht0, hd0, hq0, hlt0⟩
    ·
     rw [hd0, qcq] at hr
     refine qh (gr [.d] (r_d rfl rfl rfl (qB rfl rfl rfl rfl) (qj (qh (qC 22 false rfl ht0 (qs rfl (qaw rfl (qM [] (Sub.nil _) ?_))))))))
     exact HK0 _ _ ⟨w_4, rfl, rfl, hr⟩
    ·
     rw [hd0, qcq] at hr
     refine qh (gr [.d] (r_d rfl rfl rfl (qB rfl rfl rfl rfl) (qj (qh (qC 22 true rfl ht0 (qo rfl (qE (qh (q0 (qh (gr [.d, .d, .w, .w] ?_)))))))))))
     refine r_d rfl rfl rfl (qN (f := encT) l_a1 rfl qaj rfl (asl rfl) rfl hq0 qck rfl) (r_d rfl rfl rfl (qk rfl rfl (by exact qav) (qck _)) (r_w rfl rfl rfl (qa8 rfl qhO) ?_))
     rintro _ _ ⟨b9_6, rfl, rfl⟩
     refine qbE rfl rfl rfl (qag _ rfl rfl rfl (Wk.refl _) (pf0 _) (by exact qav) (qck _) rfl rfl) (qj (qaT 9 b9_6 rfl (pf0 _) (gr [.d, .d, .w] (r_d rfl rfl rfl (qb rfl rfl) (r_d rfl rfl rfl (qk rfl rfl (by exact qav) (qck _)) ?_)))))
     obtain ⟨r_8, hr_8, hr⟩ := bindS hr
     refine r_w rfl rfl rfl (qfj _ rfl rfl qf7 (.oc rfl .nil) rfl (by exact (pf0 _)) (qgP rec IHR _ _ _ _ hr_8)) ?_
     rintro _ _ ⟨_, ⟨rfl, rfl⟩, rfl⟩
     refine r_st ((.cell b_o0 (qf r_8)) :: _) rfl (qj (qF (gr [.d, .d] (r_d rfl rfl rfl (s_ar (r := ((i_3 + 1 : Nat) : Int)) rfl rfl rfl (by simp [iar]) (by omega)) (r_d rfl rfl rfl (qb rfl rfl) (qj (qM [(3, .clo (.func 66) [.ref b_o0 0 []] []), (19, .lst (l_a1.map encT)), (20, .int .i64 (l_a1.length : Int)), (21, .int .i64 ((i_3 + 1 : Nat) : Int))] (Sub.cons' rfl (Sub.cons' rfl (Sub.cons' rfl (Sub.cons' rfl (Sub.nil _))))) ?_)))))))
     exact IH0 _ _ _ (by omega) ⟨(i_3 + 1), r_8, rfl, rfl, rfl, (by omega), hr⟩
theorem qhI : ∀ (fuel : Nat) (l_a1 : (List T)) (most_a2 : Int) (c_0 : qa) (b_o0 : Nat) (res : qa), qcI fuel l_a1 most_a2 c_0 = some res → Spec Tryz.prog 154 [.ref b_o0 0 [], .lst (l_a1.map encT), .int .i64 most_a2, .clo (.func 66) [.ref b_o0 0 []] []] [.cell b_o0 (qf c_0)] (fun d σ => d = .tup [] ∧ σ = [.cell b_o0 (qf res)])
  | 0, _, _, _, _, _, h => by cases h
  | fuel + 1, l_a1, most_a2, c_0, b_o0, res, h => qlX fuel (qcI fuel) (qhI fuel) l_a1 most_a2 c_0 b_o0 res h
noncomputable def qdA (fuel : Nat) (t_a1 : T) (c_0 : qa) : Option (qa) := qax (qcI fuel) t_a1 c_0
theorem qgW (fuel : Nat) (t_a1 : T) (c_0 : qa) (b_o0 : Nat) (res : qa) (hr : qdA fuel t_a1 c_0 = some res) : Spec Tryz.prog 66 [.ref b_o0 0 [], encT t_a1] [.cell b_o0 (qf c_0)] (fun d σ => d = .tup [] ∧ σ = [.cell b_o0 (qf res)]) := qgP (qcI fuel) (qhI fuel) t_a1 c_0 b_o0 res hr
noncomputable def qci (fuel : Nat) (name_a1 : ByteArray) (args_a2 : (List T)) (c_0 : qa) : Option (qa) :=
  ((qb6 name_a1 c_0).bind fun r_1 =>
  ((qcI fuel args_a2 6 r_1).bind fun r_2 =>
  some (r_2)))
set_option maxHeartbeats 1000000 in
theorem qev (fuel : Nat) (name_a1 : ByteArray) (args_a2 : (List T)) (c_0 : qa) (b_o0 : Nat) (res : qa) (hr : qci fuel name_a1 args_a2 c_0 = some res) : Spec Tryz.prog 152 [.ref b_o0 0 [], .str name_a1, .lst (args_a2.map encT)] [.cell b_o0 (qf c_0)] (fun d σ => d = .tup [] ∧ σ = [.cell b_o0 (qf res)]) := by
  unfold qci at hr
  refine qR [(0, .ref b_o0 0 []), (1, .str name_a1), (2, .lst (args_a2.map encT))] Tryz.func152 rfl rfl fun K hK => (qh (gr [.d, .d, .w] (r_d rfl rfl rfl (qb rfl rfl) (r_d rfl rfl rfl (qb rfl rfl) ?_))))
  obtain ⟨r_1, hr_1, hr⟩ := bindS hr
  refine r_w rfl rfl rfl (qac _ rfl qfb (.oc rfl (.oc rfl .nil)) (by exact (pf0 _)) (qeE _ _ _ _ hr_1)) ?_
  rintro _ _ ⟨_, ⟨rfl, rfl⟩, rfl⟩
  refine r_st ((.cell b_o0 (qf r_1)) :: _) rfl (qj (gr [.d, .d, .d, .d, .w] (r_d rfl rfl rfl (qb rfl rfl) (r_d rfl rfl rfl (qb rfl rfl) (r_d rfl rfl rfl (qb rfl rfl) (r_d rfl rfl rfl (qcg rfl rfl rfl) ?_))))))
  obtain ⟨r_2, hr_2, hr⟩ := bindS hr
  refine r_w rfl rfl rfl (qac _ rfl qhu (.oc rfl (.oc rfl (.oc rfl (.oc rfl .nil)))) (by exact (pf0 _)) (qhI fuel _ _ _ _ _ hr_2)) ?_
  rintro _ _ ⟨_, ⟨rfl, rfl⟩, rfl⟩
  refine r_st ((.cell b_o0 (qf r_2)) :: _) rfl (qj ?_)
  obtain rfl := Option.some.inj hr
  refine qfN Tryz.func152 _ .nil ?_
  exact ⟨rfl, rfl⟩
noncomputable def qco (fuel : Nat) (a_a1 : At) (c_0 : qa) : Option (qa) :=
  (bif c_0.f1_bad then
  (bif (!true) then
  ((qci fuel a_a1.n a_a1.ts (⟨c_0.f0_b, true⟩ : qa)).bind fun r_3 =>
  some (r_3))
  else
  some ((⟨c_0.f0_b, true⟩ : qa)))
  else
  ((qi9 a_a1).bind fun r_4 =>
  (bif (!(!r_4)) then
  ((qci fuel a_a1.n a_a1.ts (⟨c_0.f0_b, (!r_4)⟩ : qa)).bind fun r_6 =>
  some (r_6))
  else
  some ((⟨c_0.f0_b, (!r_4)⟩ : qa)))))
set_option maxHeartbeats 1000000 in
theorem qfD (fuel : Nat) (a_a1 : At) (c_0 : qa) (b_o0 : Nat) (res : qa) (hr : qco fuel a_a1 c_0 = some res) : Spec Tryz.prog 62 [.ref b_o0 0 [], encA a_a1] [.cell b_o0 (qf c_0)] (fun d σ => d = .tup [] ∧ σ = [.cell b_o0 (qf res)]) := by
  unfold qco at hr
  refine qR [(0, .ref b_o0 0 []), (1, encA a_a1)] Tryz.func62 rfl rfl fun K hK => (qh (gr [.d] (r_d rfl rfl rfl (qef rfl rfl rfl) (qj (qh (gr [.d, .d, .d, .d, .r, .d, .d, .d, .d, .d, .d, .d, .w] (r_d rfl rfl rfl (qb rfl rfl) (r_d rfl rfl rfl (qb rfl rfl) (r_d rfl rfl rfl (qQ rfl rfl) (r_d rfl rfl rfl (qL rfl qG rfl) (r_r rfl rfl rfl (qap rfl rfl (.head _) rfl rfl (by exact qcE) rfl) ?_)))))))))))
  refine r_d rfl rfl rfl (qb rfl rfl) ?_
  refine r_sB 9 rfl hr (fun h9_0 hr => ?_) (fun h9_0 hr => ?_)
  ·
   refine qc rfl rfl rfl (qc rfl rfl rfl (qc rfl rfl rfl (r_d rfl rfl rfl (qy rfl rfl rfl) (r_d rfl rfl rfl (qQ rfl rfl) (r_d rfl rfl rfl (qL rfl qG rfl) (qbE rfl rfl rfl (qcu _ rfl rfl rfl (Wk.refl _) (pf0 _) rfl rfl (by exact qcE) rfl rfl rfl) (qj (qh (gr [.d, .d, .d, .r, .d] (r_d rfl rfl rfl (qb rfl rfl) (r_d rfl rfl rfl (qQ rfl rfl) ?_)))))))))))
   refine r_d rfl rfl rfl (qL rfl qG rfl) (r_r rfl rfl rfl (qap rfl rfl (.head _) rfl rfl (by exact qcE) rfl) (r_d rfl rfl rfl (qdO rfl rfl) (qj ?_)))
   refine g_sB 20 rfl hr (fun h20_1 hr => ?_) (fun h20_1 hr => ?_)
   ·
    refine qo rfl (gr [.d, .d, .d, .d, .d, .w] (r_d rfl rfl rfl (qb rfl rfl) (r_d rfl rfl rfl (qg rfl qgx rfl rfl rfl rfl) (r_d rfl rfl rfl (qk rfl rfl (by exact qdg) rfl) (r_d rfl rfl rfl (qg rfl qeb rfl rfl rfl rfl) (r_d rfl rfl rfl (qk rfl rfl (by exact qal) rfl) ?_))))))
    obtain ⟨r_3, hr_3, hr⟩ := bindS hr
    refine r_w rfl rfl rfl (qac _ rfl qeS (.oc rfl (.oc rfl (.oc rfl .nil))) (by exact (pf0 _)) (qev fuel _ _ _ _ _ hr_3)) ?_
    rintro _ _ ⟨_, ⟨rfl, rfl⟩, rfl⟩
    refine r_st ((.cell b_o0 (qf r_3)) :: _) rfl (qj ?_)
    obtain rfl := Option.some.inj hr
    refine qfN Tryz.func62 _ .nil ?_
    exact ⟨rfl, rfl⟩
   ·
    refine qs rfl (qE ?_)
    obtain rfl := Option.some.inj hr
    refine qfN Tryz.func62 _ .nil ?_
    exact ⟨rfl, rfl⟩
  ·
   refine r_d rfl rfl rfl (qk rfl rfl (by exact qbQ) (qan _)) ?_
   obtain ⟨r_4, hr_4, hr⟩ := bindS hr
   refine r_d rfl rfl rfl (qK rfl qmU (.oc rfl .nil) (qmQ _ _ hr_4)) (r_d rfl rfl rfl (qdO rfl rfl) (r_d rfl rfl rfl (qD rfl rfl rfl) (r_d rfl rfl rfl (qQ rfl rfl) (r_d rfl rfl rfl (qL rfl qG rfl) (qbE rfl rfl rfl (qcu _ rfl rfl rfl (Wk.refl _) (pf0 _) rfl rfl (by exact qcE) rfl rfl rfl) (qj (qh (gr [.d, .d, .d, .r, .d] (r_d rfl rfl rfl (qb rfl rfl) (r_d rfl rfl rfl (qQ rfl rfl) (r_d rfl rfl rfl (qL rfl qG rfl) ?_)))))))))))
   refine r_r rfl rfl rfl (qap rfl rfl (.head _) rfl rfl (by exact qcE) rfl) (r_d rfl rfl rfl (qdO rfl rfl) (qj ?_))
   refine g_sB 20 rfl hr (fun h20_4 hr => ?_) (fun h20_4 hr => ?_)
   ·
    refine qo rfl (gr [.d, .d, .d, .d, .d, .w] (r_d rfl rfl rfl (qb rfl rfl) (r_d rfl rfl rfl (qg rfl qgx rfl rfl rfl rfl) (r_d rfl rfl rfl (qk rfl rfl (by exact qdg) rfl) (r_d rfl rfl rfl (qg rfl qeb rfl rfl rfl rfl) (r_d rfl rfl rfl (qk rfl rfl (by exact qal) rfl) ?_))))))
    obtain ⟨r_6, hr_6, hr⟩ := bindS hr
    refine r_w rfl rfl rfl (qac _ rfl qeS (.oc rfl (.oc rfl (.oc rfl .nil))) (by exact (pf0 _)) (qev fuel _ _ _ _ _ hr_6)) ?_
    rintro _ _ ⟨_, ⟨rfl, rfl⟩, rfl⟩
    refine r_st ((.cell b_o0 (qf r_6)) :: _) rfl (qj ?_)
    obtain rfl := Option.some.inj hr
    refine qfN Tryz.func62 _ .nil ?_
    exact ⟨rfl, rfl⟩
   ·
    refine qs rfl (qE ?_)
    obtain rfl := Option.some.inj hr
    refine qfN Tryz.func62 _ .nil ?_
    exact ⟨rfl, rfl⟩
noncomputable def qdT (k : (qa) → Option (qa)) (fuel : Nat) : List At → qa → Option (qa)
  | [], w_4 =>
  (k w_4)
  | q_6 :: rest, w_4 =>
  ((qco fuel q_6 w_4).bind fun r_8 =>
  (qdT k fuel rest r_8))
noncomputable def qgy (fuel : Nat) (l_a1 : (List At)) (most_a2 : Int) (c_0 : qa) : Option (qa) :=
  ((qr (l_a1.length : Int) 0 most_a2 c_0).bind fun r_1 =>
  (bif r_1.f1_bad then
  some (r_1)
  else
  (qdT (fun w_5 =>
  some (w_5)) fuel l_a1 r_1)))
set_option maxHeartbeats 1000000 in
theorem qjs (fuel : Nat) (l_a1 : (List At)) (most_a2 : Int) (c_0 : qa) (b_o0 : Nat) (res : qa) (hr : qgy fuel l_a1 most_a2 c_0 = some res) : Spec Tryz.prog 133 [.ref b_o0 0 [], .lst (l_a1.map encA), .int .i64 most_a2, .clo (.func 62) [.ref b_o0 0 []] []] [.cell b_o0 (qf c_0)] (fun d σ => d = .tup [] ∧ σ = [.cell b_o0 (qf res)]) := by
  unfold qgy at hr
  refine qR [(0, .ref b_o0 0 []), (1, .lst (l_a1.map encA)), (2, .int .i64 most_a2), (3, .clo (.func 62) [.ref b_o0 0 []] [])] Tryz.func133 rfl rfl fun K hK => (qh (gr [.d, .d, .d, .d, .w] (r_d rfl rfl rfl (qb rfl rfl) (r_d rfl rfl rfl (qb rfl rfl) (r_d rfl rfl rfl (qT (f := encA) l_a1 rfl qS rfl (asl rfl)) (r_d rfl rfl rfl (qb rfl rfl) ?_))))))
  obtain ⟨r_1, hr_1, hr⟩ := bindS hr
  refine r_w rfl rfl rfl (qac _ rfl qz (.oc rfl (.oc rfl (.oc rfl (.oc rfl .nil)))) (by exact (pf0 _)) (qw _ _ _ _ _ _ hr_1)) ?_
  rintro _ _ ⟨_, ⟨rfl, rfl⟩, rfl⟩
  refine r_st ((.cell b_o0 (qf r_1)) :: _) rfl (qj (qh (qh (gr [.d, .d, .d, .r] (r_d rfl rfl rfl (qb rfl rfl) (r_d rfl rfl rfl (qQ rfl rfl) (r_d rfl rfl rfl (qL rfl qG rfl) (r_r rfl rfl rfl (qap rfl rfl (.head _) rfl rfl (by exact qcE) rfl) (qj ?_)))))))))
  refine g_sB 18 rfl hr (fun h18_1 hr => ?_) (fun h18_1 hr => ?_)
  ·
   refine qo rfl ?_
   obtain rfl := Option.some.inj hr
   refine qJ Tryz.func133 _ .nil ?_
   exact ⟨rfl, rfl⟩
  ·
   refine qs rfl (qE (qh (gr [.d, .d, .d] (r_d rfl rfl rfl (qb rfl rfl) (r_d rfl rfl rfl (qT (f := encA) l_a1 rfl qS rfl (asl rfl)) (r_d rfl rfl rfl (qb rfl rfl) (qj ?_)))))))
   obtain ⟨kk0, hkk0, hr⟩ := exK (fun k => qdT k fuel l_a1 r_1) hr
   refine qdG 1 rfl (asl rfl) fun hla0 => ?_
   simp only [List.length_map] at hla0
   refine qV (fun env σ => ∃ (w_5 : qa), env = [] ∧ σ = [.cell b_o0 (qf w_5)] ∧ kk0 w_5 = some res) ?_ (fun HK0 => ?_)
   ·
    rintro _ _ ⟨w_5, rfl, rfl, hr⟩
    rw [hkk0] at hr
    obtain rfl := Option.some.inj hr
    refine qfN Tryz.func133 _ .nil ?_
    exact ⟨rfl, rfl⟩
   ·
    refine qM [(3, .clo (.func 62) [.ref b_o0 0 []] []), (19, .lst (l_a1.map encA)), (20, .int .i64 (l_a1.length : Int)), (21, .int .i64 ((0 : Nat) : Int))] (Sub.cons' rfl (Sub.cons' rfl (Sub.cons' rfl (Sub.cons' rfl (Sub.nil _))))) (qaM (fun n env σ => ∃ (i_3 : Nat) (w_4 : qa), (n = l_a1.length - i_3) ∧ (env = [(3, .clo (.func 62) [.ref b_o0 0 []] []), (19, .lst (l_a1.map encA)), (20, .int .i64 (l_a1.length : Int)), (21, .int .i64 (i_3 : Int))]) ∧ (σ = [.cell b_o0 (qf w_4)]) ∧ (i_3 ≤ l_a1.length) ∧ (qdT kk0 fuel (l_a1.drop i_3) w_4 = some res)) _ ⟨0, r_1, rfl, rfl, rfl, Nat.zero_le _, hr⟩ ?_)
    rintro n _ _ ⟨i_3, w_4, rfl, rfl, rfl, hi0, hr⟩ IH0
    rcases listStep l_a1 i_3 hi0 with ⟨ht0, hd0, he0⟩ | ⟨q_6, ht0, hd0, hq0, hlt0⟩
    ·
     rw [hd0, qdT] at hr
     refine qh (gr [.d] (r_d rfl rfl rfl (qB rfl rfl rfl rfl) (qj (qh (qC 22 false rfl ht0 (qs rfl (qaw rfl (qM [] (Sub.nil _) ?_))))))))
     exact HK0 _ _ ⟨w_4, rfl, rfl, hr⟩
    ·
     rw [hd0, qdT] at hr
     refine qh (gr [.d] (r_d rfl rfl rfl (qB rfl rfl rfl rfl) (qj (qh (qC 22 true rfl ht0 (qo rfl (qE (qh (q0 (qh (gr [.d, .d, .w, .w] ?_)))))))))))
     refine r_d rfl rfl rfl (qN (f := encA) l_a1 rfl qS rfl (asl rfl) rfl hq0 qan rfl) (r_d rfl rfl rfl (qk rfl rfl (by exact qbQ) (qan _)) (r_w rfl rfl rfl (qa8 rfl qjv) ?_))
     rintro _ _ ⟨b9_6, rfl, rfl⟩
     refine qbE rfl rfl rfl (qag _ rfl rfl rfl (Wk.refl _) (pf0 _) (by exact qbQ) (qan _) rfl rfl) (qj (qaT 9 b9_6 rfl (pf0 _) (gr [.d, .d, .w] (r_d rfl rfl rfl (qb rfl rfl) (r_d rfl rfl rfl (qk rfl rfl (by exact qbQ) (qan _)) ?_)))))
     obtain ⟨r_8, hr_8, hr⟩ := bindS hr
     refine r_w rfl rfl rfl (qfj _ rfl rfl qf2 (.oc rfl .nil) rfl (by exact (pf0 _)) (qfD fuel _ _ _ _ hr_8)) ?_
     rintro _ _ ⟨_, ⟨rfl, rfl⟩, rfl⟩
     refine r_st ((.cell b_o0 (qf r_8)) :: _) rfl (qj (qF (gr [.d, .d] (r_d rfl rfl rfl (s_ar (r := ((i_3 + 1 : Nat) : Int)) rfl rfl rfl (by simp [iar]) (by omega)) (r_d rfl rfl rfl (qb rfl rfl) (qj (qM [(3, .clo (.func 62) [.ref b_o0 0 []] []), (19, .lst (l_a1.map encA)), (20, .int .i64 (l_a1.length : Int)), (21, .int .i64 ((i_3 + 1 : Nat) : Int))] (Sub.cons' rfl (Sub.cons' rfl (Sub.cons' rfl (Sub.cons' rfl (Sub.nil _))))) ?_)))))))
     exact IH0 _ _ _ (by omega) ⟨(i_3 + 1), r_8, rfl, rfl, rfl, (by omega), hr⟩
noncomputable def qcV (fuel : Nat) (g_a1 : Gl) (c_0 : qa) : Option (qa) :=
  (bif c_0.f1_bad then
  (bif (!true) then
  ((qr g_a1.op 0 12 (⟨c_0.f0_b, true⟩ : qa)).bind fun r_3 =>
  ((qci fuel g_a1.n g_a1.ts r_3).bind fun r_4 =>
  some (r_4)))
  else
  some ((⟨c_0.f0_b, true⟩ : qa)))
  else
  ((qlN g_a1).bind fun r_5 =>
  (bif (!(!r_5)) then
  ((qr g_a1.op 0 12 (⟨c_0.f0_b, (!r_5)⟩ : qa)).bind fun r_7 =>
  ((qci fuel g_a1.n g_a1.ts r_7).bind fun r_8 =>
  some (r_8)))
  else
  some ((⟨c_0.f0_b, (!r_5)⟩ : qa)))))
set_option maxHeartbeats 1000000 in
theorem qgV (fuel : Nat) (g_a1 : Gl) (c_0 : qa) (b_o0 : Nat) (res : qa) (hr : qcV fuel g_a1 c_0 = some res) : Spec Tryz.prog 135 [.ref b_o0 0 [], encG g_a1] [.cell b_o0 (qf c_0)] (fun d σ => d = .tup [] ∧ σ = [.cell b_o0 (qf res)]) := by
  unfold qcV at hr
  refine qR [(0, .ref b_o0 0 []), (1, encG g_a1)] Tryz.func135 rfl rfl fun K hK => (qh (gr [.d] (r_d rfl rfl rfl (qef rfl rfl rfl) (qj (qh (gr [.d, .d, .d, .d, .r, .d, .d, .d, .d, .d, .d, .d, .w] (r_d rfl rfl rfl (qb rfl rfl) (r_d rfl rfl rfl (qb rfl rfl) (r_d rfl rfl rfl (qQ rfl rfl) (r_d rfl rfl rfl (qL rfl qG rfl) (r_r rfl rfl rfl (qap rfl rfl (.head _) rfl rfl (by exact qcE) rfl) ?_)))))))))))
  refine r_d rfl rfl rfl (qb rfl rfl) ?_
  refine r_sB 9 rfl hr (fun h9_0 hr => ?_) (fun h9_0 hr => ?_)
  ·
   refine qc rfl rfl rfl (qc rfl rfl rfl (qc rfl rfl rfl (r_d rfl rfl rfl (qy rfl rfl rfl) (r_d rfl rfl rfl (qQ rfl rfl) (r_d rfl rfl rfl (qL rfl qG rfl) (qbE rfl rfl rfl (qcu _ rfl rfl rfl (Wk.refl _) (pf0 _) rfl rfl (by exact qcE) rfl rfl rfl) (qj (qh (gr [.d, .d, .d, .r, .d] (r_d rfl rfl rfl (qb rfl rfl) (r_d rfl rfl rfl (qQ rfl rfl) ?_)))))))))))
   refine r_d rfl rfl rfl (qL rfl qG rfl) (r_r rfl rfl rfl (qap rfl rfl (.head _) rfl rfl (by exact qcE) rfl) (r_d rfl rfl rfl (qdO rfl rfl) (qj ?_)))
   refine g_sB 20 rfl hr (fun h20_1 hr => ?_) (fun h20_1 hr => ?_)
   ·
    refine qo rfl (qh (gr [.d, .d, .d, .w] (r_d rfl rfl rfl (qb rfl rfl) (r_d rfl rfl rfl (qg rfl qdo rfl rfl rfl rfl) (r_d rfl rfl rfl (qk rfl rfl (by exact qW) rfl) ?_)))))
    obtain ⟨r_3, hr_3, hr⟩ := bindS hr
    refine r_w rfl rfl rfl (qac _ rfl qz (.oc rfl (.oc rfl (.oc rfl (.oc rfl .nil)))) (by exact (pf0 _)) (qw _ _ _ _ _ _ hr_3)) ?_
    rintro _ _ ⟨_, ⟨rfl, rfl⟩, rfl⟩
    refine r_st ((.cell b_o0 (qf r_3)) :: _) rfl (qj (gr [.d, .d, .d, .d, .d, .w] (r_d rfl rfl rfl (qb rfl rfl) (r_d rfl rfl rfl (qg rfl qhc rfl rfl rfl rfl) (r_d rfl rfl rfl (qk rfl rfl (by exact qdg) rfl) (r_d rfl rfl rfl (qg rfl qcB rfl rfl rfl rfl) (r_d rfl rfl rfl (qk rfl rfl (by exact qal) rfl) ?_)))))))
    obtain ⟨r_4, hr_4, hr⟩ := bindS hr
    refine r_w rfl rfl rfl (qac _ rfl qeS (.oc rfl (.oc rfl (.oc rfl .nil))) (by exact (pf0 _)) (qev fuel _ _ _ _ _ hr_4)) ?_
    rintro _ _ ⟨_, ⟨rfl, rfl⟩, rfl⟩
    refine r_st ((.cell b_o0 (qf r_4)) :: _) rfl (qj ?_)
    obtain rfl := Option.some.inj hr
    refine qfN Tryz.func135 _ .nil ?_
    exact ⟨rfl, rfl⟩
   ·
    refine qs rfl (qE ?_)
    obtain rfl := Option.some.inj hr
    refine qfN Tryz.func135 _ .nil ?_
    exact ⟨rfl, rfl⟩
  ·
   refine r_d rfl rfl rfl (qk rfl rfl (by exact qdb) (qbi _)) ?_
   obtain ⟨r_5, hr_5, hr⟩ := bindS hr
   refine r_d rfl rfl rfl (qK rfl qmW (.oc rfl .nil) (qmO _ _ hr_5)) (r_d rfl rfl rfl (qdO rfl rfl) (r_d rfl rfl rfl (qD rfl rfl rfl) (r_d rfl rfl rfl (qQ rfl rfl) (r_d rfl rfl rfl (qL rfl qG rfl) (qbE rfl rfl rfl (qcu _ rfl rfl rfl (Wk.refl _) (pf0 _) rfl rfl (by exact qcE) rfl rfl rfl) (qj (qh (gr [.d, .d, .d, .r, .d] (r_d rfl rfl rfl (qb rfl rfl) (r_d rfl rfl rfl (qQ rfl rfl) (r_d rfl rfl rfl (qL rfl qG rfl) ?_)))))))))))
   refine r_r rfl rfl rfl (qap rfl rfl (.head _) rfl rfl (by exact qcE) rfl) (r_d rfl rfl rfl (qdO rfl rfl) (qj ?_))
   refine g_sB 20 rfl hr (fun h20_5 hr => ?_) (fun h20_5 hr => ?_)
   ·
    refine qo rfl (qh (gr [.d, .d, .d, .w] (r_d rfl rfl rfl (qb rfl rfl) (r_d rfl rfl rfl (qg rfl qdo rfl rfl rfl rfl) (r_d rfl rfl rfl (qk rfl rfl (by exact qW) rfl) ?_)))))
    obtain ⟨r_7, hr_7, hr⟩ := bindS hr
    refine r_w rfl rfl rfl (qac _ rfl qz (.oc rfl (.oc rfl (.oc rfl (.oc rfl .nil)))) (by exact (pf0 _)) (qw _ _ _ _ _ _ hr_7)) ?_
    rintro _ _ ⟨_, ⟨rfl, rfl⟩, rfl⟩
    refine r_st ((.cell b_o0 (qf r_7)) :: _) rfl (qj (gr [.d, .d, .d, .d, .d, .w] (r_d rfl rfl rfl (qb rfl rfl) (r_d rfl rfl rfl (qg rfl qhc rfl rfl rfl rfl) (r_d rfl rfl rfl (qk rfl rfl (by exact qdg) rfl) (r_d rfl rfl rfl (qg rfl qcB rfl rfl rfl rfl) (r_d rfl rfl rfl (qk rfl rfl (by exact qal) rfl) ?_)))))))
    obtain ⟨r_8, hr_8, hr⟩ := bindS hr
    refine r_w rfl rfl rfl (qac _ rfl qeS (.oc rfl (.oc rfl (.oc rfl .nil))) (by exact (pf0 _)) (qev fuel _ _ _ _ _ hr_8)) ?_
    rintro _ _ ⟨_, ⟨rfl, rfl⟩, rfl⟩
    refine r_st ((.cell b_o0 (qf r_8)) :: _) rfl (qj ?_)
    obtain rfl := Option.some.inj hr
    refine qfN Tryz.func135 _ .nil ?_
    exact ⟨rfl, rfl⟩
   ·
    refine qs rfl (qE ?_)
    obtain rfl := Option.some.inj hr
    refine qfN Tryz.func135 _ .nil ?_
    exact ⟨rfl, rfl⟩
noncomputable def qd4 (k : (qa) → Option (qa)) (fuel : Nat) : List Gl → qa → Option (qa)
  | [], w_4 =>
  (k w_4)
  | q_6 :: rest, w_4 =>
  ((qcV fuel q_6 w_4).bind fun r_8 =>
  (qd4 k fuel rest r_8))
noncomputable def qgj (fuel : Nat) (l_a1 : (List Gl)) (most_a2 : Int) (c_0 : qa) : Option (qa) :=
  ((qr (l_a1.length : Int) 0 most_a2 c_0).bind fun r_1 =>
  (bif r_1.f1_bad then
  some (r_1)
  else
  (qd4 (fun w_5 =>
  some (w_5)) fuel l_a1 r_1)))
set_option maxHeartbeats 1000000 in
theorem qjr (fuel : Nat) (l_a1 : (List Gl)) (most_a2 : Int) (c_0 : qa) (b_o0 : Nat) (res : qa) (hr : qgj fuel l_a1 most_a2 c_0 = some res) : Spec Tryz.prog 134 [.ref b_o0 0 [], .lst (l_a1.map encG), .int .i64 most_a2, .clo (.func 135) [.ref b_o0 0 []] []] [.cell b_o0 (qf c_0)] (fun d σ => d = .tup [] ∧ σ = [.cell b_o0 (qf res)]) := by
  unfold qgj at hr
  refine qR [(0, .ref b_o0 0 []), (1, .lst (l_a1.map encG)), (2, .int .i64 most_a2), (3, .clo (.func 135) [.ref b_o0 0 []] [])] Tryz.func134 rfl rfl fun K hK => (qh (gr [.d, .d, .d, .d, .w] (r_d rfl rfl rfl (qb rfl rfl) (r_d rfl rfl rfl (qb rfl rfl) (r_d rfl rfl rfl (qT (f := encG) l_a1 rfl qY rfl (asl rfl)) (r_d rfl rfl rfl (qb rfl rfl) ?_))))))
  obtain ⟨r_1, hr_1, hr⟩ := bindS hr
  refine r_w rfl rfl rfl (qac _ rfl qz (.oc rfl (.oc rfl (.oc rfl (.oc rfl .nil)))) (by exact (pf0 _)) (qw _ _ _ _ _ _ hr_1)) ?_
  rintro _ _ ⟨_, ⟨rfl, rfl⟩, rfl⟩
  refine r_st ((.cell b_o0 (qf r_1)) :: _) rfl (qj (qh (qh (gr [.d, .d, .d, .r] (r_d rfl rfl rfl (qb rfl rfl) (r_d rfl rfl rfl (qQ rfl rfl) (r_d rfl rfl rfl (qL rfl qG rfl) (r_r rfl rfl rfl (qap rfl rfl (.head _) rfl rfl (by exact qcE) rfl) (qj ?_)))))))))
  refine g_sB 18 rfl hr (fun h18_1 hr => ?_) (fun h18_1 hr => ?_)
  ·
   refine qo rfl ?_
   obtain rfl := Option.some.inj hr
   refine qJ Tryz.func134 _ .nil ?_
   exact ⟨rfl, rfl⟩
  ·
   refine qs rfl (qE (qh (gr [.d, .d, .d] (r_d rfl rfl rfl (qb rfl rfl) (r_d rfl rfl rfl (qT (f := encG) l_a1 rfl qY rfl (asl rfl)) (r_d rfl rfl rfl (qb rfl rfl) (qj ?_)))))))
   obtain ⟨kk0, hkk0, hr⟩ := exK (fun k => qd4 k fuel l_a1 r_1) hr
   refine qdG 1 rfl (asl rfl) fun hla0 => ?_
   simp only [List.length_map] at hla0
   refine qV (fun env σ => ∃ (w_5 : qa), env = [] ∧ σ = [.cell b_o0 (qf w_5)] ∧ kk0 w_5 = some res) ?_ (fun HK0 => ?_)
   ·
    rintro _ _ ⟨w_5, rfl, rfl, hr⟩
    rw [hkk0] at hr
    obtain rfl := Option.some.inj hr
    refine qfN Tryz.func134 _ .nil ?_
    exact ⟨rfl, rfl⟩
   ·
    refine qM [(3, .clo (.func 135) [.ref b_o0 0 []] []), (19, .lst (l_a1.map encG)), (20, .int .i64 (l_a1.length : Int)), (21, .int .i64 ((0 : Nat) : Int))] (Sub.cons' rfl (Sub.cons' rfl (Sub.cons' rfl (Sub.cons' rfl (Sub.nil _))))) (qaM (fun n env σ => ∃ (i_3 : Nat) (w_4 : qa), (n = l_a1.length - i_3) ∧ (env = [(3, .clo (.func 135) [.ref b_o0 0 []] []), (19, .lst (l_a1.map encG)), (20, .int .i64 (l_a1.length : Int)), (21, .int .i64 (i_3 : Int))]) ∧ (σ = [.cell b_o0 (qf w_4)]) ∧ (i_3 ≤ l_a1.length) ∧ (qd4 kk0 fuel (l_a1.drop i_3) w_4 = some res)) _ ⟨0, r_1, rfl, rfl, rfl, Nat.zero_le _, hr⟩ ?_)
    rintro n _ _ ⟨i_3, w_4, rfl, rfl, rfl, hi0, hr⟩ IH0
    rcases listStep l_a1 i_3 hi0 with ⟨ht0, hd0, he0⟩ | ⟨q_6, ht0, hd0, hq0, hlt0⟩
    ·
     rw [hd0, qd4] at hr
     refine qh (gr [.d] (r_d rfl rfl rfl (qB rfl rfl rfl rfl) (qj (qh (qC 22 false rfl ht0 (qs rfl (qaw rfl (qM [] (Sub.nil _) ?_))))))))
     exact HK0 _ _ ⟨w_4, rfl, rfl, hr⟩
    ·
     rw [hd0, qd4] at hr
     refine qh (gr [.d] (r_d rfl rfl rfl (qB rfl rfl rfl rfl) (qj (qh (qC 22 true rfl ht0 (qo rfl (qE (qh (q0 (qh (gr [.d, .d, .w, .w] ?_)))))))))))
     refine r_d rfl rfl rfl (qN (f := encG) l_a1 rfl qY rfl (asl rfl) rfl hq0 qbi rfl) (r_d rfl rfl rfl (qk rfl rfl (by exact qdb) (qbi _)) (r_w rfl rfl rfl (qa8 rfl qmi) ?_))
     rintro _ _ ⟨b9_6, rfl, rfl⟩
     refine qbE rfl rfl rfl (qag _ rfl rfl rfl (Wk.refl _) (pf0 _) (by exact qdb) (qbi _) rfl rfl) (qj (qaT 9 b9_6 rfl (pf0 _) (gr [.d, .d, .w] (r_d rfl rfl rfl (qb rfl rfl) (r_d rfl rfl rfl (qk rfl rfl (by exact qdb) (qbi _)) ?_)))))
     obtain ⟨r_8, hr_8, hr⟩ := bindS hr
     refine r_w rfl rfl rfl (qfj _ rfl rfl qhY (.oc rfl .nil) rfl (by exact (pf0 _)) (qgV fuel _ _ _ _ hr_8)) ?_
     rintro _ _ ⟨_, ⟨rfl, rfl⟩, rfl⟩
     refine r_st ((.cell b_o0 (qf r_8)) :: _) rfl (qj (qF (gr [.d, .d] (r_d rfl rfl rfl (s_ar (r := ((i_3 + 1 : Nat) : Int)) rfl rfl rfl (by simp [iar]) (by omega)) (r_d rfl rfl rfl (qb rfl rfl) (qj (qM [(3, .clo (.func 135) [.ref b_o0 0 []] []), (19, .lst (l_a1.map encG)), (20, .int .i64 (l_a1.length : Int)), (21, .int .i64 ((i_3 + 1 : Nat) : Int))] (Sub.cons' rfl (Sub.cons' rfl (Sub.cons' rfl (Sub.cons' rfl (Sub.nil _))))) ?_)))))))
     exact IH0 _ _ _ (by omega) ⟨(i_3 + 1), r_8, rfl, rfl, rfl, (by omega), hr⟩
noncomputable def qfK (fuel : Nat) (r_a1 : qU) (c_0 : qa) : Option (qa) :=
  ((qb6 r_a1.f0_Name c_0).bind fun r_1 =>
  ((qgy fuel r_a1.f1_Keep 4 r_1).bind fun r_2 =>
  ((qgy fuel r_a1.f2_Remove 4 r_2).bind fun r_3 =>
  ((qgj fuel r_a1.f3_Guard 12 r_3).bind fun r_4 =>
  ((qgj fuel r_a1.f4_Body 12 r_4).bind fun r_5 =>
  ((qr r_a1.f5_Vars 0 1048576 r_5).bind fun r_6 =>
  some (r_6)))))))
set_option maxHeartbeats 1000000 in
theorem qjk (fuel : Nat) (r_a1 : qU) (c_0 : qa) (b_o0 : Nat) (res : qa) (hr : qfK fuel r_a1 c_0 = some res) : Spec Tryz.prog 39 [.ref b_o0 0 [], qm r_a1] [.cell b_o0 (qf c_0)] (fun d σ => d = .tup [] ∧ σ = [.cell b_o0 (qf res)]) := by
  unfold qfK at hr
  refine qR [(0, .ref b_o0 0 []), (1, qm r_a1)] Tryz.func39 rfl rfl fun K hK => (qh (gr [.d] (r_d rfl rfl rfl (qef rfl rfl rfl) (qj (qh (gr [.d, .d, .d, .w] (r_d rfl rfl rfl (qb rfl rfl) (r_d rfl rfl rfl (qg rfl qi0 rfl rfl rfl rfl) (r_d rfl rfl rfl (qk rfl rfl (by exact qdg) rfl) ?_)))))))))
  obtain ⟨r_1, hr_1, hr⟩ := bindS hr
  refine r_w rfl rfl rfl (qac _ rfl qfb (.oc rfl (.oc rfl .nil)) (by exact (pf0 _)) (qeE _ _ _ _ hr_1)) ?_
  rintro _ _ ⟨_, ⟨rfl, rfl⟩, rfl⟩
  refine r_st ((.cell b_o0 (qf r_1)) :: _) rfl (qj (qh (gr [.d, .d, .d, .d, .d, .w] (r_d rfl rfl rfl (qb rfl rfl) (r_d rfl rfl rfl (qg rfl qeV rfl rfl rfl rfl) (r_d rfl rfl rfl (qk rfl rfl (by exact qca) rfl) (r_d rfl rfl rfl (qb rfl rfl) (r_d rfl rfl rfl (qcg rfl rfl rfl) ?_))))))))
  obtain ⟨r_2, hr_2, hr⟩ := bindS hr
  refine r_w rfl rfl rfl (qac _ rfl qhv (.oc rfl (.oc rfl (.oc rfl (.oc rfl .nil)))) (by exact (pf0 _)) (qjs fuel _ _ _ _ _ hr_2)) ?_
  rintro _ _ ⟨_, ⟨rfl, rfl⟩, rfl⟩
  refine r_st ((.cell b_o0 (qf r_2)) :: _) rfl (qj (qh (gr [.d, .d, .d, .d, .d, .w] (r_d rfl rfl rfl (qb rfl rfl) (r_d rfl rfl rfl (qg rfl qe2 rfl rfl rfl rfl) (r_d rfl rfl rfl (qk rfl rfl (by exact qca) rfl) (r_d rfl rfl rfl (qb rfl rfl) (r_d rfl rfl rfl (qcg rfl rfl rfl) ?_))))))))
  obtain ⟨r_3, hr_3, hr⟩ := bindS hr
  refine r_w rfl rfl rfl (qac _ rfl qhv (.oc rfl (.oc rfl (.oc rfl (.oc rfl .nil)))) (by exact (pf0 _)) (qjs fuel _ _ _ _ _ hr_3)) ?_
  rintro _ _ ⟨_, ⟨rfl, rfl⟩, rfl⟩
  refine r_st ((.cell b_o0 (qf r_3)) :: _) rfl (qj (qh (gr [.d, .d, .d, .d, .d, .w] (r_d rfl rfl rfl (qb rfl rfl) (r_d rfl rfl rfl (qg rfl qdM rfl rfl rfl rfl) (r_d rfl rfl rfl (qk rfl rfl (by exact qa4) rfl) (r_d rfl rfl rfl (qb rfl rfl) (r_d rfl rfl rfl (qcg rfl rfl rfl) ?_))))))))
  obtain ⟨r_4, hr_4, hr⟩ := bindS hr
  refine r_w rfl rfl rfl (qac _ rfl qhy (.oc rfl (.oc rfl (.oc rfl (.oc rfl .nil)))) (by exact (pf0 _)) (qjr fuel _ _ _ _ _ hr_4)) ?_
  rintro _ _ ⟨_, ⟨rfl, rfl⟩, rfl⟩
  refine r_st ((.cell b_o0 (qf r_4)) :: _) rfl (qj (qh (gr [.d, .d, .d, .d, .d, .w] (r_d rfl rfl rfl (qb rfl rfl) (r_d rfl rfl rfl (qg rfl qec rfl rfl rfl rfl) (r_d rfl rfl rfl (qk rfl rfl (by exact qa4) rfl) (r_d rfl rfl rfl (qb rfl rfl) (r_d rfl rfl rfl (qcg rfl rfl rfl) ?_))))))))
  obtain ⟨r_5, hr_5, hr⟩ := bindS hr
  refine r_w rfl rfl rfl (qac _ rfl qhy (.oc rfl (.oc rfl (.oc rfl (.oc rfl .nil)))) (by exact (pf0 _)) (qjr fuel _ _ _ _ _ hr_5)) ?_
  rintro _ _ ⟨_, ⟨rfl, rfl⟩, rfl⟩
  refine r_st ((.cell b_o0 (qf r_5)) :: _) rfl (qj (gr [.d, .d, .d, .w] (r_d rfl rfl rfl (qb rfl rfl) (r_d rfl rfl rfl (qg rfl qk7 rfl rfl rfl rfl) (r_d rfl rfl rfl (qk rfl rfl (by exact qW) rfl) ?_)))))
  obtain ⟨r_6, hr_6, hr⟩ := bindS hr
  refine r_w rfl rfl rfl (qac _ rfl qz (.oc rfl (.oc rfl (.oc rfl (.oc rfl .nil)))) (by exact (pf0 _)) (qw _ _ _ _ _ _ hr_6)) ?_
  rintro _ _ ⟨_, ⟨rfl, rfl⟩, rfl⟩
  refine r_st ((.cell b_o0 (qf r_6)) :: _) rfl (qj ?_)
  obtain rfl := Option.some.inj hr
  refine qfN Tryz.func39 _ .nil ?_
  exact ⟨rfl, rfl⟩
noncomputable def qd2 (k : (qa) → Option (qa)) (fuel : Nat) : List qU → qa → Option (qa)
  | [], w_4 =>
  (k w_4)
  | q_6 :: rest, w_4 =>
  ((qfK fuel q_6 w_4).bind fun r_8 =>
  (qd2 k fuel rest r_8))
noncomputable def qhM (fuel : Nat) (l_a1 : (List qU)) (most_a2 : Int) (c_0 : qa) : Option (qa) :=
  ((qr (l_a1.length : Int) 0 most_a2 c_0).bind fun r_1 =>
  (bif r_1.f1_bad then
  some (r_1)
  else
  (qd2 (fun w_5 =>
  some (w_5)) fuel l_a1 r_1)))
set_option maxHeartbeats 1000000 in
theorem qmk (fuel : Nat) (l_a1 : (List qU)) (most_a2 : Int) (c_0 : qa) (b_o0 : Nat) (res : qa) (hr : qhM fuel l_a1 most_a2 c_0 = some res) : Spec Tryz.prog 38 [.ref b_o0 0 [], .lst (l_a1.map qm), .int .i64 most_a2, .clo (.func 39) [.ref b_o0 0 []] []] [.cell b_o0 (qf c_0)] (fun d σ => d = .tup [] ∧ σ = [.cell b_o0 (qf res)]) := by
  unfold qhM at hr
  refine qR [(0, .ref b_o0 0 []), (1, .lst (l_a1.map qm)), (2, .int .i64 most_a2), (3, .clo (.func 39) [.ref b_o0 0 []] [])] Tryz.func38 rfl rfl fun K hK => (qh (gr [.d, .d, .d, .d, .w] (r_d rfl rfl rfl (qb rfl rfl) (r_d rfl rfl rfl (qb rfl rfl) (r_d rfl rfl rfl (qT (f := qm) l_a1 rfl qbe rfl (asl rfl)) (r_d rfl rfl rfl (qb rfl rfl) ?_))))))
  obtain ⟨r_1, hr_1, hr⟩ := bindS hr
  refine r_w rfl rfl rfl (qac _ rfl qz (.oc rfl (.oc rfl (.oc rfl (.oc rfl .nil)))) (by exact (pf0 _)) (qw _ _ _ _ _ _ hr_1)) ?_
  rintro _ _ ⟨_, ⟨rfl, rfl⟩, rfl⟩
  refine r_st ((.cell b_o0 (qf r_1)) :: _) rfl (qj (qh (qh (gr [.d, .d, .d, .r] (r_d rfl rfl rfl (qb rfl rfl) (r_d rfl rfl rfl (qQ rfl rfl) (r_d rfl rfl rfl (qL rfl qG rfl) (r_r rfl rfl rfl (qap rfl rfl (.head _) rfl rfl (by exact qcE) rfl) (qj ?_)))))))))
  refine g_sB 18 rfl hr (fun h18_1 hr => ?_) (fun h18_1 hr => ?_)
  ·
   refine qo rfl ?_
   obtain rfl := Option.some.inj hr
   refine qJ Tryz.func38 _ .nil ?_
   exact ⟨rfl, rfl⟩
  ·
   refine qs rfl (qE (qh (gr [.d, .d, .d] (r_d rfl rfl rfl (qb rfl rfl) (r_d rfl rfl rfl (qT (f := qm) l_a1 rfl qbe rfl (asl rfl)) (r_d rfl rfl rfl (qb rfl rfl) (qj ?_)))))))
   obtain ⟨kk0, hkk0, hr⟩ := exK (fun k => qd2 k fuel l_a1 r_1) hr
   refine qdG 1 rfl (asl rfl) fun hla0 => ?_
   simp only [List.length_map] at hla0
   refine qV (fun env σ => ∃ (w_5 : qa), env = [] ∧ σ = [.cell b_o0 (qf w_5)] ∧ kk0 w_5 = some res) ?_ (fun HK0 => ?_)
   ·
    rintro _ _ ⟨w_5, rfl, rfl, hr⟩
    rw [hkk0] at hr
    obtain rfl := Option.some.inj hr
    refine qfN Tryz.func38 _ .nil ?_
    exact ⟨rfl, rfl⟩
   ·
    refine qM [(3, .clo (.func 39) [.ref b_o0 0 []] []), (19, .lst (l_a1.map qm)), (20, .int .i64 (l_a1.length : Int)), (21, .int .i64 ((0 : Nat) : Int))] (Sub.cons' rfl (Sub.cons' rfl (Sub.cons' rfl (Sub.cons' rfl (Sub.nil _))))) (qaM (fun n env σ => ∃ (i_3 : Nat) (w_4 : qa), (n = l_a1.length - i_3) ∧ (env = [(3, .clo (.func 39) [.ref b_o0 0 []] []), (19, .lst (l_a1.map qm)), (20, .int .i64 (l_a1.length : Int)), (21, .int .i64 (i_3 : Int))]) ∧ (σ = [.cell b_o0 (qf w_4)]) ∧ (i_3 ≤ l_a1.length) ∧ (qd2 kk0 fuel (l_a1.drop i_3) w_4 = some res)) _ ⟨0, r_1, rfl, rfl, rfl, Nat.zero_le _, hr⟩ ?_)
    rintro n _ _ ⟨i_3, w_4, rfl, rfl, rfl, hi0, hr⟩ IH0
    rcases listStep l_a1 i_3 hi0 with ⟨ht0, hd0, he0⟩ | ⟨q_6, ht0, hd0, hq0, hlt0⟩
    ·
     rw [hd0, qd2] at hr
     refine qh (gr [.d] (r_d rfl rfl rfl (qB rfl rfl rfl rfl) (qj (qh (qC 22 false rfl ht0 (qs rfl (qaw rfl (qM [] (Sub.nil _) ?_))))))))
     exact HK0 _ _ ⟨w_4, rfl, rfl, hr⟩
    ·
     rw [hd0, qd2] at hr
     refine qh (gr [.d] (r_d rfl rfl rfl (qB rfl rfl rfl rfl) (qj (qh (qC 22 true rfl ht0 (qo rfl (qE (qh (q0 (qh (gr [.d, .d, .w, .w] ?_)))))))))))
     refine r_d rfl rfl rfl (qN (f := qm) l_a1 rfl qbe rfl (asl rfl) rfl hq0 qah rfl) (r_d rfl rfl rfl (qk rfl rfl (by exact qbF) (qah _)) (r_w rfl rfl rfl (qa8 rfl qjI) ?_))
     rintro _ _ ⟨b9_6, rfl, rfl⟩
     refine qbE rfl rfl rfl (qag _ rfl rfl rfl (Wk.refl _) (pf0 _) (by exact qbF) (qah _) rfl rfl) (qj (qaT 9 b9_6 rfl (pf0 _) (gr [.d, .d, .w] (r_d rfl rfl rfl (qb rfl rfl) (r_d rfl rfl rfl (qk rfl rfl (by exact qbF) (qah _)) ?_)))))
     obtain ⟨r_8, hr_8, hr⟩ := bindS hr
     refine r_w rfl rfl rfl (qfj _ rfl rfl qks (.oc rfl .nil) rfl (by exact (pf0 _)) (qjk fuel _ _ _ _ hr_8)) ?_
     rintro _ _ ⟨_, ⟨rfl, rfl⟩, rfl⟩
     refine r_st ((.cell b_o0 (qf r_8)) :: _) rfl (qj (qF (gr [.d, .d] (r_d rfl rfl rfl (s_ar (r := ((i_3 + 1 : Nat) : Int)) rfl rfl rfl (by simp [iar]) (by omega)) (r_d rfl rfl rfl (qb rfl rfl) (qj (qM [(3, .clo (.func 39) [.ref b_o0 0 []] []), (19, .lst (l_a1.map qm)), (20, .int .i64 (l_a1.length : Int)), (21, .int .i64 ((i_3 + 1 : Nat) : Int))] (Sub.cons' rfl (Sub.cons' rfl (Sub.cons' rfl (Sub.cons' rfl (Sub.nil _))))) ?_)))))))
     exact IH0 _ _ _ (by omega) ⟨(i_3 + 1), r_8, rfl, rfl, rfl, (by omega), hr⟩
noncomputable def qcx (c_0 : qa) : Option ((List Int)) :=
  (bif c_0.f1_bad then
  some ([])
  else
  some (c_0.f0_b))
set_option maxHeartbeats 1000000 in
theorem qfP (c_0 : qa) (b_o0 : Nat) (res : (List Int)) (hr : qcx c_0 = some res) : Spec Tryz.prog 40 [.ref b_o0 0 []] [.cell b_o0 (qf c_0)] (fun d σ => d = .lst (res.map (D.int .u8)) ∧ σ = [.cell b_o0 (qf c_0)]) := by
  unfold qcx at hr
  refine qR [(0, .ref b_o0 0 [])] Tryz.func40 rfl rfl fun K hK => (qh (gr [.d] (r_d rfl rfl rfl (qe rfl rfl) (qj (qh (qh (gr [.d, .d, .d, .r] (r_d rfl rfl rfl (qb rfl rfl) (r_d rfl rfl rfl (qQ rfl rfl) (r_d rfl rfl rfl (qL rfl qG rfl) (r_r rfl rfl rfl (qap rfl rfl (.head _) rfl rfl (by exact qcE) rfl) ?_)))))))))))
  refine qj ?_
  refine g_sB 6 rfl hr (fun h6_0 hr => ?_) (fun h6_0 hr => ?_)
  ·
   refine qo rfl (qh (gr [.d] (r_d rfl rfl rfl (qe rfl rfl) (qj ?_))))
   obtain rfl := Option.some.inj hr
   refine qJ Tryz.func40 _ (.cons (resTmp rfl (Wk.full _)) .nil) ?_
   exact ⟨rfl, rfl⟩
  ·
   refine qs rfl (qE (qh (gr [.d, .d, .d, .r, .d] (r_d rfl rfl rfl (qb rfl rfl) (r_d rfl rfl rfl (qQ rfl rfl) (r_d rfl rfl rfl (qL rfl qaQ rfl) (r_r rfl rfl rfl (qap rfl rfl (.head _) rfl rfl (by exact qdR) rfl) (r_d rfl rfl rfl (qe rfl rfl) (qj ?_)))))))))
   obtain rfl := Option.some.inj hr
   refine qJ Tryz.func40 _ (.cons (resTmp rfl (Wk.refl _)) .nil) ?_
   exact ⟨rfl, rfl⟩
noncomputable def qgl (fuel : Nat) (p_a0 : qI) : Option ((List Int)) :=
  ((qr 1 1 1 (⟨[], false⟩ : qa)).bind fun r_3 =>
  ((qhK p_a0.f0_Decls 30 r_3).bind fun r_4 =>
  ((qhM fuel p_a0.f1_Rules 40 r_4).bind fun r_5 =>
  ((qcx r_5).bind fun r_6 =>
  some (r_6)))))
set_option maxHeartbeats 1000000 in
theorem qjH (fuel : Nat) (p_a0 : qI) (res : (List Int)) (hr : qgl fuel p_a0 = some res) : Gives Tryz.prog 11 [qn p_a0] (.lst (res.map (D.int .u8))) := by
  unfold qgl at hr
  refine qR [(0, qn p_a0)] Tryz.func11 rfl rfl fun K hK => (qh (gr [.d, .d] (r_d rfl rfl rfl (qef rfl rfl rfl) (r_d rfl rfl rfl (qe rfl rfl) (qj (qh (gr [.d, .w, .w, .w] (r_d rfl rfl rfl (qeB rfl qim .nil (.nil _)) (r_w rfl rfl rfl (qmv rfl rfl rfl) ?_)))))))))
  rintro _ _ ⟨b5_0, rfl, rfl⟩
  refine r_w rfl rfl rfl (qa8 rfl qiH) ?_
  rintro _ _ ⟨b3_1, rfl, rfl⟩
  refine qbE rfl rfl rfl (qag _ rfl rfl rfl (Wk.refl _) (pf0 _) (by exact qO) rfl rfl rfl) (qj (qaT 3 b3_1 rfl (pf0 _) (qh (gr [.d, .w] (r_d rfl rfl rfl (qk rfl rfl (by exact qO) rfl) ?_)))))
  obtain ⟨r_3, hr_3, hr⟩ := bindS hr
  refine r_w rfl rfl rfl (qac _ rfl qz (.oc rfl (.oc rfl (.oc rfl (.oc rfl .nil)))) (by exact (pf0 _)) (qw _ _ _ _ _ _ hr_3)) ?_
  rintro _ _ ⟨_, ⟨rfl, rfl⟩, rfl⟩
  refine r_st ((.cell b5_0 (qf r_3)) :: _) rfl (qj (qh (gr [.d, .d, .d, .d, .w] (r_d rfl rfl rfl (qk rfl rfl (by exact qO) rfl) (r_d rfl rfl rfl (qg rfl qce rfl rfl rfl rfl) (r_d rfl rfl rfl (qk rfl rfl (by exact qde) rfl) (r_d rfl rfl rfl (qcg rfl rfl rfl) ?_)))))))
  obtain ⟨r_4, hr_4, hr⟩ := bindS hr
  refine r_w rfl rfl rfl (qac _ rfl qjV (.oc rfl (.oc rfl (.oc rfl (.oc rfl .nil)))) (by exact (pf0 _)) (ql2 _ _ _ _ _ hr_4)) ?_
  rintro _ _ ⟨_, ⟨rfl, rfl⟩, rfl⟩
  refine r_st ((.cell b5_0 (qf r_4)) :: _) rfl (qj (qh (gr [.d, .d, .d, .d, .d, .w] (r_d rfl rfl rfl (qk rfl rfl (by exact qO) rfl) (r_d rfl rfl rfl (qg rfl qaJ rfl rfl rfl rfl) (r_d rfl rfl rfl (qk rfl rfl (by exact qbZ) rfl) (r_d rfl rfl rfl (qk rfl rfl (by exact qO) rfl) (r_d rfl rfl rfl (qcg rfl rfl rfl) ?_))))))))
  obtain ⟨r_5, hr_5, hr⟩ := bindS hr
  refine r_w rfl rfl rfl (qac _ rfl qjW (.oc rfl (.oc rfl (.oc rfl (.oc rfl .nil)))) (by exact (pf0 _)) (qmk fuel _ _ _ _ _ hr_5)) ?_
  rintro _ _ ⟨_, ⟨rfl, rfl⟩, rfl⟩
  refine r_st ((.cell b5_0 (qf r_5)) :: _) rfl (qj (qh (gr [.d, .w, .d] (r_d rfl rfl rfl (qk rfl rfl (by exact qO) rfl) ?_))))
  obtain ⟨r_6, hr_6, hr⟩ := bindS hr
  refine r_w rfl rfl rfl (qac _ rfl qge (.oc rfl .nil) (by exact (pf0 _)) (qfP _ _ _ hr_6)) ?_
  rintro _ _ ⟨_, ⟨rfl, rfl⟩, rfl⟩
  refine r_st ((.cell b5_0 (qf r_5)) :: _) rfl (r_d rfl rfl rfl (qe rfl rfl) (qj ?_))
  obtain rfl := Option.some.inj hr
  refine qJ Tryz.func11 _ (.cons (resTmp rfl (Wk.refl _)) .nil) ?_
  rfl
noncomputable def qcJ (fuel : Nat) (f_a1 : qas) (c_0 : qa) : Option (qa) :=
  ((qr f_a1.f1_ID 0 2147483648 c_0).bind fun r_1 =>
  ((qr f_a1.f2_Occ (-1) 2147483648 r_1).bind fun r_2 =>
  (bif (f_a1.f1_ID == (0 : Int)) then
  ((qcV fuel f_a1.f0_Goal r_2).bind fun r_4 =>
  some (r_4))
  else
  (bif r_2.f1_bad then
  some ((⟨r_2.f0_b, true⟩ : qa))
  else
  (bif (f_a1.f0_Goal.op != (0 : Int)) then
  some ((⟨r_2.f0_b, true⟩ : qa))
  else
  (bif (!(f_a1.f0_Goal.n.toList == (⟨#[]⟩ : ByteArray).toList)) then
  some ((⟨r_2.f0_b, true⟩ : qa))
  else
  some ((⟨r_2.f0_b, (decide ((f_a1.f0_Goal.ts.length : Int) > (0 : Int)))⟩ : qa))))))))
set_option maxHeartbeats 1000000 in
theorem qi7 (fuel : Nat) (f_a1 : qas) (c_0 : qa) (b_o0 : Nat) (res : qa) (hr : qcJ fuel f_a1 c_0 = some res) : Spec Tryz.prog 59 [.ref b_o0 0 [], qP f_a1] [.cell b_o0 (qf c_0)] (fun d σ => d = .tup [] ∧ σ = [.cell b_o0 (qf res)]) := by
  unfold qcJ at hr
  refine qR [(0, .ref b_o0 0 []), (1, qP f_a1)] Tryz.func59 rfl rfl fun K hK => (qh (gr [.d] (r_d rfl rfl rfl (qef rfl rfl rfl) (qj (qh (gr [.d, .d, .d, .w] (r_d rfl rfl rfl (qb rfl rfl) (r_d rfl rfl rfl (qg rfl qfT rfl rfl (by simp [szs, sz, qbi]) rfl) (r_d rfl rfl rfl (qk rfl rfl (by exact qW) rfl) ?_)))))))))
  obtain ⟨r_1, hr_1, hr⟩ := bindS hr
  refine r_w rfl rfl rfl (qac _ rfl qz (.oc rfl (.oc rfl (.oc rfl (.oc rfl .nil)))) (by exact (pf0 _)) (qw _ _ _ _ _ _ hr_1)) ?_
  rintro _ _ ⟨_, ⟨rfl, rfl⟩, rfl⟩
  refine r_st ((.cell b_o0 (qf r_1)) :: _) rfl (qj (qh (gr [.d, .d, .d, .w] (r_d rfl rfl rfl (qb rfl rfl) (r_d rfl rfl rfl (qg rfl qgE rfl rfl (by simp [szs, sz, qbi]) rfl) (r_d rfl rfl rfl (qk rfl rfl (by exact qW) rfl) ?_))))))
  obtain ⟨r_2, hr_2, hr⟩ := bindS hr
  refine r_w rfl rfl rfl (qac _ rfl qz (.oc rfl (.oc rfl (.oc rfl (.oc rfl .nil)))) (by exact (pf0 _)) (qw _ _ _ _ _ _ hr_2)) ?_
  rintro _ _ ⟨_, ⟨rfl, rfl⟩, rfl⟩
  refine r_st ((.cell b_o0 (qf r_2)) :: _) rfl (qj (qh (qh (gr [.d, .d, .d] (r_d rfl rfl rfl (qg rfl qfT rfl rfl (by simp [szs, sz, qbi]) rfl) (r_d rfl rfl rfl (qk rfl rfl (by exact qW) rfl) (r_d rfl rfl rfl (qB rfl rfl rfl rfl) (qj ?_))))))))
  refine g_sB 14 rfl hr (fun h14_2 hr => ?_) (fun h14_2 hr => ?_)
  ·
   refine qo rfl (qh (gr [.d, .d, .d, .w] (r_d rfl rfl rfl (qb rfl rfl) (r_d rfl rfl rfl (qg rfl qe1 rfl rfl rfl rfl) (r_d rfl rfl rfl (qk rfl rfl (by exact qdb) (qbi _)) ?_)))))
   obtain ⟨r_4, hr_4, hr⟩ := bindS hr
   refine r_w rfl rfl rfl (qac _ rfl qhY (.oc rfl (.oc rfl .nil)) (by exact (pf0 _)) (qgV fuel _ _ _ _ hr_4)) ?_
   rintro _ _ ⟨_, ⟨rfl, rfl⟩, rfl⟩
   refine r_st ((.cell b_o0 (qf r_4)) :: _) rfl (qj ?_)
   obtain rfl := Option.some.inj hr
   refine qJ Tryz.func59 _ .nil ?_
   exact ⟨rfl, rfl⟩
  ·
   refine qs rfl (qE (gr [.d, .d, .d, .d, .r, .d, .d, .d, .d, .d, .d, .d, .d, .d, .d, .d, .d, .d, .d, .d, .d, .d, .d, .d, .d, .d, .w] (r_d rfl rfl rfl (qb rfl rfl) (r_d rfl rfl rfl (qb rfl rfl) (r_d rfl rfl rfl (qQ rfl rfl) (r_d rfl rfl rfl (qL rfl qG rfl) (r_r rfl rfl rfl (qap rfl rfl (.head _) rfl rfl (by exact qcE) rfl) (r_d rfl rfl rfl (qb rfl rfl) ?_))))))))
   refine r_sB 24 rfl hr (fun h24_4 hr => ?_) (fun h24_4 hr => ?_)
   ·
    refine qc rfl rfl rfl (qc rfl rfl rfl (qc rfl rfl rfl (qc rfl rfl rfl (r_d rfl rfl rfl (qy rfl rfl rfl) (r_d rfl rfl rfl (qb rfl rfl) (qc rfl rfl rfl (qc rfl rfl rfl (qc rfl rfl rfl (qc rfl rfl rfl (r_d rfl rfl rfl (qy rfl rfl rfl) (r_d rfl rfl rfl (qb rfl rfl) ?_)))))))))))
    refine qc rfl rfl rfl (qc rfl rfl rfl (qc rfl rfl rfl (qc rfl rfl rfl (qc rfl rfl rfl (r_d rfl rfl rfl (qy rfl rfl rfl) (r_d rfl rfl rfl (qQ rfl rfl) (r_d rfl rfl rfl (qL rfl qG rfl) (qbE rfl rfl rfl (qcu _ rfl rfl rfl (Wk.refl _) (pf0 _) rfl rfl (by exact qcE) rfl rfl rfl) (qj ?_)))))))))
    obtain rfl := Option.some.inj hr
    refine qfN Tryz.func59 _ .nil ?_
    exact ⟨rfl, rfl⟩
   ·
    refine r_d rfl rfl rfl (qg rfl qe1 rfl rfl rfl rfl) (r_d rfl rfl rfl (qg rfl qdo rfl rfl rfl rfl) (r_d rfl rfl rfl (qk rfl rfl (by exact qW) rfl) (r_d rfl rfl rfl (qB rfl rfl rfl rfl) (r_d rfl rfl rfl (qD rfl rfl rfl) (r_d rfl rfl rfl (qb rfl rfl) ?_)))))
    refine r_sB 30 rfl hr (fun h30_5 hr => ?_) (fun h30_5 hr => ?_)
    ·
     refine qc rfl rfl rfl (qc rfl rfl rfl (qc rfl rfl rfl (qc rfl rfl rfl (r_d rfl rfl rfl (qy rfl rfl rfl) (r_d rfl rfl rfl (qb rfl rfl) (qc rfl rfl rfl (qc rfl rfl rfl (qc rfl rfl rfl (qc rfl rfl rfl (qc rfl rfl rfl (r_d rfl rfl rfl (qy rfl rfl rfl) ?_)))))))))))
     refine r_d rfl rfl rfl (qQ rfl rfl) (r_d rfl rfl rfl (qL rfl qG rfl) (qbE rfl rfl rfl (qcu _ rfl rfl rfl (Wk.refl _) (pf0 _) rfl rfl (by exact qcE) rfl rfl rfl) (qj ?_)))
     obtain rfl := Option.some.inj hr
     refine qfN Tryz.func59 _ .nil ?_
     exact ⟨rfl, rfl⟩
    ·
     refine r_d rfl rfl rfl (qg rfl qe1 rfl rfl rfl rfl) (r_d rfl rfl rfl (qg rfl qhc rfl rfl rfl rfl) (r_d rfl rfl rfl (qk rfl rfl (by exact qdg) rfl) (r_d rfl rfl rfl (qnN rfl rfl rfl rfl) (r_d rfl rfl rfl (qD rfl rfl rfl) (r_d rfl rfl rfl (qb rfl rfl) ?_)))))
     refine r_sB 36 rfl hr (fun h36_6 hr => ?_) (fun h36_6 hr => ?_)
     ·
      refine qc rfl rfl rfl (qc rfl rfl rfl (qc rfl rfl rfl (qc rfl rfl rfl (qc rfl rfl rfl (r_d rfl rfl rfl (qy rfl rfl rfl) (r_d rfl rfl rfl (qQ rfl rfl) (r_d rfl rfl rfl (qL rfl qG rfl) (qbE rfl rfl rfl (qcu _ rfl rfl rfl (Wk.refl _) (pf0 _) rfl rfl (by exact qcE) rfl rfl rfl) (qj ?_)))))))))
      obtain rfl := Option.some.inj hr
      refine qfN Tryz.func59 _ .nil ?_
      exact ⟨rfl, rfl⟩
     ·
      refine r_d rfl rfl rfl (qg rfl qe1 rfl rfl rfl rfl) (r_d rfl rfl rfl (qg rfl qcB rfl rfl rfl rfl) (r_d rfl rfl rfl (qk rfl rfl (by exact qal) rfl) (r_d rfl rfl rfl (qT (f := encT) f_a1.f0_Goal.ts rfl qaj rfl (asl rfl)) (r_d rfl rfl rfl (qB rfl rfl rfl rfl) (r_d rfl rfl rfl (qD rfl rfl rfl) (r_d rfl rfl rfl (qQ rfl rfl) (r_d rfl rfl rfl (qL rfl qG rfl) (qbE rfl rfl rfl (qcu _ rfl rfl rfl (Wk.refl _) (pf0 _) rfl rfl (by exact qcE) rfl rfl rfl) (qj ?_)))))))))
      obtain rfl := Option.some.inj hr
      refine qfN Tryz.func59 _ .nil ?_
      exact ⟨rfl, rfl⟩
noncomputable def qcM (k : (qa) → Option (qa)) (fuel : Nat) : List qas → qa → Option (qa)
  | [], w_4 =>
  (k w_4)
  | q_6 :: rest, w_4 =>
  ((qcJ fuel q_6 w_4).bind fun r_8 =>
  (qcM k fuel rest r_8))
noncomputable def qfI (fuel : Nat) (l_a1 : (List qas)) (most_a2 : Int) (c_0 : qa) : Option (qa) :=
  ((qr (l_a1.length : Int) 0 most_a2 c_0).bind fun r_1 =>
  (bif r_1.f1_bad then
  some (r_1)
  else
  (qcM (fun w_5 =>
  some (w_5)) fuel l_a1 r_1)))
set_option maxHeartbeats 1000000 in
theorem qmb (fuel : Nat) (l_a1 : (List qas)) (most_a2 : Int) (c_0 : qa) (b_o0 : Nat) (res : qa) (hr : qfI fuel l_a1 most_a2 c_0 = some res) : Spec Tryz.prog 58 [.ref b_o0 0 [], .lst (l_a1.map qP), .int .i64 most_a2, .clo (.func 59) [.ref b_o0 0 []] []] [.cell b_o0 (qf c_0)] (fun d σ => d = .tup [] ∧ σ = [.cell b_o0 (qf res)]) := by
  unfold qfI at hr
  refine qR [(0, .ref b_o0 0 []), (1, .lst (l_a1.map qP)), (2, .int .i64 most_a2), (3, .clo (.func 59) [.ref b_o0 0 []] [])] Tryz.func58 rfl rfl fun K hK => (qh (gr [.d, .d, .d, .d, .w] (r_d rfl rfl rfl (qb rfl rfl) (r_d rfl rfl rfl (qb rfl rfl) (r_d rfl rfl rfl (qT (f := qP) l_a1 rfl qcv rfl (asl rfl)) (r_d rfl rfl rfl (qb rfl rfl) ?_))))))
  obtain ⟨r_1, hr_1, hr⟩ := bindS hr
  refine r_w rfl rfl rfl (qac _ rfl qz (.oc rfl (.oc rfl (.oc rfl (.oc rfl .nil)))) (by exact (pf0 _)) (qw _ _ _ _ _ _ hr_1)) ?_
  rintro _ _ ⟨_, ⟨rfl, rfl⟩, rfl⟩
  refine r_st ((.cell b_o0 (qf r_1)) :: _) rfl (qj (qh (qh (gr [.d, .d, .d, .r] (r_d rfl rfl rfl (qb rfl rfl) (r_d rfl rfl rfl (qQ rfl rfl) (r_d rfl rfl rfl (qL rfl qG rfl) (r_r rfl rfl rfl (qap rfl rfl (.head _) rfl rfl (by exact qcE) rfl) (qj ?_)))))))))
  refine g_sB 18 rfl hr (fun h18_1 hr => ?_) (fun h18_1 hr => ?_)
  ·
   refine qo rfl ?_
   obtain rfl := Option.some.inj hr
   refine qJ Tryz.func58 _ .nil ?_
   exact ⟨rfl, rfl⟩
  ·
   refine qs rfl (qE (qh (gr [.d, .d, .d] (r_d rfl rfl rfl (qb rfl rfl) (r_d rfl rfl rfl (qT (f := qP) l_a1 rfl qcv rfl (asl rfl)) (r_d rfl rfl rfl (qb rfl rfl) (qj ?_)))))))
   obtain ⟨kk0, hkk0, hr⟩ := exK (fun k => qcM k fuel l_a1 r_1) hr
   refine qdG 1 rfl (asl rfl) fun hla0 => ?_
   simp only [List.length_map] at hla0
   refine qV (fun env σ => ∃ (w_5 : qa), env = [] ∧ σ = [.cell b_o0 (qf w_5)] ∧ kk0 w_5 = some res) ?_ (fun HK0 => ?_)
   ·
    rintro _ _ ⟨w_5, rfl, rfl, hr⟩
    rw [hkk0] at hr
    obtain rfl := Option.some.inj hr
    refine qfN Tryz.func58 _ .nil ?_
    exact ⟨rfl, rfl⟩
   ·
    refine qM [(3, .clo (.func 59) [.ref b_o0 0 []] []), (19, .lst (l_a1.map qP)), (20, .int .i64 (l_a1.length : Int)), (21, .int .i64 ((0 : Nat) : Int))] (Sub.cons' rfl (Sub.cons' rfl (Sub.cons' rfl (Sub.cons' rfl (Sub.nil _))))) (qaM (fun n env σ => ∃ (i_3 : Nat) (w_4 : qa), (n = l_a1.length - i_3) ∧ (env = [(3, .clo (.func 59) [.ref b_o0 0 []] []), (19, .lst (l_a1.map qP)), (20, .int .i64 (l_a1.length : Int)), (21, .int .i64 (i_3 : Int))]) ∧ (σ = [.cell b_o0 (qf w_4)]) ∧ (i_3 ≤ l_a1.length) ∧ (qcM kk0 fuel (l_a1.drop i_3) w_4 = some res)) _ ⟨0, r_1, rfl, rfl, rfl, Nat.zero_le _, hr⟩ ?_)
    rintro n _ _ ⟨i_3, w_4, rfl, rfl, rfl, hi0, hr⟩ IH0
    rcases listStep l_a1 i_3 hi0 with ⟨ht0, hd0, he0⟩ | ⟨q_6, ht0, hd0, hq0, hlt0⟩
    ·
     rw [hd0, qcM] at hr
     refine qh (gr [.d] (r_d rfl rfl rfl (qB rfl rfl rfl rfl) (qj (qh (qC 22 false rfl ht0 (qs rfl (qaw rfl (qM [] (Sub.nil _) ?_))))))))
     exact HK0 _ _ ⟨w_4, rfl, rfl, hr⟩
    ·
     rw [hd0, qcM] at hr
     refine qh (gr [.d] (r_d rfl rfl rfl (qB rfl rfl rfl rfl) (qj (qh (qC 22 true rfl ht0 (qo rfl (qE (qh (q0 (qh (gr [.d, .d, .w, .w] ?_)))))))))))
     refine r_d rfl rfl rfl (qN (f := qP) l_a1 rfl qcv rfl (asl rfl) rfl hq0 qdD rfl) (r_d rfl rfl rfl (qk rfl rfl (by exact qe4) (qdD _)) (r_w rfl rfl rfl (qa8 rfl qlt) ?_))
     rintro _ _ ⟨b9_6, rfl, rfl⟩
     refine qbE rfl rfl rfl (qag _ rfl rfl rfl (Wk.refl _) (pf0 _) (by exact qe4) (qdD _) (by simp [sz, szs, qdC, qbi]) rfl) (qj (qaT 9 b9_6 rfl (pf0 _) (gr [.d, .d, .w] (r_d rfl rfl rfl (qb rfl rfl) (r_d rfl rfl rfl (qk rfl rfl (by exact qe4) (qdD _)) ?_)))))
     obtain ⟨r_8, hr_8, hr⟩ := bindS hr
     refine r_w rfl rfl rfl (qfj _ rfl rfl qjT (.oc rfl .nil) rfl (by exact (pf0 _)) (qi7 fuel _ _ _ _ hr_8)) ?_
     rintro _ _ ⟨_, ⟨rfl, rfl⟩, rfl⟩
     refine r_st ((.cell b_o0 (qf r_8)) :: _) rfl (qj (qF (gr [.d, .d] (r_d rfl rfl rfl (s_ar (r := ((i_3 + 1 : Nat) : Int)) rfl rfl rfl (by simp [iar]) (by omega)) (r_d rfl rfl rfl (qb rfl rfl) (qj (qM [(3, .clo (.func 59) [.ref b_o0 0 []] []), (19, .lst (l_a1.map qP)), (20, .int .i64 (l_a1.length : Int)), (21, .int .i64 ((i_3 + 1 : Nat) : Int))] (Sub.cons' rfl (Sub.cons' rfl (Sub.cons' rfl (Sub.cons' rfl (Sub.nil _))))) ?_)))))))
     exact IH0 _ _ _ (by omega) ⟨(i_3 + 1), r_8, rfl, rfl, rfl, (by omega), hr⟩
noncomputable def qdF (fuel : Nat) (i_a0 : (Int × At)) (c_0 : qa) : Option (qa) :=
  ((qr i_a0.1 0 2147483648 c_0).bind fun r_1 =>
  ((qco fuel i_a0.2 r_1).bind fun r_2 =>
  some (r_2)))
set_option maxHeartbeats 1000000 in
theorem qkS (fuel : Nat) (i_a0 : (Int × At)) (c_0 : qa) (b_o0 : Nat) (res : qa) (hr : qdF fuel i_a0 c_0 = some res) : Spec Tryz.prog 61 [encIt i_a0, .ptr (.ref b_o0 0 [])] [.cell b_o0 (qf c_0)] (fun d σ => d = .tup [] ∧ σ = [.cell b_o0 (qf res)]) := by
  unfold qdF at hr
  refine qR [(0, encIt i_a0), (1, .ptr (.ref b_o0 0 []))] Tryz.func61 rfl rfl fun K hK => (qh (gr [.d] (r_d rfl rfl rfl (qef rfl rfl rfl) (qj (qh (gr [.d, .d, .d, .w] (r_d rfl rfl rfl (qk rfl rfl (by exact qO) rfl) (r_d rfl rfl rfl (qg rfl qg8 rfl rfl rfl rfl) (r_d rfl rfl rfl (qk rfl rfl (by exact qW) rfl) ?_)))))))))
  obtain ⟨r_1, hr_1, hr⟩ := bindS hr
  refine r_w rfl rfl rfl (qac _ rfl qz (.oc rfl (.oc rfl (.oc rfl (.oc rfl .nil)))) (by exact (pf0 _)) (qw _ _ _ _ _ _ hr_1)) ?_
  rintro _ _ ⟨_, ⟨rfl, rfl⟩, rfl⟩
  refine r_st ((.cell b_o0 (qf r_1)) :: _) rfl (qj (gr [.d, .d, .d, .w] (r_d rfl rfl rfl (qk rfl rfl (by exact qO) rfl) (r_d rfl rfl rfl (qg rfl qg6 rfl rfl rfl rfl) (r_d rfl rfl rfl (qk rfl rfl (by exact qbQ) (qan _)) ?_)))))
  obtain ⟨r_2, hr_2, hr⟩ := bindS hr
  refine r_w rfl rfl rfl (qac _ rfl qf2 (.oc rfl (.oc rfl .nil)) (by exact (pf0 _)) (qfD fuel _ _ _ _ hr_2)) ?_
  rintro _ _ ⟨_, ⟨rfl, rfl⟩, rfl⟩
  refine r_st ((.cell b_o0 (qf r_2)) :: _) rfl (qj ?_)
  obtain rfl := Option.some.inj hr
  refine qfN Tryz.func61 _ .nil ?_
  exact ⟨rfl, rfl⟩
noncomputable def qcL (k : (qa) → Option (qa)) (fuel : Nat) : List (Int × At) → qa → Option (qa)
  | [], w_4 =>
  (k w_4)
  | q_6 :: rest, w_4 =>
  ((qdF fuel q_6 w_4).bind fun r_8 =>
  (qcL k fuel rest r_8))
noncomputable def qfE (fuel : Nat) (l_a1 : (List (Int × At))) (most_a2 : Int) (c_0 : qa) : Option (qa) :=
  ((qr (l_a1.length : Int) 0 most_a2 c_0).bind fun r_1 =>
  (bif r_1.f1_bad then
  some (r_1)
  else
  (qcL (fun w_5 =>
  some (w_5)) fuel l_a1 r_1)))
set_option maxHeartbeats 1000000 in
theorem ql6 (fuel : Nat) (l_a1 : (List (Int × At))) (most_a2 : Int) (c_0 : qa) (b_o0 : Nat) (res : qa) (hr : qfE fuel l_a1 most_a2 c_0 = some res) : Spec Tryz.prog 60 [.ref b_o0 0 [], .lst (l_a1.map encIt), .int .i64 most_a2, .clo (.func 61) [] [.ptr (.ref b_o0 0 [])]] [.cell b_o0 (qf c_0)] (fun d σ => d = .tup [] ∧ σ = [.cell b_o0 (qf res)]) := by
  unfold qfE at hr
  refine qR [(0, .ref b_o0 0 []), (1, .lst (l_a1.map encIt)), (2, .int .i64 most_a2), (3, .clo (.func 61) [] [.ptr (.ref b_o0 0 [])])] Tryz.func60 rfl rfl fun K hK => (qh (gr [.d, .d, .d, .d, .w] (r_d rfl rfl rfl (qb rfl rfl) (r_d rfl rfl rfl (qb rfl rfl) (r_d rfl rfl rfl (qT (f := encIt) l_a1 rfl qa7 rfl (asl rfl)) (r_d rfl rfl rfl (qb rfl rfl) ?_))))))
  obtain ⟨r_1, hr_1, hr⟩ := bindS hr
  refine r_w rfl rfl rfl (qac _ rfl qz (.oc rfl (.oc rfl (.oc rfl (.oc rfl .nil)))) (by exact (pf0 _)) (qw _ _ _ _ _ _ hr_1)) ?_
  rintro _ _ ⟨_, ⟨rfl, rfl⟩, rfl⟩
  refine r_st ((.cell b_o0 (qf r_1)) :: _) rfl (qj (qh (qh (gr [.d, .d, .d, .r] (r_d rfl rfl rfl (qb rfl rfl) (r_d rfl rfl rfl (qQ rfl rfl) (r_d rfl rfl rfl (qL rfl qG rfl) (r_r rfl rfl rfl (qap rfl rfl (.head _) rfl rfl (by exact qcE) rfl) (qj ?_)))))))))
  refine g_sB 18 rfl hr (fun h18_1 hr => ?_) (fun h18_1 hr => ?_)
  ·
   refine qo rfl ?_
   obtain rfl := Option.some.inj hr
   refine qJ Tryz.func60 _ .nil ?_
   exact ⟨rfl, rfl⟩
  ·
   refine qs rfl (qE (qh (gr [.d, .d, .d] (r_d rfl rfl rfl (qb rfl rfl) (r_d rfl rfl rfl (qT (f := encIt) l_a1 rfl qa7 rfl (asl rfl)) (r_d rfl rfl rfl (qb rfl rfl) (qj ?_)))))))
   obtain ⟨kk0, hkk0, hr⟩ := exK (fun k => qcL k fuel l_a1 r_1) hr
   refine qdG 1 rfl (asl rfl) fun hla0 => ?_
   simp only [List.length_map] at hla0
   refine qV (fun env σ => ∃ (w_5 : qa), env = [] ∧ σ = [.cell b_o0 (qf w_5)] ∧ kk0 w_5 = some res) ?_ (fun HK0 => ?_)
   ·
    rintro _ _ ⟨w_5, rfl, rfl, hr⟩
    rw [hkk0] at hr
    obtain rfl := Option.some.inj hr
    refine qfN Tryz.func60 _ .nil ?_
    exact ⟨rfl, rfl⟩
   ·
    refine qM [(3, .clo (.func 61) [] [.ptr (.ref b_o0 0 [])]), (19, .lst (l_a1.map encIt)), (20, .int .i64 (l_a1.length : Int)), (21, .int .i64 ((0 : Nat) : Int))] (Sub.cons' rfl (Sub.cons' rfl (Sub.cons' rfl (Sub.cons' rfl (Sub.nil _))))) (qaM (fun n env σ => ∃ (i_3 : Nat) (w_4 : qa), (n = l_a1.length - i_3) ∧ (env = [(3, .clo (.func 61) [] [.ptr (.ref b_o0 0 [])]), (19, .lst (l_a1.map encIt)), (20, .int .i64 (l_a1.length : Int)), (21, .int .i64 (i_3 : Int))]) ∧ (σ = [.cell b_o0 (qf w_4)]) ∧ (i_3 ≤ l_a1.length) ∧ (qcL kk0 fuel (l_a1.drop i_3) w_4 = some res)) _ ⟨0, r_1, rfl, rfl, rfl, Nat.zero_le _, hr⟩ ?_)
    rintro n _ _ ⟨i_3, w_4, rfl, rfl, rfl, hi0, hr⟩ IH0
    rcases listStep l_a1 i_3 hi0 with ⟨ht0, hd0, he0⟩ | ⟨q_6, ht0, hd0, hq0, hlt0⟩
    ·
     rw [hd0, qcL] at hr
     refine qh (gr [.d] (r_d rfl rfl rfl (qB rfl rfl rfl rfl) (qj (qh (qC 22 false rfl ht0 (qs rfl (qaw rfl (qM [] (Sub.nil _) ?_))))))))
     exact HK0 _ _ ⟨w_4, rfl, rfl, hr⟩
    ·
     rw [hd0, qcL] at hr
     refine qh (gr [.d] (r_d rfl rfl rfl (qB rfl rfl rfl rfl) (qj (qh (qC 22 true rfl ht0 (qo rfl (qE (qh (q0 (qh (gr [.d, .d, .w, .w] ?_)))))))))))
     refine r_d rfl rfl rfl (qN (f := encIt) l_a1 rfl qa7 rfl (asl rfl) rfl hq0 qfW rfl) (r_d rfl rfl rfl (qk rfl rfl (by exact qjm) (qfW _)) (r_w rfl rfl rfl (qa8 rfl qnM) ?_))
     rintro _ _ ⟨b9_6, rfl, rfl⟩
     refine qbE rfl rfl rfl (qag _ rfl rfl rfl (Wk.refl _) (pf0 _) (by exact qjm) (qfW _) (by simp [sz, szs, qdC, qan]) rfl) (qj (qaT 9 b9_6 rfl (pf0 _) (gr [.d, .d, .w] (r_d rfl rfl rfl (qb rfl rfl) (r_d rfl rfl rfl (qk rfl rfl (by exact qjm) (qfW _)) ?_)))))
     obtain ⟨r_8, hr_8, hr⟩ := bindS hr
     refine r_w rfl rfl rfl (qfj _ rfl rfl qlR (.oc rfl .nil) rfl (by exact (pf0 _)) (qkS fuel _ _ _ _ hr_8)) ?_
     rintro _ _ ⟨_, ⟨rfl, rfl⟩, rfl⟩
     refine r_st ((.cell b_o0 (qf r_8)) :: _) rfl (qj (qF (gr [.d, .d] (r_d rfl rfl rfl (s_ar (r := ((i_3 + 1 : Nat) : Int)) rfl rfl rfl (by simp [iar]) (by omega)) (r_d rfl rfl rfl (qb rfl rfl) (qj (qM [(3, .clo (.func 61) [] [.ptr (.ref b_o0 0 [])]), (19, .lst (l_a1.map encIt)), (20, .int .i64 (l_a1.length : Int)), (21, .int .i64 ((i_3 + 1 : Nat) : Int))] (Sub.cons' rfl (Sub.cons' rfl (Sub.cons' rfl (Sub.cons' rfl (Sub.nil _))))) ?_)))))))
     exact IH0 _ _ _ (by omega) ⟨(i_3 + 1), r_8, rfl, rfl, rfl, (by omega), hr⟩
noncomputable def qdH (fuel : Nat) (b_a0 : (Int × T)) (c_0 : qa) : Option (qa) :=
  ((qr b_a0.1 0 1048576 c_0).bind fun r_1 =>
  (bif r_1.f1_bad then
  (bif (!true) then
  ((qdA fuel b_a0.2 (⟨r_1.f0_b, true⟩ : qa)).bind fun r_4 =>
  some (r_4))
  else
  some ((⟨r_1.f0_b, true⟩ : qa)))
  else
  ((qlQ b_a0.2).bind fun r_5 =>
  (bif (!(!r_5)) then
  ((qdA fuel b_a0.2 (⟨r_1.f0_b, (!r_5)⟩ : qa)).bind fun r_7 =>
  some (r_7))
  else
  some ((⟨r_1.f0_b, (!r_5)⟩ : qa))))))
set_option maxHeartbeats 1000000 in
theorem qk6 (fuel : Nat) (b_a0 : (Int × T)) (c_0 : qa) (b_o0 : Nat) (res : qa) (hr : qdH fuel b_a0 c_0 = some res) : Spec Tryz.prog 64 [encP b_a0, .ptr (.ref b_o0 0 [])] [.cell b_o0 (qf c_0)] (fun d σ => d = .tup [] ∧ σ = [.cell b_o0 (qf res)]) := by
  unfold qdH at hr
  refine qR [(0, encP b_a0), (1, .ptr (.ref b_o0 0 []))] Tryz.func64 rfl rfl fun K hK => (qh (gr [.d] (r_d rfl rfl rfl (qef rfl rfl rfl) (qj (qh (gr [.d, .d, .d, .w] (r_d rfl rfl rfl (qk rfl rfl (by exact qO) rfl) (r_d rfl rfl rfl (qg rfl qgp rfl rfl rfl rfl) (r_d rfl rfl rfl (qk rfl rfl (by exact qW) rfl) ?_)))))))))
  obtain ⟨r_1, hr_1, hr⟩ := bindS hr
  refine r_w rfl rfl rfl (qac _ rfl qz (.oc rfl (.oc rfl (.oc rfl (.oc rfl .nil)))) (by exact (pf0 _)) (qw _ _ _ _ _ _ hr_1)) ?_
  rintro _ _ ⟨_, ⟨rfl, rfl⟩, rfl⟩
  refine r_st ((.cell b_o0 (qf r_1)) :: _) rfl (qj (qh (ga [(0, .d), (1, .d), (2, .d), (3, .d), (4, .r), (5, .d), (6, .d), (7, .d), (8, .d), (9, .d), (10, .d), (11, .d), (12, .d), (13, .w)] (r_d rfl rfl rfl (qk rfl rfl (by exact qO) rfl) (r_d rfl rfl rfl (qk rfl rfl (by exact qO) rfl) (r_d rfl rfl rfl (qQ rfl rfl) (r_d rfl rfl rfl (qL rfl qG rfl) (r_r rfl rfl rfl (qap rfl rfl (.head _) rfl rfl (by exact qcE) rfl) (r_d rfl rfl rfl (qb rfl rfl) ?_)))))))))
  refine r_sB 12 rfl hr (fun h12_1 hr => ?_) (fun h12_1 hr => ?_)
  ·
   refine qc rfl rfl rfl (qc rfl rfl rfl (qc rfl rfl rfl (qc rfl rfl rfl (r_d rfl rfl rfl (qy rfl rfl rfl) (r_d rfl rfl rfl (qQ rfl rfl) (r_d rfl rfl rfl (qL rfl qG rfl) (qbE rfl rfl rfl (qcu _ rfl rfl rfl (Wk.refl _) (pf0 _) rfl rfl (by exact qcE) rfl rfl rfl) (qj (qh (gr [.d, .d, .d, .r, .d] (r_d rfl rfl rfl (qk rfl rfl (by exact qO) rfl) ?_)))))))))))
   refine r_d rfl rfl rfl (qQ rfl rfl) (r_d rfl rfl rfl (qL rfl qG rfl) (r_r rfl rfl rfl (qap rfl rfl (.head _) rfl rfl (by exact qcE) rfl) (r_d rfl rfl rfl (qdO rfl rfl) (qj ?_))))
   refine g_sB 24 rfl hr (fun h24_2 hr => ?_) (fun h24_2 hr => ?_)
   ·
    refine qo rfl (gr [.d, .d, .d, .w] (r_d rfl rfl rfl (qk rfl rfl (by exact qO) rfl) (r_d rfl rfl rfl (qg rfl qfu rfl rfl rfl rfl) (r_d rfl rfl rfl (qk rfl rfl (by exact qav) (qck _)) ?_))))
    obtain ⟨r_4, hr_4, hr⟩ := bindS hr
    refine r_w rfl rfl rfl (qac _ rfl qf7 (.oc rfl (.oc rfl .nil)) (by exact (pf0 _)) (qgW fuel _ _ _ _ hr_4)) ?_
    rintro _ _ ⟨_, ⟨rfl, rfl⟩, rfl⟩
    refine r_st ((.cell b_o0 (qf r_4)) :: _) rfl (qj ?_)
    obtain rfl := Option.some.inj hr
    refine qfN Tryz.func64 _ .nil ?_
    exact ⟨rfl, rfl⟩
   ·
    refine qs rfl (qE ?_)
    obtain rfl := Option.some.inj hr
    refine qfN Tryz.func64 _ .nil ?_
    exact ⟨rfl, rfl⟩
  ·
   refine r_d rfl rfl rfl (qg rfl qfu rfl rfl rfl rfl) (r_d rfl rfl rfl (qk rfl rfl (by exact qav) (qck _)) ?_)
   obtain ⟨r_5, hr_5, hr⟩ := bindS hr
   refine r_d rfl rfl rfl (qK rfl qoB (.oc rfl .nil) (qoV _ _ hr_5)) (r_d rfl rfl rfl (qdO rfl rfl) (r_d rfl rfl rfl (qD rfl rfl rfl) (r_d rfl rfl rfl (qQ rfl rfl) (r_d rfl rfl rfl (qL rfl qG rfl) (qbE rfl rfl rfl (qcu _ rfl rfl rfl (Wk.refl _) (pf0 _) rfl rfl (by exact qcE) rfl rfl rfl) (qj (qh (gr [.d, .d, .d, .r, .d] (r_d rfl rfl rfl (qk rfl rfl (by exact qO) rfl) (r_d rfl rfl rfl (qQ rfl rfl) (r_d rfl rfl rfl (qL rfl qG rfl) ?_)))))))))))
   refine r_r rfl rfl rfl (qap rfl rfl (.head _) rfl rfl (by exact qcE) rfl) (r_d rfl rfl rfl (qdO rfl rfl) (qj ?_))
   refine g_sB 24 rfl hr (fun h24_5 hr => ?_) (fun h24_5 hr => ?_)
   ·
    refine qo rfl (gr [.d, .d, .d, .w] (r_d rfl rfl rfl (qk rfl rfl (by exact qO) rfl) (r_d rfl rfl rfl (qg rfl qfu rfl rfl rfl rfl) (r_d rfl rfl rfl (qk rfl rfl (by exact qav) (qck _)) ?_))))
    obtain ⟨r_7, hr_7, hr⟩ := bindS hr
    refine r_w rfl rfl rfl (qac _ rfl qf7 (.oc rfl (.oc rfl .nil)) (by exact (pf0 _)) (qgW fuel _ _ _ _ hr_7)) ?_
    rintro _ _ ⟨_, ⟨rfl, rfl⟩, rfl⟩
    refine r_st ((.cell b_o0 (qf r_7)) :: _) rfl (qj ?_)
    obtain rfl := Option.some.inj hr
    refine qfN Tryz.func64 _ .nil ?_
    exact ⟨rfl, rfl⟩
   ·
    refine qs rfl (qE ?_)
    obtain rfl := Option.some.inj hr
    refine qfN Tryz.func64 _ .nil ?_
    exact ⟨rfl, rfl⟩
noncomputable def qcN (k : (qa) → Option (qa)) (fuel : Nat) : List (Int × T) → qa → Option (qa)
  | [], w_4 =>
  (k w_4)
  | q_6 :: rest, w_4 =>
  ((qdH fuel q_6 w_4).bind fun r_8 =>
  (qcN k fuel rest r_8))
noncomputable def qfF (fuel : Nat) (l_a1 : (List (Int × T))) (most_a2 : Int) (c_0 : qa) : Option (qa) :=
  ((qr (l_a1.length : Int) 0 most_a2 c_0).bind fun r_1 =>
  (bif r_1.f1_bad then
  some (r_1)
  else
  (qcN (fun w_5 =>
  some (w_5)) fuel l_a1 r_1)))
set_option maxHeartbeats 1000000 in
theorem qmj (fuel : Nat) (l_a1 : (List (Int × T))) (most_a2 : Int) (c_0 : qa) (b_o0 : Nat) (res : qa) (hr : qfF fuel l_a1 most_a2 c_0 = some res) : Spec Tryz.prog 63 [.ref b_o0 0 [], .lst (l_a1.map encP), .int .i64 most_a2, .clo (.func 64) [] [.ptr (.ref b_o0 0 [])]] [.cell b_o0 (qf c_0)] (fun d σ => d = .tup [] ∧ σ = [.cell b_o0 (qf res)]) := by
  unfold qfF at hr
  refine qR [(0, .ref b_o0 0 []), (1, .lst (l_a1.map encP)), (2, .int .i64 most_a2), (3, .clo (.func 64) [] [.ptr (.ref b_o0 0 [])])] Tryz.func63 rfl rfl fun K hK => (qh (gr [.d, .d, .d, .d, .w] (r_d rfl rfl rfl (qb rfl rfl) (r_d rfl rfl rfl (qb rfl rfl) (r_d rfl rfl rfl (qT (f := encP) l_a1 rfl qis rfl (asl rfl)) (r_d rfl rfl rfl (qb rfl rfl) ?_))))))
  obtain ⟨r_1, hr_1, hr⟩ := bindS hr
  refine r_w rfl rfl rfl (qac _ rfl qz (.oc rfl (.oc rfl (.oc rfl (.oc rfl .nil)))) (by exact (pf0 _)) (qw _ _ _ _ _ _ hr_1)) ?_
  rintro _ _ ⟨_, ⟨rfl, rfl⟩, rfl⟩
  refine r_st ((.cell b_o0 (qf r_1)) :: _) rfl (qj (qh (qh (gr [.d, .d, .d, .r] (r_d rfl rfl rfl (qb rfl rfl) (r_d rfl rfl rfl (qQ rfl rfl) (r_d rfl rfl rfl (qL rfl qG rfl) (r_r rfl rfl rfl (qap rfl rfl (.head _) rfl rfl (by exact qcE) rfl) (qj ?_)))))))))
  refine g_sB 18 rfl hr (fun h18_1 hr => ?_) (fun h18_1 hr => ?_)
  ·
   refine qo rfl ?_
   obtain rfl := Option.some.inj hr
   refine qJ Tryz.func63 _ .nil ?_
   exact ⟨rfl, rfl⟩
  ·
   refine qs rfl (qE (qh (gr [.d, .d, .d] (r_d rfl rfl rfl (qb rfl rfl) (r_d rfl rfl rfl (qT (f := encP) l_a1 rfl qis rfl (asl rfl)) (r_d rfl rfl rfl (qb rfl rfl) (qj ?_)))))))
   obtain ⟨kk0, hkk0, hr⟩ := exK (fun k => qcN k fuel l_a1 r_1) hr
   refine qdG 1 rfl (asl rfl) fun hla0 => ?_
   simp only [List.length_map] at hla0
   refine qV (fun env σ => ∃ (w_5 : qa), env = [] ∧ σ = [.cell b_o0 (qf w_5)] ∧ kk0 w_5 = some res) ?_ (fun HK0 => ?_)
   ·
    rintro _ _ ⟨w_5, rfl, rfl, hr⟩
    rw [hkk0] at hr
    obtain rfl := Option.some.inj hr
    refine qfN Tryz.func63 _ .nil ?_
    exact ⟨rfl, rfl⟩
   ·
    refine qM [(3, .clo (.func 64) [] [.ptr (.ref b_o0 0 [])]), (19, .lst (l_a1.map encP)), (20, .int .i64 (l_a1.length : Int)), (21, .int .i64 ((0 : Nat) : Int))] (Sub.cons' rfl (Sub.cons' rfl (Sub.cons' rfl (Sub.cons' rfl (Sub.nil _))))) (qaM (fun n env σ => ∃ (i_3 : Nat) (w_4 : qa), (n = l_a1.length - i_3) ∧ (env = [(3, .clo (.func 64) [] [.ptr (.ref b_o0 0 [])]), (19, .lst (l_a1.map encP)), (20, .int .i64 (l_a1.length : Int)), (21, .int .i64 (i_3 : Int))]) ∧ (σ = [.cell b_o0 (qf w_4)]) ∧ (i_3 ≤ l_a1.length) ∧ (qcN kk0 fuel (l_a1.drop i_3) w_4 = some res)) _ ⟨0, r_1, rfl, rfl, rfl, Nat.zero_le _, hr⟩ ?_)
    rintro n _ _ ⟨i_3, w_4, rfl, rfl, rfl, hi0, hr⟩ IH0
    rcases listStep l_a1 i_3 hi0 with ⟨ht0, hd0, he0⟩ | ⟨q_6, ht0, hd0, hq0, hlt0⟩
    ·
     rw [hd0, qcN] at hr
     refine qh (gr [.d] (r_d rfl rfl rfl (qB rfl rfl rfl rfl) (qj (qh (qC 22 false rfl ht0 (qs rfl (qaw rfl (qM [] (Sub.nil _) ?_))))))))
     exact HK0 _ _ ⟨w_4, rfl, rfl, hr⟩
    ·
     rw [hd0, qcN] at hr
     refine qh (gr [.d] (r_d rfl rfl rfl (qB rfl rfl rfl rfl) (qj (qh (qC 22 true rfl ht0 (qo rfl (qE (qh (q0 (qh (gr [.d, .d, .w, .w] ?_)))))))))))
     refine r_d rfl rfl rfl (qN (f := encP) l_a1 rfl qis rfl (asl rfl) rfl hq0 qgK rfl) (r_d rfl rfl rfl (qk rfl rfl (by exact qjq) (qgK _)) (r_w rfl rfl rfl (qa8 rfl qns) ?_))
     rintro _ _ ⟨b9_6, rfl, rfl⟩
     refine qbE rfl rfl rfl (qag _ rfl rfl rfl (Wk.refl _) (pf0 _) (by exact qjq) (qgK _) (by simp [sz, szs, qdC, qck]) rfl) (qj (qaT 9 b9_6 rfl (pf0 _) (gr [.d, .d, .w] (r_d rfl rfl rfl (qb rfl rfl) (r_d rfl rfl rfl (qk rfl rfl (by exact qjq) (qgK _)) ?_)))))
     obtain ⟨r_8, hr_8, hr⟩ := bindS hr
     refine r_w rfl rfl rfl (qfj _ rfl rfl qlY (.oc rfl .nil) rfl (by exact (pf0 _)) (qk6 fuel _ _ _ _ hr_8)) ?_
     rintro _ _ ⟨_, ⟨rfl, rfl⟩, rfl⟩
     refine r_st ((.cell b_o0 (qf r_8)) :: _) rfl (qj (qF (gr [.d, .d] (r_d rfl rfl rfl (s_ar (r := ((i_3 + 1 : Nat) : Int)) rfl rfl rfl (by simp [iar]) (by omega)) (r_d rfl rfl rfl (qb rfl rfl) (qj (qM [(3, .clo (.func 64) [] [.ptr (.ref b_o0 0 [])]), (19, .lst (l_a1.map encP)), (20, .int .i64 (l_a1.length : Int)), (21, .int .i64 ((i_3 + 1 : Nat) : Int))] (Sub.cons' rfl (Sub.cons' rfl (Sub.cons' rfl (Sub.cons' rfl (Sub.nil _))))) ?_)))))))
     exact IH0 _ _ _ (by omega) ⟨(i_3 + 1), r_8, rfl, rfl, rfl, (by omega), hr⟩
noncomputable def qdw (n_a0 : Int) (t2_a2 : Int) (c_0 : qa) : Option (qa) :=
  ((qr n_a0 0 t2_a2 c_0).bind fun r_1 =>
  some (r_1))
set_option maxHeartbeats 1000000 in
theorem qiC (n_a0 : Int) (t2_a2 : Int) (c_0 : qa) (b_o0 : Nat) (res : qa) (hr : qdw n_a0 t2_a2 c_0 = some res) : Spec Tryz.prog 156 [.int .i64 n_a0, .ptr (.ref b_o0 0 []), .ptr (.int .i64 t2_a2)] [.cell b_o0 (qf c_0)] (fun d σ => d = .tup [] ∧ σ = [.cell b_o0 (qf res)]) := by
  unfold qdw at hr
  refine qR [(0, .int .i64 n_a0), (1, .ptr (.ref b_o0 0 [])), (2, .ptr (.int .i64 t2_a2))] Tryz.func156 rfl rfl fun K hK => (gr [.d, .d, .d, .w] (r_d rfl rfl rfl (qk rfl rfl (by exact qO) rfl) (r_d rfl rfl rfl (qb rfl rfl) (r_d rfl rfl rfl (qk rfl rfl (by exact qW) rfl) ?_))))
  obtain ⟨r_1, hr_1, hr⟩ := bindS hr
  refine r_w rfl rfl rfl (qac _ rfl qz (.oc rfl (.oc rfl (.oc rfl (.oc rfl .nil)))) (by exact (pf0 _)) (qw _ _ _ _ _ _ hr_1)) ?_
  rintro _ _ ⟨_, ⟨rfl, rfl⟩, rfl⟩
  refine r_st ((.cell b_o0 (qf r_1)) :: _) rfl (qj ?_)
  obtain rfl := Option.some.inj hr
  refine qfN Tryz.func156 _ .nil ?_
  exact ⟨rfl, rfl⟩
noncomputable def qcz (k : (qa) → Option (qa)) (put_a3_c1 : Int) : List Int → qa → Option (qa)
  | [], w_4 =>
  (k w_4)
  | q_6 :: rest, w_4 =>
  ((qdw q_6 put_a3_c1 w_4).bind fun r_7 =>
  (qcz k put_a3_c1 rest r_7))
noncomputable def qfY (l_a1 : (List Int)) (most_a2 : Int) (put_a3_c1 : Int) (c_0 : qa) : Option (qa) :=
  ((qr (l_a1.length : Int) 0 most_a2 c_0).bind fun r_1 =>
  (bif r_1.f1_bad then
  some (r_1)
  else
  (qcz (fun w_5 =>
  some (w_5)) put_a3_c1 l_a1 r_1)))
set_option maxHeartbeats 1000000 in
theorem qlS (l_a1 : (List Int)) (most_a2 : Int) (put_a3_c1 : Int) (c_0 : qa) (b_o0 : Nat) (res : qa) (hr : qfY l_a1 most_a2 put_a3_c1 c_0 = some res) : Spec Tryz.prog 155 [.ref b_o0 0 [], .lst (l_a1.map (D.int .i64)), .int .i64 most_a2, .clo (.func 156) [] [.ptr (.ref b_o0 0 []), .ptr (.int .i64 put_a3_c1)]] [.cell b_o0 (qf c_0)] (fun d σ => d = .tup [] ∧ σ = [.cell b_o0 (qf res)]) := by
  unfold qfY at hr
  refine qR [(0, .ref b_o0 0 []), (1, .lst (l_a1.map (D.int .i64))), (2, .int .i64 most_a2), (3, .clo (.func 156) [] [.ptr (.ref b_o0 0 []), .ptr (.int .i64 put_a3_c1)])] Tryz.func155 rfl rfl fun K hK => (qh (gr [.d, .d, .d, .d, .w] (r_d rfl rfl rfl (qb rfl rfl) (r_d rfl rfl rfl (qb rfl rfl) (r_d rfl rfl rfl (qT (f := (D.int .i64)) l_a1 rfl qH rfl (asl rfl)) (r_d rfl rfl rfl (qb rfl rfl) ?_))))))
  obtain ⟨r_1, hr_1, hr⟩ := bindS hr
  refine r_w rfl rfl rfl (qac _ rfl qz (.oc rfl (.oc rfl (.oc rfl (.oc rfl .nil)))) (by exact (pf0 _)) (qw _ _ _ _ _ _ hr_1)) ?_
  rintro _ _ ⟨_, ⟨rfl, rfl⟩, rfl⟩
  refine r_st ((.cell b_o0 (qf r_1)) :: _) rfl (qj (qh (qh (gr [.d, .d, .d, .r] (r_d rfl rfl rfl (qb rfl rfl) (r_d rfl rfl rfl (qQ rfl rfl) (r_d rfl rfl rfl (qL rfl qG rfl) (r_r rfl rfl rfl (qap rfl rfl (.head _) rfl rfl (by exact qcE) rfl) (qj ?_)))))))))
  refine g_sB 18 rfl hr (fun h18_1 hr => ?_) (fun h18_1 hr => ?_)
  ·
   refine qo rfl ?_
   obtain rfl := Option.some.inj hr
   refine qJ Tryz.func155 _ .nil ?_
   exact ⟨rfl, rfl⟩
  ·
   refine qs rfl (qE (qh (gr [.d, .d, .d] (r_d rfl rfl rfl (qb rfl rfl) (r_d rfl rfl rfl (qT (f := (D.int .i64)) l_a1 rfl qH rfl (asl rfl)) (r_d rfl rfl rfl (qb rfl rfl) (qj ?_)))))))
   obtain ⟨kk0, hkk0, hr⟩ := exK (fun k => qcz k put_a3_c1 l_a1 r_1) hr
   refine qdG 1 rfl (asl rfl) fun hla0 => ?_
   simp only [List.length_map] at hla0
   refine qV (fun env σ => ∃ (w_5 : qa), env = [] ∧ σ = [.cell b_o0 (qf w_5)] ∧ kk0 w_5 = some res) ?_ (fun HK0 => ?_)
   ·
    rintro _ _ ⟨w_5, rfl, rfl, hr⟩
    rw [hkk0] at hr
    obtain rfl := Option.some.inj hr
    refine qfN Tryz.func155 _ .nil ?_
    exact ⟨rfl, rfl⟩
   ·
    refine qM [(3, .clo (.func 156) [] [.ptr (.ref b_o0 0 []), .ptr (.int .i64 put_a3_c1)]), (19, .lst (l_a1.map (D.int .i64))), (20, .int .i64 (l_a1.length : Int)), (21, .int .i64 ((0 : Nat) : Int))] (Sub.cons' rfl (Sub.cons' rfl (Sub.cons' rfl (Sub.cons' rfl (Sub.nil _))))) (qaM (fun n env σ => ∃ (i_3 : Nat) (w_4 : qa), (n = l_a1.length - i_3) ∧ (env = [(3, .clo (.func 156) [] [.ptr (.ref b_o0 0 []), .ptr (.int .i64 put_a3_c1)]), (19, .lst (l_a1.map (D.int .i64))), (20, .int .i64 (l_a1.length : Int)), (21, .int .i64 (i_3 : Int))]) ∧ (σ = [.cell b_o0 (qf w_4)]) ∧ (i_3 ≤ l_a1.length) ∧ (qcz kk0 put_a3_c1 (l_a1.drop i_3) w_4 = some res)) _ ⟨0, r_1, rfl, rfl, rfl, Nat.zero_le _, hr⟩ ?_)
    rintro n _ _ ⟨i_3, w_4, rfl, rfl, rfl, hi0, hr⟩ IH0
    rcases listStep l_a1 i_3 hi0 with ⟨ht0, hd0, he0⟩ | ⟨q_6, ht0, hd0, hq0, hlt0⟩
    ·
     rw [hd0, qcz] at hr
     refine qh (gr [.d] (r_d rfl rfl rfl (qB rfl rfl rfl rfl) (qj (qh (qC 22 false rfl ht0 (qs rfl (qaw rfl (qM [] (Sub.nil _) ?_))))))))
     exact HK0 _ _ ⟨w_4, rfl, rfl, hr⟩
    ·
     rw [hd0, qcz] at hr
     refine qh (gr [.d] (r_d rfl rfl rfl (qB rfl rfl rfl rfl) (qj (qh (qC 22 true rfl ht0 (qo rfl (qE (qh (q0 (qh (gr [.d, .d, .d] ?_)))))))))))
     refine r_d rfl rfl rfl (qN (f := (D.int .i64)) l_a1 rfl qH rfl (asl rfl) rfl hq0 (fun _ => rfl) rfl) (r_d rfl rfl rfl (qk rfl rfl (by exact qW) rfl) (r_d rfl rfl rfl (qe rfl rfl) (qj (gr [.d, .d, .w] (r_d rfl rfl rfl (qb rfl rfl) (r_d rfl rfl rfl (qb rfl rfl) ?_))))))
     obtain ⟨r_7, hr_7, hr⟩ := bindS hr
     refine r_w rfl rfl rfl (qfj _ rfl rfl qiQ (.oc rfl .nil) rfl (by exact (pf0 _)) (qiC _ _ _ _ _ hr_7)) ?_
     rintro _ _ ⟨_, ⟨rfl, rfl⟩, rfl⟩
     refine r_st ((.cell b_o0 (qf r_7)) :: _) rfl (qj (qF (gr [.d, .d] (r_d rfl rfl rfl (s_ar (r := ((i_3 + 1 : Nat) : Int)) rfl rfl rfl (by simp [iar]) (by omega)) (r_d rfl rfl rfl (qb rfl rfl) (qj (qM [(3, .clo (.func 156) [] [.ptr (.ref b_o0 0 []), .ptr (.int .i64 put_a3_c1)]), (19, .lst (l_a1.map (D.int .i64))), (20, .int .i64 (l_a1.length : Int)), (21, .int .i64 ((i_3 + 1 : Nat) : Int))] (Sub.cons' rfl (Sub.cons' rfl (Sub.cons' rfl (Sub.cons' rfl (Sub.nil _))))) ?_)))))))
     exact IH0 _ _ _ (by omega) ⟨(i_3 + 1), r_7, rfl, rfl, rfl, (by omega), hr⟩
noncomputable def qaz (l_a1 : (List Int)) (most_a2 : Int) (high_a3 : Int) (c_0 : qa) : Option (qa) :=
  ((qfY l_a1 most_a2 high_a3 c_0).bind fun r_1 =>
  some (r_1))
set_option maxHeartbeats 1000000 in
theorem qcr (l_a1 : (List Int)) (most_a2 : Int) (high_a3 : Int) (c_0 : qa) (b_o0 : Nat) (res : qa) (hr : qaz l_a1 most_a2 high_a3 c_0 = some res) : Spec Tryz.prog 69 [.ref b_o0 0 [], .lst (l_a1.map (D.int .i64)), .int .i64 most_a2, .int .i64 high_a3] [.cell b_o0 (qf c_0)] (fun d σ => d = .tup [] ∧ σ = [.cell b_o0 (qf res)]) := by
  unfold qaz at hr
  refine qR [(0, .ref b_o0 0 []), (1, .lst (l_a1.map (D.int .i64))), (2, .int .i64 most_a2), (3, .int .i64 high_a3)] Tryz.func69 rfl rfl fun K hK => (qh (gr [.d, .d] (r_d rfl rfl rfl (qef rfl rfl rfl) (r_d rfl rfl rfl (qef rfl rfl rfl) (qj (gr [.d, .d, .d, .d, .w] (r_d rfl rfl rfl (qk rfl rfl (by exact qO) rfl) (r_d rfl rfl rfl (qb rfl rfl) (r_d rfl rfl rfl (qb rfl rfl) (r_d rfl rfl rfl (qcg rfl rfl rfl) ?_))))))))))
  obtain ⟨r_1, hr_1, hr⟩ := bindS hr
  refine r_w rfl rfl rfl (qac _ rfl qlW (.oc rfl (.oc rfl (.oc rfl (.oc rfl .nil)))) (by exact (pf0 _)) (qlS _ _ _ _ _ _ hr_1)) ?_
  rintro _ _ ⟨_, ⟨rfl, rfl⟩, rfl⟩
  refine r_st ((.cell b_o0 (qf r_1)) :: _) rfl (qj ?_)
  obtain rfl := Option.some.inj hr
  refine qfN Tryz.func69 _ .nil ?_
  exact ⟨rfl, rfl⟩
noncomputable def qdI (f_a0 : qZ) (c_0 : qa) : Option (qa) :=
  ((qr f_a0.f0_Rule 0 40 c_0).bind fun r_1 =>
  ((qaz f_a0.f1_IDs 4 2147483648 r_1).bind fun r_2 =>
  some (r_2)))
set_option maxHeartbeats 1000000 in
theorem qk3 (f_a0 : qZ) (c_0 : qa) (b_o0 : Nat) (res : qa) (hr : qdI f_a0 c_0 = some res) : Spec Tryz.prog 68 [qq f_a0, .ptr (.ref b_o0 0 [])] [.cell b_o0 (qf c_0)] (fun d σ => d = .tup [] ∧ σ = [.cell b_o0 (qf res)]) := by
  unfold qdI at hr
  refine qR [(0, qq f_a0), (1, .ptr (.ref b_o0 0 []))] Tryz.func68 rfl rfl fun K hK => (qh (gr [.d] (r_d rfl rfl rfl (qef rfl rfl rfl) (qj (qh (gr [.d, .d, .d, .w] (r_d rfl rfl rfl (qk rfl rfl (by exact qO) rfl) (r_d rfl rfl rfl (qg rfl qfR rfl rfl rfl rfl) (r_d rfl rfl rfl (qk rfl rfl (by exact qW) rfl) ?_)))))))))
  obtain ⟨r_1, hr_1, hr⟩ := bindS hr
  refine r_w rfl rfl rfl (qac _ rfl qz (.oc rfl (.oc rfl (.oc rfl (.oc rfl .nil)))) (by exact (pf0 _)) (qw _ _ _ _ _ _ hr_1)) ?_
  rintro _ _ ⟨_, ⟨rfl, rfl⟩, rfl⟩
  refine r_st ((.cell b_o0 (qf r_1)) :: _) rfl (qj (gr [.d, .d, .d, .w] (r_d rfl rfl rfl (qk rfl rfl (by exact qO) rfl) (r_d rfl rfl rfl (qg rfl qcb rfl rfl rfl rfl) (r_d rfl rfl rfl (qk rfl rfl (by exact qao) rfl) ?_)))))
  obtain ⟨r_2, hr_2, hr⟩ := bindS hr
  refine r_w rfl rfl rfl (qac _ rfl qc1 (.oc rfl (.oc rfl (.oc rfl (.oc rfl .nil)))) (by exact (pf0 _)) (qcr _ _ _ _ _ _ hr_2)) ?_
  rintro _ _ ⟨_, ⟨rfl, rfl⟩, rfl⟩
  refine r_st ((.cell b_o0 (qf r_2)) :: _) rfl (qj ?_)
  obtain rfl := Option.some.inj hr
  refine qfN Tryz.func68 _ .nil ?_
  exact ⟨rfl, rfl⟩
noncomputable def qcP (k : (qa) → Option (qa)) : List qZ → qa → Option (qa)
  | [], w_4 =>
  (k w_4)
  | q_6 :: rest, w_4 =>
  ((qdI q_6 w_4).bind fun r_8 =>
  (qcP k rest r_8))
noncomputable def qfz (l_a1 : (List qZ)) (most_a2 : Int) (c_0 : qa) : Option (qa) :=
  ((qr (l_a1.length : Int) 0 most_a2 c_0).bind fun r_1 =>
  (bif r_1.f1_bad then
  some (r_1)
  else
  (qcP (fun w_5 =>
  some (w_5)) l_a1 r_1)))
set_option maxHeartbeats 1000000 in
theorem qmc (l_a1 : (List qZ)) (most_a2 : Int) (c_0 : qa) (b_o0 : Nat) (res : qa) (hr : qfz l_a1 most_a2 c_0 = some res) : Spec Tryz.prog 67 [.ref b_o0 0 [], .lst (l_a1.map qq), .int .i64 most_a2, .clo (.func 68) [] [.ptr (.ref b_o0 0 [])]] [.cell b_o0 (qf c_0)] (fun d σ => d = .tup [] ∧ σ = [.cell b_o0 (qf res)]) := by
  unfold qfz at hr
  refine qR [(0, .ref b_o0 0 []), (1, .lst (l_a1.map qq)), (2, .int .i64 most_a2), (3, .clo (.func 68) [] [.ptr (.ref b_o0 0 [])])] Tryz.func67 rfl rfl fun K hK => (qh (gr [.d, .d, .d, .d, .w] (r_d rfl rfl rfl (qb rfl rfl) (r_d rfl rfl rfl (qb rfl rfl) (r_d rfl rfl rfl (qT (f := qq) l_a1 rfl qbh rfl (asl rfl)) (r_d rfl rfl rfl (qb rfl rfl) ?_))))))
  obtain ⟨r_1, hr_1, hr⟩ := bindS hr
  refine r_w rfl rfl rfl (qac _ rfl qz (.oc rfl (.oc rfl (.oc rfl (.oc rfl .nil)))) (by exact (pf0 _)) (qw _ _ _ _ _ _ hr_1)) ?_
  rintro _ _ ⟨_, ⟨rfl, rfl⟩, rfl⟩
  refine r_st ((.cell b_o0 (qf r_1)) :: _) rfl (qj (qh (qh (gr [.d, .d, .d, .r] (r_d rfl rfl rfl (qb rfl rfl) (r_d rfl rfl rfl (qQ rfl rfl) (r_d rfl rfl rfl (qL rfl qG rfl) (r_r rfl rfl rfl (qap rfl rfl (.head _) rfl rfl (by exact qcE) rfl) (qj ?_)))))))))
  refine g_sB 18 rfl hr (fun h18_1 hr => ?_) (fun h18_1 hr => ?_)
  ·
   refine qo rfl ?_
   obtain rfl := Option.some.inj hr
   refine qJ Tryz.func67 _ .nil ?_
   exact ⟨rfl, rfl⟩
  ·
   refine qs rfl (qE (qh (gr [.d, .d, .d] (r_d rfl rfl rfl (qb rfl rfl) (r_d rfl rfl rfl (qT (f := qq) l_a1 rfl qbh rfl (asl rfl)) (r_d rfl rfl rfl (qb rfl rfl) (qj ?_)))))))
   obtain ⟨kk0, hkk0, hr⟩ := exK (fun k => qcP k l_a1 r_1) hr
   refine qdG 1 rfl (asl rfl) fun hla0 => ?_
   simp only [List.length_map] at hla0
   refine qV (fun env σ => ∃ (w_5 : qa), env = [] ∧ σ = [.cell b_o0 (qf w_5)] ∧ kk0 w_5 = some res) ?_ (fun HK0 => ?_)
   ·
    rintro _ _ ⟨w_5, rfl, rfl, hr⟩
    rw [hkk0] at hr
    obtain rfl := Option.some.inj hr
    refine qfN Tryz.func67 _ .nil ?_
    exact ⟨rfl, rfl⟩
   ·
    refine qM [(3, .clo (.func 68) [] [.ptr (.ref b_o0 0 [])]), (19, .lst (l_a1.map qq)), (20, .int .i64 (l_a1.length : Int)), (21, .int .i64 ((0 : Nat) : Int))] (Sub.cons' rfl (Sub.cons' rfl (Sub.cons' rfl (Sub.cons' rfl (Sub.nil _))))) (qaM (fun n env σ => ∃ (i_3 : Nat) (w_4 : qa), (n = l_a1.length - i_3) ∧ (env = [(3, .clo (.func 68) [] [.ptr (.ref b_o0 0 [])]), (19, .lst (l_a1.map qq)), (20, .int .i64 (l_a1.length : Int)), (21, .int .i64 (i_3 : Int))]) ∧ (σ = [.cell b_o0 (qf w_4)]) ∧ (i_3 ≤ l_a1.length) ∧ (qcP kk0 (l_a1.drop i_3) w_4 = some res)) _ ⟨0, r_1, rfl, rfl, rfl, Nat.zero_le _, hr⟩ ?_)
    rintro n _ _ ⟨i_3, w_4, rfl, rfl, rfl, hi0, hr⟩ IH0
    rcases listStep l_a1 i_3 hi0 with ⟨ht0, hd0, he0⟩ | ⟨q_6, ht0, hd0, hq0, hlt0⟩
    ·
     rw [hd0, qcP] at hr
     refine qh (gr [.d] (r_d rfl rfl rfl (qB rfl rfl rfl rfl) (qj (qh (qC 22 false rfl ht0 (qs rfl (qaw rfl (qM [] (Sub.nil _) ?_))))))))
     exact HK0 _ _ ⟨w_4, rfl, rfl, hr⟩
    ·
     rw [hd0, qcP] at hr
     refine qh (gr [.d] (r_d rfl rfl rfl (qB rfl rfl rfl rfl) (qj (qh (qC 22 true rfl ht0 (qo rfl (qE (qh (q0 (qh (gr [.d, .d, .w, .w] ?_)))))))))))
     refine r_d rfl rfl rfl (qN (f := qq) l_a1 rfl qbh rfl (asl rfl) rfl hq0 qb9 rfl) (r_d rfl rfl rfl (qk rfl rfl (by exact qgS) (qb9 _)) (r_w rfl rfl rfl (qa8 rfl qnB) ?_))
     rintro _ _ ⟨b9_6, rfl, rfl⟩
     refine qbE rfl rfl rfl (qag _ rfl rfl rfl (Wk.refl _) (pf0 _) (by exact qgS) (qb9 _) rfl rfl) (qj (qaT 9 b9_6 rfl (pf0 _) (gr [.d, .d, .w] (r_d rfl rfl rfl (qb rfl rfl) (r_d rfl rfl rfl (qk rfl rfl (by exact qgS) (qb9 _)) ?_)))))
     obtain ⟨r_8, hr_8, hr⟩ := bindS hr
     refine r_w rfl rfl rfl (qfj _ rfl rfl qlU (.oc rfl .nil) rfl (by exact (pf0 _)) (qk3 _ _ _ _ hr_8)) ?_
     rintro _ _ ⟨_, ⟨rfl, rfl⟩, rfl⟩
     refine r_st ((.cell b_o0 (qf r_8)) :: _) rfl (qj (qF (gr [.d, .d] (r_d rfl rfl rfl (s_ar (r := ((i_3 + 1 : Nat) : Int)) rfl rfl rfl (by simp [iar]) (by omega)) (r_d rfl rfl rfl (qb rfl rfl) (qj (qM [(3, .clo (.func 68) [] [.ptr (.ref b_o0 0 [])]), (19, .lst (l_a1.map qq)), (20, .int .i64 (l_a1.length : Int)), (21, .int .i64 ((i_3 + 1 : Nat) : Int))] (Sub.cons' rfl (Sub.cons' rfl (Sub.cons' rfl (Sub.cons' rfl (Sub.nil _))))) ?_)))))))
     exact IH0 _ _ _ (by omega) ⟨(i_3 + 1), r_8, rfl, rfl, rfl, (by omega), hr⟩
noncomputable def qey (fuel : Nat) (c_a0 : qar) : Option ((List Int)) :=
  ((qr 2 2 2 (⟨[], false⟩ : qa)).bind fun r_3 =>
  ((qfI fuel c_a0.f0_Stack 1000 r_3).bind fun r_4 =>
  ((qfE fuel c_a0.f1_Store 500 r_4).bind fun r_5 =>
  ((qfF fuel c_a0.f2_Binds 1048576 r_5).bind fun r_6 =>
  ((qfz c_a0.f3_Fired 5000 r_6).bind fun r_7 =>
  ((qr c_a0.f4_Next 0 2147483648 r_7).bind fun r_8 =>
  ((qr c_a0.f5_Fresh 0 1048576 r_8).bind fun r_9 =>
  ((qjf r_9.f0_b c_a0.f6_Failed).bind fun r_10 =>
  ((qcx (⟨r_10, r_9.f1_bad⟩ : qa)).bind fun r_11 =>
  some (r_11))))))))))
set_option maxHeartbeats 1000000 in
theorem qiz (fuel : Nat) (c_a0 : qar) (res : (List Int)) (hr : qey fuel c_a0 = some res) : Gives Tryz.prog 17 [qae c_a0] (.lst (res.map (D.int .u8))) := by
  unfold qey at hr
  refine qR [(0, qae c_a0)] Tryz.func17 rfl rfl fun K hK => (qh (gr [.d, .d] (r_d rfl rfl rfl (qef rfl rfl rfl) (r_d rfl rfl rfl (qe rfl rfl) (qj (qh (gr [.d, .w, .w, .w] (r_d rfl rfl rfl (qeB rfl qim .nil (.nil _)) (r_w rfl rfl rfl (qmv rfl rfl rfl) ?_)))))))))
  rintro _ _ ⟨b5_0, rfl, rfl⟩
  refine r_w rfl rfl rfl (qa8 rfl qiH) ?_
  rintro _ _ ⟨b3_1, rfl, rfl⟩
  refine qbE rfl rfl rfl (qag _ rfl rfl rfl (Wk.refl _) (pf0 _) (by exact qO) rfl rfl rfl) (qj (qaT 3 b3_1 rfl (pf0 _) (qh (gr [.d, .w] (r_d rfl rfl rfl (qk rfl rfl (by exact qO) rfl) ?_)))))
  obtain ⟨r_3, hr_3, hr⟩ := bindS hr
  refine r_w rfl rfl rfl (qac _ rfl qz (.oc rfl (.oc rfl (.oc rfl (.oc rfl .nil)))) (by exact (pf0 _)) (qw _ _ _ _ _ _ hr_3)) ?_
  rintro _ _ ⟨_, ⟨rfl, rfl⟩, rfl⟩
  refine r_st ((.cell b5_0 (qf r_3)) :: _) rfl (qj (qh (gr [.d, .d, .d, .d, .d, .w] (r_d rfl rfl rfl (qk rfl rfl (by exact qO) rfl) (r_d rfl rfl rfl (qg rfl qd5 rfl rfl rfl rfl) (r_d rfl rfl rfl (qk rfl rfl (by exact qew) rfl) (r_d rfl rfl rfl (qk rfl rfl (by exact qO) rfl) (r_d rfl rfl rfl (qcg rfl rfl rfl) ?_))))))))
  obtain ⟨r_4, hr_4, hr⟩ := bindS hr
  refine r_w rfl rfl rfl (qac _ rfl qjL (.oc rfl (.oc rfl (.oc rfl (.oc rfl .nil)))) (by exact (pf0 _)) (qmb fuel _ _ _ _ _ hr_4)) ?_
  rintro _ _ ⟨_, ⟨rfl, rfl⟩, rfl⟩
  refine r_st ((.cell b5_0 (qf r_4)) :: _) rfl (qj (qh (gr [.d, .d, .d, .d, .w] (r_d rfl rfl rfl (qk rfl rfl (by exact qO) rfl) (r_d rfl rfl rfl (qg rfl qig rfl rfl rfl rfl) (r_d rfl rfl rfl (qk rfl rfl (by exact qja) rfl) (r_d rfl rfl rfl (qcg rfl rfl rfl) ?_)))))))
  obtain ⟨r_5, hr_5, hr⟩ := bindS hr
  refine r_w rfl rfl rfl (qac _ rfl qjX (.oc rfl (.oc rfl (.oc rfl (.oc rfl .nil)))) (by exact (pf0 _)) (ql6 fuel _ _ _ _ _ hr_5)) ?_
  rintro _ _ ⟨_, ⟨rfl, rfl⟩, rfl⟩
  refine r_st ((.cell b5_0 (qf r_5)) :: _) rfl (qj (qh (gr [.d, .d, .d, .d, .w] (r_d rfl rfl rfl (qk rfl rfl (by exact qO) rfl) (r_d rfl rfl rfl (qg rfl qg1 rfl rfl rfl rfl) (r_d rfl rfl rfl (qk rfl rfl (by exact qiK) rfl) (r_d rfl rfl rfl (qcg rfl rfl rfl) ?_)))))))
  obtain ⟨r_6, hr_6, hr⟩ := bindS hr
  refine r_w rfl rfl rfl (qac _ rfl qj0 (.oc rfl (.oc rfl (.oc rfl (.oc rfl .nil)))) (by exact (pf0 _)) (qmj fuel _ _ _ _ _ hr_6)) ?_
  rintro _ _ ⟨_, ⟨rfl, rfl⟩, rfl⟩
  refine r_st ((.cell b5_0 (qf r_6)) :: _) rfl (qj (qh (gr [.d, .d, .d, .d, .w] (r_d rfl rfl rfl (qk rfl rfl (by exact qO) rfl) (r_d rfl rfl rfl (qg rfl qil rfl rfl rfl rfl) (r_d rfl rfl rfl (qk rfl rfl (by exact qi8) rfl) (r_d rfl rfl rfl (qcg rfl rfl rfl) ?_)))))))
  obtain ⟨r_7, hr_7, hr⟩ := bindS hr
  refine r_w rfl rfl rfl (qac _ rfl qjZ (.oc rfl (.oc rfl (.oc rfl (.oc rfl .nil)))) (by exact (pf0 _)) (qmc _ _ _ _ _ hr_7)) ?_
  rintro _ _ ⟨_, ⟨rfl, rfl⟩, rfl⟩
  refine r_st ((.cell b5_0 (qf r_7)) :: _) rfl (qj (qh (gr [.d, .d, .d, .w] (r_d rfl rfl rfl (qk rfl rfl (by exact qO) rfl) (r_d rfl rfl rfl (qg rfl qio rfl rfl rfl rfl) (r_d rfl rfl rfl (qk rfl rfl (by exact qW) rfl) ?_))))))
  obtain ⟨r_8, hr_8, hr⟩ := bindS hr
  refine r_w rfl rfl rfl (qac _ rfl qz (.oc rfl (.oc rfl (.oc rfl (.oc rfl .nil)))) (by exact (pf0 _)) (qw _ _ _ _ _ _ hr_8)) ?_
  rintro _ _ ⟨_, ⟨rfl, rfl⟩, rfl⟩
  refine r_st ((.cell b5_0 (qf r_8)) :: _) rfl (qj (qh (gr [.d, .d, .d, .w] (r_d rfl rfl rfl (qk rfl rfl (by exact qO) rfl) (r_d rfl rfl rfl (qg rfl qiB rfl rfl rfl rfl) (r_d rfl rfl rfl (qk rfl rfl (by exact qW) rfl) ?_))))))
  obtain ⟨r_9, hr_9, hr⟩ := bindS hr
  refine r_w rfl rfl rfl (qac _ rfl qz (.oc rfl (.oc rfl (.oc rfl (.oc rfl .nil)))) (by exact (pf0 _)) (qw _ _ _ _ _ _ hr_9)) ?_
  rintro _ _ ⟨_, ⟨rfl, rfl⟩, rfl⟩
  refine r_st ((.cell b5_0 (qf r_9)) :: _) rfl (qj (qh (ga [(0, .d), (1, .d), (2, .d), (3, .d), (4, .r), (5, .d), (6, .d), (7, .d), (8, .d), (9, .d), (10, .w)] (r_d rfl rfl rfl (qk rfl rfl (by exact qO) rfl) (r_d rfl rfl rfl (qk rfl rfl (by exact qO) rfl) (r_d rfl rfl rfl (qQ rfl rfl) (r_d rfl rfl rfl (qL rfl qaQ rfl) (r_r rfl rfl rfl (qap rfl rfl (.head _) rfl rfl (by exact qdR) rfl) (r_d rfl rfl rfl (qg rfl qls rfl rfl rfl rfl) (r_d rfl rfl rfl (qk rfl rfl (by exact qcE) rfl) ?_))))))))))
  obtain ⟨r_10, hr_10, hr⟩ := bindS hr
  refine r_d rfl rfl rfl (qK rfl qlf (.oc rfl (.oc rfl .nil)) (qlb _ _ _ hr_10)) (r_d rfl rfl rfl (qQ rfl rfl) (r_d rfl rfl rfl (qL rfl qaQ rfl) (qbE rfl rfl rfl (qcu _ rfl rfl rfl (Wk.refl _) (pf0 _) rfl rfl (by exact qdR) rfl rfl rfl) (qj (qh (gr [.d, .w, .d] (r_d rfl rfl rfl (qk rfl rfl (by exact qO) rfl) ?_)))))))
  obtain ⟨r_11, hr_11, hr⟩ := bindS hr
  refine r_w rfl rfl rfl (qac _ rfl qge (.oc rfl .nil) (by exact (pf0 _)) (qfP _ _ _ hr_11)) ?_
  rintro _ _ ⟨_, ⟨rfl, rfl⟩, rfl⟩
  refine r_st ((.cell b5_0 (.agg [.lst (r_10.map (D.int .u8)), .bool r_9.f1_bad])) :: _) rfl (r_d rfl rfl rfl (qe rfl rfl) (qj ?_))
  obtain rfl := Option.some.inj hr
  refine qJ Tryz.func17 _ (.cons (resTmp rfl (Wk.refl _)) .nil) ?_
  rfl
noncomputable def qcW (fuel : Nat) (f_a1 : qX) (c_0 : qa) : Option (qa) :=
  ((qr f_a1.f0_ID 0 2147483648 c_0).bind fun r_1 =>
  ((qco fuel f_a1.f1_Atom r_1).bind fun r_2 =>
  ((qaz f_a1.f2_Just 64 64 r_2).bind fun r_3 =>
  some (r_3))))
set_option maxHeartbeats 1000000 in
theorem qjl (fuel : Nat) (f_a1 : qX) (c_0 : qa) (b_o0 : Nat) (res : qa) (hr : qcW fuel f_a1 c_0 = some res) : Spec Tryz.prog 106 [.ref b_o0 0 [], qu f_a1] [.cell b_o0 (qf c_0)] (fun d σ => d = .tup [] ∧ σ = [.cell b_o0 (qf res)]) := by
  unfold qcW at hr
  refine qR [(0, .ref b_o0 0 []), (1, qu f_a1)] Tryz.func106 rfl rfl fun K hK => (qh (gr [.d] (r_d rfl rfl rfl (qef rfl rfl rfl) (qj (qh (gr [.d, .d, .d, .w] (r_d rfl rfl rfl (qb rfl rfl) (r_d rfl rfl rfl (qg rfl qeY rfl rfl rfl rfl) (r_d rfl rfl rfl (qk rfl rfl (by exact qW) rfl) ?_)))))))))
  obtain ⟨r_1, hr_1, hr⟩ := bindS hr
  refine r_w rfl rfl rfl (qac _ rfl qz (.oc rfl (.oc rfl (.oc rfl (.oc rfl .nil)))) (by exact (pf0 _)) (qw _ _ _ _ _ _ hr_1)) ?_
  rintro _ _ ⟨_, ⟨rfl, rfl⟩, rfl⟩
  refine r_st ((.cell b_o0 (qf r_1)) :: _) rfl (qj (qh (gr [.d, .d, .d, .w] (r_d rfl rfl rfl (qb rfl rfl) (r_d rfl rfl rfl (qg rfl qeJ rfl rfl rfl rfl) (r_d rfl rfl rfl (qk rfl rfl (by exact qbQ) (qan _)) ?_))))))
  obtain ⟨r_2, hr_2, hr⟩ := bindS hr
  refine r_w rfl rfl rfl (qac _ rfl qf2 (.oc rfl (.oc rfl .nil)) (by exact (pf0 _)) (qfD fuel _ _ _ _ hr_2)) ?_
  rintro _ _ ⟨_, ⟨rfl, rfl⟩, rfl⟩
  refine r_st ((.cell b_o0 (qf r_2)) :: _) rfl (qj (gr [.d, .d, .d, .w] (r_d rfl rfl rfl (qb rfl rfl) (r_d rfl rfl rfl (qg rfl qda rfl rfl (by simp [szs, sz, qan]) rfl) (r_d rfl rfl rfl (qk rfl rfl (by exact qao) rfl) ?_)))))
  obtain ⟨r_3, hr_3, hr⟩ := bindS hr
  refine r_w rfl rfl rfl (qac _ rfl qc1 (.oc rfl (.oc rfl (.oc rfl (.oc rfl .nil)))) (by exact (pf0 _)) (qcr _ _ _ _ _ _ hr_3)) ?_
  rintro _ _ ⟨_, ⟨rfl, rfl⟩, rfl⟩
  refine r_st ((.cell b_o0 (qf r_3)) :: _) rfl (qj ?_)
  obtain rfl := Option.some.inj hr
  refine qfN Tryz.func106 _ .nil ?_
  exact ⟨rfl, rfl⟩
noncomputable def qcF (k : (qa) → Option (qa)) (fuel : Nat) : List qX → qa → Option (qa)
  | [], w_4 =>
  (k w_4)
  | q_6 :: rest, w_4 =>
  ((qcW fuel q_6 w_4).bind fun r_8 =>
  (qcF k fuel rest r_8))
noncomputable def qeN (fuel : Nat) (l_a1 : (List qX)) (most_a2 : Int) (c_0 : qa) : Option (qa) :=
  ((qr (l_a1.length : Int) 0 most_a2 c_0).bind fun r_1 =>
  (bif r_1.f1_bad then
  some (r_1)
  else
  (qcF (fun w_5 =>
  some (w_5)) fuel l_a1 r_1)))
set_option maxHeartbeats 1000000 in
theorem qiU (fuel : Nat) (l_a1 : (List qX)) (most_a2 : Int) (c_0 : qa) (b_o0 : Nat) (res : qa) (hr : qeN fuel l_a1 most_a2 c_0 = some res) : Spec Tryz.prog 105 [.ref b_o0 0 [], .lst (l_a1.map qu), .int .i64 most_a2, .clo (.func 106) [.ref b_o0 0 []] []] [.cell b_o0 (qf c_0)] (fun d σ => d = .tup [] ∧ σ = [.cell b_o0 (qf res)]) := by
  unfold qeN at hr
  refine qR [(0, .ref b_o0 0 []), (1, .lst (l_a1.map qu)), (2, .int .i64 most_a2), (3, .clo (.func 106) [.ref b_o0 0 []] [])] Tryz.func105 rfl rfl fun K hK => (qh (gr [.d, .d, .d, .d, .w] (r_d rfl rfl rfl (qb rfl rfl) (r_d rfl rfl rfl (qb rfl rfl) (r_d rfl rfl rfl (qT (f := qu) l_a1 rfl qaf rfl (asl rfl)) (r_d rfl rfl rfl (qb rfl rfl) ?_))))))
  obtain ⟨r_1, hr_1, hr⟩ := bindS hr
  refine r_w rfl rfl rfl (qac _ rfl qz (.oc rfl (.oc rfl (.oc rfl (.oc rfl .nil)))) (by exact (pf0 _)) (qw _ _ _ _ _ _ hr_1)) ?_
  rintro _ _ ⟨_, ⟨rfl, rfl⟩, rfl⟩
  refine r_st ((.cell b_o0 (qf r_1)) :: _) rfl (qj (qh (qh (gr [.d, .d, .d, .r] (r_d rfl rfl rfl (qb rfl rfl) (r_d rfl rfl rfl (qQ rfl rfl) (r_d rfl rfl rfl (qL rfl qG rfl) (r_r rfl rfl rfl (qap rfl rfl (.head _) rfl rfl (by exact qcE) rfl) (qj ?_)))))))))
  refine g_sB 18 rfl hr (fun h18_1 hr => ?_) (fun h18_1 hr => ?_)
  ·
   refine qo rfl ?_
   obtain rfl := Option.some.inj hr
   refine qJ Tryz.func105 _ .nil ?_
   exact ⟨rfl, rfl⟩
  ·
   refine qs rfl (qE (qh (gr [.d, .d, .d] (r_d rfl rfl rfl (qb rfl rfl) (r_d rfl rfl rfl (qT (f := qu) l_a1 rfl qaf rfl (asl rfl)) (r_d rfl rfl rfl (qb rfl rfl) (qj ?_)))))))
   obtain ⟨kk0, hkk0, hr⟩ := exK (fun k => qcF k fuel l_a1 r_1) hr
   refine qdG 1 rfl (asl rfl) fun hla0 => ?_
   simp only [List.length_map] at hla0
   refine qV (fun env σ => ∃ (w_5 : qa), env = [] ∧ σ = [.cell b_o0 (qf w_5)] ∧ kk0 w_5 = some res) ?_ (fun HK0 => ?_)
   ·
    rintro _ _ ⟨w_5, rfl, rfl, hr⟩
    rw [hkk0] at hr
    obtain rfl := Option.some.inj hr
    refine qfN Tryz.func105 _ .nil ?_
    exact ⟨rfl, rfl⟩
   ·
    refine qM [(3, .clo (.func 106) [.ref b_o0 0 []] []), (19, .lst (l_a1.map qu)), (20, .int .i64 (l_a1.length : Int)), (21, .int .i64 ((0 : Nat) : Int))] (Sub.cons' rfl (Sub.cons' rfl (Sub.cons' rfl (Sub.cons' rfl (Sub.nil _))))) (qaM (fun n env σ => ∃ (i_3 : Nat) (w_4 : qa), (n = l_a1.length - i_3) ∧ (env = [(3, .clo (.func 106) [.ref b_o0 0 []] []), (19, .lst (l_a1.map qu)), (20, .int .i64 (l_a1.length : Int)), (21, .int .i64 (i_3 : Int))]) ∧ (σ = [.cell b_o0 (qf w_4)]) ∧ (i_3 ≤ l_a1.length) ∧ (qcF kk0 fuel (l_a1.drop i_3) w_4 = some res)) _ ⟨0, r_1, rfl, rfl, rfl, Nat.zero_le _, hr⟩ ?_)
    rintro n _ _ ⟨i_3, w_4, rfl, rfl, rfl, hi0, hr⟩ IH0
    rcases listStep l_a1 i_3 hi0 with ⟨ht0, hd0, he0⟩ | ⟨q_6, ht0, hd0, hq0, hlt0⟩
    ·
     rw [hd0, qcF] at hr
     refine qh (gr [.d] (r_d rfl rfl rfl (qB rfl rfl rfl rfl) (qj (qh (qC 22 false rfl ht0 (qs rfl (qaw rfl (qM [] (Sub.nil _) ?_))))))))
     exact HK0 _ _ ⟨w_4, rfl, rfl, hr⟩
    ·
     rw [hd0, qcF] at hr
     refine qh (gr [.d] (r_d rfl rfl rfl (qB rfl rfl rfl rfl) (qj (qh (qC 22 true rfl ht0 (qo rfl (qE (qh (q0 (qh (gr [.d, .d, .w, .w] ?_)))))))))))
     refine r_d rfl rfl rfl (qN (f := qu) l_a1 rfl qaf rfl (asl rfl) rfl hq0 qai rfl) (r_d rfl rfl rfl (qk rfl rfl (by exact qcH) (qai _)) (r_w rfl rfl rfl (qa8 rfl qgq) ?_))
     rintro _ _ ⟨b9_6, rfl, rfl⟩
     refine qbE rfl rfl rfl (qag _ rfl rfl rfl (Wk.refl _) (pf0 _) (by exact qcH) (qai _) (by simp [sz, szs, qdC, qan]) rfl) (qj (qaT 9 b9_6 rfl (pf0 _) (gr [.d, .d, .w] (r_d rfl rfl rfl (qb rfl rfl) (r_d rfl rfl rfl (qk rfl rfl (by exact qcH) (qai _)) ?_)))))
     obtain ⟨r_8, hr_8, hr⟩ := bindS hr
     refine r_w rfl rfl rfl (qfj _ rfl rfl qkj (.oc rfl .nil) rfl (by exact (pf0 _)) (qjl fuel _ _ _ _ hr_8)) ?_
     rintro _ _ ⟨_, ⟨rfl, rfl⟩, rfl⟩
     refine r_st ((.cell b_o0 (qf r_8)) :: _) rfl (qj (qF (gr [.d, .d] (r_d rfl rfl rfl (s_ar (r := ((i_3 + 1 : Nat) : Int)) rfl rfl rfl (by simp [iar]) (by omega)) (r_d rfl rfl rfl (qb rfl rfl) (qj (qM [(3, .clo (.func 106) [.ref b_o0 0 []] []), (19, .lst (l_a1.map qu)), (20, .int .i64 (l_a1.length : Int)), (21, .int .i64 ((i_3 + 1 : Nat) : Int))] (Sub.cons' rfl (Sub.cons' rfl (Sub.cons' rfl (Sub.cons' rfl (Sub.nil _))))) ?_)))))))
     exact IH0 _ _ _ (by omega) ⟨(i_3 + 1), r_8, rfl, rfl, rfl, (by omega), hr⟩
noncomputable def qct (x_a1 : qat) (c_0 : qa) : Option (qa) :=
  ((qr x_a1.f0_Rule 0 40 c_0).bind fun r_1 =>
  ((qaz x_a1.f1_Heads 4 2147483648 r_1).bind fun r_2 =>
  ((qaz x_a1.f2_Gone 4 2147483648 r_2).bind fun r_3 =>
  ((qaz x_a1.f3_Made 12 2147483648 r_3).bind fun r_4 =>
  ((qjf r_4.f0_b x_a1.f4_Failed).bind fun r_5 =>
  ((qaz x_a1.f5_Just 64 64 (⟨r_5, r_4.f1_bad⟩ : qa)).bind fun r_6 =>
  some (r_6)))))))
set_option maxHeartbeats 1000000 in
theorem qiN (x_a1 : qat) (c_0 : qa) (b_o0 : Nat) (res : qa) (hr : qct x_a1 c_0 = some res) : Spec Tryz.prog 108 [.ref b_o0 0 [], qv x_a1] [.cell b_o0 (qf c_0)] (fun d σ => d = .tup [] ∧ σ = [.cell b_o0 (qf res)]) := by
  unfold qct at hr
  refine qR [(0, .ref b_o0 0 []), (1, qv x_a1)] Tryz.func108 rfl rfl fun K hK => (qh (gr [.d] (r_d rfl rfl rfl (qef rfl rfl rfl) (qj (qh (gr [.d, .d, .d, .w] (r_d rfl rfl rfl (qb rfl rfl) (r_d rfl rfl rfl (qg rfl qhG rfl rfl rfl rfl) (r_d rfl rfl rfl (qk rfl rfl (by exact qW) rfl) ?_)))))))))
  obtain ⟨r_1, hr_1, hr⟩ := bindS hr
  refine r_w rfl rfl rfl (qac _ rfl qz (.oc rfl (.oc rfl (.oc rfl (.oc rfl .nil)))) (by exact (pf0 _)) (qw _ _ _ _ _ _ hr_1)) ?_
  rintro _ _ ⟨_, ⟨rfl, rfl⟩, rfl⟩
  refine r_st ((.cell b_o0 (qf r_1)) :: _) rfl (qj (qh (gr [.d, .d, .d, .w] (r_d rfl rfl rfl (qb rfl rfl) (r_d rfl rfl rfl (qg rfl qed rfl rfl rfl rfl) (r_d rfl rfl rfl (qk rfl rfl (by exact qao) rfl) ?_))))))
  obtain ⟨r_2, hr_2, hr⟩ := bindS hr
  refine r_w rfl rfl rfl (qac _ rfl qc1 (.oc rfl (.oc rfl (.oc rfl (.oc rfl .nil)))) (by exact (pf0 _)) (qcr _ _ _ _ _ _ hr_2)) ?_
  rintro _ _ ⟨_, ⟨rfl, rfl⟩, rfl⟩
  refine r_st ((.cell b_o0 (qf r_2)) :: _) rfl (qj (qh (gr [.d, .d, .d, .w] (r_d rfl rfl rfl (qb rfl rfl) (r_d rfl rfl rfl (qg rfl qfk rfl rfl rfl rfl) (r_d rfl rfl rfl (qk rfl rfl (by exact qao) rfl) ?_))))))
  obtain ⟨r_3, hr_3, hr⟩ := bindS hr
  refine r_w rfl rfl rfl (qac _ rfl qc1 (.oc rfl (.oc rfl (.oc rfl (.oc rfl .nil)))) (by exact (pf0 _)) (qcr _ _ _ _ _ _ hr_3)) ?_
  rintro _ _ ⟨_, ⟨rfl, rfl⟩, rfl⟩
  refine r_st ((.cell b_o0 (qf r_3)) :: _) rfl (qj (qh (gr [.d, .d, .d, .w] (r_d rfl rfl rfl (qb rfl rfl) (r_d rfl rfl rfl (qg rfl qea rfl rfl rfl rfl) (r_d rfl rfl rfl (qk rfl rfl (by exact qao) rfl) ?_))))))
  obtain ⟨r_4, hr_4, hr⟩ := bindS hr
  refine r_w rfl rfl rfl (qac _ rfl qc1 (.oc rfl (.oc rfl (.oc rfl (.oc rfl .nil)))) (by exact (pf0 _)) (qcr _ _ _ _ _ _ hr_4)) ?_
  rintro _ _ ⟨_, ⟨rfl, rfl⟩, rfl⟩
  refine r_st ((.cell b_o0 (qf r_4)) :: _) rfl (qj (qh (ga [(0, .d), (1, .d), (2, .d), (3, .d), (4, .r), (5, .d), (6, .d), (7, .d), (8, .d), (9, .d), (10, .w)] (r_d rfl rfl rfl (qb rfl rfl) (r_d rfl rfl rfl (qb rfl rfl) (r_d rfl rfl rfl (qQ rfl rfl) (r_d rfl rfl rfl (qL rfl qaQ rfl) (r_r rfl rfl rfl (qap rfl rfl (.head _) rfl rfl (by exact qdR) rfl) (r_d rfl rfl rfl (qg rfl qlh rfl rfl rfl rfl) (r_d rfl rfl rfl (qk rfl rfl (by exact qcE) rfl) ?_))))))))))
  obtain ⟨r_5, hr_5, hr⟩ := bindS hr
  refine r_d rfl rfl rfl (qK rfl qlf (.oc rfl (.oc rfl .nil)) (qlb _ _ _ hr_5)) (r_d rfl rfl rfl (qQ rfl rfl) (r_d rfl rfl rfl (qL rfl qaQ rfl) (qbE rfl rfl rfl (qcu _ rfl rfl rfl (Wk.refl _) (pf0 _) rfl rfl (by exact qdR) rfl rfl rfl) (qj (gr [.d, .d, .d, .w] (r_d rfl rfl rfl (qb rfl rfl) (r_d rfl rfl rfl (qg rfl qhH rfl rfl rfl rfl) (r_d rfl rfl rfl (qk rfl rfl (by exact qao) rfl) ?_))))))))
  obtain ⟨r_6, hr_6, hr⟩ := bindS hr
  refine r_w rfl rfl rfl (qac _ rfl qc1 (.oc rfl (.oc rfl (.oc rfl (.oc rfl .nil)))) (by exact (pf0 _)) (qcr _ _ _ _ _ _ hr_6)) ?_
  rintro _ _ ⟨_, ⟨rfl, rfl⟩, rfl⟩
  refine r_st ((.cell b_o0 (qf r_6)) :: _) rfl (qj ?_)
  obtain rfl := Option.some.inj hr
  refine qfN Tryz.func108 _ .nil ?_
  exact ⟨rfl, rfl⟩
noncomputable def qcD (k : (qa) → Option (qa)) : List qat → qa → Option (qa)
  | [], w_4 =>
  (k w_4)
  | q_6 :: rest, w_4 =>
  ((qct q_6 w_4).bind fun r_8 =>
  (qcD k rest r_8))
noncomputable def qfn (l_a1 : (List qat)) (most_a2 : Int) (c_0 : qa) : Option (qa) :=
  ((qr (l_a1.length : Int) 0 most_a2 c_0).bind fun r_1 =>
  (bif r_1.f1_bad then
  some (r_1)
  else
  (qcD (fun w_5 =>
  some (w_5)) l_a1 r_1)))
set_option maxHeartbeats 1000000 in
theorem qlV (l_a1 : (List qat)) (most_a2 : Int) (c_0 : qa) (b_o0 : Nat) (res : qa) (hr : qfn l_a1 most_a2 c_0 = some res) : Spec Tryz.prog 107 [.ref b_o0 0 [], .lst (l_a1.map qv), .int .i64 most_a2, .clo (.func 108) [.ref b_o0 0 []] []] [.cell b_o0 (qf c_0)] (fun d σ => d = .tup [] ∧ σ = [.cell b_o0 (qf res)]) := by
  unfold qfn at hr
  refine qR [(0, .ref b_o0 0 []), (1, .lst (l_a1.map qv)), (2, .int .i64 most_a2), (3, .clo (.func 108) [.ref b_o0 0 []] [])] Tryz.func107 rfl rfl fun K hK => (qh (gr [.d, .d, .d, .d, .w] (r_d rfl rfl rfl (qb rfl rfl) (r_d rfl rfl rfl (qb rfl rfl) (r_d rfl rfl rfl (qT (f := qv) l_a1 rfl qcd rfl (asl rfl)) (r_d rfl rfl rfl (qb rfl rfl) ?_))))))
  obtain ⟨r_1, hr_1, hr⟩ := bindS hr
  refine r_w rfl rfl rfl (qac _ rfl qz (.oc rfl (.oc rfl (.oc rfl (.oc rfl .nil)))) (by exact (pf0 _)) (qw _ _ _ _ _ _ hr_1)) ?_
  rintro _ _ ⟨_, ⟨rfl, rfl⟩, rfl⟩
  refine r_st ((.cell b_o0 (qf r_1)) :: _) rfl (qj (qh (qh (gr [.d, .d, .d, .r] (r_d rfl rfl rfl (qb rfl rfl) (r_d rfl rfl rfl (qQ rfl rfl) (r_d rfl rfl rfl (qL rfl qG rfl) (r_r rfl rfl rfl (qap rfl rfl (.head _) rfl rfl (by exact qcE) rfl) (qj ?_)))))))))
  refine g_sB 18 rfl hr (fun h18_1 hr => ?_) (fun h18_1 hr => ?_)
  ·
   refine qo rfl ?_
   obtain rfl := Option.some.inj hr
   refine qJ Tryz.func107 _ .nil ?_
   exact ⟨rfl, rfl⟩
  ·
   refine qs rfl (qE (qh (gr [.d, .d, .d] (r_d rfl rfl rfl (qb rfl rfl) (r_d rfl rfl rfl (qT (f := qv) l_a1 rfl qcd rfl (asl rfl)) (r_d rfl rfl rfl (qb rfl rfl) (qj ?_)))))))
   obtain ⟨kk0, hkk0, hr⟩ := exK (fun k => qcD k l_a1 r_1) hr
   refine qdG 1 rfl (asl rfl) fun hla0 => ?_
   simp only [List.length_map] at hla0
   refine qV (fun env σ => ∃ (w_5 : qa), env = [] ∧ σ = [.cell b_o0 (qf w_5)] ∧ kk0 w_5 = some res) ?_ (fun HK0 => ?_)
   ·
    rintro _ _ ⟨w_5, rfl, rfl, hr⟩
    rw [hkk0] at hr
    obtain rfl := Option.some.inj hr
    refine qfN Tryz.func107 _ .nil ?_
    exact ⟨rfl, rfl⟩
   ·
    refine qM [(3, .clo (.func 108) [.ref b_o0 0 []] []), (19, .lst (l_a1.map qv)), (20, .int .i64 (l_a1.length : Int)), (21, .int .i64 ((0 : Nat) : Int))] (Sub.cons' rfl (Sub.cons' rfl (Sub.cons' rfl (Sub.cons' rfl (Sub.nil _))))) (qaM (fun n env σ => ∃ (i_3 : Nat) (w_4 : qa), (n = l_a1.length - i_3) ∧ (env = [(3, .clo (.func 108) [.ref b_o0 0 []] []), (19, .lst (l_a1.map qv)), (20, .int .i64 (l_a1.length : Int)), (21, .int .i64 (i_3 : Int))]) ∧ (σ = [.cell b_o0 (qf w_4)]) ∧ (i_3 ≤ l_a1.length) ∧ (qcD kk0 (l_a1.drop i_3) w_4 = some res)) _ ⟨0, r_1, rfl, rfl, rfl, Nat.zero_le _, hr⟩ ?_)
    rintro n _ _ ⟨i_3, w_4, rfl, rfl, rfl, hi0, hr⟩ IH0
    rcases listStep l_a1 i_3 hi0 with ⟨ht0, hd0, he0⟩ | ⟨q_6, ht0, hd0, hq0, hlt0⟩
    ·
     rw [hd0, qcD] at hr
     refine qh (gr [.d] (r_d rfl rfl rfl (qB rfl rfl rfl rfl) (qj (qh (qC 22 false rfl ht0 (qs rfl (qaw rfl (qM [] (Sub.nil _) ?_))))))))
     exact HK0 _ _ ⟨w_4, rfl, rfl, hr⟩
    ·
     rw [hd0, qcD] at hr
     refine qh (gr [.d] (r_d rfl rfl rfl (qB rfl rfl rfl rfl) (qj (qh (qC 22 true rfl ht0 (qo rfl (qE (qh (q0 (qh (gr [.d, .d, .w, .w] ?_)))))))))))
     refine r_d rfl rfl rfl (qN (f := qv) l_a1 rfl qcd rfl (asl rfl) rfl hq0 qdh rfl) (r_d rfl rfl rfl (qk rfl rfl (by exact qgF) (qdh _)) (r_w rfl rfl rfl (qa8 rfl qlZ) ?_))
     rintro _ _ ⟨b9_6, rfl, rfl⟩
     refine qbE rfl rfl rfl (qag _ rfl rfl rfl (Wk.refl _) (pf0 _) (by exact qgF) (qdh _) rfl rfl) (qj (qaT 9 b9_6 rfl (pf0 _) (gr [.d, .d, .w] (r_d rfl rfl rfl (qb rfl rfl) (r_d rfl rfl rfl (qk rfl rfl (by exact qgF) (qdh _)) ?_)))))
     obtain ⟨r_8, hr_8, hr⟩ := bindS hr
     refine r_w rfl rfl rfl (qfj _ rfl rfl qjF (.oc rfl .nil) rfl (by exact (pf0 _)) (qiN _ _ _ _ hr_8)) ?_
     rintro _ _ ⟨_, ⟨rfl, rfl⟩, rfl⟩
     refine r_st ((.cell b_o0 (qf r_8)) :: _) rfl (qj (qF (gr [.d, .d] (r_d rfl rfl rfl (s_ar (r := ((i_3 + 1 : Nat) : Int)) rfl rfl rfl (by simp [iar]) (by omega)) (r_d rfl rfl rfl (qb rfl rfl) (qj (qM [(3, .clo (.func 108) [.ref b_o0 0 []] []), (19, .lst (l_a1.map qv)), (20, .int .i64 (l_a1.length : Int)), (21, .int .i64 ((i_3 + 1 : Nat) : Int))] (Sub.cons' rfl (Sub.cons' rfl (Sub.cons' rfl (Sub.cons' rfl (Sub.nil _))))) ?_)))))))
     exact IH0 _ _ _ (by omega) ⟨(i_3 + 1), r_8, rfl, rfl, rfl, (by omega), hr⟩
noncomputable def qdQ (fuel : Nat) (m_a0 : qab) : Option ((List Int)) :=
  ((qr 3 3 3 (⟨[], false⟩ : qa)).bind fun r_2 =>
  ((qeN fuel m_a0.f0_Facts 5000 r_2).bind fun r_3 =>
  ((qeN fuel m_a0.f1_Past 5000 r_3).bind fun r_4 =>
  ((qfn m_a0.f2_Log 5000 r_4).bind fun r_5 =>
  ((qr m_a0.f3_Next 0 2147483648 r_5).bind fun r_6 =>
  ((qr m_a0.f4_Given 0 64 r_6).bind fun r_7 =>
  ((qcx r_7).bind fun r_8 =>
  some (r_8))))))))
set_option maxHeartbeats 1000000 in
theorem qiv (fuel : Nat) (m_a0 : qab) (res : (List Int)) (hr : qdQ fuel m_a0 = some res) : Gives Tryz.prog 25 [qx m_a0] (.lst (res.map (D.int .u8))) := by
  unfold qdQ at hr
  refine qR [(0, qx m_a0)] Tryz.func25 rfl rfl fun K hK => (qh (gr [.d, .d] (r_d rfl rfl rfl (qef rfl rfl rfl) (r_d rfl rfl rfl (qe rfl rfl) (qj (qh (gr [.d, .w, .d] (r_d rfl rfl rfl (qeB rfl qim .nil (.nil _)) (r_w rfl rfl rfl (qmv rfl rfl rfl) ?_)))))))))
  rintro _ _ ⟨b5_0, rfl, rfl⟩
  refine r_d rfl rfl rfl (qe rfl rfl) (qj (qh (gr [.d, .w] (r_d rfl rfl rfl (qb rfl rfl) ?_))))
  obtain ⟨r_2, hr_2, hr⟩ := bindS hr
  refine r_w rfl rfl rfl (qac _ rfl qz (.oc rfl (.oc rfl (.oc rfl (.oc rfl .nil)))) (by exact (pf0 _)) (qw _ _ _ _ _ _ hr_2)) ?_
  rintro _ _ ⟨_, ⟨rfl, rfl⟩, rfl⟩
  refine r_st ((.cell b5_0 (qf r_2)) :: _) rfl (qj (qh (gr [.d, .d, .d, .d, .d, .w] (r_d rfl rfl rfl (qb rfl rfl) (r_d rfl rfl rfl (qg rfl qc2 rfl rfl rfl rfl) (r_d rfl rfl rfl (qk rfl rfl (by exact qaA) rfl) (r_d rfl rfl rfl (qb rfl rfl) (r_d rfl rfl rfl (qcg rfl rfl rfl) ?_))))))))
  obtain ⟨r_3, hr_3, hr⟩ := bindS hr
  refine r_w rfl rfl rfl (qac _ rfl qhF (.oc rfl (.oc rfl (.oc rfl (.oc rfl .nil)))) (by exact (pf0 _)) (qiU fuel _ _ _ _ _ hr_3)) ?_
  rintro _ _ ⟨_, ⟨rfl, rfl⟩, rfl⟩
  refine r_st ((.cell b5_0 (qf r_3)) :: _) rfl (qj (qh (gr [.d, .d, .d, .d, .d, .w] (r_d rfl rfl rfl (qb rfl rfl) (r_d rfl rfl rfl (qg rfl qcp rfl rfl rfl rfl) (r_d rfl rfl rfl (qk rfl rfl (by exact qaA) rfl) (r_d rfl rfl rfl (qb rfl rfl) (r_d rfl rfl rfl (qcg rfl rfl rfl) ?_))))))))
  obtain ⟨r_4, hr_4, hr⟩ := bindS hr
  refine r_w rfl rfl rfl (qac _ rfl qhF (.oc rfl (.oc rfl (.oc rfl (.oc rfl .nil)))) (by exact (pf0 _)) (qiU fuel _ _ _ _ _ hr_4)) ?_
  rintro _ _ ⟨_, ⟨rfl, rfl⟩, rfl⟩
  refine r_st ((.cell b5_0 (qf r_4)) :: _) rfl (qj (qh (gr [.d, .d, .d, .d, .d, .w] (r_d rfl rfl rfl (qb rfl rfl) (r_d rfl rfl rfl (qg rfl qdi rfl rfl rfl rfl) (r_d rfl rfl rfl (qk rfl rfl (by exact qcR) rfl) (r_d rfl rfl rfl (qb rfl rfl) (r_d rfl rfl rfl (qcg rfl rfl rfl) ?_))))))))
  obtain ⟨r_5, hr_5, hr⟩ := bindS hr
  refine r_w rfl rfl rfl (qac _ rfl qi6 (.oc rfl (.oc rfl (.oc rfl (.oc rfl .nil)))) (by exact (pf0 _)) (qlV _ _ _ _ _ hr_5)) ?_
  rintro _ _ ⟨_, ⟨rfl, rfl⟩, rfl⟩
  refine r_st ((.cell b5_0 (qf r_5)) :: _) rfl (qj (qh (gr [.d, .d, .d, .w] (r_d rfl rfl rfl (qb rfl rfl) (r_d rfl rfl rfl (qg rfl qih rfl rfl rfl rfl) (r_d rfl rfl rfl (qk rfl rfl (by exact qW) rfl) ?_))))))
  obtain ⟨r_6, hr_6, hr⟩ := bindS hr
  refine r_w rfl rfl rfl (qac _ rfl qz (.oc rfl (.oc rfl (.oc rfl (.oc rfl .nil)))) (by exact (pf0 _)) (qw _ _ _ _ _ _ hr_6)) ?_
  rintro _ _ ⟨_, ⟨rfl, rfl⟩, rfl⟩
  refine r_st ((.cell b5_0 (qf r_6)) :: _) rfl (qj (qh (gr [.d, .d, .d, .w] (r_d rfl rfl rfl (qb rfl rfl) (r_d rfl rfl rfl (qg rfl qgZ rfl rfl rfl rfl) (r_d rfl rfl rfl (qk rfl rfl (by exact qW) rfl) ?_))))))
  obtain ⟨r_7, hr_7, hr⟩ := bindS hr
  refine r_w rfl rfl rfl (qac _ rfl qz (.oc rfl (.oc rfl (.oc rfl (.oc rfl .nil)))) (by exact (pf0 _)) (qw _ _ _ _ _ _ hr_7)) ?_
  rintro _ _ ⟨_, ⟨rfl, rfl⟩, rfl⟩
  refine r_st ((.cell b5_0 (qf r_7)) :: _) rfl (qj (qh (gr [.d, .w, .d] (r_d rfl rfl rfl (qb rfl rfl) ?_))))
  obtain ⟨r_8, hr_8, hr⟩ := bindS hr
  refine r_w rfl rfl rfl (qac _ rfl qge (.oc rfl .nil) (by exact (pf0 _)) (qfP _ _ _ hr_8)) ?_
  rintro _ _ ⟨_, ⟨rfl, rfl⟩, rfl⟩
  refine r_st ((.cell b5_0 (qf r_7)) :: _) rfl (r_d rfl rfl rfl (qe rfl rfl) (qj ?_))
  obtain rfl := Option.some.inj hr
  refine qJ Tryz.func25 _ (.cons (resTmp rfl (Wk.refl _)) .nil) ?_
  rfl
end Go.Proofs.YtdoljfkjdfaakaaGreat
