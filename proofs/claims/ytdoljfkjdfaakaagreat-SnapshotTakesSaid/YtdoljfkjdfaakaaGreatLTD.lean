/-
  Texts of the seat, merged.
-/
import Derived.Test.YtdoljfkjdfaakaaGreatLTA
import Derived.Test.YtdoljfkjdfaakaaGreatLTB
import Derived.Test.YtdoljfkjdfaakaaGreatLTC
import Derived.Test.YtdoljfkjdfaakaaGreatChecked
import Derived.WalkKit
import Derived.Lib.Hide
import Derived.Lib.AppendStr
import Derived.Deep.AppendLies
import Derived.Deep.AppendSrc
import Derived.Deep.Draws
import Derived.Deep.QuietTactic
import Derived.BigQuiet
import Derived.Deep.RegionWith
import Derived.Maps.AppendAt
import Derived.WalkSpells
import Derived.Orders
import Derived.Deep.Slices
import Derived.Deep.Fields
import Derived.ChangeArms
import Derived.Lib.OthersKept
import Derived.Lib.TrimU
import Derived.Lib.IndexAny
import Derived.Deep.LoopGhost
import Derived.Lib.Bytealg
import Derived.RangeFuncBox
import Derived.RangeFuncNested
import Derived.RangeFuncBound
import Derived.RangeFuncCalls
import Derived.RangeFuncLeaves
import Derived.Shelf.Abstract
import Derived.OwnWalkIn
import Derived.TacticsInMore
import Derived.LoopNIn
import Derived.LoopIn
import Derived.RangeFuncWrites
import Derived.Maps.OwnIn
import Derived.Maps.Views
import Derived.Laws.OwnMore
import Derived.Maps.OwnSet
import Derived.Laws.IdiomStrings
import Derived.Test.YtdoljfkjdfaakaaGreatRows
import Derived.ProofKit
import Derived.OpenShut
import Derived.Carry
import Derived.OrdersIn
import Derived.Great.BuildSlice
import Derived.ArgAppend
import Derived.Laws.MakeOwn
import Derived.Laws.Cover3
import Derived.Laws.CopyRow
import Derived.MapKept
import Derived.Maps.RangeRun
import Derived.DeepKeys5
import Derived.WideKeyRuns
set_option linter.unusedVariables false
set_option linter.unusedSimpArgs false
set_option linter.unnecessarySimpa false
set_option linter.all false
namespace Go.Proofs.YtdoljfkjdfaakaaGreat
set_option maxRecDepth 100000
open Go.RowKit
structure S_api_Decl where
  f0_Name : ByteArray
  f1_Arity : Int
def qW (x : S_api_Decl) : D := .agg [.str x.f0_Name, .int .i64 x.f1_Arity]
theorem qdf (x : S_api_Decl) : sz (qW x) = 2 := by
  simp only [qW, sz, szs]
structure qak where
  f0_Name : ByteArray
  f1_Keep : (List At)
  f2_Remove : (List At)
  f3_Guard : (List Gl)
  f4_Body : (List Gl)
  f5_Vars : Int
def qT (x : qak) : D := .agg [.str x.f0_Name, .lst (x.f1_Keep.map encA), .lst (x.f2_Remove.map encA), .lst (x.f3_Guard.map encG), .lst (x.f4_Body.map encG), .int .i64 x.f5_Vars]
theorem qdL (x : qak) : sz (qT x) = 6 := by
  simp only [qT, sz, szs]
structure qad where
  f0_Decls : (List S_api_Decl)
  f1_Rules : (List qak)
def qS (x : qad) : D := .agg [.lst (x.f0_Decls.map qW), .lst (x.f1_Rules.map qT)]
theorem qbq (x : qad) : sz (qS x) = 2 := by
  simp only [qS, sz, szs]
theorem qhT : ZeroV Tryz.prog 76 (.nilp) := .val (.pointer none) rfl (by kernel_rfl) rfl
structure qa where
  f0_b : (List Int)
  f1_bad : Bool
def qf (x : qa) : D := .agg [.lst (x.f0_b.map (D.int .u8)), .bool x.f1_bad]
structure qL where
  f0_Goal : Gl
  f1_ID : Int
  f2_Occ : Int
def qz (x : qL) : D := .agg [encG x.f0_Goal, .int .i64 x.f1_ID, .int .i64 x.f2_Occ]
theorem qbM (x : qL) : sz (qz x) = 5 := by
  simp only [qz, sz, szs, qbh]
structure qY where
  f0_Rule : Int
  f1_IDs : (List Int)
def qy (x : qY) : D := .agg [.int .i64 x.f0_Rule, .lst (x.f1_IDs.map (D.int .i64))]
theorem qdK (x : qY) : sz (qy x) = 2 := by
  simp only [qy, sz, szs]
structure qai where
  f0_Stack : (List qL)
  f1_Store : (List (Int × At))
  f2_Binds : (List (Int × T))
  f3_Fired : (List qY)
  f4_Next : Int
  f5_Fresh : Int
  f6_Failed : Bool
def qbl (x : qai) : D := .agg [.lst (x.f0_Stack.map qz), .lst (x.f1_Store.map encIt), .lst (x.f2_Binds.map encP), .lst (x.f3_Fired.map qy), .int .i64 x.f4_Next, .int .i64 x.f5_Fresh, .bool x.f6_Failed]
theorem qbO (x : qai) : sz (qbl x) = 7 := by
  simp only [qbl, sz, szs]
structure qZ where
  f0_ID : Int
  f1_Atom : At
  f2_Just : (List Int)
def qE (x : qZ) : D := .agg [.int .i64 x.f0_ID, encA x.f1_Atom, .lst (x.f2_Just.map (D.int .i64))]
theorem qdO (x : qZ) : sz (qE x) = 4 := by
  simp only [qE, sz, szs, qbA]
structure qah where
  f0_Rule : Int
  f1_Heads : (List Int)
  f2_Gone : (List Int)
  f3_Made : (List Int)
  f4_Failed : Bool
  f5_Just : (List Int)
def qR (x : qah) : D := .agg [.int .i64 x.f0_Rule, .lst (x.f1_Heads.map (D.int .i64)), .lst (x.f2_Gone.map (D.int .i64)), .lst (x.f3_Made.map (D.int .i64)), .bool x.f4_Failed, .lst (x.f5_Just.map (D.int .i64))]
theorem qbV (x : qah) : sz (qR x) = 6 := by
  simp only [qR, sz, szs]
structure qas where
  f0_Facts : (List qZ)
  f1_Past : (List qZ)
  f2_Log : (List qah)
  f3_Next : Int
  f4_Given : Int
def qax (x : qas) : D := .agg [.lst (x.f0_Facts.map qE), .lst (x.f1_Past.map qE), .lst (x.f2_Log.map qR), .int .i64 x.f3_Next, .int .i64 x.f4_Given]
theorem qbI (x : qas) : sz (qax x) = 5 := by
  simp only [qax, sz, szs]
noncomputable def qt (n_a1 : Int) (low_a2 : Int) (high_a3 : Int) (c_0 : qa) : Option (qa) :=
  (bif c_0.f1_bad then
  ((qjr c_0.f0_b n_a1).bind fun r_2 =>
  some ((⟨r_2, true⟩ : qa)))
  else
  (bif (decide (n_a1 < low_a2)) then
  ((qjr c_0.f0_b n_a1).bind fun r_4 =>
  some ((⟨r_4, true⟩ : qa)))
  else
  ((qjr c_0.f0_b n_a1).bind fun r_5 =>
  some ((⟨r_5, (decide (n_a1 > high_a3))⟩ : qa)))))
set_option maxHeartbeats 1000000 in
theorem qu (n_a1 : Int) (low_a2 : Int) (high_a3 : Int) (c_0 : qa) (b_o0 : Nat) (res : qa) (hr : qt n_a1 low_a2 high_a3 c_0 = some res) : Spec Tryz.prog 34 [.ref b_o0 0 [], .int .i64 n_a1, .int .i64 low_a2, .int .i64 high_a3] [.cell b_o0 (qf c_0)] (fun d σ => d = .tup [] ∧ σ = [.cell b_o0 (qf res)]) := by
  unfold qt at hr
  refine qag [(0, .ref b_o0 0 []), (1, .int .i64 n_a1), (2, .int .i64 low_a2), (3, .int .i64 high_a3)] Tryz.func34 rfl rfl fun K hK => (qk (gr [.d, .d, .d, .d, .r, .d, .d, .d, .d, .d, .d, .d, .d, .d, .d, .d, .d, .w] (r_d rfl rfl rfl (qe rfl rfl) (r_d rfl rfl rfl (qe rfl rfl) (r_d rfl rfl rfl (qv rfl rfl) (r_d rfl rfl rfl (qo rfl qD rfl) (r_r rfl rfl rfl (qx rfl rfl (.head _) rfl rfl (by exact qbm) rfl) (r_d rfl rfl rfl (qe rfl rfl) ?_))))))))
  refine r_sB 13 rfl hr (fun h13_0 hr => ?_) (fun h13_0 hr => ?_)
  ·
   refine qh rfl rfl rfl (qh rfl rfl rfl (qh rfl rfl rfl (r_d rfl rfl rfl (qP rfl rfl rfl) (r_d rfl rfl rfl (qe rfl rfl) (qh rfl rfl rfl (qh rfl rfl rfl (qh rfl rfl rfl (r_d rfl rfl rfl (qP rfl rfl rfl) (r_d rfl rfl rfl (qv rfl rfl) (r_d rfl rfl rfl (qo rfl qD rfl) (qaa rfl rfl rfl (qV _ rfl rfl rfl (Wk.refl _) (pf0 _) rfl rfl (by exact qbm) rfl rfl rfl) ?_)))))))))))
   refine ql (gr [.d, .d, .d, .d, .r, .d, .d, .d, .d, .w] (r_d rfl rfl rfl (qe rfl rfl) (r_d rfl rfl rfl (qe rfl rfl) (r_d rfl rfl rfl (qv rfl rfl) (r_d rfl rfl rfl (qo rfl qa2 rfl) (r_r rfl rfl rfl (qx rfl rfl (.head _) rfl rfl (by exact qc5) rfl) (r_d rfl rfl rfl (qe rfl rfl) ?_)))))))
   obtain ⟨r_2, hr_2, hr⟩ := bindS hr
   refine r_d rfl rfl rfl (qal rfl qiI (.oc rfl (.oc rfl .nil)) (qiQ _ _ _ hr_2)) (r_d rfl rfl rfl (qv rfl rfl) (r_d rfl rfl rfl (qo rfl qa2 rfl) (qaa rfl rfl rfl (qV _ rfl rfl rfl (Wk.refl _) (pf0 _) rfl rfl (by exact qc5) rfl rfl rfl) (ql ?_))))
   obtain rfl := Option.some.inj hr
   refine qfd Tryz.func34 _ .nil ?_
   exact ⟨rfl, rfl⟩
  ·
   refine r_d rfl rfl rfl (qe rfl rfl) (r_d rfl rfl rfl (qe rfl rfl) (r_d rfl rfl rfl (qX rfl rfl rfl rfl) (r_d rfl rfl rfl (qG rfl rfl rfl) (r_d rfl rfl rfl (qe rfl rfl) ?_))))
   refine r_sB 18 rfl hr (fun h18_2 hr => ?_) (fun h18_2 hr => ?_)
   ·
    refine qh rfl rfl rfl (qh rfl rfl rfl (qh rfl rfl rfl (r_d rfl rfl rfl (qP rfl rfl rfl) (r_d rfl rfl rfl (qv rfl rfl) (r_d rfl rfl rfl (qo rfl qD rfl) (qaa rfl rfl rfl (qV _ rfl rfl rfl (Wk.refl _) (pf0 _) rfl rfl (by exact qbm) rfl rfl rfl) (ql (gr [.d, .d, .d, .d, .r, .d, .d, .d, .d, .w] (r_d rfl rfl rfl (qe rfl rfl) (r_d rfl rfl rfl (qe rfl rfl) (r_d rfl rfl rfl (qv rfl rfl) ?_)))))))))))
    refine r_d rfl rfl rfl (qo rfl qa2 rfl) (r_r rfl rfl rfl (qx rfl rfl (.head _) rfl rfl (by exact qc5) rfl) (r_d rfl rfl rfl (qe rfl rfl) ?_))
    obtain ⟨r_4, hr_4, hr⟩ := bindS hr
    refine r_d rfl rfl rfl (qal rfl qiI (.oc rfl (.oc rfl .nil)) (qiQ _ _ _ hr_4)) (r_d rfl rfl rfl (qv rfl rfl) (r_d rfl rfl rfl (qo rfl qa2 rfl) (qaa rfl rfl rfl (qV _ rfl rfl rfl (Wk.refl _) (pf0 _) rfl rfl (by exact qc5) rfl rfl rfl) (ql ?_))))
    obtain rfl := Option.some.inj hr
    refine qfd Tryz.func34 _ .nil ?_
    exact ⟨rfl, rfl⟩
   ·
    refine r_d rfl rfl rfl (qe rfl rfl) (r_d rfl rfl rfl (qe rfl rfl) (r_d rfl rfl rfl (qX rfl rfl rfl rfl) (r_d rfl rfl rfl (qG rfl rfl rfl) (r_d rfl rfl rfl (qv rfl rfl) (r_d rfl rfl rfl (qo rfl qD rfl) (qaa rfl rfl rfl (qV _ rfl rfl rfl (Wk.refl _) (pf0 _) rfl rfl (by exact qbm) rfl rfl rfl) (ql (gr [.d, .d, .d, .d, .r, .d, .d, .d, .d, .w] (r_d rfl rfl rfl (qe rfl rfl) (r_d rfl rfl rfl (qe rfl rfl) (r_d rfl rfl rfl (qv rfl rfl) ?_)))))))))))
    refine r_d rfl rfl rfl (qo rfl qa2 rfl) (r_r rfl rfl rfl (qx rfl rfl (.head _) rfl rfl (by exact qc5) rfl) (r_d rfl rfl rfl (qe rfl rfl) ?_))
    obtain ⟨r_5, hr_5, hr⟩ := bindS hr
    refine r_d rfl rfl rfl (qal rfl qiI (.oc rfl (.oc rfl .nil)) (qiQ _ _ _ hr_5)) (r_d rfl rfl rfl (qv rfl rfl) (r_d rfl rfl rfl (qo rfl qa2 rfl) (qaa rfl rfl rfl (qV _ rfl rfl rfl (Wk.refl _) (pf0 _) rfl rfl (by exact qc5) rfl rfl rfl) (ql ?_))))
    obtain rfl := Option.some.inj hr
    refine qfd Tryz.func34 _ .nil ?_
    exact ⟨rfl, rfl⟩
noncomputable def qbG (s_a1 : ByteArray) (c_0 : qa) : Option (qa) :=
  (bif c_0.f1_bad then
  ((qjo c_0.f0_b s_a1).bind fun r_2 =>
  some ((⟨r_2, true⟩ : qa)))
  else
  ((qjo c_0.f0_b s_a1).bind fun r_3 =>
  some ((⟨r_3, (decide ((s_a1.size : Int) > (40 : Int)))⟩ : qa))))
set_option maxHeartbeats 1000000 in
theorem qd0 (s_a1 : ByteArray) (c_0 : qa) (b_o0 : Nat) (res : qa) (hr : qbG s_a1 c_0 = some res) : Spec Tryz.prog 37 [.ref b_o0 0 [], .str s_a1] [.cell b_o0 (qf c_0)] (fun d σ => d = .tup [] ∧ σ = [.cell b_o0 (qf res)]) := by
  unfold qbG at hr
  refine qag [(0, .ref b_o0 0 []), (1, .str s_a1)] Tryz.func37 rfl rfl fun K hK => (qk (gr [.d, .d, .d, .d, .r, .d, .d, .d, .d, .d, .d, .d, .w] (r_d rfl rfl rfl (qe rfl rfl) (r_d rfl rfl rfl (qe rfl rfl) (r_d rfl rfl rfl (qv rfl rfl) (r_d rfl rfl rfl (qo rfl qD rfl) (r_r rfl rfl rfl (qx rfl rfl (.head _) rfl rfl (by exact qbm) rfl) (r_d rfl rfl rfl (qe rfl rfl) ?_))))))))
  refine r_sB 9 rfl hr (fun h9_0 hr => ?_) (fun h9_0 hr => ?_)
  ·
   refine qh rfl rfl rfl (qh rfl rfl rfl (qh rfl rfl rfl (r_d rfl rfl rfl (qP rfl rfl rfl) (r_d rfl rfl rfl (qv rfl rfl) (r_d rfl rfl rfl (qo rfl qD rfl) (qaa rfl rfl rfl (qV _ rfl rfl rfl (Wk.refl _) (pf0 _) rfl rfl (by exact qbm) rfl rfl rfl) (ql (gr [.d, .d, .d, .d, .r, .d, .d, .d, .d, .w] (r_d rfl rfl rfl (qe rfl rfl) (r_d rfl rfl rfl (qe rfl rfl) (r_d rfl rfl rfl (qv rfl rfl) ?_)))))))))))
   refine r_d rfl rfl rfl (qo rfl qa2 rfl) (r_r rfl rfl rfl (qx rfl rfl (.head _) rfl rfl (by exact qc5) rfl) (r_d rfl rfl rfl (qe rfl rfl) ?_))
   obtain ⟨r_2, hr_2, hr⟩ := bindS hr
   refine r_d rfl rfl rfl (qal rfl qkf (.oc rfl (.oc rfl .nil)) (qkg _ _ _ hr_2)) (r_d rfl rfl rfl (qv rfl rfl) (r_d rfl rfl rfl (qo rfl qa2 rfl) (qaa rfl rfl rfl (qV _ rfl rfl rfl (Wk.refl _) (pf0 _) rfl rfl (by exact qc5) rfl rfl rfl) (ql ?_))))
   obtain rfl := Option.some.inj hr
   refine qfd Tryz.func37 _ .nil ?_
   exact ⟨rfl, rfl⟩
  ·
   refine r_d rfl rfl rfl (qe rfl rfl) (r_d rfl rfl rfl (qtT rfl Tryz.underlying9 rfl) (r_d rfl rfl rfl (qX rfl rfl rfl rfl) (r_d rfl rfl rfl (qG rfl rfl rfl) (r_d rfl rfl rfl (qv rfl rfl) (r_d rfl rfl rfl (qo rfl qD rfl) (qaa rfl rfl rfl (qV _ rfl rfl rfl (Wk.refl _) (pf0 _) rfl rfl (by exact qbm) rfl rfl rfl) (ql (gr [.d, .d, .d, .d, .r, .d, .d, .d, .d, .w] (r_d rfl rfl rfl (qe rfl rfl) (r_d rfl rfl rfl (qe rfl rfl) (r_d rfl rfl rfl (qv rfl rfl) ?_)))))))))))
   refine r_d rfl rfl rfl (qo rfl qa2 rfl) (r_r rfl rfl rfl (qx rfl rfl (.head _) rfl rfl (by exact qc5) rfl) (r_d rfl rfl rfl (qe rfl rfl) ?_))
   obtain ⟨r_3, hr_3, hr⟩ := bindS hr
   refine r_d rfl rfl rfl (qal rfl qkf (.oc rfl (.oc rfl .nil)) (qkg _ _ _ hr_3)) (r_d rfl rfl rfl (qv rfl rfl) (r_d rfl rfl rfl (qo rfl qa2 rfl) (qaa rfl rfl rfl (qV _ rfl rfl rfl (Wk.refl _) (pf0 _) rfl rfl (by exact qc5) rfl rfl rfl) (ql ?_))))
   obtain rfl := Option.some.inj hr
   refine qfd Tryz.func37 _ .nil ?_
   exact ⟨rfl, rfl⟩
noncomputable def qdj (d_a0 : S_api_Decl) (c_0 : qa) : Option (qa) :=
  ((qbG d_a0.f0_Name c_0).bind fun r_1 =>
  ((qt d_a0.f1_Arity 0 6 r_1).bind fun r_2 =>
  some (r_2)))
set_option maxHeartbeats 1000000 in
theorem qji (d_a0 : S_api_Decl) (c_0 : qa) (b_o0 : Nat) (res : qa) (hr : qdj d_a0 c_0 = some res) : Spec Tryz.prog 36 [qW d_a0, .ptr (.ref b_o0 0 [])] [.cell b_o0 (qf c_0)] (fun d σ => d = .tup [] ∧ σ = [.cell b_o0 (qf res)]) := by
  unfold qdj at hr
  refine qag [(0, qW d_a0), (1, .ptr (.ref b_o0 0 []))] Tryz.func36 rfl rfl fun K hK => (qk (gr [.d] (r_d rfl rfl rfl (qgF rfl rfl rfl) (ql (qk (gr [.d, .d, .d, .w] (r_d rfl rfl rfl (qw rfl rfl (by exact qJ) rfl) (r_d rfl rfl rfl (qp rfl qk7 rfl rfl rfl rfl) (r_d rfl rfl rfl (qw rfl rfl (by exact qep) rfl) ?_)))))))))
  obtain ⟨r_1, hr_1, hr⟩ := bindS hr
  refine r_w rfl rfl rfl (qF _ rfl qew (.oc rfl (.oc rfl .nil)) (by exact (pf0 _)) (qd0 _ _ _ _ hr_1)) ?_
  rintro _ _ ⟨_, ⟨rfl, rfl⟩, rfl⟩
  refine r_st ((.cell b_o0 (qf r_1)) :: _) rfl (ql (gr [.d, .d, .d, .w] (r_d rfl rfl rfl (qw rfl rfl (by exact qJ) rfl) (r_d rfl rfl rfl (qp rfl qle rfl rfl rfl rfl) (r_d rfl rfl rfl (qw rfl rfl (by exact qaF) rfl) ?_)))))
  obtain ⟨r_2, hr_2, hr⟩ := bindS hr
  refine r_w rfl rfl rfl (qF _ rfl qA (.oc rfl (.oc rfl (.oc rfl (.oc rfl .nil)))) (by exact (pf0 _)) (qu _ _ _ _ _ _ hr_2)) ?_
  rintro _ _ ⟨_, ⟨rfl, rfl⟩, rfl⟩
  refine r_st ((.cell b_o0 (qf r_2)) :: _) rfl (ql ?_)
  obtain rfl := Option.some.inj hr
  refine qfd Tryz.func36 _ .nil ?_
  exact ⟨rfl, rfl⟩
noncomputable def qcF (k : (qa) → Option (qa)) : List S_api_Decl → qa → Option (qa)
  | [], w_4 =>
  (k w_4)
  | q_6 :: rest, w_4 =>
  ((qdj q_6 w_4).bind fun r_8 =>
  (qcF k rest r_8))
noncomputable def qe1 (l_a1 : (List S_api_Decl)) (most_a2 : Int) (c_0 : qa) : Option (qa) :=
  ((qt (l_a1.length : Int) 0 most_a2 c_0).bind fun r_1 =>
  (bif r_1.f1_bad then
  some (r_1)
  else
  (qcF (fun w_5 =>
  some (w_5)) l_a1 r_1)))
set_option maxHeartbeats 1000000 in
theorem qkT (l_a1 : (List S_api_Decl)) (most_a2 : Int) (c_0 : qa) (b_o0 : Nat) (res : qa) (hr : qe1 l_a1 most_a2 c_0 = some res) : Spec Tryz.prog 35 [.ref b_o0 0 [], .lst (l_a1.map qW), .int .i64 most_a2, .clo (.func 36) [] [.ptr (.ref b_o0 0 [])]] [.cell b_o0 (qf c_0)] (fun d σ => d = .tup [] ∧ σ = [.cell b_o0 (qf res)]) := by
  unfold qe1 at hr
  refine qag [(0, .ref b_o0 0 []), (1, .lst (l_a1.map qW)), (2, .int .i64 most_a2), (3, .clo (.func 36) [] [.ptr (.ref b_o0 0 [])])] Tryz.func35 rfl rfl fun K hK => (qk (gr [.d, .d, .d, .d, .w] (r_d rfl rfl rfl (qe rfl rfl) (r_d rfl rfl rfl (qe rfl rfl) (r_d rfl rfl rfl (qbP (f := qW) l_a1 rfl qcQ rfl (asl rfl)) (r_d rfl rfl rfl (qe rfl rfl) ?_))))))
  obtain ⟨r_1, hr_1, hr⟩ := bindS hr
  refine r_w rfl rfl rfl (qF _ rfl qA (.oc rfl (.oc rfl (.oc rfl (.oc rfl .nil)))) (by exact (pf0 _)) (qu _ _ _ _ _ _ hr_1)) ?_
  rintro _ _ ⟨_, ⟨rfl, rfl⟩, rfl⟩
  refine r_st ((.cell b_o0 (qf r_1)) :: _) rfl (ql (qk (qk (gr [.d, .d, .d, .r] (r_d rfl rfl rfl (qe rfl rfl) (r_d rfl rfl rfl (qv rfl rfl) (r_d rfl rfl rfl (qo rfl qD rfl) (r_r rfl rfl rfl (qx rfl rfl (.head _) rfl rfl (by exact qbm) rfl) (ql ?_)))))))))
  refine g_sB 18 rfl hr (fun h18_1 hr => ?_) (fun h18_1 hr => ?_)
  ·
   refine qC rfl ?_
   obtain rfl := Option.some.inj hr
   refine q9 Tryz.func35 _ .nil ?_
   exact ⟨rfl, rfl⟩
  ·
   refine qB rfl (qab (qk (gr [.d, .d, .d] (r_d rfl rfl rfl (qe rfl rfl) (r_d rfl rfl rfl (qbP (f := qW) l_a1 rfl qcQ rfl (asl rfl)) (r_d rfl rfl rfl (qe rfl rfl) (ql ?_)))))))
   obtain ⟨kk0, hkk0, hr⟩ := exK (fun k => qcF k l_a1 r_1) hr
   refine qiz 1 rfl (asl rfl) fun hla0 => ?_
   simp only [List.length_map] at hla0
   refine qbe (fun env σ => ∃ (w_5 : qa), env = [] ∧ σ = [.cell b_o0 (qf w_5)] ∧ kk0 w_5 = some res) ?_ (fun HK0 => ?_)
   ·
    rintro _ _ ⟨w_5, rfl, rfl, hr⟩
    rw [hkk0] at hr
    obtain rfl := Option.some.inj hr
    refine qfd Tryz.func35 _ .nil ?_
    exact ⟨rfl, rfl⟩
   ·
    refine qan [(3, .clo (.func 36) [] [.ptr (.ref b_o0 0 [])]), (19, .lst (l_a1.map qW)), (20, .int .i64 (l_a1.length : Int)), (21, .int .i64 ((0 : Nat) : Int))] (Sub.cons' rfl (Sub.cons' rfl (Sub.cons' rfl (Sub.cons' rfl (Sub.nil _))))) (qdb (fun n env σ => ∃ (i_3 : Nat) (w_4 : qa), (n = l_a1.length - i_3) ∧ (env = [(3, .clo (.func 36) [] [.ptr (.ref b_o0 0 [])]), (19, .lst (l_a1.map qW)), (20, .int .i64 (l_a1.length : Int)), (21, .int .i64 (i_3 : Int))]) ∧ (σ = [.cell b_o0 (qf w_4)]) ∧ (i_3 ≤ l_a1.length) ∧ (qcF kk0 (l_a1.drop i_3) w_4 = some res)) _ ⟨0, r_1, rfl, rfl, rfl, Nat.zero_le _, hr⟩ ?_)
    rintro n _ _ ⟨i_3, w_4, rfl, rfl, rfl, hi0, hr⟩ IH0
    rcases listStep l_a1 i_3 hi0 with ⟨ht0, hd0, he0⟩ | ⟨q_6, ht0, hd0, hq0, hlt0⟩
    ·
     rw [hd0, qcF] at hr
     refine qk (gr [.d] (r_d rfl rfl rfl (qX rfl rfl rfl rfl) (ql (qk (qbg 22 false rfl ht0 (qB rfl (qbC rfl (qan [] (Sub.nil _) ?_))))))))
     exact HK0 _ _ ⟨w_4, rfl, rfl, hr⟩
    ·
     rw [hd0, qcF] at hr
     refine qk (gr [.d] (r_d rfl rfl rfl (qX rfl rfl rfl rfl) (ql (qk (qbg 22 true rfl ht0 (qC rfl (qab (qk (qbi (qk (gr [.d, .d, .w, .w] ?_)))))))))))
     refine r_d rfl rfl rfl (qbH (f := qW) l_a1 rfl qcQ rfl (asl rfl) rfl hq0 qdf rfl) (r_d rfl rfl rfl (qw rfl rfl (by exact qfK) (qdf _)) (r_w rfl rfl rfl (qau rfl qkZ) ?_))
     rintro _ _ ⟨b9_6, rfl, rfl⟩
     refine qaa rfl rfl rfl (qK _ rfl rfl rfl (Wk.refl _) (pf0 _) (by exact qfK) (qdf _) rfl rfl) (ql (qap 9 b9_6 rfl (pf0 _) (gr [.d, .d, .w] (r_d rfl rfl rfl (qe rfl rfl) (r_d rfl rfl rfl (qw rfl rfl (by exact qfK) (qdf _)) ?_)))))
     obtain ⟨r_8, hr_8, hr⟩ := bindS hr
     refine r_w rfl rfl rfl (qd9 _ rfl rfl qkq (.oc rfl .nil) rfl (by exact (pf0 _)) (qji _ _ _ _ hr_8)) ?_
     rintro _ _ ⟨_, ⟨rfl, rfl⟩, rfl⟩
     refine r_st ((.cell b_o0 (qf r_8)) :: _) rfl (ql (qac (gr [.d, .d] (r_d rfl rfl rfl (s_ar (r := ((i_3 + 1 : Nat) : Int)) rfl rfl rfl (by simp [iar]) (by omega)) (r_d rfl rfl rfl (qe rfl rfl) (ql (qan [(3, .clo (.func 36) [] [.ptr (.ref b_o0 0 [])]), (19, .lst (l_a1.map qW)), (20, .int .i64 (l_a1.length : Int)), (21, .int .i64 ((i_3 + 1 : Nat) : Int))] (Sub.cons' rfl (Sub.cons' rfl (Sub.cons' rfl (Sub.cons' rfl (Sub.nil _))))) ?_)))))))
     exact IH0 _ _ _ (by omega) ⟨(i_3 + 1), r_8, rfl, rfl, rfl, (by omega), hr⟩
noncomputable def qaI (rec : (List T) → Int → qa → Option (qa)) (t_a1 : T) (c_0 : qa) : Option (qa) :=
  ((qt t_a1.k 0 2 c_0).bind fun r_1 =>
  (bif (t_a1.k == (0 : Int)) then
  ((qt t_a1.i (-2147483648) 2147483648 r_1).bind fun r_3 =>
  some (r_3))
  else
  (bif (t_a1.k == (1 : Int)) then
  ((qt t_a1.i 0 1048576 r_1).bind fun r_5 =>
  some (r_5))
  else
  ((qbG t_a1.s r_1).bind fun r_6 =>
  ((rec t_a1.ar 6 r_6).bind fun r_7 =>
  some (r_7))))))
set_option maxHeartbeats 1000000 in
theorem qgf (rec : (List T) → Int → qa → Option (qa)) (IHR : ∀ (l_a1 : (List T)) (most_a2 : Int) (c_0 : qa) (b_o0 : Nat) (res : qa), rec l_a1 most_a2 c_0 = some res → Spec Tryz.prog 154 [.ref b_o0 0 [], .lst (l_a1.map encT), .int .i64 most_a2, .clo (.func 66) [.ref b_o0 0 []] []] [.cell b_o0 (qf c_0)] (fun d σ => d = .tup [] ∧ σ = [.cell b_o0 (qf res)])) (t_a1 : T) (c_0 : qa) (b_o0 : Nat) (res : qa) (hr : qaI rec t_a1 c_0 = some res) : Spec Tryz.prog 66 [.ref b_o0 0 [], encT t_a1] [.cell b_o0 (qf c_0)] (fun d σ => d = .tup [] ∧ σ = [.cell b_o0 (qf res)]) := by
  unfold qaI at hr
  refine qag [(0, .ref b_o0 0 []), (1, encT t_a1)] Tryz.func66 rfl rfl fun K hK => (qk (gr [.d] (r_d rfl rfl rfl (qgF rfl rfl rfl) (ql (qk (gr [.d, .d, .d, .w] (r_d rfl rfl rfl (qe rfl rfl) (r_d rfl rfl rfl (qp rfl qeG rfl (qpU _) (qpn _) rfl) (r_d rfl rfl rfl (qw rfl rfl (by exact qaF) rfl) ?_)))))))))
  obtain ⟨r_1, hr_1, hr⟩ := bindS hr
  refine r_w rfl rfl rfl (qF _ rfl qA (.oc rfl (.oc rfl (.oc rfl (.oc rfl .nil)))) (by exact (pf0 _)) (qu _ _ _ _ _ _ hr_1)) ?_
  rintro _ _ ⟨_, ⟨rfl, rfl⟩, rfl⟩
  refine r_st ((.cell b_o0 (qf r_1)) :: _) rfl (ql (qk (gr [.d, .d] (r_d rfl rfl rfl (qp rfl qeG rfl (qpU _) (qpn _) rfl) (r_d rfl rfl rfl (qw rfl rfl (by exact qaF) rfl) (ql (qbi (qk (gr [.d, .d] (r_d rfl rfl rfl (qX rfl rfl rfl rfl) (r_d rfl rfl rfl (qj rfl rfl) ?_)))))))))))
  refine ql ?_
  refine g_sB 20 rfl hr (fun h20_1 hr => ?_) (fun h20_1 hr => ?_)
  ·
   refine qC rfl (gr [.d, .d, .d, .w] (r_d rfl rfl rfl (qe rfl rfl) (r_d rfl rfl rfl (qp rfl qem rfl (qpl _) (qpO _) rfl) (r_d rfl rfl rfl (qw rfl rfl (by exact qaF) rfl) ?_))))
   obtain ⟨r_3, hr_3, hr⟩ := bindS hr
   refine r_w rfl rfl rfl (qF _ rfl qA (.oc rfl (.oc rfl (.oc rfl (.oc rfl .nil)))) (by exact (pf0 _)) (qu _ _ _ _ _ _ hr_3)) ?_
   rintro _ _ ⟨_, ⟨rfl, rfl⟩, rfl⟩
   refine r_st ((.cell b_o0 (qf r_3)) :: _) rfl (ql (qac ?_))
   obtain rfl := Option.some.inj hr
   refine qfd Tryz.func66 _ .nil ?_
   exact ⟨rfl, rfl⟩
  ·
   refine qB rfl (qk (gr [.d, .d] (r_d rfl rfl rfl (qX rfl rfl rfl rfl) (r_d rfl rfl rfl (qj rfl rfl) (ql ?_)))))
   refine g_sB 26 rfl hr (fun h26_3 hr => ?_) (fun h26_3 hr => ?_)
   ·
    refine qC rfl (gr [.d, .d, .d, .w] (r_d rfl rfl rfl (qe rfl rfl) (r_d rfl rfl rfl (qp rfl qem rfl (qpl _) (qpO _) rfl) (r_d rfl rfl rfl (qw rfl rfl (by exact qaF) rfl) ?_))))
    obtain ⟨r_5, hr_5, hr⟩ := bindS hr
    refine r_w rfl rfl rfl (qF _ rfl qA (.oc rfl (.oc rfl (.oc rfl (.oc rfl .nil)))) (by exact (pf0 _)) (qu _ _ _ _ _ _ hr_5)) ?_
    rintro _ _ ⟨_, ⟨rfl, rfl⟩, rfl⟩
    refine r_st ((.cell b_o0 (qf r_5)) :: _) rfl (ql (qac ?_))
    obtain rfl := Option.some.inj hr
    refine qfd Tryz.func66 _ .nil ?_
    exact ⟨rfl, rfl⟩
   ·
    refine qB rfl (qk (gr [.d, .d, .d, .w] (r_d rfl rfl rfl (qe rfl rfl) (r_d rfl rfl rfl (qp rfl qhp rfl (qsv _) (qsy _) rfl) (r_d rfl rfl rfl (qw rfl rfl (by exact qep) rfl) ?_)))))
    obtain ⟨r_6, hr_6, hr⟩ := bindS hr
    refine r_w rfl rfl rfl (qF _ rfl qew (.oc rfl (.oc rfl .nil)) (by exact (pf0 _)) (qd0 _ _ _ _ hr_6)) ?_
    rintro _ _ ⟨_, ⟨rfl, rfl⟩, rfl⟩
    refine r_st ((.cell b_o0 (qf r_6)) :: _) rfl (ql (gr [.d, .d, .d, .d, .d, .w] (r_d rfl rfl rfl (qe rfl rfl) (r_d rfl rfl rfl (qp rfl qhx rfl (qsn _) (qsG _) rfl) (r_d rfl rfl rfl (qw rfl rfl (by exact qdQ) rfl) (r_d rfl rfl rfl (qe rfl rfl) (r_d rfl rfl rfl (qbz rfl rfl rfl) ?_)))))))
    obtain ⟨r_7, hr_7, hr⟩ := bindS hr
    refine r_w rfl rfl rfl (qF _ rfl qgR (.oc rfl (.oc rfl (.oc rfl (.oc rfl .nil)))) (by exact (pf0 _)) (IHR _ _ _ _ _ hr_7)) ?_
    rintro _ _ ⟨_, ⟨rfl, rfl⟩, rfl⟩
    refine r_st ((.cell b_o0 (qf r_7)) :: _) rfl (ql (qac ?_))
    obtain rfl := Option.some.inj hr
    refine qfd Tryz.func66 _ .nil ?_
    exact ⟨rfl, rfl⟩
noncomputable def qb2 (k : (qa) → Option (qa)) (rec : (List T) → Int → qa → Option (qa)) : List T → qa → Option (qa)
  | [], w_4 =>
  (k w_4)
  | q_6 :: rest, w_4 =>
  ((qaI rec q_6 w_4).bind fun r_8 =>
  (qb2 k rec rest r_8))
noncomputable def qcp : Nat → (List T) → Int → qa → Option (qa)
  | 0, _, _, _ => none
  | fuel + 1, l_a1, most_a2, c_0 =>
    (fun (rec : (List T) → Int → qa → Option (qa)) =>
      ((qt (l_a1.length : Int) 0 most_a2 c_0).bind fun r_1 =>
      (bif r_1.f1_bad then
      some (r_1)
      else
      (qb2 (fun w_5 =>
      some (w_5)) rec l_a1 r_1)))) (qcp fuel)
set_option maxHeartbeats 1000000 in
theorem qkx (fuel : Nat) (rec : (List T) → Int → qa → Option (qa)) (IHR : ∀ (l_a1 : (List T)) (most_a2 : Int) (c_0 : qa) (b_o0 : Nat) (res : qa), rec l_a1 most_a2 c_0 = some res → Spec Tryz.prog 154 [.ref b_o0 0 [], .lst (l_a1.map encT), .int .i64 most_a2, .clo (.func 66) [.ref b_o0 0 []] []] [.cell b_o0 (qf c_0)] (fun d σ => d = .tup [] ∧ σ = [.cell b_o0 (qf res)])) (l_a1 : (List T)) (most_a2 : Int) (c_0 : qa) (b_o0 : Nat) (res : qa)
    (hr : ((qt (l_a1.length : Int) 0 most_a2 c_0).bind fun r_1 =>
(bif r_1.f1_bad then
some (r_1)
else
(qb2 (fun w_5 =>
some (w_5)) rec l_a1 r_1))) = some res) : Spec Tryz.prog 154 [.ref b_o0 0 [], .lst (l_a1.map encT), .int .i64 most_a2, .clo (.func 66) [.ref b_o0 0 []] []] [.cell b_o0 (qf c_0)] (fun d σ => d = .tup [] ∧ σ = [.cell b_o0 (qf res)]) := by
  refine qag [(0, .ref b_o0 0 []), (1, .lst (l_a1.map encT)), (2, .int .i64 most_a2), (3, .clo (.func 66) [.ref b_o0 0 []] [])] Tryz.func154 rfl rfl fun K hK => (qk (gr [.d, .d, .d, .d, .w] (r_d rfl rfl rfl (qe rfl rfl) (r_d rfl rfl rfl (qe rfl rfl) (r_d rfl rfl rfl (qbP (f := encT) l_a1 rfl qfh rfl (asl rfl)) (r_d rfl rfl rfl (qe rfl rfl) ?_))))))
  obtain ⟨r_1, hr_1, hr⟩ := bindS hr
  refine r_w rfl rfl rfl (qF _ rfl qA (.oc rfl (.oc rfl (.oc rfl (.oc rfl .nil)))) (by exact (pf0 _)) (qu _ _ _ _ _ _ hr_1)) ?_
  rintro _ _ ⟨_, ⟨rfl, rfl⟩, rfl⟩
  refine r_st ((.cell b_o0 (qf r_1)) :: _) rfl (ql (qk (qk (gr [.d, .d, .d, .r] (r_d rfl rfl rfl (qe rfl rfl) (r_d rfl rfl rfl (qv rfl rfl) (r_d rfl rfl rfl (qo rfl qD rfl) (r_r rfl rfl rfl (qx rfl rfl (.head _) rfl rfl (by exact qbm) rfl) (ql ?_)))))))))
  refine g_sB 18 rfl hr (fun h18_1 hr => ?_) (fun h18_1 hr => ?_)
  ·
   refine qC rfl ?_
   obtain rfl := Option.some.inj hr
   refine q9 Tryz.func154 _ .nil ?_
   exact ⟨rfl, rfl⟩
  ·
   refine qB rfl (qab (qk (gr [.d, .d, .d] (r_d rfl rfl rfl (qe rfl rfl) (r_d rfl rfl rfl (qbP (f := encT) l_a1 rfl qfh rfl (asl rfl)) (r_d rfl rfl rfl (qe rfl rfl) (ql ?_)))))))
   obtain ⟨kk0, hkk0, hr⟩ := exK (fun k => qb2 k rec l_a1 r_1) hr
   refine qiz 1 rfl (asl rfl) fun hla0 => ?_
   simp only [List.length_map] at hla0
   refine qbe (fun env σ => ∃ (w_5 : qa), env = [] ∧ σ = [.cell b_o0 (qf w_5)] ∧ kk0 w_5 = some res) ?_ (fun HK0 => ?_)
   ·
    rintro _ _ ⟨w_5, rfl, rfl, hr⟩
    rw [hkk0] at hr
    obtain rfl := Option.some.inj hr
    refine qfd Tryz.func154 _ .nil ?_
    exact ⟨rfl, rfl⟩
   ·
    refine qan [(3, .clo (.func 66) [.ref b_o0 0 []] []), (19, .lst (l_a1.map encT)), (20, .int .i64 (l_a1.length : Int)), (21, .int .i64 ((0 : Nat) : Int))] (Sub.cons' rfl (Sub.cons' rfl (Sub.cons' rfl (Sub.cons' rfl (Sub.nil _))))) (qdb (fun n env σ => ∃ (i_3 : Nat) (w_4 : qa), (n = l_a1.length - i_3) ∧ (env = [(3, .clo (.func 66) [.ref b_o0 0 []] []), (19, .lst (l_a1.map encT)), (20, .int .i64 (l_a1.length : Int)), (21, .int .i64 (i_3 : Int))]) ∧ (σ = [.cell b_o0 (qf w_4)]) ∧ (i_3 ≤ l_a1.length) ∧ (qb2 kk0 rec (l_a1.drop i_3) w_4 = some res)) _ ⟨0, r_1, rfl, rfl, rfl, Nat.zero_le _, hr⟩ ?_)
    rintro n _ _ ⟨i_3, w_4, rfl, rfl, rfl, hi0, hr⟩ IH0
    rcases listStep l_a1 i_3 hi0 with ⟨ht0, hd0, he0⟩ | ⟨q_6, ht0, hd0, hq0, hlt0⟩
    ·
     rw [hd0, qb2] at hr
     refine qk (gr [.d] (r_d rfl rfl rfl (qX rfl rfl rfl rfl) (ql (qk (qbg 22 false rfl ht0 (qB rfl (qbC rfl (qan [] (Sub.nil _) ?_))))))))
     exact HK0 _ _ ⟨w_4, rfl, rfl, hr⟩
    ·
     rw [hd0, qb2] at hr
     refine qk (gr [.d] (r_d rfl rfl rfl (qX rfl rfl rfl rfl) (ql (qk (qbg 22 true rfl ht0 (qC rfl (qab (qk (qbi (qk (gr [.d, .d, .w, .w] ?_)))))))))))
     refine r_d rfl rfl rfl (qbH (f := encT) l_a1 rfl qfh rfl (asl rfl) rfl hq0 qee rfl) (r_d rfl rfl rfl (qw rfl rfl (by exact qQ) (qee _)) (r_w rfl rfl rfl (qau rfl qgz) ?_))
     rintro _ _ ⟨b9_6, rfl, rfl⟩
     refine qaa rfl rfl rfl (qK _ rfl rfl rfl (Wk.refl _) (pf0 _) (by exact qQ) (qee _) rfl rfl) (ql (qap 9 b9_6 rfl (pf0 _) (gr [.d, .d, .w] (r_d rfl rfl rfl (qe rfl rfl) (r_d rfl rfl rfl (qw rfl rfl (by exact qQ) (qee _)) ?_)))))
     obtain ⟨r_8, hr_8, hr⟩ := bindS hr
     refine r_w rfl rfl rfl (qd9 _ rfl rfl qfC (.oc rfl .nil) rfl (by exact (pf0 _)) (qgf rec IHR _ _ _ _ hr_8)) ?_
     rintro _ _ ⟨_, ⟨rfl, rfl⟩, rfl⟩
     refine r_st ((.cell b_o0 (qf r_8)) :: _) rfl (ql (qac (gr [.d, .d] (r_d rfl rfl rfl (s_ar (r := ((i_3 + 1 : Nat) : Int)) rfl rfl rfl (by simp [iar]) (by omega)) (r_d rfl rfl rfl (qe rfl rfl) (ql (qan [(3, .clo (.func 66) [.ref b_o0 0 []] []), (19, .lst (l_a1.map encT)), (20, .int .i64 (l_a1.length : Int)), (21, .int .i64 ((i_3 + 1 : Nat) : Int))] (Sub.cons' rfl (Sub.cons' rfl (Sub.cons' rfl (Sub.cons' rfl (Sub.nil _))))) ?_)))))))
     exact IH0 _ _ _ (by omega) ⟨(i_3 + 1), r_8, rfl, rfl, rfl, (by omega), hr⟩
theorem qg8 : ∀ (fuel : Nat) (l_a1 : (List T)) (most_a2 : Int) (c_0 : qa) (b_o0 : Nat) (res : qa), qcp fuel l_a1 most_a2 c_0 = some res → Spec Tryz.prog 154 [.ref b_o0 0 [], .lst (l_a1.map encT), .int .i64 most_a2, .clo (.func 66) [.ref b_o0 0 []] []] [.cell b_o0 (qf c_0)] (fun d σ => d = .tup [] ∧ σ = [.cell b_o0 (qf res)])
  | 0, _, _, _, _, _, h => by cases h
  | fuel + 1, l_a1, most_a2, c_0, b_o0, res, h => qkx fuel (qcp fuel) (qg8 fuel) l_a1 most_a2 c_0 b_o0 res h
noncomputable def qdq (fuel : Nat) (t_a1 : T) (c_0 : qa) : Option (qa) := qaI (qcp fuel) t_a1 c_0
theorem qgx (fuel : Nat) (t_a1 : T) (c_0 : qa) (b_o0 : Nat) (res : qa) (hr : qdq fuel t_a1 c_0 = some res) : Spec Tryz.prog 66 [.ref b_o0 0 [], encT t_a1] [.cell b_o0 (qf c_0)] (fun d σ => d = .tup [] ∧ σ = [.cell b_o0 (qf res)]) := qgf (qcp fuel) (qg8 fuel) t_a1 c_0 b_o0 res hr
noncomputable def qbR (fuel : Nat) (name_a1 : ByteArray) (args_a2 : (List T)) (c_0 : qa) : Option (qa) :=
  ((qbG name_a1 c_0).bind fun r_1 =>
  ((qcp fuel args_a2 6 r_1).bind fun r_2 =>
  some (r_2)))
set_option maxHeartbeats 1000000 in
theorem qdS (fuel : Nat) (name_a1 : ByteArray) (args_a2 : (List T)) (c_0 : qa) (b_o0 : Nat) (res : qa) (hr : qbR fuel name_a1 args_a2 c_0 = some res) : Spec Tryz.prog 152 [.ref b_o0 0 [], .str name_a1, .lst (args_a2.map encT)] [.cell b_o0 (qf c_0)] (fun d σ => d = .tup [] ∧ σ = [.cell b_o0 (qf res)]) := by
  unfold qbR at hr
  refine qag [(0, .ref b_o0 0 []), (1, .str name_a1), (2, .lst (args_a2.map encT))] Tryz.func152 rfl rfl fun K hK => (qk (gr [.d, .d, .w] (r_d rfl rfl rfl (qe rfl rfl) (r_d rfl rfl rfl (qe rfl rfl) ?_))))
  obtain ⟨r_1, hr_1, hr⟩ := bindS hr
  refine r_w rfl rfl rfl (qF _ rfl qew (.oc rfl (.oc rfl .nil)) (by exact (pf0 _)) (qd0 _ _ _ _ hr_1)) ?_
  rintro _ _ ⟨_, ⟨rfl, rfl⟩, rfl⟩
  refine r_st ((.cell b_o0 (qf r_1)) :: _) rfl (ql (gr [.d, .d, .d, .d, .w] (r_d rfl rfl rfl (qe rfl rfl) (r_d rfl rfl rfl (qe rfl rfl) (r_d rfl rfl rfl (qe rfl rfl) (r_d rfl rfl rfl (qbz rfl rfl rfl) ?_))))))
  obtain ⟨r_2, hr_2, hr⟩ := bindS hr
  refine r_w rfl rfl rfl (qF _ rfl qgR (.oc rfl (.oc rfl (.oc rfl (.oc rfl .nil)))) (by exact (pf0 _)) (qg8 fuel _ _ _ _ _ hr_2)) ?_
  rintro _ _ ⟨_, ⟨rfl, rfl⟩, rfl⟩
  refine r_st ((.cell b_o0 (qf r_2)) :: _) rfl (ql ?_)
  obtain rfl := Option.some.inj hr
  refine qfd Tryz.func152 _ .nil ?_
  exact ⟨rfl, rfl⟩
noncomputable def qbK (fuel : Nat) (a_a1 : At) (c_0 : qa) : Option (qa) :=
  (bif c_0.f1_bad then
  (bif (!true) then
  ((qbR fuel a_a1.n a_a1.ts (⟨c_0.f0_b, true⟩ : qa)).bind fun r_3 =>
  some (r_3))
  else
  some ((⟨c_0.f0_b, true⟩ : qa)))
  else
  ((qll a_a1).bind fun r_4 =>
  (bif (!(!r_4)) then
  ((qbR fuel a_a1.n a_a1.ts (⟨c_0.f0_b, (!r_4)⟩ : qa)).bind fun r_6 =>
  some (r_6))
  else
  some ((⟨c_0.f0_b, (!r_4)⟩ : qa)))))
set_option maxHeartbeats 1000000 in
theorem qeW (fuel : Nat) (a_a1 : At) (c_0 : qa) (b_o0 : Nat) (res : qa) (hr : qbK fuel a_a1 c_0 = some res) : Spec Tryz.prog 62 [.ref b_o0 0 [], encA a_a1] [.cell b_o0 (qf c_0)] (fun d σ => d = .tup [] ∧ σ = [.cell b_o0 (qf res)]) := by
  unfold qbK at hr
  refine qag [(0, .ref b_o0 0 []), (1, encA a_a1)] Tryz.func62 rfl rfl fun K hK => (qk (gr [.d] (r_d rfl rfl rfl (qgF rfl rfl rfl) (ql (qk (gr [.d, .d, .d, .d, .r, .d, .d, .d, .d, .d, .d, .d, .w] (r_d rfl rfl rfl (qe rfl rfl) (r_d rfl rfl rfl (qe rfl rfl) (r_d rfl rfl rfl (qv rfl rfl) (r_d rfl rfl rfl (qo rfl qD rfl) (r_r rfl rfl rfl (qx rfl rfl (.head _) rfl rfl (by exact qbm) rfl) ?_)))))))))))
  refine r_d rfl rfl rfl (qe rfl rfl) ?_
  refine r_sB 9 rfl hr (fun h9_0 hr => ?_) (fun h9_0 hr => ?_)
  ·
   refine qh rfl rfl rfl (qh rfl rfl rfl (qh rfl rfl rfl (r_d rfl rfl rfl (qP rfl rfl rfl) (r_d rfl rfl rfl (qv rfl rfl) (r_d rfl rfl rfl (qo rfl qD rfl) (qaa rfl rfl rfl (qV _ rfl rfl rfl (Wk.refl _) (pf0 _) rfl rfl (by exact qbm) rfl rfl rfl) (ql (qk (gr [.d, .d, .d, .r, .d] (r_d rfl rfl rfl (qe rfl rfl) (r_d rfl rfl rfl (qv rfl rfl) ?_)))))))))))
   refine r_d rfl rfl rfl (qo rfl qD rfl) (r_r rfl rfl rfl (qx rfl rfl (.head _) rfl rfl (by exact qbm) rfl) (r_d rfl rfl rfl (qfZ rfl rfl) (ql ?_)))
   refine g_sB 20 rfl hr (fun h20_1 hr => ?_) (fun h20_1 hr => ?_)
   ·
    refine qC rfl (gr [.d, .d, .d, .d, .d, .w] (r_d rfl rfl rfl (qe rfl rfl) (r_d rfl rfl rfl (qp rfl qlc rfl rfl rfl rfl) (r_d rfl rfl rfl (qw rfl rfl (by exact qep) rfl) (r_d rfl rfl rfl (qp rfl qj6 rfl rfl rfl rfl) (r_d rfl rfl rfl (qw rfl rfl (by exact qdQ) rfl) ?_))))))
    obtain ⟨r_3, hr_3, hr⟩ := bindS hr
    refine r_w rfl rfl rfl (qF _ rfl qek (.oc rfl (.oc rfl (.oc rfl .nil))) (by exact (pf0 _)) (qdS fuel _ _ _ _ _ hr_3)) ?_
    rintro _ _ ⟨_, ⟨rfl, rfl⟩, rfl⟩
    refine r_st ((.cell b_o0 (qf r_3)) :: _) rfl (ql ?_)
    obtain rfl := Option.some.inj hr
    refine qfd Tryz.func62 _ .nil ?_
    exact ⟨rfl, rfl⟩
   ·
    refine qB rfl (qab ?_)
    obtain rfl := Option.some.inj hr
    refine qfd Tryz.func62 _ .nil ?_
    exact ⟨rfl, rfl⟩
  ·
   refine r_d rfl rfl rfl (qw rfl rfl (by exact qbN) (qbA _)) ?_
   obtain ⟨r_4, hr_4, hr⟩ := bindS hr
   refine r_d rfl rfl rfl (qal rfl qlt (.oc rfl .nil) (qlG _ _ hr_4)) (r_d rfl rfl rfl (qfZ rfl rfl) (r_d rfl rfl rfl (qG rfl rfl rfl) (r_d rfl rfl rfl (qv rfl rfl) (r_d rfl rfl rfl (qo rfl qD rfl) (qaa rfl rfl rfl (qV _ rfl rfl rfl (Wk.refl _) (pf0 _) rfl rfl (by exact qbm) rfl rfl rfl) (ql (qk (gr [.d, .d, .d, .r, .d] (r_d rfl rfl rfl (qe rfl rfl) (r_d rfl rfl rfl (qv rfl rfl) (r_d rfl rfl rfl (qo rfl qD rfl) ?_)))))))))))
   refine r_r rfl rfl rfl (qx rfl rfl (.head _) rfl rfl (by exact qbm) rfl) (r_d rfl rfl rfl (qfZ rfl rfl) (ql ?_))
   refine g_sB 20 rfl hr (fun h20_4 hr => ?_) (fun h20_4 hr => ?_)
   ·
    refine qC rfl (gr [.d, .d, .d, .d, .d, .w] (r_d rfl rfl rfl (qe rfl rfl) (r_d rfl rfl rfl (qp rfl qlc rfl rfl rfl rfl) (r_d rfl rfl rfl (qw rfl rfl (by exact qep) rfl) (r_d rfl rfl rfl (qp rfl qj6 rfl rfl rfl rfl) (r_d rfl rfl rfl (qw rfl rfl (by exact qdQ) rfl) ?_))))))
    obtain ⟨r_6, hr_6, hr⟩ := bindS hr
    refine r_w rfl rfl rfl (qF _ rfl qek (.oc rfl (.oc rfl (.oc rfl .nil))) (by exact (pf0 _)) (qdS fuel _ _ _ _ _ hr_6)) ?_
    rintro _ _ ⟨_, ⟨rfl, rfl⟩, rfl⟩
    refine r_st ((.cell b_o0 (qf r_6)) :: _) rfl (ql ?_)
    obtain rfl := Option.some.inj hr
    refine qfd Tryz.func62 _ .nil ?_
    exact ⟨rfl, rfl⟩
   ·
    refine qB rfl (qab ?_)
    obtain rfl := Option.some.inj hr
    refine qfd Tryz.func62 _ .nil ?_
    exact ⟨rfl, rfl⟩
noncomputable def qcz (k : (qa) → Option (qa)) (fuel : Nat) : List At → qa → Option (qa)
  | [], w_4 =>
  (k w_4)
  | q_6 :: rest, w_4 =>
  ((qbK fuel q_6 w_4).bind fun r_8 =>
  (qcz k fuel rest r_8))
noncomputable def qea (fuel : Nat) (l_a1 : (List At)) (most_a2 : Int) (c_0 : qa) : Option (qa) :=
  ((qt (l_a1.length : Int) 0 most_a2 c_0).bind fun r_1 =>
  (bif r_1.f1_bad then
  some (r_1)
  else
  (qcz (fun w_5 =>
  some (w_5)) fuel l_a1 r_1)))
set_option maxHeartbeats 1000000 in
theorem qiV (fuel : Nat) (l_a1 : (List At)) (most_a2 : Int) (c_0 : qa) (b_o0 : Nat) (res : qa) (hr : qea fuel l_a1 most_a2 c_0 = some res) : Spec Tryz.prog 133 [.ref b_o0 0 [], .lst (l_a1.map encA), .int .i64 most_a2, .clo (.func 62) [.ref b_o0 0 []] []] [.cell b_o0 (qf c_0)] (fun d σ => d = .tup [] ∧ σ = [.cell b_o0 (qf res)]) := by
  unfold qea at hr
  refine qag [(0, .ref b_o0 0 []), (1, .lst (l_a1.map encA)), (2, .int .i64 most_a2), (3, .clo (.func 62) [.ref b_o0 0 []] [])] Tryz.func133 rfl rfl fun K hK => (qk (gr [.d, .d, .d, .d, .w] (r_d rfl rfl rfl (qe rfl rfl) (r_d rfl rfl rfl (qe rfl rfl) (r_d rfl rfl rfl (qbP (f := encA) l_a1 rfl qdg rfl (asl rfl)) (r_d rfl rfl rfl (qe rfl rfl) ?_))))))
  obtain ⟨r_1, hr_1, hr⟩ := bindS hr
  refine r_w rfl rfl rfl (qF _ rfl qA (.oc rfl (.oc rfl (.oc rfl (.oc rfl .nil)))) (by exact (pf0 _)) (qu _ _ _ _ _ _ hr_1)) ?_
  rintro _ _ ⟨_, ⟨rfl, rfl⟩, rfl⟩
  refine r_st ((.cell b_o0 (qf r_1)) :: _) rfl (ql (qk (qk (gr [.d, .d, .d, .r] (r_d rfl rfl rfl (qe rfl rfl) (r_d rfl rfl rfl (qv rfl rfl) (r_d rfl rfl rfl (qo rfl qD rfl) (r_r rfl rfl rfl (qx rfl rfl (.head _) rfl rfl (by exact qbm) rfl) (ql ?_)))))))))
  refine g_sB 18 rfl hr (fun h18_1 hr => ?_) (fun h18_1 hr => ?_)
  ·
   refine qC rfl ?_
   obtain rfl := Option.some.inj hr
   refine q9 Tryz.func133 _ .nil ?_
   exact ⟨rfl, rfl⟩
  ·
   refine qB rfl (qab (qk (gr [.d, .d, .d] (r_d rfl rfl rfl (qe rfl rfl) (r_d rfl rfl rfl (qbP (f := encA) l_a1 rfl qdg rfl (asl rfl)) (r_d rfl rfl rfl (qe rfl rfl) (ql ?_)))))))
   obtain ⟨kk0, hkk0, hr⟩ := exK (fun k => qcz k fuel l_a1 r_1) hr
   refine qiz 1 rfl (asl rfl) fun hla0 => ?_
   simp only [List.length_map] at hla0
   refine qbe (fun env σ => ∃ (w_5 : qa), env = [] ∧ σ = [.cell b_o0 (qf w_5)] ∧ kk0 w_5 = some res) ?_ (fun HK0 => ?_)
   ·
    rintro _ _ ⟨w_5, rfl, rfl, hr⟩
    rw [hkk0] at hr
    obtain rfl := Option.some.inj hr
    refine qfd Tryz.func133 _ .nil ?_
    exact ⟨rfl, rfl⟩
   ·
    refine qan [(3, .clo (.func 62) [.ref b_o0 0 []] []), (19, .lst (l_a1.map encA)), (20, .int .i64 (l_a1.length : Int)), (21, .int .i64 ((0 : Nat) : Int))] (Sub.cons' rfl (Sub.cons' rfl (Sub.cons' rfl (Sub.cons' rfl (Sub.nil _))))) (qdb (fun n env σ => ∃ (i_3 : Nat) (w_4 : qa), (n = l_a1.length - i_3) ∧ (env = [(3, .clo (.func 62) [.ref b_o0 0 []] []), (19, .lst (l_a1.map encA)), (20, .int .i64 (l_a1.length : Int)), (21, .int .i64 (i_3 : Int))]) ∧ (σ = [.cell b_o0 (qf w_4)]) ∧ (i_3 ≤ l_a1.length) ∧ (qcz kk0 fuel (l_a1.drop i_3) w_4 = some res)) _ ⟨0, r_1, rfl, rfl, rfl, Nat.zero_le _, hr⟩ ?_)
    rintro n _ _ ⟨i_3, w_4, rfl, rfl, rfl, hi0, hr⟩ IH0
    rcases listStep l_a1 i_3 hi0 with ⟨ht0, hd0, he0⟩ | ⟨q_6, ht0, hd0, hq0, hlt0⟩
    ·
     rw [hd0, qcz] at hr
     refine qk (gr [.d] (r_d rfl rfl rfl (qX rfl rfl rfl rfl) (ql (qk (qbg 22 false rfl ht0 (qB rfl (qbC rfl (qan [] (Sub.nil _) ?_))))))))
     exact HK0 _ _ ⟨w_4, rfl, rfl, hr⟩
    ·
     rw [hd0, qcz] at hr
     refine qk (gr [.d] (r_d rfl rfl rfl (qX rfl rfl rfl rfl) (ql (qk (qbg 22 true rfl ht0 (qC rfl (qab (qk (qbi (qk (gr [.d, .d, .w, .w] ?_)))))))))))
     refine r_d rfl rfl rfl (qbH (f := encA) l_a1 rfl qdg rfl (asl rfl) rfl hq0 qbA rfl) (r_d rfl rfl rfl (qw rfl rfl (by exact qbN) (qbA _)) (r_w rfl rfl rfl (qau rfl qjt) ?_))
     rintro _ _ ⟨b9_6, rfl, rfl⟩
     refine qaa rfl rfl rfl (qK _ rfl rfl rfl (Wk.refl _) (pf0 _) (by exact qbN) (qbA _) rfl rfl) (ql (qap 9 b9_6 rfl (pf0 _) (gr [.d, .d, .w] (r_d rfl rfl rfl (qe rfl rfl) (r_d rfl rfl rfl (qw rfl rfl (by exact qbN) (qbA _)) ?_)))))
     obtain ⟨r_8, hr_8, hr⟩ := bindS hr
     refine r_w rfl rfl rfl (qd9 _ rfl rfl qfB (.oc rfl .nil) rfl (by exact (pf0 _)) (qeW fuel _ _ _ _ hr_8)) ?_
     rintro _ _ ⟨_, ⟨rfl, rfl⟩, rfl⟩
     refine r_st ((.cell b_o0 (qf r_8)) :: _) rfl (ql (qac (gr [.d, .d] (r_d rfl rfl rfl (s_ar (r := ((i_3 + 1 : Nat) : Int)) rfl rfl rfl (by simp [iar]) (by omega)) (r_d rfl rfl rfl (qe rfl rfl) (ql (qan [(3, .clo (.func 62) [.ref b_o0 0 []] []), (19, .lst (l_a1.map encA)), (20, .int .i64 (l_a1.length : Int)), (21, .int .i64 ((i_3 + 1 : Nat) : Int))] (Sub.cons' rfl (Sub.cons' rfl (Sub.cons' rfl (Sub.cons' rfl (Sub.nil _))))) ?_)))))))
     exact IH0 _ _ _ (by omega) ⟨(i_3 + 1), r_8, rfl, rfl, rfl, (by omega), hr⟩
noncomputable def qbZ (fuel : Nat) (g_a1 : Gl) (c_0 : qa) : Option (qa) :=
  (bif c_0.f1_bad then
  (bif (!true) then
  ((qt g_a1.op 0 12 (⟨c_0.f0_b, true⟩ : qa)).bind fun r_3 =>
  ((qbR fuel g_a1.n g_a1.ts r_3).bind fun r_4 =>
  some (r_4)))
  else
  some ((⟨c_0.f0_b, true⟩ : qa)))
  else
  ((qlo g_a1).bind fun r_5 =>
  (bif (!(!r_5)) then
  ((qt g_a1.op 0 12 (⟨c_0.f0_b, (!r_5)⟩ : qa)).bind fun r_7 =>
  ((qbR fuel g_a1.n g_a1.ts r_7).bind fun r_8 =>
  some (r_8)))
  else
  some ((⟨c_0.f0_b, (!r_5)⟩ : qa)))))
set_option maxHeartbeats 1000000 in
theorem qgr (fuel : Nat) (g_a1 : Gl) (c_0 : qa) (b_o0 : Nat) (res : qa) (hr : qbZ fuel g_a1 c_0 = some res) : Spec Tryz.prog 135 [.ref b_o0 0 [], encG g_a1] [.cell b_o0 (qf c_0)] (fun d σ => d = .tup [] ∧ σ = [.cell b_o0 (qf res)]) := by
  unfold qbZ at hr
  refine qag [(0, .ref b_o0 0 []), (1, encG g_a1)] Tryz.func135 rfl rfl fun K hK => (qk (gr [.d] (r_d rfl rfl rfl (qgF rfl rfl rfl) (ql (qk (gr [.d, .d, .d, .d, .r, .d, .d, .d, .d, .d, .d, .d, .w] (r_d rfl rfl rfl (qe rfl rfl) (r_d rfl rfl rfl (qe rfl rfl) (r_d rfl rfl rfl (qv rfl rfl) (r_d rfl rfl rfl (qo rfl qD rfl) (r_r rfl rfl rfl (qx rfl rfl (.head _) rfl rfl (by exact qbm) rfl) ?_)))))))))))
  refine r_d rfl rfl rfl (qe rfl rfl) ?_
  refine r_sB 9 rfl hr (fun h9_0 hr => ?_) (fun h9_0 hr => ?_)
  ·
   refine qh rfl rfl rfl (qh rfl rfl rfl (qh rfl rfl rfl (r_d rfl rfl rfl (qP rfl rfl rfl) (r_d rfl rfl rfl (qv rfl rfl) (r_d rfl rfl rfl (qo rfl qD rfl) (qaa rfl rfl rfl (qV _ rfl rfl rfl (Wk.refl _) (pf0 _) rfl rfl (by exact qbm) rfl rfl rfl) (ql (qk (gr [.d, .d, .d, .r, .d] (r_d rfl rfl rfl (qe rfl rfl) (r_d rfl rfl rfl (qv rfl rfl) ?_)))))))))))
   refine r_d rfl rfl rfl (qo rfl qD rfl) (r_r rfl rfl rfl (qx rfl rfl (.head _) rfl rfl (by exact qbm) rfl) (r_d rfl rfl rfl (qfZ rfl rfl) (ql ?_)))
   refine g_sB 20 rfl hr (fun h20_1 hr => ?_) (fun h20_1 hr => ?_)
   ·
    refine qC rfl (qk (gr [.d, .d, .d, .w] (r_d rfl rfl rfl (qe rfl rfl) (r_d rfl rfl rfl (qp rfl qjA rfl rfl rfl rfl) (r_d rfl rfl rfl (qw rfl rfl (by exact qaF) rfl) ?_)))))
    obtain ⟨r_3, hr_3, hr⟩ := bindS hr
    refine r_w rfl rfl rfl (qF _ rfl qA (.oc rfl (.oc rfl (.oc rfl (.oc rfl .nil)))) (by exact (pf0 _)) (qu _ _ _ _ _ _ hr_3)) ?_
    rintro _ _ ⟨_, ⟨rfl, rfl⟩, rfl⟩
    refine r_st ((.cell b_o0 (qf r_3)) :: _) rfl (ql (gr [.d, .d, .d, .d, .d, .w] (r_d rfl rfl rfl (qe rfl rfl) (r_d rfl rfl rfl (qp rfl qis rfl rfl rfl rfl) (r_d rfl rfl rfl (qw rfl rfl (by exact qep) rfl) (r_d rfl rfl rfl (qp rfl qic rfl rfl rfl rfl) (r_d rfl rfl rfl (qw rfl rfl (by exact qdQ) rfl) ?_)))))))
    obtain ⟨r_4, hr_4, hr⟩ := bindS hr
    refine r_w rfl rfl rfl (qF _ rfl qek (.oc rfl (.oc rfl (.oc rfl .nil))) (by exact (pf0 _)) (qdS fuel _ _ _ _ _ hr_4)) ?_
    rintro _ _ ⟨_, ⟨rfl, rfl⟩, rfl⟩
    refine r_st ((.cell b_o0 (qf r_4)) :: _) rfl (ql ?_)
    obtain rfl := Option.some.inj hr
    refine qfd Tryz.func135 _ .nil ?_
    exact ⟨rfl, rfl⟩
   ·
    refine qB rfl (qab ?_)
    obtain rfl := Option.some.inj hr
    refine qfd Tryz.func135 _ .nil ?_
    exact ⟨rfl, rfl⟩
  ·
   refine r_d rfl rfl rfl (qw rfl rfl (by exact qcq) (qbh _)) ?_
   obtain ⟨r_5, hr_5, hr⟩ := bindS hr
   refine r_d rfl rfl rfl (qal rfl qly (.oc rfl .nil) (qlF _ _ hr_5)) (r_d rfl rfl rfl (qfZ rfl rfl) (r_d rfl rfl rfl (qG rfl rfl rfl) (r_d rfl rfl rfl (qv rfl rfl) (r_d rfl rfl rfl (qo rfl qD rfl) (qaa rfl rfl rfl (qV _ rfl rfl rfl (Wk.refl _) (pf0 _) rfl rfl (by exact qbm) rfl rfl rfl) (ql (qk (gr [.d, .d, .d, .r, .d] (r_d rfl rfl rfl (qe rfl rfl) (r_d rfl rfl rfl (qv rfl rfl) (r_d rfl rfl rfl (qo rfl qD rfl) ?_)))))))))))
   refine r_r rfl rfl rfl (qx rfl rfl (.head _) rfl rfl (by exact qbm) rfl) (r_d rfl rfl rfl (qfZ rfl rfl) (ql ?_))
   refine g_sB 20 rfl hr (fun h20_5 hr => ?_) (fun h20_5 hr => ?_)
   ·
    refine qC rfl (qk (gr [.d, .d, .d, .w] (r_d rfl rfl rfl (qe rfl rfl) (r_d rfl rfl rfl (qp rfl qjA rfl rfl rfl rfl) (r_d rfl rfl rfl (qw rfl rfl (by exact qaF) rfl) ?_)))))
    obtain ⟨r_7, hr_7, hr⟩ := bindS hr
    refine r_w rfl rfl rfl (qF _ rfl qA (.oc rfl (.oc rfl (.oc rfl (.oc rfl .nil)))) (by exact (pf0 _)) (qu _ _ _ _ _ _ hr_7)) ?_
    rintro _ _ ⟨_, ⟨rfl, rfl⟩, rfl⟩
    refine r_st ((.cell b_o0 (qf r_7)) :: _) rfl (ql (gr [.d, .d, .d, .d, .d, .w] (r_d rfl rfl rfl (qe rfl rfl) (r_d rfl rfl rfl (qp rfl qis rfl rfl rfl rfl) (r_d rfl rfl rfl (qw rfl rfl (by exact qep) rfl) (r_d rfl rfl rfl (qp rfl qic rfl rfl rfl rfl) (r_d rfl rfl rfl (qw rfl rfl (by exact qdQ) rfl) ?_)))))))
    obtain ⟨r_8, hr_8, hr⟩ := bindS hr
    refine r_w rfl rfl rfl (qF _ rfl qek (.oc rfl (.oc rfl (.oc rfl .nil))) (by exact (pf0 _)) (qdS fuel _ _ _ _ _ hr_8)) ?_
    rintro _ _ ⟨_, ⟨rfl, rfl⟩, rfl⟩
    refine r_st ((.cell b_o0 (qf r_8)) :: _) rfl (ql ?_)
    obtain rfl := Option.some.inj hr
    refine qfd Tryz.func135 _ .nil ?_
    exact ⟨rfl, rfl⟩
   ·
    refine qB rfl (qab ?_)
    obtain rfl := Option.some.inj hr
    refine qfd Tryz.func135 _ .nil ?_
    exact ⟨rfl, rfl⟩
noncomputable def qcJ (k : (qa) → Option (qa)) (fuel : Nat) : List Gl → qa → Option (qa)
  | [], w_4 =>
  (k w_4)
  | q_6 :: rest, w_4 =>
  ((qbZ fuel q_6 w_4).bind fun r_8 =>
  (qcJ k fuel rest r_8))
noncomputable def qef (fuel : Nat) (l_a1 : (List Gl)) (most_a2 : Int) (c_0 : qa) : Option (qa) :=
  ((qt (l_a1.length : Int) 0 most_a2 c_0).bind fun r_1 =>
  (bif r_1.f1_bad then
  some (r_1)
  else
  (qcJ (fun w_5 =>
  some (w_5)) fuel l_a1 r_1)))
set_option maxHeartbeats 1000000 in
theorem qiX (fuel : Nat) (l_a1 : (List Gl)) (most_a2 : Int) (c_0 : qa) (b_o0 : Nat) (res : qa) (hr : qef fuel l_a1 most_a2 c_0 = some res) : Spec Tryz.prog 134 [.ref b_o0 0 [], .lst (l_a1.map encG), .int .i64 most_a2, .clo (.func 135) [.ref b_o0 0 []] []] [.cell b_o0 (qf c_0)] (fun d σ => d = .tup [] ∧ σ = [.cell b_o0 (qf res)]) := by
  unfold qef at hr
  refine qag [(0, .ref b_o0 0 []), (1, .lst (l_a1.map encG)), (2, .int .i64 most_a2), (3, .clo (.func 135) [.ref b_o0 0 []] [])] Tryz.func134 rfl rfl fun K hK => (qk (gr [.d, .d, .d, .d, .w] (r_d rfl rfl rfl (qe rfl rfl) (r_d rfl rfl rfl (qe rfl rfl) (r_d rfl rfl rfl (qbP (f := encG) l_a1 rfl qde rfl (asl rfl)) (r_d rfl rfl rfl (qe rfl rfl) ?_))))))
  obtain ⟨r_1, hr_1, hr⟩ := bindS hr
  refine r_w rfl rfl rfl (qF _ rfl qA (.oc rfl (.oc rfl (.oc rfl (.oc rfl .nil)))) (by exact (pf0 _)) (qu _ _ _ _ _ _ hr_1)) ?_
  rintro _ _ ⟨_, ⟨rfl, rfl⟩, rfl⟩
  refine r_st ((.cell b_o0 (qf r_1)) :: _) rfl (ql (qk (qk (gr [.d, .d, .d, .r] (r_d rfl rfl rfl (qe rfl rfl) (r_d rfl rfl rfl (qv rfl rfl) (r_d rfl rfl rfl (qo rfl qD rfl) (r_r rfl rfl rfl (qx rfl rfl (.head _) rfl rfl (by exact qbm) rfl) (ql ?_)))))))))
  refine g_sB 18 rfl hr (fun h18_1 hr => ?_) (fun h18_1 hr => ?_)
  ·
   refine qC rfl ?_
   obtain rfl := Option.some.inj hr
   refine q9 Tryz.func134 _ .nil ?_
   exact ⟨rfl, rfl⟩
  ·
   refine qB rfl (qab (qk (gr [.d, .d, .d] (r_d rfl rfl rfl (qe rfl rfl) (r_d rfl rfl rfl (qbP (f := encG) l_a1 rfl qde rfl (asl rfl)) (r_d rfl rfl rfl (qe rfl rfl) (ql ?_)))))))
   obtain ⟨kk0, hkk0, hr⟩ := exK (fun k => qcJ k fuel l_a1 r_1) hr
   refine qiz 1 rfl (asl rfl) fun hla0 => ?_
   simp only [List.length_map] at hla0
   refine qbe (fun env σ => ∃ (w_5 : qa), env = [] ∧ σ = [.cell b_o0 (qf w_5)] ∧ kk0 w_5 = some res) ?_ (fun HK0 => ?_)
   ·
    rintro _ _ ⟨w_5, rfl, rfl, hr⟩
    rw [hkk0] at hr
    obtain rfl := Option.some.inj hr
    refine qfd Tryz.func134 _ .nil ?_
    exact ⟨rfl, rfl⟩
   ·
    refine qan [(3, .clo (.func 135) [.ref b_o0 0 []] []), (19, .lst (l_a1.map encG)), (20, .int .i64 (l_a1.length : Int)), (21, .int .i64 ((0 : Nat) : Int))] (Sub.cons' rfl (Sub.cons' rfl (Sub.cons' rfl (Sub.cons' rfl (Sub.nil _))))) (qdb (fun n env σ => ∃ (i_3 : Nat) (w_4 : qa), (n = l_a1.length - i_3) ∧ (env = [(3, .clo (.func 135) [.ref b_o0 0 []] []), (19, .lst (l_a1.map encG)), (20, .int .i64 (l_a1.length : Int)), (21, .int .i64 (i_3 : Int))]) ∧ (σ = [.cell b_o0 (qf w_4)]) ∧ (i_3 ≤ l_a1.length) ∧ (qcJ kk0 fuel (l_a1.drop i_3) w_4 = some res)) _ ⟨0, r_1, rfl, rfl, rfl, Nat.zero_le _, hr⟩ ?_)
    rintro n _ _ ⟨i_3, w_4, rfl, rfl, rfl, hi0, hr⟩ IH0
    rcases listStep l_a1 i_3 hi0 with ⟨ht0, hd0, he0⟩ | ⟨q_6, ht0, hd0, hq0, hlt0⟩
    ·
     rw [hd0, qcJ] at hr
     refine qk (gr [.d] (r_d rfl rfl rfl (qX rfl rfl rfl rfl) (ql (qk (qbg 22 false rfl ht0 (qB rfl (qbC rfl (qan [] (Sub.nil _) ?_))))))))
     exact HK0 _ _ ⟨w_4, rfl, rfl, hr⟩
    ·
     rw [hd0, qcJ] at hr
     refine qk (gr [.d] (r_d rfl rfl rfl (qX rfl rfl rfl rfl) (ql (qk (qbg 22 true rfl ht0 (qC rfl (qab (qk (qbi (qk (gr [.d, .d, .w, .w] ?_)))))))))))
     refine r_d rfl rfl rfl (qbH (f := encG) l_a1 rfl qde rfl (asl rfl) rfl hq0 qbh rfl) (r_d rfl rfl rfl (qw rfl rfl (by exact qcq) (qbh _)) (r_w rfl rfl rfl (qau rfl qj1) ?_))
     rintro _ _ ⟨b9_6, rfl, rfl⟩
     refine qaa rfl rfl rfl (qK _ rfl rfl rfl (Wk.refl _) (pf0 _) (by exact qcq) (qbh _) rfl rfl) (ql (qap 9 b9_6 rfl (pf0 _) (gr [.d, .d, .w] (r_d rfl rfl rfl (qe rfl rfl) (r_d rfl rfl rfl (qw rfl rfl (by exact qcq) (qbh _)) ?_)))))
     obtain ⟨r_8, hr_8, hr⟩ := bindS hr
     refine r_w rfl rfl rfl (qd9 _ rfl rfl qhh (.oc rfl .nil) rfl (by exact (pf0 _)) (qgr fuel _ _ _ _ hr_8)) ?_
     rintro _ _ ⟨_, ⟨rfl, rfl⟩, rfl⟩
     refine r_st ((.cell b_o0 (qf r_8)) :: _) rfl (ql (qac (gr [.d, .d] (r_d rfl rfl rfl (s_ar (r := ((i_3 + 1 : Nat) : Int)) rfl rfl rfl (by simp [iar]) (by omega)) (r_d rfl rfl rfl (qe rfl rfl) (ql (qan [(3, .clo (.func 135) [.ref b_o0 0 []] []), (19, .lst (l_a1.map encG)), (20, .int .i64 (l_a1.length : Int)), (21, .int .i64 ((i_3 + 1 : Nat) : Int))] (Sub.cons' rfl (Sub.cons' rfl (Sub.cons' rfl (Sub.cons' rfl (Sub.nil _))))) ?_)))))))
     exact IH0 _ _ _ (by omega) ⟨(i_3 + 1), r_8, rfl, rfl, rfl, (by omega), hr⟩
noncomputable def qcW (fuel : Nat) (r_a1 : qak) (c_0 : qa) : Option (qa) :=
  ((qbG r_a1.f0_Name c_0).bind fun r_1 =>
  ((qea fuel r_a1.f1_Keep 4 r_1).bind fun r_2 =>
  ((qea fuel r_a1.f2_Remove 4 r_2).bind fun r_3 =>
  ((qef fuel r_a1.f3_Guard 12 r_3).bind fun r_4 =>
  ((qef fuel r_a1.f4_Body 12 r_4).bind fun r_5 =>
  ((qt r_a1.f5_Vars 0 1048576 r_5).bind fun r_6 =>
  some (r_6)))))))
set_option maxHeartbeats 1000000 in
theorem qiP (fuel : Nat) (r_a1 : qak) (c_0 : qa) (b_o0 : Nat) (res : qa) (hr : qcW fuel r_a1 c_0 = some res) : Spec Tryz.prog 39 [.ref b_o0 0 [], qT r_a1] [.cell b_o0 (qf c_0)] (fun d σ => d = .tup [] ∧ σ = [.cell b_o0 (qf res)]) := by
  unfold qcW at hr
  refine qag [(0, .ref b_o0 0 []), (1, qT r_a1)] Tryz.func39 rfl rfl fun K hK => (qk (gr [.d] (r_d rfl rfl rfl (qgF rfl rfl rfl) (ql (qk (gr [.d, .d, .d, .w] (r_d rfl rfl rfl (qe rfl rfl) (r_d rfl rfl rfl (qp rfl qip rfl rfl rfl rfl) (r_d rfl rfl rfl (qw rfl rfl (by exact qep) rfl) ?_)))))))))
  obtain ⟨r_1, hr_1, hr⟩ := bindS hr
  refine r_w rfl rfl rfl (qF _ rfl qew (.oc rfl (.oc rfl .nil)) (by exact (pf0 _)) (qd0 _ _ _ _ hr_1)) ?_
  rintro _ _ ⟨_, ⟨rfl, rfl⟩, rfl⟩
  refine r_st ((.cell b_o0 (qf r_1)) :: _) rfl (ql (qk (gr [.d, .d, .d, .d, .d, .w] (r_d rfl rfl rfl (qe rfl rfl) (r_d rfl rfl rfl (qp rfl qhB rfl rfl rfl rfl) (r_d rfl rfl rfl (qw rfl rfl (by exact qei) rfl) (r_d rfl rfl rfl (qe rfl rfl) (r_d rfl rfl rfl (qbz rfl rfl rfl) ?_))))))))
  obtain ⟨r_2, hr_2, hr⟩ := bindS hr
  refine r_w rfl rfl rfl (qF _ rfl qgU (.oc rfl (.oc rfl (.oc rfl (.oc rfl .nil)))) (by exact (pf0 _)) (qiV fuel _ _ _ _ _ hr_2)) ?_
  rintro _ _ ⟨_, ⟨rfl, rfl⟩, rfl⟩
  refine r_st ((.cell b_o0 (qf r_2)) :: _) rfl (ql (qk (gr [.d, .d, .d, .d, .d, .w] (r_d rfl rfl rfl (qe rfl rfl) (r_d rfl rfl rfl (qp rfl qhq rfl rfl rfl rfl) (r_d rfl rfl rfl (qw rfl rfl (by exact qei) rfl) (r_d rfl rfl rfl (qe rfl rfl) (r_d rfl rfl rfl (qbz rfl rfl rfl) ?_))))))))
  obtain ⟨r_3, hr_3, hr⟩ := bindS hr
  refine r_w rfl rfl rfl (qF _ rfl qgU (.oc rfl (.oc rfl (.oc rfl (.oc rfl .nil)))) (by exact (pf0 _)) (qiV fuel _ _ _ _ _ hr_3)) ?_
  rintro _ _ ⟨_, ⟨rfl, rfl⟩, rfl⟩
  refine r_st ((.cell b_o0 (qf r_3)) :: _) rfl (ql (qk (gr [.d, .d, .d, .d, .d, .w] (r_d rfl rfl rfl (qe rfl rfl) (r_d rfl rfl rfl (qp rfl qhs rfl rfl rfl rfl) (r_d rfl rfl rfl (qw rfl rfl (by exact qeh) rfl) (r_d rfl rfl rfl (qe rfl rfl) (r_d rfl rfl rfl (qbz rfl rfl rfl) ?_))))))))
  obtain ⟨r_4, hr_4, hr⟩ := bindS hr
  refine r_w rfl rfl rfl (qF _ rfl qg0 (.oc rfl (.oc rfl (.oc rfl (.oc rfl .nil)))) (by exact (pf0 _)) (qiX fuel _ _ _ _ _ hr_4)) ?_
  rintro _ _ ⟨_, ⟨rfl, rfl⟩, rfl⟩
  refine r_st ((.cell b_o0 (qf r_4)) :: _) rfl (ql (qk (gr [.d, .d, .d, .d, .d, .w] (r_d rfl rfl rfl (qe rfl rfl) (r_d rfl rfl rfl (qp rfl qhv rfl rfl rfl rfl) (r_d rfl rfl rfl (qw rfl rfl (by exact qeh) rfl) (r_d rfl rfl rfl (qe rfl rfl) (r_d rfl rfl rfl (qbz rfl rfl rfl) ?_))))))))
  obtain ⟨r_5, hr_5, hr⟩ := bindS hr
  refine r_w rfl rfl rfl (qF _ rfl qg0 (.oc rfl (.oc rfl (.oc rfl (.oc rfl .nil)))) (by exact (pf0 _)) (qiX fuel _ _ _ _ _ hr_5)) ?_
  rintro _ _ ⟨_, ⟨rfl, rfl⟩, rfl⟩
  refine r_st ((.cell b_o0 (qf r_5)) :: _) rfl (ql (gr [.d, .d, .d, .w] (r_d rfl rfl rfl (qe rfl rfl) (r_d rfl rfl rfl (qp rfl qhu rfl rfl rfl rfl) (r_d rfl rfl rfl (qw rfl rfl (by exact qaF) rfl) ?_)))))
  obtain ⟨r_6, hr_6, hr⟩ := bindS hr
  refine r_w rfl rfl rfl (qF _ rfl qA (.oc rfl (.oc rfl (.oc rfl (.oc rfl .nil)))) (by exact (pf0 _)) (qu _ _ _ _ _ _ hr_6)) ?_
  rintro _ _ ⟨_, ⟨rfl, rfl⟩, rfl⟩
  refine r_st ((.cell b_o0 (qf r_6)) :: _) rfl (ql ?_)
  obtain rfl := Option.some.inj hr
  refine qfd Tryz.func39 _ .nil ?_
  exact ⟨rfl, rfl⟩
noncomputable def qcN (k : (qa) → Option (qa)) (fuel : Nat) : List qak → qa → Option (qa)
  | [], w_4 =>
  (k w_4)
  | q_6 :: rest, w_4 =>
  ((qcW fuel q_6 w_4).bind fun r_8 =>
  (qcN k fuel rest r_8))
noncomputable def qe0 (fuel : Nat) (l_a1 : (List qak)) (most_a2 : Int) (c_0 : qa) : Option (qa) :=
  ((qt (l_a1.length : Int) 0 most_a2 c_0).bind fun r_1 =>
  (bif r_1.f1_bad then
  some (r_1)
  else
  (qcN (fun w_5 =>
  some (w_5)) fuel l_a1 r_1)))
set_option maxHeartbeats 1000000 in
theorem qkU (fuel : Nat) (l_a1 : (List qak)) (most_a2 : Int) (c_0 : qa) (b_o0 : Nat) (res : qa) (hr : qe0 fuel l_a1 most_a2 c_0 = some res) : Spec Tryz.prog 38 [.ref b_o0 0 [], .lst (l_a1.map qT), .int .i64 most_a2, .clo (.func 39) [.ref b_o0 0 []] []] [.cell b_o0 (qf c_0)] (fun d σ => d = .tup [] ∧ σ = [.cell b_o0 (qf res)]) := by
  unfold qe0 at hr
  refine qag [(0, .ref b_o0 0 []), (1, .lst (l_a1.map qT)), (2, .int .i64 most_a2), (3, .clo (.func 39) [.ref b_o0 0 []] [])] Tryz.func38 rfl rfl fun K hK => (qk (gr [.d, .d, .d, .d, .w] (r_d rfl rfl rfl (qe rfl rfl) (r_d rfl rfl rfl (qe rfl rfl) (r_d rfl rfl rfl (qbP (f := qT) l_a1 rfl qdu rfl (asl rfl)) (r_d rfl rfl rfl (qe rfl rfl) ?_))))))
  obtain ⟨r_1, hr_1, hr⟩ := bindS hr
  refine r_w rfl rfl rfl (qF _ rfl qA (.oc rfl (.oc rfl (.oc rfl (.oc rfl .nil)))) (by exact (pf0 _)) (qu _ _ _ _ _ _ hr_1)) ?_
  rintro _ _ ⟨_, ⟨rfl, rfl⟩, rfl⟩
  refine r_st ((.cell b_o0 (qf r_1)) :: _) rfl (ql (qk (qk (gr [.d, .d, .d, .r] (r_d rfl rfl rfl (qe rfl rfl) (r_d rfl rfl rfl (qv rfl rfl) (r_d rfl rfl rfl (qo rfl qD rfl) (r_r rfl rfl rfl (qx rfl rfl (.head _) rfl rfl (by exact qbm) rfl) (ql ?_)))))))))
  refine g_sB 18 rfl hr (fun h18_1 hr => ?_) (fun h18_1 hr => ?_)
  ·
   refine qC rfl ?_
   obtain rfl := Option.some.inj hr
   refine q9 Tryz.func38 _ .nil ?_
   exact ⟨rfl, rfl⟩
  ·
   refine qB rfl (qab (qk (gr [.d, .d, .d] (r_d rfl rfl rfl (qe rfl rfl) (r_d rfl rfl rfl (qbP (f := qT) l_a1 rfl qdu rfl (asl rfl)) (r_d rfl rfl rfl (qe rfl rfl) (ql ?_)))))))
   obtain ⟨kk0, hkk0, hr⟩ := exK (fun k => qcN k fuel l_a1 r_1) hr
   refine qiz 1 rfl (asl rfl) fun hla0 => ?_
   simp only [List.length_map] at hla0
   refine qbe (fun env σ => ∃ (w_5 : qa), env = [] ∧ σ = [.cell b_o0 (qf w_5)] ∧ kk0 w_5 = some res) ?_ (fun HK0 => ?_)
   ·
    rintro _ _ ⟨w_5, rfl, rfl, hr⟩
    rw [hkk0] at hr
    obtain rfl := Option.some.inj hr
    refine qfd Tryz.func38 _ .nil ?_
    exact ⟨rfl, rfl⟩
   ·
    refine qan [(3, .clo (.func 39) [.ref b_o0 0 []] []), (19, .lst (l_a1.map qT)), (20, .int .i64 (l_a1.length : Int)), (21, .int .i64 ((0 : Nat) : Int))] (Sub.cons' rfl (Sub.cons' rfl (Sub.cons' rfl (Sub.cons' rfl (Sub.nil _))))) (qdb (fun n env σ => ∃ (i_3 : Nat) (w_4 : qa), (n = l_a1.length - i_3) ∧ (env = [(3, .clo (.func 39) [.ref b_o0 0 []] []), (19, .lst (l_a1.map qT)), (20, .int .i64 (l_a1.length : Int)), (21, .int .i64 (i_3 : Int))]) ∧ (σ = [.cell b_o0 (qf w_4)]) ∧ (i_3 ≤ l_a1.length) ∧ (qcN kk0 fuel (l_a1.drop i_3) w_4 = some res)) _ ⟨0, r_1, rfl, rfl, rfl, Nat.zero_le _, hr⟩ ?_)
    rintro n _ _ ⟨i_3, w_4, rfl, rfl, rfl, hi0, hr⟩ IH0
    rcases listStep l_a1 i_3 hi0 with ⟨ht0, hd0, he0⟩ | ⟨q_6, ht0, hd0, hq0, hlt0⟩
    ·
     rw [hd0, qcN] at hr
     refine qk (gr [.d] (r_d rfl rfl rfl (qX rfl rfl rfl rfl) (ql (qk (qbg 22 false rfl ht0 (qB rfl (qbC rfl (qan [] (Sub.nil _) ?_))))))))
     exact HK0 _ _ ⟨w_4, rfl, rfl, hr⟩
    ·
     rw [hd0, qcN] at hr
     refine qk (gr [.d] (r_d rfl rfl rfl (qX rfl rfl rfl rfl) (ql (qk (qbg 22 true rfl ht0 (qC rfl (qab (qk (qbi (qk (gr [.d, .d, .w, .w] ?_)))))))))))
     refine r_d rfl rfl rfl (qbH (f := qT) l_a1 rfl qdu rfl (asl rfl) rfl hq0 qdL rfl) (r_d rfl rfl rfl (qw rfl rfl (by exact qfj) (qdL _)) (r_w rfl rfl rfl (qau rfl qk2) ?_))
     rintro _ _ ⟨b9_6, rfl, rfl⟩
     refine qaa rfl rfl rfl (qK _ rfl rfl rfl (Wk.refl _) (pf0 _) (by exact qfj) (qdL _) rfl rfl) (ql (qap 9 b9_6 rfl (pf0 _) (gr [.d, .d, .w] (r_d rfl rfl rfl (qe rfl rfl) (r_d rfl rfl rfl (qw rfl rfl (by exact qfj) (qdL _)) ?_)))))
     obtain ⟨r_8, hr_8, hr⟩ := bindS hr
     refine r_w rfl rfl rfl (qd9 _ rfl rfl qjm (.oc rfl .nil) rfl (by exact (pf0 _)) (qiP fuel _ _ _ _ hr_8)) ?_
     rintro _ _ ⟨_, ⟨rfl, rfl⟩, rfl⟩
     refine r_st ((.cell b_o0 (qf r_8)) :: _) rfl (ql (qac (gr [.d, .d] (r_d rfl rfl rfl (s_ar (r := ((i_3 + 1 : Nat) : Int)) rfl rfl rfl (by simp [iar]) (by omega)) (r_d rfl rfl rfl (qe rfl rfl) (ql (qan [(3, .clo (.func 39) [.ref b_o0 0 []] []), (19, .lst (l_a1.map qT)), (20, .int .i64 (l_a1.length : Int)), (21, .int .i64 ((i_3 + 1 : Nat) : Int))] (Sub.cons' rfl (Sub.cons' rfl (Sub.cons' rfl (Sub.cons' rfl (Sub.nil _))))) ?_)))))))
     exact IH0 _ _ _ (by omega) ⟨(i_3 + 1), r_8, rfl, rfl, rfl, (by omega), hr⟩
noncomputable def qca (c_0 : qa) : Option ((List Int)) :=
  (bif c_0.f1_bad then
  some ([])
  else
  some (c_0.f0_b))
set_option maxHeartbeats 1000000 in
theorem qfg (c_0 : qa) (b_o0 : Nat) (res : (List Int)) (hr : qca c_0 = some res) : Spec Tryz.prog 40 [.ref b_o0 0 []] [.cell b_o0 (qf c_0)] (fun d σ => d = .lst (res.map (D.int .u8)) ∧ σ = [.cell b_o0 (qf c_0)]) := by
  unfold qca at hr
  refine qag [(0, .ref b_o0 0 [])] Tryz.func40 rfl rfl fun K hK => (qk (gr [.d] (r_d rfl rfl rfl (qj rfl rfl) (ql (qk (qk (gr [.d, .d, .d, .r] (r_d rfl rfl rfl (qe rfl rfl) (r_d rfl rfl rfl (qv rfl rfl) (r_d rfl rfl rfl (qo rfl qD rfl) (r_r rfl rfl rfl (qx rfl rfl (.head _) rfl rfl (by exact qbm) rfl) ?_)))))))))))
  refine ql ?_
  refine g_sB 6 rfl hr (fun h6_0 hr => ?_) (fun h6_0 hr => ?_)
  ·
   refine qC rfl (qk (gr [.d] (r_d rfl rfl rfl (qj rfl rfl) (ql ?_))))
   obtain rfl := Option.some.inj hr
   refine q9 Tryz.func40 _ (.cons (resTmp rfl (Wk.full _)) .nil) ?_
   exact ⟨rfl, rfl⟩
  ·
   refine qB rfl (qab (qk (gr [.d, .d, .d, .r, .d] (r_d rfl rfl rfl (qe rfl rfl) (r_d rfl rfl rfl (qv rfl rfl) (r_d rfl rfl rfl (qo rfl qa2 rfl) (r_r rfl rfl rfl (qx rfl rfl (.head _) rfl rfl (by exact qc5) rfl) (r_d rfl rfl rfl (qj rfl rfl) (ql ?_)))))))))
   obtain rfl := Option.some.inj hr
   refine q9 Tryz.func40 _ (.cons (resTmp rfl (Wk.refl _)) .nil) ?_
   exact ⟨rfl, rfl⟩
noncomputable def qbX (fuel : Nat) (p_a0 : qad) : Option ((List Int)) :=
  ((qt 1 1 1 (⟨[], false⟩ : qa)).bind fun r_3 =>
  ((qe1 p_a0.f0_Decls 30 r_3).bind fun r_4 =>
  ((qe0 fuel p_a0.f1_Rules 40 r_4).bind fun r_5 =>
  ((qca r_5).bind fun r_6 =>
  some (r_6)))))
set_option maxHeartbeats 1000000 in
theorem qhc (fuel : Nat) (p_a0 : qad) (res : (List Int)) (hr : qbX fuel p_a0 = some res) : Gives Tryz.prog 11 [qS p_a0] (.lst (res.map (D.int .u8))) := by
  unfold qbX at hr
  refine qag [(0, qS p_a0)] Tryz.func11 rfl rfl fun K hK => (qk (gr [.d, .d] (r_d rfl rfl rfl (qgF rfl rfl rfl) (r_d rfl rfl rfl (qj rfl rfl) (ql (qk (gr [.d, .w, .w, .w] (r_d rfl rfl rfl (qbT rfl qhA .nil (.nil _)) (r_w rfl rfl rfl (qid rfl rfl rfl) ?_)))))))))
  rintro _ _ ⟨b5_0, rfl, rfl⟩
  refine r_w rfl rfl rfl (qau rfl qhT) ?_
  rintro _ _ ⟨b3_1, rfl, rfl⟩
  refine qaa rfl rfl rfl (qK _ rfl rfl rfl (Wk.refl _) (pf0 _) (by exact qJ) rfl rfl rfl) (ql (qap 3 b3_1 rfl (pf0 _) (qk (gr [.d, .w] (r_d rfl rfl rfl (qw rfl rfl (by exact qJ) rfl) ?_)))))
  obtain ⟨r_3, hr_3, hr⟩ := bindS hr
  refine r_w rfl rfl rfl (qF _ rfl qA (.oc rfl (.oc rfl (.oc rfl (.oc rfl .nil)))) (by exact (pf0 _)) (qu _ _ _ _ _ _ hr_3)) ?_
  rintro _ _ ⟨_, ⟨rfl, rfl⟩, rfl⟩
  refine r_st ((.cell b5_0 (qf r_3)) :: _) rfl (ql (qk (gr [.d, .d, .d, .d, .w] (r_d rfl rfl rfl (qw rfl rfl (by exact qJ) rfl) (r_d rfl rfl rfl (qp rfl qcS rfl rfl rfl rfl) (r_d rfl rfl rfl (qw rfl rfl (by exact qdP) rfl) (r_d rfl rfl rfl (qbz rfl rfl rfl) ?_)))))))
  obtain ⟨r_4, hr_4, hr⟩ := bindS hr
  refine r_w rfl rfl rfl (qF _ rfl qjg (.oc rfl (.oc rfl (.oc rfl (.oc rfl .nil)))) (by exact (pf0 _)) (qkT _ _ _ _ _ hr_4)) ?_
  rintro _ _ ⟨_, ⟨rfl, rfl⟩, rfl⟩
  refine r_st ((.cell b5_0 (qf r_4)) :: _) rfl (ql (qk (gr [.d, .d, .d, .d, .d, .w] (r_d rfl rfl rfl (qw rfl rfl (by exact qJ) rfl) (r_d rfl rfl rfl (qp rfl qdr rfl rfl rfl rfl) (r_d rfl rfl rfl (qw rfl rfl (by exact qej) rfl) (r_d rfl rfl rfl (qw rfl rfl (by exact qJ) rfl) (r_d rfl rfl rfl (qbz rfl rfl rfl) ?_))))))))
  obtain ⟨r_5, hr_5, hr⟩ := bindS hr
  refine r_w rfl rfl rfl (qF _ rfl qje (.oc rfl (.oc rfl (.oc rfl (.oc rfl .nil)))) (by exact (pf0 _)) (qkU fuel _ _ _ _ _ hr_5)) ?_
  rintro _ _ ⟨_, ⟨rfl, rfl⟩, rfl⟩
  refine r_st ((.cell b5_0 (qf r_5)) :: _) rfl (ql (qk (gr [.d, .w, .d] (r_d rfl rfl rfl (qw rfl rfl (by exact qJ) rfl) ?_))))
  obtain ⟨r_6, hr_6, hr⟩ := bindS hr
  refine r_w rfl rfl rfl (qF _ rfl qfN (.oc rfl .nil) (by exact (pf0 _)) (qfg _ _ _ hr_6)) ?_
  rintro _ _ ⟨_, ⟨rfl, rfl⟩, rfl⟩
  refine r_st ((.cell b5_0 (qf r_5)) :: _) rfl (r_d rfl rfl rfl (qj rfl rfl) (ql ?_))
  obtain rfl := Option.some.inj hr
  refine q9 Tryz.func11 _ (.cons (resTmp rfl (Wk.refl _)) .nil) ?_
  rfl
noncomputable def qct (fuel : Nat) (f_a1 : qL) (c_0 : qa) : Option (qa) :=
  ((qt f_a1.f1_ID 0 2147483648 c_0).bind fun r_1 =>
  ((qt f_a1.f2_Occ (-1) 2147483648 r_1).bind fun r_2 =>
  (bif (f_a1.f1_ID == (0 : Int)) then
  ((qbZ fuel f_a1.f0_Goal r_2).bind fun r_4 =>
  some (r_4))
  else
  (bif r_2.f1_bad then
  some ((⟨r_2.f0_b, true⟩ : qa))
  else
  (bif (f_a1.f0_Goal.op != (0 : Int)) then
  some ((⟨r_2.f0_b, true⟩ : qa))
  else
  (bif (!(f_a1.f0_Goal.n.toList == (⟨#[]⟩ : ByteArray).toList)) then
  some ((⟨r_2.f0_b, true⟩ : qa))
  else
  some ((⟨r_2.f0_b, (decide ((f_a1.f0_Goal.ts.length : Int) > (0 : Int)))⟩ : qa))))))))
set_option maxHeartbeats 1000000 in
theorem qij (fuel : Nat) (f_a1 : qL) (c_0 : qa) (b_o0 : Nat) (res : qa) (hr : qct fuel f_a1 c_0 = some res) : Spec Tryz.prog 59 [.ref b_o0 0 [], qz f_a1] [.cell b_o0 (qf c_0)] (fun d σ => d = .tup [] ∧ σ = [.cell b_o0 (qf res)]) := by
  unfold qct at hr
  refine qag [(0, .ref b_o0 0 []), (1, qz f_a1)] Tryz.func59 rfl rfl fun K hK => (qk (gr [.d] (r_d rfl rfl rfl (qgF rfl rfl rfl) (ql (qk (gr [.d, .d, .d, .w] (r_d rfl rfl rfl (qe rfl rfl) (r_d rfl rfl rfl (qp rfl qfi rfl rfl (by simp [szs, sz, qbh]) rfl) (r_d rfl rfl rfl (qw rfl rfl (by exact qaF) rfl) ?_)))))))))
  obtain ⟨r_1, hr_1, hr⟩ := bindS hr
  refine r_w rfl rfl rfl (qF _ rfl qA (.oc rfl (.oc rfl (.oc rfl (.oc rfl .nil)))) (by exact (pf0 _)) (qu _ _ _ _ _ _ hr_1)) ?_
  rintro _ _ ⟨_, ⟨rfl, rfl⟩, rfl⟩
  refine r_st ((.cell b_o0 (qf r_1)) :: _) rfl (ql (qk (gr [.d, .d, .d, .w] (r_d rfl rfl rfl (qe rfl rfl) (r_d rfl rfl rfl (qp rfl qf2 rfl rfl (by simp [szs, sz, qbh]) rfl) (r_d rfl rfl rfl (qw rfl rfl (by exact qaF) rfl) ?_))))))
  obtain ⟨r_2, hr_2, hr⟩ := bindS hr
  refine r_w rfl rfl rfl (qF _ rfl qA (.oc rfl (.oc rfl (.oc rfl (.oc rfl .nil)))) (by exact (pf0 _)) (qu _ _ _ _ _ _ hr_2)) ?_
  rintro _ _ ⟨_, ⟨rfl, rfl⟩, rfl⟩
  refine r_st ((.cell b_o0 (qf r_2)) :: _) rfl (ql (qk (qk (gr [.d, .d, .d] (r_d rfl rfl rfl (qp rfl qfi rfl rfl (by simp [szs, sz, qbh]) rfl) (r_d rfl rfl rfl (qw rfl rfl (by exact qaF) rfl) (r_d rfl rfl rfl (qX rfl rfl rfl rfl) (ql ?_))))))))
  refine g_sB 14 rfl hr (fun h14_2 hr => ?_) (fun h14_2 hr => ?_)
  ·
   refine qC rfl (qk (gr [.d, .d, .d, .w] (r_d rfl rfl rfl (qe rfl rfl) (r_d rfl rfl rfl (qp rfl qeR rfl rfl rfl rfl) (r_d rfl rfl rfl (qw rfl rfl (by exact qcq) (qbh _)) ?_)))))
   obtain ⟨r_4, hr_4, hr⟩ := bindS hr
   refine r_w rfl rfl rfl (qF _ rfl qhh (.oc rfl (.oc rfl .nil)) (by exact (pf0 _)) (qgr fuel _ _ _ _ hr_4)) ?_
   rintro _ _ ⟨_, ⟨rfl, rfl⟩, rfl⟩
   refine r_st ((.cell b_o0 (qf r_4)) :: _) rfl (ql ?_)
   obtain rfl := Option.some.inj hr
   refine q9 Tryz.func59 _ .nil ?_
   exact ⟨rfl, rfl⟩
  ·
   refine qB rfl (qab (gr [.d, .d, .d, .d, .r, .d, .d, .d, .d, .d, .d, .d, .d, .d, .d, .d, .d, .d, .d, .d, .d, .d, .d, .d, .d, .d, .w] (r_d rfl rfl rfl (qe rfl rfl) (r_d rfl rfl rfl (qe rfl rfl) (r_d rfl rfl rfl (qv rfl rfl) (r_d rfl rfl rfl (qo rfl qD rfl) (r_r rfl rfl rfl (qx rfl rfl (.head _) rfl rfl (by exact qbm) rfl) (r_d rfl rfl rfl (qe rfl rfl) ?_))))))))
   refine r_sB 24 rfl hr (fun h24_4 hr => ?_) (fun h24_4 hr => ?_)
   ·
    refine qh rfl rfl rfl (qh rfl rfl rfl (qh rfl rfl rfl (qh rfl rfl rfl (r_d rfl rfl rfl (qP rfl rfl rfl) (r_d rfl rfl rfl (qe rfl rfl) (qh rfl rfl rfl (qh rfl rfl rfl (qh rfl rfl rfl (qh rfl rfl rfl (r_d rfl rfl rfl (qP rfl rfl rfl) (r_d rfl rfl rfl (qe rfl rfl) ?_)))))))))))
    refine qh rfl rfl rfl (qh rfl rfl rfl (qh rfl rfl rfl (qh rfl rfl rfl (qh rfl rfl rfl (r_d rfl rfl rfl (qP rfl rfl rfl) (r_d rfl rfl rfl (qv rfl rfl) (r_d rfl rfl rfl (qo rfl qD rfl) (qaa rfl rfl rfl (qV _ rfl rfl rfl (Wk.refl _) (pf0 _) rfl rfl (by exact qbm) rfl rfl rfl) (ql ?_)))))))))
    obtain rfl := Option.some.inj hr
    refine qfd Tryz.func59 _ .nil ?_
    exact ⟨rfl, rfl⟩
   ·
    refine r_d rfl rfl rfl (qp rfl qeR rfl rfl rfl rfl) (r_d rfl rfl rfl (qp rfl qjA rfl rfl rfl rfl) (r_d rfl rfl rfl (qw rfl rfl (by exact qaF) rfl) (r_d rfl rfl rfl (qX rfl rfl rfl rfl) (r_d rfl rfl rfl (qG rfl rfl rfl) (r_d rfl rfl rfl (qe rfl rfl) ?_)))))
    refine r_sB 30 rfl hr (fun h30_5 hr => ?_) (fun h30_5 hr => ?_)
    ·
     refine qh rfl rfl rfl (qh rfl rfl rfl (qh rfl rfl rfl (qh rfl rfl rfl (r_d rfl rfl rfl (qP rfl rfl rfl) (r_d rfl rfl rfl (qe rfl rfl) (qh rfl rfl rfl (qh rfl rfl rfl (qh rfl rfl rfl (qh rfl rfl rfl (qh rfl rfl rfl (r_d rfl rfl rfl (qP rfl rfl rfl) ?_)))))))))))
     refine r_d rfl rfl rfl (qv rfl rfl) (r_d rfl rfl rfl (qo rfl qD rfl) (qaa rfl rfl rfl (qV _ rfl rfl rfl (Wk.refl _) (pf0 _) rfl rfl (by exact qbm) rfl rfl rfl) (ql ?_)))
     obtain rfl := Option.some.inj hr
     refine qfd Tryz.func59 _ .nil ?_
     exact ⟨rfl, rfl⟩
    ·
     refine r_d rfl rfl rfl (qp rfl qeR rfl rfl rfl rfl) (r_d rfl rfl rfl (qp rfl qis rfl rfl rfl rfl) (r_d rfl rfl rfl (qw rfl rfl (by exact qep) rfl) (r_d rfl rfl rfl (qpy rfl rfl rfl rfl) (r_d rfl rfl rfl (qG rfl rfl rfl) (r_d rfl rfl rfl (qe rfl rfl) ?_)))))
     refine r_sB 36 rfl hr (fun h36_6 hr => ?_) (fun h36_6 hr => ?_)
     ·
      refine qh rfl rfl rfl (qh rfl rfl rfl (qh rfl rfl rfl (qh rfl rfl rfl (qh rfl rfl rfl (r_d rfl rfl rfl (qP rfl rfl rfl) (r_d rfl rfl rfl (qv rfl rfl) (r_d rfl rfl rfl (qo rfl qD rfl) (qaa rfl rfl rfl (qV _ rfl rfl rfl (Wk.refl _) (pf0 _) rfl rfl (by exact qbm) rfl rfl rfl) (ql ?_)))))))))
      obtain rfl := Option.some.inj hr
      refine qfd Tryz.func59 _ .nil ?_
      exact ⟨rfl, rfl⟩
     ·
      refine r_d rfl rfl rfl (qp rfl qeR rfl rfl rfl rfl) (r_d rfl rfl rfl (qp rfl qic rfl rfl rfl rfl) (r_d rfl rfl rfl (qw rfl rfl (by exact qdQ) rfl) (r_d rfl rfl rfl (qbP (f := encT) f_a1.f0_Goal.ts rfl qfh rfl (asl rfl)) (r_d rfl rfl rfl (qX rfl rfl rfl rfl) (r_d rfl rfl rfl (qG rfl rfl rfl) (r_d rfl rfl rfl (qv rfl rfl) (r_d rfl rfl rfl (qo rfl qD rfl) (qaa rfl rfl rfl (qV _ rfl rfl rfl (Wk.refl _) (pf0 _) rfl rfl (by exact qbm) rfl rfl rfl) (ql ?_)))))))))
      obtain rfl := Option.some.inj hr
      refine qfd Tryz.func59 _ .nil ?_
      exact ⟨rfl, rfl⟩
noncomputable def qcC (k : (qa) → Option (qa)) (fuel : Nat) : List qL → qa → Option (qa)
  | [], w_4 =>
  (k w_4)
  | q_6 :: rest, w_4 =>
  ((qct fuel q_6 w_4).bind fun r_8 =>
  (qcC k fuel rest r_8))
noncomputable def qe5 (fuel : Nat) (l_a1 : (List qL)) (most_a2 : Int) (c_0 : qa) : Option (qa) :=
  ((qt (l_a1.length : Int) 0 most_a2 c_0).bind fun r_1 =>
  (bif r_1.f1_bad then
  some (r_1)
  else
  (qcC (fun w_5 =>
  some (w_5)) fuel l_a1 r_1)))
set_option maxHeartbeats 1000000 in
theorem qkY (fuel : Nat) (l_a1 : (List qL)) (most_a2 : Int) (c_0 : qa) (b_o0 : Nat) (res : qa) (hr : qe5 fuel l_a1 most_a2 c_0 = some res) : Spec Tryz.prog 58 [.ref b_o0 0 [], .lst (l_a1.map qz), .int .i64 most_a2, .clo (.func 59) [.ref b_o0 0 []] []] [.cell b_o0 (qf c_0)] (fun d σ => d = .tup [] ∧ σ = [.cell b_o0 (qf res)]) := by
  unfold qe5 at hr
  refine qag [(0, .ref b_o0 0 []), (1, .lst (l_a1.map qz)), (2, .int .i64 most_a2), (3, .clo (.func 59) [.ref b_o0 0 []] [])] Tryz.func58 rfl rfl fun K hK => (qk (gr [.d, .d, .d, .d, .w] (r_d rfl rfl rfl (qe rfl rfl) (r_d rfl rfl rfl (qe rfl rfl) (r_d rfl rfl rfl (qbP (f := qz) l_a1 rfl qbf rfl (asl rfl)) (r_d rfl rfl rfl (qe rfl rfl) ?_))))))
  obtain ⟨r_1, hr_1, hr⟩ := bindS hr
  refine r_w rfl rfl rfl (qF _ rfl qA (.oc rfl (.oc rfl (.oc rfl (.oc rfl .nil)))) (by exact (pf0 _)) (qu _ _ _ _ _ _ hr_1)) ?_
  rintro _ _ ⟨_, ⟨rfl, rfl⟩, rfl⟩
  refine r_st ((.cell b_o0 (qf r_1)) :: _) rfl (ql (qk (qk (gr [.d, .d, .d, .r] (r_d rfl rfl rfl (qe rfl rfl) (r_d rfl rfl rfl (qv rfl rfl) (r_d rfl rfl rfl (qo rfl qD rfl) (r_r rfl rfl rfl (qx rfl rfl (.head _) rfl rfl (by exact qbm) rfl) (ql ?_)))))))))
  refine g_sB 18 rfl hr (fun h18_1 hr => ?_) (fun h18_1 hr => ?_)
  ·
   refine qC rfl ?_
   obtain rfl := Option.some.inj hr
   refine q9 Tryz.func58 _ .nil ?_
   exact ⟨rfl, rfl⟩
  ·
   refine qB rfl (qab (qk (gr [.d, .d, .d] (r_d rfl rfl rfl (qe rfl rfl) (r_d rfl rfl rfl (qbP (f := qz) l_a1 rfl qbf rfl (asl rfl)) (r_d rfl rfl rfl (qe rfl rfl) (ql ?_)))))))
   obtain ⟨kk0, hkk0, hr⟩ := exK (fun k => qcC k fuel l_a1 r_1) hr
   refine qiz 1 rfl (asl rfl) fun hla0 => ?_
   simp only [List.length_map] at hla0
   refine qbe (fun env σ => ∃ (w_5 : qa), env = [] ∧ σ = [.cell b_o0 (qf w_5)] ∧ kk0 w_5 = some res) ?_ (fun HK0 => ?_)
   ·
    rintro _ _ ⟨w_5, rfl, rfl, hr⟩
    rw [hkk0] at hr
    obtain rfl := Option.some.inj hr
    refine qfd Tryz.func58 _ .nil ?_
    exact ⟨rfl, rfl⟩
   ·
    refine qan [(3, .clo (.func 59) [.ref b_o0 0 []] []), (19, .lst (l_a1.map qz)), (20, .int .i64 (l_a1.length : Int)), (21, .int .i64 ((0 : Nat) : Int))] (Sub.cons' rfl (Sub.cons' rfl (Sub.cons' rfl (Sub.cons' rfl (Sub.nil _))))) (qdb (fun n env σ => ∃ (i_3 : Nat) (w_4 : qa), (n = l_a1.length - i_3) ∧ (env = [(3, .clo (.func 59) [.ref b_o0 0 []] []), (19, .lst (l_a1.map qz)), (20, .int .i64 (l_a1.length : Int)), (21, .int .i64 (i_3 : Int))]) ∧ (σ = [.cell b_o0 (qf w_4)]) ∧ (i_3 ≤ l_a1.length) ∧ (qcC kk0 fuel (l_a1.drop i_3) w_4 = some res)) _ ⟨0, r_1, rfl, rfl, rfl, Nat.zero_le _, hr⟩ ?_)
    rintro n _ _ ⟨i_3, w_4, rfl, rfl, rfl, hi0, hr⟩ IH0
    rcases listStep l_a1 i_3 hi0 with ⟨ht0, hd0, he0⟩ | ⟨q_6, ht0, hd0, hq0, hlt0⟩
    ·
     rw [hd0, qcC] at hr
     refine qk (gr [.d] (r_d rfl rfl rfl (qX rfl rfl rfl rfl) (ql (qk (qbg 22 false rfl ht0 (qB rfl (qbC rfl (qan [] (Sub.nil _) ?_))))))))
     exact HK0 _ _ ⟨w_4, rfl, rfl, hr⟩
    ·
     rw [hd0, qcC] at hr
     refine qk (gr [.d] (r_d rfl rfl rfl (qX rfl rfl rfl rfl) (ql (qk (qbg 22 true rfl ht0 (qC rfl (qab (qk (qbi (qk (gr [.d, .d, .w, .w] ?_)))))))))))
     refine r_d rfl rfl rfl (qbH (f := qz) l_a1 rfl qbf rfl (asl rfl) rfl hq0 qbM rfl) (r_d rfl rfl rfl (qw rfl rfl (by exact qch) (qbM _)) (r_w rfl rfl rfl (qau rfl qi7) ?_))
     rintro _ _ ⟨b9_6, rfl, rfl⟩
     refine qaa rfl rfl rfl (qK _ rfl rfl rfl (Wk.refl _) (pf0 _) (by exact qch) (qbM _) (by simp [sz, szs, qbx, qbh]) rfl) (ql (qap 9 b9_6 rfl (pf0 _) (gr [.d, .d, .w] (r_d rfl rfl rfl (qe rfl rfl) (r_d rfl rfl rfl (qw rfl rfl (by exact qch) (qbM _)) ?_)))))
     obtain ⟨r_8, hr_8, hr⟩ := bindS hr
     refine r_w rfl rfl rfl (qd9 _ rfl rfl qja (.oc rfl .nil) rfl (by exact (pf0 _)) (qij fuel _ _ _ _ hr_8)) ?_
     rintro _ _ ⟨_, ⟨rfl, rfl⟩, rfl⟩
     refine r_st ((.cell b_o0 (qf r_8)) :: _) rfl (ql (qac (gr [.d, .d] (r_d rfl rfl rfl (s_ar (r := ((i_3 + 1 : Nat) : Int)) rfl rfl rfl (by simp [iar]) (by omega)) (r_d rfl rfl rfl (qe rfl rfl) (ql (qan [(3, .clo (.func 59) [.ref b_o0 0 []] []), (19, .lst (l_a1.map qz)), (20, .int .i64 (l_a1.length : Int)), (21, .int .i64 ((i_3 + 1 : Nat) : Int))] (Sub.cons' rfl (Sub.cons' rfl (Sub.cons' rfl (Sub.cons' rfl (Sub.nil _))))) ?_)))))))
     exact IH0 _ _ _ (by omega) ⟨(i_3 + 1), r_8, rfl, rfl, rfl, (by omega), hr⟩
noncomputable def qdx (fuel : Nat) (i_a0 : (Int × At)) (c_0 : qa) : Option (qa) :=
  ((qt i_a0.1 0 2147483648 c_0).bind fun r_1 =>
  ((qbK fuel i_a0.2 r_1).bind fun r_2 =>
  some (r_2)))
set_option maxHeartbeats 1000000 in
theorem qjz (fuel : Nat) (i_a0 : (Int × At)) (c_0 : qa) (b_o0 : Nat) (res : qa) (hr : qdx fuel i_a0 c_0 = some res) : Spec Tryz.prog 61 [encIt i_a0, .ptr (.ref b_o0 0 [])] [.cell b_o0 (qf c_0)] (fun d σ => d = .tup [] ∧ σ = [.cell b_o0 (qf res)]) := by
  unfold qdx at hr
  refine qag [(0, encIt i_a0), (1, .ptr (.ref b_o0 0 []))] Tryz.func61 rfl rfl fun K hK => (qk (gr [.d] (r_d rfl rfl rfl (qgF rfl rfl rfl) (ql (qk (gr [.d, .d, .d, .w] (r_d rfl rfl rfl (qw rfl rfl (by exact qJ) rfl) (r_d rfl rfl rfl (qp rfl qii rfl rfl rfl rfl) (r_d rfl rfl rfl (qw rfl rfl (by exact qaF) rfl) ?_)))))))))
  obtain ⟨r_1, hr_1, hr⟩ := bindS hr
  refine r_w rfl rfl rfl (qF _ rfl qA (.oc rfl (.oc rfl (.oc rfl (.oc rfl .nil)))) (by exact (pf0 _)) (qu _ _ _ _ _ _ hr_1)) ?_
  rintro _ _ ⟨_, ⟨rfl, rfl⟩, rfl⟩
  refine r_st ((.cell b_o0 (qf r_1)) :: _) rfl (ql (gr [.d, .d, .d, .w] (r_d rfl rfl rfl (qw rfl rfl (by exact qJ) rfl) (r_d rfl rfl rfl (qp rfl qhw rfl rfl rfl rfl) (r_d rfl rfl rfl (qw rfl rfl (by exact qbN) (qbA _)) ?_)))))
  obtain ⟨r_2, hr_2, hr⟩ := bindS hr
  refine r_w rfl rfl rfl (qF _ rfl qfB (.oc rfl (.oc rfl .nil)) (by exact (pf0 _)) (qeW fuel _ _ _ _ hr_2)) ?_
  rintro _ _ ⟨_, ⟨rfl, rfl⟩, rfl⟩
  refine r_st ((.cell b_o0 (qf r_2)) :: _) rfl (ql ?_)
  obtain rfl := Option.some.inj hr
  refine qfd Tryz.func61 _ .nil ?_
  exact ⟨rfl, rfl⟩
noncomputable def qcA (k : (qa) → Option (qa)) (fuel : Nat) : List (Int × At) → qa → Option (qa)
  | [], w_4 =>
  (k w_4)
  | q_6 :: rest, w_4 =>
  ((qdx fuel q_6 w_4).bind fun r_8 =>
  (qcA k fuel rest r_8))
noncomputable def qeV (fuel : Nat) (l_a1 : (List (Int × At))) (most_a2 : Int) (c_0 : qa) : Option (qa) :=
  ((qt (l_a1.length : Int) 0 most_a2 c_0).bind fun r_1 =>
  (bif r_1.f1_bad then
  some (r_1)
  else
  (qcA (fun w_5 =>
  some (w_5)) fuel l_a1 r_1)))
set_option maxHeartbeats 1000000 in
theorem qkI (fuel : Nat) (l_a1 : (List (Int × At))) (most_a2 : Int) (c_0 : qa) (b_o0 : Nat) (res : qa) (hr : qeV fuel l_a1 most_a2 c_0 = some res) : Spec Tryz.prog 60 [.ref b_o0 0 [], .lst (l_a1.map encIt), .int .i64 most_a2, .clo (.func 61) [] [.ptr (.ref b_o0 0 [])]] [.cell b_o0 (qf c_0)] (fun d σ => d = .tup [] ∧ σ = [.cell b_o0 (qf res)]) := by
  unfold qeV at hr
  refine qag [(0, .ref b_o0 0 []), (1, .lst (l_a1.map encIt)), (2, .int .i64 most_a2), (3, .clo (.func 61) [] [.ptr (.ref b_o0 0 [])])] Tryz.func60 rfl rfl fun K hK => (qk (gr [.d, .d, .d, .d, .w] (r_d rfl rfl rfl (qe rfl rfl) (r_d rfl rfl rfl (qe rfl rfl) (r_d rfl rfl rfl (qbP (f := encIt) l_a1 rfl qc9 rfl (asl rfl)) (r_d rfl rfl rfl (qe rfl rfl) ?_))))))
  obtain ⟨r_1, hr_1, hr⟩ := bindS hr
  refine r_w rfl rfl rfl (qF _ rfl qA (.oc rfl (.oc rfl (.oc rfl (.oc rfl .nil)))) (by exact (pf0 _)) (qu _ _ _ _ _ _ hr_1)) ?_
  rintro _ _ ⟨_, ⟨rfl, rfl⟩, rfl⟩
  refine r_st ((.cell b_o0 (qf r_1)) :: _) rfl (ql (qk (qk (gr [.d, .d, .d, .r] (r_d rfl rfl rfl (qe rfl rfl) (r_d rfl rfl rfl (qv rfl rfl) (r_d rfl rfl rfl (qo rfl qD rfl) (r_r rfl rfl rfl (qx rfl rfl (.head _) rfl rfl (by exact qbm) rfl) (ql ?_)))))))))
  refine g_sB 18 rfl hr (fun h18_1 hr => ?_) (fun h18_1 hr => ?_)
  ·
   refine qC rfl ?_
   obtain rfl := Option.some.inj hr
   refine q9 Tryz.func60 _ .nil ?_
   exact ⟨rfl, rfl⟩
  ·
   refine qB rfl (qab (qk (gr [.d, .d, .d] (r_d rfl rfl rfl (qe rfl rfl) (r_d rfl rfl rfl (qbP (f := encIt) l_a1 rfl qc9 rfl (asl rfl)) (r_d rfl rfl rfl (qe rfl rfl) (ql ?_)))))))
   obtain ⟨kk0, hkk0, hr⟩ := exK (fun k => qcA k fuel l_a1 r_1) hr
   refine qiz 1 rfl (asl rfl) fun hla0 => ?_
   simp only [List.length_map] at hla0
   refine qbe (fun env σ => ∃ (w_5 : qa), env = [] ∧ σ = [.cell b_o0 (qf w_5)] ∧ kk0 w_5 = some res) ?_ (fun HK0 => ?_)
   ·
    rintro _ _ ⟨w_5, rfl, rfl, hr⟩
    rw [hkk0] at hr
    obtain rfl := Option.some.inj hr
    refine qfd Tryz.func60 _ .nil ?_
    exact ⟨rfl, rfl⟩
   ·
    refine qan [(3, .clo (.func 61) [] [.ptr (.ref b_o0 0 [])]), (19, .lst (l_a1.map encIt)), (20, .int .i64 (l_a1.length : Int)), (21, .int .i64 ((0 : Nat) : Int))] (Sub.cons' rfl (Sub.cons' rfl (Sub.cons' rfl (Sub.cons' rfl (Sub.nil _))))) (qdb (fun n env σ => ∃ (i_3 : Nat) (w_4 : qa), (n = l_a1.length - i_3) ∧ (env = [(3, .clo (.func 61) [] [.ptr (.ref b_o0 0 [])]), (19, .lst (l_a1.map encIt)), (20, .int .i64 (l_a1.length : Int)), (21, .int .i64 (i_3 : Int))]) ∧ (σ = [.cell b_o0 (qf w_4)]) ∧ (i_3 ≤ l_a1.length) ∧ (qcA kk0 fuel (l_a1.drop i_3) w_4 = some res)) _ ⟨0, r_1, rfl, rfl, rfl, Nat.zero_le _, hr⟩ ?_)
    rintro n _ _ ⟨i_3, w_4, rfl, rfl, rfl, hi0, hr⟩ IH0
    rcases listStep l_a1 i_3 hi0 with ⟨ht0, hd0, he0⟩ | ⟨q_6, ht0, hd0, hq0, hlt0⟩
    ·
     rw [hd0, qcA] at hr
     refine qk (gr [.d] (r_d rfl rfl rfl (qX rfl rfl rfl rfl) (ql (qk (qbg 22 false rfl ht0 (qB rfl (qbC rfl (qan [] (Sub.nil _) ?_))))))))
     exact HK0 _ _ ⟨w_4, rfl, rfl, hr⟩
    ·
     rw [hd0, qcA] at hr
     refine qk (gr [.d] (r_d rfl rfl rfl (qX rfl rfl rfl rfl) (ql (qk (qbg 22 true rfl ht0 (qC rfl (qab (qk (qbi (qk (gr [.d, .d, .w, .w] ?_)))))))))))
     refine r_d rfl rfl rfl (qbH (f := encIt) l_a1 rfl qc9 rfl (asl rfl) rfl hq0 qgE rfl) (r_d rfl rfl rfl (qw rfl rfl (by exact qgi) (qgE _)) (r_w rfl rfl rfl (qau rfl qjV) ?_))
     rintro _ _ ⟨b9_6, rfl, rfl⟩
     refine qaa rfl rfl rfl (qK _ rfl rfl rfl (Wk.refl _) (pf0 _) (by exact qgi) (qgE _) (by simp [sz, szs, qbx, qbA]) rfl) (ql (qap 9 b9_6 rfl (pf0 _) (gr [.d, .d, .w] (r_d rfl rfl rfl (qe rfl rfl) (r_d rfl rfl rfl (qw rfl rfl (by exact qgi) (qgE _)) ?_)))))
     obtain ⟨r_8, hr_8, hr⟩ := bindS hr
     refine r_w rfl rfl rfl (qd9 _ rfl rfl qkC (.oc rfl .nil) rfl (by exact (pf0 _)) (qjz fuel _ _ _ _ hr_8)) ?_
     rintro _ _ ⟨_, ⟨rfl, rfl⟩, rfl⟩
     refine r_st ((.cell b_o0 (qf r_8)) :: _) rfl (ql (qac (gr [.d, .d] (r_d rfl rfl rfl (s_ar (r := ((i_3 + 1 : Nat) : Int)) rfl rfl rfl (by simp [iar]) (by omega)) (r_d rfl rfl rfl (qe rfl rfl) (ql (qan [(3, .clo (.func 61) [] [.ptr (.ref b_o0 0 [])]), (19, .lst (l_a1.map encIt)), (20, .int .i64 (l_a1.length : Int)), (21, .int .i64 ((i_3 + 1 : Nat) : Int))] (Sub.cons' rfl (Sub.cons' rfl (Sub.cons' rfl (Sub.cons' rfl (Sub.nil _))))) ?_)))))))
     exact IH0 _ _ _ (by omega) ⟨(i_3 + 1), r_8, rfl, rfl, rfl, (by omega), hr⟩
noncomputable def qdC (fuel : Nat) (b_a0 : (Int × T)) (c_0 : qa) : Option (qa) :=
  ((qt b_a0.1 0 1048576 c_0).bind fun r_1 =>
  (bif r_1.f1_bad then
  (bif (!true) then
  ((qdq fuel b_a0.2 (⟨r_1.f0_b, true⟩ : qa)).bind fun r_4 =>
  some (r_4))
  else
  some ((⟨r_1.f0_b, true⟩ : qa)))
  else
  ((qkt b_a0.2).bind fun r_5 =>
  (bif (!(!r_5)) then
  ((qdq fuel b_a0.2 (⟨r_1.f0_b, (!r_5)⟩ : qa)).bind fun r_7 =>
  some (r_7))
  else
  some ((⟨r_1.f0_b, (!r_5)⟩ : qa))))))
set_option maxHeartbeats 1000000 in
theorem qj8 (fuel : Nat) (b_a0 : (Int × T)) (c_0 : qa) (b_o0 : Nat) (res : qa) (hr : qdC fuel b_a0 c_0 = some res) : Spec Tryz.prog 64 [encP b_a0, .ptr (.ref b_o0 0 [])] [.cell b_o0 (qf c_0)] (fun d σ => d = .tup [] ∧ σ = [.cell b_o0 (qf res)]) := by
  unfold qdC at hr
  refine qag [(0, encP b_a0), (1, .ptr (.ref b_o0 0 []))] Tryz.func64 rfl rfl fun K hK => (qk (gr [.d] (r_d rfl rfl rfl (qgF rfl rfl rfl) (ql (qk (gr [.d, .d, .d, .w] (r_d rfl rfl rfl (qw rfl rfl (by exact qJ) rfl) (r_d rfl rfl rfl (qp rfl qjG rfl rfl rfl rfl) (r_d rfl rfl rfl (qw rfl rfl (by exact qaF) rfl) ?_)))))))))
  obtain ⟨r_1, hr_1, hr⟩ := bindS hr
  refine r_w rfl rfl rfl (qF _ rfl qA (.oc rfl (.oc rfl (.oc rfl (.oc rfl .nil)))) (by exact (pf0 _)) (qu _ _ _ _ _ _ hr_1)) ?_
  rintro _ _ ⟨_, ⟨rfl, rfl⟩, rfl⟩
  refine r_st ((.cell b_o0 (qf r_1)) :: _) rfl (ql (qk (ga [(0, .d), (1, .d), (2, .d), (3, .d), (4, .r), (5, .d), (6, .d), (7, .d), (8, .d), (9, .d), (10, .d), (11, .d), (12, .d), (13, .w)] (r_d rfl rfl rfl (qw rfl rfl (by exact qJ) rfl) (r_d rfl rfl rfl (qw rfl rfl (by exact qJ) rfl) (r_d rfl rfl rfl (qv rfl rfl) (r_d rfl rfl rfl (qo rfl qD rfl) (r_r rfl rfl rfl (qx rfl rfl (.head _) rfl rfl (by exact qbm) rfl) (r_d rfl rfl rfl (qe rfl rfl) ?_)))))))))
  refine r_sB 12 rfl hr (fun h12_1 hr => ?_) (fun h12_1 hr => ?_)
  ·
   refine qh rfl rfl rfl (qh rfl rfl rfl (qh rfl rfl rfl (qh rfl rfl rfl (r_d rfl rfl rfl (qP rfl rfl rfl) (r_d rfl rfl rfl (qv rfl rfl) (r_d rfl rfl rfl (qo rfl qD rfl) (qaa rfl rfl rfl (qV _ rfl rfl rfl (Wk.refl _) (pf0 _) rfl rfl (by exact qbm) rfl rfl rfl) (ql (qk (gr [.d, .d, .d, .r, .d] (r_d rfl rfl rfl (qw rfl rfl (by exact qJ) rfl) ?_)))))))))))
   refine r_d rfl rfl rfl (qv rfl rfl) (r_d rfl rfl rfl (qo rfl qD rfl) (r_r rfl rfl rfl (qx rfl rfl (.head _) rfl rfl (by exact qbm) rfl) (r_d rfl rfl rfl (qfZ rfl rfl) (ql ?_))))
   refine g_sB 24 rfl hr (fun h24_2 hr => ?_) (fun h24_2 hr => ?_)
   ·
    refine qC rfl (gr [.d, .d, .d, .w] (r_d rfl rfl rfl (qw rfl rfl (by exact qJ) rfl) (r_d rfl rfl rfl (qp rfl qfJ rfl rfl rfl rfl) (r_d rfl rfl rfl (qw rfl rfl (by exact qQ) (qee _)) ?_))))
    obtain ⟨r_4, hr_4, hr⟩ := bindS hr
    refine r_w rfl rfl rfl (qF _ rfl qfC (.oc rfl (.oc rfl .nil)) (by exact (pf0 _)) (qgx fuel _ _ _ _ hr_4)) ?_
    rintro _ _ ⟨_, ⟨rfl, rfl⟩, rfl⟩
    refine r_st ((.cell b_o0 (qf r_4)) :: _) rfl (ql ?_)
    obtain rfl := Option.some.inj hr
    refine qfd Tryz.func64 _ .nil ?_
    exact ⟨rfl, rfl⟩
   ·
    refine qB rfl (qab ?_)
    obtain rfl := Option.some.inj hr
    refine qfd Tryz.func64 _ .nil ?_
    exact ⟨rfl, rfl⟩
  ·
   refine r_d rfl rfl rfl (qp rfl qfJ rfl rfl rfl rfl) (r_d rfl rfl rfl (qw rfl rfl (by exact qQ) (qee _)) ?_)
   obtain ⟨r_5, hr_5, hr⟩ := bindS hr
   refine r_d rfl rfl rfl (qal rfl qm9 (.oc rfl .nil) (qm7 _ _ hr_5)) (r_d rfl rfl rfl (qfZ rfl rfl) (r_d rfl rfl rfl (qG rfl rfl rfl) (r_d rfl rfl rfl (qv rfl rfl) (r_d rfl rfl rfl (qo rfl qD rfl) (qaa rfl rfl rfl (qV _ rfl rfl rfl (Wk.refl _) (pf0 _) rfl rfl (by exact qbm) rfl rfl rfl) (ql (qk (gr [.d, .d, .d, .r, .d] (r_d rfl rfl rfl (qw rfl rfl (by exact qJ) rfl) (r_d rfl rfl rfl (qv rfl rfl) (r_d rfl rfl rfl (qo rfl qD rfl) ?_)))))))))))
   refine r_r rfl rfl rfl (qx rfl rfl (.head _) rfl rfl (by exact qbm) rfl) (r_d rfl rfl rfl (qfZ rfl rfl) (ql ?_))
   refine g_sB 24 rfl hr (fun h24_5 hr => ?_) (fun h24_5 hr => ?_)
   ·
    refine qC rfl (gr [.d, .d, .d, .w] (r_d rfl rfl rfl (qw rfl rfl (by exact qJ) rfl) (r_d rfl rfl rfl (qp rfl qfJ rfl rfl rfl rfl) (r_d rfl rfl rfl (qw rfl rfl (by exact qQ) (qee _)) ?_))))
    obtain ⟨r_7, hr_7, hr⟩ := bindS hr
    refine r_w rfl rfl rfl (qF _ rfl qfC (.oc rfl (.oc rfl .nil)) (by exact (pf0 _)) (qgx fuel _ _ _ _ hr_7)) ?_
    rintro _ _ ⟨_, ⟨rfl, rfl⟩, rfl⟩
    refine r_st ((.cell b_o0 (qf r_7)) :: _) rfl (ql ?_)
    obtain rfl := Option.some.inj hr
    refine qfd Tryz.func64 _ .nil ?_
    exact ⟨rfl, rfl⟩
   ·
    refine qB rfl (qab ?_)
    obtain rfl := Option.some.inj hr
    refine qfd Tryz.func64 _ .nil ?_
    exact ⟨rfl, rfl⟩
noncomputable def qcM (k : (qa) → Option (qa)) (fuel : Nat) : List (Int × T) → qa → Option (qa)
  | [], w_4 =>
  (k w_4)
  | q_6 :: rest, w_4 =>
  ((qdC fuel q_6 w_4).bind fun r_8 =>
  (qcM k fuel rest r_8))
noncomputable def qfa (fuel : Nat) (l_a1 : (List (Int × T))) (most_a2 : Int) (c_0 : qa) : Option (qa) :=
  ((qt (l_a1.length : Int) 0 most_a2 c_0).bind fun r_1 =>
  (bif r_1.f1_bad then
  some (r_1)
  else
  (qcM (fun w_5 =>
  some (w_5)) fuel l_a1 r_1)))
set_option maxHeartbeats 1000000 in
theorem qkK (fuel : Nat) (l_a1 : (List (Int × T))) (most_a2 : Int) (c_0 : qa) (b_o0 : Nat) (res : qa) (hr : qfa fuel l_a1 most_a2 c_0 = some res) : Spec Tryz.prog 63 [.ref b_o0 0 [], .lst (l_a1.map encP), .int .i64 most_a2, .clo (.func 64) [] [.ptr (.ref b_o0 0 [])]] [.cell b_o0 (qf c_0)] (fun d σ => d = .tup [] ∧ σ = [.cell b_o0 (qf res)]) := by
  unfold qfa at hr
  refine qag [(0, .ref b_o0 0 []), (1, .lst (l_a1.map encP)), (2, .int .i64 most_a2), (3, .clo (.func 64) [] [.ptr (.ref b_o0 0 [])])] Tryz.func63 rfl rfl fun K hK => (qk (gr [.d, .d, .d, .d, .w] (r_d rfl rfl rfl (qe rfl rfl) (r_d rfl rfl rfl (qe rfl rfl) (r_d rfl rfl rfl (qbP (f := encP) l_a1 rfl qhr rfl (asl rfl)) (r_d rfl rfl rfl (qe rfl rfl) ?_))))))
  obtain ⟨r_1, hr_1, hr⟩ := bindS hr
  refine r_w rfl rfl rfl (qF _ rfl qA (.oc rfl (.oc rfl (.oc rfl (.oc rfl .nil)))) (by exact (pf0 _)) (qu _ _ _ _ _ _ hr_1)) ?_
  rintro _ _ ⟨_, ⟨rfl, rfl⟩, rfl⟩
  refine r_st ((.cell b_o0 (qf r_1)) :: _) rfl (ql (qk (qk (gr [.d, .d, .d, .r] (r_d rfl rfl rfl (qe rfl rfl) (r_d rfl rfl rfl (qv rfl rfl) (r_d rfl rfl rfl (qo rfl qD rfl) (r_r rfl rfl rfl (qx rfl rfl (.head _) rfl rfl (by exact qbm) rfl) (ql ?_)))))))))
  refine g_sB 18 rfl hr (fun h18_1 hr => ?_) (fun h18_1 hr => ?_)
  ·
   refine qC rfl ?_
   obtain rfl := Option.some.inj hr
   refine q9 Tryz.func63 _ .nil ?_
   exact ⟨rfl, rfl⟩
  ·
   refine qB rfl (qab (qk (gr [.d, .d, .d] (r_d rfl rfl rfl (qe rfl rfl) (r_d rfl rfl rfl (qbP (f := encP) l_a1 rfl qhr rfl (asl rfl)) (r_d rfl rfl rfl (qe rfl rfl) (ql ?_)))))))
   obtain ⟨kk0, hkk0, hr⟩ := exK (fun k => qcM k fuel l_a1 r_1) hr
   refine qiz 1 rfl (asl rfl) fun hla0 => ?_
   simp only [List.length_map] at hla0
   refine qbe (fun env σ => ∃ (w_5 : qa), env = [] ∧ σ = [.cell b_o0 (qf w_5)] ∧ kk0 w_5 = some res) ?_ (fun HK0 => ?_)
   ·
    rintro _ _ ⟨w_5, rfl, rfl, hr⟩
    rw [hkk0] at hr
    obtain rfl := Option.some.inj hr
    refine qfd Tryz.func63 _ .nil ?_
    exact ⟨rfl, rfl⟩
   ·
    refine qan [(3, .clo (.func 64) [] [.ptr (.ref b_o0 0 [])]), (19, .lst (l_a1.map encP)), (20, .int .i64 (l_a1.length : Int)), (21, .int .i64 ((0 : Nat) : Int))] (Sub.cons' rfl (Sub.cons' rfl (Sub.cons' rfl (Sub.cons' rfl (Sub.nil _))))) (qdb (fun n env σ => ∃ (i_3 : Nat) (w_4 : qa), (n = l_a1.length - i_3) ∧ (env = [(3, .clo (.func 64) [] [.ptr (.ref b_o0 0 [])]), (19, .lst (l_a1.map encP)), (20, .int .i64 (l_a1.length : Int)), (21, .int .i64 (i_3 : Int))]) ∧ (σ = [.cell b_o0 (qf w_4)]) ∧ (i_3 ≤ l_a1.length) ∧ (qcM kk0 fuel (l_a1.drop i_3) w_4 = some res)) _ ⟨0, r_1, rfl, rfl, rfl, Nat.zero_le _, hr⟩ ?_)
    rintro n _ _ ⟨i_3, w_4, rfl, rfl, rfl, hi0, hr⟩ IH0
    rcases listStep l_a1 i_3 hi0 with ⟨ht0, hd0, he0⟩ | ⟨q_6, ht0, hd0, hq0, hlt0⟩
    ·
     rw [hd0, qcM] at hr
     refine qk (gr [.d] (r_d rfl rfl rfl (qX rfl rfl rfl rfl) (ql (qk (qbg 22 false rfl ht0 (qB rfl (qbC rfl (qan [] (Sub.nil _) ?_))))))))
     exact HK0 _ _ ⟨w_4, rfl, rfl, hr⟩
    ·
     rw [hd0, qcM] at hr
     refine qk (gr [.d] (r_d rfl rfl rfl (qX rfl rfl rfl rfl) (ql (qk (qbg 22 true rfl ht0 (qC rfl (qab (qk (qbi (qk (gr [.d, .d, .w, .w] ?_)))))))))))
     refine r_d rfl rfl rfl (qbH (f := encP) l_a1 rfl qhr rfl (asl rfl) rfl hq0 qht rfl) (r_d rfl rfl rfl (qw rfl rfl (by exact qgq) (qht _)) (r_w rfl rfl rfl (qau rfl qk5) ?_))
     rintro _ _ ⟨b9_6, rfl, rfl⟩
     refine qaa rfl rfl rfl (qK _ rfl rfl rfl (Wk.refl _) (pf0 _) (by exact qgq) (qht _) (by simp [sz, szs, qbx, qee]) rfl) (ql (qap 9 b9_6 rfl (pf0 _) (gr [.d, .d, .w] (r_d rfl rfl rfl (qe rfl rfl) (r_d rfl rfl rfl (qw rfl rfl (by exact qgq) (qht _)) ?_)))))
     obtain ⟨r_8, hr_8, hr⟩ := bindS hr
     refine r_w rfl rfl rfl (qd9 _ rfl rfl qkz (.oc rfl .nil) rfl (by exact (pf0 _)) (qj8 fuel _ _ _ _ hr_8)) ?_
     rintro _ _ ⟨_, ⟨rfl, rfl⟩, rfl⟩
     refine r_st ((.cell b_o0 (qf r_8)) :: _) rfl (ql (qac (gr [.d, .d] (r_d rfl rfl rfl (s_ar (r := ((i_3 + 1 : Nat) : Int)) rfl rfl rfl (by simp [iar]) (by omega)) (r_d rfl rfl rfl (qe rfl rfl) (ql (qan [(3, .clo (.func 64) [] [.ptr (.ref b_o0 0 [])]), (19, .lst (l_a1.map encP)), (20, .int .i64 (l_a1.length : Int)), (21, .int .i64 ((i_3 + 1 : Nat) : Int))] (Sub.cons' rfl (Sub.cons' rfl (Sub.cons' rfl (Sub.cons' rfl (Sub.nil _))))) ?_)))))))
     exact IH0 _ _ _ (by omega) ⟨(i_3 + 1), r_8, rfl, rfl, rfl, (by omega), hr⟩
noncomputable def qdn (n_a0 : Int) (t2_a2 : Int) (c_0 : qa) : Option (qa) :=
  ((qt n_a0 0 t2_a2 c_0).bind fun r_1 =>
  some (r_1))
set_option maxHeartbeats 1000000 in
theorem qhD (n_a0 : Int) (t2_a2 : Int) (c_0 : qa) (b_o0 : Nat) (res : qa) (hr : qdn n_a0 t2_a2 c_0 = some res) : Spec Tryz.prog 156 [.int .i64 n_a0, .ptr (.ref b_o0 0 []), .ptr (.int .i64 t2_a2)] [.cell b_o0 (qf c_0)] (fun d σ => d = .tup [] ∧ σ = [.cell b_o0 (qf res)]) := by
  unfold qdn at hr
  refine qag [(0, .int .i64 n_a0), (1, .ptr (.ref b_o0 0 [])), (2, .ptr (.int .i64 t2_a2))] Tryz.func156 rfl rfl fun K hK => (gr [.d, .d, .d, .w] (r_d rfl rfl rfl (qw rfl rfl (by exact qJ) rfl) (r_d rfl rfl rfl (qe rfl rfl) (r_d rfl rfl rfl (qw rfl rfl (by exact qaF) rfl) ?_))))
  obtain ⟨r_1, hr_1, hr⟩ := bindS hr
  refine r_w rfl rfl rfl (qF _ rfl qA (.oc rfl (.oc rfl (.oc rfl (.oc rfl .nil)))) (by exact (pf0 _)) (qu _ _ _ _ _ _ hr_1)) ?_
  rintro _ _ ⟨_, ⟨rfl, rfl⟩, rfl⟩
  refine r_st ((.cell b_o0 (qf r_1)) :: _) rfl (ql ?_)
  obtain rfl := Option.some.inj hr
  refine qfd Tryz.func156 _ .nil ?_
  exact ⟨rfl, rfl⟩
noncomputable def qcj (k : (qa) → Option (qa)) (put_a3_c1 : Int) : List Int → qa → Option (qa)
  | [], w_4 =>
  (k w_4)
  | q_6 :: rest, w_4 =>
  ((qdn q_6 put_a3_c1 w_4).bind fun r_7 =>
  (qcj k put_a3_c1 rest r_7))
noncomputable def qfs (l_a1 : (List Int)) (most_a2 : Int) (put_a3_c1 : Int) (c_0 : qa) : Option (qa) :=
  ((qt (l_a1.length : Int) 0 most_a2 c_0).bind fun r_1 =>
  (bif r_1.f1_bad then
  some (r_1)
  else
  (qcj (fun w_5 =>
  some (w_5)) put_a3_c1 l_a1 r_1)))
set_option maxHeartbeats 1000000 in
theorem qkB (l_a1 : (List Int)) (most_a2 : Int) (put_a3_c1 : Int) (c_0 : qa) (b_o0 : Nat) (res : qa) (hr : qfs l_a1 most_a2 put_a3_c1 c_0 = some res) : Spec Tryz.prog 155 [.ref b_o0 0 [], .lst (l_a1.map (D.int .i64)), .int .i64 most_a2, .clo (.func 156) [] [.ptr (.ref b_o0 0 []), .ptr (.int .i64 put_a3_c1)]] [.cell b_o0 (qf c_0)] (fun d σ => d = .tup [] ∧ σ = [.cell b_o0 (qf res)]) := by
  unfold qfs at hr
  refine qag [(0, .ref b_o0 0 []), (1, .lst (l_a1.map (D.int .i64))), (2, .int .i64 most_a2), (3, .clo (.func 156) [] [.ptr (.ref b_o0 0 []), .ptr (.int .i64 put_a3_c1)])] Tryz.func155 rfl rfl fun K hK => (qk (gr [.d, .d, .d, .d, .w] (r_d rfl rfl rfl (qe rfl rfl) (r_d rfl rfl rfl (qe rfl rfl) (r_d rfl rfl rfl (qbP (f := (D.int .i64)) l_a1 rfl qdz rfl (asl rfl)) (r_d rfl rfl rfl (qe rfl rfl) ?_))))))
  obtain ⟨r_1, hr_1, hr⟩ := bindS hr
  refine r_w rfl rfl rfl (qF _ rfl qA (.oc rfl (.oc rfl (.oc rfl (.oc rfl .nil)))) (by exact (pf0 _)) (qu _ _ _ _ _ _ hr_1)) ?_
  rintro _ _ ⟨_, ⟨rfl, rfl⟩, rfl⟩
  refine r_st ((.cell b_o0 (qf r_1)) :: _) rfl (ql (qk (qk (gr [.d, .d, .d, .r] (r_d rfl rfl rfl (qe rfl rfl) (r_d rfl rfl rfl (qv rfl rfl) (r_d rfl rfl rfl (qo rfl qD rfl) (r_r rfl rfl rfl (qx rfl rfl (.head _) rfl rfl (by exact qbm) rfl) (ql ?_)))))))))
  refine g_sB 18 rfl hr (fun h18_1 hr => ?_) (fun h18_1 hr => ?_)
  ·
   refine qC rfl ?_
   obtain rfl := Option.some.inj hr
   refine q9 Tryz.func155 _ .nil ?_
   exact ⟨rfl, rfl⟩
  ·
   refine qB rfl (qab (qk (gr [.d, .d, .d] (r_d rfl rfl rfl (qe rfl rfl) (r_d rfl rfl rfl (qbP (f := (D.int .i64)) l_a1 rfl qdz rfl (asl rfl)) (r_d rfl rfl rfl (qe rfl rfl) (ql ?_)))))))
   obtain ⟨kk0, hkk0, hr⟩ := exK (fun k => qcj k put_a3_c1 l_a1 r_1) hr
   refine qiz 1 rfl (asl rfl) fun hla0 => ?_
   simp only [List.length_map] at hla0
   refine qbe (fun env σ => ∃ (w_5 : qa), env = [] ∧ σ = [.cell b_o0 (qf w_5)] ∧ kk0 w_5 = some res) ?_ (fun HK0 => ?_)
   ·
    rintro _ _ ⟨w_5, rfl, rfl, hr⟩
    rw [hkk0] at hr
    obtain rfl := Option.some.inj hr
    refine qfd Tryz.func155 _ .nil ?_
    exact ⟨rfl, rfl⟩
   ·
    refine qan [(3, .clo (.func 156) [] [.ptr (.ref b_o0 0 []), .ptr (.int .i64 put_a3_c1)]), (19, .lst (l_a1.map (D.int .i64))), (20, .int .i64 (l_a1.length : Int)), (21, .int .i64 ((0 : Nat) : Int))] (Sub.cons' rfl (Sub.cons' rfl (Sub.cons' rfl (Sub.cons' rfl (Sub.nil _))))) (qdb (fun n env σ => ∃ (i_3 : Nat) (w_4 : qa), (n = l_a1.length - i_3) ∧ (env = [(3, .clo (.func 156) [] [.ptr (.ref b_o0 0 []), .ptr (.int .i64 put_a3_c1)]), (19, .lst (l_a1.map (D.int .i64))), (20, .int .i64 (l_a1.length : Int)), (21, .int .i64 (i_3 : Int))]) ∧ (σ = [.cell b_o0 (qf w_4)]) ∧ (i_3 ≤ l_a1.length) ∧ (qcj kk0 put_a3_c1 (l_a1.drop i_3) w_4 = some res)) _ ⟨0, r_1, rfl, rfl, rfl, Nat.zero_le _, hr⟩ ?_)
    rintro n _ _ ⟨i_3, w_4, rfl, rfl, rfl, hi0, hr⟩ IH0
    rcases listStep l_a1 i_3 hi0 with ⟨ht0, hd0, he0⟩ | ⟨q_6, ht0, hd0, hq0, hlt0⟩
    ·
     rw [hd0, qcj] at hr
     refine qk (gr [.d] (r_d rfl rfl rfl (qX rfl rfl rfl rfl) (ql (qk (qbg 22 false rfl ht0 (qB rfl (qbC rfl (qan [] (Sub.nil _) ?_))))))))
     exact HK0 _ _ ⟨w_4, rfl, rfl, hr⟩
    ·
     rw [hd0, qcj] at hr
     refine qk (gr [.d] (r_d rfl rfl rfl (qX rfl rfl rfl rfl) (ql (qk (qbg 22 true rfl ht0 (qC rfl (qab (qk (qbi (qk (gr [.d, .d, .d] ?_)))))))))))
     refine r_d rfl rfl rfl (qbH (f := (D.int .i64)) l_a1 rfl qdz rfl (asl rfl) rfl hq0 (fun _ => rfl) rfl) (r_d rfl rfl rfl (qw rfl rfl (by exact qaF) rfl) (r_d rfl rfl rfl (qj rfl rfl) (ql (gr [.d, .d, .w] (r_d rfl rfl rfl (qe rfl rfl) (r_d rfl rfl rfl (qe rfl rfl) ?_))))))
     obtain ⟨r_7, hr_7, hr⟩ := bindS hr
     refine r_w rfl rfl rfl (qd9 _ rfl rfl qh4 (.oc rfl .nil) rfl (by exact (pf0 _)) (qhD _ _ _ _ _ hr_7)) ?_
     rintro _ _ ⟨_, ⟨rfl, rfl⟩, rfl⟩
     refine r_st ((.cell b_o0 (qf r_7)) :: _) rfl (ql (qac (gr [.d, .d] (r_d rfl rfl rfl (s_ar (r := ((i_3 + 1 : Nat) : Int)) rfl rfl rfl (by simp [iar]) (by omega)) (r_d rfl rfl rfl (qe rfl rfl) (ql (qan [(3, .clo (.func 156) [] [.ptr (.ref b_o0 0 []), .ptr (.int .i64 put_a3_c1)]), (19, .lst (l_a1.map (D.int .i64))), (20, .int .i64 (l_a1.length : Int)), (21, .int .i64 ((i_3 + 1 : Nat) : Int))] (Sub.cons' rfl (Sub.cons' rfl (Sub.cons' rfl (Sub.cons' rfl (Sub.nil _))))) ?_)))))))
     exact IH0 _ _ _ (by omega) ⟨(i_3 + 1), r_7, rfl, rfl, rfl, (by omega), hr⟩
noncomputable def qaL (l_a1 : (List Int)) (most_a2 : Int) (high_a3 : Int) (c_0 : qa) : Option (qa) :=
  ((qfs l_a1 most_a2 high_a3 c_0).bind fun r_1 =>
  some (r_1))
set_option maxHeartbeats 1000000 in
theorem qb5 (l_a1 : (List Int)) (most_a2 : Int) (high_a3 : Int) (c_0 : qa) (b_o0 : Nat) (res : qa) (hr : qaL l_a1 most_a2 high_a3 c_0 = some res) : Spec Tryz.prog 69 [.ref b_o0 0 [], .lst (l_a1.map (D.int .i64)), .int .i64 most_a2, .int .i64 high_a3] [.cell b_o0 (qf c_0)] (fun d σ => d = .tup [] ∧ σ = [.cell b_o0 (qf res)]) := by
  unfold qaL at hr
  refine qag [(0, .ref b_o0 0 []), (1, .lst (l_a1.map (D.int .i64))), (2, .int .i64 most_a2), (3, .int .i64 high_a3)] Tryz.func69 rfl rfl fun K hK => (qk (gr [.d, .d] (r_d rfl rfl rfl (qgF rfl rfl rfl) (r_d rfl rfl rfl (qgF rfl rfl rfl) (ql (gr [.d, .d, .d, .d, .w] (r_d rfl rfl rfl (qw rfl rfl (by exact qJ) rfl) (r_d rfl rfl rfl (qe rfl rfl) (r_d rfl rfl rfl (qe rfl rfl) (r_d rfl rfl rfl (qbz rfl rfl rfl) ?_))))))))))
  obtain ⟨r_1, hr_1, hr⟩ := bindS hr
  refine r_w rfl rfl rfl (qF _ rfl qkD (.oc rfl (.oc rfl (.oc rfl (.oc rfl .nil)))) (by exact (pf0 _)) (qkB _ _ _ _ _ _ hr_1)) ?_
  rintro _ _ ⟨_, ⟨rfl, rfl⟩, rfl⟩
  refine r_st ((.cell b_o0 (qf r_1)) :: _) rfl (ql ?_)
  obtain rfl := Option.some.inj hr
  refine qfd Tryz.func69 _ .nil ?_
  exact ⟨rfl, rfl⟩
noncomputable def qdy (f_a0 : qY) (c_0 : qa) : Option (qa) :=
  ((qt f_a0.f0_Rule 0 40 c_0).bind fun r_1 =>
  ((qaL f_a0.f1_IDs 4 2147483648 r_1).bind fun r_2 =>
  some (r_2)))
set_option maxHeartbeats 1000000 in
theorem qjy (f_a0 : qY) (c_0 : qa) (b_o0 : Nat) (res : qa) (hr : qdy f_a0 c_0 = some res) : Spec Tryz.prog 68 [qy f_a0, .ptr (.ref b_o0 0 [])] [.cell b_o0 (qf c_0)] (fun d σ => d = .tup [] ∧ σ = [.cell b_o0 (qf res)]) := by
  unfold qdy at hr
  refine qag [(0, qy f_a0), (1, .ptr (.ref b_o0 0 []))] Tryz.func68 rfl rfl fun K hK => (qk (gr [.d] (r_d rfl rfl rfl (qgF rfl rfl rfl) (ql (qk (gr [.d, .d, .d, .w] (r_d rfl rfl rfl (qw rfl rfl (by exact qJ) rfl) (r_d rfl rfl rfl (qp rfl qjI rfl rfl rfl rfl) (r_d rfl rfl rfl (qw rfl rfl (by exact qaF) rfl) ?_)))))))))
  obtain ⟨r_1, hr_1, hr⟩ := bindS hr
  refine r_w rfl rfl rfl (qF _ rfl qA (.oc rfl (.oc rfl (.oc rfl (.oc rfl .nil)))) (by exact (pf0 _)) (qu _ _ _ _ _ _ hr_1)) ?_
  rintro _ _ ⟨_, ⟨rfl, rfl⟩, rfl⟩
  refine r_st ((.cell b_o0 (qf r_1)) :: _) rfl (ql (gr [.d, .d, .d, .w] (r_d rfl rfl rfl (qw rfl rfl (by exact qJ) rfl) (r_d rfl rfl rfl (qp rfl qeK rfl rfl rfl rfl) (r_d rfl rfl rfl (qw rfl rfl (by exact qcR) rfl) ?_)))))
  obtain ⟨r_2, hr_2, hr⟩ := bindS hr
  refine r_w rfl rfl rfl (qF _ rfl qcV (.oc rfl (.oc rfl (.oc rfl (.oc rfl .nil)))) (by exact (pf0 _)) (qb5 _ _ _ _ _ _ hr_2)) ?_
  rintro _ _ ⟨_, ⟨rfl, rfl⟩, rfl⟩
  refine r_st ((.cell b_o0 (qf r_2)) :: _) rfl (ql ?_)
  obtain rfl := Option.some.inj hr
  refine qfd Tryz.func68 _ .nil ?_
  exact ⟨rfl, rfl⟩
noncomputable def qcO (k : (qa) → Option (qa)) : List qY → qa → Option (qa)
  | [], w_4 =>
  (k w_4)
  | q_6 :: rest, w_4 =>
  ((qdy q_6 w_4).bind fun r_8 =>
  (qcO k rest r_8))
noncomputable def qeS (l_a1 : (List qY)) (most_a2 : Int) (c_0 : qa) : Option (qa) :=
  ((qt (l_a1.length : Int) 0 most_a2 c_0).bind fun r_1 =>
  (bif r_1.f1_bad then
  some (r_1)
  else
  (qcO (fun w_5 =>
  some (w_5)) l_a1 r_1)))
set_option maxHeartbeats 1000000 in
theorem qk0 (l_a1 : (List qY)) (most_a2 : Int) (c_0 : qa) (b_o0 : Nat) (res : qa) (hr : qeS l_a1 most_a2 c_0 = some res) : Spec Tryz.prog 67 [.ref b_o0 0 [], .lst (l_a1.map qy), .int .i64 most_a2, .clo (.func 68) [] [.ptr (.ref b_o0 0 [])]] [.cell b_o0 (qf c_0)] (fun d σ => d = .tup [] ∧ σ = [.cell b_o0 (qf res)]) := by
  unfold qeS at hr
  refine qag [(0, .ref b_o0 0 []), (1, .lst (l_a1.map qy)), (2, .int .i64 most_a2), (3, .clo (.func 68) [] [.ptr (.ref b_o0 0 [])])] Tryz.func67 rfl rfl fun K hK => (qk (gr [.d, .d, .d, .d, .w] (r_d rfl rfl rfl (qe rfl rfl) (r_d rfl rfl rfl (qe rfl rfl) (r_d rfl rfl rfl (qbP (f := qy) l_a1 rfl qdh rfl (asl rfl)) (r_d rfl rfl rfl (qe rfl rfl) ?_))))))
  obtain ⟨r_1, hr_1, hr⟩ := bindS hr
  refine r_w rfl rfl rfl (qF _ rfl qA (.oc rfl (.oc rfl (.oc rfl (.oc rfl .nil)))) (by exact (pf0 _)) (qu _ _ _ _ _ _ hr_1)) ?_
  rintro _ _ ⟨_, ⟨rfl, rfl⟩, rfl⟩
  refine r_st ((.cell b_o0 (qf r_1)) :: _) rfl (ql (qk (qk (gr [.d, .d, .d, .r] (r_d rfl rfl rfl (qe rfl rfl) (r_d rfl rfl rfl (qv rfl rfl) (r_d rfl rfl rfl (qo rfl qD rfl) (r_r rfl rfl rfl (qx rfl rfl (.head _) rfl rfl (by exact qbm) rfl) (ql ?_)))))))))
  refine g_sB 18 rfl hr (fun h18_1 hr => ?_) (fun h18_1 hr => ?_)
  ·
   refine qC rfl ?_
   obtain rfl := Option.some.inj hr
   refine q9 Tryz.func67 _ .nil ?_
   exact ⟨rfl, rfl⟩
  ·
   refine qB rfl (qab (qk (gr [.d, .d, .d] (r_d rfl rfl rfl (qe rfl rfl) (r_d rfl rfl rfl (qbP (f := qy) l_a1 rfl qdh rfl (asl rfl)) (r_d rfl rfl rfl (qe rfl rfl) (ql ?_)))))))
   obtain ⟨kk0, hkk0, hr⟩ := exK (fun k => qcO k l_a1 r_1) hr
   refine qiz 1 rfl (asl rfl) fun hla0 => ?_
   simp only [List.length_map] at hla0
   refine qbe (fun env σ => ∃ (w_5 : qa), env = [] ∧ σ = [.cell b_o0 (qf w_5)] ∧ kk0 w_5 = some res) ?_ (fun HK0 => ?_)
   ·
    rintro _ _ ⟨w_5, rfl, rfl, hr⟩
    rw [hkk0] at hr
    obtain rfl := Option.some.inj hr
    refine qfd Tryz.func67 _ .nil ?_
    exact ⟨rfl, rfl⟩
   ·
    refine qan [(3, .clo (.func 68) [] [.ptr (.ref b_o0 0 [])]), (19, .lst (l_a1.map qy)), (20, .int .i64 (l_a1.length : Int)), (21, .int .i64 ((0 : Nat) : Int))] (Sub.cons' rfl (Sub.cons' rfl (Sub.cons' rfl (Sub.cons' rfl (Sub.nil _))))) (qdb (fun n env σ => ∃ (i_3 : Nat) (w_4 : qa), (n = l_a1.length - i_3) ∧ (env = [(3, .clo (.func 68) [] [.ptr (.ref b_o0 0 [])]), (19, .lst (l_a1.map qy)), (20, .int .i64 (l_a1.length : Int)), (21, .int .i64 (i_3 : Int))]) ∧ (σ = [.cell b_o0 (qf w_4)]) ∧ (i_3 ≤ l_a1.length) ∧ (qcO kk0 (l_a1.drop i_3) w_4 = some res)) _ ⟨0, r_1, rfl, rfl, rfl, Nat.zero_le _, hr⟩ ?_)
    rintro n _ _ ⟨i_3, w_4, rfl, rfl, rfl, hi0, hr⟩ IH0
    rcases listStep l_a1 i_3 hi0 with ⟨ht0, hd0, he0⟩ | ⟨q_6, ht0, hd0, hq0, hlt0⟩
    ·
     rw [hd0, qcO] at hr
     refine qk (gr [.d] (r_d rfl rfl rfl (qX rfl rfl rfl rfl) (ql (qk (qbg 22 false rfl ht0 (qB rfl (qbC rfl (qan [] (Sub.nil _) ?_))))))))
     exact HK0 _ _ ⟨w_4, rfl, rfl, hr⟩
    ·
     rw [hd0, qcO] at hr
     refine qk (gr [.d] (r_d rfl rfl rfl (qX rfl rfl rfl rfl) (ql (qk (qbg 22 true rfl ht0 (qC rfl (qab (qk (qbi (qk (gr [.d, .d, .w, .w] ?_)))))))))))
     refine r_d rfl rfl rfl (qbH (f := qy) l_a1 rfl qdh rfl (asl rfl) rfl hq0 qdK rfl) (r_d rfl rfl rfl (qw rfl rfl (by exact qfO) (qdK _)) (r_w rfl rfl rfl (qau rfl qkQ) ?_))
     rintro _ _ ⟨b9_6, rfl, rfl⟩
     refine qaa rfl rfl rfl (qK _ rfl rfl rfl (Wk.refl _) (pf0 _) (by exact qfO) (qdK _) rfl rfl) (ql (qap 9 b9_6 rfl (pf0 _) (gr [.d, .d, .w] (r_d rfl rfl rfl (qe rfl rfl) (r_d rfl rfl rfl (qw rfl rfl (by exact qfO) (qdK _)) ?_)))))
     obtain ⟨r_8, hr_8, hr⟩ := bindS hr
     refine r_w rfl rfl rfl (qd9 _ rfl rfl qky (.oc rfl .nil) rfl (by exact (pf0 _)) (qjy _ _ _ _ hr_8)) ?_
     rintro _ _ ⟨_, ⟨rfl, rfl⟩, rfl⟩
     refine r_st ((.cell b_o0 (qf r_8)) :: _) rfl (ql (qac (gr [.d, .d] (r_d rfl rfl rfl (s_ar (r := ((i_3 + 1 : Nat) : Int)) rfl rfl rfl (by simp [iar]) (by omega)) (r_d rfl rfl rfl (qe rfl rfl) (ql (qan [(3, .clo (.func 68) [] [.ptr (.ref b_o0 0 [])]), (19, .lst (l_a1.map qy)), (20, .int .i64 (l_a1.length : Int)), (21, .int .i64 ((i_3 + 1 : Nat) : Int))] (Sub.cons' rfl (Sub.cons' rfl (Sub.cons' rfl (Sub.cons' rfl (Sub.nil _))))) ?_)))))))
     exact IH0 _ _ _ (by omega) ⟨(i_3 + 1), r_8, rfl, rfl, rfl, (by omega), hr⟩
noncomputable def qbW (fuel : Nat) (c_a0 : qai) : Option ((List Int)) :=
  ((qt 2 2 2 (⟨[], false⟩ : qa)).bind fun r_3 =>
  ((qe5 fuel c_a0.f0_Stack 1000 r_3).bind fun r_4 =>
  ((qeV fuel c_a0.f1_Store 500 r_4).bind fun r_5 =>
  ((qfa fuel c_a0.f2_Binds 1048576 r_5).bind fun r_6 =>
  ((qeS c_a0.f3_Fired 5000 r_6).bind fun r_7 =>
  ((qt c_a0.f4_Next 0 2147483648 r_7).bind fun r_8 =>
  ((qt c_a0.f5_Fresh 0 1048576 r_8).bind fun r_9 =>
  ((qiv r_9.f0_b c_a0.f6_Failed).bind fun r_10 =>
  ((qca (⟨r_10, r_9.f1_bad⟩ : qa)).bind fun r_11 =>
  some (r_11))))))))))
set_option maxHeartbeats 1000000 in
theorem qge (fuel : Nat) (c_a0 : qai) (res : (List Int)) (hr : qbW fuel c_a0 = some res) : Gives Tryz.prog 17 [qbl c_a0] (.lst (res.map (D.int .u8))) := by
  unfold qbW at hr
  refine qag [(0, qbl c_a0)] Tryz.func17 rfl rfl fun K hK => (qk (gr [.d, .d] (r_d rfl rfl rfl (qgF rfl rfl rfl) (r_d rfl rfl rfl (qj rfl rfl) (ql (qk (gr [.d, .w, .w, .w] (r_d rfl rfl rfl (qbT rfl qhA .nil (.nil _)) (r_w rfl rfl rfl (qid rfl rfl rfl) ?_)))))))))
  rintro _ _ ⟨b5_0, rfl, rfl⟩
  refine r_w rfl rfl rfl (qau rfl qhT) ?_
  rintro _ _ ⟨b3_1, rfl, rfl⟩
  refine qaa rfl rfl rfl (qK _ rfl rfl rfl (Wk.refl _) (pf0 _) (by exact qJ) rfl rfl rfl) (ql (qap 3 b3_1 rfl (pf0 _) (qk (gr [.d, .w] (r_d rfl rfl rfl (qw rfl rfl (by exact qJ) rfl) ?_)))))
  obtain ⟨r_3, hr_3, hr⟩ := bindS hr
  refine r_w rfl rfl rfl (qF _ rfl qA (.oc rfl (.oc rfl (.oc rfl (.oc rfl .nil)))) (by exact (pf0 _)) (qu _ _ _ _ _ _ hr_3)) ?_
  rintro _ _ ⟨_, ⟨rfl, rfl⟩, rfl⟩
  refine r_st ((.cell b5_0 (qf r_3)) :: _) rfl (ql (qk (gr [.d, .d, .d, .d, .d, .w] (r_d rfl rfl rfl (qw rfl rfl (by exact qJ) rfl) (r_d rfl rfl rfl (qp rfl qdX rfl rfl rfl rfl) (r_d rfl rfl rfl (qw rfl rfl (by exact qdV) rfl) (r_d rfl rfl rfl (qw rfl rfl (by exact qJ) rfl) (r_d rfl rfl rfl (qbz rfl rfl rfl) ?_))))))))
  obtain ⟨r_4, hr_4, hr⟩ := bindS hr
  refine r_w rfl rfl rfl (qF _ rfl qi3 (.oc rfl (.oc rfl (.oc rfl (.oc rfl .nil)))) (by exact (pf0 _)) (qkY fuel _ _ _ _ _ hr_4)) ?_
  rintro _ _ ⟨_, ⟨rfl, rfl⟩, rfl⟩
  refine r_st ((.cell b5_0 (qf r_4)) :: _) rfl (ql (qk (gr [.d, .d, .d, .d, .w] (r_d rfl rfl rfl (qw rfl rfl (by exact qJ) rfl) (r_d rfl rfl rfl (qp rfl qft rfl rfl rfl rfl) (r_d rfl rfl rfl (qw rfl rfl (by exact qgD) rfl) (r_d rfl rfl rfl (qbz rfl rfl rfl) ?_)))))))
  obtain ⟨r_5, hr_5, hr⟩ := bindS hr
  refine r_w rfl rfl rfl (qF _ rfl qjf (.oc rfl (.oc rfl (.oc rfl (.oc rfl .nil)))) (by exact (pf0 _)) (qkI fuel _ _ _ _ _ hr_5)) ?_
  rintro _ _ ⟨_, ⟨rfl, rfl⟩, rfl⟩
  refine r_st ((.cell b5_0 (qf r_5)) :: _) rfl (ql (qk (gr [.d, .d, .d, .d, .w] (r_d rfl rfl rfl (qw rfl rfl (by exact qJ) rfl) (r_d rfl rfl rfl (qp rfl qer rfl rfl rfl rfl) (r_d rfl rfl rfl (qw rfl rfl (by exact qfE) rfl) (r_d rfl rfl rfl (qbz rfl rfl rfl) ?_)))))))
  obtain ⟨r_6, hr_6, hr⟩ := bindS hr
  refine r_w rfl rfl rfl (qF _ rfl qjc (.oc rfl (.oc rfl (.oc rfl (.oc rfl .nil)))) (by exact (pf0 _)) (qkK fuel _ _ _ _ _ hr_6)) ?_
  rintro _ _ ⟨_, ⟨rfl, rfl⟩, rfl⟩
  refine r_st ((.cell b5_0 (qf r_6)) :: _) rfl (ql (qk (gr [.d, .d, .d, .d, .w] (r_d rfl rfl rfl (qw rfl rfl (by exact qJ) rfl) (r_d rfl rfl rfl (qp rfl qfz rfl rfl rfl rfl) (r_d rfl rfl rfl (qw rfl rfl (by exact qgC) rfl) (r_d rfl rfl rfl (qbz rfl rfl rfl) ?_)))))))
  obtain ⟨r_7, hr_7, hr⟩ := bindS hr
  refine r_w rfl rfl rfl (qF _ rfl qi9 (.oc rfl (.oc rfl (.oc rfl (.oc rfl .nil)))) (by exact (pf0 _)) (qk0 _ _ _ _ _ hr_7)) ?_
  rintro _ _ ⟨_, ⟨rfl, rfl⟩, rfl⟩
  refine r_st ((.cell b5_0 (qf r_7)) :: _) rfl (ql (qk (gr [.d, .d, .d, .w] (r_d rfl rfl rfl (qw rfl rfl (by exact qJ) rfl) (r_d rfl rfl rfl (qp rfl qgh rfl rfl rfl rfl) (r_d rfl rfl rfl (qw rfl rfl (by exact qaF) rfl) ?_))))))
  obtain ⟨r_8, hr_8, hr⟩ := bindS hr
  refine r_w rfl rfl rfl (qF _ rfl qA (.oc rfl (.oc rfl (.oc rfl (.oc rfl .nil)))) (by exact (pf0 _)) (qu _ _ _ _ _ _ hr_8)) ?_
  rintro _ _ ⟨_, ⟨rfl, rfl⟩, rfl⟩
  refine r_st ((.cell b5_0 (qf r_8)) :: _) rfl (ql (qk (gr [.d, .d, .d, .w] (r_d rfl rfl rfl (qw rfl rfl (by exact qJ) rfl) (r_d rfl rfl rfl (qp rfl qgA rfl rfl rfl rfl) (r_d rfl rfl rfl (qw rfl rfl (by exact qaF) rfl) ?_))))))
  obtain ⟨r_9, hr_9, hr⟩ := bindS hr
  refine r_w rfl rfl rfl (qF _ rfl qA (.oc rfl (.oc rfl (.oc rfl (.oc rfl .nil)))) (by exact (pf0 _)) (qu _ _ _ _ _ _ hr_9)) ?_
  rintro _ _ ⟨_, ⟨rfl, rfl⟩, rfl⟩
  refine r_st ((.cell b5_0 (qf r_9)) :: _) rfl (ql (qk (ga [(0, .d), (1, .d), (2, .d), (3, .d), (4, .r), (5, .d), (6, .d), (7, .d), (8, .d), (9, .d), (10, .w)] (r_d rfl rfl rfl (qw rfl rfl (by exact qJ) rfl) (r_d rfl rfl rfl (qw rfl rfl (by exact qJ) rfl) (r_d rfl rfl rfl (qv rfl rfl) (r_d rfl rfl rfl (qo rfl qa2 rfl) (r_r rfl rfl rfl (qx rfl rfl (.head _) rfl rfl (by exact qc5) rfl) (r_d rfl rfl rfl (qp rfl qgn rfl rfl rfl rfl) (r_d rfl rfl rfl (qw rfl rfl (by exact qbm) rfl) ?_))))))))))
  obtain ⟨r_10, hr_10, hr⟩ := bindS hr
  refine r_d rfl rfl rfl (qal rfl qkc (.oc rfl (.oc rfl .nil)) (qkd _ _ _ hr_10)) (r_d rfl rfl rfl (qv rfl rfl) (r_d rfl rfl rfl (qo rfl qa2 rfl) (qaa rfl rfl rfl (qV _ rfl rfl rfl (Wk.refl _) (pf0 _) rfl rfl (by exact qc5) rfl rfl rfl) (ql (qk (gr [.d, .w, .d] (r_d rfl rfl rfl (qw rfl rfl (by exact qJ) rfl) ?_)))))))
  obtain ⟨r_11, hr_11, hr⟩ := bindS hr
  refine r_w rfl rfl rfl (qF _ rfl qfN (.oc rfl .nil) (by exact (pf0 _)) (qfg _ _ _ hr_11)) ?_
  rintro _ _ ⟨_, ⟨rfl, rfl⟩, rfl⟩
  refine r_st ((.cell b5_0 (.agg [.lst (r_10.map (D.int .u8)), .bool r_9.f1_bad])) :: _) rfl (r_d rfl rfl rfl (qj rfl rfl) (ql ?_))
  obtain rfl := Option.some.inj hr
  refine q9 Tryz.func17 _ (.cons (resTmp rfl (Wk.refl _)) .nil) ?_
  rfl
noncomputable def qc2 (fuel : Nat) (f_a1 : qZ) (c_0 : qa) : Option (qa) :=
  ((qt f_a1.f0_ID 0 2147483648 c_0).bind fun r_1 =>
  ((qbK fuel f_a1.f1_Atom r_1).bind fun r_2 =>
  ((qaL f_a1.f2_Just 64 64 r_2).bind fun r_3 =>
  some (r_3))))
set_option maxHeartbeats 1000000 in
theorem qiK (fuel : Nat) (f_a1 : qZ) (c_0 : qa) (b_o0 : Nat) (res : qa) (hr : qc2 fuel f_a1 c_0 = some res) : Spec Tryz.prog 106 [.ref b_o0 0 [], qE f_a1] [.cell b_o0 (qf c_0)] (fun d σ => d = .tup [] ∧ σ = [.cell b_o0 (qf res)]) := by
  unfold qc2 at hr
  refine qag [(0, .ref b_o0 0 []), (1, qE f_a1)] Tryz.func106 rfl rfl fun K hK => (qk (gr [.d] (r_d rfl rfl rfl (qgF rfl rfl rfl) (ql (qk (gr [.d, .d, .d, .w] (r_d rfl rfl rfl (qe rfl rfl) (r_d rfl rfl rfl (qp rfl qjv rfl rfl rfl rfl) (r_d rfl rfl rfl (qw rfl rfl (by exact qaF) rfl) ?_)))))))))
  obtain ⟨r_1, hr_1, hr⟩ := bindS hr
  refine r_w rfl rfl rfl (qF _ rfl qA (.oc rfl (.oc rfl (.oc rfl (.oc rfl .nil)))) (by exact (pf0 _)) (qu _ _ _ _ _ _ hr_1)) ?_
  rintro _ _ ⟨_, ⟨rfl, rfl⟩, rfl⟩
  refine r_st ((.cell b_o0 (qf r_1)) :: _) rfl (ql (qk (gr [.d, .d, .d, .w] (r_d rfl rfl rfl (qe rfl rfl) (r_d rfl rfl rfl (qp rfl qin rfl rfl rfl rfl) (r_d rfl rfl rfl (qw rfl rfl (by exact qbN) (qbA _)) ?_))))))
  obtain ⟨r_2, hr_2, hr⟩ := bindS hr
  refine r_w rfl rfl rfl (qF _ rfl qfB (.oc rfl (.oc rfl .nil)) (by exact (pf0 _)) (qeW fuel _ _ _ _ hr_2)) ?_
  rintro _ _ ⟨_, ⟨rfl, rfl⟩, rfl⟩
  refine r_st ((.cell b_o0 (qf r_2)) :: _) rfl (ql (gr [.d, .d, .d, .w] (r_d rfl rfl rfl (qe rfl rfl) (r_d rfl rfl rfl (qp rfl qio rfl rfl (by simp [szs, sz, qbA]) rfl) (r_d rfl rfl rfl (qw rfl rfl (by exact qcR) rfl) ?_)))))
  obtain ⟨r_3, hr_3, hr⟩ := bindS hr
  refine r_w rfl rfl rfl (qF _ rfl qcV (.oc rfl (.oc rfl (.oc rfl (.oc rfl .nil)))) (by exact (pf0 _)) (qb5 _ _ _ _ _ _ hr_3)) ?_
  rintro _ _ ⟨_, ⟨rfl, rfl⟩, rfl⟩
  refine r_st ((.cell b_o0 (qf r_3)) :: _) rfl (ql ?_)
  obtain rfl := Option.some.inj hr
  refine qfd Tryz.func106 _ .nil ?_
  exact ⟨rfl, rfl⟩
noncomputable def qck (k : (qa) → Option (qa)) (fuel : Nat) : List qZ → qa → Option (qa)
  | [], w_4 =>
  (k w_4)
  | q_6 :: rest, w_4 =>
  ((qc2 fuel q_6 w_4).bind fun r_8 =>
  (qck k fuel rest r_8))
noncomputable def qd8 (fuel : Nat) (l_a1 : (List qZ)) (most_a2 : Int) (c_0 : qa) : Option (qa) :=
  ((qt (l_a1.length : Int) 0 most_a2 c_0).bind fun r_1 =>
  (bif r_1.f1_bad then
  some (r_1)
  else
  (qck (fun w_5 =>
  some (w_5)) fuel l_a1 r_1)))
set_option maxHeartbeats 1000000 in
theorem qh9 (fuel : Nat) (l_a1 : (List qZ)) (most_a2 : Int) (c_0 : qa) (b_o0 : Nat) (res : qa) (hr : qd8 fuel l_a1 most_a2 c_0 = some res) : Spec Tryz.prog 105 [.ref b_o0 0 [], .lst (l_a1.map qE), .int .i64 most_a2, .clo (.func 106) [.ref b_o0 0 []] []] [.cell b_o0 (qf c_0)] (fun d σ => d = .tup [] ∧ σ = [.cell b_o0 (qf res)]) := by
  unfold qd8 at hr
  refine qag [(0, .ref b_o0 0 []), (1, .lst (l_a1.map qE)), (2, .int .i64 most_a2), (3, .clo (.func 106) [.ref b_o0 0 []] [])] Tryz.func105 rfl rfl fun K hK => (qk (gr [.d, .d, .d, .d, .w] (r_d rfl rfl rfl (qe rfl rfl) (r_d rfl rfl rfl (qe rfl rfl) (r_d rfl rfl rfl (qbP (f := qE) l_a1 rfl qdA rfl (asl rfl)) (r_d rfl rfl rfl (qe rfl rfl) ?_))))))
  obtain ⟨r_1, hr_1, hr⟩ := bindS hr
  refine r_w rfl rfl rfl (qF _ rfl qA (.oc rfl (.oc rfl (.oc rfl (.oc rfl .nil)))) (by exact (pf0 _)) (qu _ _ _ _ _ _ hr_1)) ?_
  rintro _ _ ⟨_, ⟨rfl, rfl⟩, rfl⟩
  refine r_st ((.cell b_o0 (qf r_1)) :: _) rfl (ql (qk (qk (gr [.d, .d, .d, .r] (r_d rfl rfl rfl (qe rfl rfl) (r_d rfl rfl rfl (qv rfl rfl) (r_d rfl rfl rfl (qo rfl qD rfl) (r_r rfl rfl rfl (qx rfl rfl (.head _) rfl rfl (by exact qbm) rfl) (ql ?_)))))))))
  refine g_sB 18 rfl hr (fun h18_1 hr => ?_) (fun h18_1 hr => ?_)
  ·
   refine qC rfl ?_
   obtain rfl := Option.some.inj hr
   refine q9 Tryz.func105 _ .nil ?_
   exact ⟨rfl, rfl⟩
  ·
   refine qB rfl (qab (qk (gr [.d, .d, .d] (r_d rfl rfl rfl (qe rfl rfl) (r_d rfl rfl rfl (qbP (f := qE) l_a1 rfl qdA rfl (asl rfl)) (r_d rfl rfl rfl (qe rfl rfl) (ql ?_)))))))
   obtain ⟨kk0, hkk0, hr⟩ := exK (fun k => qck k fuel l_a1 r_1) hr
   refine qiz 1 rfl (asl rfl) fun hla0 => ?_
   simp only [List.length_map] at hla0
   refine qbe (fun env σ => ∃ (w_5 : qa), env = [] ∧ σ = [.cell b_o0 (qf w_5)] ∧ kk0 w_5 = some res) ?_ (fun HK0 => ?_)
   ·
    rintro _ _ ⟨w_5, rfl, rfl, hr⟩
    rw [hkk0] at hr
    obtain rfl := Option.some.inj hr
    refine qfd Tryz.func105 _ .nil ?_
    exact ⟨rfl, rfl⟩
   ·
    refine qan [(3, .clo (.func 106) [.ref b_o0 0 []] []), (19, .lst (l_a1.map qE)), (20, .int .i64 (l_a1.length : Int)), (21, .int .i64 ((0 : Nat) : Int))] (Sub.cons' rfl (Sub.cons' rfl (Sub.cons' rfl (Sub.cons' rfl (Sub.nil _))))) (qdb (fun n env σ => ∃ (i_3 : Nat) (w_4 : qa), (n = l_a1.length - i_3) ∧ (env = [(3, .clo (.func 106) [.ref b_o0 0 []] []), (19, .lst (l_a1.map qE)), (20, .int .i64 (l_a1.length : Int)), (21, .int .i64 (i_3 : Int))]) ∧ (σ = [.cell b_o0 (qf w_4)]) ∧ (i_3 ≤ l_a1.length) ∧ (qck kk0 fuel (l_a1.drop i_3) w_4 = some res)) _ ⟨0, r_1, rfl, rfl, rfl, Nat.zero_le _, hr⟩ ?_)
    rintro n _ _ ⟨i_3, w_4, rfl, rfl, rfl, hi0, hr⟩ IH0
    rcases listStep l_a1 i_3 hi0 with ⟨ht0, hd0, he0⟩ | ⟨q_6, ht0, hd0, hq0, hlt0⟩
    ·
     rw [hd0, qck] at hr
     refine qk (gr [.d] (r_d rfl rfl rfl (qX rfl rfl rfl rfl) (ql (qk (qbg 22 false rfl ht0 (qB rfl (qbC rfl (qan [] (Sub.nil _) ?_))))))))
     exact HK0 _ _ ⟨w_4, rfl, rfl, hr⟩
    ·
     rw [hd0, qck] at hr
     refine qk (gr [.d] (r_d rfl rfl rfl (qX rfl rfl rfl rfl) (ql (qk (qbg 22 true rfl ht0 (qC rfl (qab (qk (qbi (qk (gr [.d, .d, .w, .w] ?_)))))))))))
     refine r_d rfl rfl rfl (qbH (f := qE) l_a1 rfl qdA rfl (asl rfl) rfl hq0 qdO rfl) (r_d rfl rfl rfl (qw rfl rfl (by exact qfM) (qdO _)) (r_w rfl rfl rfl (qau rfl qkX) ?_))
     rintro _ _ ⟨b9_6, rfl, rfl⟩
     refine qaa rfl rfl rfl (qK _ rfl rfl rfl (Wk.refl _) (pf0 _) (by exact qfM) (qdO _) (by simp [sz, szs, qbx, qbA]) rfl) (ql (qap 9 b9_6 rfl (pf0 _) (gr [.d, .d, .w] (r_d rfl rfl rfl (qe rfl rfl) (r_d rfl rfl rfl (qw rfl rfl (by exact qfM) (qdO _)) ?_)))))
     obtain ⟨r_8, hr_8, hr⟩ := bindS hr
     refine r_w rfl rfl rfl (qd9 _ rfl rfl qjj (.oc rfl .nil) rfl (by exact (pf0 _)) (qiK fuel _ _ _ _ hr_8)) ?_
     rintro _ _ ⟨_, ⟨rfl, rfl⟩, rfl⟩
     refine r_st ((.cell b_o0 (qf r_8)) :: _) rfl (ql (qac (gr [.d, .d] (r_d rfl rfl rfl (s_ar (r := ((i_3 + 1 : Nat) : Int)) rfl rfl rfl (by simp [iar]) (by omega)) (r_d rfl rfl rfl (qe rfl rfl) (ql (qan [(3, .clo (.func 106) [.ref b_o0 0 []] []), (19, .lst (l_a1.map qE)), (20, .int .i64 (l_a1.length : Int)), (21, .int .i64 ((i_3 + 1 : Nat) : Int))] (Sub.cons' rfl (Sub.cons' rfl (Sub.cons' rfl (Sub.cons' rfl (Sub.nil _))))) ?_)))))))
     exact IH0 _ _ _ (by omega) ⟨(i_3 + 1), r_8, rfl, rfl, rfl, (by omega), hr⟩
noncomputable def qb6 (x_a1 : qah) (c_0 : qa) : Option (qa) :=
  ((qt x_a1.f0_Rule 0 40 c_0).bind fun r_1 =>
  ((qaL x_a1.f1_Heads 4 2147483648 r_1).bind fun r_2 =>
  ((qaL x_a1.f2_Gone 4 2147483648 r_2).bind fun r_3 =>
  ((qaL x_a1.f3_Made 12 2147483648 r_3).bind fun r_4 =>
  ((qiv r_4.f0_b x_a1.f4_Failed).bind fun r_5 =>
  ((qaL x_a1.f5_Just 64 64 (⟨r_5, r_4.f1_bad⟩ : qa)).bind fun r_6 =>
  some (r_6)))))))
set_option maxHeartbeats 1000000 in
theorem qhW (x_a1 : qah) (c_0 : qa) (b_o0 : Nat) (res : qa) (hr : qb6 x_a1 c_0 = some res) : Spec Tryz.prog 108 [.ref b_o0 0 [], qR x_a1] [.cell b_o0 (qf c_0)] (fun d σ => d = .tup [] ∧ σ = [.cell b_o0 (qf res)]) := by
  unfold qb6 at hr
  refine qag [(0, .ref b_o0 0 []), (1, qR x_a1)] Tryz.func108 rfl rfl fun K hK => (qk (gr [.d] (r_d rfl rfl rfl (qgF rfl rfl rfl) (ql (qk (gr [.d, .d, .d, .w] (r_d rfl rfl rfl (qe rfl rfl) (r_d rfl rfl rfl (qp rfl qg6 rfl rfl rfl rfl) (r_d rfl rfl rfl (qw rfl rfl (by exact qaF) rfl) ?_)))))))))
  obtain ⟨r_1, hr_1, hr⟩ := bindS hr
  refine r_w rfl rfl rfl (qF _ rfl qA (.oc rfl (.oc rfl (.oc rfl (.oc rfl .nil)))) (by exact (pf0 _)) (qu _ _ _ _ _ _ hr_1)) ?_
  rintro _ _ ⟨_, ⟨rfl, rfl⟩, rfl⟩
  refine r_st ((.cell b_o0 (qf r_1)) :: _) rfl (ql (qk (gr [.d, .d, .d, .w] (r_d rfl rfl rfl (qe rfl rfl) (r_d rfl rfl rfl (qp rfl qfT rfl rfl rfl rfl) (r_d rfl rfl rfl (qw rfl rfl (by exact qcR) rfl) ?_))))))
  obtain ⟨r_2, hr_2, hr⟩ := bindS hr
  refine r_w rfl rfl rfl (qF _ rfl qcV (.oc rfl (.oc rfl (.oc rfl (.oc rfl .nil)))) (by exact (pf0 _)) (qb5 _ _ _ _ _ _ hr_2)) ?_
  rintro _ _ ⟨_, ⟨rfl, rfl⟩, rfl⟩
  refine r_st ((.cell b_o0 (qf r_2)) :: _) rfl (ql (qk (gr [.d, .d, .d, .w] (r_d rfl rfl rfl (qe rfl rfl) (r_d rfl rfl rfl (qp rfl qf1 rfl rfl rfl rfl) (r_d rfl rfl rfl (qw rfl rfl (by exact qcR) rfl) ?_))))))
  obtain ⟨r_3, hr_3, hr⟩ := bindS hr
  refine r_w rfl rfl rfl (qF _ rfl qcV (.oc rfl (.oc rfl (.oc rfl (.oc rfl .nil)))) (by exact (pf0 _)) (qb5 _ _ _ _ _ _ hr_3)) ?_
  rintro _ _ ⟨_, ⟨rfl, rfl⟩, rfl⟩
  refine r_st ((.cell b_o0 (qf r_3)) :: _) rfl (ql (qk (gr [.d, .d, .d, .w] (r_d rfl rfl rfl (qe rfl rfl) (r_d rfl rfl rfl (qp rfl qfW rfl rfl rfl rfl) (r_d rfl rfl rfl (qw rfl rfl (by exact qcR) rfl) ?_))))))
  obtain ⟨r_4, hr_4, hr⟩ := bindS hr
  refine r_w rfl rfl rfl (qF _ rfl qcV (.oc rfl (.oc rfl (.oc rfl (.oc rfl .nil)))) (by exact (pf0 _)) (qb5 _ _ _ _ _ _ hr_4)) ?_
  rintro _ _ ⟨_, ⟨rfl, rfl⟩, rfl⟩
  refine r_st ((.cell b_o0 (qf r_4)) :: _) rfl (ql (qk (ga [(0, .d), (1, .d), (2, .d), (3, .d), (4, .r), (5, .d), (6, .d), (7, .d), (8, .d), (9, .d), (10, .w)] (r_d rfl rfl rfl (qe rfl rfl) (r_d rfl rfl rfl (qe rfl rfl) (r_d rfl rfl rfl (qv rfl rfl) (r_d rfl rfl rfl (qo rfl qa2 rfl) (r_r rfl rfl rfl (qx rfl rfl (.head _) rfl rfl (by exact qc5) rfl) (r_d rfl rfl rfl (qp rfl qfX rfl rfl rfl rfl) (r_d rfl rfl rfl (qw rfl rfl (by exact qbm) rfl) ?_))))))))))
  obtain ⟨r_5, hr_5, hr⟩ := bindS hr
  refine r_d rfl rfl rfl (qal rfl qkc (.oc rfl (.oc rfl .nil)) (qkd _ _ _ hr_5)) (r_d rfl rfl rfl (qv rfl rfl) (r_d rfl rfl rfl (qo rfl qa2 rfl) (qaa rfl rfl rfl (qV _ rfl rfl rfl (Wk.refl _) (pf0 _) rfl rfl (by exact qc5) rfl rfl rfl) (ql (gr [.d, .d, .d, .w] (r_d rfl rfl rfl (qe rfl rfl) (r_d rfl rfl rfl (qp rfl qfS rfl rfl rfl rfl) (r_d rfl rfl rfl (qw rfl rfl (by exact qcR) rfl) ?_))))))))
  obtain ⟨r_6, hr_6, hr⟩ := bindS hr
  refine r_w rfl rfl rfl (qF _ rfl qcV (.oc rfl (.oc rfl (.oc rfl (.oc rfl .nil)))) (by exact (pf0 _)) (qb5 _ _ _ _ _ _ hr_6)) ?_
  rintro _ _ ⟨_, ⟨rfl, rfl⟩, rfl⟩
  refine r_st ((.cell b_o0 (qf r_6)) :: _) rfl (ql ?_)
  obtain rfl := Option.some.inj hr
  refine qfd Tryz.func108 _ .nil ?_
  exact ⟨rfl, rfl⟩
noncomputable def qcg (k : (qa) → Option (qa)) : List qah → qa → Option (qa)
  | [], w_4 =>
  (k w_4)
  | q_6 :: rest, w_4 =>
  ((qb6 q_6 w_4).bind fun r_8 =>
  (qcg k rest r_8))
noncomputable def qeC (l_a1 : (List qah)) (most_a2 : Int) (c_0 : qa) : Option (qa) :=
  ((qt (l_a1.length : Int) 0 most_a2 c_0).bind fun r_1 =>
  (bif r_1.f1_bad then
  some (r_1)
  else
  (qcg (fun w_5 =>
  some (w_5)) l_a1 r_1)))
set_option maxHeartbeats 1000000 in
theorem qkA (l_a1 : (List qah)) (most_a2 : Int) (c_0 : qa) (b_o0 : Nat) (res : qa) (hr : qeC l_a1 most_a2 c_0 = some res) : Spec Tryz.prog 107 [.ref b_o0 0 [], .lst (l_a1.map qR), .int .i64 most_a2, .clo (.func 108) [.ref b_o0 0 []] []] [.cell b_o0 (qf c_0)] (fun d σ => d = .tup [] ∧ σ = [.cell b_o0 (qf res)]) := by
  unfold qeC at hr
  refine qag [(0, .ref b_o0 0 []), (1, .lst (l_a1.map qR)), (2, .int .i64 most_a2), (3, .clo (.func 108) [.ref b_o0 0 []] [])] Tryz.func107 rfl rfl fun K hK => (qk (gr [.d, .d, .d, .d, .w] (r_d rfl rfl rfl (qe rfl rfl) (r_d rfl rfl rfl (qe rfl rfl) (r_d rfl rfl rfl (qbP (f := qR) l_a1 rfl qcb rfl (asl rfl)) (r_d rfl rfl rfl (qe rfl rfl) ?_))))))
  obtain ⟨r_1, hr_1, hr⟩ := bindS hr
  refine r_w rfl rfl rfl (qF _ rfl qA (.oc rfl (.oc rfl (.oc rfl (.oc rfl .nil)))) (by exact (pf0 _)) (qu _ _ _ _ _ _ hr_1)) ?_
  rintro _ _ ⟨_, ⟨rfl, rfl⟩, rfl⟩
  refine r_st ((.cell b_o0 (qf r_1)) :: _) rfl (ql (qk (qk (gr [.d, .d, .d, .r] (r_d rfl rfl rfl (qe rfl rfl) (r_d rfl rfl rfl (qv rfl rfl) (r_d rfl rfl rfl (qo rfl qD rfl) (r_r rfl rfl rfl (qx rfl rfl (.head _) rfl rfl (by exact qbm) rfl) (ql ?_)))))))))
  refine g_sB 18 rfl hr (fun h18_1 hr => ?_) (fun h18_1 hr => ?_)
  ·
   refine qC rfl ?_
   obtain rfl := Option.some.inj hr
   refine q9 Tryz.func107 _ .nil ?_
   exact ⟨rfl, rfl⟩
  ·
   refine qB rfl (qab (qk (gr [.d, .d, .d] (r_d rfl rfl rfl (qe rfl rfl) (r_d rfl rfl rfl (qbP (f := qR) l_a1 rfl qcb rfl (asl rfl)) (r_d rfl rfl rfl (qe rfl rfl) (ql ?_)))))))
   obtain ⟨kk0, hkk0, hr⟩ := exK (fun k => qcg k l_a1 r_1) hr
   refine qiz 1 rfl (asl rfl) fun hla0 => ?_
   simp only [List.length_map] at hla0
   refine qbe (fun env σ => ∃ (w_5 : qa), env = [] ∧ σ = [.cell b_o0 (qf w_5)] ∧ kk0 w_5 = some res) ?_ (fun HK0 => ?_)
   ·
    rintro _ _ ⟨w_5, rfl, rfl, hr⟩
    rw [hkk0] at hr
    obtain rfl := Option.some.inj hr
    refine qfd Tryz.func107 _ .nil ?_
    exact ⟨rfl, rfl⟩
   ·
    refine qan [(3, .clo (.func 108) [.ref b_o0 0 []] []), (19, .lst (l_a1.map qR)), (20, .int .i64 (l_a1.length : Int)), (21, .int .i64 ((0 : Nat) : Int))] (Sub.cons' rfl (Sub.cons' rfl (Sub.cons' rfl (Sub.cons' rfl (Sub.nil _))))) (qdb (fun n env σ => ∃ (i_3 : Nat) (w_4 : qa), (n = l_a1.length - i_3) ∧ (env = [(3, .clo (.func 108) [.ref b_o0 0 []] []), (19, .lst (l_a1.map qR)), (20, .int .i64 (l_a1.length : Int)), (21, .int .i64 (i_3 : Int))]) ∧ (σ = [.cell b_o0 (qf w_4)]) ∧ (i_3 ≤ l_a1.length) ∧ (qcg kk0 (l_a1.drop i_3) w_4 = some res)) _ ⟨0, r_1, rfl, rfl, rfl, Nat.zero_le _, hr⟩ ?_)
    rintro n _ _ ⟨i_3, w_4, rfl, rfl, rfl, hi0, hr⟩ IH0
    rcases listStep l_a1 i_3 hi0 with ⟨ht0, hd0, he0⟩ | ⟨q_6, ht0, hd0, hq0, hlt0⟩
    ·
     rw [hd0, qcg] at hr
     refine qk (gr [.d] (r_d rfl rfl rfl (qX rfl rfl rfl rfl) (ql (qk (qbg 22 false rfl ht0 (qB rfl (qbC rfl (qan [] (Sub.nil _) ?_))))))))
     exact HK0 _ _ ⟨w_4, rfl, rfl, hr⟩
    ·
     rw [hd0, qcg] at hr
     refine qk (gr [.d] (r_d rfl rfl rfl (qX rfl rfl rfl rfl) (ql (qk (qbg 22 true rfl ht0 (qC rfl (qab (qk (qbi (qk (gr [.d, .d, .w, .w] ?_)))))))))))
     refine r_d rfl rfl rfl (qbH (f := qR) l_a1 rfl qcb rfl (asl rfl) rfl hq0 qbV rfl) (r_d rfl rfl rfl (qw rfl rfl (by exact qdt) (qbV _)) (r_w rfl rfl rfl (qau rfl qg1) ?_))
     rintro _ _ ⟨b9_6, rfl, rfl⟩
     refine qaa rfl rfl rfl (qK _ rfl rfl rfl (Wk.refl _) (pf0 _) (by exact qdt) (qbV _) rfl rfl) (ql (qap 9 b9_6 rfl (pf0 _) (gr [.d, .d, .w] (r_d rfl rfl rfl (qe rfl rfl) (r_d rfl rfl rfl (qw rfl rfl (by exact qdt) (qbV _)) ?_)))))
     obtain ⟨r_8, hr_8, hr⟩ := bindS hr
     refine r_w rfl rfl rfl (qd9 _ rfl rfl qiR (.oc rfl .nil) rfl (by exact (pf0 _)) (qhW _ _ _ _ hr_8)) ?_
     rintro _ _ ⟨_, ⟨rfl, rfl⟩, rfl⟩
     refine r_st ((.cell b_o0 (qf r_8)) :: _) rfl (ql (qac (gr [.d, .d] (r_d rfl rfl rfl (s_ar (r := ((i_3 + 1 : Nat) : Int)) rfl rfl rfl (by simp [iar]) (by omega)) (r_d rfl rfl rfl (qe rfl rfl) (ql (qan [(3, .clo (.func 108) [.ref b_o0 0 []] []), (19, .lst (l_a1.map qR)), (20, .int .i64 (l_a1.length : Int)), (21, .int .i64 ((i_3 + 1 : Nat) : Int))] (Sub.cons' rfl (Sub.cons' rfl (Sub.cons' rfl (Sub.cons' rfl (Sub.nil _))))) ?_)))))))
     exact IH0 _ _ _ (by omega) ⟨(i_3 + 1), r_8, rfl, rfl, rfl, (by omega), hr⟩
noncomputable def qbo (fuel : Nat) (m_a0 : qas) : Option ((List Int)) :=
  ((qt 3 3 3 (⟨[], false⟩ : qa)).bind fun r_2 =>
  ((qd8 fuel m_a0.f0_Facts 5000 r_2).bind fun r_3 =>
  ((qd8 fuel m_a0.f1_Past 5000 r_3).bind fun r_4 =>
  ((qeC m_a0.f2_Log 5000 r_4).bind fun r_5 =>
  ((qt m_a0.f3_Next 0 2147483648 r_5).bind fun r_6 =>
  ((qt m_a0.f4_Given 0 64 r_6).bind fun r_7 =>
  ((qca r_7).bind fun r_8 =>
  some (r_8))))))))
set_option maxHeartbeats 1000000 in
theorem qes (fuel : Nat) (m_a0 : qas) (res : (List Int)) (hr : qbo fuel m_a0 = some res) : Gives Tryz.prog 25 [qax m_a0] (.lst (res.map (D.int .u8))) := by
  unfold qbo at hr
  refine qag [(0, qax m_a0)] Tryz.func25 rfl rfl fun K hK => (qk (gr [.d, .d] (r_d rfl rfl rfl (qgF rfl rfl rfl) (r_d rfl rfl rfl (qj rfl rfl) (ql (qk (gr [.d, .w, .d] (r_d rfl rfl rfl (qbT rfl qhA .nil (.nil _)) (r_w rfl rfl rfl (qid rfl rfl rfl) ?_)))))))))
  rintro _ _ ⟨b5_0, rfl, rfl⟩
  refine r_d rfl rfl rfl (qj rfl rfl) (ql (qk (gr [.d, .w] (r_d rfl rfl rfl (qe rfl rfl) ?_))))
  obtain ⟨r_2, hr_2, hr⟩ := bindS hr
  refine r_w rfl rfl rfl (qF _ rfl qA (.oc rfl (.oc rfl (.oc rfl (.oc rfl .nil)))) (by exact (pf0 _)) (qu _ _ _ _ _ _ hr_2)) ?_
  rintro _ _ ⟨_, ⟨rfl, rfl⟩, rfl⟩
  refine r_st ((.cell b5_0 (qf r_2)) :: _) rfl (ql (qk (gr [.d, .d, .d, .d, .d, .w] (r_d rfl rfl rfl (qe rfl rfl) (r_d rfl rfl rfl (qp rfl qhn rfl rfl rfl rfl) (r_d rfl rfl rfl (qw rfl rfl (by exact qeQ) rfl) (r_d rfl rfl rfl (qe rfl rfl) (r_d rfl rfl rfl (qbz rfl rfl rfl) ?_))))))))
  obtain ⟨r_3, hr_3, hr⟩ := bindS hr
  refine r_w rfl rfl rfl (qF _ rfl qg4 (.oc rfl (.oc rfl (.oc rfl (.oc rfl .nil)))) (by exact (pf0 _)) (qh9 fuel _ _ _ _ _ hr_3)) ?_
  rintro _ _ ⟨_, ⟨rfl, rfl⟩, rfl⟩
  refine r_st ((.cell b5_0 (qf r_3)) :: _) rfl (ql (qk (gr [.d, .d, .d, .d, .d, .w] (r_d rfl rfl rfl (qe rfl rfl) (r_d rfl rfl rfl (qp rfl qgB rfl rfl rfl rfl) (r_d rfl rfl rfl (qw rfl rfl (by exact qeQ) rfl) (r_d rfl rfl rfl (qe rfl rfl) (r_d rfl rfl rfl (qbz rfl rfl rfl) ?_))))))))
  obtain ⟨r_4, hr_4, hr⟩ := bindS hr
  refine r_w rfl rfl rfl (qF _ rfl qg4 (.oc rfl (.oc rfl (.oc rfl (.oc rfl .nil)))) (by exact (pf0 _)) (qh9 fuel _ _ _ _ _ hr_4)) ?_
  rintro _ _ ⟨_, ⟨rfl, rfl⟩, rfl⟩
  refine r_st ((.cell b5_0 (qf r_4)) :: _) rfl (ql (qk (gr [.d, .d, .d, .d, .d, .w] (r_d rfl rfl rfl (qe rfl rfl) (r_d rfl rfl rfl (qp rfl qdJ rfl rfl rfl rfl) (r_d rfl rfl rfl (qw rfl rfl (by exact qds) rfl) (r_d rfl rfl rfl (qe rfl rfl) (r_d rfl rfl rfl (qbz rfl rfl rfl) ?_))))))))
  obtain ⟨r_5, hr_5, hr⟩ := bindS hr
  refine r_w rfl rfl rfl (qF _ rfl qir (.oc rfl (.oc rfl (.oc rfl (.oc rfl .nil)))) (by exact (pf0 _)) (qkA _ _ _ _ _ hr_5)) ?_
  rintro _ _ ⟨_, ⟨rfl, rfl⟩, rfl⟩
  refine r_st ((.cell b5_0 (qf r_5)) :: _) rfl (ql (qk (gr [.d, .d, .d, .w] (r_d rfl rfl rfl (qe rfl rfl) (r_d rfl rfl rfl (qp rfl qgv rfl rfl rfl rfl) (r_d rfl rfl rfl (qw rfl rfl (by exact qaF) rfl) ?_))))))
  obtain ⟨r_6, hr_6, hr⟩ := bindS hr
  refine r_w rfl rfl rfl (qF _ rfl qA (.oc rfl (.oc rfl (.oc rfl (.oc rfl .nil)))) (by exact (pf0 _)) (qu _ _ _ _ _ _ hr_6)) ?_
  rintro _ _ ⟨_, ⟨rfl, rfl⟩, rfl⟩
  refine r_st ((.cell b5_0 (qf r_6)) :: _) rfl (ql (qk (gr [.d, .d, .d, .w] (r_d rfl rfl rfl (qe rfl rfl) (r_d rfl rfl rfl (qp rfl qgp rfl rfl rfl rfl) (r_d rfl rfl rfl (qw rfl rfl (by exact qaF) rfl) ?_))))))
  obtain ⟨r_7, hr_7, hr⟩ := bindS hr
  refine r_w rfl rfl rfl (qF _ rfl qA (.oc rfl (.oc rfl (.oc rfl (.oc rfl .nil)))) (by exact (pf0 _)) (qu _ _ _ _ _ _ hr_7)) ?_
  rintro _ _ ⟨_, ⟨rfl, rfl⟩, rfl⟩
  refine r_st ((.cell b5_0 (qf r_7)) :: _) rfl (ql (qk (gr [.d, .w, .d] (r_d rfl rfl rfl (qe rfl rfl) ?_))))
  obtain ⟨r_8, hr_8, hr⟩ := bindS hr
  refine r_w rfl rfl rfl (qF _ rfl qfN (.oc rfl .nil) (by exact (pf0 _)) (qfg _ _ _ hr_8)) ?_
  rintro _ _ ⟨_, ⟨rfl, rfl⟩, rfl⟩
  refine r_st ((.cell b5_0 (qf r_7)) :: _) rfl (r_d rfl rfl rfl (qj rfl rfl) (ql ?_))
  obtain rfl := Option.some.inj hr
  refine q9 Tryz.func25 _ (.cons (resTmp rfl (Wk.refl _)) .nil) ?_
  rfl
end Go.Proofs.YtdoljfkjdfaakaaGreat
