/-
  Texts of the seat, merged.
-/
import Derived.Test.YtdoljfkjdfaakaaGreatLCA
import Derived.Test.YtdoljfkjdfaakaaGreatLCB
import Derived.Test.YtdoljfkjdfaakaaGreatLCC
import Derived.Test.YtdoljfkjdfaakaaGreatLCD
import Derived.Test.YtdoljfkjdfaakaaGreatLCE
import Derived.Test.YtdoljfkjdfaakaaGreatChecked
import Derived.WalkKit
import Derived.Lib.Hide
import Derived.Lib.AppendStr
import Derived.Deep.AppendLies
import Derived.Deep.AppendSrc
import Derived.Deep.Draws
import Derived.Deep.QuietTactic
import Derived.BigQuiet
import Derived.Deep.RegionWith
import Derived.Maps.AppendAt
import Derived.WalkSpells
import Derived.Orders
import Derived.Deep.Slices
import Derived.Deep.Fields
import Derived.ChangeArms
import Derived.Lib.OthersKept
import Derived.Lib.TrimU
import Derived.Lib.IndexAny
import Derived.Deep.LoopGhost
import Derived.Lib.Bytealg
import Derived.RangeFuncBox
import Derived.RangeFuncNested
import Derived.RangeFuncBound
import Derived.RangeFuncCalls
import Derived.RangeFuncLeaves
import Derived.Shelf.Abstract
import Derived.OwnWalkIn
import Derived.TacticsInMore
import Derived.LoopNIn
import Derived.LoopIn
import Derived.RangeFuncWrites
import Derived.Maps.OwnIn
import Derived.Maps.Views
import Derived.Laws.OwnMore
import Derived.Maps.OwnSet
import Derived.Laws.IdiomStrings
import Derived.Test.YtdoljfkjdfaakaaGreatRows
import Derived.ProofKit
import Derived.OpenShut
import Derived.Carry
import Derived.OrdersIn
import Derived.Great.BuildSlice
import Derived.ArgAppend
import Derived.Laws.MakeOwn
import Derived.Laws.Cover3
import Derived.Laws.CopyRow
import Derived.MapKept
import Derived.Maps.RangeRun
import Derived.DeepKeys5
import Derived.WideKeyRuns
import Derived.RangeFuncOwn
import Derived.Defers
import Derived.Recover
import Derived.Tactics
import Derived.Tactics2
import Derived.KernelRfl
import Derived.ChangeSlices
import Derived.JoinedCond
set_option linter.unusedVariables false
set_option linter.unusedSimpArgs false
set_option linter.unnecessarySimpa false
set_option linter.all false

namespace Go.Proofs.YtdoljfkjdfaakaaGreat
set_option maxRecDepth 100000
open Go.RowKit

instance : DecidableEq S_api_Decl := fun a b => decidable_of_iff (a.f0_Name = b.f0_Name ∧ a.f1_Arity = b.f1_Arity) ⟨fun h => by cases a; cases b; simp at h; simp [h], fun h => by rw [h]; simp⟩
noncomputable def lf_snapshot_TakeProgram (fuel : Nat) (b_a0 : (List Int)) : Option (S_api_Program × Int) :=
  ((lf_wholeR_Program fuel b_a0 1).bind fun r_2 =>
  some (r_2.1, r_2.2))

set_option maxHeartbeats 1000000 in
theorem lg_snapshot_TakeProgram (fuel : Nat) (b_a0 : (List Int)) (res : S_api_Program × Int) (hr : lf_snapshot_TakeProgram fuel b_a0 = some res) : Gives Tryz.prog 14 [.lst (b_a0.map (D.int .u8))] (.tup [enc_S_api_Program res.1, .int .i64 res.2]) := by
  unfold lf_snapshot_TakeProgram at hr
  refine spec_env [(0, .lst (b_a0.map (D.int .u8)))] Tryz.func14 rfl rfl fun K hK => ?_
  refine g_seq ?_
  refine g_run (by kernel_rfl) [(0, .w), (1, .d)] rfl ?_
  refine r_w rfl rfl rfl (s_alloc rfl zv_api_Program) ?_
  rintro _ _ ⟨b2_0, rfl, rfl⟩
  refine r_d rfl rfl rfl (s_assign rfl rfl) ?_
  refine r_end ?_
  refine g_seq ?_
  refine g_run (by kernel_rfl) [(0, .d), (1, .d), (2, .d), (3, .d), (4, .w), (5, .d)] rfl ?_
  refine r_d rfl rfl rfl (s_move rfl rfl) ?_
  obtain ⟨r_2, hr_2, hr⟩ := bindS hr
  refine r_d rfl rfl rfl (s_callD rfl cl_snapshot_whole_api_Program (.cons rfl (Wk.refl _) (.cons rfl (Wk.refl _) (.cons rfl (Wk.refl _) (.cons rfl (Wk.refl _) .nil)))) (lg_wholeR_Program fuel _ _ _ hr_2)) ?_
  refine r_d rfl rfl rfl (s_extract rfl rfl rfl) ?_
  refine r_d rfl rfl rfl (s_extract rfl rfl rfl) ?_
  refine r_w01 rfl rfl rfl (t_store0 _ rfl rfl rfl (Wk.refl _) (pf0 _) (by exact ty_api_Program) (sz_S_api_Program _) rfl rfl) ?_
  refine r_d rfl rfl rfl (s_assign rfl rfl) ?_
  refine r_end ?_
  obtain rfl := Option.some.inj hr
  refine g_ret Tryz.func14 _ (.cons (resRef rfl (.head _) (by exact ty_api_Program) (sz_S_api_Program _) (Wk.refl _)) (.cons (resTmp rfl (Wk.refl _)) .nil)) ?_
  rfl

noncomputable def lf_snapshot_TakeConfig (fuel : Nat) (b_a0 : (List Int)) : Option (S_api_Config × Int) :=
  ((lf_wholeR_Config fuel b_a0 2).bind fun r_2 =>
  some (r_2.1, r_2.2))

set_option maxHeartbeats 1000000 in
theorem lg_snapshot_TakeConfig (fuel : Nat) (b_a0 : (List Int)) (res : S_api_Config × Int) (hr : lf_snapshot_TakeConfig fuel b_a0 = some res) : Gives Tryz.prog 19 [.lst (b_a0.map (D.int .u8))] (.tup [enc_S_api_Config res.1, .int .i64 res.2]) := by
  unfold lf_snapshot_TakeConfig at hr
  refine spec_env [(0, .lst (b_a0.map (D.int .u8)))] Tryz.func19 rfl rfl fun K hK => ?_
  refine g_seq ?_
  refine g_run (by kernel_rfl) [(0, .w), (1, .d)] rfl ?_
  refine r_w rfl rfl rfl (s_alloc rfl zv_api_Config) ?_
  rintro _ _ ⟨b2_0, rfl, rfl⟩
  refine r_d rfl rfl rfl (s_assign rfl rfl) ?_
  refine r_end ?_
  refine g_seq ?_
  refine g_run (by kernel_rfl) [(0, .d), (1, .d), (2, .d), (3, .d), (4, .w), (5, .d)] rfl ?_
  refine r_d rfl rfl rfl (s_move rfl rfl) ?_
  obtain ⟨r_2, hr_2, hr⟩ := bindS hr
  refine r_d rfl rfl rfl (s_callD rfl cl_snapshot_whole_api_Config (.cons rfl (Wk.refl _) (.cons rfl (Wk.refl _) (.cons rfl (Wk.refl _) (.cons rfl (Wk.refl _) .nil)))) (lg_wholeR_Config fuel _ _ _ hr_2)) ?_
  refine r_d rfl rfl rfl (s_extract rfl rfl rfl) ?_
  refine r_d rfl rfl rfl (s_extract rfl rfl rfl) ?_
  refine r_w01 rfl rfl rfl (t_store0 _ rfl rfl rfl (Wk.refl _) (pf0 _) (by exact ty_api_Config) (sz_S_api_Config _) rfl rfl) ?_
  refine r_d rfl rfl rfl (s_assign rfl rfl) ?_
  refine r_end ?_
  obtain rfl := Option.some.inj hr
  refine g_ret Tryz.func19 _ (.cons (resRef rfl (.head _) (by exact ty_api_Config) (sz_S_api_Config _) (Wk.refl _)) (.cons (resTmp rfl (Wk.refl _)) .nil)) ?_
  rfl

noncomputable def lf_constraintlaw52_same (a_a0 : (List Int)) (b_a1 : (List Int)) : Option (Bool) :=
  some (((strY a_a0).toList == (strY b_a1).toList))

set_option maxHeartbeats 1000000 in
theorem lg_constraintlaw52_same (a_a0 : (List Int)) (b_a1 : (List Int)) (res : Bool) (hr : lf_constraintlaw52_same a_a0 b_a1 = some res) : Gives Tryz.prog 12 [.lst (a_a0.map (D.int .u8)), .lst (b_a1.map (D.int .u8))] (.bool res) := by
  unfold lf_constraintlaw52_same at hr
  refine spec_env [(0, .lst (a_a0.map (D.int .u8))), (1, .lst (b_a1.map (D.int .u8)))] Tryz.func12 rfl rfl fun K hK => ?_
  refine g_seq ?_
  refine g_run (by kernel_rfl) [(0, .d)] rfl ?_
  refine r_d rfl rfl rfl (s_assign rfl rfl) ?_
  refine r_end ?_
  refine g_seq ?_
  refine g_run (by kernel_rfl) [(0, .d), (1, .d), (2, .d), (3, .d), (4, .d), (5, .d)] rfl ?_
  refine r_d rfl rfl rfl (s_move rfl rfl) ?_
  refine r_d rfl rfl rfl (s_toStr a_a0 rfl Tryz.underlying30 Tryz.underlying5 Tryz.underlying9 rfl (asl rfl)) ?_
  refine r_d rfl rfl rfl (s_move rfl rfl) ?_
  refine r_d rfl rfl rfl (s_toStr b_a1 rfl Tryz.underlying30 Tryz.underlying5 Tryz.underlying9 rfl (asl rfl)) ?_
  refine r_d rfl rfl rfl (s_cmpS rfl rfl rfl rfl) ?_
  refine r_d rfl rfl rfl (s_assign rfl rfl) ?_
  refine r_end ?_
  obtain rfl := Option.some.inj hr
  refine g_ret Tryz.func12 _ (.cons (resTmp rfl (Wk.refl _)) .nil) ?_
  rfl

noncomputable def lf_constraintlaw52_exampleHolds (fuel : Nat) : Option (Bool) :=
  ((lf_snapshot_TakeProgram fuel [2, 2, 2, 112, 0, 0]).bind fun r_1 =>
  ((lf_snapshot_TakeProgram fuel [2, 0]).bind fun r_3 =>
  ((lf_snapshot_TakeProgram fuel [4, 0, 0]).bind fun r_5 =>
  ((lf_snapshot_Config fuel (⟨[(⟨(⟨2, ⟨#[]⟩, []⟩ : Gl), 0, 0⟩ : S_api_Frame), (⟨(⟨0, ⟨#[]⟩, []⟩ : Gl), 4, (-1)⟩ : S_api_Frame)], [], [], [], 1, 0, false⟩ : S_api_Config)).bind fun r_7 =>
  ((lf_snapshot_TakeConfig fuel r_7).bind fun r_8 =>
  (bif (r_1.2 == (0 : Int)) then
  (bif ((r_1.1.f0_Decls.length : Int) == (1 : Int)) then
  ((getI r_1.1.f0_Decls 0).bind fun q_12 =>
  (bif (q_12.f0_Name.toList == (⟨#[112]⟩ : ByteArray).toList) then
  (bif (r_3.2 == (4 : Int)) then
  (bif (r_5.2 == (5 : Int)) then
  ((lf_snapshot_Memory fuel (⟨[], [], [], 1, 0⟩ : S_api_Memory)).bind fun r_16 =>
  ((lf_constraintlaw52_same r_16 [6, 0, 0, 0, 2, 0]).bind fun r_17 =>
  (bif r_17 then
  (bif (r_8.2 == (0 : Int)) then
  (bif ((r_8.1.f0_Stack.length : Int) == (2 : Int)) then
  ((getI r_8.1.f0_Stack 1).bind fun q_21 =>
  (bif (q_21.f2_Occ == ((-1) : Int)) then
  ((lf_snapshot_Program fuel (⟨[(⟨⟨#[]⟩, 7⟩ : S_api_Decl)], []⟩ : S_api_Program)).bind fun r_23 =>
  some (((r_23.length : Int) == (0 : Int))))
  else
  some (false)))
  else
  some (false))
  else
  some (false))
  else
  some (false))))
  else
  some (false))
  else
  some (false))
  else
  some (false)))
  else
  some (false))
  else
  some (false)))))))

set_option maxHeartbeats 1000000 in
theorem lg_constraintlaw52_exampleHolds (fuel : Nat) (res : Bool) (hr : lf_constraintlaw52_exampleHolds fuel = some res) : Gives Tryz.prog 10 [] (.bool res) := by
  unfold lf_constraintlaw52_exampleHolds at hr
  refine spec_env [] Tryz.func10 rfl rfl fun K hK => ?_
  refine g_seq ?_
  refine g_run (by kernel_rfl) [(0, .d)] rfl ?_
  refine r_d rfl rfl rfl (s_assign rfl rfl) ?_
  refine r_end ?_
  refine g_seq ?_
  refine g_run (by kernel_rfl) [(0, .d), (1, .d), (2, .d), (3, .d), (4, .d), (5, .w), (6, .w), (7, .d)] rfl ?_
  refine r_d rfl rfl rfl (m_lit (f := (D.int .u8)) [.const (.int .u8 (2)), .const (.int .u8 (2)), .const (.int .u8 (2)), .const (.int .u8 (112)), .const (.int .u8 (0)), .const (.int .u8 (0))] [2, 2, 2, 112, 0, 0] rfl el_L_uint8 rfl rfl (by decide) (by decide) (.cons rfl (Wk.refl _) (.cons rfl (Wk.refl _) (.cons rfl (Wk.refl _) (.cons rfl (Wk.refl _) (.cons rfl (Wk.refl _) (.cons rfl (Wk.refl _) .nil)))))) (fun _ => rfl) (fun _ => rfl)) ?_
  obtain ⟨r_1, hr_1, hr⟩ := bindS hr
  refine r_d rfl rfl rfl (by exact s_callD rfl cl_snapshot_TakeProgram (.cons rfl (Wk.full _) .nil) (lg_snapshot_TakeProgram fuel _ _ hr_1)) ?_
  refine r_d rfl rfl rfl (s_move rfl rfl) ?_
  refine r_d rfl rfl rfl (s_extract rfl rfl rfl) ?_
  refine r_d rfl rfl rfl (s_extract rfl rfl rfl) ?_
  refine r_w rfl rfl rfl (s_alloc rfl zv_api_Program) ?_
  rintro _ _ ⟨b1_1, rfl, rfl⟩
  refine r_w01 rfl rfl rfl (t_store0 _ rfl rfl rfl (Wk.refl _) (pf0 _) (by exact ty_api_Program) (sz_S_api_Program _) rfl rfl) ?_
  refine r_d rfl rfl rfl (s_assign rfl rfl) ?_
  refine r_end ?_
  refine g_freeze 1 b1_1 rfl (pf0 _) ?_
  refine g_seq ?_
  refine g_run (by kernel_rfl) [(0, .d), (1, .d), (2, .d), (3, .d), (4, .d), (5, .w), (6, .w), (7, .d)] rfl ?_
  refine r_d rfl rfl rfl (m_lit (f := (D.int .u8)) [.const (.int .u8 (2)), .const (.int .u8 (0))] [2, 0] rfl el_L_uint8 rfl rfl (by decide) (by decide) (.cons rfl (Wk.refl _) (.cons rfl (Wk.refl _) .nil)) (fun _ => rfl) (fun _ => rfl)) ?_
  obtain ⟨r_3, hr_3, hr⟩ := bindS hr
  refine r_d rfl rfl rfl (by exact s_callD rfl cl_snapshot_TakeProgram (.cons rfl (Wk.full _) .nil) (lg_snapshot_TakeProgram fuel _ _ hr_3)) ?_
  refine r_d rfl rfl rfl (s_move rfl rfl) ?_
  refine r_d rfl rfl rfl (s_extract rfl rfl rfl) ?_
  refine r_d rfl rfl rfl (s_extract rfl rfl rfl) ?_
  refine r_w rfl rfl rfl (s_alloc rfl zv_api_Program) ?_
  rintro _ _ ⟨b3_3, rfl, rfl⟩
  refine r_w01 rfl rfl rfl (t_store0 _ rfl rfl rfl (Wk.refl _) (pf0 _) (by exact ty_api_Program) (sz_S_api_Program _) rfl rfl) ?_
  refine r_d rfl rfl rfl (s_assign rfl rfl) ?_
  refine r_end ?_
  refine g_freeze 3 b3_3 rfl (pf0 _) ?_
  refine g_seq ?_
  refine g_run (by kernel_rfl) [(0, .d), (1, .d), (2, .d), (3, .d), (4, .d), (5, .w), (6, .w), (7, .d)] rfl ?_
  refine r_d rfl rfl rfl (m_lit (f := (D.int .u8)) [.const (.int .u8 (4)), .const (.int .u8 (0)), .const (.int .u8 (0))] [4, 0, 0] rfl el_L_uint8 rfl rfl (by decide) (by decide) (.cons rfl (Wk.refl _) (.cons rfl (Wk.refl _) (.cons rfl (Wk.refl _) .nil))) (fun _ => rfl) (fun _ => rfl)) ?_
  obtain ⟨r_5, hr_5, hr⟩ := bindS hr
  refine r_d rfl rfl rfl (by exact s_callD rfl cl_snapshot_TakeProgram (.cons rfl (Wk.full _) .nil) (lg_snapshot_TakeProgram fuel _ _ hr_5)) ?_
  refine r_d rfl rfl rfl (s_move rfl rfl) ?_
  refine r_d rfl rfl rfl (s_extract rfl rfl rfl) ?_
  refine r_d rfl rfl rfl (s_extract rfl rfl rfl) ?_
  refine r_w rfl rfl rfl (s_alloc rfl zv_api_Program) ?_
  rintro _ _ ⟨b5_5, rfl, rfl⟩
  refine r_w01 rfl rfl rfl (t_store0 _ rfl rfl rfl (Wk.refl _) (pf0 _) (by exact ty_api_Program) (sz_S_api_Program _) rfl rfl) ?_
  refine r_d rfl rfl rfl (s_assign rfl rfl) ?_
  refine r_end ?_
  refine g_freeze 5 b5_5 rfl (pf0 _) ?_
  refine g_seq ?_
  refine g_run (by kernel_rfl) [(0, .d), (1, .d), (2, .d), (3, .d), (4, .d), (5, .d), (6, .d), (7, .d), (8, .d), (9, .d), (10, .w), (11, .w), (12, .d)] rfl ?_
  refine r_d rfl rfl rfl (s_build rfl bt_api_Goal (.cons rfl (Wk.refl _) .nil) (.cons rfl rfl rfl (.nil _))) ?_
  refine r_d rfl rfl rfl (s_build rfl bt_api_Frame (.cons rfl (Wk.refl _) .nil) (.cons rfl rfl rfl (.nil _))) ?_
  refine r_d rfl rfl rfl (s_build rfl bt_api_Frame (.cons rfl (Wk.refl _) (.cons rfl (Wk.refl _) .nil)) (.cons rfl rfl rfl (.cons rfl rfl rfl (.nil _)))) ?_
  refine r_d rfl rfl rfl (m_lit (f := enc_S_api_Frame) [.tmp 26, .tmp 27] [(⟨(⟨2, ⟨#[]⟩, []⟩ : Gl), 0, 0⟩ : S_api_Frame), (⟨(⟨0, ⟨#[]⟩, []⟩ : Gl), 4, (-1)⟩ : S_api_Frame)] rfl el_L_api_Frame rfl rfl (by decide) (by decide) (.cons rfl (Wk.refl _) (.cons rfl (Wk.refl _) .nil)) sz_S_api_Frame (fun _ => rfl)) ?_
  refine r_d rfl rfl rfl (s_build rfl bt_api_Config (.cons rfl (Wk.refl _) (.cons rfl (Wk.full _) .nil)) (.cons rfl rfl rfl (.cons rfl rfl rfl (.nil _)))) ?_
  obtain ⟨r_7, hr_7, hr⟩ := bindS hr
  refine r_d rfl rfl rfl (s_callD rfl cl_snapshot_Config (.cons rfl (Wk.refl _) .nil) (lg_snapshot_Config fuel _ _ hr_7)) ?_
  obtain ⟨r_8, hr_8, hr⟩ := bindS hr
  refine r_d rfl rfl rfl (s_callD rfl cl_snapshot_TakeConfig (.cons rfl (Wk.refl _) .nil) (lg_snapshot_TakeConfig fuel _ _ hr_8)) ?_
  refine r_d rfl rfl rfl (s_move rfl rfl) ?_
  refine r_d rfl rfl rfl (s_extract rfl rfl rfl) ?_
  refine r_d rfl rfl rfl (s_extract rfl rfl rfl) ?_
  refine r_w rfl rfl rfl (s_alloc rfl zv_api_Config) ?_
  rintro _ _ ⟨b7_8, rfl, rfl⟩
  refine r_w01 rfl rfl rfl (t_store0 _ rfl rfl rfl (Wk.refl _) (pf0 _) (by exact ty_api_Config) (sz_S_api_Config _) rfl rfl) ?_
  refine r_d rfl rfl rfl (s_assign rfl rfl) ?_
  refine r_end ?_
  refine g_freeze 7 b7_8 rfl (pf0 _) ?_
  refine g_seq ?_
  refine g_run (by kernel_rfl) [(0, .d), (1, .d), (2, .d), (3, .d), (4, .d), (5, .d), (6, .d), (7, .d), (8, .d), (9, .d), (10, .d), (11, .d), (12, .d), (13, .d), (14, .d), (15, .d), (16, .d), (17, .d), (18, .d), (19, .d), (20, .d), (21, .d), (22, .d), (23, .d), (24, .d), (25, .d), (26, .d), (27, .d), (28, .d), (29, .d), (30, .d), (31, .d), (32, .d), (33, .d), (34, .d), (35, .d), (36, .d), (37, .d), (38, .d), (39, .d), (40, .d), (41, .d), (42, .d), (43, .d), (44, .d), (45, .d), (46, .d), (47, .d), (48, .d), (49, .d), (50, .d), (51, .d), (52, .d), (53, .d), (54, .d), (55, .d), (56, .d)] rfl ?_
  refine r_d rfl rfl rfl (s_move rfl rfl) ?_
  refine r_d rfl rfl rfl (s_cmp rfl rfl rfl rfl) ?_
  refine r_d rfl rfl rfl (s_move rfl rfl) ?_
  refine r_sB 36 rfl hr (fun h36_9 hr => ?_) (fun h36_9 hr => ?_)
  ·
   refine r_d rfl rfl rfl (s_fieldAddr rfl fl_api_Program_0 rfl rfl rfl rfl) ?_
   refine r_d rfl rfl rfl (s_load rfl rfl (by exact ty_L_api_Decl) rfl) ?_
   refine r_d rfl rfl rfl (m_len (f := enc_S_api_Decl) r_1.1.f0_Decls rfl el_L_api_Decl rfl (asl rfl)) ?_
   refine r_d rfl rfl rfl (s_cmp rfl rfl rfl rfl) ?_
   refine r_d rfl rfl rfl (s_pickT rfl rfl rfl) ?_
   refine r_d rfl rfl rfl (s_move rfl rfl) ?_
   refine r_sB 42 rfl hr (fun h42_10 hr => ?_) (fun h42_10 hr => ?_)
   ·
    refine r_d rfl rfl rfl (s_fieldAddr rfl fl_api_Program_0 rfl rfl rfl rfl) ?_
    refine r_d rfl rfl rfl (s_load rfl rfl (by exact ty_L_api_Decl) rfl) ?_
    obtain ⟨q_12, hq_12, hr⟩ := bindS hr
    refine r_d rfl rfl rfl (m_index (f := enc_S_api_Decl) r_1.1.f0_Decls rfl el_L_api_Decl rfl (asl rfl) rfl hq_12 sz_S_api_Decl rfl) ?_
    refine r_d rfl rfl rfl (s_fieldAddr rfl fl_api_Decl_0 rfl rfl rfl rfl) ?_
    refine r_d rfl rfl rfl (s_load rfl rfl (by exact ty_string) rfl) ?_
    refine r_d rfl rfl rfl (s_cmpS rfl rfl rfl rfl) ?_
    refine r_d rfl rfl rfl (s_pickT rfl rfl rfl) ?_
    refine r_d rfl rfl rfl (s_move rfl rfl) ?_
    refine r_sB 50 rfl hr (fun h50_12 hr => ?_) (fun h50_12 hr => ?_)
    ·
     refine r_d rfl rfl rfl (s_move rfl rfl) ?_
     refine r_d rfl rfl rfl (s_cmp rfl rfl rfl rfl) ?_
     refine r_d rfl rfl rfl (s_pickT rfl rfl rfl) ?_
     refine r_d rfl rfl rfl (s_move rfl rfl) ?_
     refine r_sB 54 rfl hr (fun h54_13 hr => ?_) (fun h54_13 hr => ?_)
     ·
      refine r_d rfl rfl rfl (s_move rfl rfl) ?_
      refine r_d rfl rfl rfl (s_cmp rfl rfl rfl rfl) ?_
      refine r_d rfl rfl rfl (s_pickT rfl rfl rfl) ?_
      refine r_d rfl rfl rfl (s_move rfl rfl) ?_
      refine r_sB 58 rfl hr (fun h58_14 hr => ?_) (fun h58_14 hr => ?_)
      ·
       refine r_d rfl rfl rfl (s_build rfl bt_api_Memory (.cons rfl (Wk.refl _) .nil) (.cons rfl rfl rfl (.nil _))) ?_
       obtain ⟨r_16, hr_16, hr⟩ := bindS hr
       refine r_d rfl rfl rfl (s_callD rfl cl_snapshot_Memory (.cons rfl (Wk.refl _) .nil) (lg_snapshot_Memory fuel _ _ hr_16)) ?_
       refine r_d rfl rfl rfl (m_lit (f := (D.int .u8)) [.const (.int .u8 (6)), .const (.int .u8 (0)), .const (.int .u8 (0)), .const (.int .u8 (0)), .const (.int .u8 (2)), .const (.int .u8 (0))] [6, 0, 0, 0, 2, 0] rfl el_L_uint8 rfl rfl (by decide) (by decide) (.cons rfl (Wk.refl _) (.cons rfl (Wk.refl _) (.cons rfl (Wk.refl _) (.cons rfl (Wk.refl _) (.cons rfl (Wk.refl _) (.cons rfl (Wk.refl _) .nil)))))) (fun _ => rfl) (fun _ => rfl)) ?_
       obtain ⟨r_17, hr_17, hr⟩ := bindS hr
       refine r_d rfl rfl rfl (by exact s_callD rfl cl_constraintlaw52_same (.cons rfl (Wk.refl _) (.cons rfl (Wk.full _) .nil)) (lg_constraintlaw52_same _ _ _ hr_17)) ?_
       refine r_d rfl rfl rfl (s_pickT rfl rfl rfl) ?_
       refine r_d rfl rfl rfl (s_move rfl rfl) ?_
       refine r_sB 64 rfl hr (fun h64_17 hr => ?_) (fun h64_17 hr => ?_)
       ·
        refine r_d rfl rfl rfl (s_move rfl rfl) ?_
        refine r_d rfl rfl rfl (s_cmp rfl rfl rfl rfl) ?_
        refine r_d rfl rfl rfl (s_pickT rfl rfl rfl) ?_
        refine r_d rfl rfl rfl (s_move rfl rfl) ?_
        refine r_sB 68 rfl hr (fun h68_18 hr => ?_) (fun h68_18 hr => ?_)
        ·
         refine r_d rfl rfl rfl (s_fieldAddr rfl fl_api_Config_0 rfl rfl rfl rfl) ?_
         refine r_d rfl rfl rfl (s_load rfl rfl (by exact ty_L_api_Frame) rfl) ?_
         refine r_d rfl rfl rfl (m_len (f := enc_S_api_Frame) r_8.1.f0_Stack rfl el_L_api_Frame rfl (asl rfl)) ?_
         refine r_d rfl rfl rfl (s_cmp rfl rfl rfl rfl) ?_
         refine r_d rfl rfl rfl (s_pickT rfl rfl rfl) ?_
         refine r_d rfl rfl rfl (s_move rfl rfl) ?_
         refine r_sB 74 rfl hr (fun h74_19 hr => ?_) (fun h74_19 hr => ?_)
         ·
          refine r_d rfl rfl rfl (s_fieldAddr rfl fl_api_Config_0 rfl rfl rfl rfl) ?_
          refine r_d rfl rfl rfl (s_load rfl rfl (by exact ty_L_api_Frame) rfl) ?_
          obtain ⟨q_21, hq_21, hr⟩ := bindS hr
          refine r_d rfl rfl rfl (m_index (f := enc_S_api_Frame) r_8.1.f0_Stack rfl el_L_api_Frame rfl (asl rfl) rfl hq_21 sz_S_api_Frame rfl) ?_
          refine r_d rfl rfl rfl (s_fieldAddr rfl fl_api_Frame_2 rfl rfl (by simp [szs, sz, sz_encG]) rfl) ?_
          refine r_d rfl rfl rfl (s_load rfl rfl (by exact ty_int) rfl) ?_
          refine r_d rfl rfl rfl (s_cmp rfl rfl rfl rfl) ?_
          refine r_d rfl rfl rfl (s_pickT rfl rfl rfl) ?_
          refine r_d rfl rfl rfl (s_move rfl rfl) ?_
          refine r_sB 82 rfl hr (fun h82_21 hr => ?_) (fun h82_21 hr => ?_)
          ·
           refine r_d rfl rfl rfl (s_build rfl bt_api_Decl (.cons rfl (Wk.refl _) .nil) (.cons rfl rfl rfl (.nil _))) ?_
           refine r_d rfl rfl rfl (m_lit (f := enc_S_api_Decl) [.tmp 83] [(⟨⟨#[]⟩, 7⟩ : S_api_Decl)] rfl el_L_api_Decl rfl rfl (by decide) (by decide) (.cons rfl (Wk.refl _) .nil) sz_S_api_Decl (fun _ => rfl)) ?_
           refine r_d rfl rfl rfl (s_build rfl bt_api_Program (.cons rfl (Wk.full _) .nil) (.cons rfl rfl rfl (.nil _))) ?_
           obtain ⟨r_23, hr_23, hr⟩ := bindS hr
           refine r_d rfl rfl rfl (s_callD rfl cl_snapshot_Program (.cons rfl (Wk.refl _) .nil) (lg_snapshot_Program fuel _ _ hr_23)) ?_
           refine r_d rfl rfl rfl (m_len (f := (D.int .u8)) r_23 rfl el_L_uint8 rfl (asl rfl)) ?_
           refine r_d rfl rfl rfl (s_cmp rfl rfl rfl rfl) ?_
           refine r_d rfl rfl rfl (s_pickT rfl rfl rfl) ?_
           refine r_d rfl rfl rfl (s_assign rfl rfl) ?_
           refine r_end ?_
           obtain rfl := Option.some.inj hr
           refine g_ret Tryz.func10 _ (.cons (resTmp rfl (Wk.refl _)) .nil) ?_
           rfl
          ·
           refine r_skip rfl rfl rfl ?_
           refine r_skip rfl rfl rfl ?_
           refine r_skip rfl rfl rfl ?_
           refine r_skip rfl rfl rfl ?_
           refine r_skip rfl rfl rfl ?_
           refine r_skip rfl rfl rfl ?_
           refine r_d rfl rfl rfl (s_pickF rfl rfl rfl) ?_
           refine r_d rfl rfl rfl (s_assign rfl rfl) ?_
           refine r_end ?_
           obtain rfl := Option.some.inj hr
           refine g_ret Tryz.func10 _ (.cons (resTmp rfl (Wk.refl _)) .nil) ?_
           rfl
         ·
          refine r_skip rfl rfl rfl ?_
          refine r_skip rfl rfl rfl ?_
          refine r_skip rfl rfl rfl ?_
          refine r_skip rfl rfl rfl ?_
          refine r_skip rfl rfl rfl ?_
          refine r_skip rfl rfl rfl ?_
          refine r_d rfl rfl rfl (s_pickF rfl rfl rfl) ?_
          refine r_d rfl rfl rfl (s_move rfl rfl) ?_
          refine r_skip rfl rfl rfl ?_
          refine r_skip rfl rfl rfl ?_
          refine r_skip rfl rfl rfl ?_
          refine r_skip rfl rfl rfl ?_
          refine r_skip rfl rfl rfl ?_
          refine r_skip rfl rfl rfl ?_
          refine r_d rfl rfl rfl (s_pickF rfl rfl rfl) ?_
          refine r_d rfl rfl rfl (s_assign rfl rfl) ?_
          refine r_end ?_
          obtain rfl := Option.some.inj hr
          refine g_ret Tryz.func10 _ (.cons (resTmp rfl (Wk.refl _)) .nil) ?_
          rfl
        ·
         refine r_skip rfl rfl rfl ?_
         refine r_skip rfl rfl rfl ?_
         refine r_skip rfl rfl rfl ?_
         refine r_skip rfl rfl rfl ?_
         refine r_d rfl rfl rfl (s_pickF rfl rfl rfl) ?_
         refine r_d rfl rfl rfl (s_move rfl rfl) ?_
         refine r_skip rfl rfl rfl ?_
         refine r_skip rfl rfl rfl ?_
         refine r_skip rfl rfl rfl ?_
         refine r_skip rfl rfl rfl ?_
         refine r_skip rfl rfl rfl ?_
         refine r_skip rfl rfl rfl ?_
         refine r_d rfl rfl rfl (s_pickF rfl rfl rfl) ?_
         refine r_d rfl rfl rfl (s_move rfl rfl) ?_
         refine r_skip rfl rfl rfl ?_
         refine r_skip rfl rfl rfl ?_
         refine r_skip rfl rfl rfl ?_
         refine r_skip rfl rfl rfl ?_
         refine r_skip rfl rfl rfl ?_
         refine r_skip rfl rfl rfl ?_
         refine r_d rfl rfl rfl (s_pickF rfl rfl rfl) ?_
         refine r_d rfl rfl rfl (s_assign rfl rfl) ?_
         refine r_end ?_
         obtain rfl := Option.some.inj hr
         refine g_ret Tryz.func10 _ (.cons (resTmp rfl (Wk.refl _)) .nil) ?_
         rfl
       ·
        refine r_skip rfl rfl rfl ?_
        refine r_skip rfl rfl rfl ?_
        refine r_d rfl rfl rfl (s_pickF rfl rfl rfl) ?_
        refine r_d rfl rfl rfl (s_move rfl rfl) ?_
        refine r_skip rfl rfl rfl ?_
        refine r_skip rfl rfl rfl ?_
        refine r_skip rfl rfl rfl ?_
        refine r_skip rfl rfl rfl ?_
        refine r_d rfl rfl rfl (s_pickF rfl rfl rfl) ?_
        refine r_d rfl rfl rfl (s_move rfl rfl) ?_
        refine r_skip rfl rfl rfl ?_
        refine r_skip rfl rfl rfl ?_
        refine r_skip rfl rfl rfl ?_
        refine r_skip rfl rfl rfl ?_
        refine r_skip rfl rfl rfl ?_
        refine r_skip rfl rfl rfl ?_
        refine r_d rfl rfl rfl (s_pickF rfl rfl rfl) ?_
        refine r_d rfl rfl rfl (s_move rfl rfl) ?_
        refine r_skip rfl rfl rfl ?_
        refine r_skip rfl rfl rfl ?_
        refine r_skip rfl rfl rfl ?_
        refine r_skip rfl rfl rfl ?_
        refine r_skip rfl rfl rfl ?_
        refine r_skip rfl rfl rfl ?_
        refine r_d rfl rfl rfl (s_pickF rfl rfl rfl) ?_
        refine r_d rfl rfl rfl (s_assign rfl rfl) ?_
        refine r_end ?_
        obtain rfl := Option.some.inj hr
        refine g_ret Tryz.func10 _ (.cons (resTmp rfl (Wk.refl _)) .nil) ?_
        rfl
      ·
       refine r_skip rfl rfl rfl ?_
       refine r_skip rfl rfl rfl ?_
       refine r_skip rfl rfl rfl ?_
       refine r_skip rfl rfl rfl ?_
       refine r_d rfl rfl rfl (s_pickF rfl rfl rfl) ?_
       refine r_d rfl rfl rfl (s_move rfl rfl) ?_
       refine r_skip rfl rfl rfl ?_
       refine r_skip rfl rfl rfl ?_
       refine r_d rfl rfl rfl (s_pickF rfl rfl rfl) ?_
       refine r_d rfl rfl rfl (s_move rfl rfl) ?_
       refine r_skip rfl rfl rfl ?_
       refine r_skip rfl rfl rfl ?_
       refine r_skip rfl rfl rfl ?_
       refine r_skip rfl rfl rfl ?_
       refine r_d rfl rfl rfl (s_pickF rfl rfl rfl) ?_
       refine r_d rfl rfl rfl (s_move rfl rfl) ?_
       refine r_skip rfl rfl rfl ?_
       refine r_skip rfl rfl rfl ?_
       refine r_skip rfl rfl rfl ?_
       refine r_skip rfl rfl rfl ?_
       refine r_skip rfl rfl rfl ?_
       refine r_skip rfl rfl rfl ?_
       refine r_d rfl rfl rfl (s_pickF rfl rfl rfl) ?_
       refine r_d rfl rfl rfl (s_move rfl rfl) ?_
       refine r_skip rfl rfl rfl ?_
       refine r_skip rfl rfl rfl ?_
       refine r_skip rfl rfl rfl ?_
       refine r_skip rfl rfl rfl ?_
       refine r_skip rfl rfl rfl ?_
       refine r_skip rfl rfl rfl ?_
       refine r_d rfl rfl rfl (s_pickF rfl rfl rfl) ?_
       refine r_d rfl rfl rfl (s_assign rfl rfl) ?_
       refine r_end ?_
       obtain rfl := Option.some.inj hr
       refine g_ret Tryz.func10 _ (.cons (resTmp rfl (Wk.refl _)) .nil) ?_
       rfl
     ·
      refine r_skip rfl rfl rfl ?_
      refine r_skip rfl rfl rfl ?_
      refine r_d rfl rfl rfl (s_pickF rfl rfl rfl) ?_
      refine r_d rfl rfl rfl (s_move rfl rfl) ?_
      refine r_skip rfl rfl rfl ?_
      refine r_skip rfl rfl rfl ?_
      refine r_skip rfl rfl rfl ?_
      refine r_skip rfl rfl rfl ?_
      refine r_d rfl rfl rfl (s_pickF rfl rfl rfl) ?_
      refine r_d rfl rfl rfl (s_move rfl rfl) ?_
      refine r_skip rfl rfl rfl ?_
      refine r_skip rfl rfl rfl ?_
      refine r_d rfl rfl rfl (s_pickF rfl rfl rfl) ?_
      refine r_d rfl rfl rfl (s_move rfl rfl) ?_
      refine r_skip rfl rfl rfl ?_
      refine r_skip rfl rfl rfl ?_
      refine r_skip rfl rfl rfl ?_
      refine r_skip rfl rfl rfl ?_
      refine r_d rfl rfl rfl (s_pickF rfl rfl rfl) ?_
      refine r_d rfl rfl rfl (s_move rfl rfl) ?_
      refine r_skip rfl rfl rfl ?_
      refine r_skip rfl rfl rfl ?_
      refine r_skip rfl rfl rfl ?_
      refine r_skip rfl rfl rfl ?_
      refine r_skip rfl rfl rfl ?_
      refine r_skip rfl rfl rfl ?_
      refine r_d rfl rfl rfl (s_pickF rfl rfl rfl) ?_
      refine r_d rfl rfl rfl (s_move rfl rfl) ?_
      refine r_skip rfl rfl rfl ?_
      refine r_skip rfl rfl rfl ?_
      refine r_skip rfl rfl rfl ?_
      refine r_skip rfl rfl rfl ?_
      refine r_skip rfl rfl rfl ?_
      refine r_skip rfl rfl rfl ?_
      refine r_d rfl rfl rfl (s_pickF rfl rfl rfl) ?_
      refine r_d rfl rfl rfl (s_assign rfl rfl) ?_
      refine r_end ?_
      obtain rfl := Option.some.inj hr
      refine g_ret Tryz.func10 _ (.cons (resTmp rfl (Wk.refl _)) .nil) ?_
      rfl
    ·
     refine r_skip rfl rfl rfl ?_
     refine r_skip rfl rfl rfl ?_
     refine r_d rfl rfl rfl (s_pickF rfl rfl rfl) ?_
     refine r_d rfl rfl rfl (s_move rfl rfl) ?_
     refine r_skip rfl rfl rfl ?_
     refine r_skip rfl rfl rfl ?_
     refine r_d rfl rfl rfl (s_pickF rfl rfl rfl) ?_
     refine r_d rfl rfl rfl (s_move rfl rfl) ?_
     refine r_skip rfl rfl rfl ?_
     refine r_skip rfl rfl rfl ?_
     refine r_skip rfl rfl rfl ?_
     refine r_skip rfl rfl rfl ?_
     refine r_d rfl rfl rfl (s_pickF rfl rfl rfl) ?_
     refine r_d rfl rfl rfl (s_move rfl rfl) ?_
     refine r_skip rfl rfl rfl ?_
     refine r_skip rfl rfl rfl ?_
     refine r_d rfl rfl rfl (s_pickF rfl rfl rfl) ?_
     refine r_d rfl rfl rfl (s_move rfl rfl) ?_
     refine r_skip rfl rfl rfl ?_
     refine r_skip rfl rfl rfl ?_
     refine r_skip rfl rfl rfl ?_
     refine r_skip rfl rfl rfl ?_
     refine r_d rfl rfl rfl (s_pickF rfl rfl rfl) ?_
     refine r_d rfl rfl rfl (s_move rfl rfl) ?_
     refine r_skip rfl rfl rfl ?_
     refine r_skip rfl rfl rfl ?_
     refine r_skip rfl rfl rfl ?_
     refine r_skip rfl rfl rfl ?_
     refine r_skip rfl rfl rfl ?_
     refine r_skip rfl rfl rfl ?_
     refine r_d rfl rfl rfl (s_pickF rfl rfl rfl) ?_
     refine r_d rfl rfl rfl (s_move rfl rfl) ?_
     refine r_skip rfl rfl rfl ?_
     refine r_skip rfl rfl rfl ?_
     refine r_skip rfl rfl rfl ?_
     refine r_skip rfl rfl rfl ?_
     refine r_skip rfl rfl rfl ?_
     refine r_skip rfl rfl rfl ?_
     refine r_d rfl rfl rfl (s_pickF rfl rfl rfl) ?_
     refine r_d rfl rfl rfl (s_assign rfl rfl) ?_
     refine r_end ?_
     obtain rfl := Option.some.inj hr
     refine g_ret Tryz.func10 _ (.cons (resTmp rfl (Wk.refl _)) .nil) ?_
     rfl
   ·
    refine r_skip rfl rfl rfl ?_
    refine r_skip rfl rfl rfl ?_
    refine r_skip rfl rfl rfl ?_
    refine r_skip rfl rfl rfl ?_
    refine r_skip rfl rfl rfl ?_
    refine r_skip rfl rfl rfl ?_
    refine r_d rfl rfl rfl (s_pickF rfl rfl rfl) ?_
    refine r_d rfl rfl rfl (s_move rfl rfl) ?_
    refine r_skip rfl rfl rfl ?_
    refine r_skip rfl rfl rfl ?_
    refine r_d rfl rfl rfl (s_pickF rfl rfl rfl) ?_
    refine r_d rfl rfl rfl (s_move rfl rfl) ?_
    refine r_skip rfl rfl rfl ?_
    refine r_skip rfl rfl rfl ?_
    refine r_d rfl rfl rfl (s_pickF rfl rfl rfl) ?_
    refine r_d rfl rfl rfl (s_move rfl rfl) ?_
    refine r_skip rfl rfl rfl ?_
    refine r_skip rfl rfl rfl ?_
    refine r_skip rfl rfl rfl ?_
    refine r_skip rfl rfl rfl ?_
    refine r_d rfl rfl rfl (s_pickF rfl rfl rfl) ?_
    refine r_d rfl rfl rfl (s_move rfl rfl) ?_
    refine r_skip rfl rfl rfl ?_
    refine r_skip rfl rfl rfl ?_
    refine r_d rfl rfl rfl (s_pickF rfl rfl rfl) ?_
    refine r_d rfl rfl rfl (s_move rfl rfl) ?_
    refine r_skip rfl rfl rfl ?_
    refine r_skip rfl rfl rfl ?_
    refine r_skip rfl rfl rfl ?_
    refine r_skip rfl rfl rfl ?_
    refine r_d rfl rfl rfl (s_pickF rfl rfl rfl) ?_
    refine r_d rfl rfl rfl (s_move rfl rfl) ?_
    refine r_skip rfl rfl rfl ?_
    refine r_skip rfl rfl rfl ?_
    refine r_skip rfl rfl rfl ?_
    refine r_skip rfl rfl rfl ?_
    refine r_skip rfl rfl rfl ?_
    refine r_skip rfl rfl rfl ?_
    refine r_d rfl rfl rfl (s_pickF rfl rfl rfl) ?_
    refine r_d rfl rfl rfl (s_move rfl rfl) ?_
    refine r_skip rfl rfl rfl ?_
    refine r_skip rfl rfl rfl ?_
    refine r_skip rfl rfl rfl ?_
    refine r_skip rfl rfl rfl ?_
    refine r_skip rfl rfl rfl ?_
    refine r_skip rfl rfl rfl ?_
    refine r_d rfl rfl rfl (s_pickF rfl rfl rfl) ?_
    refine r_d rfl rfl rfl (s_assign rfl rfl) ?_
    refine r_end ?_
    obtain rfl := Option.some.inj hr
    refine g_ret Tryz.func10 _ (.cons (resTmp rfl (Wk.refl _)) .nil) ?_
    rfl
  ·
   refine r_skip rfl rfl rfl ?_
   refine r_skip rfl rfl rfl ?_
   refine r_skip rfl rfl rfl ?_
   refine r_skip rfl rfl rfl ?_
   refine r_d rfl rfl rfl (s_pickF rfl rfl rfl) ?_
   refine r_d rfl rfl rfl (s_move rfl rfl) ?_
   refine r_skip rfl rfl rfl ?_
   refine r_skip rfl rfl rfl ?_
   refine r_skip rfl rfl rfl ?_
   refine r_skip rfl rfl rfl ?_
   refine r_skip rfl rfl rfl ?_
   refine r_skip rfl rfl rfl ?_
   refine r_d rfl rfl rfl (s_pickF rfl rfl rfl) ?_
   refine r_d rfl rfl rfl (s_move rfl rfl) ?_
   refine r_skip rfl rfl rfl ?_
   refine r_skip rfl rfl rfl ?_
   refine r_d rfl rfl rfl (s_pickF rfl rfl rfl) ?_
   refine r_d rfl rfl rfl (s_move rfl rfl) ?_
   refine r_skip rfl rfl rfl ?_
   refine r_skip rfl rfl rfl ?_
   refine r_d rfl rfl rfl (s_pickF rfl rfl rfl) ?_
   refine r_d rfl rfl rfl (s_move rfl rfl) ?_
   refine r_skip rfl rfl rfl ?_
   refine r_skip rfl rfl rfl ?_
   refine r_skip rfl rfl rfl ?_
   refine r_skip rfl rfl rfl ?_
   refine r_d rfl rfl rfl (s_pickF rfl rfl rfl) ?_
   refine r_d rfl rfl rfl (s_move rfl rfl) ?_
   refine r_skip rfl rfl rfl ?_
   refine r_skip rfl rfl rfl ?_
   refine r_d rfl rfl rfl (s_pickF rfl rfl rfl) ?_
   refine r_d rfl rfl rfl (s_move rfl rfl) ?_
   refine r_skip rfl rfl rfl ?_
   refine r_skip rfl rfl rfl ?_
   refine r_skip rfl rfl rfl ?_
   refine r_skip rfl rfl rfl ?_
   refine r_d rfl rfl rfl (s_pickF rfl rfl rfl) ?_
   refine r_d rfl rfl rfl (s_move rfl rfl) ?_
   refine r_skip rfl rfl rfl ?_
   refine r_skip rfl rfl rfl ?_
   refine r_skip rfl rfl rfl ?_
   refine r_skip rfl rfl rfl ?_
   refine r_skip rfl rfl rfl ?_
   refine r_skip rfl rfl rfl ?_
   refine r_d rfl rfl rfl (s_pickF rfl rfl rfl) ?_
   refine r_d rfl rfl rfl (s_move rfl rfl) ?_
   refine r_skip rfl rfl rfl ?_
   refine r_skip rfl rfl rfl ?_
   refine r_skip rfl rfl rfl ?_
   refine r_skip rfl rfl rfl ?_
   refine r_skip rfl rfl rfl ?_
   refine r_skip rfl rfl rfl ?_
   refine r_d rfl rfl rfl (s_pickF rfl rfl rfl) ?_
   refine r_d rfl rfl rfl (s_assign rfl rfl) ?_
   refine r_end ?_
   obtain rfl := Option.some.inj hr
   refine g_ret Tryz.func10 _ (.cons (resTmp rfl (Wk.refl _)) .nil) ?_
   rfl

end Go.Proofs.YtdoljfkjdfaakaaGreat


namespace Go.Proofs.YtdoljfkjdfaakaaGreat
set_option maxRecDepth 100000
open Go.RowKit

def TotP {α : Type} (x : Option α) (Q : α → Prop) : Prop := ∃ a, x = some a ∧ Q a
theorem TotP.pure {α : Type} {a : α} {Q : α → Prop} (h : Q a) : TotP (some a) Q := ⟨a, rfl, h⟩
theorem TotP.bind {α β : Type} {x : Option α} {R : α → Prop} {f : α → Option β} {Q : β → Prop} (h : TotP x R) (hf : ∀ a, R a → TotP (f a) Q) : TotP (x.bind f) Q := by
  obtain ⟨a, rfl, ha⟩ := h
  exact hf a ha
theorem TotP.cond {α : Type} {b : Bool} {x y : Option α} {Q : α → Prop} (h1 : b = true → TotP x Q) (h2 : b = false → TotP y Q) : TotP (bif b then x else y) Q := by
  cases b with
  | true => exact h1 rfl
  | false => exact h2 rfl
theorem TotP.mono {α : Type} {x : Option α} {Q R : α → Prop} (h : TotP x Q) (hq : ∀ a, Q a → R a) : TotP x R := by
  obtain ⟨a, h1, h2⟩ := h
  exact ⟨a, h1, hq a h2⟩
/-! ### names are strings of the machine -/
/-! ### memories that are few -/
/-! ### states that are small, of bulk at most 1048576 -/
end Go.Proofs.YtdoljfkjdfaakaaGreat


namespace Go.Proofs.YtdoljfkjdfaakaaGreat
set_option maxRecDepth 100000
open Go.RowKit

structure RuleW (x : S_api_Rule) : Prop where
  k : ∀ y ∈ x.f1_Keep, wtL y.ts ≤ 1000000000
  r : ∀ y ∈ x.f2_Remove, wtL y.ts ≤ 1000000000
  g : ∀ y ∈ x.f3_Guard, wtL y.ts ≤ 1000000000
  b : ∀ y ∈ x.f4_Body, wtL y.ts ≤ 1000000000
end Go.Proofs.YtdoljfkjdfaakaaGreat


namespace Go.Proofs.YtdoljfkjdfaakaaGreat
set_option maxRecDepth 100000
open Go.RowKit

theorem ex52 : lf_constraintlaw52_exampleHolds 30 = some true := by
  kernel_rfl
theorem cT {b : Bool} {x y : Option Bool} (h1 : b = true → x = some true) (h2 : b = false → y = some true) : (bif b then x else y) = some true := by
  cases b with
  | true => exact h1 rfl
  | false => exact h2 rfl
theorem RuleS.w {x : S_api_Rule} (h : RuleS x) : RuleW x := ⟨h.k, h.r, h.g, h.b⟩
/-! ### cuts -/
end Go.Proofs.YtdoljfkjdfaakaaGreat


namespace Go.Proofs.YtdoljfkjdfaakaaGreat
set_option maxRecDepth 100000
open Go.ChangeShapes Go.WideShapes Go.ChangeAt Go.RowKit

/-- Every cell that there is. -/
def live (w : World) (a : Addr) : Prop := ∃ v, w.cell? a = some v
theorem live_grow {w w' : World} (e : Ext w w') : Grow (live w) w (live w') w' := fun _ ⟨v, hv⟩ => ⟨⟨v, e.cellOf hv⟩, by rw [hv]; exact e.cellOf hv⟩
/-- A datum of a type, opened. -/
def Op (t : TypeId) (n : Nat) (S : D → Prop) : Prop := ∀ (H : Type) (enc : TypeId × Value → H) (W : World) (base : Nat) (sp : Nat → Bool) (hd : Bool) (fuel : Nat) (cs : List Value) (x : DataW H × List MemPlace),
  DataW.trod enc Tryz.prog W base sp hd fuel t cs = some x → ∃ d v, S d ∧ d.plain = true ∧ sz d = n ∧ Rep (live W) W d v ∧ cs = v.cells.toList
theorem Op.to {t : TypeId} {n : Nat} {S S' : D → Prop} (h : Op t n S) (k : ∀ d, S d → S' d) : Op t n S' := fun H enc W base sp hd fuel cs x hx => by
  obtain ⟨d, v, h1, h2⟩ := h H enc W base sp hd fuel cs x hx
  exact ⟨d, v, k d h1, h2⟩
theorem op_i64 {t : TypeId} (ht : (Tryz.prog).underlying t = some (.int .i64)) : Op t 1 fun d => ∃ n, d = .int .i64 n := fun H enc W base sp hd fuel cs x hx => by
  obtain ⟨k, rfl, _, w0⟩ := DataW.trod_int ht hx
  have := i64_of w0
  refine ⟨.int .i64 k, .int .i64 k, ⟨k, rfl⟩, rfl, rfl, ?_, by simp [Value.cells]⟩
  simp only [Rep]
  exact ⟨trivial, wrap64 (by unfold I64 at this; omega)⟩
theorem op_str {t : TypeId} (ht : (Tryz.prog).underlying t = some .string) : Op t 1 fun d => ∃ s, d = .str s := fun H enc W base sp hd fuel cs x hx => by
  obtain ⟨s, rfl, _, w0⟩ := DataW.trod_string ht hx
  refine ⟨.str s, .string s, ⟨s, rfl⟩, rfl, rfl, ?_, by simp [Value.cells]⟩
  simp only [Rep]
  exact ⟨trivial, by unfold maxLen at w0; omega⟩
/-- One predicate a field. -/
def Fits : List (D → Prop) → List D → Prop
  | [], [] => True
  | S :: ss, d :: ds => S d ∧ Fits ss ds
  | _, _ => False
/-- Fields, one behind the other, from an offset to the end. -/
def tight (P : Program) : Nat → List Field → Bool
  | _, [] => true
  | o, f :: fs => f.offset == o && tight P (o + P.cellsOf f.type) fs
theorem reps_ones {p : Addr → Prop} {w : World} : ∀ {ds : List D} {cs : List Value}, Reps p w ds cs → (∀ d ∈ ds, d.plain = true) → ∀ u ∈ cs, u.oneCell' = true
  | [], cs, h, _, u, hu => by simp only [Reps] at h; subst h; simp at hu
  | d :: ds, cs, h, hp, u, hu => by
    simp only [Reps] at h
    obtain ⟨v, rest, rfl, h1, h2⟩ := h
    rcases List.mem_append.1 hu with hu | hu
    · exact h1.one (hp d (List.mem_cons_self ..)) u hu
    · exact reps_ones h2 (fun e he => hp e (List.mem_cons_of_mem _ he)) u hu
def total (P : Program) : List Field → Nat
  | [] => 0
  | f :: fs => P.cellsOf f.type + total P fs
def Ops : List Field → List (D → Prop) → Prop
  | [], [] => True
  | f :: fs, S :: ss => Op f.type ((Tryz.prog).cellsOf f.type) S ∧ Ops fs ss
  | _, _ => False
theorem fields_open {H : Type} {enc : TypeId × Value → H} {W : World} {base : Nat} {sp : Nat → Bool} {hd : Bool} {n : Nat} {cs : List Value} :
    ∀ (fs : List Field) (ss : List (D → Prop)) (o : Nat), Ops fs ss → tight Tryz.prog o fs = true → o + total Tryz.prog fs = cs.length →
      (∀ (i : Nat) (f : Field), fs[i]? = some f → ∃ x, DataW.trod enc Tryz.prog W base sp hd n f.type ((cs.drop f.offset).take ((Tryz.prog).cellsOf f.type)) = some x) →
      ∃ ds, Fits ss ds ∧ (∀ d ∈ ds, d.plain = true) ∧ szs ds = total Tryz.prog fs ∧ Reps (live W) W ds (cs.drop o)
  | [], [], o, _, _, hl, _ => ⟨[], trivial, by simp, rfl, by simp only [total] at hl; rw [List.drop_eq_nil_of_le (by omega)]; exact Reps.nil _ _⟩
  | f :: fs, S :: ss, o, hop, ht, hl, hx => by
    simp only [tight, Bool.and_eq_true, beq_iff_eq] at ht
    simp only [total] at hl
    obtain ⟨ds, h1, h2, h3, h4⟩ := fields_open fs ss (o + (Tryz.prog).cellsOf f.type) hop.2 ht.2 (by omega) fun i g hg => hx (i + 1) g hg
    obtain ⟨x, h5⟩ := hx 0 f rfl
    rw [ht.1] at h5
    obtain ⟨d, v, g1, g2, g3, g4, g5⟩ := hop.1 H enc W base sp hd n _ x h5
    refine ⟨d :: ds, ⟨g1, h1⟩, ?_, by simp only [szs, total, g3, h3], ?_⟩
    · intro e he
      rcases List.mem_cons.1 he with rfl | he
      · exact g2
      · exact h2 e he
    · have := Reps.cons g4 h4
      rw [← g5, ← List.drop_drop, List.take_append_drop] at this
      exact this
  | [], _ :: _, _, h, _, _, _ => h.elim
  | _ :: _, [], _, h, _, _, _ => h.elim
theorem op_struct {t : TypeId} {fs : Array Field} {n : Nat} (ht : (Tryz.prog).underlying t = some (.struct fs)) (ss : List (D → Prop)) (hs : Ops fs.toList ss) (h1 : tight Tryz.prog 0 fs.toList = true) (h2 : total Tryz.prog fs.toList = n) (h3 : (Tryz.prog).cellsOf t = n) :
    Op t n fun d => ∃ ds, d = .agg ds ∧ Fits ss ds := fun H enc W base sp hd fuel cs x hx => by
  obtain ⟨xs, m, _, _, hl, hlen, hf⟩ := DataW.trod_struct ht hx
  obtain ⟨ds, g1, g2, g3, g4⟩ := fields_open (enc := enc) (W := W) (base := base) (sp := sp) (hd := hd) (n := m) (cs := cs) fs.toList ss 0 hs h1 (by omega) fun i f hi => by
    have hi' : fs[i]? = some f := by simpa using hi
    have hlt : i < xs.length := by
      have := (Array.getElem?_eq_some_iff.1 hi').1
      omega
    exact ⟨xs[i], by rw [hf i f hi', List.getElem?_eq_getElem hlt]⟩
  refine ⟨.agg ds, .agg cs.toArray, ⟨ds, rfl, g1⟩, rfl, by simp only [sz]; omega, ?_, by simp [Value.cells]⟩
  simp only [Rep]
  rw [List.drop_zero] at g4
  exact ⟨cs, rfl, g4, reps_ones g4 g2⟩
/-- Data of one size as a layout. -/
def layD (n : Nat) (hn : 0 < n) (S : D → Prop) : Lay D where
  C := fun w d cs => S d ∧ d.plain = true ∧ sz d = n ∧ ∃ v, Rep (live w) w d v ∧ cs = v.cells.toList
  n := n
  pos := hn
  ext := fun ⟨h1, h2, h3, v, h4, h5⟩ e => ⟨h1, h2, h3, v, h4.grow (live_grow e), h5⟩
  len := fun ⟨_, _, h3, v, h4, h5⟩ => by rw [h5, ← h3, ← h4.sz]; simp
  one := fun ⟨_, h2, _, v, h4, h5⟩ u hu => by subst h5; exact h4.one h2 u hu
theorem layD_ls {n : Nat} {hn : 0 < n} {S : D → Prop} {w : World} : ∀ {l : List D} {xs : List Value}, (layD n hn S).Ls w l xs → (∀ d ∈ l, S d ∧ d.plain = true) ∧ Reps (live w) w l xs
  | [], xs, h => by
    have h : xs = [] := h
    subst h
    exact ⟨by simp, Reps.nil _ _⟩
  | d :: l, xs, ⟨cs, ys, h1, ⟨g1, g2, _, v, g4, g5⟩, h3⟩ => by
    obtain ⟨k1, k2⟩ := layD_ls h3
    subst h1 g5
    refine ⟨?_, Reps.cons g4 k2⟩
    intro e he
    rcases List.mem_cons.1 he with rfl | he
    · exact ⟨g1, g2⟩
    · exact k1 e he
theorem rd_live {w : World} {A : Option Addr} {xs : List Value} (h : Rd w A xs) : RdP (live w) w A xs := by
  rcases h with h | ⟨ad, rfl, hc⟩
  · exact .inl h
  · by_cases he : xs = []
    · exact .inl he
    · have hlen : 0 < xs.length := List.length_pos_iff.2 he
      have hsp : ad.spot = none := by
        have := cell_spot (hc 0 _ (List.getElem?_eq_getElem hlen))
        simpa [Addr.add] using this
      obtain ⟨b, o, sp⟩ := ad
      simp only at hsp
      subst hsp
      refine .inr ⟨b, o, rfl, fun j u hu => ?_⟩
      have h1 : w.cell? ⟨b, o + j, none⟩ = some u := by have := hc j u hu; rwa [add_flat] at this
      exact ⟨⟨u, h1⟩, h1⟩
theorem op_slice {t e : TypeId} {n : Nat} {S : D → Prop} (ht : (Tryz.prog).underlying t = some (.slice e)) (hn : (Tryz.prog).cellsOf e = n) (hp : 0 < n) (he : Op e n S) : Op t 1 fun d => ∃ l, d = .lst l ∧ ∀ x ∈ l, S x := fun H enc W base sp hd fuel cs x hx => by
  obtain ⟨l, v, rfl, h1⟩ := Lay.open_sl (L := layD n hp S) ht hn (fun m cs x _ h => by
    obtain ⟨d, v, g1, g2, g3, g4, g5⟩ := he H enc W base sp hd m cs x h
    exact ⟨d, g1, g2, g3, v, g4, g5⟩) hx
  obtain ⟨A, c, xs, rfl, h2, h3, h4, h5⟩ := h1
  obtain ⟨h6, h7⟩ := layD_ls h5
  refine ⟨.lst l, .slice A l.length c, ⟨l, rfl, fun d hd => (h6 d hd).1⟩, rfl, rfl, ?_, by simp [Value.cells]⟩
  simp only [Rep]
  exact ⟨A, c, xs, rfl, h2, h3, rd_live h4, h7, reps_ones h7 fun d hd => (h6 d hd).2⟩
/-- A list of data that all show something is the list of what they show. -/
theorem list_img {α : Type} {f : α → D} : ∀ {l : List D}, (∀ x ∈ l, ∃ a, x = f a) → ∃ av : List α, l = av.map f
  | [], _ => ⟨[], rfl⟩
  | d :: l, h => by
    obtain ⟨a, rfl⟩ := h d (List.mem_cons_self ..)
    obtain ⟨av, rfl⟩ := list_img fun x hx => h x (List.mem_cons_of_mem _ hx)
    exact ⟨a :: av, rfl⟩
theorem op_list {α : Type} {f : α → D} {t e : TypeId} {n : Nat} (ht : (Tryz.prog).underlying t = some (.slice e)) (hn : (Tryz.prog).cellsOf e = n) (hp : 0 < n) (he : Op e n fun d => ∃ a, d = f a) : Op t 1 fun d => ∃ av : List α, d = .lst (av.map f) :=
  (op_slice ht hn hp he).to fun d ⟨l, hl, h⟩ => by
    obtain ⟨av, rfl⟩ := list_img h
    exact ⟨av, hl⟩

/-! ### terms -/
mutual
theorem rep_ct {w : World} : ∀ {t : T} {cs : List Value}, CT w t cs → Reps (live w) w (fsT t) cs
  | .mk k i s ar, cs, h => by
    simp only [CT] at h
    obtain ⟨A, c, xs, rfl, ⟨h1, h2, h3, h4, h5⟩, h6, h7⟩ := h
    have g := rep_cl h7
    simp only [fsT, Reps, Rep]
    refine ⟨.int .i64 k, _, by simp [Value.cells]; rfl, ⟨rfl, wrap64 (by unfold I64 at h1; omega)⟩, .int .i64 i, _, by simp [Value.cells]; rfl, ⟨rfl, wrap64 (by unfold I64 at h2; omega)⟩, .string s, _, by simp [Value.cells]; rfl, ⟨rfl, h3⟩, .slice A ar.length c, _, by simp [Value.cells], ⟨A, c, xs, ?_, ?_, h5, rd_live h6, g, reps_ones g ?_⟩, rfl⟩
    · rw [encTs_eq]; simp
    · rw [encTs_eq]; simpa using h4
    · rw [encTs_eq]
      intro d hd
      obtain ⟨t, _, rfl⟩ := List.mem_map.1 hd
      rfl
theorem rep_cl {w : World} : ∀ {ts : List T} {xs : List Value}, CL w ts xs → Reps (live w) w (encTs ts) xs
  | [], xs, h => by
    simp only [CL] at h
    subst h
    simp only [encTs, Reps]
  | t :: ts, xs, h => by
    simp only [CL] at h
    obtain ⟨cs, ys, rfl, h1, h2⟩ := h
    have g := rep_ct h1
    simp only [encTs, Reps]
    refine ⟨.agg cs.toArray, ys, by simp [Value.cells], ?_, rep_cl h2⟩
    simp only [Rep]
    exact ⟨cs, rfl, g, reps_ones g fun d hd => by
      rw [fsT_eq] at hd
      simp only [List.mem_cons, List.not_mem_nil, or_false] at hd
      rcases hd with rfl | rfl | rfl | rfl <;> rfl⟩
end
theorem op_term : Op 114 4 fun d => ∃ t, d = encT t := fun H enc W base sp hd fuel cs x hx => by
  obtain ⟨t, ht⟩ := open_termF fuel cs x hx
  have g := rep_ct ht
  refine ⟨encT t, .agg cs.toArray, ⟨t, rfl⟩, rfl, sz_encT t, ?_, by simp [Value.cells]⟩
  simp only [Rep]
  exact ⟨cs, rfl, g, reps_ones g fun d hd => by
    rw [fsT_eq] at hd
    simp only [List.mem_cons, List.not_mem_nil, or_false] at hd
    rcases hd with rfl | rfl | rfl | rfl <;> rfl⟩
theorem op_terms : Op 71 1 fun d => ∃ l : List T, d = .lst (l.map encT) := op_list Tryz.underlying71 cells_term (by omega) op_term
theorem op_goal : Op 73 3 fun d => ∃ g, d = encG g :=
  (op_struct Tryz.underlying73 [fun d => ∃ n, d = .int .i64 n, fun d => ∃ s, d = .str s, fun d => ∃ l : List T, d = .lst (l.map encT)] ⟨op_i64 Tryz.underlying3, op_str Tryz.underlying9, op_terms, trivial⟩ (by kernel_rfl) (by kernel_rfl) cells_goal).to fun d ⟨ds, hd, h⟩ => by
    match ds, h with
    | [_, _, _], ⟨⟨n, rfl⟩, ⟨s, rfl⟩, ⟨l, rfl⟩, _⟩ => exact ⟨⟨n, s, l⟩, hd⟩
/-! ### a law's arguments -/
/-- The value has the shape of its data. -/
def Cl (t : TypeId) (S : D → Prop) : Prop := ∀ (W : World) (b : Nat) (v : Value), Value.okWide Tryz.prog W .any b t v → ∀ d, S d → v = reval d v.cells.toList
theorem Cl.to {t : TypeId} {S S' : D → Prop} (h : Cl t S') (k : ∀ d, S d → S' d) : Cl t S := fun W b v hv d hd => h W b v hv d (k d hd)
theorem cl_struct {t : TypeId} {fs : Array Field} (ht : (Tryz.prog).underlying t = some (.struct fs)) : Cl t fun d => ∃ ds, d = .agg ds := fun W b v hv d ⟨ds, hd⟩ => by
  obtain ⟨cs, rfl, _⟩ := okWide_struct ht hv
  subst hd
  simp [Value.cells, reval]
structure Arg where
  t : TypeId
  n : Nat
  S : D → Prop
  op : Op t n S
  cl : Cl t S
theorem args_open {H : Type} {enc : TypeId × Value → H} {W : World} {base b : Nat} {sp : Nat → Bool} {hd : Bool} : ∀ (av : List Arg) (vs : List Value) (ds : List (DataW H)) (ps : List MemPlace),
    DataW.TrodAll enc Tryz.prog W base sp hd (av.map Arg.t) vs ds ps → (∀ (j : Nat) t v, (av.map Arg.t)[j]? = some t → vs[j]? = some v → Value.okWide Tryz.prog W .any b t v) → ∃ es, Fits (av.map Arg.S) es ∧ Repl (live W) W es vs
  | [], vs, ds, ps, h, _ => by
    obtain ⟨rfl, _, _⟩ := trodAll_nil h
    exact ⟨[], trivial, Repl.nil _ _⟩
  | a :: av, vs, ds, ps, h, hv => by
    obtain ⟨v, vs', d, ds', p, q, rfl, rfl, rfl, ⟨fuel, h1⟩, h2⟩ := trodAll_cons h
    obtain ⟨es, g1, g2⟩ := args_open av vs' ds' q h2 fun j t u ht hu => hv (j + 1) t u ht hu
    obtain ⟨e, u, k1, k2, k3, k4, k5⟩ := a.op H enc W base sp hd fuel _ _ h1
    have e1 := a.cl W b v (hv 0 a.t v rfl rfl) e k1
    have e2 := k4.back
    rw [← k5] at e2
    rw [← e2] at e1
    subst e1
    exact ⟨e :: es, ⟨k1, g1⟩, Repl.cons k4 g2⟩
theorem holds_of {k : FuncId} {F : Func} (av : List Arg) (hp : F.params.toList = av.map Arg.t) (hg : ∀ es, Fits (av.map Arg.S) es → Gives Tryz.prog k es (.bool true)) : Holds k F := by
  intro H enc W base args ds p hval hA
  rw [hp] at hA
  obtain ⟨es, h1, h2⟩ := args_open (b := base) av args.toList ds p hA fun j t v ht hv => hval j t v (by rw [← Array.getElem?_toList, hp]; exact ht) (by simpa using hv)
  have hI : Inv (ctx W (live W) []) (live W) [] W := ⟨by simp, by simp [blks], by simp [blks], fun a ha => ha, Grow.refl _ _, fun a ha => .inl ha, rfl, rfl, rfl, Nat.le_refl _, fun b _ _ => rfl⟩
  refine (hg es h1 W (live W) args.toList hI h2).mono ?_
  rintro e w' (⟨v, d, σ, q, rfl, rfl, hr, hi⟩ | ⟨_, _, _, _, _, hx, _⟩)
  rotate_left
  · exact hx.elim
  simp only [Rep] at hr
  subst hr
  exact Ret.mk rfl ⟨hi.os, hi.tape, hi.output, hi.size, fun b hb => hi.block b hb (by simp [ctx, blks])⟩
end Go.Proofs.YtdoljfkjdfaakaaGreat


namespace Go.Proofs.YtdoljfkjdfaakaaGreat
set_option maxRecDepth 100000
open Go.ChangeShapes Go.WideShapes Go.ChangeAt Go.RowKit

theorem op_atom : Op 107 2 fun d => ∃ a, d = encA a :=
  (op_struct Tryz.underlying107 [fun d => ∃ s, d = .str s, fun d => ∃ l : List T, d = .lst (l.map encT)] ⟨op_str Tryz.underlying9, op_terms, trivial⟩ (by kernel_rfl) (by kernel_rfl) (by kernel_rfl)).to fun d ⟨ds, hd, h⟩ => by
    match ds, h with
    | [_, _], ⟨⟨s, rfl⟩, ⟨l, rfl⟩, _⟩ => exact ⟨⟨s, l⟩, hd⟩
theorem op_atoms : Op 65 1 fun d => ∃ l : List At, d = .lst (l.map encA) := op_list Tryz.underlying65 (by kernel_rfl) (by omega) op_atom
theorem op_goals : Op 66 1 fun d => ∃ l : List Gl, d = .lst (l.map encG) := op_list Tryz.underlying66 cells_goal (by omega) op_goal
theorem op_rule : Op 68 6 fun d => ∃ r, d = enc_S_api_Rule r :=
  (op_struct Tryz.underlying68 [fun d => ∃ s, d = .str s, fun d => ∃ l : List At, d = .lst (l.map encA), fun d => ∃ l : List At, d = .lst (l.map encA), fun d => ∃ l : List Gl, d = .lst (l.map encG), fun d => ∃ l : List Gl, d = .lst (l.map encG), fun d => ∃ n, d = .int .i64 n] ⟨op_str Tryz.underlying9, op_atoms, op_atoms, op_goals, op_goals, op_i64 Tryz.underlying3, trivial⟩ (by kernel_rfl) (by kernel_rfl) (by kernel_rfl)).to fun d ⟨ds, hd, h⟩ => by
    match ds, h with
    | [_, _, _, _, _, _], ⟨⟨s, rfl⟩, ⟨a, rfl⟩, ⟨b, rfl⟩, ⟨c, rfl⟩, ⟨e, rfl⟩, ⟨n, rfl⟩, _⟩ => exact ⟨⟨s, a, b, c, e, n⟩, hd⟩
theorem op_rules : Op 23 1 fun d => ∃ l : List S_api_Rule, d = .lst (l.map enc_S_api_Rule) := op_list Tryz.underlying23 (by kernel_rfl) (by omega) op_rule
theorem op_decl : Op 29 2 fun d => ∃ q, d = enc_S_api_Decl q :=
  (op_struct Tryz.underlying29 [fun d => ∃ s, d = .str s, fun d => ∃ n, d = .int .i64 n] ⟨op_str Tryz.underlying9, op_i64 Tryz.underlying3, trivial⟩ (by kernel_rfl) (by kernel_rfl) (by kernel_rfl)).to fun d ⟨ds, hd, h⟩ => by
    match ds, h with
    | [_, _], ⟨⟨s, rfl⟩, ⟨n, rfl⟩, _⟩ => exact ⟨⟨s, n⟩, hd⟩
theorem op_decls : Op 22 1 fun d => ∃ l : List S_api_Decl, d = .lst (l.map enc_S_api_Decl) := op_list Tryz.underlying22 (by kernel_rfl) (by omega) op_decl
theorem op_program : Op 25 2 fun d => ∃ q, d = enc_S_api_Program q :=
  (op_struct Tryz.underlying25 [fun d => ∃ l : List S_api_Decl, d = .lst (l.map enc_S_api_Decl), fun d => ∃ l : List S_api_Rule, d = .lst (l.map enc_S_api_Rule)] ⟨op_decls, op_rules, trivial⟩ (by kernel_rfl) (by kernel_rfl) (by kernel_rfl)).to fun d ⟨ds, hd, h⟩ => by
    match ds, h with
    | [_, _], ⟨⟨s, rfl⟩, ⟨n, rfl⟩, _⟩ => exact ⟨⟨s, n⟩, hd⟩
def aProgram : Arg := ⟨_, _, _, op_program, (cl_struct Tryz.underlying25).to fun _ ⟨_, h⟩ => ⟨_, h⟩⟩
end Go.Proofs.YtdoljfkjdfaakaaGreat


namespace Go.Proofs.YtdoljfkjdfaakaaGreat
set_option maxRecDepth 100000
open Go.ChangeShapes Go.WideShapes Go.ChangeAt Go.RowKit

mutual
/-- How many values and letters data hold. -/
def bulkD : D → Nat
  | .str s => s.size + 1
  | .agg l => bulkDs l + 1
  | .lst l => bulkDs l + 1
  | _ => 1
def bulkDs : List D → Nat
  | [] => 0
  | d :: l => bulkD d + bulkDs l
end
/-- A datum of a type, opened, with its bulk; fuel below N. -/
def OpB (N : Nat) (t : TypeId) (n : Nat) (S : D → Prop) : Prop := ∀ (H : Type) (enc : TypeId × Value → H) (W : World) (base : Nat) (sp : Nat → Bool) (hd : Bool) (fuel : Nat) (cs : List Value) (x : DataW H × List MemPlace), fuel < N →
  DataW.trod enc Tryz.prog W base sp hd fuel t cs = some x → ∃ d v, S d ∧ d.plain = true ∧ sz d = n ∧ Rep (live W) W d v ∧ cs = v.cells.toList ∧ bulkD d ≤ Rows.uptoBulk x.1
theorem OpB.to {N : Nat} {t : TypeId} {n : Nat} {S S' : D → Prop} (h : OpB N t n S) (k : ∀ d, S d → S' d) : OpB N t n S' := fun H enc W base sp hd fuel cs x hN hx => by
  obtain ⟨d, v, h1, h2⟩ := h H enc W base sp hd fuel cs x hN hx
  exact ⟨d, v, k d h1, h2⟩
theorem OpB.less {N M : Nat} {t : TypeId} {n : Nat} {S : D → Prop} (h : OpB N t n S) (hM : M ≤ N) : OpB M t n S := fun H enc W base sp hd fuel cs x hN hx => h H enc W base sp hd fuel cs x (by omega) hx
/-! ### what the bulk bounds -/
/-! ### a law's arguments -/
structure ArgB where
  t : TypeId
  n : Nat
  S : D → Prop
  op : ∀ N, OpB N t n S
  cl : Cl t S
theorem args_openB {H : Type} {enc : TypeId × Value → H} {W : World} {base b : Nat} {sp : Nat → Bool} {hd : Bool} : ∀ (av : List ArgB) (vs : List Value) (ds : List (DataW H)) (ps : List MemPlace),
    DataW.TrodAll enc Tryz.prog W base sp hd (av.map ArgB.t) vs ds ps → (∀ (j : Nat) t v, (av.map ArgB.t)[j]? = some t → vs[j]? = some v → Value.okWide Tryz.prog W .any b t v) → ∃ es, Fits (av.map ArgB.S) es ∧ Repl (live W) W es vs ∧ bulkDs es ≤ Rows.uptoBulkAll ds
  | [], vs, ds, ps, h, _ => by
    obtain ⟨rfl, rfl, _⟩ := trodAll_nil h
    exact ⟨[], trivial, Repl.nil _ _, by simp [bulkDs]⟩
  | a :: av, vs, ds, ps, h, hv => by
    obtain ⟨v, vs', d, ds', p, q, rfl, rfl, rfl, ⟨fuel, h1⟩, h2⟩ := trodAll_cons h
    obtain ⟨es, g1, g2, g3⟩ := args_openB av vs' ds' q h2 fun j t u ht hu => hv (j + 1) t u ht hu
    obtain ⟨e, u, k1, k2, k3, k4, k5, k6⟩ := a.op (fuel + 1) H enc W base sp hd fuel _ _ (by omega) h1
    have e1 := a.cl W b v (hv 0 a.t v rfl rfl) e k1
    have e2 := k4.back
    rw [← k5] at e2
    rw [← e2] at e1
    subst e1
    refine ⟨e :: es, ⟨k1, g1⟩, Repl.cons k4 g2, ?_⟩
    simp only [bulkDs, Rows.uptoBulkAll]
    have k6 : bulkD e ≤ Rows.uptoBulk d := k6
    omega
/-- What a law's function gives for each list of arguments of such a bulk. -/
def HoldsU (k : FuncId) (F : Func) : Prop := ∀ (H : Type) (enc : TypeId × Value → H) (W : World) (base : Nat) (args : Array Value) (ds : List (DataW H)) (p : List MemPlace),
  (∀ (j : Nat) t v, F.params[j]? = some t → args[j]? = some v → Value.okWide Tryz.prog W .any base t v) → DataW.TrodAll enc Tryz.prog W 0 (fun _ => true) true F.params.toList args.toList ds p → Rows.uptoSmall H ds = true →
  Calls Tryz.prog k args W (Ret W (Is (.bool true)))
theorem holdsU_of {k : FuncId} {F : Func} (av : List ArgB) (hp : F.params.toList = av.map ArgB.t) (hg : ∀ es, Fits (av.map ArgB.S) es → bulkDs es ≤ 1048576 → Gives Tryz.prog k es (.bool true)) : HoldsU k F := by
  intro H enc W base args ds p hval hA hk
  rw [hp] at hA
  obtain ⟨es, h1, h2, h3⟩ := args_openB (b := base) av args.toList ds p hA fun j t v ht hv => hval j t v (by rw [← Array.getElem?_toList, hp]; exact ht) (by simpa using hv)
  have hk' : Rows.uptoBulkAll ds ≤ 1048576 := of_decide_eq_true hk
  have hI : Inv (ctx W (live W) []) (live W) [] W := ⟨by simp, by simp [blks], by simp [blks], fun a ha => ha, Grow.refl _ _, fun a ha => .inl ha, rfl, rfl, rfl, Nat.le_refl _, fun b _ _ => rfl⟩
  refine (hg es h1 (Nat.le_trans h3 hk') W (live W) args.toList hI h2).mono ?_
  rintro e w' (⟨v, d, σ, q, rfl, rfl, hr, hi⟩ | ⟨_, _, _, _, _, hx, _⟩)
  rotate_left
  · exact hx.elim
  simp only [Rep] at hr
  subst hr
  exact Ret.mk rfl ⟨hi.os, hi.tape, hi.output, hi.size, fun b hb => hi.block b hb (by simp [ctx, blks])⟩
theorem law_contractU {k : FuncId} {F : Func} (h : HoldsU k F) {s : ChangeSpec} (hv : s.vars = [])
    (hts0 : (F.params.toList.all fun t => (Tryz.prog).readableRec t && decide (t < (Tryz.prog).types.size)) = true) (hres : F.resultTypes.toList = [4]) (hrs : F.resultTypes.size = 1)
    (hsp : ∀ (H : Type) (ds : List (DataW H)), ds.length = F.params.toList.length → s.fn H ds = { results := [.lit (.bool true)], args := ds })
    {H : Type} {enc : TypeId × Value → H} (W : World) (base : Nat) (args : Array Value) (ds gs : List (DataW H)) (before : List MemPlace)
    (hval : ∀ (j : Nat) t v, F.params[j]? = some t → args[j]? = some v → Value.okWide Tryz.prog W .any base t v)
    (hW : DataW.Whole enc Tryz.prog F.params.toList s.vars false W args.toList ds gs before) (hk : Rows.uptoSmall H (ds ++ gs) = true) :
    Calls Tryz.prog k args W fun e W' => ∃ v, e = .returned v ∧ s.post enc Tryz.prog F false true false false W args v W' := by
  have hts : ∀ t ∈ F.params.toList, (Tryz.prog).readableRec t = true ∧ t < (Tryz.prog).types.size := fun t ht => by
    have := List.all_eq_true.1 hts0 t ht
    simpa using this
  have hW' := hW
  obtain ⟨p, q, hA, hV, rfl, hfz, hnd⟩ := hW
  rw [hv] at hV
  obtain ⟨rfl, rfl⟩ := trodVars_none hV
  rw [List.append_nil] at hk
  refine (h H enc W base args ds p hval hA hk).mono ?_
  rintro e W' ⟨v, rfl, hvv, hb⟩
  have hvv : v = .bool true := hvv
  subst hvv
  have hlen := trodAll_len hA
  have hspec := hsp H ds hlen
  refine ⟨_, rfl, ds, [], p ++ [], [], p, [], hW', ?_, ?_, ?_, ?_, fun h => by cases h⟩
  · rw [List.append_nil, hspec, hres, hrs]
    exact trodAll_cons_mk (shut_bool Tryz.underlying4 _) trodAll_mk0
  · rw [List.append_nil, hspec]
    exact trodAll_grown laid_ hb hts (fun x hx => hW'.lt x (by simpa using hx)) hA
  · rw [List.append_nil, hspec, hv]; rfl
  · exact World.keptBut_mono (fun x hx => ⟨by simpa using hx, .inr (.inl (by simpa using hx))⟩) (Below.frame hb (fun x => x ∈ p))
end Go.Proofs.YtdoljfkjdfaakaaGreat

