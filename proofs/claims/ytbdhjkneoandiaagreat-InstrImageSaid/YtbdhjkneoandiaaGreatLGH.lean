/-
  Texts of the seat, merged.
-/
import Derived.Test.YtbdhjkneoandiaaGreatLGA
import Derived.Test.YtbdhjkneoandiaaGreatLGB
import Derived.Test.YtbdhjkneoandiaaGreatLGC
import Derived.Test.YtbdhjkneoandiaaGreatLGD
import Derived.Test.YtbdhjkneoandiaaGreatLGE
import Derived.Test.YtbdhjkneoandiaaGreatLGF
import Derived.Test.YtbdhjkneoandiaaGreatLGG
import Derived.Test.YtbdhjkneoandiaaGreatChecked
import Derived.WalkKit
import Derived.Lib.Hide
import Derived.Lib.AppendStr
import Derived.Deep.AppendLies
import Derived.Deep.AppendSrc
import Derived.Deep.Draws
import Derived.Deep.QuietTactic
import Derived.BigQuiet
import Derived.Deep.RegionWith
import Derived.Maps.AppendAt
import Derived.WalkSpells
import Derived.Orders
import Derived.Deep.Slices
import Derived.Deep.Fields
import Derived.ChangeArms
import Derived.Lib.OthersKept
import Derived.Lib.TrimU
import Derived.Lib.IndexAny
import Derived.Deep.LoopGhost
import Derived.Lib.Bytealg
import Derived.RangeFuncBox
import Derived.RangeFuncNested
import Derived.RangeFuncBound
import Derived.RangeFuncCalls
import Derived.RangeFuncLeaves
import Derived.Shelf.Abstract
import Derived.OwnWalkIn
import Derived.TacticsInMore
import Derived.LoopNIn
import Derived.LoopIn
import Derived.RangeFuncWrites
import Derived.Maps.OwnIn
import Derived.Maps.Views
import Derived.Laws.OwnMore
import Derived.Maps.OwnSet
import Derived.Test.YtbdhjkneoandiaaGreatRows
import Derived.ProofKit
import Derived.OpenShut
import Derived.Carry
import Derived.OrdersIn
import Derived.Great.BuildSlice
import Derived.ArgAppend
import Derived.Laws.MakeOwn
import Derived.Laws.Cover3
import Derived.Laws.CopyRow
import Derived.MapKept
import Derived.Maps.RangeRun
import Derived.DeepKeys5
import Derived.WideKeyRuns
set_option linter.unusedVariables false
set_option linter.unusedSimpArgs false
set_option linter.unnecessarySimpa false
set_option linter.all false

namespace Go.Proofs.YtbdhjkneoandiaaGreat
set_option maxRecDepth 100000
open Go.RowKit

structure S_constraintref32_held where
  f0_register : Int
  f1_name : ByteArray
  f2_arity : Int

def enc_S_constraintref32_held (x : S_constraintref32_held) : D := .agg [.int .i64 x.f0_register, .str x.f1_name, .int .i64 x.f2_arity]

theorem sz_S_constraintref32_held (x : S_constraintref32_held) : sz (enc_S_constraintref32_held x) = 3 := by
  simp only [enc_S_constraintref32_held, sz, szs]

noncomputable def lf_constraintref32_phase (op_a0 : Int) : Option (Int) :=
  (bif (op_a0 == (6 : Int)) then
  some (1)
  else
  (bif (op_a0 == (7 : Int)) then
  some (2)
  else
  (bif (op_a0 == (8 : Int)) then
  some (3)
  else
  (bif (op_a0 == (9 : Int)) then
  some (4)
  else
  (bif (op_a0 == (10 : Int)) then
  some (5)
  else
  some (0))))))

set_option maxHeartbeats 1000000 in
theorem lg_constraintref32_phase (op_a0 : Int) (res : Int) (hr : lf_constraintref32_phase op_a0 = some res) : Gives Tryz.prog 45 [.int .i64 op_a0] (.int .i64 res) := by
  unfold lf_constraintref32_phase at hr
  refine spec_env [(0, .int .i64 op_a0)] Tryz.func45 rfl rfl fun K hK => ?_
  refine g_seq ?_
  refine g_run (by kernel_rfl) [(0, .d)] rfl ?_
  refine r_d rfl rfl rfl (s_assign rfl rfl) ?_
  refine r_end ?_
  refine g_seq ?_
  refine g_seq ?_
  refine g_run (by kernel_rfl) [(0, .d)] rfl ?_
  refine r_d rfl rfl rfl (s_move rfl rfl) ?_
  refine r_end ?_
  refine g_block ?_
  refine g_seq ?_
  refine g_run (by kernel_rfl) [(0, .d), (1, .d)] rfl ?_
  refine r_d rfl rfl rfl (s_cmp rfl rfl rfl rfl) ?_
  refine r_d rfl rfl rfl (s_assign rfl rfl) ?_
  refine r_end ?_
  refine g_sB 4 rfl hr (fun h4_0 hr => ?_) (fun h4_0 hr => ?_)
  ·
   refine g_condT rfl ?_
   refine g_seq ?_
   refine g_run (by kernel_rfl) [(0, .d)] rfl ?_
   refine r_d rfl rfl rfl (s_assign rfl rfl) ?_
   refine r_end ?_
   obtain rfl := Option.some.inj hr
   refine g_ret Tryz.func45 _ (.cons (resTmp rfl (Wk.refl _)) .nil) ?_
   rfl
  ·
   refine g_condF rfl ?_
   refine g_seq ?_
   refine g_run (by kernel_rfl) [(0, .d), (1, .d)] rfl ?_
   refine r_d rfl rfl rfl (s_cmp rfl rfl rfl rfl) ?_
   refine r_d rfl rfl rfl (s_assign rfl rfl) ?_
   refine r_end ?_
   refine g_sB 6 rfl hr (fun h6_1 hr => ?_) (fun h6_1 hr => ?_)
   ·
    refine g_condT rfl ?_
    refine g_seq ?_
    refine g_run (by kernel_rfl) [(0, .d)] rfl ?_
    refine r_d rfl rfl rfl (s_assign rfl rfl) ?_
    refine r_end ?_
    obtain rfl := Option.some.inj hr
    refine g_ret Tryz.func45 _ (.cons (resTmp rfl (Wk.refl _)) .nil) ?_
    rfl
   ·
    refine g_condF rfl ?_
    refine g_seq ?_
    refine g_run (by kernel_rfl) [(0, .d), (1, .d)] rfl ?_
    refine r_d rfl rfl rfl (s_cmp rfl rfl rfl rfl) ?_
    refine r_d rfl rfl rfl (s_assign rfl rfl) ?_
    refine r_end ?_
    refine g_sB 8 rfl hr (fun h8_2 hr => ?_) (fun h8_2 hr => ?_)
    ·
     refine g_condT rfl ?_
     refine g_seq ?_
     refine g_run (by kernel_rfl) [(0, .d)] rfl ?_
     refine r_d rfl rfl rfl (s_assign rfl rfl) ?_
     refine r_end ?_
     obtain rfl := Option.some.inj hr
     refine g_ret Tryz.func45 _ (.cons (resTmp rfl (Wk.refl _)) .nil) ?_
     rfl
    ·
     refine g_condF rfl ?_
     refine g_seq ?_
     refine g_run (by kernel_rfl) [(0, .d), (1, .d)] rfl ?_
     refine r_d rfl rfl rfl (s_cmp rfl rfl rfl rfl) ?_
     refine r_d rfl rfl rfl (s_assign rfl rfl) ?_
     refine r_end ?_
     refine g_sB 10 rfl hr (fun h10_3 hr => ?_) (fun h10_3 hr => ?_)
     ·
      refine g_condT rfl ?_
      refine g_seq ?_
      refine g_run (by kernel_rfl) [(0, .d)] rfl ?_
      refine r_d rfl rfl rfl (s_assign rfl rfl) ?_
      refine r_end ?_
      obtain rfl := Option.some.inj hr
      refine g_ret Tryz.func45 _ (.cons (resTmp rfl (Wk.refl _)) .nil) ?_
      rfl
     ·
      refine g_condF rfl ?_
      refine g_seq ?_
      refine g_run (by kernel_rfl) [(0, .d), (1, .d)] rfl ?_
      refine r_d rfl rfl rfl (s_cmp rfl rfl rfl rfl) ?_
      refine r_d rfl rfl rfl (s_assign rfl rfl) ?_
      refine r_end ?_
      refine g_sB 12 rfl hr (fun h12_4 hr => ?_) (fun h12_4 hr => ?_)
      ·
       refine g_condT rfl ?_
       refine g_seq ?_
       refine g_run (by kernel_rfl) [(0, .d)] rfl ?_
       refine r_d rfl rfl rfl (s_assign rfl rfl) ?_
       refine r_end ?_
       obtain rfl := Option.some.inj hr
       refine g_ret Tryz.func45 _ (.cons (resTmp rfl (Wk.refl _)) .nil) ?_
       rfl
      ·
       refine g_condF rfl ?_
       refine g_skip ?_
       refine g_inBlock ?_
       refine g_seq ?_
       refine g_run (by kernel_rfl) [(0, .d)] rfl ?_
       refine r_d rfl rfl rfl (s_assign rfl rfl) ?_
       refine r_end ?_
       obtain rfl := Option.some.inj hr
       refine g_ret Tryz.func45 _ (.cons (resTmp rfl (Wk.refl _)) .nil) ?_
       rfl

noncomputable def lf_constraintref32_order_L0 (k : (Int) → Option (Bool)) (b_a0 : S_api_Block) : List S_api_Instr → Int → Nat → Option (Bool)
  | [], commits_1, i_2 =>
  (k commits_1)
  | q_4 :: rest, commits_1, i_2 =>
  (bif (q_4.f0_Op == (10 : Int)) then
  (bif ((i_2 : Int) == (0 : Int)) then
  (lf_constraintref32_order_L0 k b_a0 rest (wr (commits_1 + (1 : Int))) (i_2 + 1))
  else
  ((getI b_a0.f1_Code (wr ((i_2 : Int) - (1 : Int)))).bind fun q_8 =>
  ((lf_constraintref32_phase q_4.f0_Op).bind fun r_10 =>
  ((lf_constraintref32_phase q_8.f0_Op).bind fun r_11 =>
  (bif (decide (r_10 < r_11)) then
  some (false)
  else
  (bif (q_4.f0_Op == q_8.f0_Op) then
  (bif (q_4.f0_Op == (7 : Int)) then
  some (false)
  else
  (bif (q_4.f0_Op == (8 : Int)) then
  some (false)
  else
  (bif (q_4.f0_Op == (6 : Int)) then
  (bif (decide (q_4.f1_A ≤ q_8.f1_A)) then
  some (false)
  else
  (lf_constraintref32_order_L0 k b_a0 rest (wr (commits_1 + (1 : Int))) (i_2 + 1)))
  else
  (lf_constraintref32_order_L0 k b_a0 rest (wr (commits_1 + (1 : Int))) (i_2 + 1)))))
  else
  (lf_constraintref32_order_L0 k b_a0 rest (wr (commits_1 + (1 : Int))) (i_2 + 1))))))))
  else
  (bif ((i_2 : Int) == (0 : Int)) then
  (lf_constraintref32_order_L0 k b_a0 rest commits_1 (i_2 + 1))
  else
  ((getI b_a0.f1_Code (wr ((i_2 : Int) - (1 : Int)))).bind fun q_19 =>
  ((lf_constraintref32_phase q_4.f0_Op).bind fun r_21 =>
  ((lf_constraintref32_phase q_19.f0_Op).bind fun r_22 =>
  (bif (decide (r_21 < r_22)) then
  some (false)
  else
  (bif (q_4.f0_Op == q_19.f0_Op) then
  (bif (q_4.f0_Op == (7 : Int)) then
  some (false)
  else
  (bif (q_4.f0_Op == (8 : Int)) then
  some (false)
  else
  (bif (q_4.f0_Op == (6 : Int)) then
  (bif (decide (q_4.f1_A ≤ q_19.f1_A)) then
  some (false)
  else
  (lf_constraintref32_order_L0 k b_a0 rest commits_1 (i_2 + 1)))
  else
  (lf_constraintref32_order_L0 k b_a0 rest commits_1 (i_2 + 1)))))
  else
  (lf_constraintref32_order_L0 k b_a0 rest commits_1 (i_2 + 1)))))))))
noncomputable def lf_constraintref32_order (b_a0 : S_api_Block) : Option (Bool) :=
  (lf_constraintref32_order_L0 (fun commits_3 =>
  some ((commits_3 == (1 : Int)))) b_a0 b_a0.f1_Code 0 0)

set_option maxHeartbeats 1000000 in
theorem lg_constraintref32_order (b_a0 : S_api_Block) (res : Bool) (hr : lf_constraintref32_order b_a0 = some res) : Gives Tryz.prog 23 [enc_S_api_Block b_a0] (.bool res) := by
  unfold lf_constraintref32_order at hr
  refine spec_env [(0, enc_S_api_Block b_a0)] Tryz.func23 rfl rfl fun K hK => ?_
  refine g_seq ?_
  refine g_run (by kernel_rfl) [(0, .d), (1, .d)] rfl ?_
  refine r_d rfl rfl rfl (s_box rfl rfl rfl) ?_
  refine r_d rfl rfl rfl (s_assign rfl rfl) ?_
  refine r_end ?_
  refine g_seq ?_
  refine g_run (by kernel_rfl) [(0, .d)] rfl ?_
  refine r_d rfl rfl rfl (s_assign rfl rfl) ?_
  refine r_end ?_
  refine g_seq ?_
  refine g_seq ?_
  refine g_run (by kernel_rfl) [(0, .d)] rfl ?_
  refine r_d rfl rfl rfl (s_assign rfl rfl) ?_
  refine r_end ?_
  obtain ⟨kk0, hkk0, hr⟩ := exK (fun k => lf_constraintref32_order_L0 k b_a0 b_a0.f1_Code 0 0) hr
  refine g_lenS 0 [1] (l := b_a0.f1_Code.map enc_S_api_Instr) rfl rfl (asl rfl) fun hla0 => ?_
  simp only [List.length_map] at hla0
  refine g_blockJ (fun env σ => ∃ (commits_3 : Int), env = [(3, .int .i64 commits_3)] ∧ σ = [] ∧ kk0 commits_3 = some res) ?_ (fun HK0 => ?_)
  ·
   rintro _ _ ⟨commits_3, rfl, rfl, hr⟩
   rw [hkk0] at hr
   refine g_seq ?_
   refine g_run (by kernel_rfl) [(0, .d), (1, .d), (2, .d)] rfl ?_
   refine r_d rfl rfl rfl (s_move rfl rfl) ?_
   refine r_d rfl rfl rfl (s_cmp rfl rfl rfl rfl) ?_
   refine r_d rfl rfl rfl (s_assign rfl rfl) ?_
   refine r_end ?_
   obtain rfl := Option.some.inj hr
   refine g_ret Tryz.func23 _ (.cons (resTmp rfl (Wk.refl _)) .nil) ?_
   rfl
  ·
   refine g_sub [(1, .ptr (enc_S_api_Block b_a0)), (3, .int .i64 0), (4, .int .i64 ((0 : Nat) : Int))] (Sub.cons' rfl (Sub.cons' rfl (Sub.cons' rfl (Sub.nil _)))) ?_
   refine g_loop (fun n env σ => ∃ (commits_1 : Int) (i_2 : Nat), (n = b_a0.f1_Code.length - i_2) ∧ (env = [(1, .ptr (enc_S_api_Block b_a0)), (3, .int .i64 commits_1), (4, .int .i64 (i_2 : Int))]) ∧ (σ = []) ∧ (i_2 ≤ b_a0.f1_Code.length) ∧ (lf_constraintref32_order_L0 kk0 b_a0 (b_a0.f1_Code.drop i_2) commits_1 i_2 = some res)) _ ⟨0, 0, rfl, rfl, rfl, Nat.zero_le _, hr⟩ ?_
   rintro n _ _ ⟨commits_1, i_2, rfl, rfl, rfl, hi0, hr⟩ IH0
   rcases listStep b_a0.f1_Code i_2 hi0 with ⟨ht0, hd0, he0⟩ | ⟨q_4, ht0, hd0, hq0, hlt0⟩
   ·
    rw [hd0, lf_constraintref32_order_L0] at hr
    refine g_seq ?_
    refine g_seq ?_
    refine g_run (by kernel_rfl) [(0, .d), (1, .d), (2, .d), (3, .d), (4, .d)] rfl ?_
    refine r_d rfl rfl rfl (s_move rfl rfl) ?_
    refine r_d rfl rfl rfl (s_fieldAddr rfl fl_api_Block_1 rfl rfl (by simp [szs, sz, sz_S_api_Occ]) rfl) ?_
    refine r_d rfl rfl rfl (s_load rfl rfl (by exact ty_L_api_Instr) rfl) ?_
    refine r_d rfl rfl rfl (m_len (f := enc_S_api_Instr) b_a0.f1_Code rfl el_L_api_Instr rfl (asl rfl)) ?_
    refine r_d rfl rfl rfl (s_cmp rfl rfl rfl rfl) ?_
    refine r_end ?_
    refine g_known 11 false rfl ht0 ?_
    refine g_condF rfl ?_
    refine g_exit rfl ?_
    refine g_sub [(3, .int .i64 commits_1)] (Sub.cons' rfl (Sub.nil _)) ?_
    exact HK0 _ _ ⟨commits_1, rfl, rfl, hr⟩
   ·
    rw [hd0, lf_constraintref32_order_L0] at hr
    refine g_seq ?_
    refine g_seq ?_
    refine g_run (by kernel_rfl) [(0, .d), (1, .d), (2, .d), (3, .d), (4, .d)] rfl ?_
    refine r_d rfl rfl rfl (s_move rfl rfl) ?_
    refine r_d rfl rfl rfl (s_fieldAddr rfl fl_api_Block_1 rfl rfl (by simp [szs, sz, sz_S_api_Occ]) rfl) ?_
    refine r_d rfl rfl rfl (s_load rfl rfl (by exact ty_L_api_Instr) rfl) ?_
    refine r_d rfl rfl rfl (m_len (f := enc_S_api_Instr) b_a0.f1_Code rfl el_L_api_Instr rfl (asl rfl)) ?_
    refine r_d rfl rfl rfl (s_cmp rfl rfl rfl rfl) ?_
    refine r_end ?_
    refine g_known 11 true rfl ht0 ?_
    refine g_condT rfl ?_
    refine g_skip ?_
    refine g_seq ?_
    refine g_block ?_
    refine g_seq ?_
    refine g_run (by kernel_rfl) [(0, .d), (1, .d), (2, .d), (3, .d), (4, .d), (5, .w), (6, .w)] rfl ?_
    refine r_d rfl rfl rfl (s_fieldAddr rfl fl_api_Block_1 rfl rfl (by simp [szs, sz, sz_S_api_Occ]) rfl) ?_
    refine r_d rfl rfl rfl (s_load rfl rfl (by exact ty_L_api_Instr) rfl) ?_
    refine r_d rfl rfl rfl (s_move rfl rfl) ?_
    refine r_d rfl rfl rfl (m_index (f := enc_S_api_Instr) b_a0.f1_Code rfl el_L_api_Instr rfl (asl rfl) rfl hq0 sz_S_api_Instr rfl) ?_
    refine r_d rfl rfl rfl (s_load rfl rfl (by exact ty_api_Instr) (sz_S_api_Instr _)) ?_
    refine r_w rfl rfl rfl (s_alloc rfl zv_api_Instr) ?_
    rintro _ _ ⟨b5_4, rfl, rfl⟩
    refine r_w01 rfl rfl rfl (t_store0 _ rfl rfl rfl (Wk.refl _) (pf0 _) (by exact ty_api_Instr) (sz_S_api_Instr _) (by simp [sz, szs, szs_fsT, sz_encG]) rfl) ?_
    refine r_end ?_
    refine g_freeze 5 b5_4 rfl (pf0 _) ?_
    refine g_seq ?_
    refine g_seq ?_
    refine g_run (by kernel_rfl) [(0, .d), (1, .d), (2, .d)] rfl ?_
    refine r_d rfl rfl rfl (s_fieldAddr rfl fl_api_Instr_0 rfl rfl rfl rfl) ?_
    refine r_d rfl rfl rfl (s_load rfl rfl (by exact ty_int) rfl) ?_
    refine r_d rfl rfl rfl (s_cmp rfl rfl rfl rfl) ?_
    refine r_end ?_
    refine g_sB 21 rfl hr (fun h21_5 hr => ?_) (fun h21_5 hr => ?_)
    ·
     refine g_condT rfl ?_
     refine g_run (by kernel_rfl) [(0, .d), (1, .d), (2, .d)] rfl ?_
     refine r_d rfl rfl rfl (s_move rfl rfl) ?_
     refine r_d rfl rfl rfl (s_arW rfl rfl rfl rfl) ?_
     refine r_d rfl rfl rfl (s_assign rfl rfl) ?_
     refine r_end ?_
     refine g_seq ?_
     refine g_seq ?_
     refine g_run (by kernel_rfl) [(0, .d), (1, .d)] rfl ?_
     refine r_d rfl rfl rfl (s_move rfl rfl) ?_
     refine r_d rfl rfl rfl (s_cmp rfl rfl rfl rfl) ?_
     refine r_end ?_
     refine g_sB 25 rfl hr (fun h25_6 hr => ?_) (fun h25_6 hr => ?_)
     ·
      refine g_condT rfl ?_
      refine g_exit rfl ?_
      refine g_run (by kernel_rfl) [(0, .d), (1, .d), (2, .d)] rfl ?_
      refine r_d rfl rfl rfl (s_move rfl rfl) ?_
      refine r_d rfl rfl rfl (s_ar (r := ((i_2 + 1 : Nat) : Int)) rfl rfl rfl (by simp [iar]) (by omega)) ?_
      refine r_d rfl rfl rfl (s_assign rfl rfl) ?_
      refine r_end ?_
      refine g_sub [(1, .ptr (enc_S_api_Block b_a0)), (3, .int .i64 (wr (commits_1 + (1 : Int)))), (4, .int .i64 ((i_2 + 1 : Nat) : Int))] (Sub.cons' rfl (Sub.cons' rfl (Sub.cons' rfl (Sub.nil _)))) ?_
      exact IH0 _ _ _ (by omega) ⟨(wr (commits_1 + (1 : Int))), (i_2 + 1), rfl, rfl, rfl, (by omega), hr⟩
     ·
      refine g_condF rfl ?_
      refine g_skip ?_
      refine g_seq ?_
      refine g_run (by kernel_rfl) [(0, .d), (1, .d), (2, .d), (3, .d), (4, .d), (5, .d), (6, .w), (7, .w)] rfl ?_
      refine r_d rfl rfl rfl (s_fieldAddr rfl fl_api_Block_1 rfl rfl (by simp [szs, sz, sz_S_api_Occ]) rfl) ?_
      refine r_d rfl rfl rfl (s_load rfl rfl (by exact ty_L_api_Instr) rfl) ?_
      refine r_d rfl rfl rfl (s_move rfl rfl) ?_
      refine r_d rfl rfl rfl (s_arW rfl rfl rfl rfl) ?_
      obtain ⟨q_8, hq_8, hr⟩ := bindS hr
      refine r_d rfl rfl rfl (m_index (f := enc_S_api_Instr) b_a0.f1_Code rfl el_L_api_Instr rfl (asl rfl) rfl hq_8 sz_S_api_Instr rfl) ?_
      refine r_d rfl rfl rfl (s_load rfl rfl (by exact ty_api_Instr) (sz_S_api_Instr _)) ?_
      refine r_w rfl rfl rfl (s_alloc rfl zv_api_Instr) ?_
      rintro _ _ ⟨b6_8, rfl, rfl⟩
      refine r_w01 rfl rfl rfl (t_store0 _ rfl rfl rfl (Wk.refl _) (pf0 _) (by exact ty_api_Instr) (sz_S_api_Instr _) (by simp [sz, szs, szs_fsT, sz_encG]) rfl) ?_
      refine r_end ?_
      refine g_freeze 6 b6_8 rfl (pf0 _) ?_
      refine g_seq ?_
      refine g_any (by kernel_rfl) (by kernel_rfl) [(0, .d), (1, .d), (2, .d), (3, .d), (4, .d), (5, .d), (6, .d), (7, .d), (8, .d), (9, .d), (10, .d), (11, .d), (12, .d), (13, .d), (14, .d), (15, .d), (16, .d), (17, .d), (18, .d), (19, .d), (20, .d), (21, .d), (22, .d), (23, .d), (24, .d), (25, .d), (26, .d), (27, .d), (28, .d), (29, .d), (30, .d), (31, .d), (32, .d), (33, .d), (34, .d), (35, .d)] (by kernel_rfl) ?_
      refine r_d rfl rfl rfl (s_fieldAddr rfl fl_api_Instr_0 rfl rfl rfl rfl) ?_
      refine r_d rfl rfl rfl (s_load rfl rfl (by exact ty_int) rfl) ?_
      obtain ⟨r_10, hr_10, hr⟩ := bindS hr
      refine r_d rfl rfl rfl (s_callD rfl cl_constraintref32_phase (.cons rfl (Wk.refl _) .nil) (lg_constraintref32_phase _ _ hr_10)) ?_
      refine r_d rfl rfl rfl (s_fieldAddr rfl fl_api_Instr_0 rfl rfl rfl rfl) ?_
      refine r_d rfl rfl rfl (s_load rfl rfl (by exact ty_int) rfl) ?_
      obtain ⟨r_11, hr_11, hr⟩ := bindS hr
      refine r_d rfl rfl rfl (s_callD rfl cl_constraintref32_phase (.cons rfl (Wk.refl _) .nil) (lg_constraintref32_phase _ _ hr_11)) ?_
      refine r_d rfl rfl rfl (s_cmp rfl rfl rfl rfl) ?_
      refine r_d rfl rfl rfl (s_move rfl rfl) ?_
      refine r_sB 39 rfl hr (fun h39_11 hr => ?_) (fun h39_11 hr => ?_)
      ·
       refine r_skip rfl rfl rfl ?_
       refine r_skip rfl rfl rfl ?_
       refine r_skip rfl rfl rfl ?_
       refine r_skip rfl rfl rfl ?_
       refine r_skip rfl rfl rfl ?_
       refine r_skip rfl rfl rfl ?_
       refine r_skip rfl rfl rfl ?_
       refine r_skip rfl rfl rfl ?_
       refine r_skip rfl rfl rfl ?_
       refine r_skip rfl rfl rfl ?_
       refine r_skip rfl rfl rfl ?_
       refine r_skip rfl rfl rfl ?_
       refine r_skip rfl rfl rfl ?_
       refine r_skip rfl rfl rfl ?_
       refine r_skip rfl rfl rfl ?_
       refine r_skip rfl rfl rfl ?_
       refine r_skip rfl rfl rfl ?_
       refine r_skip rfl rfl rfl ?_
       refine r_skip rfl rfl rfl ?_
       refine r_skip rfl rfl rfl ?_
       refine r_skip rfl rfl rfl ?_
       refine r_skip rfl rfl rfl ?_
       refine r_skip rfl rfl rfl ?_
       refine r_skip rfl rfl rfl ?_
       refine r_skip rfl rfl rfl ?_
       refine r_skip rfl rfl rfl ?_
       refine r_skip rfl rfl rfl ?_
       refine r_d rfl rfl rfl (s_pickT rfl rfl rfl) ?_
       refine r_end ?_
       refine g_condT rfl ?_
       refine g_seq ?_
       refine g_run (by kernel_rfl) [(0, .d)] rfl ?_
       refine r_d rfl rfl rfl (s_assign rfl rfl) ?_
       refine r_end ?_
       obtain rfl := Option.some.inj hr
       refine g_ret Tryz.func23 _ (.cons (resTmp rfl (Wk.refl _)) .nil) ?_
       rfl
      ·
       refine r_d rfl rfl rfl (s_fieldAddr rfl fl_api_Instr_0 rfl rfl rfl rfl) ?_
       refine r_d rfl rfl rfl (s_load rfl rfl (by exact ty_int) rfl) ?_
       refine r_d rfl rfl rfl (s_fieldAddr rfl fl_api_Instr_0 rfl rfl rfl rfl) ?_
       refine r_d rfl rfl rfl (s_load rfl rfl (by exact ty_int) rfl) ?_
       refine r_d rfl rfl rfl (s_cmp rfl rfl rfl rfl) ?_
       refine r_d rfl rfl rfl (s_move rfl rfl) ?_
       refine r_sB 45 rfl hr (fun h45_12 hr => ?_) (fun h45_12 hr => ?_)
       ·
        refine r_d rfl rfl rfl (s_fieldAddr rfl fl_api_Instr_0 rfl rfl rfl rfl) ?_
        refine r_d rfl rfl rfl (s_load rfl rfl (by exact ty_int) rfl) ?_
        refine r_d rfl rfl rfl (s_cmp rfl rfl rfl rfl) ?_
        refine r_d rfl rfl rfl (s_move rfl rfl) ?_
        refine r_sB 49 rfl hr (fun h49_13 hr => ?_) (fun h49_13 hr => ?_)
        ·
         refine r_skip rfl rfl rfl ?_
         refine r_skip rfl rfl rfl ?_
         refine r_skip rfl rfl rfl ?_
         refine r_d rfl rfl rfl (s_pickT rfl rfl rfl) ?_
         refine r_d rfl rfl rfl (s_move rfl rfl) ?_
         refine r_skip rfl rfl rfl ?_
         refine r_skip rfl rfl rfl ?_
         refine r_skip rfl rfl rfl ?_
         refine r_skip rfl rfl rfl ?_
         refine r_skip rfl rfl rfl ?_
         refine r_skip rfl rfl rfl ?_
         refine r_skip rfl rfl rfl ?_
         refine r_skip rfl rfl rfl ?_
         refine r_skip rfl rfl rfl ?_
         refine r_skip rfl rfl rfl ?_
         refine r_d rfl rfl rfl (s_pickT rfl rfl rfl) ?_
         refine r_d rfl rfl rfl (s_pickT rfl rfl rfl) ?_
         refine r_d rfl rfl rfl (s_pickF rfl rfl rfl) ?_
         refine r_end ?_
         refine g_condT rfl ?_
         refine g_seq ?_
         refine g_run (by kernel_rfl) [(0, .d)] rfl ?_
         refine r_d rfl rfl rfl (s_assign rfl rfl) ?_
         refine r_end ?_
         obtain rfl := Option.some.inj hr
         refine g_ret Tryz.func23 _ (.cons (resTmp rfl (Wk.refl _)) .nil) ?_
         rfl
        ·
         refine r_d rfl rfl rfl (s_fieldAddr rfl fl_api_Instr_0 rfl rfl rfl rfl) ?_
         refine r_d rfl rfl rfl (s_load rfl rfl (by exact ty_int) rfl) ?_
         refine r_d rfl rfl rfl (s_cmp rfl rfl rfl rfl) ?_
         refine r_d rfl rfl rfl (s_pickF rfl rfl rfl) ?_
         refine r_d rfl rfl rfl (s_move rfl rfl) ?_
         refine r_sB 54 rfl hr (fun h54_14 hr => ?_) (fun h54_14 hr => ?_)
         ·
          refine r_skip rfl rfl rfl ?_
          refine r_skip rfl rfl rfl ?_
          refine r_skip rfl rfl rfl ?_
          refine r_skip rfl rfl rfl ?_
          refine r_skip rfl rfl rfl ?_
          refine r_skip rfl rfl rfl ?_
          refine r_skip rfl rfl rfl ?_
          refine r_skip rfl rfl rfl ?_
          refine r_skip rfl rfl rfl ?_
          refine r_skip rfl rfl rfl ?_
          refine r_d rfl rfl rfl (s_pickT rfl rfl rfl) ?_
          refine r_d rfl rfl rfl (s_pickT rfl rfl rfl) ?_
          refine r_d rfl rfl rfl (s_pickF rfl rfl rfl) ?_
          refine r_end ?_
          refine g_condT rfl ?_
          refine g_seq ?_
          refine g_run (by kernel_rfl) [(0, .d)] rfl ?_
          refine r_d rfl rfl rfl (s_assign rfl rfl) ?_
          refine r_end ?_
          obtain rfl := Option.some.inj hr
          refine g_ret Tryz.func23 _ (.cons (resTmp rfl (Wk.refl _)) .nil) ?_
          rfl
         ·
          refine r_d rfl rfl rfl (s_fieldAddr rfl fl_api_Instr_0 rfl rfl rfl rfl) ?_
          refine r_d rfl rfl rfl (s_load rfl rfl (by exact ty_int) rfl) ?_
          refine r_d rfl rfl rfl (s_cmp rfl rfl rfl rfl) ?_
          refine r_d rfl rfl rfl (s_move rfl rfl) ?_
          refine r_sB 58 rfl hr (fun h58_15 hr => ?_) (fun h58_15 hr => ?_)
          ·
           refine r_d rfl rfl rfl (s_fieldAddr rfl fl_api_Instr_1 rfl rfl rfl rfl) ?_
           refine r_d rfl rfl rfl (s_load rfl rfl (by exact ty_int) rfl) ?_
           refine r_d rfl rfl rfl (s_fieldAddr rfl fl_api_Instr_1 rfl rfl rfl rfl) ?_
           refine r_d rfl rfl rfl (s_load rfl rfl (by exact ty_int) rfl) ?_
           refine r_d rfl rfl rfl (s_cmp rfl rfl rfl rfl) ?_
           refine r_d rfl rfl rfl (s_pickT rfl rfl rfl) ?_
           refine r_d rfl rfl rfl (s_pickF rfl rfl rfl) ?_
           refine r_d rfl rfl rfl (s_pickT rfl rfl rfl) ?_
           refine r_d rfl rfl rfl (s_pickF rfl rfl rfl) ?_
           refine r_end ?_
           refine g_sB 67 rfl hr (fun h67_16 hr => ?_) (fun h67_16 hr => ?_)
           ·
            refine g_condT rfl ?_
            refine g_seq ?_
            refine g_run (by kernel_rfl) [(0, .d)] rfl ?_
            refine r_d rfl rfl rfl (s_assign rfl rfl) ?_
            refine r_end ?_
            obtain rfl := Option.some.inj hr
            refine g_ret Tryz.func23 _ (.cons (resTmp rfl (Wk.refl _)) .nil) ?_
            rfl
           ·
            refine g_condF rfl ?_
            refine g_skip ?_
            refine g_inBlock ?_
            refine g_run (by kernel_rfl) [(0, .d), (1, .d), (2, .d)] rfl ?_
            refine r_d rfl rfl rfl (s_move rfl rfl) ?_
            refine r_d rfl rfl rfl (s_ar (r := ((i_2 + 1 : Nat) : Int)) rfl rfl rfl (by simp [iar]) (by omega)) ?_
            refine r_d rfl rfl rfl (s_assign rfl rfl) ?_
            refine r_end ?_
            refine g_sub [(1, .ptr (enc_S_api_Block b_a0)), (3, .int .i64 (wr (commits_1 + (1 : Int)))), (4, .int .i64 ((i_2 + 1 : Nat) : Int))] (Sub.cons' rfl (Sub.cons' rfl (Sub.cons' rfl (Sub.nil _)))) ?_
            exact IH0 _ _ _ (by omega) ⟨(wr (commits_1 + (1 : Int))), (i_2 + 1), rfl, rfl, rfl, (by omega), hr⟩
          ·
           refine r_skip rfl rfl rfl ?_
           refine r_skip rfl rfl rfl ?_
           refine r_skip rfl rfl rfl ?_
           refine r_skip rfl rfl rfl ?_
           refine r_skip rfl rfl rfl ?_
           refine r_d rfl rfl rfl (s_pickF rfl rfl rfl) ?_
           refine r_d rfl rfl rfl (s_pickF rfl rfl rfl) ?_
           refine r_d rfl rfl rfl (s_pickT rfl rfl rfl) ?_
           refine r_d rfl rfl rfl (s_pickF rfl rfl rfl) ?_
           refine r_end ?_
           refine g_condF rfl ?_
           refine g_skip ?_
           refine g_inBlock ?_
           refine g_run (by kernel_rfl) [(0, .d), (1, .d), (2, .d)] rfl ?_
           refine r_d rfl rfl rfl (s_move rfl rfl) ?_
           refine r_d rfl rfl rfl (s_ar (r := ((i_2 + 1 : Nat) : Int)) rfl rfl rfl (by simp [iar]) (by omega)) ?_
           refine r_d rfl rfl rfl (s_assign rfl rfl) ?_
           refine r_end ?_
           refine g_sub [(1, .ptr (enc_S_api_Block b_a0)), (3, .int .i64 (wr (commits_1 + (1 : Int)))), (4, .int .i64 ((i_2 + 1 : Nat) : Int))] (Sub.cons' rfl (Sub.cons' rfl (Sub.cons' rfl (Sub.nil _)))) ?_
           exact IH0 _ _ _ (by omega) ⟨(wr (commits_1 + (1 : Int))), (i_2 + 1), rfl, rfl, rfl, (by omega), hr⟩
       ·
        refine r_skip rfl rfl rfl ?_
        refine r_skip rfl rfl rfl ?_
        refine r_skip rfl rfl rfl ?_
        refine r_skip rfl rfl rfl ?_
        refine r_skip rfl rfl rfl ?_
        refine r_skip rfl rfl rfl ?_
        refine r_skip rfl rfl rfl ?_
        refine r_skip rfl rfl rfl ?_
        refine r_skip rfl rfl rfl ?_
        refine r_skip rfl rfl rfl ?_
        refine r_skip rfl rfl rfl ?_
        refine r_skip rfl rfl rfl ?_
        refine r_skip rfl rfl rfl ?_
        refine r_skip rfl rfl rfl ?_
        refine r_skip rfl rfl rfl ?_
        refine r_skip rfl rfl rfl ?_
        refine r_skip rfl rfl rfl ?_
        refine r_skip rfl rfl rfl ?_
        refine r_skip rfl rfl rfl ?_
        refine r_skip rfl rfl rfl ?_
        refine r_d rfl rfl rfl (s_pickF rfl rfl rfl) ?_
        refine r_d rfl rfl rfl (s_pickF rfl rfl rfl) ?_
        refine r_end ?_
        refine g_condF rfl ?_
        refine g_skip ?_
        refine g_inBlock ?_
        refine g_run (by kernel_rfl) [(0, .d), (1, .d), (2, .d)] rfl ?_
        refine r_d rfl rfl rfl (s_move rfl rfl) ?_
        refine r_d rfl rfl rfl (s_ar (r := ((i_2 + 1 : Nat) : Int)) rfl rfl rfl (by simp [iar]) (by omega)) ?_
        refine r_d rfl rfl rfl (s_assign rfl rfl) ?_
        refine r_end ?_
        refine g_sub [(1, .ptr (enc_S_api_Block b_a0)), (3, .int .i64 (wr (commits_1 + (1 : Int)))), (4, .int .i64 ((i_2 + 1 : Nat) : Int))] (Sub.cons' rfl (Sub.cons' rfl (Sub.cons' rfl (Sub.nil _)))) ?_
        exact IH0 _ _ _ (by omega) ⟨(wr (commits_1 + (1 : Int))), (i_2 + 1), rfl, rfl, rfl, (by omega), hr⟩
    ·
     refine g_condF rfl ?_
     refine g_skip ?_
     refine g_seq ?_
     refine g_seq ?_
     refine g_run (by kernel_rfl) [(0, .d), (1, .d)] rfl ?_
     refine r_d rfl rfl rfl (s_move rfl rfl) ?_
     refine r_d rfl rfl rfl (s_cmp rfl rfl rfl rfl) ?_
     refine r_end ?_
     refine g_sB 25 rfl hr (fun h25_17 hr => ?_) (fun h25_17 hr => ?_)
     ·
      refine g_condT rfl ?_
      refine g_exit rfl ?_
      refine g_run (by kernel_rfl) [(0, .d), (1, .d), (2, .d)] rfl ?_
      refine r_d rfl rfl rfl (s_move rfl rfl) ?_
      refine r_d rfl rfl rfl (s_ar (r := ((i_2 + 1 : Nat) : Int)) rfl rfl rfl (by simp [iar]) (by omega)) ?_
      refine r_d rfl rfl rfl (s_assign rfl rfl) ?_
      refine r_end ?_
      refine g_sub [(1, .ptr (enc_S_api_Block b_a0)), (3, .int .i64 commits_1), (4, .int .i64 ((i_2 + 1 : Nat) : Int))] (Sub.cons' rfl (Sub.cons' rfl (Sub.cons' rfl (Sub.nil _)))) ?_
      exact IH0 _ _ _ (by omega) ⟨commits_1, (i_2 + 1), rfl, rfl, rfl, (by omega), hr⟩
     ·
      refine g_condF rfl ?_
      refine g_skip ?_
      refine g_seq ?_
      refine g_run (by kernel_rfl) [(0, .d), (1, .d), (2, .d), (3, .d), (4, .d), (5, .d), (6, .w), (7, .w)] rfl ?_
      refine r_d rfl rfl rfl (s_fieldAddr rfl fl_api_Block_1 rfl rfl (by simp [szs, sz, sz_S_api_Occ]) rfl) ?_
      refine r_d rfl rfl rfl (s_load rfl rfl (by exact ty_L_api_Instr) rfl) ?_
      refine r_d rfl rfl rfl (s_move rfl rfl) ?_
      refine r_d rfl rfl rfl (s_arW rfl rfl rfl rfl) ?_
      obtain ⟨q_19, hq_19, hr⟩ := bindS hr
      refine r_d rfl rfl rfl (m_index (f := enc_S_api_Instr) b_a0.f1_Code rfl el_L_api_Instr rfl (asl rfl) rfl hq_19 sz_S_api_Instr rfl) ?_
      refine r_d rfl rfl rfl (s_load rfl rfl (by exact ty_api_Instr) (sz_S_api_Instr _)) ?_
      refine r_w rfl rfl rfl (s_alloc rfl zv_api_Instr) ?_
      rintro _ _ ⟨b6_19, rfl, rfl⟩
      refine r_w01 rfl rfl rfl (t_store0 _ rfl rfl rfl (Wk.refl _) (pf0 _) (by exact ty_api_Instr) (sz_S_api_Instr _) (by simp [sz, szs, szs_fsT, sz_encG]) rfl) ?_
      refine r_end ?_
      refine g_freeze 6 b6_19 rfl (pf0 _) ?_
      refine g_seq ?_
      refine g_any (by kernel_rfl) (by kernel_rfl) [(0, .d), (1, .d), (2, .d), (3, .d), (4, .d), (5, .d), (6, .d), (7, .d), (8, .d), (9, .d), (10, .d), (11, .d), (12, .d), (13, .d), (14, .d), (15, .d), (16, .d), (17, .d), (18, .d), (19, .d), (20, .d), (21, .d), (22, .d), (23, .d), (24, .d), (25, .d), (26, .d), (27, .d), (28, .d), (29, .d), (30, .d), (31, .d), (32, .d), (33, .d), (34, .d), (35, .d)] (by kernel_rfl) ?_
      refine r_d rfl rfl rfl (s_fieldAddr rfl fl_api_Instr_0 rfl rfl rfl rfl) ?_
      refine r_d rfl rfl rfl (s_load rfl rfl (by exact ty_int) rfl) ?_
      obtain ⟨r_21, hr_21, hr⟩ := bindS hr
      refine r_d rfl rfl rfl (s_callD rfl cl_constraintref32_phase (.cons rfl (Wk.refl _) .nil) (lg_constraintref32_phase _ _ hr_21)) ?_
      refine r_d rfl rfl rfl (s_fieldAddr rfl fl_api_Instr_0 rfl rfl rfl rfl) ?_
      refine r_d rfl rfl rfl (s_load rfl rfl (by exact ty_int) rfl) ?_
      obtain ⟨r_22, hr_22, hr⟩ := bindS hr
      refine r_d rfl rfl rfl (s_callD rfl cl_constraintref32_phase (.cons rfl (Wk.refl _) .nil) (lg_constraintref32_phase _ _ hr_22)) ?_
      refine r_d rfl rfl rfl (s_cmp rfl rfl rfl rfl) ?_
      refine r_d rfl rfl rfl (s_move rfl rfl) ?_
      refine r_sB 39 rfl hr (fun h39_22 hr => ?_) (fun h39_22 hr => ?_)
      ·
       refine r_skip rfl rfl rfl ?_
       refine r_skip rfl rfl rfl ?_
       refine r_skip rfl rfl rfl ?_
       refine r_skip rfl rfl rfl ?_
       refine r_skip rfl rfl rfl ?_
       refine r_skip rfl rfl rfl ?_
       refine r_skip rfl rfl rfl ?_
       refine r_skip rfl rfl rfl ?_
       refine r_skip rfl rfl rfl ?_
       refine r_skip rfl rfl rfl ?_
       refine r_skip rfl rfl rfl ?_
       refine r_skip rfl rfl rfl ?_
       refine r_skip rfl rfl rfl ?_
       refine r_skip rfl rfl rfl ?_
       refine r_skip rfl rfl rfl ?_
       refine r_skip rfl rfl rfl ?_
       refine r_skip rfl rfl rfl ?_
       refine r_skip rfl rfl rfl ?_
       refine r_skip rfl rfl rfl ?_
       refine r_skip rfl rfl rfl ?_
       refine r_skip rfl rfl rfl ?_
       refine r_skip rfl rfl rfl ?_
       refine r_skip rfl rfl rfl ?_
       refine r_skip rfl rfl rfl ?_
       refine r_skip rfl rfl rfl ?_
       refine r_skip rfl rfl rfl ?_
       refine r_skip rfl rfl rfl ?_
       refine r_d rfl rfl rfl (s_pickT rfl rfl rfl) ?_
       refine r_end ?_
       refine g_condT rfl ?_
       refine g_seq ?_
       refine g_run (by kernel_rfl) [(0, .d)] rfl ?_
       refine r_d rfl rfl rfl (s_assign rfl rfl) ?_
       refine r_end ?_
       obtain rfl := Option.some.inj hr
       refine g_ret Tryz.func23 _ (.cons (resTmp rfl (Wk.refl _)) .nil) ?_
       rfl
      ·
       refine r_d rfl rfl rfl (s_fieldAddr rfl fl_api_Instr_0 rfl rfl rfl rfl) ?_
       refine r_d rfl rfl rfl (s_load rfl rfl (by exact ty_int) rfl) ?_
       refine r_d rfl rfl rfl (s_fieldAddr rfl fl_api_Instr_0 rfl rfl rfl rfl) ?_
       refine r_d rfl rfl rfl (s_load rfl rfl (by exact ty_int) rfl) ?_
       refine r_d rfl rfl rfl (s_cmp rfl rfl rfl rfl) ?_
       refine r_d rfl rfl rfl (s_move rfl rfl) ?_
       refine r_sB 45 rfl hr (fun h45_23 hr => ?_) (fun h45_23 hr => ?_)
       ·
        refine r_d rfl rfl rfl (s_fieldAddr rfl fl_api_Instr_0 rfl rfl rfl rfl) ?_
        refine r_d rfl rfl rfl (s_load rfl rfl (by exact ty_int) rfl) ?_
        refine r_d rfl rfl rfl (s_cmp rfl rfl rfl rfl) ?_
        refine r_d rfl rfl rfl (s_move rfl rfl) ?_
        refine r_sB 49 rfl hr (fun h49_24 hr => ?_) (fun h49_24 hr => ?_)
        ·
         refine r_skip rfl rfl rfl ?_
         refine r_skip rfl rfl rfl ?_
         refine r_skip rfl rfl rfl ?_
         refine r_d rfl rfl rfl (s_pickT rfl rfl rfl) ?_
         refine r_d rfl rfl rfl (s_move rfl rfl) ?_
         refine r_skip rfl rfl rfl ?_
         refine r_skip rfl rfl rfl ?_
         refine r_skip rfl rfl rfl ?_
         refine r_skip rfl rfl rfl ?_
         refine r_skip rfl rfl rfl ?_
         refine r_skip rfl rfl rfl ?_
         refine r_skip rfl rfl rfl ?_
         refine r_skip rfl rfl rfl ?_
         refine r_skip rfl rfl rfl ?_
         refine r_skip rfl rfl rfl ?_
         refine r_d rfl rfl rfl (s_pickT rfl rfl rfl) ?_
         refine r_d rfl rfl rfl (s_pickT rfl rfl rfl) ?_
         refine r_d rfl rfl rfl (s_pickF rfl rfl rfl) ?_
         refine r_end ?_
         refine g_condT rfl ?_
         refine g_seq ?_
         refine g_run (by kernel_rfl) [(0, .d)] rfl ?_
         refine r_d rfl rfl rfl (s_assign rfl rfl) ?_
         refine r_end ?_
         obtain rfl := Option.some.inj hr
         refine g_ret Tryz.func23 _ (.cons (resTmp rfl (Wk.refl _)) .nil) ?_
         rfl
        ·
         refine r_d rfl rfl rfl (s_fieldAddr rfl fl_api_Instr_0 rfl rfl rfl rfl) ?_
         refine r_d rfl rfl rfl (s_load rfl rfl (by exact ty_int) rfl) ?_
         refine r_d rfl rfl rfl (s_cmp rfl rfl rfl rfl) ?_
         refine r_d rfl rfl rfl (s_pickF rfl rfl rfl) ?_
         refine r_d rfl rfl rfl (s_move rfl rfl) ?_
         refine r_sB 54 rfl hr (fun h54_25 hr => ?_) (fun h54_25 hr => ?_)
         ·
          refine r_skip rfl rfl rfl ?_
          refine r_skip rfl rfl rfl ?_
          refine r_skip rfl rfl rfl ?_
          refine r_skip rfl rfl rfl ?_
          refine r_skip rfl rfl rfl ?_
          refine r_skip rfl rfl rfl ?_
          refine r_skip rfl rfl rfl ?_
          refine r_skip rfl rfl rfl ?_
          refine r_skip rfl rfl rfl ?_
          refine r_skip rfl rfl rfl ?_
          refine r_d rfl rfl rfl (s_pickT rfl rfl rfl) ?_
          refine r_d rfl rfl rfl (s_pickT rfl rfl rfl) ?_
          refine r_d rfl rfl rfl (s_pickF rfl rfl rfl) ?_
          refine r_end ?_
          refine g_condT rfl ?_
          refine g_seq ?_
          refine g_run (by kernel_rfl) [(0, .d)] rfl ?_
          refine r_d rfl rfl rfl (s_assign rfl rfl) ?_
          refine r_end ?_
          obtain rfl := Option.some.inj hr
          refine g_ret Tryz.func23 _ (.cons (resTmp rfl (Wk.refl _)) .nil) ?_
          rfl
         ·
          refine r_d rfl rfl rfl (s_fieldAddr rfl fl_api_Instr_0 rfl rfl rfl rfl) ?_
          refine r_d rfl rfl rfl (s_load rfl rfl (by exact ty_int) rfl) ?_
          refine r_d rfl rfl rfl (s_cmp rfl rfl rfl rfl) ?_
          refine r_d rfl rfl rfl (s_move rfl rfl) ?_
          refine r_sB 58 rfl hr (fun h58_26 hr => ?_) (fun h58_26 hr => ?_)
          ·
           refine r_d rfl rfl rfl (s_fieldAddr rfl fl_api_Instr_1 rfl rfl rfl rfl) ?_
           refine r_d rfl rfl rfl (s_load rfl rfl (by exact ty_int) rfl) ?_
           refine r_d rfl rfl rfl (s_fieldAddr rfl fl_api_Instr_1 rfl rfl rfl rfl) ?_
           refine r_d rfl rfl rfl (s_load rfl rfl (by exact ty_int) rfl) ?_
           refine r_d rfl rfl rfl (s_cmp rfl rfl rfl rfl) ?_
           refine r_d rfl rfl rfl (s_pickT rfl rfl rfl) ?_
           refine r_d rfl rfl rfl (s_pickF rfl rfl rfl) ?_
           refine r_d rfl rfl rfl (s_pickT rfl rfl rfl) ?_
           refine r_d rfl rfl rfl (s_pickF rfl rfl rfl) ?_
           refine r_end ?_
           refine g_sB 67 rfl hr (fun h67_27 hr => ?_) (fun h67_27 hr => ?_)
           ·
            refine g_condT rfl ?_
            refine g_seq ?_
            refine g_run (by kernel_rfl) [(0, .d)] rfl ?_
            refine r_d rfl rfl rfl (s_assign rfl rfl) ?_
            refine r_end ?_
            obtain rfl := Option.some.inj hr
            refine g_ret Tryz.func23 _ (.cons (resTmp rfl (Wk.refl _)) .nil) ?_
            rfl
           ·
            refine g_condF rfl ?_
            refine g_skip ?_
            refine g_inBlock ?_
            refine g_run (by kernel_rfl) [(0, .d), (1, .d), (2, .d)] rfl ?_
            refine r_d rfl rfl rfl (s_move rfl rfl) ?_
            refine r_d rfl rfl rfl (s_ar (r := ((i_2 + 1 : Nat) : Int)) rfl rfl rfl (by simp [iar]) (by omega)) ?_
            refine r_d rfl rfl rfl (s_assign rfl rfl) ?_
            refine r_end ?_
            refine g_sub [(1, .ptr (enc_S_api_Block b_a0)), (3, .int .i64 commits_1), (4, .int .i64 ((i_2 + 1 : Nat) : Int))] (Sub.cons' rfl (Sub.cons' rfl (Sub.cons' rfl (Sub.nil _)))) ?_
            exact IH0 _ _ _ (by omega) ⟨commits_1, (i_2 + 1), rfl, rfl, rfl, (by omega), hr⟩
          ·
           refine r_skip rfl rfl rfl ?_
           refine r_skip rfl rfl rfl ?_
           refine r_skip rfl rfl rfl ?_
           refine r_skip rfl rfl rfl ?_
           refine r_skip rfl rfl rfl ?_
           refine r_d rfl rfl rfl (s_pickF rfl rfl rfl) ?_
           refine r_d rfl rfl rfl (s_pickF rfl rfl rfl) ?_
           refine r_d rfl rfl rfl (s_pickT rfl rfl rfl) ?_
           refine r_d rfl rfl rfl (s_pickF rfl rfl rfl) ?_
           refine r_end ?_
           refine g_condF rfl ?_
           refine g_skip ?_
           refine g_inBlock ?_
           refine g_run (by kernel_rfl) [(0, .d), (1, .d), (2, .d)] rfl ?_
           refine r_d rfl rfl rfl (s_move rfl rfl) ?_
           refine r_d rfl rfl rfl (s_ar (r := ((i_2 + 1 : Nat) : Int)) rfl rfl rfl (by simp [iar]) (by omega)) ?_
           refine r_d rfl rfl rfl (s_assign rfl rfl) ?_
           refine r_end ?_
           refine g_sub [(1, .ptr (enc_S_api_Block b_a0)), (3, .int .i64 commits_1), (4, .int .i64 ((i_2 + 1 : Nat) : Int))] (Sub.cons' rfl (Sub.cons' rfl (Sub.cons' rfl (Sub.nil _)))) ?_
           exact IH0 _ _ _ (by omega) ⟨commits_1, (i_2 + 1), rfl, rfl, rfl, (by omega), hr⟩
       ·
        refine r_skip rfl rfl rfl ?_
        refine r_skip rfl rfl rfl ?_
        refine r_skip rfl rfl rfl ?_
        refine r_skip rfl rfl rfl ?_
        refine r_skip rfl rfl rfl ?_
        refine r_skip rfl rfl rfl ?_
        refine r_skip rfl rfl rfl ?_
        refine r_skip rfl rfl rfl ?_
        refine r_skip rfl rfl rfl ?_
        refine r_skip rfl rfl rfl ?_
        refine r_skip rfl rfl rfl ?_
        refine r_skip rfl rfl rfl ?_
        refine r_skip rfl rfl rfl ?_
        refine r_skip rfl rfl rfl ?_
        refine r_skip rfl rfl rfl ?_
        refine r_skip rfl rfl rfl ?_
        refine r_skip rfl rfl rfl ?_
        refine r_skip rfl rfl rfl ?_
        refine r_skip rfl rfl rfl ?_
        refine r_skip rfl rfl rfl ?_
        refine r_d rfl rfl rfl (s_pickF rfl rfl rfl) ?_
        refine r_d rfl rfl rfl (s_pickF rfl rfl rfl) ?_
        refine r_end ?_
        refine g_condF rfl ?_
        refine g_skip ?_
        refine g_inBlock ?_
        refine g_run (by kernel_rfl) [(0, .d), (1, .d), (2, .d)] rfl ?_
        refine r_d rfl rfl rfl (s_move rfl rfl) ?_
        refine r_d rfl rfl rfl (s_ar (r := ((i_2 + 1 : Nat) : Int)) rfl rfl rfl (by simp [iar]) (by omega)) ?_
        refine r_d rfl rfl rfl (s_assign rfl rfl) ?_
        refine r_end ?_
        refine g_sub [(1, .ptr (enc_S_api_Block b_a0)), (3, .int .i64 commits_1), (4, .int .i64 ((i_2 + 1 : Nat) : Int))] (Sub.cons' rfl (Sub.cons' rfl (Sub.cons' rfl (Sub.nil _)))) ?_
        exact IH0 _ _ _ (by omega) ⟨commits_1, (i_2 + 1), rfl, rfl, rfl, (by omega), hr⟩

noncomputable def lf_constraintref32_in_L0 (k : Option (Bool)) (n_a1 : Int) : List Int → Option (Bool)
  | [] =>
  k
  | q_2 :: rest =>
  (bif (q_2 == n_a1) then
  some (true)
  else
  (lf_constraintref32_in_L0 k n_a1 rest))
noncomputable def lf_constraintref32_in (l_a0 : (List Int)) (n_a1 : Int) : Option (Bool) :=
  (lf_constraintref32_in_L0 (some (false)) n_a1 l_a0)

set_option maxHeartbeats 1000000 in
theorem lg_constraintref32_in (l_a0 : (List Int)) (n_a1 : Int) (res : Bool) (hr : lf_constraintref32_in l_a0 n_a1 = some res) : Gives Tryz.prog 46 [.lst (l_a0.map (D.int .i64)), .int .i64 n_a1] (.bool res) := by
  unfold lf_constraintref32_in at hr
  refine spec_env [(0, .lst (l_a0.map (D.int .i64))), (1, .int .i64 n_a1)] Tryz.func46 rfl rfl fun K hK => ?_
  refine g_seq ?_
  refine g_run (by kernel_rfl) [(0, .d)] rfl ?_
  refine r_d rfl rfl rfl (s_assign rfl rfl) ?_
  refine r_end ?_
  refine g_seq ?_
  refine g_seq ?_
  refine g_run (by kernel_rfl) [(0, .d)] rfl ?_
  refine r_d rfl rfl rfl (s_assign rfl rfl) ?_
  refine r_end ?_
  obtain ⟨kk0, hkk0, hr⟩ := exK (fun k => lf_constraintref32_in_L0 k n_a1 l_a0) hr
  refine g_len 0 rfl (asl rfl) fun hla0 => ?_
  simp only [List.length_map] at hla0
  refine g_blockJ (fun env σ => env = [] ∧ σ = [] ∧ kk0 = some res) ?_ (fun HK0 => ?_)
  ·
   rintro _ _ ⟨rfl, rfl, hr⟩
   rw [hkk0] at hr
   refine g_seq ?_
   refine g_run (by kernel_rfl) [(0, .d)] rfl ?_
   refine r_d rfl rfl rfl (s_assign rfl rfl) ?_
   refine r_end ?_
   obtain rfl := Option.some.inj hr
   refine g_ret Tryz.func46 _ (.cons (resTmp rfl (Wk.refl _)) .nil) ?_
   rfl
  ·
   refine g_sub [(0, .lst (l_a0.map (D.int .i64))), (1, .int .i64 n_a1), (5, .int .i64 ((0 : Nat) : Int))] (Sub.cons' rfl (Sub.cons' rfl (Sub.cons' rfl (Sub.nil _)))) ?_
   refine g_loop (fun n env σ => ∃ (i_1 : Nat), (n = l_a0.length - i_1) ∧ (env = [(0, .lst (l_a0.map (D.int .i64))), (1, .int .i64 n_a1), (5, .int .i64 (i_1 : Int))]) ∧ (σ = []) ∧ (i_1 ≤ l_a0.length) ∧ (lf_constraintref32_in_L0 kk0 n_a1 (l_a0.drop i_1) = some res)) _ ⟨0, rfl, rfl, rfl, Nat.zero_le _, hr⟩ ?_
   rintro n _ _ ⟨i_1, rfl, rfl, rfl, hi0, hr⟩ IH0
   rcases listStep l_a0 i_1 hi0 with ⟨ht0, hd0, he0⟩ | ⟨q_2, ht0, hd0, hq0, hlt0⟩
   ·
    rw [hd0, lf_constraintref32_in_L0] at hr
    refine g_seq ?_
    refine g_seq ?_
    refine g_run (by kernel_rfl) [(0, .d), (1, .d), (2, .d), (3, .d)] rfl ?_
    refine r_d rfl rfl rfl (s_move rfl rfl) ?_
    refine r_d rfl rfl rfl (s_move rfl rfl) ?_
    refine r_d rfl rfl rfl (m_len (f := (D.int .i64)) l_a0 rfl el_L_int rfl (asl rfl)) ?_
    refine r_d rfl rfl rfl (s_cmp rfl rfl rfl rfl) ?_
    refine r_end ?_
    refine g_known 9 false rfl ht0 ?_
    refine g_condF rfl ?_
    refine g_exit rfl ?_
    refine g_sub [] (Sub.nil _) ?_
    exact HK0 _ _ ⟨rfl, rfl, hr⟩
   ·
    rw [hd0, lf_constraintref32_in_L0] at hr
    refine g_seq ?_
    refine g_seq ?_
    refine g_run (by kernel_rfl) [(0, .d), (1, .d), (2, .d), (3, .d)] rfl ?_
    refine r_d rfl rfl rfl (s_move rfl rfl) ?_
    refine r_d rfl rfl rfl (s_move rfl rfl) ?_
    refine r_d rfl rfl rfl (m_len (f := (D.int .i64)) l_a0 rfl el_L_int rfl (asl rfl)) ?_
    refine r_d rfl rfl rfl (s_cmp rfl rfl rfl rfl) ?_
    refine r_end ?_
    refine g_known 9 true rfl ht0 ?_
    refine g_condT rfl ?_
    refine g_skip ?_
    refine g_seq ?_
    refine g_block ?_
    refine g_seq ?_
    refine g_run (by kernel_rfl) [(0, .d), (1, .d), (2, .d), (3, .d), (4, .d), (5, .d)] rfl ?_
    refine r_d rfl rfl rfl (s_move rfl rfl) ?_
    refine r_d rfl rfl rfl (s_move rfl rfl) ?_
    refine r_d rfl rfl rfl (m_index (f := (D.int .i64)) l_a0 rfl el_L_int rfl (asl rfl) rfl hq0 (fun _ => rfl) rfl) ?_
    refine r_d rfl rfl rfl (s_load rfl rfl (by exact ty_int) rfl) ?_
    refine r_d rfl rfl rfl (s_move rfl rfl) ?_
    refine r_d rfl rfl rfl (s_cmp rfl rfl rfl rfl) ?_
    refine r_end ?_
    refine g_sB 17 rfl hr (fun h17_2 hr => ?_) (fun h17_2 hr => ?_)
    ·
     refine g_condT rfl ?_
     refine g_seq ?_
     refine g_run (by kernel_rfl) [(0, .d)] rfl ?_
     refine r_d rfl rfl rfl (s_assign rfl rfl) ?_
     refine r_end ?_
     obtain rfl := Option.some.inj hr
     refine g_ret Tryz.func46 _ (.cons (resTmp rfl (Wk.refl _)) .nil) ?_
     rfl
    ·
     refine g_condF rfl ?_
     refine g_skip ?_
     refine g_inBlock ?_
     refine g_run (by kernel_rfl) [(0, .d), (1, .d), (2, .d)] rfl ?_
     refine r_d rfl rfl rfl (s_move rfl rfl) ?_
     refine r_d rfl rfl rfl (s_ar (r := ((i_1 + 1 : Nat) : Int)) rfl rfl rfl (by simp [iar]) (by omega)) ?_
     refine r_d rfl rfl rfl (s_assign rfl rfl) ?_
     refine r_end ?_
     refine g_sub [(0, .lst (l_a0.map (D.int .i64))), (1, .int .i64 n_a1), (5, .int .i64 ((i_1 + 1 : Nat) : Int))] (Sub.cons' rfl (Sub.cons' rfl (Sub.cons' rfl (Sub.nil _)))) ?_
     exact IH0 _ _ _ (by omega) ⟨(i_1 + 1), rfl, rfl, rfl, (by omega), hr⟩

noncomputable def lf_constraintref32_first_L0 (k : Option (Bool)) (bound_a0 : (List Int)) : Nat → Int → Option (Bool)
  | 0, i_1 =>
  k
  | rest + 1, i_1 =>
  ((lf_constraintref32_in bound_a0 i_1).bind fun r_2 =>
  (bif (!r_2) then
  some (false)
  else
  (lf_constraintref32_first_L0 k bound_a0 rest (i_1 + 1))))
noncomputable def lf_constraintref32_first (bound_a0 : (List Int)) (n_a1 : Int) : Option (Bool) :=
  (lf_constraintref32_first_L0 (some (true)) bound_a0 (n_a1 - 0 : Int).toNat 0)

set_option maxHeartbeats 1000000 in
theorem lg_constraintref32_first (bound_a0 : (List Int)) (n_a1 : Int) (res : Bool) (hr : lf_constraintref32_first bound_a0 n_a1 = some res) : Gives Tryz.prog 47 [.lst (bound_a0.map (D.int .i64)), .int .i64 n_a1] (.bool res) := by
  unfold lf_constraintref32_first at hr
  refine spec_env [(0, .lst (bound_a0.map (D.int .i64))), (1, .int .i64 n_a1)] Tryz.func47 rfl rfl fun K hK => ?_
  refine g_seq ?_
  refine g_run (by kernel_rfl) [(0, .d)] rfl ?_
  refine r_d rfl rfl rfl (s_assign rfl rfl) ?_
  refine r_end ?_
  refine g_seq ?_
  refine g_seq ?_
  refine g_run (by kernel_rfl) [(0, .d)] rfl ?_
  refine r_d rfl rfl rfl (s_assign rfl rfl) ?_
  refine r_end ?_
  obtain ⟨kk0, hkk0, hr⟩ := exK (fun k => lf_constraintref32_first_L0 k bound_a0 (n_a1 - 0 : Int).toNat 0) hr
  refine g_int 1 rfl fun hla0 => ?_
  refine g_blockJ (fun env σ => env = [] ∧ σ = [] ∧ kk0 = some res) ?_ (fun HK0 => ?_)
  ·
   rintro _ _ ⟨rfl, rfl, hr⟩
   rw [hkk0] at hr
   refine g_seq ?_
   refine g_run (by kernel_rfl) [(0, .d)] rfl ?_
   refine r_d rfl rfl rfl (s_assign rfl rfl) ?_
   refine r_end ?_
   obtain rfl := Option.some.inj hr
   refine g_ret Tryz.func47 _ (.cons (resTmp rfl (Wk.refl _)) .nil) ?_
   rfl
  ·
   refine g_sub [(0, .lst (bound_a0.map (D.int .i64))), (1, .int .i64 n_a1), (5, .int .i64 0)] (Sub.cons' rfl (Sub.cons' rfl (Sub.cons' rfl (Sub.nil _)))) ?_
   refine g_loop (fun n env σ => ∃ (i_1 : Int) (m0 : Nat), (m0 = n) ∧ (env = [(0, .lst (bound_a0.map (D.int .i64))), (1, .int .i64 n_a1), (5, .int .i64 i_1)]) ∧ (σ = []) ∧ (m0 = (n_a1 - i_1 : Int).toNat) ∧ (lf_constraintref32_first_L0 kk0 bound_a0 m0 i_1 = some res)) _ ⟨0, _, rfl, rfl, rfl, rfl, hr⟩ ?_
   rintro n _ _ ⟨i_1, m0, rfl, rfl, rfl, hi0, hr⟩ IH0
   refine g_int 5 rfl fun hb0 => ?_
   rcases cntStep i_1 n_a1 m0 hi0 with ⟨hm0, ht0⟩ | ⟨m0', hm0, ht0, hi0', hlt0⟩
   ·
    rw [hm0, lf_constraintref32_first_L0] at hr
    refine g_seq ?_
    refine g_seq ?_
    refine g_run (by kernel_rfl) [(0, .d), (1, .d), (2, .d)] rfl ?_
    refine r_d rfl rfl rfl (s_move rfl rfl) ?_
    refine r_d rfl rfl rfl (s_move rfl rfl) ?_
    refine r_d rfl rfl rfl (s_cmp rfl rfl rfl rfl) ?_
    refine r_end ?_
    refine g_known 8 false rfl ht0 ?_
    refine g_condF rfl ?_
    refine g_exit rfl ?_
    refine g_sub [] (Sub.nil _) ?_
    exact HK0 _ _ ⟨rfl, rfl, hr⟩
   ·
    rw [hm0, lf_constraintref32_first_L0] at hr
    refine g_seq ?_
    refine g_seq ?_
    refine g_run (by kernel_rfl) [(0, .d), (1, .d), (2, .d)] rfl ?_
    refine r_d rfl rfl rfl (s_move rfl rfl) ?_
    refine r_d rfl rfl rfl (s_move rfl rfl) ?_
    refine r_d rfl rfl rfl (s_cmp rfl rfl rfl rfl) ?_
    refine r_end ?_
    refine g_int 1 rfl fun hbN1 => ?_
    refine g_known 8 true rfl ht0 ?_
    refine g_condT rfl ?_
    refine g_skip ?_
    refine g_seq ?_
    refine g_block ?_
    refine g_seq ?_
    refine g_run (by kernel_rfl) [(0, .d), (1, .d), (2, .d), (3, .d)] rfl ?_
    refine r_d rfl rfl rfl (s_move rfl rfl) ?_
    refine r_d rfl rfl rfl (s_move rfl rfl) ?_
    obtain ⟨r_2, hr_2, hr⟩ := bindS hr
    refine r_d rfl rfl rfl (s_callD rfl cl_constraintref32_in (.cons rfl (Wk.refl _) (.cons rfl (Wk.refl _) .nil)) (lg_constraintref32_in _ _ _ hr_2)) ?_
    refine r_d rfl rfl rfl (s_not rfl rfl) ?_
    refine r_end ?_
    refine g_sB 14 rfl hr (fun h14_2 hr => ?_) (fun h14_2 hr => ?_)
    ·
     refine g_condT rfl ?_
     refine g_seq ?_
     refine g_run (by kernel_rfl) [(0, .d)] rfl ?_
     refine r_d rfl rfl rfl (s_assign rfl rfl) ?_
     refine r_end ?_
     obtain rfl := Option.some.inj hr
     refine g_ret Tryz.func47 _ (.cons (resTmp rfl (Wk.refl _)) .nil) ?_
     rfl
    ·
     refine g_condF rfl ?_
     refine g_skip ?_
     refine g_inBlock ?_
     refine g_run (by kernel_rfl) [(0, .d), (1, .d), (2, .d)] rfl ?_
     refine r_d rfl rfl rfl (s_move rfl rfl) ?_
     refine r_d rfl rfl rfl (s_ar (r := i_1 + 1) rfl rfl rfl rfl (by omega)) ?_
     refine r_d rfl rfl rfl (s_assign rfl rfl) ?_
     refine r_end ?_
     refine g_sub [(0, .lst (bound_a0.map (D.int .i64))), (1, .int .i64 n_a1), (5, .int .i64 (i_1 + 1))] (Sub.cons' rfl (Sub.cons' rfl (Sub.cons' rfl (Sub.nil _)))) ?_
     exact IH0 _ _ _ (by omega) ⟨(i_1 + 1), _, rfl, rfl, rfl, hi0', hr⟩

noncomputable def lf_constraintref32_registers_L0 (k : Option (Bool)) (b_a0 : S_api_Block) : List S_api_Instr → (List Int) → (List Int) → Option (Bool)
  | [], bound_5, fresh_6 =>
  k
  | q_8 :: rest, bound_5, fresh_6 =>
  (bif (q_8.f0_Op == (1 : Int)) then
  ((lf_constraintref32_in bound_5 q_8.f1_A).bind fun r_11 =>
  (bif (!r_11) then
  some (false)
  else
  (lf_constraintref32_registers_L0 k b_a0 rest bound_5 fresh_6)))
  else
  (bif (q_8.f0_Op == (6 : Int)) then
  ((lf_constraintref32_in bound_5 q_8.f1_A).bind fun r_14 =>
  (bif (!r_14) then
  some (false)
  else
  (lf_constraintref32_registers_L0 k b_a0 rest bound_5 fresh_6)))
  else
  (bif (q_8.f0_Op == (4 : Int)) then
  ((lf_constraintref32_in bound_5 q_8.f1_A).bind fun r_17 =>
  (bif r_17 then
  ((lf_constraintref32_in bound_5 q_8.f2_B).bind fun r_19 =>
  (bif (!r_19) then
  some (false)
  else
  (lf_constraintref32_registers_L0 k b_a0 rest bound_5 fresh_6)))
  else
  (bif (!false) then
  some (false)
  else
  (lf_constraintref32_registers_L0 k b_a0 rest bound_5 fresh_6))))
  else
  (bif (q_8.f0_Op == (3 : Int)) then
  ((lf_constraintref32_in bound_5 q_8.f1_A).bind fun r_23 =>
  ((appO 8 bound_5 [q_8.f1_A]).bind fun l_24 =>
  (bif (!(!r_23)) then
  some (false)
  else
  (lf_constraintref32_registers_L0 k b_a0 rest l_24 fresh_6))))
  else
  (bif (q_8.f0_Op == (5 : Int)) then
  ((lf_constraintref32_first bound_5 q_8.f2_B).bind fun r_28 =>
  (bif r_28 then
  ((appO 8 fresh_6 [q_8.f2_B]).bind fun l_30 =>
  (bif (!(q_8.f1_A == b_a0.f0_Occ.f0_Rule)) then
  some (false)
  else
  (lf_constraintref32_registers_L0 k b_a0 rest bound_5 l_30)))
  else
  ((appO 8 fresh_6 [q_8.f2_B]).bind fun l_33 =>
  (bif (!false) then
  some (false)
  else
  (lf_constraintref32_registers_L0 k b_a0 rest bound_5 l_33)))))
  else
  (bif (q_8.f0_Op == (8 : Int)) then
  ((lf_constraintref32_first bound_5 q_8.f2_B).bind fun r_37 =>
  (bif r_37 then
  (bif (q_8.f1_A == b_a0.f0_Occ.f0_Rule) then
  ((lf_constraintref32_in fresh_6 q_8.f2_B).bind fun r_40 =>
  (bif (!r_40) then
  some (false)
  else
  (lf_constraintref32_registers_L0 k b_a0 rest bound_5 fresh_6)))
  else
  (bif (!false) then
  some (false)
  else
  (lf_constraintref32_registers_L0 k b_a0 rest bound_5 fresh_6)))
  else
  (bif (!false) then
  some (false)
  else
  (lf_constraintref32_registers_L0 k b_a0 rest bound_5 fresh_6))))
  else
  (bif (q_8.f0_Op == (10 : Int)) then
  (bif (!(q_8.f1_A == b_a0.f0_Occ.f0_Rule)) then
  some (false)
  else
  (lf_constraintref32_registers_L0 k b_a0 rest bound_5 fresh_6))
  else
  (bif (!true) then
  some (false)
  else
  (lf_constraintref32_registers_L0 k b_a0 rest bound_5 fresh_6)))))))))
noncomputable def lf_constraintref32_registers (b_a0 : S_api_Block) : Option (Bool) :=
  (lf_constraintref32_registers_L0 (some (true)) b_a0 b_a0.f1_Code [b_a0.f0_Occ.f1_Head] [])

set_option maxHeartbeats 1000000 in
theorem lg_constraintref32_registers (b_a0 : S_api_Block) (res : Bool) (hr : lf_constraintref32_registers b_a0 = some res) : Gives Tryz.prog 24 [enc_S_api_Block b_a0] (.bool res) := by
  unfold lf_constraintref32_registers at hr
  refine spec_env [(0, enc_S_api_Block b_a0)] Tryz.func24 rfl rfl fun K hK => ?_
  refine g_seq ?_
  refine g_run (by kernel_rfl) [(0, .d), (1, .d)] rfl ?_
  refine r_d rfl rfl rfl (s_box rfl rfl rfl) ?_
  refine r_d rfl rfl rfl (s_assign rfl rfl) ?_
  refine r_end ?_
  refine g_seq ?_
  refine g_run (by kernel_rfl) [(0, .d), (1, .d), (2, .d), (3, .w), (4, .d)] rfl ?_
  refine r_d rfl rfl rfl (s_fieldAddr rfl fl_api_Block_0 rfl rfl rfl rfl) ?_
  refine r_d rfl rfl rfl (s_fieldAddr rfl fl_api_Occ_1 rfl rfl rfl rfl) ?_
  refine r_d rfl rfl rfl (s_load rfl rfl (by exact ty_int) rfl) ?_
  refine r_w rfl rfl rfl (m_litOwn (f := (D.int .i64)) [.tmp 10] [b_a0.f0_Occ.f1_Head] rfl el_L_int rfl rfl (by decide) (by decide) (.cons rfl (Wk.refl _) .nil) (fun _ => rfl) (fun _ => rfl)) ?_
  rintro _ _ ⟨u11_0, rfl, rfl⟩
  refine r_d rfl rfl rfl (s_assign rfl rfl) ?_
  refine r_end ?_
  refine g_seq ?_
  refine g_run (by kernel_rfl) [(0, .w)] rfl ?_
  refine r_w rfl rfl rfl (s_nilOwn 3 1 (.inl rfl)) ?_
  rintro _ _ ⟨u4_1, rfl, rfl⟩
  refine r_end ?_
  refine g_seq ?_
  refine g_seq ?_
  refine g_run (by kernel_rfl) [(0, .d)] rfl ?_
  refine r_d rfl rfl rfl (s_assign rfl rfl) ?_
  refine r_end ?_
  obtain ⟨kk0, hkk0, hr⟩ := exK (fun k => lf_constraintref32_registers_L0 k b_a0 b_a0.f1_Code [b_a0.f0_Occ.f1_Head] []) hr
  refine g_lenS 0 [1] (l := b_a0.f1_Code.map enc_S_api_Instr) rfl rfl (asl rfl) fun hla0 => ?_
  simp only [List.length_map] at hla0
  refine g_blockJ (fun env σ => env = [] ∧ σ = [] ∧ kk0 = some res) ?_ (fun HK0 => ?_)
  ·
   rintro _ _ ⟨rfl, rfl, hr⟩
   rw [hkk0] at hr
   refine g_seq ?_
   refine g_run (by kernel_rfl) [(0, .d)] rfl ?_
   refine r_d rfl rfl rfl (s_assign rfl rfl) ?_
   refine r_end ?_
   obtain rfl := Option.some.inj hr
   refine g_ret Tryz.func24 _ (.cons (resTmp rfl (Wk.refl _)) .nil) ?_
   rfl
  ·
   refine g_sub [(1, .ptr (enc_S_api_Block b_a0)), (3, .own u11_0 ([b_a0.f0_Occ.f1_Head].map (D.int .i64))), (4, .own u4_1 ([].map (D.int .i64))), (5, .int .i64 ((0 : Nat) : Int))] (Sub.cons' rfl (Sub.cons' rfl (Sub.cons' rfl (Sub.cons' rfl (Sub.nil _))))) ?_
   refine g_perm [_, _] _ ((pf0 _).trans (pf1 _ _ _)) ?_
   refine g_loop (fun n env σ => ∃ (bound_5 : (List Int)) (fresh_6 : (List Int)) (i_7 : Nat) (u_3 : Value) (u_4 : Value), (n = b_a0.f1_Code.length - i_7) ∧ (env = [(1, .ptr (enc_S_api_Block b_a0)), (3, .own u_3 (bound_5.map (D.int .i64))), (4, .own u_4 (fresh_6.map (D.int .i64))), (5, .int .i64 (i_7 : Int))]) ∧ (σ = [.row u_3 bound_5.length 3 1, .row u_4 fresh_6.length 3 1]) ∧ (i_7 ≤ b_a0.f1_Code.length) ∧ (lf_constraintref32_registers_L0 kk0 b_a0 (b_a0.f1_Code.drop i_7) bound_5 fresh_6 = some res)) _ ⟨[b_a0.f0_Occ.f1_Head], [], 0, u11_0, u4_1, rfl, rfl, rfl, Nat.zero_le _, hr⟩ ?_
   rintro n _ _ ⟨bound_5, fresh_6, i_7, u_3, u_4, rfl, rfl, rfl, hi0, hr⟩ IH0
   rcases listStep b_a0.f1_Code i_7 hi0 with ⟨ht0, hd0, he0⟩ | ⟨q_8, ht0, hd0, hq0, hlt0⟩
   ·
    rw [hd0, lf_constraintref32_registers_L0] at hr
    refine g_seq ?_
    refine g_seq ?_
    refine g_run (by kernel_rfl) [(0, .d), (1, .d), (2, .d), (3, .d), (4, .d)] rfl ?_
    refine r_d rfl rfl rfl (s_move rfl rfl) ?_
    refine r_d rfl rfl rfl (s_fieldAddr rfl fl_api_Block_1 rfl rfl (by simp [szs, sz, sz_S_api_Occ]) rfl) ?_
    refine r_d rfl rfl rfl (s_load rfl rfl (by exact ty_L_api_Instr) rfl) ?_
    refine r_d rfl rfl rfl (m_len (f := enc_S_api_Instr) b_a0.f1_Code rfl el_L_api_Instr rfl (asl rfl)) ?_
    refine r_d rfl rfl rfl (s_cmp rfl rfl rfl rfl) ?_
    refine r_end ?_
    refine g_known 16 false rfl ht0 ?_
    refine g_condF rfl ?_
    refine g_exit rfl ?_
    refine g_sub [] (Sub.nil _) ?_
    refine g_perm [] _ (pf0 _) ?_
    exact HK0 _ _ ⟨rfl, rfl, hr⟩
   ·
    rw [hd0, lf_constraintref32_registers_L0] at hr
    refine g_seq ?_
    refine g_seq ?_
    refine g_run (by kernel_rfl) [(0, .d), (1, .d), (2, .d), (3, .d), (4, .d)] rfl ?_
    refine r_d rfl rfl rfl (s_move rfl rfl) ?_
    refine r_d rfl rfl rfl (s_fieldAddr rfl fl_api_Block_1 rfl rfl (by simp [szs, sz, sz_S_api_Occ]) rfl) ?_
    refine r_d rfl rfl rfl (s_load rfl rfl (by exact ty_L_api_Instr) rfl) ?_
    refine r_d rfl rfl rfl (m_len (f := enc_S_api_Instr) b_a0.f1_Code rfl el_L_api_Instr rfl (asl rfl)) ?_
    refine r_d rfl rfl rfl (s_cmp rfl rfl rfl rfl) ?_
    refine r_end ?_
    refine g_known 16 true rfl ht0 ?_
    refine g_condT rfl ?_
    refine g_skip ?_
    refine g_seq ?_
    refine g_block ?_
    refine g_seq ?_
    refine g_run (by kernel_rfl) [(0, .d), (1, .d), (2, .d), (3, .d), (4, .d), (5, .w), (6, .w)] rfl ?_
    refine r_d rfl rfl rfl (s_fieldAddr rfl fl_api_Block_1 rfl rfl (by simp [szs, sz, sz_S_api_Occ]) rfl) ?_
    refine r_d rfl rfl rfl (s_load rfl rfl (by exact ty_L_api_Instr) rfl) ?_
    refine r_d rfl rfl rfl (s_move rfl rfl) ?_
    refine r_d rfl rfl rfl (m_index (f := enc_S_api_Instr) b_a0.f1_Code rfl el_L_api_Instr rfl (asl rfl) rfl hq0 sz_S_api_Instr rfl) ?_
    refine r_d rfl rfl rfl (s_load rfl rfl (by exact ty_api_Instr) (sz_S_api_Instr _)) ?_
    refine r_w rfl rfl rfl (s_alloc rfl zv_api_Instr) ?_
    rintro _ _ ⟨b6_8, rfl, rfl⟩
    refine r_w01 rfl rfl rfl (t_store0 _ rfl rfl rfl (Wk.refl _) (pf0 _) (by exact ty_api_Instr) (sz_S_api_Instr _) (by simp [sz, szs, szs_fsT, sz_encG]) rfl) ?_
    refine r_end ?_
    refine g_freeze 6 b6_8 rfl (pf0 _) ?_
    refine g_seq ?_
    refine g_run (by kernel_rfl) [(0, .d)] rfl ?_
    refine r_d rfl rfl rfl (s_assign rfl rfl) ?_
    refine r_end ?_
    refine g_seq ?_
    refine g_seq ?_
    refine g_run (by kernel_rfl) [(0, .d), (1, .d)] rfl ?_
    refine r_d rfl rfl rfl (s_fieldAddr rfl fl_api_Instr_0 rfl rfl rfl rfl) ?_
    refine r_d rfl rfl rfl (s_load rfl rfl (by exact ty_int) rfl) ?_
    refine r_end ?_
    refine g_block ?_
    refine g_seq ?_
    refine g_seq ?_
    refine g_run (by kernel_rfl) [(0, .d), (1, .d)] rfl ?_
    refine r_d rfl rfl rfl (s_cmp rfl rfl rfl rfl) ?_
    refine r_d rfl rfl rfl (s_assign rfl rfl) ?_
    refine r_end ?_
    refine g_sB 26 rfl hr (fun h26_9 hr => ?_) (fun h26_9 hr => ?_)
    ·
     refine g_condT rfl ?_
     refine g_skip ?_
     refine g_condT rfl ?_
     refine g_run (by kernel_rfl) [(0, .d), (1, .d), (2, .d), (3, .d), (4, .d)] rfl ?_
     refine r_d rfl rfl rfl (s_move rfl rfl) ?_
     refine r_d rfl rfl rfl (s_fieldAddr rfl fl_api_Instr_1 rfl rfl rfl rfl) ?_
     refine r_d rfl rfl rfl (s_load rfl rfl (by exact ty_int) rfl) ?_
     obtain ⟨r_11, hr_11, hr⟩ := bindS hr
     refine r_d rfl rfl rfl (s_callD rfl cl_constraintref32_in (.cons rfl (Wk.own _ _) (.cons rfl (Wk.refl _) .nil)) (lg_constraintref32_in _ _ _ hr_11)) ?_
     refine r_d rfl rfl rfl (s_assign rfl rfl) ?_
     refine r_end ?_
     refine g_inBlock ?_
     refine g_seq ?_
     refine g_run (by kernel_rfl) [(0, .d), (1, .d)] rfl ?_
     refine r_d rfl rfl rfl (s_move rfl rfl) ?_
     refine r_d rfl rfl rfl (s_not rfl rfl) ?_
     refine r_end ?_
     refine g_sB 105 rfl hr (fun h105_11 hr => ?_) (fun h105_11 hr => ?_)
     ·
      refine g_condT rfl ?_
      refine g_seq ?_
      refine g_run (by kernel_rfl) [(0, .d)] rfl ?_
      refine r_d rfl rfl rfl (s_assign rfl rfl) ?_
      refine r_end ?_
      obtain rfl := Option.some.inj hr
      refine g_ret Tryz.func24 _ (.cons (resTmp rfl (Wk.refl _)) .nil) ?_
      rfl
     ·
      refine g_condF rfl ?_
      refine g_skip ?_
      refine g_inBlock ?_
      refine g_run (by kernel_rfl) [(0, .d), (1, .d), (2, .d)] rfl ?_
      refine r_d rfl rfl rfl (s_move rfl rfl) ?_
      refine r_d rfl rfl rfl (s_ar (r := ((i_7 + 1 : Nat) : Int)) rfl rfl rfl (by simp [iar]) (by omega)) ?_
      refine r_d rfl rfl rfl (s_assign rfl rfl) ?_
      refine r_end ?_
      refine g_sub [(1, .ptr (enc_S_api_Block b_a0)), (3, .own u_3 (bound_5.map (D.int .i64))), (4, .own u_4 (fresh_6.map (D.int .i64))), (5, .int .i64 ((i_7 + 1 : Nat) : Int))] (Sub.cons' rfl (Sub.cons' rfl (Sub.cons' rfl (Sub.cons' rfl (Sub.nil _))))) ?_
      exact IH0 _ _ _ (by omega) ⟨bound_5, fresh_6, (i_7 + 1), u_3, u_4, rfl, rfl, rfl, (by omega), hr⟩
    ·
     refine g_condF rfl ?_
     refine g_run (by kernel_rfl) [(0, .d), (1, .d)] rfl ?_
     refine r_d rfl rfl rfl (s_cmp rfl rfl rfl rfl) ?_
     refine r_d rfl rfl rfl (s_assign rfl rfl) ?_
     refine r_end ?_
     refine g_sB 26 rfl hr (fun h26_12 hr => ?_) (fun h26_12 hr => ?_)
     ·
      refine g_condT rfl ?_
      refine g_run (by kernel_rfl) [(0, .d), (1, .d), (2, .d), (3, .d), (4, .d)] rfl ?_
      refine r_d rfl rfl rfl (s_move rfl rfl) ?_
      refine r_d rfl rfl rfl (s_fieldAddr rfl fl_api_Instr_1 rfl rfl rfl rfl) ?_
      refine r_d rfl rfl rfl (s_load rfl rfl (by exact ty_int) rfl) ?_
      obtain ⟨r_14, hr_14, hr⟩ := bindS hr
      refine r_d rfl rfl rfl (s_callD rfl cl_constraintref32_in (.cons rfl (Wk.own _ _) (.cons rfl (Wk.refl _) .nil)) (lg_constraintref32_in _ _ _ hr_14)) ?_
      refine r_d rfl rfl rfl (s_assign rfl rfl) ?_
      refine r_end ?_
      refine g_inBlock ?_
      refine g_seq ?_
      refine g_run (by kernel_rfl) [(0, .d), (1, .d)] rfl ?_
      refine r_d rfl rfl rfl (s_move rfl rfl) ?_
      refine r_d rfl rfl rfl (s_not rfl rfl) ?_
      refine r_end ?_
      refine g_sB 105 rfl hr (fun h105_14 hr => ?_) (fun h105_14 hr => ?_)
      ·
       refine g_condT rfl ?_
       refine g_seq ?_
       refine g_run (by kernel_rfl) [(0, .d)] rfl ?_
       refine r_d rfl rfl rfl (s_assign rfl rfl) ?_
       refine r_end ?_
       obtain rfl := Option.some.inj hr
       refine g_ret Tryz.func24 _ (.cons (resTmp rfl (Wk.refl _)) .nil) ?_
       rfl
      ·
       refine g_condF rfl ?_
       refine g_skip ?_
       refine g_inBlock ?_
       refine g_run (by kernel_rfl) [(0, .d), (1, .d), (2, .d)] rfl ?_
       refine r_d rfl rfl rfl (s_move rfl rfl) ?_
       refine r_d rfl rfl rfl (s_ar (r := ((i_7 + 1 : Nat) : Int)) rfl rfl rfl (by simp [iar]) (by omega)) ?_
       refine r_d rfl rfl rfl (s_assign rfl rfl) ?_
       refine r_end ?_
       refine g_sub [(1, .ptr (enc_S_api_Block b_a0)), (3, .own u_3 (bound_5.map (D.int .i64))), (4, .own u_4 (fresh_6.map (D.int .i64))), (5, .int .i64 ((i_7 + 1 : Nat) : Int))] (Sub.cons' rfl (Sub.cons' rfl (Sub.cons' rfl (Sub.cons' rfl (Sub.nil _))))) ?_
       exact IH0 _ _ _ (by omega) ⟨bound_5, fresh_6, (i_7 + 1), u_3, u_4, rfl, rfl, rfl, (by omega), hr⟩
     ·
      refine g_condF rfl ?_
      refine g_seq ?_
      refine g_run (by kernel_rfl) [(0, .d), (1, .d)] rfl ?_
      refine r_d rfl rfl rfl (s_cmp rfl rfl rfl rfl) ?_
      refine r_d rfl rfl rfl (s_assign rfl rfl) ?_
      refine r_end ?_
      refine g_sB 33 rfl hr (fun h33_15 hr => ?_) (fun h33_15 hr => ?_)
      ·
       refine g_condT rfl ?_
       refine g_run (by kernel_rfl) [(0, .d), (1, .d), (2, .d), (3, .d), (4, .d), (5, .d), (6, .d), (7, .d), (8, .d), (9, .d), (10, .d)] rfl ?_
       refine r_d rfl rfl rfl (s_move rfl rfl) ?_
       refine r_d rfl rfl rfl (s_fieldAddr rfl fl_api_Instr_1 rfl rfl rfl rfl) ?_
       refine r_d rfl rfl rfl (s_load rfl rfl (by exact ty_int) rfl) ?_
       obtain ⟨r_17, hr_17, hr⟩ := bindS hr
       refine r_d rfl rfl rfl (s_callD rfl cl_constraintref32_in (.cons rfl (Wk.own _ _) (.cons rfl (Wk.refl _) .nil)) (lg_constraintref32_in _ _ _ hr_17)) ?_
       refine r_d rfl rfl rfl (s_move rfl rfl) ?_
       refine r_sB 39 rfl hr (fun h39_17 hr => ?_) (fun h39_17 hr => ?_)
       ·
        refine r_d rfl rfl rfl (s_move rfl rfl) ?_
        refine r_d rfl rfl rfl (s_fieldAddr rfl fl_api_Instr_2 rfl rfl rfl rfl) ?_
        refine r_d rfl rfl rfl (s_load rfl rfl (by exact ty_int) rfl) ?_
        obtain ⟨r_19, hr_19, hr⟩ := bindS hr
        refine r_d rfl rfl rfl (s_callD rfl cl_constraintref32_in (.cons rfl (Wk.own _ _) (.cons rfl (Wk.refl _) .nil)) (lg_constraintref32_in _ _ _ hr_19)) ?_
        refine r_d rfl rfl rfl (s_pickT rfl rfl rfl) ?_
        refine r_d rfl rfl rfl (s_assign rfl rfl) ?_
        refine r_end ?_
        refine g_inBlock ?_
        refine g_seq ?_
        refine g_run (by kernel_rfl) [(0, .d), (1, .d)] rfl ?_
        refine r_d rfl rfl rfl (s_move rfl rfl) ?_
        refine r_d rfl rfl rfl (s_not rfl rfl) ?_
        refine r_end ?_
        refine g_sB 105 rfl hr (fun h105_19 hr => ?_) (fun h105_19 hr => ?_)
        ·
         refine g_condT rfl ?_
         refine g_seq ?_
         refine g_run (by kernel_rfl) [(0, .d)] rfl ?_
         refine r_d rfl rfl rfl (s_assign rfl rfl) ?_
         refine r_end ?_
         obtain rfl := Option.some.inj hr
         refine g_ret Tryz.func24 _ (.cons (resTmp rfl (Wk.refl _)) .nil) ?_
         rfl
        ·
         refine g_condF rfl ?_
         refine g_skip ?_
         refine g_inBlock ?_
         refine g_run (by kernel_rfl) [(0, .d), (1, .d), (2, .d)] rfl ?_
         refine r_d rfl rfl rfl (s_move rfl rfl) ?_
         refine r_d rfl rfl rfl (s_ar (r := ((i_7 + 1 : Nat) : Int)) rfl rfl rfl (by simp [iar]) (by omega)) ?_
         refine r_d rfl rfl rfl (s_assign rfl rfl) ?_
         refine r_end ?_
         refine g_sub [(1, .ptr (enc_S_api_Block b_a0)), (3, .own u_3 (bound_5.map (D.int .i64))), (4, .own u_4 (fresh_6.map (D.int .i64))), (5, .int .i64 ((i_7 + 1 : Nat) : Int))] (Sub.cons' rfl (Sub.cons' rfl (Sub.cons' rfl (Sub.cons' rfl (Sub.nil _))))) ?_
         exact IH0 _ _ _ (by omega) ⟨bound_5, fresh_6, (i_7 + 1), u_3, u_4, rfl, rfl, rfl, (by omega), hr⟩
       ·
        refine r_skip rfl rfl rfl ?_
        refine r_skip rfl rfl rfl ?_
        refine r_skip rfl rfl rfl ?_
        refine r_skip rfl rfl rfl ?_
        refine r_d rfl rfl rfl (s_pickF rfl rfl rfl) ?_
        refine r_d rfl rfl rfl (s_assign rfl rfl) ?_
        refine r_end ?_
        refine g_inBlock ?_
        refine g_seq ?_
        refine g_run (by kernel_rfl) [(0, .d), (1, .d)] rfl ?_
        refine r_d rfl rfl rfl (s_move rfl rfl) ?_
        refine r_d rfl rfl rfl (s_not rfl rfl) ?_
        refine r_end ?_
        refine g_sB 105 rfl hr (fun h105_20 hr => ?_) (fun h105_20 hr => ?_)
        ·
         refine g_condT rfl ?_
         refine g_seq ?_
         refine g_run (by kernel_rfl) [(0, .d)] rfl ?_
         refine r_d rfl rfl rfl (s_assign rfl rfl) ?_
         refine r_end ?_
         obtain rfl := Option.some.inj hr
         refine g_ret Tryz.func24 _ (.cons (resTmp rfl (Wk.refl _)) .nil) ?_
         rfl
        ·
         refine g_condF rfl ?_
         refine g_skip ?_
         refine g_inBlock ?_
         refine g_run (by kernel_rfl) [(0, .d), (1, .d), (2, .d)] rfl ?_
         refine r_d rfl rfl rfl (s_move rfl rfl) ?_
         refine r_d rfl rfl rfl (s_ar (r := ((i_7 + 1 : Nat) : Int)) rfl rfl rfl (by simp [iar]) (by omega)) ?_
         refine r_d rfl rfl rfl (s_assign rfl rfl) ?_
         refine r_end ?_
         refine g_sub [(1, .ptr (enc_S_api_Block b_a0)), (3, .own u_3 (bound_5.map (D.int .i64))), (4, .own u_4 (fresh_6.map (D.int .i64))), (5, .int .i64 ((i_7 + 1 : Nat) : Int))] (Sub.cons' rfl (Sub.cons' rfl (Sub.cons' rfl (Sub.cons' rfl (Sub.nil _))))) ?_
         exact IH0 _ _ _ (by omega) ⟨bound_5, fresh_6, (i_7 + 1), u_3, u_4, rfl, rfl, rfl, (by omega), hr⟩
      ·
       refine g_condF rfl ?_
       refine g_seq ?_
       refine g_run (by kernel_rfl) [(0, .d), (1, .d)] rfl ?_
       refine r_d rfl rfl rfl (s_cmp rfl rfl rfl rfl) ?_
       refine r_d rfl rfl rfl (s_assign rfl rfl) ?_
       refine r_end ?_
       refine g_sB 45 rfl hr (fun h45_21 hr => ?_) (fun h45_21 hr => ?_)
       ·
        refine g_condT rfl ?_
        refine g_seq ?_
        refine g_run (by kernel_rfl) [(0, .d), (1, .d), (2, .d), (3, .d), (4, .d), (5, .d)] rfl ?_
        refine r_d rfl rfl rfl (s_move rfl rfl) ?_
        refine r_d rfl rfl rfl (s_fieldAddr rfl fl_api_Instr_1 rfl rfl rfl rfl) ?_
        refine r_d rfl rfl rfl (s_load rfl rfl (by exact ty_int) rfl) ?_
        obtain ⟨r_23, hr_23, hr⟩ := bindS hr
        refine r_d rfl rfl rfl (s_callD rfl cl_constraintref32_in (.cons rfl (Wk.own _ _) (.cons rfl (Wk.refl _) .nil)) (lg_constraintref32_in _ _ _ hr_23)) ?_
        refine r_d rfl rfl rfl (s_not rfl rfl) ?_
        refine r_d rfl rfl rfl (s_assign rfl rfl) ?_
        refine r_end ?_
        refine g_run (by kernel_rfl) [(0, .d), (1, .d), (2, .d), (3, .d), (4, .w), (5, .d)] rfl ?_
        refine r_d rfl rfl rfl (s_move rfl rfl) ?_
        refine r_d rfl rfl rfl (s_fieldAddr rfl fl_api_Instr_1 rfl rfl rfl rfl) ?_
        refine r_d rfl rfl rfl (s_load rfl rfl (by exact ty_int) rfl) ?_
        refine r_d rfl rfl rfl (m_lit (f := (D.int .i64)) [.tmp 54] [q_8.f1_A] rfl el_L_int rfl rfl (by decide) (by decide) (.cons rfl (Wk.refl _) .nil) (fun _ => rfl) (fun _ => rfl)) ?_
        obtain ⟨l_24, hl_24, hr⟩ := bindS hr
        refine r_w rfl rfl rfl (m_appOwn (f := (D.int .i64)) bound_5 [q_8.f1_A] rfl el_L_int rfl rfl (asl rfl) (pf0 _) rfl (fun _ => rfl) hl_24) ?_
        rintro _ _ ⟨u56_24, rfl, rfl⟩
        refine r_d rfl rfl rfl (s_assign rfl rfl) ?_
        refine r_end ?_
        refine g_inBlock ?_
        refine g_seq ?_
        refine g_run (by kernel_rfl) [(0, .d), (1, .d)] rfl ?_
        refine r_d rfl rfl rfl (s_move rfl rfl) ?_
        refine r_d rfl rfl rfl (s_not rfl rfl) ?_
        refine r_end ?_
        refine g_sB 105 rfl hr (fun h105_25 hr => ?_) (fun h105_25 hr => ?_)
        ·
         refine g_condT rfl ?_
         refine g_seq ?_
         refine g_run (by kernel_rfl) [(0, .d)] rfl ?_
         refine r_d rfl rfl rfl (s_assign rfl rfl) ?_
         refine r_end ?_
         obtain rfl := Option.some.inj hr
         refine g_ret Tryz.func24 _ (.cons (resTmp rfl (Wk.refl _)) .nil) ?_
         rfl
        ·
         refine g_condF rfl ?_
         refine g_skip ?_
         refine g_inBlock ?_
         refine g_run (by kernel_rfl) [(0, .d), (1, .d), (2, .d)] rfl ?_
         refine r_d rfl rfl rfl (s_move rfl rfl) ?_
         refine r_d rfl rfl rfl (s_ar (r := ((i_7 + 1 : Nat) : Int)) rfl rfl rfl (by simp [iar]) (by omega)) ?_
         refine r_d rfl rfl rfl (s_assign rfl rfl) ?_
         refine r_end ?_
         refine g_sub [(1, .ptr (enc_S_api_Block b_a0)), (3, .own u56_24 (l_24.map (D.int .i64))), (4, .own u_4 (fresh_6.map (D.int .i64))), (5, .int .i64 ((i_7 + 1 : Nat) : Int))] (Sub.cons' rfl (Sub.cons' rfl (Sub.cons' rfl (Sub.cons' rfl (Sub.nil _))))) ?_
         exact IH0 _ _ _ (by omega) ⟨l_24, fresh_6, (i_7 + 1), u56_24, u_4, rfl, rfl, rfl, (by omega), hr⟩
       ·
        refine g_condF rfl ?_
        refine g_seq ?_
        refine g_run (by kernel_rfl) [(0, .d), (1, .d)] rfl ?_
        refine r_d rfl rfl rfl (s_cmp rfl rfl rfl rfl) ?_
        refine r_d rfl rfl rfl (s_assign rfl rfl) ?_
        refine r_end ?_
        refine g_sB 57 rfl hr (fun h57_26 hr => ?_) (fun h57_26 hr => ?_)
        ·
         refine g_condT rfl ?_
         refine g_seq ?_
         refine g_run (by kernel_rfl) [(0, .d), (1, .d), (2, .d), (3, .d), (4, .d), (5, .d), (6, .d), (7, .d), (8, .d), (9, .d), (10, .d), (11, .d), (12, .d)] rfl ?_
         refine r_d rfl rfl rfl (s_move rfl rfl) ?_
         refine r_d rfl rfl rfl (s_fieldAddr rfl fl_api_Instr_2 rfl rfl rfl rfl) ?_
         refine r_d rfl rfl rfl (s_load rfl rfl (by exact ty_int) rfl) ?_
         obtain ⟨r_28, hr_28, hr⟩ := bindS hr
         refine r_d rfl rfl rfl (s_callD rfl cl_constraintref32_first (.cons rfl (Wk.own _ _) (.cons rfl (Wk.refl _) .nil)) (lg_constraintref32_first _ _ _ hr_28)) ?_
         refine r_d rfl rfl rfl (s_move rfl rfl) ?_
         refine r_sB 63 rfl hr (fun h63_28 hr => ?_) (fun h63_28 hr => ?_)
         ·
          refine r_d rfl rfl rfl (s_fieldAddr rfl fl_api_Instr_1 rfl rfl rfl rfl) ?_
          refine r_d rfl rfl rfl (s_load rfl rfl (by exact ty_int) rfl) ?_
          refine r_d rfl rfl rfl (s_fieldAddr rfl fl_api_Block_0 rfl rfl rfl rfl) ?_
          refine r_d rfl rfl rfl (s_fieldAddr rfl fl_api_Occ_0 rfl rfl rfl rfl) ?_
          refine r_d rfl rfl rfl (s_load rfl rfl (by exact ty_int) rfl) ?_
          refine r_d rfl rfl rfl (s_cmp rfl rfl rfl rfl) ?_
          refine r_d rfl rfl rfl (s_pickT rfl rfl rfl) ?_
          refine r_d rfl rfl rfl (s_assign rfl rfl) ?_
          refine r_end ?_
          refine g_run (by kernel_rfl) [(0, .d), (1, .d), (2, .d), (3, .d), (4, .w), (5, .d)] rfl ?_
          refine r_d rfl rfl rfl (s_move rfl rfl) ?_
          refine r_d rfl rfl rfl (s_fieldAddr rfl fl_api_Instr_2 rfl rfl rfl rfl) ?_
          refine r_d rfl rfl rfl (s_load rfl rfl (by exact ty_int) rfl) ?_
          refine r_d rfl rfl rfl (m_lit (f := (D.int .i64)) [.tmp 73] [q_8.f2_B] rfl el_L_int rfl rfl (by decide) (by decide) (.cons rfl (Wk.refl _) .nil) (fun _ => rfl) (fun _ => rfl)) ?_
          obtain ⟨l_30, hl_30, hr⟩ := bindS hr
          refine r_w rfl rfl rfl (m_appOwn (f := (D.int .i64)) fresh_6 [q_8.f2_B] rfl el_L_int rfl rfl (asl rfl) (pf1 _ _ _) rfl (fun _ => rfl) hl_30) ?_
          rintro _ _ ⟨u75_30, rfl, rfl⟩
          refine r_d rfl rfl rfl (s_assign rfl rfl) ?_
          refine r_end ?_
          refine g_inBlock ?_
          refine g_seq ?_
          refine g_run (by kernel_rfl) [(0, .d), (1, .d)] rfl ?_
          refine r_d rfl rfl rfl (s_move rfl rfl) ?_
          refine r_d rfl rfl rfl (s_not rfl rfl) ?_
          refine r_end ?_
          refine g_sB 105 rfl hr (fun h105_31 hr => ?_) (fun h105_31 hr => ?_)
          ·
           refine g_condT rfl ?_
           refine g_seq ?_
           refine g_run (by kernel_rfl) [(0, .d)] rfl ?_
           refine r_d rfl rfl rfl (s_assign rfl rfl) ?_
           refine r_end ?_
           obtain rfl := Option.some.inj hr
           refine g_ret Tryz.func24 _ (.cons (resTmp rfl (Wk.refl _)) .nil) ?_
           rfl
          ·
           refine g_condF rfl ?_
           refine g_skip ?_
           refine g_inBlock ?_
           refine g_run (by kernel_rfl) [(0, .d), (1, .d), (2, .d)] rfl ?_
           refine r_d rfl rfl rfl (s_move rfl rfl) ?_
           refine r_d rfl rfl rfl (s_ar (r := ((i_7 + 1 : Nat) : Int)) rfl rfl rfl (by simp [iar]) (by omega)) ?_
           refine r_d rfl rfl rfl (s_assign rfl rfl) ?_
           refine r_end ?_
           refine g_sub [(1, .ptr (enc_S_api_Block b_a0)), (3, .own u_3 (bound_5.map (D.int .i64))), (4, .own u75_30 (l_30.map (D.int .i64))), (5, .int .i64 ((i_7 + 1 : Nat) : Int))] (Sub.cons' rfl (Sub.cons' rfl (Sub.cons' rfl (Sub.cons' rfl (Sub.nil _))))) ?_
           refine g_perm [_, _] _ ((pf0 _).trans (pf1 _ _ _)) ?_
           exact IH0 _ _ _ (by omega) ⟨bound_5, l_30, (i_7 + 1), u_3, u75_30, rfl, rfl, rfl, (by omega), hr⟩
         ·
          refine r_skip rfl rfl rfl ?_
          refine r_skip rfl rfl rfl ?_
          refine r_skip rfl rfl rfl ?_
          refine r_skip rfl rfl rfl ?_
          refine r_skip rfl rfl rfl ?_
          refine r_skip rfl rfl rfl ?_
          refine r_d rfl rfl rfl (s_pickF rfl rfl rfl) ?_
          refine r_d rfl rfl rfl (s_assign rfl rfl) ?_
          refine r_end ?_
          refine g_run (by kernel_rfl) [(0, .d), (1, .d), (2, .d), (3, .d), (4, .w), (5, .d)] rfl ?_
          refine r_d rfl rfl rfl (s_move rfl rfl) ?_
          refine r_d rfl rfl rfl (s_fieldAddr rfl fl_api_Instr_2 rfl rfl rfl rfl) ?_
          refine r_d rfl rfl rfl (s_load rfl rfl (by exact ty_int) rfl) ?_
          refine r_d rfl rfl rfl (m_lit (f := (D.int .i64)) [.tmp 73] [q_8.f2_B] rfl el_L_int rfl rfl (by decide) (by decide) (.cons rfl (Wk.refl _) .nil) (fun _ => rfl) (fun _ => rfl)) ?_
          obtain ⟨l_33, hl_33, hr⟩ := bindS hr
          refine r_w rfl rfl rfl (m_appOwn (f := (D.int .i64)) fresh_6 [q_8.f2_B] rfl el_L_int rfl rfl (asl rfl) (pf1 _ _ _) rfl (fun _ => rfl) hl_33) ?_
          rintro _ _ ⟨u75_33, rfl, rfl⟩
          refine r_d rfl rfl rfl (s_assign rfl rfl) ?_
          refine r_end ?_
          refine g_inBlock ?_
          refine g_seq ?_
          refine g_run (by kernel_rfl) [(0, .d), (1, .d)] rfl ?_
          refine r_d rfl rfl rfl (s_move rfl rfl) ?_
          refine r_d rfl rfl rfl (s_not rfl rfl) ?_
          refine r_end ?_
          refine g_sB 105 rfl hr (fun h105_34 hr => ?_) (fun h105_34 hr => ?_)
          ·
           refine g_condT rfl ?_
           refine g_seq ?_
           refine g_run (by kernel_rfl) [(0, .d)] rfl ?_
           refine r_d rfl rfl rfl (s_assign rfl rfl) ?_
           refine r_end ?_
           obtain rfl := Option.some.inj hr
           refine g_ret Tryz.func24 _ (.cons (resTmp rfl (Wk.refl _)) .nil) ?_
           rfl
          ·
           refine g_condF rfl ?_
           refine g_skip ?_
           refine g_inBlock ?_
           refine g_run (by kernel_rfl) [(0, .d), (1, .d), (2, .d)] rfl ?_
           refine r_d rfl rfl rfl (s_move rfl rfl) ?_
           refine r_d rfl rfl rfl (s_ar (r := ((i_7 + 1 : Nat) : Int)) rfl rfl rfl (by simp [iar]) (by omega)) ?_
           refine r_d rfl rfl rfl (s_assign rfl rfl) ?_
           refine r_end ?_
           refine g_sub [(1, .ptr (enc_S_api_Block b_a0)), (3, .own u_3 (bound_5.map (D.int .i64))), (4, .own u75_33 (l_33.map (D.int .i64))), (5, .int .i64 ((i_7 + 1 : Nat) : Int))] (Sub.cons' rfl (Sub.cons' rfl (Sub.cons' rfl (Sub.cons' rfl (Sub.nil _))))) ?_
           refine g_perm [_, _] _ ((pf0 _).trans (pf1 _ _ _)) ?_
           exact IH0 _ _ _ (by omega) ⟨bound_5, l_33, (i_7 + 1), u_3, u75_33, rfl, rfl, rfl, (by omega), hr⟩
        ·
         refine g_condF rfl ?_
         refine g_seq ?_
         refine g_run (by kernel_rfl) [(0, .d), (1, .d)] rfl ?_
         refine r_d rfl rfl rfl (s_cmp rfl rfl rfl rfl) ?_
         refine r_d rfl rfl rfl (s_assign rfl rfl) ?_
         refine r_end ?_
         refine g_sB 76 rfl hr (fun h76_35 hr => ?_) (fun h76_35 hr => ?_)
         ·
          refine g_condT rfl ?_
          refine g_run (by kernel_rfl) [(0, .d), (1, .d), (2, .d), (3, .d), (4, .d), (5, .d), (6, .d), (7, .d), (8, .d), (9, .d), (10, .d), (11, .d), (12, .d), (13, .d), (14, .d), (15, .d), (16, .d), (17, .d), (18, .d)] rfl ?_
          refine r_d rfl rfl rfl (s_move rfl rfl) ?_
          refine r_d rfl rfl rfl (s_fieldAddr rfl fl_api_Instr_2 rfl rfl rfl rfl) ?_
          refine r_d rfl rfl rfl (s_load rfl rfl (by exact ty_int) rfl) ?_
          obtain ⟨r_37, hr_37, hr⟩ := bindS hr
          refine r_d rfl rfl rfl (s_callD rfl cl_constraintref32_first (.cons rfl (Wk.own _ _) (.cons rfl (Wk.refl _) .nil)) (lg_constraintref32_first _ _ _ hr_37)) ?_
          refine r_d rfl rfl rfl (s_move rfl rfl) ?_
          refine r_sB 82 rfl hr (fun h82_37 hr => ?_) (fun h82_37 hr => ?_)
          ·
           refine r_d rfl rfl rfl (s_fieldAddr rfl fl_api_Instr_1 rfl rfl rfl rfl) ?_
           refine r_d rfl rfl rfl (s_load rfl rfl (by exact ty_int) rfl) ?_
           refine r_d rfl rfl rfl (s_fieldAddr rfl fl_api_Block_0 rfl rfl rfl rfl) ?_
           refine r_d rfl rfl rfl (s_fieldAddr rfl fl_api_Occ_0 rfl rfl rfl rfl) ?_
           refine r_d rfl rfl rfl (s_load rfl rfl (by exact ty_int) rfl) ?_
           refine r_d rfl rfl rfl (s_cmp rfl rfl rfl rfl) ?_
           refine r_d rfl rfl rfl (s_pickT rfl rfl rfl) ?_
           refine r_d rfl rfl rfl (s_move rfl rfl) ?_
           refine r_sB 90 rfl hr (fun h90_38 hr => ?_) (fun h90_38 hr => ?_)
           ·
            refine r_d rfl rfl rfl (s_move rfl rfl) ?_
            refine r_d rfl rfl rfl (s_fieldAddr rfl fl_api_Instr_2 rfl rfl rfl rfl) ?_
            refine r_d rfl rfl rfl (s_load rfl rfl (by exact ty_int) rfl) ?_
            obtain ⟨r_40, hr_40, hr⟩ := bindS hr
            refine r_d rfl rfl rfl (s_callD rfl cl_constraintref32_in (.cons rfl (Wk.own _ _) (.cons rfl (Wk.refl _) .nil)) (lg_constraintref32_in _ _ _ hr_40)) ?_
            refine r_d rfl rfl rfl (s_pickT rfl rfl rfl) ?_
            refine r_d rfl rfl rfl (s_assign rfl rfl) ?_
            refine r_end ?_
            refine g_inBlock ?_
            refine g_seq ?_
            refine g_run (by kernel_rfl) [(0, .d), (1, .d)] rfl ?_
            refine r_d rfl rfl rfl (s_move rfl rfl) ?_
            refine r_d rfl rfl rfl (s_not rfl rfl) ?_
            refine r_end ?_
            refine g_sB 105 rfl hr (fun h105_40 hr => ?_) (fun h105_40 hr => ?_)
            ·
             refine g_condT rfl ?_
             refine g_seq ?_
             refine g_run (by kernel_rfl) [(0, .d)] rfl ?_
             refine r_d rfl rfl rfl (s_assign rfl rfl) ?_
             refine r_end ?_
             obtain rfl := Option.some.inj hr
             refine g_ret Tryz.func24 _ (.cons (resTmp rfl (Wk.refl _)) .nil) ?_
             rfl
            ·
             refine g_condF rfl ?_
             refine g_skip ?_
             refine g_inBlock ?_
             refine g_run (by kernel_rfl) [(0, .d), (1, .d), (2, .d)] rfl ?_
             refine r_d rfl rfl rfl (s_move rfl rfl) ?_
             refine r_d rfl rfl rfl (s_ar (r := ((i_7 + 1 : Nat) : Int)) rfl rfl rfl (by simp [iar]) (by omega)) ?_
             refine r_d rfl rfl rfl (s_assign rfl rfl) ?_
             refine r_end ?_
             refine g_sub [(1, .ptr (enc_S_api_Block b_a0)), (3, .own u_3 (bound_5.map (D.int .i64))), (4, .own u_4 (fresh_6.map (D.int .i64))), (5, .int .i64 ((i_7 + 1 : Nat) : Int))] (Sub.cons' rfl (Sub.cons' rfl (Sub.cons' rfl (Sub.cons' rfl (Sub.nil _))))) ?_
             exact IH0 _ _ _ (by omega) ⟨bound_5, fresh_6, (i_7 + 1), u_3, u_4, rfl, rfl, rfl, (by omega), hr⟩
           ·
            refine r_skip rfl rfl rfl ?_
            refine r_skip rfl rfl rfl ?_
            refine r_skip rfl rfl rfl ?_
            refine r_skip rfl rfl rfl ?_
            refine r_d rfl rfl rfl (s_pickF rfl rfl rfl) ?_
            refine r_d rfl rfl rfl (s_assign rfl rfl) ?_
            refine r_end ?_
            refine g_inBlock ?_
            refine g_seq ?_
            refine g_run (by kernel_rfl) [(0, .d), (1, .d)] rfl ?_
            refine r_d rfl rfl rfl (s_move rfl rfl) ?_
            refine r_d rfl rfl rfl (s_not rfl rfl) ?_
            refine r_end ?_
            refine g_sB 105 rfl hr (fun h105_41 hr => ?_) (fun h105_41 hr => ?_)
            ·
             refine g_condT rfl ?_
             refine g_seq ?_
             refine g_run (by kernel_rfl) [(0, .d)] rfl ?_
             refine r_d rfl rfl rfl (s_assign rfl rfl) ?_
             refine r_end ?_
             obtain rfl := Option.some.inj hr
             refine g_ret Tryz.func24 _ (.cons (resTmp rfl (Wk.refl _)) .nil) ?_
             rfl
            ·
             refine g_condF rfl ?_
             refine g_skip ?_
             refine g_inBlock ?_
             refine g_run (by kernel_rfl) [(0, .d), (1, .d), (2, .d)] rfl ?_
             refine r_d rfl rfl rfl (s_move rfl rfl) ?_
             refine r_d rfl rfl rfl (s_ar (r := ((i_7 + 1 : Nat) : Int)) rfl rfl rfl (by simp [iar]) (by omega)) ?_
             refine r_d rfl rfl rfl (s_assign rfl rfl) ?_
             refine r_end ?_
             refine g_sub [(1, .ptr (enc_S_api_Block b_a0)), (3, .own u_3 (bound_5.map (D.int .i64))), (4, .own u_4 (fresh_6.map (D.int .i64))), (5, .int .i64 ((i_7 + 1 : Nat) : Int))] (Sub.cons' rfl (Sub.cons' rfl (Sub.cons' rfl (Sub.cons' rfl (Sub.nil _))))) ?_
             exact IH0 _ _ _ (by omega) ⟨bound_5, fresh_6, (i_7 + 1), u_3, u_4, rfl, rfl, rfl, (by omega), hr⟩
          ·
           refine r_skip rfl rfl rfl ?_
           refine r_skip rfl rfl rfl ?_
           refine r_skip rfl rfl rfl ?_
           refine r_skip rfl rfl rfl ?_
           refine r_skip rfl rfl rfl ?_
           refine r_skip rfl rfl rfl ?_
           refine r_d rfl rfl rfl (s_pickF rfl rfl rfl) ?_
           refine r_d rfl rfl rfl (s_move rfl rfl) ?_
           refine r_skip rfl rfl rfl ?_
           refine r_skip rfl rfl rfl ?_
           refine r_skip rfl rfl rfl ?_
           refine r_skip rfl rfl rfl ?_
           refine r_d rfl rfl rfl (s_pickF rfl rfl rfl) ?_
           refine r_d rfl rfl rfl (s_assign rfl rfl) ?_
           refine r_end ?_
           refine g_inBlock ?_
           refine g_seq ?_
           refine g_run (by kernel_rfl) [(0, .d), (1, .d)] rfl ?_
           refine r_d rfl rfl rfl (s_move rfl rfl) ?_
           refine r_d rfl rfl rfl (s_not rfl rfl) ?_
           refine r_end ?_
           refine g_sB 105 rfl hr (fun h105_42 hr => ?_) (fun h105_42 hr => ?_)
           ·
            refine g_condT rfl ?_
            refine g_seq ?_
            refine g_run (by kernel_rfl) [(0, .d)] rfl ?_
            refine r_d rfl rfl rfl (s_assign rfl rfl) ?_
            refine r_end ?_
            obtain rfl := Option.some.inj hr
            refine g_ret Tryz.func24 _ (.cons (resTmp rfl (Wk.refl _)) .nil) ?_
            rfl
           ·
            refine g_condF rfl ?_
            refine g_skip ?_
            refine g_inBlock ?_
            refine g_run (by kernel_rfl) [(0, .d), (1, .d), (2, .d)] rfl ?_
            refine r_d rfl rfl rfl (s_move rfl rfl) ?_
            refine r_d rfl rfl rfl (s_ar (r := ((i_7 + 1 : Nat) : Int)) rfl rfl rfl (by simp [iar]) (by omega)) ?_
            refine r_d rfl rfl rfl (s_assign rfl rfl) ?_
            refine r_end ?_
            refine g_sub [(1, .ptr (enc_S_api_Block b_a0)), (3, .own u_3 (bound_5.map (D.int .i64))), (4, .own u_4 (fresh_6.map (D.int .i64))), (5, .int .i64 ((i_7 + 1 : Nat) : Int))] (Sub.cons' rfl (Sub.cons' rfl (Sub.cons' rfl (Sub.cons' rfl (Sub.nil _))))) ?_
            exact IH0 _ _ _ (by omega) ⟨bound_5, fresh_6, (i_7 + 1), u_3, u_4, rfl, rfl, rfl, (by omega), hr⟩
         ·
          refine g_condF rfl ?_
          refine g_seq ?_
          refine g_run (by kernel_rfl) [(0, .d), (1, .d)] rfl ?_
          refine r_d rfl rfl rfl (s_cmp rfl rfl rfl rfl) ?_
          refine r_d rfl rfl rfl (s_assign rfl rfl) ?_
          refine r_end ?_
          refine g_sB 96 rfl hr (fun h96_43 hr => ?_) (fun h96_43 hr => ?_)
          ·
           refine g_condT rfl ?_
           refine g_run (by kernel_rfl) [(0, .d), (1, .d), (2, .d), (3, .d), (4, .d), (5, .d), (6, .d)] rfl ?_
           refine r_d rfl rfl rfl (s_fieldAddr rfl fl_api_Instr_1 rfl rfl rfl rfl) ?_
           refine r_d rfl rfl rfl (s_load rfl rfl (by exact ty_int) rfl) ?_
           refine r_d rfl rfl rfl (s_fieldAddr rfl fl_api_Block_0 rfl rfl rfl rfl) ?_
           refine r_d rfl rfl rfl (s_fieldAddr rfl fl_api_Occ_0 rfl rfl rfl rfl) ?_
           refine r_d rfl rfl rfl (s_load rfl rfl (by exact ty_int) rfl) ?_
           refine r_d rfl rfl rfl (s_cmp rfl rfl rfl rfl) ?_
           refine r_d rfl rfl rfl (s_assign rfl rfl) ?_
           refine r_end ?_
           refine g_inBlock ?_
           refine g_seq ?_
           refine g_run (by kernel_rfl) [(0, .d), (1, .d)] rfl ?_
           refine r_d rfl rfl rfl (s_move rfl rfl) ?_
           refine r_d rfl rfl rfl (s_not rfl rfl) ?_
           refine r_end ?_
           refine g_sB 105 rfl hr (fun h105_44 hr => ?_) (fun h105_44 hr => ?_)
           ·
            refine g_condT rfl ?_
            refine g_seq ?_
            refine g_run (by kernel_rfl) [(0, .d)] rfl ?_
            refine r_d rfl rfl rfl (s_assign rfl rfl) ?_
            refine r_end ?_
            obtain rfl := Option.some.inj hr
            refine g_ret Tryz.func24 _ (.cons (resTmp rfl (Wk.refl _)) .nil) ?_
            rfl
           ·
            refine g_condF rfl ?_
            refine g_skip ?_
            refine g_inBlock ?_
            refine g_run (by kernel_rfl) [(0, .d), (1, .d), (2, .d)] rfl ?_
            refine r_d rfl rfl rfl (s_move rfl rfl) ?_
            refine r_d rfl rfl rfl (s_ar (r := ((i_7 + 1 : Nat) : Int)) rfl rfl rfl (by simp [iar]) (by omega)) ?_
            refine r_d rfl rfl rfl (s_assign rfl rfl) ?_
            refine r_end ?_
            refine g_sub [(1, .ptr (enc_S_api_Block b_a0)), (3, .own u_3 (bound_5.map (D.int .i64))), (4, .own u_4 (fresh_6.map (D.int .i64))), (5, .int .i64 ((i_7 + 1 : Nat) : Int))] (Sub.cons' rfl (Sub.cons' rfl (Sub.cons' rfl (Sub.cons' rfl (Sub.nil _))))) ?_
            exact IH0 _ _ _ (by omega) ⟨bound_5, fresh_6, (i_7 + 1), u_3, u_4, rfl, rfl, rfl, (by omega), hr⟩
          ·
           refine g_condF rfl ?_
           refine g_skip ?_
           refine g_inBlock ?_
           refine g_seq ?_
           refine g_run (by kernel_rfl) [(0, .d), (1, .d)] rfl ?_
           refine r_d rfl rfl rfl (s_move rfl rfl) ?_
           refine r_d rfl rfl rfl (s_not rfl rfl) ?_
           refine r_end ?_
           refine g_sB 105 rfl hr (fun h105_45 hr => ?_) (fun h105_45 hr => ?_)
           ·
            refine g_condT rfl ?_
            refine g_seq ?_
            refine g_run (by kernel_rfl) [(0, .d)] rfl ?_
            refine r_d rfl rfl rfl (s_assign rfl rfl) ?_
            refine r_end ?_
            obtain rfl := Option.some.inj hr
            refine g_ret Tryz.func24 _ (.cons (resTmp rfl (Wk.refl _)) .nil) ?_
            rfl
           ·
            refine g_condF rfl ?_
            refine g_skip ?_
            refine g_inBlock ?_
            refine g_run (by kernel_rfl) [(0, .d), (1, .d), (2, .d)] rfl ?_
            refine r_d rfl rfl rfl (s_move rfl rfl) ?_
            refine r_d rfl rfl rfl (s_ar (r := ((i_7 + 1 : Nat) : Int)) rfl rfl rfl (by simp [iar]) (by omega)) ?_
            refine r_d rfl rfl rfl (s_assign rfl rfl) ?_
            refine r_end ?_
            refine g_sub [(1, .ptr (enc_S_api_Block b_a0)), (3, .own u_3 (bound_5.map (D.int .i64))), (4, .own u_4 (fresh_6.map (D.int .i64))), (5, .int .i64 ((i_7 + 1 : Nat) : Int))] (Sub.cons' rfl (Sub.cons' rfl (Sub.cons' rfl (Sub.cons' rfl (Sub.nil _))))) ?_
            exact IH0 _ _ _ (by omega) ⟨bound_5, fresh_6, (i_7 + 1), u_3, u_4, rfl, rfl, rfl, (by omega), hr⟩

noncomputable def lf_constraintref32_kept_L0 (k : (Bool) → (Bool) → Option (Bool)) (b_a0 : S_api_Block) : List S_api_Instr → Bool → Bool → Option (Bool)
  | [], removes_1, keeps_2 =>
  (k removes_1 keeps_2)
  | q_8 :: rest, removes_1, keeps_2 =>
  (bif removes_1 then
  (bif keeps_2 then
  (lf_constraintref32_kept_L0 k b_a0 rest true true)
  else
  (lf_constraintref32_kept_L0 k b_a0 rest true (q_8.f0_Op == (7 : Int))))
  else
  (bif (q_8.f0_Op == (6 : Int)) then
  (bif keeps_2 then
  (lf_constraintref32_kept_L0 k b_a0 rest (q_8.f1_A == b_a0.f0_Occ.f1_Head) true)
  else
  (lf_constraintref32_kept_L0 k b_a0 rest (q_8.f1_A == b_a0.f0_Occ.f1_Head) (q_8.f0_Op == (7 : Int))))
  else
  (bif keeps_2 then
  (lf_constraintref32_kept_L0 k b_a0 rest false true)
  else
  (lf_constraintref32_kept_L0 k b_a0 rest false (q_8.f0_Op == (7 : Int))))))
noncomputable def lf_constraintref32_kept (b_a0 : S_api_Block) : Option (Bool) :=
  (lf_constraintref32_kept_L0 (fun removes_4 keeps_5 =>
  (bif (removes_4 == (!b_a0.f0_Occ.f2_Kept)) then
  (bif (!keeps_5) then
  some (true)
  else
  some (b_a0.f0_Occ.f2_Kept))
  else
  some (false))) b_a0 b_a0.f1_Code false false)

set_option maxHeartbeats 1000000 in
theorem lg_constraintref32_kept (b_a0 : S_api_Block) (res : Bool) (hr : lf_constraintref32_kept b_a0 = some res) : Gives Tryz.prog 25 [enc_S_api_Block b_a0] (.bool res) := by
  unfold lf_constraintref32_kept at hr
  refine spec_env [(0, enc_S_api_Block b_a0)] Tryz.func25 rfl rfl fun K hK => ?_
  refine g_seq ?_
  refine g_run (by kernel_rfl) [(0, .d), (1, .d)] rfl ?_
  refine r_d rfl rfl rfl (s_box rfl rfl rfl) ?_
  refine r_d rfl rfl rfl (s_assign rfl rfl) ?_
  refine r_end ?_
  refine g_seq ?_
  refine g_run (by kernel_rfl) [(0, .d), (1, .d)] rfl ?_
  refine r_d rfl rfl rfl (s_assign rfl rfl) ?_
  refine r_d rfl rfl rfl (s_assign rfl rfl) ?_
  refine r_end ?_
  refine g_seq ?_
  refine g_seq ?_
  refine g_run (by kernel_rfl) [(0, .d)] rfl ?_
  refine r_d rfl rfl rfl (s_assign rfl rfl) ?_
  refine r_end ?_
  obtain ⟨kk0, hkk0, hr⟩ := exK (fun k => lf_constraintref32_kept_L0 k b_a0 b_a0.f1_Code false false) hr
  refine g_lenS 0 [1] (l := b_a0.f1_Code.map enc_S_api_Instr) rfl rfl (asl rfl) fun hla0 => ?_
  simp only [List.length_map] at hla0
  refine g_blockJ (fun env σ => ∃ (removes_4 : Bool) (keeps_5 : Bool), env = [(1, .ptr (enc_S_api_Block b_a0)), (3, .bool removes_4), (4, .bool keeps_5)] ∧ σ = [] ∧ kk0 removes_4 keeps_5 = some res) ?_ (fun HK0 => ?_)
  ·
   rintro _ _ ⟨removes_4, keeps_5, rfl, rfl, hr⟩
   rw [hkk0] at hr
   refine g_seq ?_
   refine g_run (by kernel_rfl) [(0, .d), (1, .d), (2, .d), (3, .d), (4, .d), (5, .d), (6, .d), (7, .d), (8, .d), (9, .d), (10, .d), (11, .d), (12, .d), (13, .d), (14, .d), (15, .d)] rfl ?_
   refine r_d rfl rfl rfl (s_move rfl rfl) ?_
   refine r_d rfl rfl rfl (s_fieldAddr rfl fl_api_Block_0 rfl rfl rfl rfl) ?_
   refine r_d rfl rfl rfl (s_fieldAddr rfl fl_api_Occ_2 rfl rfl rfl rfl) ?_
   refine r_d rfl rfl rfl (s_load rfl rfl (by exact ty_bool) rfl) ?_
   refine r_d rfl rfl rfl (s_not rfl rfl) ?_
   refine r_d rfl rfl rfl (s_cmpB rfl Tryz.underlying4 rfl rfl) ?_
   refine r_d rfl rfl rfl (s_move rfl rfl) ?_
   refine r_sB 51 rfl hr (fun h51_5 hr => ?_) (fun h51_5 hr => ?_)
   ·
    refine r_d rfl rfl rfl (s_move rfl rfl) ?_
    refine r_d rfl rfl rfl (s_not rfl rfl) ?_
    refine r_d rfl rfl rfl (s_move rfl rfl) ?_
    refine r_sB 54 rfl hr (fun h54_6 hr => ?_) (fun h54_6 hr => ?_)
    ·
     refine r_skip rfl rfl rfl ?_
     refine r_skip rfl rfl rfl ?_
     refine r_skip rfl rfl rfl ?_
     refine r_d rfl rfl rfl (s_pickT rfl rfl rfl) ?_
     refine r_d rfl rfl rfl (s_pickT rfl rfl rfl) ?_
     refine r_d rfl rfl rfl (s_assign rfl rfl) ?_
     refine r_end ?_
     obtain rfl := Option.some.inj hr
     refine g_ret Tryz.func25 _ (.cons (resTmp rfl (Wk.refl _)) .nil) ?_
     rfl
    ·
     refine r_d rfl rfl rfl (s_fieldAddr rfl fl_api_Block_0 rfl rfl rfl rfl) ?_
     refine r_d rfl rfl rfl (s_fieldAddr rfl fl_api_Occ_2 rfl rfl rfl rfl) ?_
     refine r_d rfl rfl rfl (s_load rfl rfl (by exact ty_bool) rfl) ?_
     refine r_d rfl rfl rfl (s_pickF rfl rfl rfl) ?_
     refine r_d rfl rfl rfl (s_pickT rfl rfl rfl) ?_
     refine r_d rfl rfl rfl (s_assign rfl rfl) ?_
     refine r_end ?_
     obtain rfl := Option.some.inj hr
     refine g_ret Tryz.func25 _ (.cons (resTmp rfl (Wk.refl _)) .nil) ?_
     rfl
   ·
    refine r_skip rfl rfl rfl ?_
    refine r_skip rfl rfl rfl ?_
    refine r_skip rfl rfl rfl ?_
    refine r_skip rfl rfl rfl ?_
    refine r_skip rfl rfl rfl ?_
    refine r_skip rfl rfl rfl ?_
    refine r_skip rfl rfl rfl ?_
    refine r_d rfl rfl rfl (s_pickF rfl rfl rfl) ?_
    refine r_d rfl rfl rfl (s_assign rfl rfl) ?_
    refine r_end ?_
    obtain rfl := Option.some.inj hr
    refine g_ret Tryz.func25 _ (.cons (resTmp rfl (Wk.refl _)) .nil) ?_
    rfl
  ·
   refine g_sub [(1, .ptr (enc_S_api_Block b_a0)), (3, .bool false), (4, .bool false), (5, .int .i64 ((0 : Nat) : Int))] (Sub.cons' rfl (Sub.cons' rfl (Sub.cons' rfl (Sub.cons' rfl (Sub.nil _))))) ?_
   refine g_loop (fun n env σ => ∃ (removes_1 : Bool) (keeps_2 : Bool) (i_3 : Nat), (n = b_a0.f1_Code.length - i_3) ∧ (env = [(1, .ptr (enc_S_api_Block b_a0)), (3, .bool removes_1), (4, .bool keeps_2), (5, .int .i64 (i_3 : Int))]) ∧ (σ = []) ∧ (i_3 ≤ b_a0.f1_Code.length) ∧ (lf_constraintref32_kept_L0 kk0 b_a0 (b_a0.f1_Code.drop i_3) removes_1 keeps_2 = some res)) _ ⟨false, false, 0, rfl, rfl, rfl, Nat.zero_le _, hr⟩ ?_
   rintro n _ _ ⟨removes_1, keeps_2, i_3, rfl, rfl, rfl, hi0, hr⟩ IH0
   rcases listStep b_a0.f1_Code i_3 hi0 with ⟨ht0, hd0, he0⟩ | ⟨q_8, ht0, hd0, hq0, hlt0⟩
   ·
    rw [hd0, lf_constraintref32_kept_L0] at hr
    refine g_seq ?_
    refine g_seq ?_
    refine g_run (by kernel_rfl) [(0, .d), (1, .d), (2, .d), (3, .d), (4, .d)] rfl ?_
    refine r_d rfl rfl rfl (s_move rfl rfl) ?_
    refine r_d rfl rfl rfl (s_fieldAddr rfl fl_api_Block_1 rfl rfl (by simp [szs, sz, sz_S_api_Occ]) rfl) ?_
    refine r_d rfl rfl rfl (s_load rfl rfl (by exact ty_L_api_Instr) rfl) ?_
    refine r_d rfl rfl rfl (m_len (f := enc_S_api_Instr) b_a0.f1_Code rfl el_L_api_Instr rfl (asl rfl)) ?_
    refine r_d rfl rfl rfl (s_cmp rfl rfl rfl rfl) ?_
    refine r_end ?_
    refine g_known 10 false rfl ht0 ?_
    refine g_condF rfl ?_
    refine g_exit rfl ?_
    refine g_sub [(1, .ptr (enc_S_api_Block b_a0)), (3, .bool removes_1), (4, .bool keeps_2)] (Sub.cons' rfl (Sub.cons' rfl (Sub.cons' rfl (Sub.nil _)))) ?_
    exact HK0 _ _ ⟨removes_1, keeps_2, rfl, rfl, hr⟩
   ·
    rw [hd0, lf_constraintref32_kept_L0] at hr
    refine g_seq ?_
    refine g_seq ?_
    refine g_run (by kernel_rfl) [(0, .d), (1, .d), (2, .d), (3, .d), (4, .d)] rfl ?_
    refine r_d rfl rfl rfl (s_move rfl rfl) ?_
    refine r_d rfl rfl rfl (s_fieldAddr rfl fl_api_Block_1 rfl rfl (by simp [szs, sz, sz_S_api_Occ]) rfl) ?_
    refine r_d rfl rfl rfl (s_load rfl rfl (by exact ty_L_api_Instr) rfl) ?_
    refine r_d rfl rfl rfl (m_len (f := enc_S_api_Instr) b_a0.f1_Code rfl el_L_api_Instr rfl (asl rfl)) ?_
    refine r_d rfl rfl rfl (s_cmp rfl rfl rfl rfl) ?_
    refine r_end ?_
    refine g_known 10 true rfl ht0 ?_
    refine g_condT rfl ?_
    refine g_skip ?_
    refine g_seq ?_
    refine g_block ?_
    refine g_seq ?_
    refine g_any (by kernel_rfl) (by kernel_rfl) [(0, .d), (1, .d), (2, .d), (3, .d), (4, .d), (5, .d), (6, .d), (7, .d), (8, .d), (9, .d), (10, .d), (11, .d), (12, .d), (13, .d), (14, .d), (15, .d), (16, .d), (17, .d), (18, .d), (19, .d), (20, .d), (21, .d), (22, .d)] (by kernel_rfl) ?_
    refine r_d rfl rfl rfl (s_move rfl rfl) ?_
    refine r_d rfl rfl rfl (s_move rfl rfl) ?_
    refine r_sB 14 rfl hr (fun h14_8 hr => ?_) (fun h14_8 hr => ?_)
    ·
     refine r_skip rfl rfl rfl ?_
     refine r_skip rfl rfl rfl ?_
     refine r_skip rfl rfl rfl ?_
     refine r_skip rfl rfl rfl ?_
     refine r_skip rfl rfl rfl ?_
     refine r_skip rfl rfl rfl ?_
     refine r_skip rfl rfl rfl ?_
     refine r_skip rfl rfl rfl ?_
     refine r_skip rfl rfl rfl ?_
     refine r_skip rfl rfl rfl ?_
     refine r_skip rfl rfl rfl ?_
     refine r_skip rfl rfl rfl ?_
     refine r_skip rfl rfl rfl ?_
     refine r_skip rfl rfl rfl ?_
     refine r_skip rfl rfl rfl ?_
     refine r_skip rfl rfl rfl ?_
     refine r_skip rfl rfl rfl ?_
     refine r_skip rfl rfl rfl ?_
     refine r_skip rfl rfl rfl ?_
     refine r_d rfl rfl rfl (s_pickT rfl rfl rfl) ?_
     refine r_d rfl rfl rfl (s_assign rfl rfl) ?_
     refine r_end ?_
     refine g_run (by kernel_rfl) [(0, .d), (1, .d), (2, .d), (3, .d), (4, .d), (5, .d), (6, .d), (7, .d), (8, .d), (9, .d), (10, .d)] rfl ?_
     refine r_d rfl rfl rfl (s_move rfl rfl) ?_
     refine r_d rfl rfl rfl (s_move rfl rfl) ?_
     refine r_sB 36 rfl hr (fun h36_9 hr => ?_) (fun h36_9 hr => ?_)
     ·
      refine r_skip rfl rfl rfl ?_
      refine r_skip rfl rfl rfl ?_
      refine r_skip rfl rfl rfl ?_
      refine r_skip rfl rfl rfl ?_
      refine r_skip rfl rfl rfl ?_
      refine r_skip rfl rfl rfl ?_
      refine r_skip rfl rfl rfl ?_
      refine r_d rfl rfl rfl (s_pickT rfl rfl rfl) ?_
      refine r_d rfl rfl rfl (s_assign rfl rfl) ?_
      refine r_end ?_
      refine g_inBlock ?_
      refine g_run (by kernel_rfl) [(0, .d), (1, .d), (2, .d)] rfl ?_
      refine r_d rfl rfl rfl (s_move rfl rfl) ?_
      refine r_d rfl rfl rfl (s_ar (r := ((i_3 + 1 : Nat) : Int)) rfl rfl rfl (by simp [iar]) (by omega)) ?_
      refine r_d rfl rfl rfl (s_assign rfl rfl) ?_
      refine r_end ?_
      refine g_sub [(1, .ptr (enc_S_api_Block b_a0)), (3, .bool true), (4, .bool true), (5, .int .i64 ((i_3 + 1 : Nat) : Int))] (Sub.cons' rfl (Sub.cons' rfl (Sub.cons' rfl (Sub.cons' rfl (Sub.nil _))))) ?_
      exact IH0 _ _ _ (by omega) ⟨true, true, (i_3 + 1), rfl, rfl, rfl, (by omega), hr⟩
     ·
      refine r_d rfl rfl rfl (s_fieldAddr rfl fl_api_Block_1 rfl rfl (by simp [szs, sz, sz_S_api_Occ]) rfl) ?_
      refine r_d rfl rfl rfl (s_load rfl rfl (by exact ty_L_api_Instr) rfl) ?_
      refine r_d rfl rfl rfl (s_move rfl rfl) ?_
      refine r_d rfl rfl rfl (m_index (f := enc_S_api_Instr) b_a0.f1_Code rfl el_L_api_Instr rfl (asl rfl) rfl hq0 sz_S_api_Instr rfl) ?_
      refine r_d rfl rfl rfl (s_fieldAddr rfl fl_api_Instr_0 rfl rfl rfl rfl) ?_
      refine r_d rfl rfl rfl (s_load rfl rfl (by exact ty_int) rfl) ?_
      refine r_d rfl rfl rfl (s_cmp rfl rfl rfl rfl) ?_
      refine r_d rfl rfl rfl (s_pickF rfl rfl rfl) ?_
      refine r_d rfl rfl rfl (s_assign rfl rfl) ?_
      refine r_end ?_
      refine g_inBlock ?_
      refine g_run (by kernel_rfl) [(0, .d), (1, .d), (2, .d)] rfl ?_
      refine r_d rfl rfl rfl (s_move rfl rfl) ?_
      refine r_d rfl rfl rfl (s_ar (r := ((i_3 + 1 : Nat) : Int)) rfl rfl rfl (by simp [iar]) (by omega)) ?_
      refine r_d rfl rfl rfl (s_assign rfl rfl) ?_
      refine r_end ?_
      refine g_sub [(1, .ptr (enc_S_api_Block b_a0)), (3, .bool true), (4, .bool (q_8.f0_Op == (7 : Int))), (5, .int .i64 ((i_3 + 1 : Nat) : Int))] (Sub.cons' rfl (Sub.cons' rfl (Sub.cons' rfl (Sub.cons' rfl (Sub.nil _))))) ?_
      exact IH0 _ _ _ (by omega) ⟨true, (q_8.f0_Op == (7 : Int)), (i_3 + 1), rfl, rfl, rfl, (by omega), hr⟩
    ·
     refine r_d rfl rfl rfl (s_fieldAddr rfl fl_api_Block_1 rfl rfl (by simp [szs, sz, sz_S_api_Occ]) rfl) ?_
     refine r_d rfl rfl rfl (s_load rfl rfl (by exact ty_L_api_Instr) rfl) ?_
     refine r_d rfl rfl rfl (s_move rfl rfl) ?_
     refine r_d rfl rfl rfl (m_index (f := enc_S_api_Instr) b_a0.f1_Code rfl el_L_api_Instr rfl (asl rfl) rfl hq0 sz_S_api_Instr rfl) ?_
     refine r_d rfl rfl rfl (s_fieldAddr rfl fl_api_Instr_0 rfl rfl rfl rfl) ?_
     refine r_d rfl rfl rfl (s_load rfl rfl (by exact ty_int) rfl) ?_
     refine r_d rfl rfl rfl (s_cmp rfl rfl rfl rfl) ?_
     refine r_d rfl rfl rfl (s_move rfl rfl) ?_
     refine r_sB 22 rfl hr (fun h22_10 hr => ?_) (fun h22_10 hr => ?_)
     ·
      refine r_d rfl rfl rfl (s_fieldAddr rfl fl_api_Block_1 rfl rfl (by simp [szs, sz, sz_S_api_Occ]) rfl) ?_
      refine r_d rfl rfl rfl (s_load rfl rfl (by exact ty_L_api_Instr) rfl) ?_
      refine r_d rfl rfl rfl (s_move rfl rfl) ?_
      refine r_d rfl rfl rfl (m_index (f := enc_S_api_Instr) b_a0.f1_Code rfl el_L_api_Instr rfl (asl rfl) rfl hq0 sz_S_api_Instr rfl) ?_
      refine r_d rfl rfl rfl (s_fieldAddr rfl fl_api_Instr_1 rfl rfl rfl rfl) ?_
      refine r_d rfl rfl rfl (s_load rfl rfl (by exact ty_int) rfl) ?_
      refine r_d rfl rfl rfl (s_fieldAddr rfl fl_api_Block_0 rfl rfl rfl rfl) ?_
      refine r_d rfl rfl rfl (s_fieldAddr rfl fl_api_Occ_1 rfl rfl rfl rfl) ?_
      refine r_d rfl rfl rfl (s_load rfl rfl (by exact ty_int) rfl) ?_
      refine r_d rfl rfl rfl (s_cmp rfl rfl rfl rfl) ?_
      refine r_d rfl rfl rfl (s_pickT rfl rfl rfl) ?_
      refine r_d rfl rfl rfl (s_pickF rfl rfl rfl) ?_
      refine r_d rfl rfl rfl (s_assign rfl rfl) ?_
      refine r_end ?_
      refine g_run (by kernel_rfl) [(0, .d), (1, .d), (2, .d), (3, .d), (4, .d), (5, .d), (6, .d), (7, .d), (8, .d), (9, .d), (10, .d)] rfl ?_
      refine r_d rfl rfl rfl (s_move rfl rfl) ?_
      refine r_d rfl rfl rfl (s_move rfl rfl) ?_
      refine r_sB 36 rfl hr (fun h36_11 hr => ?_) (fun h36_11 hr => ?_)
      ·
       refine r_skip rfl rfl rfl ?_
       refine r_skip rfl rfl rfl ?_
       refine r_skip rfl rfl rfl ?_
       refine r_skip rfl rfl rfl ?_
       refine r_skip rfl rfl rfl ?_
       refine r_skip rfl rfl rfl ?_
       refine r_skip rfl rfl rfl ?_
       refine r_d rfl rfl rfl (s_pickT rfl rfl rfl) ?_
       refine r_d rfl rfl rfl (s_assign rfl rfl) ?_
       refine r_end ?_
       refine g_inBlock ?_
       refine g_run (by kernel_rfl) [(0, .d), (1, .d), (2, .d)] rfl ?_
       refine r_d rfl rfl rfl (s_move rfl rfl) ?_
       refine r_d rfl rfl rfl (s_ar (r := ((i_3 + 1 : Nat) : Int)) rfl rfl rfl (by simp [iar]) (by omega)) ?_
       refine r_d rfl rfl rfl (s_assign rfl rfl) ?_
       refine r_end ?_
       refine g_sub [(1, .ptr (enc_S_api_Block b_a0)), (3, .bool (q_8.f1_A == b_a0.f0_Occ.f1_Head)), (4, .bool true), (5, .int .i64 ((i_3 + 1 : Nat) : Int))] (Sub.cons' rfl (Sub.cons' rfl (Sub.cons' rfl (Sub.cons' rfl (Sub.nil _))))) ?_
       exact IH0 _ _ _ (by omega) ⟨(q_8.f1_A == b_a0.f0_Occ.f1_Head), true, (i_3 + 1), rfl, rfl, rfl, (by omega), hr⟩
      ·
       refine r_d rfl rfl rfl (s_fieldAddr rfl fl_api_Block_1 rfl rfl (by simp [szs, sz, sz_S_api_Occ]) rfl) ?_
       refine r_d rfl rfl rfl (s_load rfl rfl (by exact ty_L_api_Instr) rfl) ?_
       refine r_d rfl rfl rfl (s_move rfl rfl) ?_
       refine r_d rfl rfl rfl (m_index (f := enc_S_api_Instr) b_a0.f1_Code rfl el_L_api_Instr rfl (asl rfl) rfl hq0 sz_S_api_Instr rfl) ?_
       refine r_d rfl rfl rfl (s_fieldAddr rfl fl_api_Instr_0 rfl rfl rfl rfl) ?_
       refine r_d rfl rfl rfl (s_load rfl rfl (by exact ty_int) rfl) ?_
       refine r_d rfl rfl rfl (s_cmp rfl rfl rfl rfl) ?_
       refine r_d rfl rfl rfl (s_pickF rfl rfl rfl) ?_
       refine r_d rfl rfl rfl (s_assign rfl rfl) ?_
       refine r_end ?_
       refine g_inBlock ?_
       refine g_run (by kernel_rfl) [(0, .d), (1, .d), (2, .d)] rfl ?_
       refine r_d rfl rfl rfl (s_move rfl rfl) ?_
       refine r_d rfl rfl rfl (s_ar (r := ((i_3 + 1 : Nat) : Int)) rfl rfl rfl (by simp [iar]) (by omega)) ?_
       refine r_d rfl rfl rfl (s_assign rfl rfl) ?_
       refine r_end ?_
       refine g_sub [(1, .ptr (enc_S_api_Block b_a0)), (3, .bool (q_8.f1_A == b_a0.f0_Occ.f1_Head)), (4, .bool (q_8.f0_Op == (7 : Int))), (5, .int .i64 ((i_3 + 1 : Nat) : Int))] (Sub.cons' rfl (Sub.cons' rfl (Sub.cons' rfl (Sub.cons' rfl (Sub.nil _))))) ?_
       exact IH0 _ _ _ (by omega) ⟨(q_8.f1_A == b_a0.f0_Occ.f1_Head), (q_8.f0_Op == (7 : Int)), (i_3 + 1), rfl, rfl, rfl, (by omega), hr⟩
     ·
      refine r_skip rfl rfl rfl ?_
      refine r_skip rfl rfl rfl ?_
      refine r_skip rfl rfl rfl ?_
      refine r_skip rfl rfl rfl ?_
      refine r_skip rfl rfl rfl ?_
      refine r_skip rfl rfl rfl ?_
      refine r_skip rfl rfl rfl ?_
      refine r_skip rfl rfl rfl ?_
      refine r_skip rfl rfl rfl ?_
      refine r_skip rfl rfl rfl ?_
      refine r_d rfl rfl rfl (s_pickF rfl rfl rfl) ?_
      refine r_d rfl rfl rfl (s_pickF rfl rfl rfl) ?_
      refine r_d rfl rfl rfl (s_assign rfl rfl) ?_
      refine r_end ?_
      refine g_run (by kernel_rfl) [(0, .d), (1, .d), (2, .d), (3, .d), (4, .d), (5, .d), (6, .d), (7, .d), (8, .d), (9, .d), (10, .d)] rfl ?_
      refine r_d rfl rfl rfl (s_move rfl rfl) ?_
      refine r_d rfl rfl rfl (s_move rfl rfl) ?_
      refine r_sB 36 rfl hr (fun h36_12 hr => ?_) (fun h36_12 hr => ?_)
      ·
       refine r_skip rfl rfl rfl ?_
       refine r_skip rfl rfl rfl ?_
       refine r_skip rfl rfl rfl ?_
       refine r_skip rfl rfl rfl ?_
       refine r_skip rfl rfl rfl ?_
       refine r_skip rfl rfl rfl ?_
       refine r_skip rfl rfl rfl ?_
       refine r_d rfl rfl rfl (s_pickT rfl rfl rfl) ?_
       refine r_d rfl rfl rfl (s_assign rfl rfl) ?_
       refine r_end ?_
       refine g_inBlock ?_
       refine g_run (by kernel_rfl) [(0, .d), (1, .d), (2, .d)] rfl ?_
       refine r_d rfl rfl rfl (s_move rfl rfl) ?_
       refine r_d rfl rfl rfl (s_ar (r := ((i_3 + 1 : Nat) : Int)) rfl rfl rfl (by simp [iar]) (by omega)) ?_
       refine r_d rfl rfl rfl (s_assign rfl rfl) ?_
       refine r_end ?_
       refine g_sub [(1, .ptr (enc_S_api_Block b_a0)), (3, .bool false), (4, .bool true), (5, .int .i64 ((i_3 + 1 : Nat) : Int))] (Sub.cons' rfl (Sub.cons' rfl (Sub.cons' rfl (Sub.cons' rfl (Sub.nil _))))) ?_
       exact IH0 _ _ _ (by omega) ⟨false, true, (i_3 + 1), rfl, rfl, rfl, (by omega), hr⟩
      ·
       refine r_d rfl rfl rfl (s_fieldAddr rfl fl_api_Block_1 rfl rfl (by simp [szs, sz, sz_S_api_Occ]) rfl) ?_
       refine r_d rfl rfl rfl (s_load rfl rfl (by exact ty_L_api_Instr) rfl) ?_
       refine r_d rfl rfl rfl (s_move rfl rfl) ?_
       refine r_d rfl rfl rfl (m_index (f := enc_S_api_Instr) b_a0.f1_Code rfl el_L_api_Instr rfl (asl rfl) rfl hq0 sz_S_api_Instr rfl) ?_
       refine r_d rfl rfl rfl (s_fieldAddr rfl fl_api_Instr_0 rfl rfl rfl rfl) ?_
       refine r_d rfl rfl rfl (s_load rfl rfl (by exact ty_int) rfl) ?_
       refine r_d rfl rfl rfl (s_cmp rfl rfl rfl rfl) ?_
       refine r_d rfl rfl rfl (s_pickF rfl rfl rfl) ?_
       refine r_d rfl rfl rfl (s_assign rfl rfl) ?_
       refine r_end ?_
       refine g_inBlock ?_
       refine g_run (by kernel_rfl) [(0, .d), (1, .d), (2, .d)] rfl ?_
       refine r_d rfl rfl rfl (s_move rfl rfl) ?_
       refine r_d rfl rfl rfl (s_ar (r := ((i_3 + 1 : Nat) : Int)) rfl rfl rfl (by simp [iar]) (by omega)) ?_
       refine r_d rfl rfl rfl (s_assign rfl rfl) ?_
       refine r_end ?_
       refine g_sub [(1, .ptr (enc_S_api_Block b_a0)), (3, .bool false), (4, .bool (q_8.f0_Op == (7 : Int))), (5, .int .i64 ((i_3 + 1 : Nat) : Int))] (Sub.cons' rfl (Sub.cons' rfl (Sub.cons' rfl (Sub.cons' rfl (Sub.nil _))))) ?_
       exact IH0 _ _ _ (by omega) ⟨false, (q_8.f0_Op == (7 : Int)), (i_3 + 1), rfl, rfl, rfl, (by omega), hr⟩

noncomputable def lf_constraintref32_Check_L0 (k : Option (Int)) : List S_api_Instr → Option (Int)
  | [] =>
  k
  | q_13 :: rest =>
  ((lf_constraintref32_Right q_13).bind fun r_14 =>
  (bif (!r_14) then
  some (2)
  else
  (lf_constraintref32_Check_L0 k rest)))
noncomputable def lf_constraintref32_Check (b_a0 : S_api_Block) : Option (Int) :=
  (bif (decide ((b_a0.f1_Code.length : Int) > (200 : Int))) then
  some (6)
  else
  ((lf_constraintref32_number b_a0.f0_Occ.f0_Rule).bind fun r_2 =>
  (bif (!r_2) then
  some (2)
  else
  ((lf_constraintref32_register b_a0.f0_Occ.f1_Head).bind fun r_4 =>
  (bif (!r_4) then
  some (2)
  else
  (lf_constraintref32_Check_L0 (((lf_constraintref32_order b_a0).bind fun r_7 =>
  (bif (!r_7) then
  some (18)
  else
  ((lf_constraintref32_registers b_a0).bind fun r_9 =>
  (bif (!r_9) then
  some (18)
  else
  ((lf_constraintref32_kept b_a0).bind fun r_11 =>
  (bif (!r_11) then
  some (18)
  else
  some (0)))))))) b_a0.f1_Code))))))

set_option maxHeartbeats 1000000 in
theorem lg_constraintref32_Check (b_a0 : S_api_Block) (res : Int) (hr : lf_constraintref32_Check b_a0 = some res) : Gives Tryz.prog 7 [enc_S_api_Block b_a0] (.int .i64 res) := by
  unfold lf_constraintref32_Check at hr
  refine spec_env [(0, enc_S_api_Block b_a0)] Tryz.func7 rfl rfl fun K hK => ?_
  refine g_seq ?_
  refine g_run (by kernel_rfl) [(0, .d), (1, .d)] rfl ?_
  refine r_d rfl rfl rfl (s_box rfl rfl rfl) ?_
  refine r_d rfl rfl rfl (s_assign rfl rfl) ?_
  refine r_end ?_
  refine g_seq ?_
  refine g_seq ?_
  refine g_run (by kernel_rfl) [(0, .d), (1, .d), (2, .d), (3, .d)] rfl ?_
  refine r_d rfl rfl rfl (s_fieldAddr rfl fl_api_Block_1 rfl rfl (by simp [szs, sz, sz_S_api_Occ]) rfl) ?_
  refine r_d rfl rfl rfl (s_load rfl rfl (by exact ty_L_api_Instr) rfl) ?_
  refine r_d rfl rfl rfl (m_len (f := enc_S_api_Instr) b_a0.f1_Code rfl el_L_api_Instr rfl (asl rfl)) ?_
  refine r_d rfl rfl rfl (s_cmp rfl rfl rfl rfl) ?_
  refine r_end ?_
  refine g_sB 7 rfl hr (fun h7_0 hr => ?_) (fun h7_0 hr => ?_)
  ·
   refine g_condT rfl ?_
   refine g_seq ?_
   refine g_run (by kernel_rfl) [(0, .d)] rfl ?_
   refine r_d rfl rfl rfl (s_assign rfl rfl) ?_
   refine r_end ?_
   obtain rfl := Option.some.inj hr
   refine g_ret Tryz.func7 _ (.cons (resTmp rfl (Wk.refl _)) .nil) ?_
   rfl
  ·
   refine g_condF rfl ?_
   refine g_skip ?_
   refine g_seq ?_
   refine g_seq ?_
   refine g_run (by kernel_rfl) [(0, .d), (1, .d), (2, .d), (3, .d), (4, .d), (5, .d), (6, .d), (7, .d), (8, .d), (9, .d), (10, .d), (11, .d)] rfl ?_
   refine r_d rfl rfl rfl (s_fieldAddr rfl fl_api_Block_0 rfl rfl rfl rfl) ?_
   refine r_d rfl rfl rfl (s_fieldAddr rfl fl_api_Occ_0 rfl rfl rfl rfl) ?_
   refine r_d rfl rfl rfl (s_load rfl rfl (by exact ty_int) rfl) ?_
   obtain ⟨r_2, hr_2, hr⟩ := bindS hr
   refine r_d rfl rfl rfl (s_callD rfl cl_constraintref32_number (.cons rfl (Wk.refl _) .nil) (lg_constraintref32_number _ _ hr_2)) ?_
   refine r_d rfl rfl rfl (s_not rfl rfl) ?_
   refine r_d rfl rfl rfl (s_move rfl rfl) ?_
   refine r_sB 13 rfl hr (fun h13_2 hr => ?_) (fun h13_2 hr => ?_)
   ·
    refine r_skip rfl rfl rfl ?_
    refine r_skip rfl rfl rfl ?_
    refine r_skip rfl rfl rfl ?_
    refine r_skip rfl rfl rfl ?_
    refine r_skip rfl rfl rfl ?_
    refine r_d rfl rfl rfl (s_pickT rfl rfl rfl) ?_
    refine r_end ?_
    refine g_condT rfl ?_
    refine g_seq ?_
    refine g_run (by kernel_rfl) [(0, .d)] rfl ?_
    refine r_d rfl rfl rfl (s_assign rfl rfl) ?_
    refine r_end ?_
    obtain rfl := Option.some.inj hr
    refine g_ret Tryz.func7 _ (.cons (resTmp rfl (Wk.refl _)) .nil) ?_
    rfl
   ·
    refine r_d rfl rfl rfl (s_fieldAddr rfl fl_api_Block_0 rfl rfl rfl rfl) ?_
    refine r_d rfl rfl rfl (s_fieldAddr rfl fl_api_Occ_1 rfl rfl rfl rfl) ?_
    refine r_d rfl rfl rfl (s_load rfl rfl (by exact ty_int) rfl) ?_
    obtain ⟨r_4, hr_4, hr⟩ := bindS hr
    refine r_d rfl rfl rfl (s_callD rfl cl_constraintref32_register (.cons rfl (Wk.refl _) .nil) (lg_constraintref32_register _ _ hr_4)) ?_
    refine r_d rfl rfl rfl (s_not rfl rfl) ?_
    refine r_d rfl rfl rfl (s_pickF rfl rfl rfl) ?_
    refine r_end ?_
    refine g_sB 19 rfl hr (fun h19_4 hr => ?_) (fun h19_4 hr => ?_)
    ·
     refine g_condT rfl ?_
     refine g_seq ?_
     refine g_run (by kernel_rfl) [(0, .d)] rfl ?_
     refine r_d rfl rfl rfl (s_assign rfl rfl) ?_
     refine r_end ?_
     obtain rfl := Option.some.inj hr
     refine g_ret Tryz.func7 _ (.cons (resTmp rfl (Wk.refl _)) .nil) ?_
     rfl
    ·
     refine g_condF rfl ?_
     refine g_skip ?_
     refine g_seq ?_
     refine g_seq ?_
     refine g_run (by kernel_rfl) [(0, .d)] rfl ?_
     refine r_d rfl rfl rfl (s_assign rfl rfl) ?_
     refine r_end ?_
     obtain ⟨kk0, hkk0, hr⟩ := exK (fun k => lf_constraintref32_Check_L0 k b_a0.f1_Code) hr
     refine g_len 5 rfl (asl rfl) fun hla0 => ?_
     simp only [List.length_map] at hla0
     refine g_blockJ (fun env σ => env = [(1, .ptr (enc_S_api_Block b_a0))] ∧ σ = [] ∧ kk0 = some res) ?_ (fun HK0 => ?_)
     ·
      rintro _ _ ⟨rfl, rfl, hr⟩
      rw [hkk0] at hr
      refine g_seq ?_
      refine g_seq ?_
      refine g_run (by kernel_rfl) [(0, .d), (1, .d), (2, .d), (3, .d), (4, .d), (5, .d), (6, .d), (7, .d), (8, .d), (9, .d), (10, .d), (11, .d), (12, .d)] rfl ?_
      refine r_d rfl rfl rfl (s_load rfl rfl (by exact ty_api_Block) (sz_S_api_Block _)) ?_
      obtain ⟨r_7, hr_7, hr⟩ := bindS hr
      refine r_d rfl rfl rfl (s_callD rfl cl_constraintref32_order (.cons rfl (Wk.refl _) .nil) (lg_constraintref32_order _ _ hr_7)) ?_
      refine r_d rfl rfl rfl (s_not rfl rfl) ?_
      refine r_d rfl rfl rfl (s_move rfl rfl) ?_
      refine r_sB 37 rfl hr (fun h37_7 hr => ?_) (fun h37_7 hr => ?_)
      ·
       refine r_skip rfl rfl rfl ?_
       refine r_skip rfl rfl rfl ?_
       refine r_skip rfl rfl rfl ?_
       refine r_d rfl rfl rfl (s_pickT rfl rfl rfl) ?_
       refine r_d rfl rfl rfl (s_move rfl rfl) ?_
       refine r_skip rfl rfl rfl ?_
       refine r_skip rfl rfl rfl ?_
       refine r_skip rfl rfl rfl ?_
       refine r_d rfl rfl rfl (s_pickT rfl rfl rfl) ?_
       refine r_end ?_
       refine g_condT rfl ?_
       refine g_seq ?_
       refine g_run (by kernel_rfl) [(0, .d)] rfl ?_
       refine r_d rfl rfl rfl (s_assign rfl rfl) ?_
       refine r_end ?_
       obtain rfl := Option.some.inj hr
       refine g_ret Tryz.func7 _ (.cons (resTmp rfl (Wk.refl _)) .nil) ?_
       rfl
      ·
       refine r_d rfl rfl rfl (s_load rfl rfl (by exact ty_api_Block) (sz_S_api_Block _)) ?_
       obtain ⟨r_9, hr_9, hr⟩ := bindS hr
       refine r_d rfl rfl rfl (s_callD rfl cl_constraintref32_registers (.cons rfl (Wk.refl _) .nil) (lg_constraintref32_registers _ _ hr_9)) ?_
       refine r_d rfl rfl rfl (s_not rfl rfl) ?_
       refine r_d rfl rfl rfl (s_pickF rfl rfl rfl) ?_
       refine r_d rfl rfl rfl (s_move rfl rfl) ?_
       refine r_sB 42 rfl hr (fun h42_9 hr => ?_) (fun h42_9 hr => ?_)
       ·
        refine r_skip rfl rfl rfl ?_
        refine r_skip rfl rfl rfl ?_
        refine r_skip rfl rfl rfl ?_
        refine r_d rfl rfl rfl (s_pickT rfl rfl rfl) ?_
        refine r_end ?_
        refine g_condT rfl ?_
        refine g_seq ?_
        refine g_run (by kernel_rfl) [(0, .d)] rfl ?_
        refine r_d rfl rfl rfl (s_assign rfl rfl) ?_
        refine r_end ?_
        obtain rfl := Option.some.inj hr
        refine g_ret Tryz.func7 _ (.cons (resTmp rfl (Wk.refl _)) .nil) ?_
        rfl
       ·
        refine r_d rfl rfl rfl (s_load rfl rfl (by exact ty_api_Block) (sz_S_api_Block _)) ?_
        obtain ⟨r_11, hr_11, hr⟩ := bindS hr
        refine r_d rfl rfl rfl (s_callD rfl cl_constraintref32_kept (.cons rfl (Wk.refl _) .nil) (lg_constraintref32_kept _ _ hr_11)) ?_
        refine r_d rfl rfl rfl (s_not rfl rfl) ?_
        refine r_d rfl rfl rfl (s_pickF rfl rfl rfl) ?_
        refine r_end ?_
        refine g_sB 46 rfl hr (fun h46_11 hr => ?_) (fun h46_11 hr => ?_)
        ·
         refine g_condT rfl ?_
         refine g_seq ?_
         refine g_run (by kernel_rfl) [(0, .d)] rfl ?_
         refine r_d rfl rfl rfl (s_assign rfl rfl) ?_
         refine r_end ?_
         obtain rfl := Option.some.inj hr
         refine g_ret Tryz.func7 _ (.cons (resTmp rfl (Wk.refl _)) .nil) ?_
         rfl
        ·
         refine g_condF rfl ?_
         refine g_skip ?_
         refine g_seq ?_
         refine g_run (by kernel_rfl) [(0, .d)] rfl ?_
         refine r_d rfl rfl rfl (s_assign rfl rfl) ?_
         refine r_end ?_
         obtain rfl := Option.some.inj hr
         refine g_ret Tryz.func7 _ (.cons (resTmp rfl (Wk.refl _)) .nil) ?_
         rfl
     ·
      refine g_sub [(1, .ptr (enc_S_api_Block b_a0)), (3, .int .i64 ((0 : Nat) : Int))] (Sub.cons' rfl (Sub.cons' rfl (Sub.nil _))) ?_
      refine g_loop (fun n env σ => ∃ (i_6 : Nat), (n = b_a0.f1_Code.length - i_6) ∧ (env = [(1, .ptr (enc_S_api_Block b_a0)), (3, .int .i64 (i_6 : Int))]) ∧ (σ = []) ∧ (i_6 ≤ b_a0.f1_Code.length) ∧ (lf_constraintref32_Check_L0 kk0 (b_a0.f1_Code.drop i_6) = some res)) _ ⟨0, rfl, rfl, rfl, Nat.zero_le _, hr⟩ ?_
      rintro n _ _ ⟨i_6, rfl, rfl, rfl, hi0, hr⟩ IH0
      rcases listStep b_a0.f1_Code i_6 hi0 with ⟨ht0, hd0, he0⟩ | ⟨q_13, ht0, hd0, hq0, hlt0⟩
      ·
       rw [hd0, lf_constraintref32_Check_L0] at hr
       refine g_seq ?_
       refine g_seq ?_
       refine g_run (by kernel_rfl) [(0, .d), (1, .d), (2, .d), (3, .d), (4, .d)] rfl ?_
       refine r_d rfl rfl rfl (s_move rfl rfl) ?_
       refine r_d rfl rfl rfl (s_fieldAddr rfl fl_api_Block_1 rfl rfl (by simp [szs, sz, sz_S_api_Occ]) rfl) ?_
       refine r_d rfl rfl rfl (s_load rfl rfl (by exact ty_L_api_Instr) rfl) ?_
       refine r_d rfl rfl rfl (m_len (f := enc_S_api_Instr) b_a0.f1_Code rfl el_L_api_Instr rfl (asl rfl)) ?_
       refine r_d rfl rfl rfl (s_cmp rfl rfl rfl rfl) ?_
       refine r_end ?_
       refine g_known 24 false rfl ht0 ?_
       refine g_condF rfl ?_
       refine g_exit rfl ?_
       refine g_sub [(1, .ptr (enc_S_api_Block b_a0))] (Sub.cons' rfl (Sub.nil _)) ?_
       exact HK0 _ _ ⟨rfl, rfl, hr⟩
      ·
       rw [hd0, lf_constraintref32_Check_L0] at hr
       refine g_seq ?_
       refine g_seq ?_
       refine g_run (by kernel_rfl) [(0, .d), (1, .d), (2, .d), (3, .d), (4, .d)] rfl ?_
       refine r_d rfl rfl rfl (s_move rfl rfl) ?_
       refine r_d rfl rfl rfl (s_fieldAddr rfl fl_api_Block_1 rfl rfl (by simp [szs, sz, sz_S_api_Occ]) rfl) ?_
       refine r_d rfl rfl rfl (s_load rfl rfl (by exact ty_L_api_Instr) rfl) ?_
       refine r_d rfl rfl rfl (m_len (f := enc_S_api_Instr) b_a0.f1_Code rfl el_L_api_Instr rfl (asl rfl)) ?_
       refine r_d rfl rfl rfl (s_cmp rfl rfl rfl rfl) ?_
       refine r_end ?_
       refine g_known 24 true rfl ht0 ?_
       refine g_condT rfl ?_
       refine g_skip ?_
       refine g_seq ?_
       refine g_block ?_
       refine g_seq ?_
       refine g_run (by kernel_rfl) [(0, .d), (1, .d), (2, .d), (3, .d), (4, .d), (5, .d), (6, .d)] rfl ?_
       refine r_d rfl rfl rfl (s_fieldAddr rfl fl_api_Block_1 rfl rfl (by simp [szs, sz, sz_S_api_Occ]) rfl) ?_
       refine r_d rfl rfl rfl (s_load rfl rfl (by exact ty_L_api_Instr) rfl) ?_
       refine r_d rfl rfl rfl (s_move rfl rfl) ?_
       refine r_d rfl rfl rfl (m_index (f := enc_S_api_Instr) b_a0.f1_Code rfl el_L_api_Instr rfl (asl rfl) rfl hq0 sz_S_api_Instr rfl) ?_
       refine r_d rfl rfl rfl (s_load rfl rfl (by exact ty_api_Instr) (sz_S_api_Instr _)) ?_
       obtain ⟨r_14, hr_14, hr⟩ := bindS hr
       refine r_d rfl rfl rfl (s_callD rfl cl_constraintref32_Right (.cons rfl (Wk.refl _) .nil) (lg_constraintref32_Right _ _ hr_14)) ?_
       refine r_d rfl rfl rfl (s_not rfl rfl) ?_
       refine r_end ?_
       refine g_sB 33 rfl hr (fun h33_14 hr => ?_) (fun h33_14 hr => ?_)
       ·
        refine g_condT rfl ?_
        refine g_seq ?_
        refine g_run (by kernel_rfl) [(0, .d)] rfl ?_
        refine r_d rfl rfl rfl (s_assign rfl rfl) ?_
        refine r_end ?_
        obtain rfl := Option.some.inj hr
        refine g_ret Tryz.func7 _ (.cons (resTmp rfl (Wk.refl _)) .nil) ?_
        rfl
       ·
        refine g_condF rfl ?_
        refine g_skip ?_
        refine g_inBlock ?_
        refine g_run (by kernel_rfl) [(0, .d), (1, .d), (2, .d)] rfl ?_
        refine r_d rfl rfl rfl (s_move rfl rfl) ?_
        refine r_d rfl rfl rfl (s_ar (r := ((i_6 + 1 : Nat) : Int)) rfl rfl rfl (by simp [iar]) (by omega)) ?_
        refine r_d rfl rfl rfl (s_assign rfl rfl) ?_
        refine r_end ?_
        refine g_sub [(1, .ptr (enc_S_api_Block b_a0)), (3, .int .i64 ((i_6 + 1 : Nat) : Int))] (Sub.cons' rfl (Sub.cons' rfl (Sub.nil _))) ?_
        exact IH0 _ _ _ (by omega) ⟨(i_6 + 1), rfl, rfl, rfl, (by omega), hr⟩

noncomputable def lf_constraintref32_access_L1 (k : Option (Int)) (q_2 : S_api_Access) : List Int → Nat → Option (Int)
  | [], k_8 =>
  k
  | q_9 :: rest, k_8 =>
  (bif (decide (q_9 < (0 : Int))) then
  some (2)
  else
  (bif (decide (q_9 ≥ q_2.f1_Arity)) then
  some (2)
  else
  (bif (decide ((k_8 : Int) > (0 : Int))) then
  ((getI q_2.f2_Positions (wr ((k_8 : Int) - (1 : Int)))).bind fun q_13 =>
  (bif (decide (q_9 ≤ q_13)) then
  some (2)
  else
  (lf_constraintref32_access_L1 k q_2 rest (k_8 + 1))))
  else
  (lf_constraintref32_access_L1 k q_2 rest (k_8 + 1)))))

noncomputable def lf_constraintref32_access_L0 (k : Option (Int)) : List S_api_Access → Option (Int)
  | [] =>
  k
  | q_2 :: rest =>
  ((x_isNameR q_2.f0_Name).bind fun r_4 =>
  (bif (!r_4) then
  some (7)
  else
  (bif (decide (q_2.f1_Arity < (0 : Int))) then
  some (9)
  else
  (bif (decide (q_2.f1_Arity > (6 : Int))) then
  some (9)
  else
  (lf_constraintref32_access_L1 ((lf_constraintref32_access_L0 k rest)) q_2 q_2.f2_Positions 0)))))
noncomputable def lf_constraintref32_access (l_a0 : (List S_api_Access)) : Option (Int) :=
  (lf_constraintref32_access_L0 (some (0)) l_a0)

set_option maxHeartbeats 1000000 in
theorem lg_constraintref32_access (l_a0 : (List S_api_Access)) (res : Int) (hr : lf_constraintref32_access l_a0 = some res) : Gives Tryz.prog 31 [.lst (l_a0.map enc_S_api_Access)] (.int .i64 res) := by
  unfold lf_constraintref32_access at hr
  refine spec_env [(0, .lst (l_a0.map enc_S_api_Access))] Tryz.func31 rfl rfl fun K hK => ?_
  refine g_seq ?_
  refine g_run (by kernel_rfl) [(0, .d)] rfl ?_
  refine r_d rfl rfl rfl (s_assign rfl rfl) ?_
  refine r_end ?_
  refine g_seq ?_
  refine g_seq ?_
  refine g_run (by kernel_rfl) [(0, .d)] rfl ?_
  refine r_d rfl rfl rfl (s_assign rfl rfl) ?_
  refine r_end ?_
  obtain ⟨kk0, hkk0, hr⟩ := exK (fun k => lf_constraintref32_access_L0 k l_a0) hr
  refine g_len 0 rfl (asl rfl) fun hla0 => ?_
  simp only [List.length_map] at hla0
  refine g_blockJ (fun env σ => env = [] ∧ σ = [] ∧ kk0 = some res) ?_ (fun HK0 => ?_)
  ·
   rintro _ _ ⟨rfl, rfl, hr⟩
   rw [hkk0] at hr
   refine g_seq ?_
   refine g_run (by kernel_rfl) [(0, .d)] rfl ?_
   refine r_d rfl rfl rfl (s_assign rfl rfl) ?_
   refine r_end ?_
   obtain rfl := Option.some.inj hr
   refine g_ret Tryz.func31 _ (.cons (resTmp rfl (Wk.refl _)) .nil) ?_
   rfl
  ·
   refine g_sub [(0, .lst (l_a0.map enc_S_api_Access)), (3, .int .i64 ((0 : Nat) : Int))] (Sub.cons' rfl (Sub.cons' rfl (Sub.nil _))) ?_
   refine g_loop (fun n env σ => ∃ (i_1 : Nat), (n = l_a0.length - i_1) ∧ (env = [(0, .lst (l_a0.map enc_S_api_Access)), (3, .int .i64 (i_1 : Int))]) ∧ (σ = []) ∧ (i_1 ≤ l_a0.length) ∧ (lf_constraintref32_access_L0 kk0 (l_a0.drop i_1) = some res)) _ ⟨0, rfl, rfl, rfl, Nat.zero_le _, hr⟩ ?_
   rintro n _ _ ⟨i_1, rfl, rfl, rfl, hi0, hr⟩ IH0
   rcases listStep l_a0 i_1 hi0 with ⟨ht0, hd0, he0⟩ | ⟨q_2, ht0, hd0, hq0, hlt0⟩
   ·
    rw [hd0, lf_constraintref32_access_L0] at hr
    refine g_seq ?_
    refine g_seq ?_
    refine g_run (by kernel_rfl) [(0, .d), (1, .d), (2, .d), (3, .d)] rfl ?_
    refine r_d rfl rfl rfl (s_move rfl rfl) ?_
    refine r_d rfl rfl rfl (s_move rfl rfl) ?_
    refine r_d rfl rfl rfl (m_len (f := enc_S_api_Access) l_a0 rfl el_L_api_Access rfl (asl rfl)) ?_
    refine r_d rfl rfl rfl (s_cmp rfl rfl rfl rfl) ?_
    refine r_end ?_
    refine g_known 9 false rfl ht0 ?_
    refine g_condF rfl ?_
    refine g_exit rfl ?_
    refine g_sub [] (Sub.nil _) ?_
    exact HK0 _ _ ⟨rfl, rfl, hr⟩
   ·
    rw [hd0, lf_constraintref32_access_L0] at hr
    refine g_seq ?_
    refine g_seq ?_
    refine g_run (by kernel_rfl) [(0, .d), (1, .d), (2, .d), (3, .d)] rfl ?_
    refine r_d rfl rfl rfl (s_move rfl rfl) ?_
    refine r_d rfl rfl rfl (s_move rfl rfl) ?_
    refine r_d rfl rfl rfl (m_len (f := enc_S_api_Access) l_a0 rfl el_L_api_Access rfl (asl rfl)) ?_
    refine r_d rfl rfl rfl (s_cmp rfl rfl rfl rfl) ?_
    refine r_end ?_
    refine g_known 9 true rfl ht0 ?_
    refine g_condT rfl ?_
    refine g_skip ?_
    refine g_seq ?_
    refine g_block ?_
    refine g_seq ?_
    refine g_run (by kernel_rfl) [(0, .d), (1, .d), (2, .d), (3, .d), (4, .w), (5, .w)] rfl ?_
    refine r_d rfl rfl rfl (s_move rfl rfl) ?_
    refine r_d rfl rfl rfl (s_move rfl rfl) ?_
    refine r_d rfl rfl rfl (m_index (f := enc_S_api_Access) l_a0 rfl el_L_api_Access rfl (asl rfl) rfl hq0 sz_S_api_Access rfl) ?_
    refine r_d rfl rfl rfl (s_load rfl rfl (by exact ty_api_Access) (sz_S_api_Access _)) ?_
    refine r_w rfl rfl rfl (s_alloc rfl zv_api_Access) ?_
    rintro _ _ ⟨b4_2, rfl, rfl⟩
    refine r_w01 rfl rfl rfl (t_store0 _ rfl rfl rfl (Wk.refl _) (pf0 _) (by exact ty_api_Access) (sz_S_api_Access _) rfl rfl) ?_
    refine r_end ?_
    refine g_freeze 4 b4_2 rfl (pf0 _) ?_
    refine g_seq ?_
    refine g_seq ?_
    refine g_run (by kernel_rfl) [(0, .d), (1, .d), (2, .d), (3, .d)] rfl ?_
    refine r_d rfl rfl rfl (s_fieldAddr rfl fl_api_Access_0 rfl rfl rfl rfl) ?_
    refine r_d rfl rfl rfl (s_load rfl rfl (by exact ty_string) rfl) ?_
    obtain ⟨r_4, hr_4, hr⟩ := bindS hr
    refine r_d rfl rfl rfl (s_callD rfl cl_constraintref02_Right (.cons rfl (Wk.refl _) .nil) (lx_constraintref02_Right _ _ hr_4)) ?_
    refine r_d rfl rfl rfl (s_not rfl rfl) ?_
    refine r_end ?_
    refine g_sB 19 rfl hr (fun h19_4 hr => ?_) (fun h19_4 hr => ?_)
    ·
     refine g_condT rfl ?_
     refine g_seq ?_
     refine g_run (by kernel_rfl) [(0, .d)] rfl ?_
     refine r_d rfl rfl rfl (s_assign rfl rfl) ?_
     refine r_end ?_
     obtain rfl := Option.some.inj hr
     refine g_ret Tryz.func31 _ (.cons (resTmp rfl (Wk.refl _)) .nil) ?_
     rfl
    ·
     refine g_condF rfl ?_
     refine g_skip ?_
     refine g_seq ?_
     refine g_seq ?_
     refine g_run (by kernel_rfl) [(0, .d), (1, .d), (2, .d), (3, .d), (4, .d), (5, .d), (6, .d), (7, .d)] rfl ?_
     refine r_d rfl rfl rfl (s_fieldAddr rfl fl_api_Access_1 rfl rfl rfl rfl) ?_
     refine r_d rfl rfl rfl (s_load rfl rfl (by exact ty_int) rfl) ?_
     refine r_d rfl rfl rfl (s_cmp rfl rfl rfl rfl) ?_
     refine r_d rfl rfl rfl (s_move rfl rfl) ?_
     refine r_sB 23 rfl hr (fun h23_5 hr => ?_) (fun h23_5 hr => ?_)
     ·
      refine r_skip rfl rfl rfl ?_
      refine r_skip rfl rfl rfl ?_
      refine r_skip rfl rfl rfl ?_
      refine r_d rfl rfl rfl (s_pickT rfl rfl rfl) ?_
      refine r_end ?_
      refine g_condT rfl ?_
      refine g_seq ?_
      refine g_run (by kernel_rfl) [(0, .d)] rfl ?_
      refine r_d rfl rfl rfl (s_assign rfl rfl) ?_
      refine r_end ?_
      obtain rfl := Option.some.inj hr
      refine g_ret Tryz.func31 _ (.cons (resTmp rfl (Wk.refl _)) .nil) ?_
      rfl
     ·
      refine r_d rfl rfl rfl (s_fieldAddr rfl fl_api_Access_1 rfl rfl rfl rfl) ?_
      refine r_d rfl rfl rfl (s_load rfl rfl (by exact ty_int) rfl) ?_
      refine r_d rfl rfl rfl (s_cmp rfl rfl rfl rfl) ?_
      refine r_d rfl rfl rfl (s_pickF rfl rfl rfl) ?_
      refine r_end ?_
      refine g_sB 27 rfl hr (fun h27_6 hr => ?_) (fun h27_6 hr => ?_)
      ·
       refine g_condT rfl ?_
       refine g_seq ?_
       refine g_run (by kernel_rfl) [(0, .d)] rfl ?_
       refine r_d rfl rfl rfl (s_assign rfl rfl) ?_
       refine r_end ?_
       obtain rfl := Option.some.inj hr
       refine g_ret Tryz.func31 _ (.cons (resTmp rfl (Wk.refl _)) .nil) ?_
       rfl
      ·
       refine g_condF rfl ?_
       refine g_skip ?_
       refine g_seq ?_
       refine g_run (by kernel_rfl) [(0, .d)] rfl ?_
       refine r_d rfl rfl rfl (s_assign rfl rfl) ?_
       refine r_end ?_
       obtain ⟨kk1, hkk1, hr⟩ := exK (fun k => lf_constraintref32_access_L1 k q_2 q_2.f2_Positions 0) hr
       refine g_lenP 14 [2] (l := q_2.f2_Positions.map (D.int .i64)) rfl rfl (asl rfl) fun hla1 => ?_
       simp only [List.length_map] at hla1
       refine g_blockJ (fun env σ => env = [(0, .lst (l_a0.map enc_S_api_Access)), (3, .int .i64 (i_1 : Int))] ∧ σ = [] ∧ kk1 = some res) ?_ (fun HK1 => ?_)
       ·
        rintro _ _ ⟨rfl, rfl, hr⟩
        rw [hkk1] at hr
        refine g_inBlock ?_
        refine g_run (by kernel_rfl) [(0, .d), (1, .d), (2, .d)] rfl ?_
        refine r_d rfl rfl rfl (s_move rfl rfl) ?_
        refine r_d rfl rfl rfl (s_ar (r := ((i_1 + 1 : Nat) : Int)) rfl rfl rfl (by simp [iar]) (by omega)) ?_
        refine r_d rfl rfl rfl (s_assign rfl rfl) ?_
        refine r_end ?_
        refine g_sub [(0, .lst (l_a0.map enc_S_api_Access)), (3, .int .i64 ((i_1 + 1 : Nat) : Int))] (Sub.cons' rfl (Sub.cons' rfl (Sub.nil _))) ?_
        exact IH0 _ _ _ (by omega) ⟨(i_1 + 1), rfl, rfl, rfl, (by omega), hr⟩
       ·
        refine g_sub [(0, .lst (l_a0.map enc_S_api_Access)), (3, .int .i64 ((i_1 : Nat) : Int)), (4, .ptr (enc_S_api_Access q_2)), (5, .int .i64 ((0 : Nat) : Int))] (Sub.cons' rfl (Sub.cons' rfl (Sub.cons' rfl (Sub.cons' rfl (Sub.nil _))))) ?_
        refine g_loop (fun n env σ => ∃ (k_8 : Nat), (n = q_2.f2_Positions.length - k_8) ∧ (env = [(0, .lst (l_a0.map enc_S_api_Access)), (3, .int .i64 (i_1 : Int)), (4, .ptr (enc_S_api_Access q_2)), (5, .int .i64 (k_8 : Int))]) ∧ (σ = []) ∧ (k_8 ≤ q_2.f2_Positions.length) ∧ (lf_constraintref32_access_L1 kk1 q_2 (q_2.f2_Positions.drop k_8) k_8 = some res)) _ ⟨0, rfl, rfl, rfl, Nat.zero_le _, hr⟩ ?_
        rintro n _ _ ⟨k_8, rfl, rfl, rfl, hi1, hr⟩ IH1
        rcases listStep q_2.f2_Positions k_8 hi1 with ⟨ht1, hd1, he1⟩ | ⟨q_9, ht1, hd1, hq1, hlt1⟩
        ·
         rw [hd1, lf_constraintref32_access_L1] at hr
         refine g_seq ?_
         refine g_seq ?_
         refine g_run (by kernel_rfl) [(0, .d), (1, .d), (2, .d), (3, .d), (4, .d)] rfl ?_
         refine r_d rfl rfl rfl (s_move rfl rfl) ?_
         refine r_d rfl rfl rfl (s_fieldAddr rfl fl_api_Access_2 rfl rfl rfl rfl) ?_
         refine r_d rfl rfl rfl (s_load rfl rfl (by exact ty_L_int) rfl) ?_
         refine r_d rfl rfl rfl (m_len (f := (D.int .i64)) q_2.f2_Positions rfl el_L_int rfl (asl rfl)) ?_
         refine r_d rfl rfl rfl (s_cmp rfl rfl rfl rfl) ?_
         refine r_end ?_
         refine g_known 32 false rfl ht1 ?_
         refine g_condF rfl ?_
         refine g_exit rfl ?_
         refine g_sub [(0, .lst (l_a0.map enc_S_api_Access)), (3, .int .i64 (i_1 : Int))] (Sub.cons' rfl (Sub.cons' rfl (Sub.nil _))) ?_
         exact HK1 _ _ ⟨rfl, rfl, hr⟩
        ·
         rw [hd1, lf_constraintref32_access_L1] at hr
         refine g_seq ?_
         refine g_seq ?_
         refine g_run (by kernel_rfl) [(0, .d), (1, .d), (2, .d), (3, .d), (4, .d)] rfl ?_
         refine r_d rfl rfl rfl (s_move rfl rfl) ?_
         refine r_d rfl rfl rfl (s_fieldAddr rfl fl_api_Access_2 rfl rfl rfl rfl) ?_
         refine r_d rfl rfl rfl (s_load rfl rfl (by exact ty_L_int) rfl) ?_
         refine r_d rfl rfl rfl (m_len (f := (D.int .i64)) q_2.f2_Positions rfl el_L_int rfl (asl rfl)) ?_
         refine r_d rfl rfl rfl (s_cmp rfl rfl rfl rfl) ?_
         refine r_end ?_
         refine g_known 32 true rfl ht1 ?_
         refine g_condT rfl ?_
         refine g_skip ?_
         refine g_seq ?_
         refine g_block ?_
         refine g_seq ?_
         refine g_any (by kernel_rfl) (by kernel_rfl) [(0, .d), (1, .d), (2, .d), (3, .d), (4, .d), (5, .d), (6, .d), (7, .d), (8, .d), (9, .d), (10, .d), (11, .d), (12, .d), (13, .d), (14, .d), (15, .d), (16, .d), (17, .d), (18, .d), (19, .d), (20, .d), (21, .d), (22, .d), (23, .d), (24, .d), (25, .d), (26, .d), (27, .d), (28, .d), (29, .d), (30, .d), (31, .d), (32, .d), (33, .d)] (by kernel_rfl) ?_
         refine r_d rfl rfl rfl (s_fieldAddr rfl fl_api_Access_2 rfl rfl rfl rfl) ?_
         refine r_d rfl rfl rfl (s_load rfl rfl (by exact ty_L_int) rfl) ?_
         refine r_d rfl rfl rfl (s_move rfl rfl) ?_
         refine r_d rfl rfl rfl (m_index (f := (D.int .i64)) q_2.f2_Positions rfl el_L_int rfl (asl rfl) rfl hq1 (fun _ => rfl) rfl) ?_
         refine r_d rfl rfl rfl (s_load rfl rfl (by exact ty_int) rfl) ?_
         refine r_d rfl rfl rfl (s_cmp rfl rfl rfl rfl) ?_
         refine r_d rfl rfl rfl (s_move rfl rfl) ?_
         refine r_sB 41 rfl hr (fun h41_9 hr => ?_) (fun h41_9 hr => ?_)
         ·
          refine r_skip rfl rfl rfl ?_
          refine r_skip rfl rfl rfl ?_
          refine r_skip rfl rfl rfl ?_
          refine r_skip rfl rfl rfl ?_
          refine r_skip rfl rfl rfl ?_
          refine r_skip rfl rfl rfl ?_
          refine r_skip rfl rfl rfl ?_
          refine r_skip rfl rfl rfl ?_
          refine r_d rfl rfl rfl (s_pickT rfl rfl rfl) ?_
          refine r_d rfl rfl rfl (s_move rfl rfl) ?_
          refine r_skip rfl rfl rfl ?_
          refine r_skip rfl rfl rfl ?_
          refine r_skip rfl rfl rfl ?_
          refine r_skip rfl rfl rfl ?_
          refine r_skip rfl rfl rfl ?_
          refine r_skip rfl rfl rfl ?_
          refine r_skip rfl rfl rfl ?_
          refine r_skip rfl rfl rfl ?_
          refine r_skip rfl rfl rfl ?_
          refine r_skip rfl rfl rfl ?_
          refine r_skip rfl rfl rfl ?_
          refine r_skip rfl rfl rfl ?_
          refine r_skip rfl rfl rfl ?_
          refine r_skip rfl rfl rfl ?_
          refine r_skip rfl rfl rfl ?_
          refine r_skip rfl rfl rfl ?_
          refine r_d rfl rfl rfl (s_pickT rfl rfl rfl) ?_
          refine r_end ?_
          refine g_condT rfl ?_
          refine g_seq ?_
          refine g_run (by kernel_rfl) [(0, .d)] rfl ?_
          refine r_d rfl rfl rfl (s_assign rfl rfl) ?_
          refine r_end ?_
          obtain rfl := Option.some.inj hr
          refine g_ret Tryz.func31 _ (.cons (resTmp rfl (Wk.refl _)) .nil) ?_
          rfl
         ·
          refine r_d rfl rfl rfl (s_fieldAddr rfl fl_api_Access_2 rfl rfl rfl rfl) ?_
          refine r_d rfl rfl rfl (s_load rfl rfl (by exact ty_L_int) rfl) ?_
          refine r_d rfl rfl rfl (s_move rfl rfl) ?_
          refine r_d rfl rfl rfl (m_index (f := (D.int .i64)) q_2.f2_Positions rfl el_L_int rfl (asl rfl) rfl hq1 (fun _ => rfl) rfl) ?_
          refine r_d rfl rfl rfl (s_load rfl rfl (by exact ty_int) rfl) ?_
          refine r_d rfl rfl rfl (s_fieldAddr rfl fl_api_Access_1 rfl rfl rfl rfl) ?_
          refine r_d rfl rfl rfl (s_load rfl rfl (by exact ty_int) rfl) ?_
          refine r_d rfl rfl rfl (s_cmp rfl rfl rfl rfl) ?_
          refine r_d rfl rfl rfl (s_pickF rfl rfl rfl) ?_
          refine r_d rfl rfl rfl (s_move rfl rfl) ?_
          refine r_sB 51 rfl hr (fun h51_10 hr => ?_) (fun h51_10 hr => ?_)
          ·
           refine r_skip rfl rfl rfl ?_
           refine r_skip rfl rfl rfl ?_
           refine r_skip rfl rfl rfl ?_
           refine r_skip rfl rfl rfl ?_
           refine r_skip rfl rfl rfl ?_
           refine r_skip rfl rfl rfl ?_
           refine r_skip rfl rfl rfl ?_
           refine r_skip rfl rfl rfl ?_
           refine r_skip rfl rfl rfl ?_
           refine r_skip rfl rfl rfl ?_
           refine r_skip rfl rfl rfl ?_
           refine r_skip rfl rfl rfl ?_
           refine r_skip rfl rfl rfl ?_
           refine r_skip rfl rfl rfl ?_
           refine r_skip rfl rfl rfl ?_
           refine r_skip rfl rfl rfl ?_
           refine r_d rfl rfl rfl (s_pickT rfl rfl rfl) ?_
           refine r_end ?_
           refine g_condT rfl ?_
           refine g_seq ?_
           refine g_run (by kernel_rfl) [(0, .d)] rfl ?_
           refine r_d rfl rfl rfl (s_assign rfl rfl) ?_
           refine r_end ?_
           obtain rfl := Option.some.inj hr
           refine g_ret Tryz.func31 _ (.cons (resTmp rfl (Wk.refl _)) .nil) ?_
           rfl
          ·
           refine r_d rfl rfl rfl (s_move rfl rfl) ?_
           refine r_d rfl rfl rfl (s_cmp rfl rfl rfl rfl) ?_
           refine r_d rfl rfl rfl (s_move rfl rfl) ?_
           refine r_sB 54 rfl hr (fun h54_11 hr => ?_) (fun h54_11 hr => ?_)
           ·
            refine r_d rfl rfl rfl (s_fieldAddr rfl fl_api_Access_2 rfl rfl rfl rfl) ?_
            refine r_d rfl rfl rfl (s_load rfl rfl (by exact ty_L_int) rfl) ?_
            refine r_d rfl rfl rfl (s_move rfl rfl) ?_
            refine r_d rfl rfl rfl (m_index (f := (D.int .i64)) q_2.f2_Positions rfl el_L_int rfl (asl rfl) rfl hq1 (fun _ => rfl) rfl) ?_
            refine r_d rfl rfl rfl (s_load rfl rfl (by exact ty_int) rfl) ?_
            refine r_d rfl rfl rfl (s_fieldAddr rfl fl_api_Access_2 rfl rfl rfl rfl) ?_
            refine r_d rfl rfl rfl (s_load rfl rfl (by exact ty_L_int) rfl) ?_
            refine r_d rfl rfl rfl (s_move rfl rfl) ?_
            refine r_d rfl rfl rfl (s_arW rfl rfl rfl rfl) ?_
            obtain ⟨q_13, hq_13, hr⟩ := bindS hr
            refine r_d rfl rfl rfl (m_index (f := (D.int .i64)) q_2.f2_Positions rfl el_L_int rfl (asl rfl) rfl hq_13 (fun _ => rfl) rfl) ?_
            refine r_d rfl rfl rfl (s_load rfl rfl (by exact ty_int) rfl) ?_
            refine r_d rfl rfl rfl (s_cmp rfl rfl rfl rfl) ?_
            refine r_d rfl rfl rfl (s_pickT rfl rfl rfl) ?_
            refine r_d rfl rfl rfl (s_pickF rfl rfl rfl) ?_
            refine r_end ?_
            refine g_sB 68 rfl hr (fun h68_13 hr => ?_) (fun h68_13 hr => ?_)
            ·
             refine g_condT rfl ?_
             refine g_seq ?_
             refine g_run (by kernel_rfl) [(0, .d)] rfl ?_
             refine r_d rfl rfl rfl (s_assign rfl rfl) ?_
             refine r_end ?_
             obtain rfl := Option.some.inj hr
             refine g_ret Tryz.func31 _ (.cons (resTmp rfl (Wk.refl _)) .nil) ?_
             rfl
            ·
             refine g_condF rfl ?_
             refine g_skip ?_
             refine g_inBlock ?_
             refine g_run (by kernel_rfl) [(0, .d), (1, .d), (2, .d)] rfl ?_
             refine r_d rfl rfl rfl (s_move rfl rfl) ?_
             refine r_d rfl rfl rfl (s_ar (r := ((k_8 + 1 : Nat) : Int)) rfl rfl rfl (by simp [iar]) (by omega)) ?_
             refine r_d rfl rfl rfl (s_assign rfl rfl) ?_
             refine r_end ?_
             refine g_sub [(0, .lst (l_a0.map enc_S_api_Access)), (3, .int .i64 ((i_1 : Nat) : Int)), (4, .ptr (enc_S_api_Access q_2)), (5, .int .i64 ((k_8 + 1 : Nat) : Int))] (Sub.cons' rfl (Sub.cons' rfl (Sub.cons' rfl (Sub.cons' rfl (Sub.nil _))))) ?_
             exact IH1 _ _ _ (by omega) ⟨(k_8 + 1), rfl, rfl, rfl, (by omega), hr⟩
           ·
            refine r_skip rfl rfl rfl ?_
            refine r_skip rfl rfl rfl ?_
            refine r_skip rfl rfl rfl ?_
            refine r_skip rfl rfl rfl ?_
            refine r_skip rfl rfl rfl ?_
            refine r_skip rfl rfl rfl ?_
            refine r_skip rfl rfl rfl ?_
            refine r_skip rfl rfl rfl ?_
            refine r_skip rfl rfl rfl ?_
            refine r_skip rfl rfl rfl ?_
            refine r_skip rfl rfl rfl ?_
            refine r_skip rfl rfl rfl ?_
            refine r_d rfl rfl rfl (s_pickF rfl rfl rfl) ?_
            refine r_d rfl rfl rfl (s_pickF rfl rfl rfl) ?_
            refine r_end ?_
            refine g_condF rfl ?_
            refine g_skip ?_
            refine g_inBlock ?_
            refine g_run (by kernel_rfl) [(0, .d), (1, .d), (2, .d)] rfl ?_
            refine r_d rfl rfl rfl (s_move rfl rfl) ?_
            refine r_d rfl rfl rfl (s_ar (r := ((k_8 + 1 : Nat) : Int)) rfl rfl rfl (by simp [iar]) (by omega)) ?_
            refine r_d rfl rfl rfl (s_assign rfl rfl) ?_
            refine r_end ?_
            refine g_sub [(0, .lst (l_a0.map enc_S_api_Access)), (3, .int .i64 ((i_1 : Nat) : Int)), (4, .ptr (enc_S_api_Access q_2)), (5, .int .i64 ((k_8 + 1 : Nat) : Int))] (Sub.cons' rfl (Sub.cons' rfl (Sub.cons' rfl (Sub.cons' rfl (Sub.nil _))))) ?_
            exact IH1 _ _ _ (by omega) ⟨(k_8 + 1), rfl, rfl, rfl, (by omega), hr⟩

noncomputable def lf_constraintref32_Unit_L0 (k : Option (Bool)) (arity_a2 : Int) (name_a1 : ByteArray) : List S_api_Unit → Option (Bool)
  | [] =>
  k
  | q_2 :: rest =>
  (bif (q_2.f0_Name.toList == name_a1.toList) then
  (bif (q_2.f1_Arity == arity_a2) then
  some (true)
  else
  (lf_constraintref32_Unit_L0 k arity_a2 name_a1 rest))
  else
  (lf_constraintref32_Unit_L0 k arity_a2 name_a1 rest))
noncomputable def lf_constraintref32_Unit (l_a0 : (List S_api_Unit)) (name_a1 : ByteArray) (arity_a2 : Int) : Option (Bool) :=
  (lf_constraintref32_Unit_L0 (some (false)) arity_a2 name_a1 l_a0)

set_option maxHeartbeats 1000000 in
theorem lg_constraintref32_Unit (l_a0 : (List S_api_Unit)) (name_a1 : ByteArray) (arity_a2 : Int) (res : Bool) (hr : lf_constraintref32_Unit l_a0 name_a1 arity_a2 = some res) : Gives Tryz.prog 61 [.lst (l_a0.map enc_S_api_Unit), .str name_a1, .int .i64 arity_a2] (.bool res) := by
  unfold lf_constraintref32_Unit at hr
  refine spec_env [(0, .lst (l_a0.map enc_S_api_Unit)), (1, .str name_a1), (2, .int .i64 arity_a2)] Tryz.func61 rfl rfl fun K hK => ?_
  refine g_seq ?_
  refine g_run (by kernel_rfl) [(0, .d)] rfl ?_
  refine r_d rfl rfl rfl (s_assign rfl rfl) ?_
  refine r_end ?_
  refine g_seq ?_
  refine g_seq ?_
  refine g_run (by kernel_rfl) [(0, .d)] rfl ?_
  refine r_d rfl rfl rfl (s_assign rfl rfl) ?_
  refine r_end ?_
  obtain ⟨kk0, hkk0, hr⟩ := exK (fun k => lf_constraintref32_Unit_L0 k arity_a2 name_a1 l_a0) hr
  refine g_len 0 rfl (asl rfl) fun hla0 => ?_
  simp only [List.length_map] at hla0
  refine g_blockJ (fun env σ => env = [] ∧ σ = [] ∧ kk0 = some res) ?_ (fun HK0 => ?_)
  ·
   rintro _ _ ⟨rfl, rfl, hr⟩
   rw [hkk0] at hr
   refine g_seq ?_
   refine g_run (by kernel_rfl) [(0, .d)] rfl ?_
   refine r_d rfl rfl rfl (s_assign rfl rfl) ?_
   refine r_end ?_
   obtain rfl := Option.some.inj hr
   refine g_ret Tryz.func61 _ (.cons (resTmp rfl (Wk.refl _)) .nil) ?_
   rfl
  ·
   refine g_sub [(0, .lst (l_a0.map enc_S_api_Unit)), (1, .str name_a1), (2, .int .i64 arity_a2), (7, .int .i64 ((0 : Nat) : Int))] (Sub.cons' rfl (Sub.cons' rfl (Sub.cons' rfl (Sub.cons' rfl (Sub.nil _))))) ?_
   refine g_loop (fun n env σ => ∃ (i_1 : Nat), (n = l_a0.length - i_1) ∧ (env = [(0, .lst (l_a0.map enc_S_api_Unit)), (1, .str name_a1), (2, .int .i64 arity_a2), (7, .int .i64 (i_1 : Int))]) ∧ (σ = []) ∧ (i_1 ≤ l_a0.length) ∧ (lf_constraintref32_Unit_L0 kk0 arity_a2 name_a1 (l_a0.drop i_1) = some res)) _ ⟨0, rfl, rfl, rfl, Nat.zero_le _, hr⟩ ?_
   rintro n _ _ ⟨i_1, rfl, rfl, rfl, hi0, hr⟩ IH0
   rcases listStep l_a0 i_1 hi0 with ⟨ht0, hd0, he0⟩ | ⟨q_2, ht0, hd0, hq0, hlt0⟩
   ·
    rw [hd0, lf_constraintref32_Unit_L0] at hr
    refine g_seq ?_
    refine g_seq ?_
    refine g_run (by kernel_rfl) [(0, .d), (1, .d), (2, .d), (3, .d)] rfl ?_
    refine r_d rfl rfl rfl (s_move rfl rfl) ?_
    refine r_d rfl rfl rfl (s_move rfl rfl) ?_
    refine r_d rfl rfl rfl (m_len (f := enc_S_api_Unit) l_a0 rfl el_L_api_Unit rfl (asl rfl)) ?_
    refine r_d rfl rfl rfl (s_cmp rfl rfl rfl rfl) ?_
    refine r_end ?_
    refine g_known 11 false rfl ht0 ?_
    refine g_condF rfl ?_
    refine g_exit rfl ?_
    refine g_sub [] (Sub.nil _) ?_
    exact HK0 _ _ ⟨rfl, rfl, hr⟩
   ·
    rw [hd0, lf_constraintref32_Unit_L0] at hr
    refine g_seq ?_
    refine g_seq ?_
    refine g_run (by kernel_rfl) [(0, .d), (1, .d), (2, .d), (3, .d)] rfl ?_
    refine r_d rfl rfl rfl (s_move rfl rfl) ?_
    refine r_d rfl rfl rfl (s_move rfl rfl) ?_
    refine r_d rfl rfl rfl (m_len (f := enc_S_api_Unit) l_a0 rfl el_L_api_Unit rfl (asl rfl)) ?_
    refine r_d rfl rfl rfl (s_cmp rfl rfl rfl rfl) ?_
    refine r_end ?_
    refine g_known 11 true rfl ht0 ?_
    refine g_condT rfl ?_
    refine g_skip ?_
    refine g_seq ?_
    refine g_block ?_
    refine g_seq ?_
    refine g_run (by kernel_rfl) [(0, .d), (1, .d), (2, .d), (3, .d), (4, .d), (5, .d), (6, .d), (7, .d), (8, .d), (9, .d), (10, .d), (11, .d), (12, .d), (13, .d), (14, .d), (15, .d)] rfl ?_
    refine r_d rfl rfl rfl (s_move rfl rfl) ?_
    refine r_d rfl rfl rfl (s_move rfl rfl) ?_
    refine r_d rfl rfl rfl (m_index (f := enc_S_api_Unit) l_a0 rfl el_L_api_Unit rfl (asl rfl) rfl hq0 sz_S_api_Unit rfl) ?_
    refine r_d rfl rfl rfl (s_fieldAddr rfl fl_api_Unit_0 rfl rfl rfl rfl) ?_
    refine r_d rfl rfl rfl (s_load rfl rfl (by exact ty_string) rfl) ?_
    refine r_d rfl rfl rfl (s_move rfl rfl) ?_
    refine r_d rfl rfl rfl (s_cmpS rfl rfl rfl rfl) ?_
    refine r_d rfl rfl rfl (s_move rfl rfl) ?_
    refine r_sB 21 rfl hr (fun h21_2 hr => ?_) (fun h21_2 hr => ?_)
    ·
     refine r_d rfl rfl rfl (s_move rfl rfl) ?_
     refine r_d rfl rfl rfl (s_move rfl rfl) ?_
     refine r_d rfl rfl rfl (m_index (f := enc_S_api_Unit) l_a0 rfl el_L_api_Unit rfl (asl rfl) rfl hq0 sz_S_api_Unit rfl) ?_
     refine r_d rfl rfl rfl (s_fieldAddr rfl fl_api_Unit_1 rfl rfl rfl rfl) ?_
     refine r_d rfl rfl rfl (s_load rfl rfl (by exact ty_int) rfl) ?_
     refine r_d rfl rfl rfl (s_move rfl rfl) ?_
     refine r_d rfl rfl rfl (s_cmp rfl rfl rfl rfl) ?_
     refine r_d rfl rfl rfl (s_pickT rfl rfl rfl) ?_
     refine r_end ?_
     refine g_sB 29 rfl hr (fun h29_3 hr => ?_) (fun h29_3 hr => ?_)
     ·
      refine g_condT rfl ?_
      refine g_seq ?_
      refine g_run (by kernel_rfl) [(0, .d)] rfl ?_
      refine r_d rfl rfl rfl (s_assign rfl rfl) ?_
      refine r_end ?_
      obtain rfl := Option.some.inj hr
      refine g_ret Tryz.func61 _ (.cons (resTmp rfl (Wk.refl _)) .nil) ?_
      rfl
     ·
      refine g_condF rfl ?_
      refine g_skip ?_
      refine g_inBlock ?_
      refine g_run (by kernel_rfl) [(0, .d), (1, .d), (2, .d)] rfl ?_
      refine r_d rfl rfl rfl (s_move rfl rfl) ?_
      refine r_d rfl rfl rfl (s_ar (r := ((i_1 + 1 : Nat) : Int)) rfl rfl rfl (by simp [iar]) (by omega)) ?_
      refine r_d rfl rfl rfl (s_assign rfl rfl) ?_
      refine r_end ?_
      refine g_sub [(0, .lst (l_a0.map enc_S_api_Unit)), (1, .str name_a1), (2, .int .i64 arity_a2), (7, .int .i64 ((i_1 + 1 : Nat) : Int))] (Sub.cons' rfl (Sub.cons' rfl (Sub.cons' rfl (Sub.cons' rfl (Sub.nil _))))) ?_
      exact IH0 _ _ _ (by omega) ⟨(i_1 + 1), rfl, rfl, rfl, (by omega), hr⟩
    ·
     refine r_skip rfl rfl rfl ?_
     refine r_skip rfl rfl rfl ?_
     refine r_skip rfl rfl rfl ?_
     refine r_skip rfl rfl rfl ?_
     refine r_skip rfl rfl rfl ?_
     refine r_skip rfl rfl rfl ?_
     refine r_skip rfl rfl rfl ?_
     refine r_d rfl rfl rfl (s_pickF rfl rfl rfl) ?_
     refine r_end ?_
     refine g_condF rfl ?_
     refine g_skip ?_
     refine g_inBlock ?_
     refine g_run (by kernel_rfl) [(0, .d), (1, .d), (2, .d)] rfl ?_
     refine r_d rfl rfl rfl (s_move rfl rfl) ?_
     refine r_d rfl rfl rfl (s_ar (r := ((i_1 + 1 : Nat) : Int)) rfl rfl rfl (by simp [iar]) (by omega)) ?_
     refine r_d rfl rfl rfl (s_assign rfl rfl) ?_
     refine r_end ?_
     refine g_sub [(0, .lst (l_a0.map enc_S_api_Unit)), (1, .str name_a1), (2, .int .i64 arity_a2), (7, .int .i64 ((i_1 + 1 : Nat) : Int))] (Sub.cons' rfl (Sub.cons' rfl (Sub.cons' rfl (Sub.cons' rfl (Sub.nil _))))) ?_
     exact IH0 _ _ _ (by omega) ⟨(i_1 + 1), rfl, rfl, rfl, (by omega), hr⟩

noncomputable def lf_constraintref32_units_L0 (k : Option (Int)) (l_a0 : (List S_api_Unit)) : List S_api_Unit → Nat → Option (Int)
  | [], i_1 =>
  k
  | q_2 :: rest, i_1 =>
  ((x_isNameR q_2.f0_Name).bind fun r_3 =>
  (bif (!r_3) then
  some (7)
  else
  (bif (decide (q_2.f1_Arity < (0 : Int))) then
  some (9)
  else
  (bif (decide (q_2.f1_Arity > (6 : Int))) then
  some (9)
  else
  ((subO l_a0 0 (i_1 : Int)).bind fun l_7 =>
  ((lf_constraintref32_Unit l_7 q_2.f0_Name q_2.f1_Arity).bind fun r_8 =>
  (bif r_8 then
  some (8)
  else
  (bif (decide (q_2.f4_Late < (0 : Int))) then
  some (5)
  else
  (bif (decide (q_2.f4_Late > (q_2.f2_Blocks.length : Int))) then
  some (5)
  else
  (lf_constraintref32_units_L0 k l_a0 rest (i_1 + 1)))))))))))
noncomputable def lf_constraintref32_units (l_a0 : (List S_api_Unit)) : Option (Int) :=
  (lf_constraintref32_units_L0 (some (0)) l_a0 l_a0 0)

set_option maxHeartbeats 1000000 in
theorem lg_constraintref32_units (l_a0 : (List S_api_Unit)) (res : Int) (hr : lf_constraintref32_units l_a0 = some res) : Gives Tryz.prog 32 [.lst (l_a0.map enc_S_api_Unit)] (.int .i64 res) := by
  unfold lf_constraintref32_units at hr
  refine spec_env [(0, .lst (l_a0.map enc_S_api_Unit))] Tryz.func32 rfl rfl fun K hK => ?_
  refine g_seq ?_
  refine g_run (by kernel_rfl) [(0, .d)] rfl ?_
  refine r_d rfl rfl rfl (s_assign rfl rfl) ?_
  refine r_end ?_
  refine g_seq ?_
  refine g_seq ?_
  refine g_run (by kernel_rfl) [(0, .d)] rfl ?_
  refine r_d rfl rfl rfl (s_assign rfl rfl) ?_
  refine r_end ?_
  obtain ⟨kk0, hkk0, hr⟩ := exK (fun k => lf_constraintref32_units_L0 k l_a0 l_a0 0) hr
  refine g_len 0 rfl (asl rfl) fun hla0 => ?_
  simp only [List.length_map] at hla0
  refine g_blockJ (fun env σ => env = [] ∧ σ = [] ∧ kk0 = some res) ?_ (fun HK0 => ?_)
  ·
   rintro _ _ ⟨rfl, rfl, hr⟩
   rw [hkk0] at hr
   refine g_seq ?_
   refine g_run (by kernel_rfl) [(0, .d)] rfl ?_
   refine r_d rfl rfl rfl (s_assign rfl rfl) ?_
   refine r_end ?_
   obtain rfl := Option.some.inj hr
   refine g_ret Tryz.func32 _ (.cons (resTmp rfl (Wk.refl _)) .nil) ?_
   rfl
  ·
   refine g_sub [(0, .lst (l_a0.map enc_S_api_Unit)), (3, .int .i64 ((0 : Nat) : Int))] (Sub.cons' rfl (Sub.cons' rfl (Sub.nil _))) ?_
   refine g_loop (fun n env σ => ∃ (i_1 : Nat), (n = l_a0.length - i_1) ∧ (env = [(0, .lst (l_a0.map enc_S_api_Unit)), (3, .int .i64 (i_1 : Int))]) ∧ (σ = []) ∧ (i_1 ≤ l_a0.length) ∧ (lf_constraintref32_units_L0 kk0 l_a0 (l_a0.drop i_1) i_1 = some res)) _ ⟨0, rfl, rfl, rfl, Nat.zero_le _, hr⟩ ?_
   rintro n _ _ ⟨i_1, rfl, rfl, rfl, hi0, hr⟩ IH0
   rcases listStep l_a0 i_1 hi0 with ⟨ht0, hd0, he0⟩ | ⟨q_2, ht0, hd0, hq0, hlt0⟩
   ·
    rw [hd0, lf_constraintref32_units_L0] at hr
    refine g_seq ?_
    refine g_seq ?_
    refine g_run (by kernel_rfl) [(0, .d), (1, .d), (2, .d), (3, .d)] rfl ?_
    refine r_d rfl rfl rfl (s_move rfl rfl) ?_
    refine r_d rfl rfl rfl (s_move rfl rfl) ?_
    refine r_d rfl rfl rfl (m_len (f := enc_S_api_Unit) l_a0 rfl el_L_api_Unit rfl (asl rfl)) ?_
    refine r_d rfl rfl rfl (s_cmp rfl rfl rfl rfl) ?_
    refine r_end ?_
    refine g_known 7 false rfl ht0 ?_
    refine g_condF rfl ?_
    refine g_exit rfl ?_
    refine g_sub [] (Sub.nil _) ?_
    exact HK0 _ _ ⟨rfl, rfl, hr⟩
   ·
    rw [hd0, lf_constraintref32_units_L0] at hr
    refine g_seq ?_
    refine g_seq ?_
    refine g_run (by kernel_rfl) [(0, .d), (1, .d), (2, .d), (3, .d)] rfl ?_
    refine r_d rfl rfl rfl (s_move rfl rfl) ?_
    refine r_d rfl rfl rfl (s_move rfl rfl) ?_
    refine r_d rfl rfl rfl (m_len (f := enc_S_api_Unit) l_a0 rfl el_L_api_Unit rfl (asl rfl)) ?_
    refine r_d rfl rfl rfl (s_cmp rfl rfl rfl rfl) ?_
    refine r_end ?_
    refine g_known 7 true rfl ht0 ?_
    refine g_condT rfl ?_
    refine g_skip ?_
    refine g_seq ?_
    refine g_block ?_
    refine g_block ?_
    refine g_seq ?_
    refine g_run (by kernel_rfl) [(0, .d), (1, .d), (2, .d), (3, .d), (4, .d), (5, .d), (6, .d), (7, .d)] rfl ?_
    refine r_d rfl rfl rfl (s_move rfl rfl) ?_
    refine r_d rfl rfl rfl (s_move rfl rfl) ?_
    refine r_d rfl rfl rfl (m_index (f := enc_S_api_Unit) l_a0 rfl el_L_api_Unit rfl (asl rfl) rfl hq0 sz_S_api_Unit rfl) ?_
    refine r_d rfl rfl rfl (s_fieldAddr rfl fl_api_Unit_0 rfl rfl rfl rfl) ?_
    refine r_d rfl rfl rfl (s_load rfl rfl (by exact ty_string) rfl) ?_
    obtain ⟨r_3, hr_3, hr⟩ := bindS hr
    refine r_d rfl rfl rfl (s_callD rfl cl_constraintref02_Right (.cons rfl (Wk.refl _) .nil) (lx_constraintref02_Right _ _ hr_3)) ?_
    refine r_d rfl rfl rfl (s_not rfl rfl) ?_
    refine r_d rfl rfl rfl (s_assign rfl rfl) ?_
    refine r_end ?_
    refine g_sB 10 rfl hr (fun h10_3 hr => ?_) (fun h10_3 hr => ?_)
    ·
     refine g_condT rfl ?_
     refine g_seq ?_
     refine g_run (by kernel_rfl) [(0, .d)] rfl ?_
     refine r_d rfl rfl rfl (s_assign rfl rfl) ?_
     refine r_end ?_
     obtain rfl := Option.some.inj hr
     refine g_ret Tryz.func32 _ (.cons (resTmp rfl (Wk.refl _)) .nil) ?_
     rfl
    ·
     refine g_condF rfl ?_
     refine g_seq ?_
     refine g_run (by kernel_rfl) [(0, .d), (1, .d), (2, .d), (3, .d), (4, .d), (5, .d), (6, .d), (7, .d), (8, .d), (9, .d), (10, .d), (11, .d), (12, .d), (13, .d), (14, .d)] rfl ?_
     refine r_d rfl rfl rfl (s_move rfl rfl) ?_
     refine r_d rfl rfl rfl (s_move rfl rfl) ?_
     refine r_d rfl rfl rfl (m_index (f := enc_S_api_Unit) l_a0 rfl el_L_api_Unit rfl (asl rfl) rfl hq0 sz_S_api_Unit rfl) ?_
     refine r_d rfl rfl rfl (s_fieldAddr rfl fl_api_Unit_1 rfl rfl rfl rfl) ?_
     refine r_d rfl rfl rfl (s_load rfl rfl (by exact ty_int) rfl) ?_
     refine r_d rfl rfl rfl (s_cmp rfl rfl rfl rfl) ?_
     refine r_d rfl rfl rfl (s_move rfl rfl) ?_
     refine r_sB 25 rfl hr (fun h25_4 hr => ?_) (fun h25_4 hr => ?_)
     ·
      refine r_skip rfl rfl rfl ?_
      refine r_skip rfl rfl rfl ?_
      refine r_skip rfl rfl rfl ?_
      refine r_skip rfl rfl rfl ?_
      refine r_skip rfl rfl rfl ?_
      refine r_skip rfl rfl rfl ?_
      refine r_d rfl rfl rfl (s_pickT rfl rfl rfl) ?_
      refine r_d rfl rfl rfl (s_assign rfl rfl) ?_
      refine r_end ?_
      refine g_condT rfl ?_
      refine g_seq ?_
      refine g_run (by kernel_rfl) [(0, .d)] rfl ?_
      refine r_d rfl rfl rfl (s_assign rfl rfl) ?_
      refine r_end ?_
      obtain rfl := Option.some.inj hr
      refine g_ret Tryz.func32 _ (.cons (resTmp rfl (Wk.refl _)) .nil) ?_
      rfl
     ·
      refine r_d rfl rfl rfl (s_move rfl rfl) ?_
      refine r_d rfl rfl rfl (s_move rfl rfl) ?_
      refine r_d rfl rfl rfl (m_index (f := enc_S_api_Unit) l_a0 rfl el_L_api_Unit rfl (asl rfl) rfl hq0 sz_S_api_Unit rfl) ?_
      refine r_d rfl rfl rfl (s_fieldAddr rfl fl_api_Unit_1 rfl rfl rfl rfl) ?_
      refine r_d rfl rfl rfl (s_load rfl rfl (by exact ty_int) rfl) ?_
      refine r_d rfl rfl rfl (s_cmp rfl rfl rfl rfl) ?_
      refine r_d rfl rfl rfl (s_pickF rfl rfl rfl) ?_
      refine r_d rfl rfl rfl (s_assign rfl rfl) ?_
      refine r_end ?_
      refine g_sB 18 rfl hr (fun h18_5 hr => ?_) (fun h18_5 hr => ?_)
      ·
       refine g_condT rfl ?_
       refine g_seq ?_
       refine g_run (by kernel_rfl) [(0, .d)] rfl ?_
       refine r_d rfl rfl rfl (s_assign rfl rfl) ?_
       refine r_end ?_
       obtain rfl := Option.some.inj hr
       refine g_ret Tryz.func32 _ (.cons (resTmp rfl (Wk.refl _)) .nil) ?_
       rfl
      ·
       refine g_condF rfl ?_
       refine g_seq ?_
       refine g_any (by kernel_rfl) (by kernel_rfl) [(0, .d), (1, .d), (2, .d), (3, .d), (4, .d), (5, .d), (6, .d), (7, .d), (8, .d), (9, .d), (10, .d), (11, .d), (12, .d), (13, .d), (14, .d)] (by kernel_rfl) ?_
       refine r_d rfl rfl rfl (s_move rfl rfl) ?_
       refine r_d rfl rfl rfl (s_move rfl rfl) ?_
       obtain ⟨l_7, hl_7, hr⟩ := bindS hr
       refine r_d rfl rfl rfl (m_sub (f := enc_S_api_Unit) l_a0 0 (i_1 : Int) rfl el_L_api_Unit rfl (asl rfl) bl_none (bh_some rfl) sz_S_api_Unit hl_7) ?_
       refine r_d rfl rfl rfl (s_move rfl rfl) ?_
       refine r_d rfl rfl rfl (s_move rfl rfl) ?_
       refine r_d rfl rfl rfl (m_index (f := enc_S_api_Unit) l_a0 rfl el_L_api_Unit rfl (asl rfl) rfl hq0 sz_S_api_Unit rfl) ?_
       refine r_d rfl rfl rfl (s_fieldAddr rfl fl_api_Unit_0 rfl rfl rfl rfl) ?_
       refine r_d rfl rfl rfl (s_load rfl rfl (by exact ty_string) rfl) ?_
       refine r_d rfl rfl rfl (s_move rfl rfl) ?_
       refine r_d rfl rfl rfl (s_move rfl rfl) ?_
       refine r_d rfl rfl rfl (m_index (f := enc_S_api_Unit) l_a0 rfl el_L_api_Unit rfl (asl rfl) rfl hq0 sz_S_api_Unit rfl) ?_
       refine r_d rfl rfl rfl (s_fieldAddr rfl fl_api_Unit_1 rfl rfl rfl rfl) ?_
       refine r_d rfl rfl rfl (s_load rfl rfl (by exact ty_int) rfl) ?_
       obtain ⟨r_8, hr_8, hr⟩ := bindS hr
       refine r_d rfl rfl rfl (s_callD rfl cl_constraintref32_Unit (.cons rfl (Wk.refl _) (.cons rfl (Wk.refl _) (.cons rfl (Wk.refl _) .nil))) (lg_constraintref32_Unit _ _ _ _ hr_8)) ?_
       refine r_d rfl rfl rfl (s_assign rfl rfl) ?_
       refine r_end ?_
       refine g_sB 33 rfl hr (fun h33_8 hr => ?_) (fun h33_8 hr => ?_)
       ·
        refine g_condT rfl ?_
        refine g_seq ?_
        refine g_run (by kernel_rfl) [(0, .d)] rfl ?_
        refine r_d rfl rfl rfl (s_assign rfl rfl) ?_
        refine r_end ?_
        obtain rfl := Option.some.inj hr
        refine g_ret Tryz.func32 _ (.cons (resTmp rfl (Wk.refl _)) .nil) ?_
        rfl
       ·
        refine g_condF rfl ?_
        refine g_seq ?_
        refine g_any (by kernel_rfl) (by kernel_rfl) [(0, .d), (1, .d), (2, .d), (3, .d), (4, .d), (5, .d), (6, .d), (7, .d), (8, .d), (9, .d), (10, .d), (11, .d), (12, .d), (13, .d), (14, .d), (15, .d), (16, .d), (17, .d), (18, .d), (19, .d), (20, .d)] (by kernel_rfl) ?_
        refine r_d rfl rfl rfl (s_move rfl rfl) ?_
        refine r_d rfl rfl rfl (s_move rfl rfl) ?_
        refine r_d rfl rfl rfl (m_index (f := enc_S_api_Unit) l_a0 rfl el_L_api_Unit rfl (asl rfl) rfl hq0 sz_S_api_Unit rfl) ?_
        refine r_d rfl rfl rfl (s_fieldAddr rfl fl_api_Unit_4 rfl rfl rfl rfl) ?_
        refine r_d rfl rfl rfl (s_load rfl rfl (by exact ty_int) rfl) ?_
        refine r_d rfl rfl rfl (s_cmp rfl rfl rfl rfl) ?_
        refine r_d rfl rfl rfl (s_move rfl rfl) ?_
        refine r_sB 55 rfl hr (fun h55_9 hr => ?_) (fun h55_9 hr => ?_)
        ·
         refine r_skip rfl rfl rfl ?_
         refine r_skip rfl rfl rfl ?_
         refine r_skip rfl rfl rfl ?_
         refine r_skip rfl rfl rfl ?_
         refine r_skip rfl rfl rfl ?_
         refine r_skip rfl rfl rfl ?_
         refine r_skip rfl rfl rfl ?_
         refine r_skip rfl rfl rfl ?_
         refine r_skip rfl rfl rfl ?_
         refine r_skip rfl rfl rfl ?_
         refine r_skip rfl rfl rfl ?_
         refine r_skip rfl rfl rfl ?_
         refine r_d rfl rfl rfl (s_pickT rfl rfl rfl) ?_
         refine r_d rfl rfl rfl (s_assign rfl rfl) ?_
         refine r_end ?_
         refine g_condT rfl ?_
         refine g_seq ?_
         refine g_run (by kernel_rfl) [(0, .d)] rfl ?_
         refine r_d rfl rfl rfl (s_assign rfl rfl) ?_
         refine r_end ?_
         obtain rfl := Option.some.inj hr
         refine g_ret Tryz.func32 _ (.cons (resTmp rfl (Wk.refl _)) .nil) ?_
         rfl
        ·
         refine r_d rfl rfl rfl (s_move rfl rfl) ?_
         refine r_d rfl rfl rfl (s_move rfl rfl) ?_
         refine r_d rfl rfl rfl (m_index (f := enc_S_api_Unit) l_a0 rfl el_L_api_Unit rfl (asl rfl) rfl hq0 sz_S_api_Unit rfl) ?_
         refine r_d rfl rfl rfl (s_fieldAddr rfl fl_api_Unit_4 rfl rfl rfl rfl) ?_
         refine r_d rfl rfl rfl (s_load rfl rfl (by exact ty_int) rfl) ?_
         refine r_d rfl rfl rfl (s_move rfl rfl) ?_
         refine r_d rfl rfl rfl (s_move rfl rfl) ?_
         refine r_d rfl rfl rfl (m_index (f := enc_S_api_Unit) l_a0 rfl el_L_api_Unit rfl (asl rfl) rfl hq0 sz_S_api_Unit rfl) ?_
         refine r_d rfl rfl rfl (s_fieldAddr rfl fl_api_Unit_2 rfl rfl rfl rfl) ?_
         refine r_d rfl rfl rfl (s_load rfl rfl (by exact ty_L_api_Block) rfl) ?_
         refine r_d rfl rfl rfl (m_len (f := enc_S_api_Block) q_2.f2_Blocks rfl el_L_api_Block rfl (asl rfl)) ?_
         refine r_d rfl rfl rfl (s_cmp rfl rfl rfl rfl) ?_
         refine r_d rfl rfl rfl (s_pickF rfl rfl rfl) ?_
         refine r_d rfl rfl rfl (s_assign rfl rfl) ?_
         refine r_end ?_
         refine g_sB 48 rfl hr (fun h48_10 hr => ?_) (fun h48_10 hr => ?_)
         ·
          refine g_condT rfl ?_
          refine g_seq ?_
          refine g_run (by kernel_rfl) [(0, .d)] rfl ?_
          refine r_d rfl rfl rfl (s_assign rfl rfl) ?_
          refine r_end ?_
          obtain rfl := Option.some.inj hr
          refine g_ret Tryz.func32 _ (.cons (resTmp rfl (Wk.refl _)) .nil) ?_
          rfl
         ·
          refine g_condF rfl ?_
          refine g_skip ?_
          refine g_inBlock ?_
          refine g_inBlock ?_
          refine g_run (by kernel_rfl) [(0, .d), (1, .d), (2, .d)] rfl ?_
          refine r_d rfl rfl rfl (s_move rfl rfl) ?_
          refine r_d rfl rfl rfl (s_ar (r := ((i_1 + 1 : Nat) : Int)) rfl rfl rfl (by simp [iar]) (by omega)) ?_
          refine r_d rfl rfl rfl (s_assign rfl rfl) ?_
          refine r_end ?_
          refine g_sub [(0, .lst (l_a0.map enc_S_api_Unit)), (3, .int .i64 ((i_1 + 1 : Nat) : Int))] (Sub.cons' rfl (Sub.cons' rfl (Sub.nil _))) ?_
          exact IH0 _ _ _ (by omega) ⟨(i_1 + 1), rfl, rfl, rfl, (by omega), hr⟩

noncomputable def lf_constraintref32_apart_L0 (k : Option (Bool)) (a_a1 : Int) (b_a2 : Int) : List S_api_Instr → Option (Bool)
  | [] =>
  k
  | q_2 :: rest =>
  (bif (q_2.f0_Op == (4 : Int)) then
  (bif (q_2.f1_A == a_a1) then
  (bif (q_2.f2_B == b_a2) then
  some (true)
  else
  (bif (q_2.f1_A == b_a2) then
  (bif (q_2.f2_B == a_a1) then
  some (true)
  else
  (lf_constraintref32_apart_L0 k a_a1 b_a2 rest))
  else
  (lf_constraintref32_apart_L0 k a_a1 b_a2 rest)))
  else
  (bif (q_2.f1_A == b_a2) then
  (bif (q_2.f2_B == a_a1) then
  some (true)
  else
  (lf_constraintref32_apart_L0 k a_a1 b_a2 rest))
  else
  (lf_constraintref32_apart_L0 k a_a1 b_a2 rest)))
  else
  (lf_constraintref32_apart_L0 k a_a1 b_a2 rest))
noncomputable def lf_constraintref32_apart (code_a0 : (List S_api_Instr)) (a_a1 : Int) (b_a2 : Int) : Option (Bool) :=
  (lf_constraintref32_apart_L0 (some (false)) a_a1 b_a2 code_a0)

set_option maxHeartbeats 1000000 in
theorem lg_constraintref32_apart (code_a0 : (List S_api_Instr)) (a_a1 : Int) (b_a2 : Int) (res : Bool) (hr : lf_constraintref32_apart code_a0 a_a1 b_a2 = some res) : Gives Tryz.prog 62 [.lst (code_a0.map enc_S_api_Instr), .int .i64 a_a1, .int .i64 b_a2] (.bool res) := by
  unfold lf_constraintref32_apart at hr
  refine spec_env [(0, .lst (code_a0.map enc_S_api_Instr)), (1, .int .i64 a_a1), (2, .int .i64 b_a2)] Tryz.func62 rfl rfl fun K hK => ?_
  refine g_seq ?_
  refine g_run (by kernel_rfl) [(0, .d)] rfl ?_
  refine r_d rfl rfl rfl (s_assign rfl rfl) ?_
  refine r_end ?_
  refine g_seq ?_
  refine g_seq ?_
  refine g_run (by kernel_rfl) [(0, .d)] rfl ?_
  refine r_d rfl rfl rfl (s_assign rfl rfl) ?_
  refine r_end ?_
  obtain ⟨kk0, hkk0, hr⟩ := exK (fun k => lf_constraintref32_apart_L0 k a_a1 b_a2 code_a0) hr
  refine g_len 0 rfl (asl rfl) fun hla0 => ?_
  simp only [List.length_map] at hla0
  refine g_blockJ (fun env σ => env = [] ∧ σ = [] ∧ kk0 = some res) ?_ (fun HK0 => ?_)
  ·
   rintro _ _ ⟨rfl, rfl, hr⟩
   rw [hkk0] at hr
   refine g_seq ?_
   refine g_run (by kernel_rfl) [(0, .d)] rfl ?_
   refine r_d rfl rfl rfl (s_assign rfl rfl) ?_
   refine r_end ?_
   obtain rfl := Option.some.inj hr
   refine g_ret Tryz.func62 _ (.cons (resTmp rfl (Wk.refl _)) .nil) ?_
   rfl
  ·
   refine g_sub [(0, .lst (code_a0.map enc_S_api_Instr)), (1, .int .i64 a_a1), (2, .int .i64 b_a2), (7, .int .i64 ((0 : Nat) : Int))] (Sub.cons' rfl (Sub.cons' rfl (Sub.cons' rfl (Sub.cons' rfl (Sub.nil _))))) ?_
   refine g_loop (fun n env σ => ∃ (i_1 : Nat), (n = code_a0.length - i_1) ∧ (env = [(0, .lst (code_a0.map enc_S_api_Instr)), (1, .int .i64 a_a1), (2, .int .i64 b_a2), (7, .int .i64 (i_1 : Int))]) ∧ (σ = []) ∧ (i_1 ≤ code_a0.length) ∧ (lf_constraintref32_apart_L0 kk0 a_a1 b_a2 (code_a0.drop i_1) = some res)) _ ⟨0, rfl, rfl, rfl, Nat.zero_le _, hr⟩ ?_
   rintro n _ _ ⟨i_1, rfl, rfl, rfl, hi0, hr⟩ IH0
   rcases listStep code_a0 i_1 hi0 with ⟨ht0, hd0, he0⟩ | ⟨q_2, ht0, hd0, hq0, hlt0⟩
   ·
    rw [hd0, lf_constraintref32_apart_L0] at hr
    refine g_seq ?_
    refine g_seq ?_
    refine g_run (by kernel_rfl) [(0, .d), (1, .d), (2, .d), (3, .d)] rfl ?_
    refine r_d rfl rfl rfl (s_move rfl rfl) ?_
    refine r_d rfl rfl rfl (s_move rfl rfl) ?_
    refine r_d rfl rfl rfl (m_len (f := enc_S_api_Instr) code_a0 rfl el_L_api_Instr rfl (asl rfl)) ?_
    refine r_d rfl rfl rfl (s_cmp rfl rfl rfl rfl) ?_
    refine r_end ?_
    refine g_known 12 false rfl ht0 ?_
    refine g_condF rfl ?_
    refine g_exit rfl ?_
    refine g_sub [] (Sub.nil _) ?_
    exact HK0 _ _ ⟨rfl, rfl, hr⟩
   ·
    rw [hd0, lf_constraintref32_apart_L0] at hr
    refine g_seq ?_
    refine g_seq ?_
    refine g_run (by kernel_rfl) [(0, .d), (1, .d), (2, .d), (3, .d)] rfl ?_
    refine r_d rfl rfl rfl (s_move rfl rfl) ?_
    refine r_d rfl rfl rfl (s_move rfl rfl) ?_
    refine r_d rfl rfl rfl (m_len (f := enc_S_api_Instr) code_a0 rfl el_L_api_Instr rfl (asl rfl)) ?_
    refine r_d rfl rfl rfl (s_cmp rfl rfl rfl rfl) ?_
    refine r_end ?_
    refine g_known 12 true rfl ht0 ?_
    refine g_condT rfl ?_
    refine g_skip ?_
    refine g_seq ?_
    refine g_block ?_
    refine g_seq ?_
    refine g_run (by kernel_rfl) [(0, .d), (1, .d), (2, .d), (3, .d), (4, .w), (5, .w)] rfl ?_
    refine r_d rfl rfl rfl (s_move rfl rfl) ?_
    refine r_d rfl rfl rfl (s_move rfl rfl) ?_
    refine r_d rfl rfl rfl (m_index (f := enc_S_api_Instr) code_a0 rfl el_L_api_Instr rfl (asl rfl) rfl hq0 sz_S_api_Instr rfl) ?_
    refine r_d rfl rfl rfl (s_load rfl rfl (by exact ty_api_Instr) (sz_S_api_Instr _)) ?_
    refine r_w rfl rfl rfl (s_alloc rfl zv_api_Instr) ?_
    rintro _ _ ⟨b8_2, rfl, rfl⟩
    refine r_w01 rfl rfl rfl (t_store0 _ rfl rfl rfl (Wk.refl _) (pf0 _) (by exact ty_api_Instr) (sz_S_api_Instr _) (by simp [sz, szs, szs_fsT, sz_encG]) rfl) ?_
    refine r_end ?_
    refine g_freeze 8 b8_2 rfl (pf0 _) ?_
    refine g_seq ?_
    refine g_run (by kernel_rfl) [(0, .d), (1, .d), (2, .d), (3, .d), (4, .d), (5, .d), (6, .d), (7, .d), (8, .d), (9, .d), (10, .d), (11, .d), (12, .d), (13, .d), (14, .d), (15, .d), (16, .d), (17, .d), (18, .d), (19, .d), (20, .d), (21, .d), (22, .d), (23, .d), (24, .d), (25, .d), (26, .d)] rfl ?_
    refine r_d rfl rfl rfl (s_fieldAddr rfl fl_api_Instr_0 rfl rfl rfl rfl) ?_
    refine r_d rfl rfl rfl (s_load rfl rfl (by exact ty_int) rfl) ?_
    refine r_d rfl rfl rfl (s_cmp rfl rfl rfl rfl) ?_
    refine r_d rfl rfl rfl (s_move rfl rfl) ?_
    refine r_sB 22 rfl hr (fun h22_3 hr => ?_) (fun h22_3 hr => ?_)
    ·
     refine r_d rfl rfl rfl (s_fieldAddr rfl fl_api_Instr_1 rfl rfl rfl rfl) ?_
     refine r_d rfl rfl rfl (s_load rfl rfl (by exact ty_int) rfl) ?_
     refine r_d rfl rfl rfl (s_move rfl rfl) ?_
     refine r_d rfl rfl rfl (s_cmp rfl rfl rfl rfl) ?_
     refine r_d rfl rfl rfl (s_move rfl rfl) ?_
     refine r_sB 27 rfl hr (fun h27_4 hr => ?_) (fun h27_4 hr => ?_)
     ·
      refine r_d rfl rfl rfl (s_fieldAddr rfl fl_api_Instr_2 rfl rfl rfl rfl) ?_
      refine r_d rfl rfl rfl (s_load rfl rfl (by exact ty_int) rfl) ?_
      refine r_d rfl rfl rfl (s_move rfl rfl) ?_
      refine r_d rfl rfl rfl (s_cmp rfl rfl rfl rfl) ?_
      refine r_d rfl rfl rfl (s_pickT rfl rfl rfl) ?_
      refine r_d rfl rfl rfl (s_move rfl rfl) ?_
      refine r_sB 33 rfl hr (fun h33_5 hr => ?_) (fun h33_5 hr => ?_)
      ·
       refine r_skip rfl rfl rfl ?_
       refine r_skip rfl rfl rfl ?_
       refine r_skip rfl rfl rfl ?_
       refine r_skip rfl rfl rfl ?_
       refine r_skip rfl rfl rfl ?_
       refine r_skip rfl rfl rfl ?_
       refine r_skip rfl rfl rfl ?_
       refine r_skip rfl rfl rfl ?_
       refine r_skip rfl rfl rfl ?_
       refine r_skip rfl rfl rfl ?_
       refine r_d rfl rfl rfl (s_pickT rfl rfl rfl) ?_
       refine r_d rfl rfl rfl (s_pickT rfl rfl rfl) ?_
       refine r_end ?_
       refine g_condT rfl ?_
       refine g_seq ?_
       refine g_run (by kernel_rfl) [(0, .d)] rfl ?_
       refine r_d rfl rfl rfl (s_assign rfl rfl) ?_
       refine r_end ?_
       obtain rfl := Option.some.inj hr
       refine g_ret Tryz.func62 _ (.cons (resTmp rfl (Wk.refl _)) .nil) ?_
       rfl
      ·
       refine r_d rfl rfl rfl (s_fieldAddr rfl fl_api_Instr_1 rfl rfl rfl rfl) ?_
       refine r_d rfl rfl rfl (s_load rfl rfl (by exact ty_int) rfl) ?_
       refine r_d rfl rfl rfl (s_move rfl rfl) ?_
       refine r_d rfl rfl rfl (s_cmp rfl rfl rfl rfl) ?_
       refine r_d rfl rfl rfl (s_move rfl rfl) ?_
       refine r_sB 38 rfl hr (fun h38_6 hr => ?_) (fun h38_6 hr => ?_)
       ·
        refine r_d rfl rfl rfl (s_fieldAddr rfl fl_api_Instr_2 rfl rfl rfl rfl) ?_
        refine r_d rfl rfl rfl (s_load rfl rfl (by exact ty_int) rfl) ?_
        refine r_d rfl rfl rfl (s_move rfl rfl) ?_
        refine r_d rfl rfl rfl (s_cmp rfl rfl rfl rfl) ?_
        refine r_d rfl rfl rfl (s_pickT rfl rfl rfl) ?_
        refine r_d rfl rfl rfl (s_pickF rfl rfl rfl) ?_
        refine r_d rfl rfl rfl (s_pickT rfl rfl rfl) ?_
        refine r_end ?_
        refine g_sB 45 rfl hr (fun h45_7 hr => ?_) (fun h45_7 hr => ?_)
        ·
         refine g_condT rfl ?_
         refine g_seq ?_
         refine g_run (by kernel_rfl) [(0, .d)] rfl ?_
         refine r_d rfl rfl rfl (s_assign rfl rfl) ?_
         refine r_end ?_
         obtain rfl := Option.some.inj hr
         refine g_ret Tryz.func62 _ (.cons (resTmp rfl (Wk.refl _)) .nil) ?_
         rfl
        ·
         refine g_condF rfl ?_
         refine g_skip ?_
         refine g_inBlock ?_
         refine g_run (by kernel_rfl) [(0, .d), (1, .d), (2, .d)] rfl ?_
         refine r_d rfl rfl rfl (s_move rfl rfl) ?_
         refine r_d rfl rfl rfl (s_ar (r := ((i_1 + 1 : Nat) : Int)) rfl rfl rfl (by simp [iar]) (by omega)) ?_
         refine r_d rfl rfl rfl (s_assign rfl rfl) ?_
         refine r_end ?_
         refine g_sub [(0, .lst (code_a0.map enc_S_api_Instr)), (1, .int .i64 a_a1), (2, .int .i64 b_a2), (7, .int .i64 ((i_1 + 1 : Nat) : Int))] (Sub.cons' rfl (Sub.cons' rfl (Sub.cons' rfl (Sub.cons' rfl (Sub.nil _))))) ?_
         exact IH0 _ _ _ (by omega) ⟨(i_1 + 1), rfl, rfl, rfl, (by omega), hr⟩
       ·
        refine r_skip rfl rfl rfl ?_
        refine r_skip rfl rfl rfl ?_
        refine r_skip rfl rfl rfl ?_
        refine r_skip rfl rfl rfl ?_
        refine r_d rfl rfl rfl (s_pickF rfl rfl rfl) ?_
        refine r_d rfl rfl rfl (s_pickF rfl rfl rfl) ?_
        refine r_d rfl rfl rfl (s_pickT rfl rfl rfl) ?_
        refine r_end ?_
        refine g_condF rfl ?_
        refine g_skip ?_
        refine g_inBlock ?_
        refine g_run (by kernel_rfl) [(0, .d), (1, .d), (2, .d)] rfl ?_
        refine r_d rfl rfl rfl (s_move rfl rfl) ?_
        refine r_d rfl rfl rfl (s_ar (r := ((i_1 + 1 : Nat) : Int)) rfl rfl rfl (by simp [iar]) (by omega)) ?_
        refine r_d rfl rfl rfl (s_assign rfl rfl) ?_
        refine r_end ?_
        refine g_sub [(0, .lst (code_a0.map enc_S_api_Instr)), (1, .int .i64 a_a1), (2, .int .i64 b_a2), (7, .int .i64 ((i_1 + 1 : Nat) : Int))] (Sub.cons' rfl (Sub.cons' rfl (Sub.cons' rfl (Sub.cons' rfl (Sub.nil _))))) ?_
        exact IH0 _ _ _ (by omega) ⟨(i_1 + 1), rfl, rfl, rfl, (by omega), hr⟩
     ·
      refine r_skip rfl rfl rfl ?_
      refine r_skip rfl rfl rfl ?_
      refine r_skip rfl rfl rfl ?_
      refine r_skip rfl rfl rfl ?_
      refine r_d rfl rfl rfl (s_pickF rfl rfl rfl) ?_
      refine r_d rfl rfl rfl (s_move rfl rfl) ?_
      refine r_d rfl rfl rfl (s_fieldAddr rfl fl_api_Instr_1 rfl rfl rfl rfl) ?_
      refine r_d rfl rfl rfl (s_load rfl rfl (by exact ty_int) rfl) ?_
      refine r_d rfl rfl rfl (s_move rfl rfl) ?_
      refine r_d rfl rfl rfl (s_cmp rfl rfl rfl rfl) ?_
      refine r_d rfl rfl rfl (s_move rfl rfl) ?_
      refine r_sB 38 rfl hr (fun h38_8 hr => ?_) (fun h38_8 hr => ?_)
      ·
       refine r_d rfl rfl rfl (s_fieldAddr rfl fl_api_Instr_2 rfl rfl rfl rfl) ?_
       refine r_d rfl rfl rfl (s_load rfl rfl (by exact ty_int) rfl) ?_
       refine r_d rfl rfl rfl (s_move rfl rfl) ?_
       refine r_d rfl rfl rfl (s_cmp rfl rfl rfl rfl) ?_
       refine r_d rfl rfl rfl (s_pickT rfl rfl rfl) ?_
       refine r_d rfl rfl rfl (s_pickF rfl rfl rfl) ?_
       refine r_d rfl rfl rfl (s_pickT rfl rfl rfl) ?_
       refine r_end ?_
       refine g_sB 45 rfl hr (fun h45_9 hr => ?_) (fun h45_9 hr => ?_)
       ·
        refine g_condT rfl ?_
        refine g_seq ?_
        refine g_run (by kernel_rfl) [(0, .d)] rfl ?_
        refine r_d rfl rfl rfl (s_assign rfl rfl) ?_
        refine r_end ?_
        obtain rfl := Option.some.inj hr
        refine g_ret Tryz.func62 _ (.cons (resTmp rfl (Wk.refl _)) .nil) ?_
        rfl
       ·
        refine g_condF rfl ?_
        refine g_skip ?_
        refine g_inBlock ?_
        refine g_run (by kernel_rfl) [(0, .d), (1, .d), (2, .d)] rfl ?_
        refine r_d rfl rfl rfl (s_move rfl rfl) ?_
        refine r_d rfl rfl rfl (s_ar (r := ((i_1 + 1 : Nat) : Int)) rfl rfl rfl (by simp [iar]) (by omega)) ?_
        refine r_d rfl rfl rfl (s_assign rfl rfl) ?_
        refine r_end ?_
        refine g_sub [(0, .lst (code_a0.map enc_S_api_Instr)), (1, .int .i64 a_a1), (2, .int .i64 b_a2), (7, .int .i64 ((i_1 + 1 : Nat) : Int))] (Sub.cons' rfl (Sub.cons' rfl (Sub.cons' rfl (Sub.cons' rfl (Sub.nil _))))) ?_
        exact IH0 _ _ _ (by omega) ⟨(i_1 + 1), rfl, rfl, rfl, (by omega), hr⟩
      ·
       refine r_skip rfl rfl rfl ?_
       refine r_skip rfl rfl rfl ?_
       refine r_skip rfl rfl rfl ?_
       refine r_skip rfl rfl rfl ?_
       refine r_d rfl rfl rfl (s_pickF rfl rfl rfl) ?_
       refine r_d rfl rfl rfl (s_pickF rfl rfl rfl) ?_
       refine r_d rfl rfl rfl (s_pickT rfl rfl rfl) ?_
       refine r_end ?_
       refine g_condF rfl ?_
       refine g_skip ?_
       refine g_inBlock ?_
       refine g_run (by kernel_rfl) [(0, .d), (1, .d), (2, .d)] rfl ?_
       refine r_d rfl rfl rfl (s_move rfl rfl) ?_
       refine r_d rfl rfl rfl (s_ar (r := ((i_1 + 1 : Nat) : Int)) rfl rfl rfl (by simp [iar]) (by omega)) ?_
       refine r_d rfl rfl rfl (s_assign rfl rfl) ?_
       refine r_end ?_
       refine g_sub [(0, .lst (code_a0.map enc_S_api_Instr)), (1, .int .i64 a_a1), (2, .int .i64 b_a2), (7, .int .i64 ((i_1 + 1 : Nat) : Int))] (Sub.cons' rfl (Sub.cons' rfl (Sub.cons' rfl (Sub.cons' rfl (Sub.nil _))))) ?_
       exact IH0 _ _ _ (by omega) ⟨(i_1 + 1), rfl, rfl, rfl, (by omega), hr⟩
    ·
     refine r_skip rfl rfl rfl ?_
     refine r_skip rfl rfl rfl ?_
     refine r_skip rfl rfl rfl ?_
     refine r_skip rfl rfl rfl ?_
     refine r_skip rfl rfl rfl ?_
     refine r_skip rfl rfl rfl ?_
     refine r_skip rfl rfl rfl ?_
     refine r_skip rfl rfl rfl ?_
     refine r_skip rfl rfl rfl ?_
     refine r_skip rfl rfl rfl ?_
     refine r_skip rfl rfl rfl ?_
     refine r_skip rfl rfl rfl ?_
     refine r_skip rfl rfl rfl ?_
     refine r_skip rfl rfl rfl ?_
     refine r_skip rfl rfl rfl ?_
     refine r_skip rfl rfl rfl ?_
     refine r_skip rfl rfl rfl ?_
     refine r_skip rfl rfl rfl ?_
     refine r_skip rfl rfl rfl ?_
     refine r_skip rfl rfl rfl ?_
     refine r_skip rfl rfl rfl ?_
     refine r_skip rfl rfl rfl ?_
     refine r_d rfl rfl rfl (s_pickF rfl rfl rfl) ?_
     refine r_end ?_
     refine g_condF rfl ?_
     refine g_skip ?_
     refine g_inBlock ?_
     refine g_run (by kernel_rfl) [(0, .d), (1, .d), (2, .d)] rfl ?_
     refine r_d rfl rfl rfl (s_move rfl rfl) ?_
     refine r_d rfl rfl rfl (s_ar (r := ((i_1 + 1 : Nat) : Int)) rfl rfl rfl (by simp [iar]) (by omega)) ?_
     refine r_d rfl rfl rfl (s_assign rfl rfl) ?_
     refine r_end ?_
     refine g_sub [(0, .lst (code_a0.map enc_S_api_Instr)), (1, .int .i64 a_a1), (2, .int .i64 b_a2), (7, .int .i64 ((i_1 + 1 : Nat) : Int))] (Sub.cons' rfl (Sub.cons' rfl (Sub.cons' rfl (Sub.cons' rfl (Sub.nil _))))) ?_
     exact IH0 _ _ _ (by omega) ⟨(i_1 + 1), rfl, rfl, rfl, (by omega), hr⟩

noncomputable def lf_constraintref32_block_L2 (k : Option (Int)) (b_a2 : S_api_Block) (l_9 : (List S_constraintref32_held)) (q_12 : S_constraintref32_held) : Nat → Int → Option (Int)
  | 0, k_14 =>
  k
  | rest + 1, k_14 =>
  ((getI l_9 k_14).bind fun q_16 =>
  (bif (q_12.f1_name.toList == q_16.f1_name.toList) then
  (bif (q_12.f2_arity == q_16.f2_arity) then
  ((lf_constraintref32_apart b_a2.f1_Code q_12.f0_register q_16.f0_register).bind fun r_19 =>
  (bif (!r_19) then
  some (18)
  else
  (lf_constraintref32_block_L2 k b_a2 l_9 q_12 rest (k_14 + 1))))
  else
  (lf_constraintref32_block_L2 k b_a2 l_9 q_12 rest (k_14 + 1)))
  else
  (lf_constraintref32_block_L2 k b_a2 l_9 q_12 rest (k_14 + 1))))

noncomputable def lf_constraintref32_block_L1 (k : Option (Int)) (b_a2 : S_api_Block) (l_9 : (List S_constraintref32_held)) : List S_constraintref32_held → Nat → Option (Int)
  | [], i_11 =>
  k
  | q_12 :: rest, i_11 =>
  (lf_constraintref32_block_L2 ((lf_constraintref32_block_L1 k b_a2 l_9 rest (i_11 + 1))) b_a2 l_9 q_12 ((i_11 : Int) - 0 : Int).toNat 0)

noncomputable def lf_constraintref32_block_L3 (k : Option (Int)) (q_21 : S_api_Instr) : List S_constraintref32_held → Option (Int)
  | [] =>
  k
  | q_34 :: rest =>
  (bif (q_34.f0_register == q_21.f1_A) then
  (bif (decide (q_21.f2_B ≥ q_34.f2_arity)) then
  some (9)
  else
  (lf_constraintref32_block_L3 k q_21 rest))
  else
  (lf_constraintref32_block_L3 k q_21 rest))

noncomputable def lf_constraintref32_block_L0 (k : ((List S_constraintref32_held)) → Option (Int)) (m_a0 : S_api_Image) : List S_api_Instr → (List S_constraintref32_held) → Option (Int)
  | [], l_6 =>
  (k l_6)
  | q_21 :: rest, l_6 =>
  (bif (q_21.f0_Op == (3 : Int)) then
  (bif (decide (q_21.f2_B ≥ (m_a0.f1_Access.length : Int))) then
  some (5)
  else
  ((getI m_a0.f1_Access q_21.f2_B).bind fun q_25 =>
  (bif ((q_21.f4_Terms.length : Int) != (q_25.f2_Positions.length : Int)) then
  some (9)
  else
  ((appO 32 l_6 [(⟨q_21.f1_A, q_25.f0_Name, q_25.f1_Arity⟩ : S_constraintref32_held)]).bind fun l_28 =>
  (lf_constraintref32_block_L0 k m_a0 rest l_28)))))
  else
  (bif (q_21.f0_Op == (1 : Int)) then
  (lf_constraintref32_block_L3 ((lf_constraintref32_block_L0 k m_a0 rest l_6)) q_21 l_6)
  else
  (bif (q_21.f0_Op == (9 : Int)) then
  (bif (q_21.f3_Goal.op == (0 : Int)) then
  ((lf_constraintref32_Unit m_a0.f0_Units q_21.f3_Goal.n (q_21.f3_Goal.ts.length : Int)).bind fun r_39 =>
  (bif (!r_39) then
  some (7)
  else
  (lf_constraintref32_block_L0 k m_a0 rest l_6)))
  else
  (lf_constraintref32_block_L0 k m_a0 rest l_6))
  else
  (lf_constraintref32_block_L0 k m_a0 rest l_6))))
noncomputable def lf_constraintref32_block (m_a0 : S_api_Image) (u_a1 : S_api_Unit) (b_a2 : S_api_Block) : Option (Int) :=
  ((lf_constraintref32_Check b_a2).bind fun r_1 =>
  (bif (r_1 != (0 : Int)) then
  some (r_1)
  else
  (bif (decide (b_a2.f0_Occ.f0_Rule ≥ m_a0.f2_Rules)) then
  some (5)
  else
  (lf_constraintref32_block_L0 (fun l_9 =>
  (lf_constraintref32_block_L1 (some (0)) b_a2 l_9 l_9 0)) m_a0 b_a2.f1_Code [(⟨b_a2.f0_Occ.f1_Head, u_a1.f0_Name, u_a1.f1_Arity⟩ : S_constraintref32_held)]))))

end Go.Proofs.YtbdhjkneoandiaaGreat

