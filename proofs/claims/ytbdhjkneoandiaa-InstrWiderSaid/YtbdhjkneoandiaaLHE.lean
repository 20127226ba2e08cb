/-
  Texts of the seat, merged.
-/
import Derived.Test.YtbdhjkneoandiaaLHA
import Derived.Test.YtbdhjkneoandiaaLHB
import Derived.Test.YtbdhjkneoandiaaLHC
import Derived.Test.YtbdhjkneoandiaaLHD
import Derived.Test.YtbdhjkneoandiaaChecked
import Derived.WalkKit
import Derived.Lib.Hide
import Derived.Lib.AppendStr
import Derived.Deep.AppendLies
import Derived.Deep.AppendSrc
import Derived.Deep.Draws
import Derived.Deep.QuietTactic
import Derived.BigQuiet
import Derived.Deep.RegionWith
import Derived.Maps.AppendAt
import Derived.WalkSpells
import Derived.Orders
import Derived.Deep.Slices
import Derived.Deep.Fields
import Derived.ChangeArms
import Derived.Lib.OthersKept
import Derived.Lib.TrimU
import Derived.Lib.IndexAny
import Derived.Deep.LoopGhost
import Derived.Lib.Bytealg
import Derived.RangeFuncBox
import Derived.RangeFuncNested
import Derived.RangeFuncBound
import Derived.RangeFuncCalls
import Derived.RangeFuncLeaves
import Derived.Shelf.Abstract
import Derived.OwnWalkIn
import Derived.TacticsInMore
import Derived.LoopNIn
import Derived.LoopIn
import Derived.RangeFuncWrites
import Derived.Maps.OwnIn
import Derived.Maps.Views
import Derived.Laws.OwnMore
import Derived.Maps.OwnSet
import Derived.Test.YtbdhjkneoandiaaRows
import Derived.ProofKit
import Derived.OpenShut
import Derived.Carry
import Derived.OrdersIn
import Derived.Great.BuildSlice
import Derived.ArgAppend
import Derived.Laws.MakeOwn
import Derived.Laws.Cover3
import Derived.Laws.CopyRow
import Derived.MapKept
import Derived.Maps.RangeRun
import Derived.DeepKeys5
import Derived.WideKeyRuns
set_option linter.unusedVariables false
set_option linter.unusedSimpArgs false
set_option linter.unnecessarySimpa false
set_option linter.all false

namespace Go.Proofs.Ytbdhjkneoandiaa
set_option maxRecDepth 100000
open Go.RowKit

set_option maxHeartbeats 1000000 in
theorem lg_instr_formed (b_a0 : S_api_Block) (res : Bool) (hr : lf_instr_formed b_a0 = some res) : Gives Try.prog 52 [enc_S_api_Block b_a0] (.bool res) := by
  unfold lf_instr_formed at hr
  refine spec_env [(0, enc_S_api_Block b_a0)] Try.func52 rfl rfl fun K hK => ?_
  refine g_seq ?_
  refine g_run (by kernel_rfl) [(0, .d), (1, .d)] rfl ?_
  refine r_d rfl rfl rfl (s_box rfl rfl rfl) ?_
  refine r_d rfl rfl rfl (s_assign rfl rfl) ?_
  refine r_end ?_
  refine g_seq ?_
  refine g_run (by kernel_rfl) [(0, .w)] rfl ?_
  refine r_w rfl rfl rfl (s_alloc rfl zvx_instr_set) ?_
  rintro _ _ ⟨b3_0, rfl, rfl⟩
  refine r_end ?_
  refine g_seq ?_
  refine g_run (by kernel_rfl) [(0, .d), (1, .d), (2, .d), (3, .d), (4, .w)] rfl ?_
  refine r_d rfl rfl rfl (s_fieldAddr rfl fl_api_Block_0 rfl rfl rfl rfl) ?_
  refine r_d rfl rfl rfl (s_fieldAddr rfl fl_api_Occ_1 rfl rfl rfl rfl) ?_
  refine r_d rfl rfl rfl (s_load rfl rfl (by exact ty_int) rfl) ?_
  obtain ⟨q_2, hq_2, hr⟩ := bindS hr
  refine r_d rfl rfl rfl (s_indexB4 rfl are_instr_set rfl rfl hq_2) ?_
  refine r_w01 rfl rfl rfl (t_store _ rfl rfl rfl (Wk.refl _) (pf0 _) (subB4 hq_2) (offB4 hq_2) (by exact ty_bool) rfl rfl rfl) ?_
  refine r_st [.cell b3_0 (.agg [.bool (bif b_a0.f0_Occ.f1_Head == 0 then true else false), .bool (bif b_a0.f0_Occ.f1_Head == 1 then true else false), .bool (bif b_a0.f0_Occ.f1_Head == 2 then true else false), .bool (bif b_a0.f0_Occ.f1_Head == 3 then true else false)])] (by rw [setB4 hq_2]) ?_
  refine r_end ?_
  refine g_seq ?_
  refine g_run (by kernel_rfl) [(0, .w), (1, .d)] rfl ?_
  refine r_w rfl rfl rfl (m_makeMap (α := Int) (β := Bool) (key := (D.int .i64)) (g := D.bool) rfl) ?_
  rintro _ _ ⟨m16_2, rfl, rfl⟩
  refine r_d rfl rfl rfl (s_assign rfl rfl) ?_
  refine r_end ?_
  refine g_seq ?_
  refine g_run (by kernel_rfl) [(0, .d), (1, .d)] rfl ?_
  refine r_d rfl rfl rfl (s_assign rfl rfl) ?_
  refine r_d rfl rfl rfl (s_assign rfl rfl) ?_
  refine r_end ?_
  refine g_seq ?_
  refine g_run (by kernel_rfl) [(0, .d), (1, .d)] rfl ?_
  refine r_d rfl rfl rfl (s_assign rfl rfl) ?_
  refine r_d rfl rfl rfl (s_assign rfl rfl) ?_
  refine r_end ?_
  refine g_seq ?_
  refine g_seq ?_
  refine g_run (by kernel_rfl) [(0, .d), (1, .d), (2, .d), (3, .d)] rfl ?_
  refine r_d rfl rfl rfl (s_fieldAddr rfl fl_api_Block_1 rfl rfl (by simp [szs, sz, sz_S_api_Occ]) rfl) ?_
  refine r_d rfl rfl rfl (s_load rfl rfl (by exact ty_L_api_Instr) rfl) ?_
  refine r_d rfl rfl rfl (m_len (f := enc_S_api_Instr) b_a0.f1_Code rfl el_L_api_Instr rfl (asl rfl)) ?_
  refine r_d rfl rfl rfl (s_move rfl rfl) ?_
  refine r_end ?_
  obtain ⟨kk0, hkk0, hr⟩ := exK (fun k => lf_instr_formed_L0 k b_a0 b_a0.f1_Code false false 0 (-1) (bif b_a0.f0_Occ.f1_Head == 0 then true else false) (bif b_a0.f0_Occ.f1_Head == 1 then true else false) (bif b_a0.f0_Occ.f1_Head == 2 then true else false) (bif b_a0.f0_Occ.f1_Head == 3 then true else false) []) hr
  refine g_len 18 rfl (asl rfl) fun hla0 => ?_
  simp only [List.length_map] at hla0
  refine g_blockJ (fun env σ => ∃ (removed_14 : Bool) (kept_15 : Bool) (stage_16 : Int), env = [(1, .ptr (enc_S_api_Block b_a0)), (5, .bool removed_14), (6, .bool kept_15), (7, .int .i64 stage_16)] ∧ σ = [] ∧ kk0 removed_14 kept_15 stage_16 = some res) ?_ (fun HK0 => ?_)
  ·
   rintro _ _ ⟨removed_14, kept_15, stage_16, rfl, rfl, hr⟩
   rw [hkk0] at hr
   refine g_seq ?_
   refine g_run (by kernel_rfl) [(0, .d), (1, .d), (2, .d), (3, .d), (4, .d), (5, .d), (6, .d), (7, .d), (8, .d), (9, .d), (10, .d), (11, .d), (12, .d), (13, .d), (14, .d), (15, .d), (16, .d), (17, .d), (18, .d)] rfl ?_
   refine r_d rfl rfl rfl (s_move rfl rfl) ?_
   refine r_d rfl rfl rfl (s_cmp rfl rfl rfl rfl) ?_
   refine r_d rfl rfl rfl (s_move rfl rfl) ?_
   refine r_sB 154 rfl hr (fun h154_16 hr => ?_) (fun h154_16 hr => ?_)
   ·
    refine r_d rfl rfl rfl (s_move rfl rfl) ?_
    refine r_d rfl rfl rfl (s_fieldAddr rfl fl_api_Block_0 rfl rfl rfl rfl) ?_
    refine r_d rfl rfl rfl (s_fieldAddr rfl fl_api_Occ_2 rfl rfl rfl rfl) ?_
    refine r_d rfl rfl rfl (s_load rfl rfl (by exact ty_bool) rfl) ?_
    refine r_d rfl rfl rfl (s_neqB rfl Try.underlying4 rfl rfl) ?_
    refine r_d rfl rfl rfl (s_pickT rfl rfl rfl) ?_
    refine r_d rfl rfl rfl (s_move rfl rfl) ?_
    refine r_sB 161 rfl hr (fun h161_17 hr => ?_) (fun h161_17 hr => ?_)
    ·
     refine r_d rfl rfl rfl (s_move rfl rfl) ?_
     refine r_d rfl rfl rfl (s_not rfl rfl) ?_
     refine r_d rfl rfl rfl (s_move rfl rfl) ?_
     refine r_sB 164 rfl hr (fun h164_18 hr => ?_) (fun h164_18 hr => ?_)
     ·
      refine r_skip rfl rfl rfl ?_
      refine r_skip rfl rfl rfl ?_
      refine r_skip rfl rfl rfl ?_
      refine r_d rfl rfl rfl (s_pickT rfl rfl rfl) ?_
      refine r_d rfl rfl rfl (s_pickT rfl rfl rfl) ?_
      refine r_d rfl rfl rfl (s_assign rfl rfl) ?_
      refine r_end ?_
      obtain rfl := Option.some.inj hr
      refine g_ret Try.func52 _ (.cons (resTmp rfl (Wk.refl _)) .nil) ?_
      rfl
     ·
      refine r_d rfl rfl rfl (s_fieldAddr rfl fl_api_Block_0 rfl rfl rfl rfl) ?_
      refine r_d rfl rfl rfl (s_fieldAddr rfl fl_api_Occ_2 rfl rfl rfl rfl) ?_
      refine r_d rfl rfl rfl (s_load rfl rfl (by exact ty_bool) rfl) ?_
      refine r_d rfl rfl rfl (s_pickF rfl rfl rfl) ?_
      refine r_d rfl rfl rfl (s_pickT rfl rfl rfl) ?_
      refine r_d rfl rfl rfl (s_assign rfl rfl) ?_
      refine r_end ?_
      obtain rfl := Option.some.inj hr
      refine g_ret Try.func52 _ (.cons (resTmp rfl (Wk.refl _)) .nil) ?_
      rfl
    ·
     refine r_skip rfl rfl rfl ?_
     refine r_skip rfl rfl rfl ?_
     refine r_skip rfl rfl rfl ?_
     refine r_skip rfl rfl rfl ?_
     refine r_skip rfl rfl rfl ?_
     refine r_skip rfl rfl rfl ?_
     refine r_skip rfl rfl rfl ?_
     refine r_d rfl rfl rfl (s_pickF rfl rfl rfl) ?_
     refine r_d rfl rfl rfl (s_assign rfl rfl) ?_
     refine r_end ?_
     obtain rfl := Option.some.inj hr
     refine g_ret Try.func52 _ (.cons (resTmp rfl (Wk.refl _)) .nil) ?_
     rfl
   ·
    refine r_skip rfl rfl rfl ?_
    refine r_skip rfl rfl rfl ?_
    refine r_skip rfl rfl rfl ?_
    refine r_skip rfl rfl rfl ?_
    refine r_skip rfl rfl rfl ?_
    refine r_d rfl rfl rfl (s_pickF rfl rfl rfl) ?_
    refine r_d rfl rfl rfl (s_move rfl rfl) ?_
    refine r_skip rfl rfl rfl ?_
    refine r_skip rfl rfl rfl ?_
    refine r_skip rfl rfl rfl ?_
    refine r_skip rfl rfl rfl ?_
    refine r_skip rfl rfl rfl ?_
    refine r_skip rfl rfl rfl ?_
    refine r_skip rfl rfl rfl ?_
    refine r_d rfl rfl rfl (s_pickF rfl rfl rfl) ?_
    refine r_d rfl rfl rfl (s_assign rfl rfl) ?_
    refine r_end ?_
    obtain rfl := Option.some.inj hr
    refine g_ret Try.func52 _ (.cons (resTmp rfl (Wk.refl _)) .nil) ?_
    rfl
  ·
   refine g_sub [(1, .ptr (enc_S_api_Block b_a0)), (3, .ref b3_0 0 []), (4, .map m16_2), (18, .lst (b_a0.f1_Code.map enc_S_api_Instr)), (19, .int .i64 (b_a0.f1_Code.length : Int)), (5, .bool false), (6, .bool false), (7, .int .i64 0), (8, .int .i64 (-1)), (20, .int .i64 ((0 : Nat) : Int))] (Sub.cons' rfl (Sub.cons' rfl (Sub.cons' rfl (Sub.cons' rfl (Sub.cons' rfl (Sub.cons' rfl (Sub.cons' rfl (Sub.cons' rfl (Sub.cons' rfl (Sub.cons' rfl (Sub.nil _))))))))))) ?_
   refine g_perm [_, _] _ ((pf0 _).trans (pf1 _ _ _)) ?_
   refine g_loop (fun n env σ => ∃ (removed_4 : Bool) (kept_5 : Bool) (stage_6 : Int) (last_7 : Int) (i_8 : Nat) (bound_9 : Bool) (bound_10 : Bool) (bound_11 : Bool) (bound_12 : Bool) (mm_13 : (List (Int × Bool))), (n = b_a0.f1_Code.length - i_8) ∧ (env = [(1, .ptr (enc_S_api_Block b_a0)), (3, .ref b3_0 0 []), (4, .map m16_2), (18, .lst (b_a0.f1_Code.map enc_S_api_Instr)), (19, .int .i64 (b_a0.f1_Code.length : Int)), (5, .bool removed_4), (6, .bool kept_5), (7, .int .i64 stage_6), (8, .int .i64 last_7), (20, .int .i64 (i_8 : Int))]) ∧ (σ = [.cell b3_0 (.agg [.bool bound_9, .bool bound_10, .bool bound_11, .bool bound_12]), .map m16_2 (mapM' (D.int .i64) D.bool mm_13)]) ∧ (i_8 ≤ b_a0.f1_Code.length) ∧ (lf_instr_formed_L0 kk0 b_a0 (b_a0.f1_Code.drop i_8) removed_4 kept_5 stage_6 last_7 bound_9 bound_10 bound_11 bound_12 mm_13 = some res)) _ ⟨false, false, 0, (-1), 0, (bif b_a0.f0_Occ.f1_Head == 0 then true else false), (bif b_a0.f0_Occ.f1_Head == 1 then true else false), (bif b_a0.f0_Occ.f1_Head == 2 then true else false), (bif b_a0.f0_Occ.f1_Head == 3 then true else false), [], rfl, rfl, rfl, Nat.zero_le _, hr⟩ ?_
   rintro n _ _ ⟨removed_4, kept_5, stage_6, last_7, i_8, bound_9, bound_10, bound_11, bound_12, mm_13, rfl, rfl, rfl, hi0, hr⟩ IH0
   rcases listStep b_a0.f1_Code i_8 hi0 with ⟨ht0, hd0, he0⟩ | ⟨q_20, ht0, hd0, hq0, hlt0⟩
   ·
    rw [hd0, lf_instr_formed_L0] at hr
    refine g_seq ?_
    refine g_run (by kernel_rfl) [(0, .d)] rfl ?_
    refine r_d rfl rfl rfl (s_cmp rfl rfl rfl rfl) ?_
    refine r_end ?_
    refine g_seq ?_
    refine g_known 21 false rfl ht0 ?_
    refine g_condF rfl ?_
    refine g_exit rfl ?_
    refine g_sub [(1, .ptr (enc_S_api_Block b_a0)), (5, .bool removed_4), (6, .bool kept_5), (7, .int .i64 stage_6)] (Sub.cons' rfl (Sub.cons' rfl (Sub.cons' rfl (Sub.cons' rfl (Sub.nil _))))) ?_
    refine g_perm [] _ (pf0 _) ?_
    exact HK0 _ _ ⟨removed_4, kept_5, stage_6, rfl, rfl, hr⟩
   ·
    rw [hd0, lf_instr_formed_L0] at hr
    refine g_seq ?_
    refine g_run (by kernel_rfl) [(0, .d)] rfl ?_
    refine r_d rfl rfl rfl (s_cmp rfl rfl rfl rfl) ?_
    refine r_end ?_
    refine g_seq ?_
    refine g_known 21 true rfl ht0 ?_
    refine g_condT rfl ?_
    refine g_skip ?_
    refine g_seq ?_
    refine g_block ?_
    refine g_seq ?_
    refine g_run (by kernel_rfl) [(0, .d), (1, .d), (2, .w), (3, .w)] rfl ?_
    refine r_d rfl rfl rfl (m_index (f := enc_S_api_Instr) b_a0.f1_Code rfl el_L_api_Instr rfl (asl rfl) rfl hq0 sz_S_api_Instr rfl) ?_
    refine r_d rfl rfl rfl (s_load rfl rfl (by exact ty_api_Instr) (sz_S_api_Instr _)) ?_
    refine r_w rfl rfl rfl (s_alloc rfl zv_api_Instr) ?_
    rintro _ _ ⟨b10_20, rfl, rfl⟩
    refine r_w01 rfl rfl rfl (t_store0 _ rfl rfl rfl (Wk.refl _) (pf0 _) (by exact ty_api_Instr) (sz_S_api_Instr _) (by simp [sz, szs, szs_fsT, sz_encG]) rfl) ?_
    refine r_end ?_
    refine g_freeze 10 b10_20 rfl (pf0 _) ?_
    refine g_seq ?_
    refine g_run (by kernel_rfl) [(0, .d)] rfl ?_
    refine r_d rfl rfl rfl (s_assign rfl rfl) ?_
    refine r_end ?_
    refine g_seq ?_
    refine g_seq ?_
    refine g_run (by kernel_rfl) [(0, .d), (1, .d)] rfl ?_
    refine r_d rfl rfl rfl (s_fieldAddr rfl fl_api_Instr_0 rfl rfl rfl rfl) ?_
    refine r_d rfl rfl rfl (s_load rfl rfl (by exact ty_int) rfl) ?_
    refine r_end ?_
    refine g_block ?_
    refine g_seq ?_
    refine g_run (by kernel_rfl) [(0, .d), (1, .d)] rfl ?_
    refine r_d rfl rfl rfl (s_cmp rfl rfl rfl rfl) ?_
    refine r_d rfl rfl rfl (s_assign rfl rfl) ?_
    refine r_end ?_
    refine g_sB 26 rfl hr (fun h26_21 hr => ?_) (fun h26_21 hr => ?_)
    ·
     refine g_condT rfl ?_
     refine g_seq ?_
     refine g_run (by kernel_rfl) [(0, .d)] rfl ?_
     refine r_d rfl rfl rfl (s_assign rfl rfl) ?_
     refine r_end ?_
     refine g_seq ?_
     refine g_seq ?_
     refine g_run (by kernel_rfl) [(0, .d), (1, .d), (2, .d), (3, .r), (4, .d), (5, .d), (6, .d), (7, .d), (8, .d), (9, .d), (10, .d)] rfl ?_
     refine r_d rfl rfl rfl (s_fieldAddr rfl fl_api_Instr_1 rfl rfl rfl rfl) ?_
     refine r_d rfl rfl rfl (s_load rfl rfl (by exact ty_int) rfl) ?_
     obtain ⟨q_23, hq_23, hr⟩ := bindS hr
     refine r_d rfl rfl rfl (s_indexB4 rfl are_instr_set rfl rfl hq_23) ?_
     refine r_r rfl rfl rfl (t_loadRef rfl rfl (.head _) (subB4 hq_23) (offB4 hq_23) (by exact ty_bool) rfl) ?_
     refine r_d rfl rfl rfl (s_not rfl rfl) ?_
     refine r_d rfl rfl rfl (s_move rfl rfl) ?_
     refine r_sB 33 rfl hr (fun h33_23 hr => ?_) (fun h33_23 hr => ?_)
     ·
      refine r_skip rfl rfl rfl ?_
      refine r_skip rfl rfl rfl ?_
      refine r_skip rfl rfl rfl ?_
      refine r_skip rfl rfl rfl ?_
      refine r_d rfl rfl rfl (s_pickT rfl rfl rfl) ?_
      refine r_end ?_
      refine g_condT rfl ?_
      refine g_seq ?_
      refine g_run (by kernel_rfl) [(0, .d)] rfl ?_
      refine r_d rfl rfl rfl (s_assign rfl rfl) ?_
      refine r_end ?_
      obtain rfl := Option.some.inj hr
      refine g_ret Try.func52 _ (.cons (resTmp rfl (Wk.refl _)) .nil) ?_
      rfl
     ·
      refine r_d rfl rfl rfl (s_fieldAddr rfl fl_api_Instr_1 rfl rfl rfl rfl) ?_
      refine r_d rfl rfl rfl (s_load rfl rfl (by exact ty_int) rfl) ?_
      refine r_d rfl rfl rfl (s_move rfl rfl) ?_
      refine r_d rfl rfl rfl (s_cmp rfl rfl rfl rfl) ?_
      refine r_d rfl rfl rfl (s_pickF rfl rfl rfl) ?_
      refine r_end ?_
      refine g_sB 38 rfl hr (fun h38_24 hr => ?_) (fun h38_24 hr => ?_)
      ·
       refine g_condT rfl ?_
       refine g_seq ?_
       refine g_run (by kernel_rfl) [(0, .d)] rfl ?_
       refine r_d rfl rfl rfl (s_assign rfl rfl) ?_
       refine r_end ?_
       obtain rfl := Option.some.inj hr
       refine g_ret Try.func52 _ (.cons (resTmp rfl (Wk.refl _)) .nil) ?_
       rfl
      ·
       refine g_condF rfl ?_
       refine g_skip ?_
       refine g_seq ?_
       refine g_run (by kernel_rfl) [(0, .d), (1, .d), (2, .d)] rfl ?_
       refine r_d rfl rfl rfl (s_fieldAddr rfl fl_api_Instr_1 rfl rfl rfl rfl) ?_
       refine r_d rfl rfl rfl (s_load rfl rfl (by exact ty_int) rfl) ?_
       refine r_d rfl rfl rfl (s_assign rfl rfl) ?_
       refine r_end ?_
       refine g_run (by kernel_rfl) [(0, .d), (1, .d), (2, .d), (3, .d), (4, .d), (5, .d), (6, .d), (7, .d), (8, .d), (9, .d)] rfl ?_
       refine r_d rfl rfl rfl (s_move rfl rfl) ?_
       refine r_d rfl rfl rfl (s_move rfl rfl) ?_
       refine r_sB 42 rfl hr (fun h42_25 hr => ?_) (fun h42_25 hr => ?_)
       ·
        refine r_skip rfl rfl rfl ?_
        refine r_skip rfl rfl rfl ?_
        refine r_skip rfl rfl rfl ?_
        refine r_skip rfl rfl rfl ?_
        refine r_skip rfl rfl rfl ?_
        refine r_skip rfl rfl rfl ?_
        refine r_d rfl rfl rfl (s_pickT rfl rfl rfl) ?_
        refine r_d rfl rfl rfl (s_assign rfl rfl) ?_
        refine r_end ?_
        refine g_inBlock ?_
        refine g_seq ?_
        refine g_seq ?_
        refine g_run (by kernel_rfl) [(0, .d), (1, .d), (2, .d), (3, .d), (4, .d), (5, .d), (6, .d), (7, .d), (8, .d), (9, .d), (10, .d), (11, .d), (12, .d), (13, .d), (14, .d), (15, .d), (16, .d), (17, .d), (18, .d), (19, .d)] rfl ?_
        refine r_d rfl rfl rfl (s_move rfl rfl) ?_
        refine r_d rfl rfl rfl (s_move rfl rfl) ?_
        refine r_d rfl rfl rfl (s_cmp rfl rfl rfl rfl) ?_
        refine r_d rfl rfl rfl (s_move rfl rfl) ?_
        refine r_sB 133 rfl hr (fun h133_26 hr => ?_) (fun h133_26 hr => ?_)
        ·
         refine r_skip rfl rfl rfl ?_
         refine r_skip rfl rfl rfl ?_
         refine r_skip rfl rfl rfl ?_
         refine r_skip rfl rfl rfl ?_
         refine r_skip rfl rfl rfl ?_
         refine r_skip rfl rfl rfl ?_
         refine r_skip rfl rfl rfl ?_
         refine r_skip rfl rfl rfl ?_
         refine r_skip rfl rfl rfl ?_
         refine r_skip rfl rfl rfl ?_
         refine r_skip rfl rfl rfl ?_
         refine r_skip rfl rfl rfl ?_
         refine r_skip rfl rfl rfl ?_
         refine r_skip rfl rfl rfl ?_
         refine r_skip rfl rfl rfl ?_
         refine r_d rfl rfl rfl (s_pickT rfl rfl rfl) ?_
         refine r_end ?_
         refine g_condT rfl ?_
         refine g_seq ?_
         refine g_run (by kernel_rfl) [(0, .d)] rfl ?_
         refine r_d rfl rfl rfl (s_assign rfl rfl) ?_
         refine r_end ?_
         obtain rfl := Option.some.inj hr
         refine g_ret Try.func52 _ (.cons (resTmp rfl (Wk.refl _)) .nil) ?_
         rfl
        ·
         refine r_d rfl rfl rfl (s_move rfl rfl) ?_
         refine r_d rfl rfl rfl (s_move rfl rfl) ?_
         refine r_d rfl rfl rfl (s_cmp rfl rfl rfl rfl) ?_
         refine r_d rfl rfl rfl (s_move rfl rfl) ?_
         refine r_sB 137 rfl hr (fun h137_27 hr => ?_) (fun h137_27 hr => ?_)
         ·
          refine r_d rfl rfl rfl (s_move rfl rfl) ?_
          refine r_d rfl rfl rfl (s_cmp rfl rfl rfl rfl) ?_
          refine r_d rfl rfl rfl (s_move rfl rfl) ?_
          refine r_sB 140 rfl hr (fun h140_28 hr => ?_) (fun h140_28 hr => ?_)
          ·
           refine r_skip rfl rfl rfl ?_
           refine r_skip rfl rfl rfl ?_
           refine r_d rfl rfl rfl (s_pickT rfl rfl rfl) ?_
           refine r_d rfl rfl rfl (s_move rfl rfl) ?_
           refine r_skip rfl rfl rfl ?_
           refine r_skip rfl rfl rfl ?_
           refine r_d rfl rfl rfl (s_pickT rfl rfl rfl) ?_
           refine r_d rfl rfl rfl (s_pickT rfl rfl rfl) ?_
           refine r_d rfl rfl rfl (s_pickF rfl rfl rfl) ?_
           refine r_end ?_
           refine g_condT rfl ?_
           refine g_seq ?_
           refine g_run (by kernel_rfl) [(0, .d)] rfl ?_
           refine r_d rfl rfl rfl (s_assign rfl rfl) ?_
           refine r_end ?_
           obtain rfl := Option.some.inj hr
           refine g_ret Try.func52 _ (.cons (resTmp rfl (Wk.refl _)) .nil) ?_
           rfl
          ·
           refine r_d rfl rfl rfl (s_move rfl rfl) ?_
           refine r_d rfl rfl rfl (s_cmp rfl rfl rfl rfl) ?_
           refine r_d rfl rfl rfl (s_pickF rfl rfl rfl) ?_
           refine r_d rfl rfl rfl (s_move rfl rfl) ?_
           refine r_sB 144 rfl hr (fun h144_29 hr => ?_) (fun h144_29 hr => ?_)
           ·
            refine r_skip rfl rfl rfl ?_
            refine r_skip rfl rfl rfl ?_
            refine r_d rfl rfl rfl (s_pickT rfl rfl rfl) ?_
            refine r_d rfl rfl rfl (s_pickT rfl rfl rfl) ?_
            refine r_d rfl rfl rfl (s_pickF rfl rfl rfl) ?_
            refine r_end ?_
            refine g_condT rfl ?_
            refine g_seq ?_
            refine g_run (by kernel_rfl) [(0, .d)] rfl ?_
            refine r_d rfl rfl rfl (s_assign rfl rfl) ?_
            refine r_end ?_
            obtain rfl := Option.some.inj hr
            refine g_ret Try.func52 _ (.cons (resTmp rfl (Wk.refl _)) .nil) ?_
            rfl
           ·
            refine r_d rfl rfl rfl (s_move rfl rfl) ?_
            refine r_d rfl rfl rfl (s_cmp rfl rfl rfl rfl) ?_
            refine r_d rfl rfl rfl (s_pickF rfl rfl rfl) ?_
            refine r_d rfl rfl rfl (s_pickT rfl rfl rfl) ?_
            refine r_d rfl rfl rfl (s_pickF rfl rfl rfl) ?_
            refine r_end ?_
            refine g_sB 149 rfl hr (fun h149_30 hr => ?_) (fun h149_30 hr => ?_)
            ·
             refine g_condT rfl ?_
             refine g_seq ?_
             refine g_run (by kernel_rfl) [(0, .d)] rfl ?_
             refine r_d rfl rfl rfl (s_assign rfl rfl) ?_
             refine r_end ?_
             obtain rfl := Option.some.inj hr
             refine g_ret Try.func52 _ (.cons (resTmp rfl (Wk.refl _)) .nil) ?_
             rfl
            ·
             refine g_condF rfl ?_
             refine g_skip ?_
             refine g_run (by kernel_rfl) [(0, .d), (1, .d)] rfl ?_
             refine r_d rfl rfl rfl (s_move rfl rfl) ?_
             refine r_d rfl rfl rfl (s_assign rfl rfl) ?_
             refine r_end ?_
             refine g_inBlock ?_
             refine g_run (by kernel_rfl) [(0, .d), (1, .d)] rfl ?_
             refine r_d rfl rfl rfl (s_ar (r := ((i_8 + 1 : Nat) : Int)) rfl rfl rfl (by simp [iar]) (by omega)) ?_
             refine r_d rfl rfl rfl (s_move rfl rfl) ?_
             refine r_end ?_
             refine g_sub [(1, .ptr (enc_S_api_Block b_a0)), (3, .ref b3_0 0 []), (4, .map m16_2), (18, .lst (b_a0.f1_Code.map enc_S_api_Instr)), (19, .int .i64 (b_a0.f1_Code.length : Int)), (5, .bool true), (6, .bool kept_5), (7, .int .i64 1), (8, .int .i64 q_20.f1_A), (20, .int .i64 ((i_8 + 1 : Nat) : Int))] (Sub.cons' rfl (Sub.cons' rfl (Sub.cons' rfl (Sub.cons' rfl (Sub.cons' rfl (Sub.cons' rfl (Sub.cons' rfl (Sub.cons' rfl (Sub.cons' rfl (Sub.cons' rfl (Sub.nil _))))))))))) ?_
             exact IH0 _ _ _ (by omega) ⟨true, kept_5, 1, q_20.f1_A, (i_8 + 1), bound_9, bound_10, bound_11, bound_12, mm_13, rfl, rfl, rfl, (by omega), hr⟩
         ·
          refine r_skip rfl rfl rfl ?_
          refine r_skip rfl rfl rfl ?_
          refine r_skip rfl rfl rfl ?_
          refine r_skip rfl rfl rfl ?_
          refine r_skip rfl rfl rfl ?_
          refine r_skip rfl rfl rfl ?_
          refine r_skip rfl rfl rfl ?_
          refine r_skip rfl rfl rfl ?_
          refine r_skip rfl rfl rfl ?_
          refine r_skip rfl rfl rfl ?_
          refine r_d rfl rfl rfl (s_pickF rfl rfl rfl) ?_
          refine r_d rfl rfl rfl (s_pickF rfl rfl rfl) ?_
          refine r_end ?_
          refine g_condF rfl ?_
          refine g_skip ?_
          refine g_run (by kernel_rfl) [(0, .d), (1, .d)] rfl ?_
          refine r_d rfl rfl rfl (s_move rfl rfl) ?_
          refine r_d rfl rfl rfl (s_assign rfl rfl) ?_
          refine r_end ?_
          refine g_inBlock ?_
          refine g_run (by kernel_rfl) [(0, .d), (1, .d)] rfl ?_
          refine r_d rfl rfl rfl (s_ar (r := ((i_8 + 1 : Nat) : Int)) rfl rfl rfl (by simp [iar]) (by omega)) ?_
          refine r_d rfl rfl rfl (s_move rfl rfl) ?_
          refine r_end ?_
          refine g_sub [(1, .ptr (enc_S_api_Block b_a0)), (3, .ref b3_0 0 []), (4, .map m16_2), (18, .lst (b_a0.f1_Code.map enc_S_api_Instr)), (19, .int .i64 (b_a0.f1_Code.length : Int)), (5, .bool true), (6, .bool kept_5), (7, .int .i64 1), (8, .int .i64 q_20.f1_A), (20, .int .i64 ((i_8 + 1 : Nat) : Int))] (Sub.cons' rfl (Sub.cons' rfl (Sub.cons' rfl (Sub.cons' rfl (Sub.cons' rfl (Sub.cons' rfl (Sub.cons' rfl (Sub.cons' rfl (Sub.cons' rfl (Sub.cons' rfl (Sub.nil _))))))))))) ?_
          exact IH0 _ _ _ (by omega) ⟨true, kept_5, 1, q_20.f1_A, (i_8 + 1), bound_9, bound_10, bound_11, bound_12, mm_13, rfl, rfl, rfl, (by omega), hr⟩
       ·
        refine r_d rfl rfl rfl (s_fieldAddr rfl fl_api_Instr_1 rfl rfl rfl rfl) ?_
        refine r_d rfl rfl rfl (s_load rfl rfl (by exact ty_int) rfl) ?_
        refine r_d rfl rfl rfl (s_fieldAddr rfl fl_api_Block_0 rfl rfl rfl rfl) ?_
        refine r_d rfl rfl rfl (s_fieldAddr rfl fl_api_Occ_1 rfl rfl rfl rfl) ?_
        refine r_d rfl rfl rfl (s_load rfl rfl (by exact ty_int) rfl) ?_
        refine r_d rfl rfl rfl (s_cmp rfl rfl rfl rfl) ?_
        refine r_d rfl rfl rfl (s_pickF rfl rfl rfl) ?_
        refine r_d rfl rfl rfl (s_assign rfl rfl) ?_
        refine r_end ?_
        refine g_inBlock ?_
        refine g_seq ?_
        refine g_seq ?_
        refine g_run (by kernel_rfl) [(0, .d), (1, .d), (2, .d), (3, .d), (4, .d), (5, .d), (6, .d), (7, .d), (8, .d), (9, .d), (10, .d), (11, .d), (12, .d), (13, .d), (14, .d), (15, .d), (16, .d), (17, .d), (18, .d), (19, .d)] rfl ?_
        refine r_d rfl rfl rfl (s_move rfl rfl) ?_
        refine r_d rfl rfl rfl (s_move rfl rfl) ?_
        refine r_d rfl rfl rfl (s_cmp rfl rfl rfl rfl) ?_
        refine r_d rfl rfl rfl (s_move rfl rfl) ?_
        refine r_sB 133 rfl hr (fun h133_31 hr => ?_) (fun h133_31 hr => ?_)
        ·
         refine r_skip rfl rfl rfl ?_
         refine r_skip rfl rfl rfl ?_
         refine r_skip rfl rfl rfl ?_
         refine r_skip rfl rfl rfl ?_
         refine r_skip rfl rfl rfl ?_
         refine r_skip rfl rfl rfl ?_
         refine r_skip rfl rfl rfl ?_
         refine r_skip rfl rfl rfl ?_
         refine r_skip rfl rfl rfl ?_
         refine r_skip rfl rfl rfl ?_
         refine r_skip rfl rfl rfl ?_
         refine r_skip rfl rfl rfl ?_
         refine r_skip rfl rfl rfl ?_
         refine r_skip rfl rfl rfl ?_
         refine r_skip rfl rfl rfl ?_
         refine r_d rfl rfl rfl (s_pickT rfl rfl rfl) ?_
         refine r_end ?_
         refine g_condT rfl ?_
         refine g_seq ?_
         refine g_run (by kernel_rfl) [(0, .d)] rfl ?_
         refine r_d rfl rfl rfl (s_assign rfl rfl) ?_
         refine r_end ?_
         obtain rfl := Option.some.inj hr
         refine g_ret Try.func52 _ (.cons (resTmp rfl (Wk.refl _)) .nil) ?_
         rfl
        ·
         refine r_d rfl rfl rfl (s_move rfl rfl) ?_
         refine r_d rfl rfl rfl (s_move rfl rfl) ?_
         refine r_d rfl rfl rfl (s_cmp rfl rfl rfl rfl) ?_
         refine r_d rfl rfl rfl (s_move rfl rfl) ?_
         refine r_sB 137 rfl hr (fun h137_32 hr => ?_) (fun h137_32 hr => ?_)
         ·
          refine r_d rfl rfl rfl (s_move rfl rfl) ?_
          refine r_d rfl rfl rfl (s_cmp rfl rfl rfl rfl) ?_
          refine r_d rfl rfl rfl (s_move rfl rfl) ?_
          refine r_sB 140 rfl hr (fun h140_33 hr => ?_) (fun h140_33 hr => ?_)
          ·
           refine r_skip rfl rfl rfl ?_
           refine r_skip rfl rfl rfl ?_
           refine r_d rfl rfl rfl (s_pickT rfl rfl rfl) ?_
           refine r_d rfl rfl rfl (s_move rfl rfl) ?_
           refine r_skip rfl rfl rfl ?_
           refine r_skip rfl rfl rfl ?_
           refine r_d rfl rfl rfl (s_pickT rfl rfl rfl) ?_
           refine r_d rfl rfl rfl (s_pickT rfl rfl rfl) ?_
           refine r_d rfl rfl rfl (s_pickF rfl rfl rfl) ?_
           refine r_end ?_
           refine g_condT rfl ?_
           refine g_seq ?_
           refine g_run (by kernel_rfl) [(0, .d)] rfl ?_
           refine r_d rfl rfl rfl (s_assign rfl rfl) ?_
           refine r_end ?_
           obtain rfl := Option.some.inj hr
           refine g_ret Try.func52 _ (.cons (resTmp rfl (Wk.refl _)) .nil) ?_
           rfl
          ·
           refine r_d rfl rfl rfl (s_move rfl rfl) ?_
           refine r_d rfl rfl rfl (s_cmp rfl rfl rfl rfl) ?_
           refine r_d rfl rfl rfl (s_pickF rfl rfl rfl) ?_
           refine r_d rfl rfl rfl (s_move rfl rfl) ?_
           refine r_sB 144 rfl hr (fun h144_34 hr => ?_) (fun h144_34 hr => ?_)
           ·
            refine r_skip rfl rfl rfl ?_
            refine r_skip rfl rfl rfl ?_
            refine r_d rfl rfl rfl (s_pickT rfl rfl rfl) ?_
            refine r_d rfl rfl rfl (s_pickT rfl rfl rfl) ?_
            refine r_d rfl rfl rfl (s_pickF rfl rfl rfl) ?_
            refine r_end ?_
            refine g_condT rfl ?_
            refine g_seq ?_
            refine g_run (by kernel_rfl) [(0, .d)] rfl ?_
            refine r_d rfl rfl rfl (s_assign rfl rfl) ?_
            refine r_end ?_
            obtain rfl := Option.some.inj hr
            refine g_ret Try.func52 _ (.cons (resTmp rfl (Wk.refl _)) .nil) ?_
            rfl
           ·
            refine r_d rfl rfl rfl (s_move rfl rfl) ?_
            refine r_d rfl rfl rfl (s_cmp rfl rfl rfl rfl) ?_
            refine r_d rfl rfl rfl (s_pickF rfl rfl rfl) ?_
            refine r_d rfl rfl rfl (s_pickT rfl rfl rfl) ?_
            refine r_d rfl rfl rfl (s_pickF rfl rfl rfl) ?_
            refine r_end ?_
            refine g_sB 149 rfl hr (fun h149_35 hr => ?_) (fun h149_35 hr => ?_)
            ·
             refine g_condT rfl ?_
             refine g_seq ?_
             refine g_run (by kernel_rfl) [(0, .d)] rfl ?_
             refine r_d rfl rfl rfl (s_assign rfl rfl) ?_
             refine r_end ?_
             obtain rfl := Option.some.inj hr
             refine g_ret Try.func52 _ (.cons (resTmp rfl (Wk.refl _)) .nil) ?_
             rfl
            ·
             refine g_condF rfl ?_
             refine g_skip ?_
             refine g_run (by kernel_rfl) [(0, .d), (1, .d)] rfl ?_
             refine r_d rfl rfl rfl (s_move rfl rfl) ?_
             refine r_d rfl rfl rfl (s_assign rfl rfl) ?_
             refine r_end ?_
             refine g_inBlock ?_
             refine g_run (by kernel_rfl) [(0, .d), (1, .d)] rfl ?_
             refine r_d rfl rfl rfl (s_ar (r := ((i_8 + 1 : Nat) : Int)) rfl rfl rfl (by simp [iar]) (by omega)) ?_
             refine r_d rfl rfl rfl (s_move rfl rfl) ?_
             refine r_end ?_
             refine g_sub [(1, .ptr (enc_S_api_Block b_a0)), (3, .ref b3_0 0 []), (4, .map m16_2), (18, .lst (b_a0.f1_Code.map enc_S_api_Instr)), (19, .int .i64 (b_a0.f1_Code.length : Int)), (5, .bool (q_20.f1_A == b_a0.f0_Occ.f1_Head)), (6, .bool kept_5), (7, .int .i64 1), (8, .int .i64 q_20.f1_A), (20, .int .i64 ((i_8 + 1 : Nat) : Int))] (Sub.cons' rfl (Sub.cons' rfl (Sub.cons' rfl (Sub.cons' rfl (Sub.cons' rfl (Sub.cons' rfl (Sub.cons' rfl (Sub.cons' rfl (Sub.cons' rfl (Sub.cons' rfl (Sub.nil _))))))))))) ?_
             exact IH0 _ _ _ (by omega) ⟨(q_20.f1_A == b_a0.f0_Occ.f1_Head), kept_5, 1, q_20.f1_A, (i_8 + 1), bound_9, bound_10, bound_11, bound_12, mm_13, rfl, rfl, rfl, (by omega), hr⟩
         ·
          refine r_skip rfl rfl rfl ?_
          refine r_skip rfl rfl rfl ?_
          refine r_skip rfl rfl rfl ?_
          refine r_skip rfl rfl rfl ?_
          refine r_skip rfl rfl rfl ?_
          refine r_skip rfl rfl rfl ?_
          refine r_skip rfl rfl rfl ?_
          refine r_skip rfl rfl rfl ?_
          refine r_skip rfl rfl rfl ?_
          refine r_skip rfl rfl rfl ?_
          refine r_d rfl rfl rfl (s_pickF rfl rfl rfl) ?_
          refine r_d rfl rfl rfl (s_pickF rfl rfl rfl) ?_
          refine r_end ?_
          refine g_condF rfl ?_
          refine g_skip ?_
          refine g_run (by kernel_rfl) [(0, .d), (1, .d)] rfl ?_
          refine r_d rfl rfl rfl (s_move rfl rfl) ?_
          refine r_d rfl rfl rfl (s_assign rfl rfl) ?_
          refine r_end ?_
          refine g_inBlock ?_
          refine g_run (by kernel_rfl) [(0, .d), (1, .d)] rfl ?_
          refine r_d rfl rfl rfl (s_ar (r := ((i_8 + 1 : Nat) : Int)) rfl rfl rfl (by simp [iar]) (by omega)) ?_
          refine r_d rfl rfl rfl (s_move rfl rfl) ?_
          refine r_end ?_
          refine g_sub [(1, .ptr (enc_S_api_Block b_a0)), (3, .ref b3_0 0 []), (4, .map m16_2), (18, .lst (b_a0.f1_Code.map enc_S_api_Instr)), (19, .int .i64 (b_a0.f1_Code.length : Int)), (5, .bool (q_20.f1_A == b_a0.f0_Occ.f1_Head)), (6, .bool kept_5), (7, .int .i64 1), (8, .int .i64 q_20.f1_A), (20, .int .i64 ((i_8 + 1 : Nat) : Int))] (Sub.cons' rfl (Sub.cons' rfl (Sub.cons' rfl (Sub.cons' rfl (Sub.cons' rfl (Sub.cons' rfl (Sub.cons' rfl (Sub.cons' rfl (Sub.cons' rfl (Sub.cons' rfl (Sub.nil _))))))))))) ?_
          exact IH0 _ _ _ (by omega) ⟨(q_20.f1_A == b_a0.f0_Occ.f1_Head), kept_5, 1, q_20.f1_A, (i_8 + 1), bound_9, bound_10, bound_11, bound_12, mm_13, rfl, rfl, rfl, (by omega), hr⟩
    ·
     refine g_condF rfl ?_
     refine g_seq ?_
     refine g_run (by kernel_rfl) [(0, .d), (1, .d)] rfl ?_
     refine r_d rfl rfl rfl (s_cmp rfl rfl rfl rfl) ?_
     refine r_d rfl rfl rfl (s_assign rfl rfl) ?_
     refine r_end ?_
     refine g_sB 50 rfl hr (fun h50_36 hr => ?_) (fun h50_36 hr => ?_)
     ·
      refine g_condT rfl ?_
      refine g_seq ?_
      refine g_run (by kernel_rfl) [(0, .d)] rfl ?_
      refine r_d rfl rfl rfl (s_assign rfl rfl) ?_
      refine r_end ?_
      refine g_run (by kernel_rfl) [(0, .d)] rfl ?_
      refine r_d rfl rfl rfl (s_assign rfl rfl) ?_
      refine r_end ?_
      refine g_inBlock ?_
      refine g_seq ?_
      refine g_seq ?_
      refine g_run (by kernel_rfl) [(0, .d), (1, .d), (2, .d), (3, .d), (4, .d), (5, .d), (6, .d), (7, .d), (8, .d), (9, .d), (10, .d), (11, .d), (12, .d), (13, .d), (14, .d), (15, .d), (16, .d), (17, .d), (18, .d), (19, .d)] rfl ?_
      refine r_d rfl rfl rfl (s_move rfl rfl) ?_
      refine r_d rfl rfl rfl (s_move rfl rfl) ?_
      refine r_d rfl rfl rfl (s_cmp rfl rfl rfl rfl) ?_
      refine r_d rfl rfl rfl (s_move rfl rfl) ?_
      refine r_sB 133 rfl hr (fun h133_37 hr => ?_) (fun h133_37 hr => ?_)
      ·
       refine r_skip rfl rfl rfl ?_
       refine r_skip rfl rfl rfl ?_
       refine r_skip rfl rfl rfl ?_
       refine r_skip rfl rfl rfl ?_
       refine r_skip rfl rfl rfl ?_
       refine r_skip rfl rfl rfl ?_
       refine r_skip rfl rfl rfl ?_
       refine r_skip rfl rfl rfl ?_
       refine r_skip rfl rfl rfl ?_
       refine r_skip rfl rfl rfl ?_
       refine r_skip rfl rfl rfl ?_
       refine r_skip rfl rfl rfl ?_
       refine r_skip rfl rfl rfl ?_
       refine r_skip rfl rfl rfl ?_
       refine r_skip rfl rfl rfl ?_
       refine r_d rfl rfl rfl (s_pickT rfl rfl rfl) ?_
       refine r_end ?_
       refine g_condT rfl ?_
       refine g_seq ?_
       refine g_run (by kernel_rfl) [(0, .d)] rfl ?_
       refine r_d rfl rfl rfl (s_assign rfl rfl) ?_
       refine r_end ?_
       obtain rfl := Option.some.inj hr
       refine g_ret Try.func52 _ (.cons (resTmp rfl (Wk.refl _)) .nil) ?_
       rfl
      ·
       refine r_d rfl rfl rfl (s_move rfl rfl) ?_
       refine r_d rfl rfl rfl (s_move rfl rfl) ?_
       refine r_d rfl rfl rfl (s_cmp rfl rfl rfl rfl) ?_
       refine r_d rfl rfl rfl (s_move rfl rfl) ?_
       refine r_sB 137 rfl hr (fun h137_38 hr => ?_) (fun h137_38 hr => ?_)
       ·
        refine r_d rfl rfl rfl (s_move rfl rfl) ?_
        refine r_d rfl rfl rfl (s_cmp rfl rfl rfl rfl) ?_
        refine r_d rfl rfl rfl (s_move rfl rfl) ?_
        refine r_sB 140 rfl hr (fun h140_39 hr => ?_) (fun h140_39 hr => ?_)
        ·
         refine r_skip rfl rfl rfl ?_
         refine r_skip rfl rfl rfl ?_
         refine r_d rfl rfl rfl (s_pickT rfl rfl rfl) ?_
         refine r_d rfl rfl rfl (s_move rfl rfl) ?_
         refine r_skip rfl rfl rfl ?_
         refine r_skip rfl rfl rfl ?_
         refine r_d rfl rfl rfl (s_pickT rfl rfl rfl) ?_
         refine r_d rfl rfl rfl (s_pickT rfl rfl rfl) ?_
         refine r_d rfl rfl rfl (s_pickF rfl rfl rfl) ?_
         refine r_end ?_
         refine g_condT rfl ?_
         refine g_seq ?_
         refine g_run (by kernel_rfl) [(0, .d)] rfl ?_
         refine r_d rfl rfl rfl (s_assign rfl rfl) ?_
         refine r_end ?_
         obtain rfl := Option.some.inj hr
         refine g_ret Try.func52 _ (.cons (resTmp rfl (Wk.refl _)) .nil) ?_
         rfl
        ·
         refine r_d rfl rfl rfl (s_move rfl rfl) ?_
         refine r_d rfl rfl rfl (s_cmp rfl rfl rfl rfl) ?_
         refine r_d rfl rfl rfl (s_pickF rfl rfl rfl) ?_
         refine r_d rfl rfl rfl (s_move rfl rfl) ?_
         refine r_sB 144 rfl hr (fun h144_40 hr => ?_) (fun h144_40 hr => ?_)
         ·
          refine r_skip rfl rfl rfl ?_
          refine r_skip rfl rfl rfl ?_
          refine r_d rfl rfl rfl (s_pickT rfl rfl rfl) ?_
          refine r_d rfl rfl rfl (s_pickT rfl rfl rfl) ?_
          refine r_d rfl rfl rfl (s_pickF rfl rfl rfl) ?_
          refine r_end ?_
          refine g_condT rfl ?_
          refine g_seq ?_
          refine g_run (by kernel_rfl) [(0, .d)] rfl ?_
          refine r_d rfl rfl rfl (s_assign rfl rfl) ?_
          refine r_end ?_
          obtain rfl := Option.some.inj hr
          refine g_ret Try.func52 _ (.cons (resTmp rfl (Wk.refl _)) .nil) ?_
          rfl
         ·
          refine r_d rfl rfl rfl (s_move rfl rfl) ?_
          refine r_d rfl rfl rfl (s_cmp rfl rfl rfl rfl) ?_
          refine r_d rfl rfl rfl (s_pickF rfl rfl rfl) ?_
          refine r_d rfl rfl rfl (s_pickT rfl rfl rfl) ?_
          refine r_d rfl rfl rfl (s_pickF rfl rfl rfl) ?_
          refine r_end ?_
          refine g_sB 149 rfl hr (fun h149_41 hr => ?_) (fun h149_41 hr => ?_)
          ·
           refine g_condT rfl ?_
           refine g_seq ?_
           refine g_run (by kernel_rfl) [(0, .d)] rfl ?_
           refine r_d rfl rfl rfl (s_assign rfl rfl) ?_
           refine r_end ?_
           obtain rfl := Option.some.inj hr
           refine g_ret Try.func52 _ (.cons (resTmp rfl (Wk.refl _)) .nil) ?_
           rfl
          ·
           refine g_condF rfl ?_
           refine g_skip ?_
           refine g_run (by kernel_rfl) [(0, .d), (1, .d)] rfl ?_
           refine r_d rfl rfl rfl (s_move rfl rfl) ?_
           refine r_d rfl rfl rfl (s_assign rfl rfl) ?_
           refine r_end ?_
           refine g_inBlock ?_
           refine g_run (by kernel_rfl) [(0, .d), (1, .d)] rfl ?_
           refine r_d rfl rfl rfl (s_ar (r := ((i_8 + 1 : Nat) : Int)) rfl rfl rfl (by simp [iar]) (by omega)) ?_
           refine r_d rfl rfl rfl (s_move rfl rfl) ?_
           refine r_end ?_
           refine g_sub [(1, .ptr (enc_S_api_Block b_a0)), (3, .ref b3_0 0 []), (4, .map m16_2), (18, .lst (b_a0.f1_Code.map enc_S_api_Instr)), (19, .int .i64 (b_a0.f1_Code.length : Int)), (5, .bool removed_4), (6, .bool true), (7, .int .i64 2), (8, .int .i64 last_7), (20, .int .i64 ((i_8 + 1 : Nat) : Int))] (Sub.cons' rfl (Sub.cons' rfl (Sub.cons' rfl (Sub.cons' rfl (Sub.cons' rfl (Sub.cons' rfl (Sub.cons' rfl (Sub.cons' rfl (Sub.cons' rfl (Sub.cons' rfl (Sub.nil _))))))))))) ?_
           exact IH0 _ _ _ (by omega) ⟨removed_4, true, 2, last_7, (i_8 + 1), bound_9, bound_10, bound_11, bound_12, mm_13, rfl, rfl, rfl, (by omega), hr⟩
       ·
        refine r_skip rfl rfl rfl ?_
        refine r_skip rfl rfl rfl ?_
        refine r_skip rfl rfl rfl ?_
        refine r_skip rfl rfl rfl ?_
        refine r_skip rfl rfl rfl ?_
        refine r_skip rfl rfl rfl ?_
        refine r_skip rfl rfl rfl ?_
        refine r_skip rfl rfl rfl ?_
        refine r_skip rfl rfl rfl ?_
        refine r_skip rfl rfl rfl ?_
        refine r_d rfl rfl rfl (s_pickF rfl rfl rfl) ?_
        refine r_d rfl rfl rfl (s_pickF rfl rfl rfl) ?_
        refine r_end ?_
        refine g_condF rfl ?_
        refine g_skip ?_
        refine g_run (by kernel_rfl) [(0, .d), (1, .d)] rfl ?_
        refine r_d rfl rfl rfl (s_move rfl rfl) ?_
        refine r_d rfl rfl rfl (s_assign rfl rfl) ?_
        refine r_end ?_
        refine g_inBlock ?_
        refine g_run (by kernel_rfl) [(0, .d), (1, .d)] rfl ?_
        refine r_d rfl rfl rfl (s_ar (r := ((i_8 + 1 : Nat) : Int)) rfl rfl rfl (by simp [iar]) (by omega)) ?_
        refine r_d rfl rfl rfl (s_move rfl rfl) ?_
        refine r_end ?_
        refine g_sub [(1, .ptr (enc_S_api_Block b_a0)), (3, .ref b3_0 0 []), (4, .map m16_2), (18, .lst (b_a0.f1_Code.map enc_S_api_Instr)), (19, .int .i64 (b_a0.f1_Code.length : Int)), (5, .bool removed_4), (6, .bool true), (7, .int .i64 2), (8, .int .i64 last_7), (20, .int .i64 ((i_8 + 1 : Nat) : Int))] (Sub.cons' rfl (Sub.cons' rfl (Sub.cons' rfl (Sub.cons' rfl (Sub.cons' rfl (Sub.cons' rfl (Sub.cons' rfl (Sub.cons' rfl (Sub.cons' rfl (Sub.cons' rfl (Sub.nil _))))))))))) ?_
        exact IH0 _ _ _ (by omega) ⟨removed_4, true, 2, last_7, (i_8 + 1), bound_9, bound_10, bound_11, bound_12, mm_13, rfl, rfl, rfl, (by omega), hr⟩
     ·
      refine g_condF rfl ?_
      refine g_seq ?_
      refine g_run (by kernel_rfl) [(0, .d), (1, .d)] rfl ?_
      refine r_d rfl rfl rfl (s_cmp rfl rfl rfl rfl) ?_
      refine r_d rfl rfl rfl (s_assign rfl rfl) ?_
      refine r_end ?_
      refine g_sB 52 rfl hr (fun h52_42 hr => ?_) (fun h52_42 hr => ?_)
      ·
       refine g_condT rfl ?_
       refine g_seq ?_
       refine g_run (by kernel_rfl) [(0, .d)] rfl ?_
       refine r_d rfl rfl rfl (s_assign rfl rfl) ?_
       refine r_end ?_
       refine g_seq ?_
       refine g_run (by kernel_rfl) [(0, .d), (1, .d), (2, .w), (3, .d), (4, .d), (5, .d), (6, .d), (7, .d), (8, .r), (9, .d), (10, .d), (11, .d), (12, .d), (13, .d), (14, .d), (15, .d), (16, .d), (17, .d), (18, .d)] rfl ?_
       refine r_d rfl rfl rfl (s_fieldAddr rfl fl_api_Instr_2 rfl rfl rfl rfl) ?_
       refine r_d rfl rfl rfl (s_load rfl rfl (by exact ty_int) rfl) ?_
       obtain ⟨r_44, hr_44, hr⟩ := bindS hr
       refine r_w rfl rfl rfl (s_call _ rfl cl_Pinstr_set_first (.cons rfl (Wk.refl _) (.cons rfl (Wk.refl _) .nil)) (by exact (pf0 _)) (lg_Pinstr_set_first_s1 _ _ _ _ _ _ _ hr_44)) ?_
       rintro _ _ ⟨_, ⟨rfl, rfl⟩, rfl⟩
       refine r_st ((.cell b3_0 (.agg [.bool r_44.2.1, .bool r_44.2.2.1, .bool r_44.2.2.2.1, .bool r_44.2.2.2.2])) :: _) rfl ?_
       refine r_d rfl rfl rfl (s_not rfl rfl) ?_
       refine r_d rfl rfl rfl (s_move rfl rfl) ?_
       refine r_sB 58 rfl hr (fun h58_44 hr => ?_) (fun h58_44 hr => ?_)
       ·
        refine r_skip rfl rfl rfl ?_
        refine r_skip rfl rfl rfl ?_
        refine r_skip rfl rfl rfl ?_
        refine r_skip rfl rfl rfl ?_
        refine r_skip rfl rfl rfl ?_
        refine r_d rfl rfl rfl (s_pickT rfl rfl rfl) ?_
        refine r_d rfl rfl rfl (s_move rfl rfl) ?_
        refine r_skip rfl rfl rfl ?_
        refine r_skip rfl rfl rfl ?_
        refine r_skip rfl rfl rfl ?_
        refine r_skip rfl rfl rfl ?_
        refine r_skip rfl rfl rfl ?_
        refine r_skip rfl rfl rfl ?_
        refine r_d rfl rfl rfl (s_pickT rfl rfl rfl) ?_
        refine r_end ?_
        refine g_condT rfl ?_
        refine g_seq ?_
        refine g_run (by kernel_rfl) [(0, .d)] rfl ?_
        refine r_d rfl rfl rfl (s_assign rfl rfl) ?_
        refine r_end ?_
        obtain rfl := Option.some.inj hr
        refine g_ret Try.func52 _ (.cons (resTmp rfl (Wk.refl _)) .nil) ?_
        rfl
       ·
        refine r_d rfl rfl rfl (s_move rfl rfl) ?_
        refine r_d rfl rfl rfl (s_fieldAddr rfl fl_api_Instr_2 rfl rfl rfl rfl) ?_
        refine r_d rfl rfl rfl (s_load rfl rfl (by exact ty_int) rfl) ?_
        refine r_r rfl rfl rfl (m_lookup1 (key := (D.int .i64)) (g := D.bool) mm_13 q_20.f2_B false rfl Try.underlying105 (keyInt Try.underlying3) zm_bool rfl rfl (.tail _ (.head _))) ?_
        refine r_d rfl rfl rfl (s_not rfl rfl) ?_
        refine r_d rfl rfl rfl (s_pickF rfl rfl rfl) ?_
        refine r_d rfl rfl rfl (s_move rfl rfl) ?_
        refine r_sB 65 rfl hr (fun h65_45 hr => ?_) (fun h65_45 hr => ?_)
        ·
         refine r_skip rfl rfl rfl ?_
         refine r_skip rfl rfl rfl ?_
         refine r_skip rfl rfl rfl ?_
         refine r_skip rfl rfl rfl ?_
         refine r_skip rfl rfl rfl ?_
         refine r_skip rfl rfl rfl ?_
         refine r_d rfl rfl rfl (s_pickT rfl rfl rfl) ?_
         refine r_end ?_
         refine g_condT rfl ?_
         refine g_seq ?_
         refine g_run (by kernel_rfl) [(0, .d)] rfl ?_
         refine r_d rfl rfl rfl (s_assign rfl rfl) ?_
         refine r_end ?_
         obtain rfl := Option.some.inj hr
         refine g_ret Try.func52 _ (.cons (resTmp rfl (Wk.refl _)) .nil) ?_
         rfl
        ·
         refine r_d rfl rfl rfl (s_fieldAddr rfl fl_api_Instr_1 rfl rfl rfl rfl) ?_
         refine r_d rfl rfl rfl (s_load rfl rfl (by exact ty_int) rfl) ?_
         refine r_d rfl rfl rfl (s_fieldAddr rfl fl_api_Block_0 rfl rfl rfl rfl) ?_
         refine r_d rfl rfl rfl (s_fieldAddr rfl fl_api_Occ_0 rfl rfl rfl rfl) ?_
         refine r_d rfl rfl rfl (s_load rfl rfl (by exact ty_int) rfl) ?_
         refine r_d rfl rfl rfl (s_cmp rfl rfl rfl rfl) ?_
         refine r_d rfl rfl rfl (s_pickF rfl rfl rfl) ?_
         refine r_end ?_
         refine g_sB 72 rfl hr (fun h72_46 hr => ?_) (fun h72_46 hr => ?_)
         ·
          refine g_condT rfl ?_
          refine g_seq ?_
          refine g_run (by kernel_rfl) [(0, .d)] rfl ?_
          refine r_d rfl rfl rfl (s_assign rfl rfl) ?_
          refine r_end ?_
          obtain rfl := Option.some.inj hr
          refine g_ret Try.func52 _ (.cons (resTmp rfl (Wk.refl _)) .nil) ?_
          rfl
         ·
          refine g_condF rfl ?_
          refine g_skip ?_
          refine g_inBlock ?_
          refine g_seq ?_
          refine g_seq ?_
          refine g_run (by kernel_rfl) [(0, .d), (1, .d), (2, .d), (3, .d), (4, .d), (5, .d), (6, .d), (7, .d), (8, .d), (9, .d), (10, .d), (11, .d), (12, .d), (13, .d), (14, .d), (15, .d), (16, .d), (17, .d), (18, .d), (19, .d)] rfl ?_
          refine r_d rfl rfl rfl (s_move rfl rfl) ?_
          refine r_d rfl rfl rfl (s_move rfl rfl) ?_
          refine r_d rfl rfl rfl (s_cmp rfl rfl rfl rfl) ?_
          refine r_d rfl rfl rfl (s_move rfl rfl) ?_
          refine r_sB 133 rfl hr (fun h133_47 hr => ?_) (fun h133_47 hr => ?_)
          ·
           refine r_skip rfl rfl rfl ?_
           refine r_skip rfl rfl rfl ?_
           refine r_skip rfl rfl rfl ?_
           refine r_skip rfl rfl rfl ?_
           refine r_skip rfl rfl rfl ?_
           refine r_skip rfl rfl rfl ?_
           refine r_skip rfl rfl rfl ?_
           refine r_skip rfl rfl rfl ?_
           refine r_skip rfl rfl rfl ?_
           refine r_skip rfl rfl rfl ?_
           refine r_skip rfl rfl rfl ?_
           refine r_skip rfl rfl rfl ?_
           refine r_skip rfl rfl rfl ?_
           refine r_skip rfl rfl rfl ?_
           refine r_skip rfl rfl rfl ?_
           refine r_d rfl rfl rfl (s_pickT rfl rfl rfl) ?_
           refine r_end ?_
           refine g_condT rfl ?_
           refine g_seq ?_
           refine g_run (by kernel_rfl) [(0, .d)] rfl ?_
           refine r_d rfl rfl rfl (s_assign rfl rfl) ?_
           refine r_end ?_
           obtain rfl := Option.some.inj hr
           refine g_ret Try.func52 _ (.cons (resTmp rfl (Wk.refl _)) .nil) ?_
           rfl
          ·
           refine r_d rfl rfl rfl (s_move rfl rfl) ?_
           refine r_d rfl rfl rfl (s_move rfl rfl) ?_
           refine r_d rfl rfl rfl (s_cmp rfl rfl rfl rfl) ?_
           refine r_d rfl rfl rfl (s_move rfl rfl) ?_
           refine r_sB 137 rfl hr (fun h137_48 hr => ?_) (fun h137_48 hr => ?_)
           ·
            refine r_d rfl rfl rfl (s_move rfl rfl) ?_
            refine r_d rfl rfl rfl (s_cmp rfl rfl rfl rfl) ?_
            refine r_d rfl rfl rfl (s_move rfl rfl) ?_
            refine r_sB 140 rfl hr (fun h140_49 hr => ?_) (fun h140_49 hr => ?_)
            ·
             refine r_skip rfl rfl rfl ?_
             refine r_skip rfl rfl rfl ?_
             refine r_d rfl rfl rfl (s_pickT rfl rfl rfl) ?_
             refine r_d rfl rfl rfl (s_move rfl rfl) ?_
             refine r_skip rfl rfl rfl ?_
             refine r_skip rfl rfl rfl ?_
             refine r_d rfl rfl rfl (s_pickT rfl rfl rfl) ?_
             refine r_d rfl rfl rfl (s_pickT rfl rfl rfl) ?_
             refine r_d rfl rfl rfl (s_pickF rfl rfl rfl) ?_
             refine r_end ?_
             refine g_condT rfl ?_
             refine g_seq ?_
             refine g_run (by kernel_rfl) [(0, .d)] rfl ?_
             refine r_d rfl rfl rfl (s_assign rfl rfl) ?_
             refine r_end ?_
             obtain rfl := Option.some.inj hr
             refine g_ret Try.func52 _ (.cons (resTmp rfl (Wk.refl _)) .nil) ?_
             rfl
            ·
             refine r_d rfl rfl rfl (s_move rfl rfl) ?_
             refine r_d rfl rfl rfl (s_cmp rfl rfl rfl rfl) ?_
             refine r_d rfl rfl rfl (s_pickF rfl rfl rfl) ?_
             refine r_d rfl rfl rfl (s_move rfl rfl) ?_
             refine r_sB 144 rfl hr (fun h144_50 hr => ?_) (fun h144_50 hr => ?_)
             ·
              refine r_skip rfl rfl rfl ?_
              refine r_skip rfl rfl rfl ?_
              refine r_d rfl rfl rfl (s_pickT rfl rfl rfl) ?_
              refine r_d rfl rfl rfl (s_pickT rfl rfl rfl) ?_
              refine r_d rfl rfl rfl (s_pickF rfl rfl rfl) ?_
              refine r_end ?_
              refine g_condT rfl ?_
              refine g_seq ?_
              refine g_run (by kernel_rfl) [(0, .d)] rfl ?_
              refine r_d rfl rfl rfl (s_assign rfl rfl) ?_
              refine r_end ?_
              obtain rfl := Option.some.inj hr
              refine g_ret Try.func52 _ (.cons (resTmp rfl (Wk.refl _)) .nil) ?_
              rfl
             ·
              refine r_d rfl rfl rfl (s_move rfl rfl) ?_
              refine r_d rfl rfl rfl (s_cmp rfl rfl rfl rfl) ?_
              refine r_d rfl rfl rfl (s_pickF rfl rfl rfl) ?_
              refine r_d rfl rfl rfl (s_pickT rfl rfl rfl) ?_
              refine r_d rfl rfl rfl (s_pickF rfl rfl rfl) ?_
              refine r_end ?_
              refine g_sB 149 rfl hr (fun h149_51 hr => ?_) (fun h149_51 hr => ?_)
              ·
               refine g_condT rfl ?_
               refine g_seq ?_
               refine g_run (by kernel_rfl) [(0, .d)] rfl ?_
               refine r_d rfl rfl rfl (s_assign rfl rfl) ?_
               refine r_end ?_
               obtain rfl := Option.some.inj hr
               refine g_ret Try.func52 _ (.cons (resTmp rfl (Wk.refl _)) .nil) ?_
               rfl
              ·
               refine g_condF rfl ?_
               refine g_skip ?_
               refine g_run (by kernel_rfl) [(0, .d), (1, .d)] rfl ?_
               refine r_d rfl rfl rfl (s_move rfl rfl) ?_
               refine r_d rfl rfl rfl (s_assign rfl rfl) ?_
               refine r_end ?_
               refine g_inBlock ?_
               refine g_run (by kernel_rfl) [(0, .d), (1, .d)] rfl ?_
               refine r_d rfl rfl rfl (s_ar (r := ((i_8 + 1 : Nat) : Int)) rfl rfl rfl (by simp [iar]) (by omega)) ?_
               refine r_d rfl rfl rfl (s_move rfl rfl) ?_
               refine r_end ?_
               refine g_sub [(1, .ptr (enc_S_api_Block b_a0)), (3, .ref b3_0 0 []), (4, .map m16_2), (18, .lst (b_a0.f1_Code.map enc_S_api_Instr)), (19, .int .i64 (b_a0.f1_Code.length : Int)), (5, .bool removed_4), (6, .bool kept_5), (7, .int .i64 3), (8, .int .i64 last_7), (20, .int .i64 ((i_8 + 1 : Nat) : Int))] (Sub.cons' rfl (Sub.cons' rfl (Sub.cons' rfl (Sub.cons' rfl (Sub.cons' rfl (Sub.cons' rfl (Sub.cons' rfl (Sub.cons' rfl (Sub.cons' rfl (Sub.cons' rfl (Sub.nil _))))))))))) ?_
               exact IH0 _ _ _ (by omega) ⟨removed_4, kept_5, 3, last_7, (i_8 + 1), r_44.2.1, r_44.2.2.1, r_44.2.2.2.1, r_44.2.2.2.2, mm_13, rfl, rfl, rfl, (by omega), hr⟩
           ·
            refine r_skip rfl rfl rfl ?_
            refine r_skip rfl rfl rfl ?_
            refine r_skip rfl rfl rfl ?_
            refine r_skip rfl rfl rfl ?_
            refine r_skip rfl rfl rfl ?_
            refine r_skip rfl rfl rfl ?_
            refine r_skip rfl rfl rfl ?_
            refine r_skip rfl rfl rfl ?_
            refine r_skip rfl rfl rfl ?_
            refine r_skip rfl rfl rfl ?_
            refine r_d rfl rfl rfl (s_pickF rfl rfl rfl) ?_
            refine r_d rfl rfl rfl (s_pickF rfl rfl rfl) ?_
            refine r_end ?_
            refine g_condF rfl ?_
            refine g_skip ?_
            refine g_run (by kernel_rfl) [(0, .d), (1, .d)] rfl ?_
            refine r_d rfl rfl rfl (s_move rfl rfl) ?_
            refine r_d rfl rfl rfl (s_assign rfl rfl) ?_
            refine r_end ?_
            refine g_inBlock ?_
            refine g_run (by kernel_rfl) [(0, .d), (1, .d)] rfl ?_
            refine r_d rfl rfl rfl (s_ar (r := ((i_8 + 1 : Nat) : Int)) rfl rfl rfl (by simp [iar]) (by omega)) ?_
            refine r_d rfl rfl rfl (s_move rfl rfl) ?_
            refine r_end ?_
            refine g_sub [(1, .ptr (enc_S_api_Block b_a0)), (3, .ref b3_0 0 []), (4, .map m16_2), (18, .lst (b_a0.f1_Code.map enc_S_api_Instr)), (19, .int .i64 (b_a0.f1_Code.length : Int)), (5, .bool removed_4), (6, .bool kept_5), (7, .int .i64 3), (8, .int .i64 last_7), (20, .int .i64 ((i_8 + 1 : Nat) : Int))] (Sub.cons' rfl (Sub.cons' rfl (Sub.cons' rfl (Sub.cons' rfl (Sub.cons' rfl (Sub.cons' rfl (Sub.cons' rfl (Sub.cons' rfl (Sub.cons' rfl (Sub.cons' rfl (Sub.nil _))))))))))) ?_
            exact IH0 _ _ _ (by omega) ⟨removed_4, kept_5, 3, last_7, (i_8 + 1), r_44.2.1, r_44.2.2.1, r_44.2.2.2.1, r_44.2.2.2.2, mm_13, rfl, rfl, rfl, (by omega), hr⟩
      ·
       refine g_condF rfl ?_
       refine g_seq ?_
       refine g_run (by kernel_rfl) [(0, .d), (1, .d)] rfl ?_
       refine r_d rfl rfl rfl (s_cmp rfl rfl rfl rfl) ?_
       refine r_d rfl rfl rfl (s_assign rfl rfl) ?_
       refine r_end ?_
       refine g_sB 73 rfl hr (fun h73_52 hr => ?_) (fun h73_52 hr => ?_)
       ·
        refine g_condT rfl ?_
        refine g_run (by kernel_rfl) [(0, .d)] rfl ?_
        refine r_d rfl rfl rfl (s_assign rfl rfl) ?_
        refine r_end ?_
        refine g_inBlock ?_
        refine g_seq ?_
        refine g_seq ?_
        refine g_run (by kernel_rfl) [(0, .d), (1, .d), (2, .d), (3, .d), (4, .d), (5, .d), (6, .d), (7, .d), (8, .d), (9, .d), (10, .d), (11, .d), (12, .d), (13, .d), (14, .d), (15, .d), (16, .d), (17, .d), (18, .d), (19, .d)] rfl ?_
        refine r_d rfl rfl rfl (s_move rfl rfl) ?_
        refine r_d rfl rfl rfl (s_move rfl rfl) ?_
        refine r_d rfl rfl rfl (s_cmp rfl rfl rfl rfl) ?_
        refine r_d rfl rfl rfl (s_move rfl rfl) ?_
        refine r_sB 133 rfl hr (fun h133_53 hr => ?_) (fun h133_53 hr => ?_)
        ·
         refine r_skip rfl rfl rfl ?_
         refine r_skip rfl rfl rfl ?_
         refine r_skip rfl rfl rfl ?_
         refine r_skip rfl rfl rfl ?_
         refine r_skip rfl rfl rfl ?_
         refine r_skip rfl rfl rfl ?_
         refine r_skip rfl rfl rfl ?_
         refine r_skip rfl rfl rfl ?_
         refine r_skip rfl rfl rfl ?_
         refine r_skip rfl rfl rfl ?_
         refine r_skip rfl rfl rfl ?_
         refine r_skip rfl rfl rfl ?_
         refine r_skip rfl rfl rfl ?_
         refine r_skip rfl rfl rfl ?_
         refine r_skip rfl rfl rfl ?_
         refine r_d rfl rfl rfl (s_pickT rfl rfl rfl) ?_
         refine r_end ?_
         refine g_condT rfl ?_
         refine g_seq ?_
         refine g_run (by kernel_rfl) [(0, .d)] rfl ?_
         refine r_d rfl rfl rfl (s_assign rfl rfl) ?_
         refine r_end ?_
         obtain rfl := Option.some.inj hr
         refine g_ret Try.func52 _ (.cons (resTmp rfl (Wk.refl _)) .nil) ?_
         rfl
        ·
         refine r_d rfl rfl rfl (s_move rfl rfl) ?_
         refine r_d rfl rfl rfl (s_move rfl rfl) ?_
         refine r_d rfl rfl rfl (s_cmp rfl rfl rfl rfl) ?_
         refine r_d rfl rfl rfl (s_move rfl rfl) ?_
         refine r_sB 137 rfl hr (fun h137_54 hr => ?_) (fun h137_54 hr => ?_)
         ·
          refine r_d rfl rfl rfl (s_move rfl rfl) ?_
          refine r_d rfl rfl rfl (s_cmp rfl rfl rfl rfl) ?_
          refine r_d rfl rfl rfl (s_move rfl rfl) ?_
          refine r_sB 140 rfl hr (fun h140_55 hr => ?_) (fun h140_55 hr => ?_)
          ·
           refine r_skip rfl rfl rfl ?_
           refine r_skip rfl rfl rfl ?_
           refine r_d rfl rfl rfl (s_pickT rfl rfl rfl) ?_
           refine r_d rfl rfl rfl (s_move rfl rfl) ?_
           refine r_skip rfl rfl rfl ?_
           refine r_skip rfl rfl rfl ?_
           refine r_d rfl rfl rfl (s_pickT rfl rfl rfl) ?_
           refine r_d rfl rfl rfl (s_pickT rfl rfl rfl) ?_
           refine r_d rfl rfl rfl (s_pickF rfl rfl rfl) ?_
           refine r_end ?_
           refine g_condT rfl ?_
           refine g_seq ?_
           refine g_run (by kernel_rfl) [(0, .d)] rfl ?_
           refine r_d rfl rfl rfl (s_assign rfl rfl) ?_
           refine r_end ?_
           obtain rfl := Option.some.inj hr
           refine g_ret Try.func52 _ (.cons (resTmp rfl (Wk.refl _)) .nil) ?_
           rfl
          ·
           refine r_d rfl rfl rfl (s_move rfl rfl) ?_
           refine r_d rfl rfl rfl (s_cmp rfl rfl rfl rfl) ?_
           refine r_d rfl rfl rfl (s_pickF rfl rfl rfl) ?_
           refine r_d rfl rfl rfl (s_move rfl rfl) ?_
           refine r_sB 144 rfl hr (fun h144_56 hr => ?_) (fun h144_56 hr => ?_)
           ·
            refine r_skip rfl rfl rfl ?_
            refine r_skip rfl rfl rfl ?_
            refine r_d rfl rfl rfl (s_pickT rfl rfl rfl) ?_
            refine r_d rfl rfl rfl (s_pickT rfl rfl rfl) ?_
            refine r_d rfl rfl rfl (s_pickF rfl rfl rfl) ?_
            refine r_end ?_
            refine g_condT rfl ?_
            refine g_seq ?_
            refine g_run (by kernel_rfl) [(0, .d)] rfl ?_
            refine r_d rfl rfl rfl (s_assign rfl rfl) ?_
            refine r_end ?_
            obtain rfl := Option.some.inj hr
            refine g_ret Try.func52 _ (.cons (resTmp rfl (Wk.refl _)) .nil) ?_
            rfl
           ·
            refine r_d rfl rfl rfl (s_move rfl rfl) ?_
            refine r_d rfl rfl rfl (s_cmp rfl rfl rfl rfl) ?_
            refine r_d rfl rfl rfl (s_pickF rfl rfl rfl) ?_
            refine r_d rfl rfl rfl (s_pickT rfl rfl rfl) ?_
            refine r_d rfl rfl rfl (s_pickF rfl rfl rfl) ?_
            refine r_end ?_
            refine g_sB 149 rfl hr (fun h149_57 hr => ?_) (fun h149_57 hr => ?_)
            ·
             refine g_condT rfl ?_
             refine g_seq ?_
             refine g_run (by kernel_rfl) [(0, .d)] rfl ?_
             refine r_d rfl rfl rfl (s_assign rfl rfl) ?_
             refine r_end ?_
             obtain rfl := Option.some.inj hr
             refine g_ret Try.func52 _ (.cons (resTmp rfl (Wk.refl _)) .nil) ?_
             rfl
            ·
             refine g_condF rfl ?_
             refine g_skip ?_
             refine g_run (by kernel_rfl) [(0, .d), (1, .d)] rfl ?_
             refine r_d rfl rfl rfl (s_move rfl rfl) ?_
             refine r_d rfl rfl rfl (s_assign rfl rfl) ?_
             refine r_end ?_
             refine g_inBlock ?_
             refine g_run (by kernel_rfl) [(0, .d), (1, .d)] rfl ?_
             refine r_d rfl rfl rfl (s_ar (r := ((i_8 + 1 : Nat) : Int)) rfl rfl rfl (by simp [iar]) (by omega)) ?_
             refine r_d rfl rfl rfl (s_move rfl rfl) ?_
             refine r_end ?_
             refine g_sub [(1, .ptr (enc_S_api_Block b_a0)), (3, .ref b3_0 0 []), (4, .map m16_2), (18, .lst (b_a0.f1_Code.map enc_S_api_Instr)), (19, .int .i64 (b_a0.f1_Code.length : Int)), (5, .bool removed_4), (6, .bool kept_5), (7, .int .i64 4), (8, .int .i64 last_7), (20, .int .i64 ((i_8 + 1 : Nat) : Int))] (Sub.cons' rfl (Sub.cons' rfl (Sub.cons' rfl (Sub.cons' rfl (Sub.cons' rfl (Sub.cons' rfl (Sub.cons' rfl (Sub.cons' rfl (Sub.cons' rfl (Sub.cons' rfl (Sub.nil _))))))))))) ?_
             exact IH0 _ _ _ (by omega) ⟨removed_4, kept_5, 4, last_7, (i_8 + 1), bound_9, bound_10, bound_11, bound_12, mm_13, rfl, rfl, rfl, (by omega), hr⟩
         ·
          refine r_skip rfl rfl rfl ?_
          refine r_skip rfl rfl rfl ?_
          refine r_skip rfl rfl rfl ?_
          refine r_skip rfl rfl rfl ?_
          refine r_skip rfl rfl rfl ?_
          refine r_skip rfl rfl rfl ?_
          refine r_skip rfl rfl rfl ?_
          refine r_skip rfl rfl rfl ?_
          refine r_skip rfl rfl rfl ?_
          refine r_skip rfl rfl rfl ?_
          refine r_d rfl rfl rfl (s_pickF rfl rfl rfl) ?_
          refine r_d rfl rfl rfl (s_pickF rfl rfl rfl) ?_
          refine r_end ?_
          refine g_condF rfl ?_
          refine g_skip ?_
          refine g_run (by kernel_rfl) [(0, .d), (1, .d)] rfl ?_
          refine r_d rfl rfl rfl (s_move rfl rfl) ?_
          refine r_d rfl rfl rfl (s_assign rfl rfl) ?_
          refine r_end ?_
          refine g_inBlock ?_
          refine g_run (by kernel_rfl) [(0, .d), (1, .d)] rfl ?_
          refine r_d rfl rfl rfl (s_ar (r := ((i_8 + 1 : Nat) : Int)) rfl rfl rfl (by simp [iar]) (by omega)) ?_
          refine r_d rfl rfl rfl (s_move rfl rfl) ?_
          refine r_end ?_
          refine g_sub [(1, .ptr (enc_S_api_Block b_a0)), (3, .ref b3_0 0 []), (4, .map m16_2), (18, .lst (b_a0.f1_Code.map enc_S_api_Instr)), (19, .int .i64 (b_a0.f1_Code.length : Int)), (5, .bool removed_4), (6, .bool kept_5), (7, .int .i64 4), (8, .int .i64 last_7), (20, .int .i64 ((i_8 + 1 : Nat) : Int))] (Sub.cons' rfl (Sub.cons' rfl (Sub.cons' rfl (Sub.cons' rfl (Sub.cons' rfl (Sub.cons' rfl (Sub.cons' rfl (Sub.cons' rfl (Sub.cons' rfl (Sub.cons' rfl (Sub.nil _))))))))))) ?_
          exact IH0 _ _ _ (by omega) ⟨removed_4, kept_5, 4, last_7, (i_8 + 1), bound_9, bound_10, bound_11, bound_12, mm_13, rfl, rfl, rfl, (by omega), hr⟩
       ·
        refine g_condF rfl ?_
        refine g_seq ?_
        refine g_run (by kernel_rfl) [(0, .d), (1, .d)] rfl ?_
        refine r_d rfl rfl rfl (s_cmp rfl rfl rfl rfl) ?_
        refine r_d rfl rfl rfl (s_assign rfl rfl) ?_
        refine r_end ?_
        refine g_sB 75 rfl hr (fun h75_58 hr => ?_) (fun h75_58 hr => ?_)
        ·
         refine g_condT rfl ?_
         refine g_seq ?_
         refine g_run (by kernel_rfl) [(0, .d)] rfl ?_
         refine r_d rfl rfl rfl (s_assign rfl rfl) ?_
         refine r_end ?_
         refine g_seq ?_
         refine g_run (by kernel_rfl) [(0, .d), (1, .d), (2, .d), (3, .d), (4, .d), (5, .d)] rfl ?_
         refine r_d rfl rfl rfl (s_fieldAddr rfl fl_api_Instr_1 rfl rfl rfl rfl) ?_
         refine r_d rfl rfl rfl (s_load rfl rfl (by exact ty_int) rfl) ?_
         refine r_d rfl rfl rfl (s_fieldAddr rfl fl_api_Block_0 rfl rfl rfl rfl) ?_
         refine r_d rfl rfl rfl (s_fieldAddr rfl fl_api_Occ_0 rfl rfl rfl rfl) ?_
         refine r_d rfl rfl rfl (s_load rfl rfl (by exact ty_int) rfl) ?_
         refine r_d rfl rfl rfl (s_cmp rfl rfl rfl rfl) ?_
         refine r_end ?_
         refine g_sB 82 rfl hr (fun h82_59 hr => ?_) (fun h82_59 hr => ?_)
         ·
          refine g_condT rfl ?_
          refine g_seq ?_
          refine g_run (by kernel_rfl) [(0, .d)] rfl ?_
          refine r_d rfl rfl rfl (s_assign rfl rfl) ?_
          refine r_end ?_
          obtain rfl := Option.some.inj hr
          refine g_ret Try.func52 _ (.cons (resTmp rfl (Wk.refl _)) .nil) ?_
          rfl
         ·
          refine g_condF rfl ?_
          refine g_skip ?_
          refine g_inBlock ?_
          refine g_seq ?_
          refine g_seq ?_
          refine g_run (by kernel_rfl) [(0, .d), (1, .d), (2, .d), (3, .d), (4, .d), (5, .d), (6, .d), (7, .d), (8, .d), (9, .d), (10, .d), (11, .d), (12, .d), (13, .d), (14, .d), (15, .d), (16, .d), (17, .d), (18, .d), (19, .d)] rfl ?_
          refine r_d rfl rfl rfl (s_move rfl rfl) ?_
          refine r_d rfl rfl rfl (s_move rfl rfl) ?_
          refine r_d rfl rfl rfl (s_cmp rfl rfl rfl rfl) ?_
          refine r_d rfl rfl rfl (s_move rfl rfl) ?_
          refine r_sB 133 rfl hr (fun h133_60 hr => ?_) (fun h133_60 hr => ?_)
          ·
           refine r_skip rfl rfl rfl ?_
           refine r_skip rfl rfl rfl ?_
           refine r_skip rfl rfl rfl ?_
           refine r_skip rfl rfl rfl ?_
           refine r_skip rfl rfl rfl ?_
           refine r_skip rfl rfl rfl ?_
           refine r_skip rfl rfl rfl ?_
           refine r_skip rfl rfl rfl ?_
           refine r_skip rfl rfl rfl ?_
           refine r_skip rfl rfl rfl ?_
           refine r_skip rfl rfl rfl ?_
           refine r_skip rfl rfl rfl ?_
           refine r_skip rfl rfl rfl ?_
           refine r_skip rfl rfl rfl ?_
           refine r_skip rfl rfl rfl ?_
           refine r_d rfl rfl rfl (s_pickT rfl rfl rfl) ?_
           refine r_end ?_
           refine g_condT rfl ?_
           refine g_seq ?_
           refine g_run (by kernel_rfl) [(0, .d)] rfl ?_
           refine r_d rfl rfl rfl (s_assign rfl rfl) ?_
           refine r_end ?_
           obtain rfl := Option.some.inj hr
           refine g_ret Try.func52 _ (.cons (resTmp rfl (Wk.refl _)) .nil) ?_
           rfl
          ·
           refine r_d rfl rfl rfl (s_move rfl rfl) ?_
           refine r_d rfl rfl rfl (s_move rfl rfl) ?_
           refine r_d rfl rfl rfl (s_cmp rfl rfl rfl rfl) ?_
           refine r_d rfl rfl rfl (s_move rfl rfl) ?_
           refine r_sB 137 rfl hr (fun h137_61 hr => ?_) (fun h137_61 hr => ?_)
           ·
            refine r_d rfl rfl rfl (s_move rfl rfl) ?_
            refine r_d rfl rfl rfl (s_cmp rfl rfl rfl rfl) ?_
            refine r_d rfl rfl rfl (s_move rfl rfl) ?_
            refine r_sB 140 rfl hr (fun h140_62 hr => ?_) (fun h140_62 hr => ?_)
            ·
             refine r_skip rfl rfl rfl ?_
             refine r_skip rfl rfl rfl ?_
             refine r_d rfl rfl rfl (s_pickT rfl rfl rfl) ?_
             refine r_d rfl rfl rfl (s_move rfl rfl) ?_
             refine r_skip rfl rfl rfl ?_
             refine r_skip rfl rfl rfl ?_
             refine r_d rfl rfl rfl (s_pickT rfl rfl rfl) ?_
             refine r_d rfl rfl rfl (s_pickT rfl rfl rfl) ?_
             refine r_d rfl rfl rfl (s_pickF rfl rfl rfl) ?_
             refine r_end ?_
             refine g_condT rfl ?_
             refine g_seq ?_
             refine g_run (by kernel_rfl) [(0, .d)] rfl ?_
             refine r_d rfl rfl rfl (s_assign rfl rfl) ?_
             refine r_end ?_
             obtain rfl := Option.some.inj hr
             refine g_ret Try.func52 _ (.cons (resTmp rfl (Wk.refl _)) .nil) ?_
             rfl
            ·
             refine r_d rfl rfl rfl (s_move rfl rfl) ?_
             refine r_d rfl rfl rfl (s_cmp rfl rfl rfl rfl) ?_
             refine r_d rfl rfl rfl (s_pickF rfl rfl rfl) ?_
             refine r_d rfl rfl rfl (s_move rfl rfl) ?_
             refine r_sB 144 rfl hr (fun h144_63 hr => ?_) (fun h144_63 hr => ?_)
             ·
              refine r_skip rfl rfl rfl ?_
              refine r_skip rfl rfl rfl ?_
              refine r_d rfl rfl rfl (s_pickT rfl rfl rfl) ?_
              refine r_d rfl rfl rfl (s_pickT rfl rfl rfl) ?_
              refine r_d rfl rfl rfl (s_pickF rfl rfl rfl) ?_
              refine r_end ?_
              refine g_condT rfl ?_
              refine g_seq ?_
              refine g_run (by kernel_rfl) [(0, .d)] rfl ?_
              refine r_d rfl rfl rfl (s_assign rfl rfl) ?_
              refine r_end ?_
              obtain rfl := Option.some.inj hr
              refine g_ret Try.func52 _ (.cons (resTmp rfl (Wk.refl _)) .nil) ?_
              rfl
             ·
              refine r_d rfl rfl rfl (s_move rfl rfl) ?_
              refine r_d rfl rfl rfl (s_cmp rfl rfl rfl rfl) ?_
              refine r_d rfl rfl rfl (s_pickF rfl rfl rfl) ?_
              refine r_d rfl rfl rfl (s_pickT rfl rfl rfl) ?_
              refine r_d rfl rfl rfl (s_pickF rfl rfl rfl) ?_
              refine r_end ?_
              refine g_sB 149 rfl hr (fun h149_64 hr => ?_) (fun h149_64 hr => ?_)
              ·
               refine g_condT rfl ?_
               refine g_seq ?_
               refine g_run (by kernel_rfl) [(0, .d)] rfl ?_
               refine r_d rfl rfl rfl (s_assign rfl rfl) ?_
               refine r_end ?_
               obtain rfl := Option.some.inj hr
               refine g_ret Try.func52 _ (.cons (resTmp rfl (Wk.refl _)) .nil) ?_
               rfl
              ·
               refine g_condF rfl ?_
               refine g_skip ?_
               refine g_run (by kernel_rfl) [(0, .d), (1, .d)] rfl ?_
               refine r_d rfl rfl rfl (s_move rfl rfl) ?_
               refine r_d rfl rfl rfl (s_assign rfl rfl) ?_
               refine r_end ?_
               refine g_inBlock ?_
               refine g_run (by kernel_rfl) [(0, .d), (1, .d)] rfl ?_
               refine r_d rfl rfl rfl (s_ar (r := ((i_8 + 1 : Nat) : Int)) rfl rfl rfl (by simp [iar]) (by omega)) ?_
               refine r_d rfl rfl rfl (s_move rfl rfl) ?_
               refine r_end ?_
               refine g_sub [(1, .ptr (enc_S_api_Block b_a0)), (3, .ref b3_0 0 []), (4, .map m16_2), (18, .lst (b_a0.f1_Code.map enc_S_api_Instr)), (19, .int .i64 (b_a0.f1_Code.length : Int)), (5, .bool removed_4), (6, .bool kept_5), (7, .int .i64 5), (8, .int .i64 last_7), (20, .int .i64 ((i_8 + 1 : Nat) : Int))] (Sub.cons' rfl (Sub.cons' rfl (Sub.cons' rfl (Sub.cons' rfl (Sub.cons' rfl (Sub.cons' rfl (Sub.cons' rfl (Sub.cons' rfl (Sub.cons' rfl (Sub.cons' rfl (Sub.nil _))))))))))) ?_
               exact IH0 _ _ _ (by omega) ⟨removed_4, kept_5, 5, last_7, (i_8 + 1), bound_9, bound_10, bound_11, bound_12, mm_13, rfl, rfl, rfl, (by omega), hr⟩
           ·
            refine r_skip rfl rfl rfl ?_
            refine r_skip rfl rfl rfl ?_
            refine r_skip rfl rfl rfl ?_
            refine r_skip rfl rfl rfl ?_
            refine r_skip rfl rfl rfl ?_
            refine r_skip rfl rfl rfl ?_
            refine r_skip rfl rfl rfl ?_
            refine r_skip rfl rfl rfl ?_
            refine r_skip rfl rfl rfl ?_
            refine r_skip rfl rfl rfl ?_
            refine r_d rfl rfl rfl (s_pickF rfl rfl rfl) ?_
            refine r_d rfl rfl rfl (s_pickF rfl rfl rfl) ?_
            refine r_end ?_
            refine g_condF rfl ?_
            refine g_skip ?_
            refine g_run (by kernel_rfl) [(0, .d), (1, .d)] rfl ?_
            refine r_d rfl rfl rfl (s_move rfl rfl) ?_
            refine r_d rfl rfl rfl (s_assign rfl rfl) ?_
            refine r_end ?_
            refine g_inBlock ?_
            refine g_run (by kernel_rfl) [(0, .d), (1, .d)] rfl ?_
            refine r_d rfl rfl rfl (s_ar (r := ((i_8 + 1 : Nat) : Int)) rfl rfl rfl (by simp [iar]) (by omega)) ?_
            refine r_d rfl rfl rfl (s_move rfl rfl) ?_
            refine r_end ?_
            refine g_sub [(1, .ptr (enc_S_api_Block b_a0)), (3, .ref b3_0 0 []), (4, .map m16_2), (18, .lst (b_a0.f1_Code.map enc_S_api_Instr)), (19, .int .i64 (b_a0.f1_Code.length : Int)), (5, .bool removed_4), (6, .bool kept_5), (7, .int .i64 5), (8, .int .i64 last_7), (20, .int .i64 ((i_8 + 1 : Nat) : Int))] (Sub.cons' rfl (Sub.cons' rfl (Sub.cons' rfl (Sub.cons' rfl (Sub.cons' rfl (Sub.cons' rfl (Sub.cons' rfl (Sub.cons' rfl (Sub.cons' rfl (Sub.cons' rfl (Sub.nil _))))))))))) ?_
            exact IH0 _ _ _ (by omega) ⟨removed_4, kept_5, 5, last_7, (i_8 + 1), bound_9, bound_10, bound_11, bound_12, mm_13, rfl, rfl, rfl, (by omega), hr⟩
        ·
         refine g_condF rfl ?_
         refine g_seq ?_
         refine g_run (by kernel_rfl) [(0, .d), (1, .d)] rfl ?_
         refine r_d rfl rfl rfl (s_cmp rfl rfl rfl rfl) ?_
         refine r_d rfl rfl rfl (s_assign rfl rfl) ?_
         refine r_end ?_
         refine g_sB 83 rfl hr (fun h83_65 hr => ?_) (fun h83_65 hr => ?_)
         ·
          refine g_condT rfl ?_
          refine g_seq ?_
          refine g_run (by kernel_rfl) [(0, .d), (1, .d), (2, .d), (3, .r), (4, .d)] rfl ?_
          refine r_d rfl rfl rfl (s_fieldAddr rfl fl_api_Instr_1 rfl rfl rfl rfl) ?_
          refine r_d rfl rfl rfl (s_load rfl rfl (by exact ty_int) rfl) ?_
          obtain ⟨q_67, hq_67, hr⟩ := bindS hr
          refine r_d rfl rfl rfl (s_indexB4 rfl are_instr_set rfl rfl hq_67) ?_
          refine r_r rfl rfl rfl (t_loadRef rfl rfl (.head _) (subB4 hq_67) (offB4 hq_67) (by exact ty_bool) rfl) ?_
          refine r_d rfl rfl rfl (s_not rfl rfl) ?_
          refine r_end ?_
          refine g_sB 89 rfl hr (fun h89_67 hr => ?_) (fun h89_67 hr => ?_)
          ·
           refine g_condT rfl ?_
           refine g_seq ?_
           refine g_run (by kernel_rfl) [(0, .d)] rfl ?_
           refine r_d rfl rfl rfl (s_assign rfl rfl) ?_
           refine r_end ?_
           obtain rfl := Option.some.inj hr
           refine g_ret Try.func52 _ (.cons (resTmp rfl (Wk.refl _)) .nil) ?_
           rfl
          ·
           refine g_condF rfl ?_
           refine g_skip ?_
           refine g_inBlock ?_
           refine g_seq ?_
           refine g_seq ?_
           refine g_run (by kernel_rfl) [(0, .d), (1, .d), (2, .d), (3, .d), (4, .d), (5, .d), (6, .d), (7, .d), (8, .d), (9, .d), (10, .d), (11, .d), (12, .d), (13, .d), (14, .d), (15, .d), (16, .d), (17, .d), (18, .d), (19, .d)] rfl ?_
           refine r_d rfl rfl rfl (s_move rfl rfl) ?_
           refine r_d rfl rfl rfl (s_move rfl rfl) ?_
           refine r_d rfl rfl rfl (s_cmp rfl rfl rfl rfl) ?_
           refine r_d rfl rfl rfl (s_move rfl rfl) ?_
           refine r_sB 133 rfl hr (fun h133_68 hr => ?_) (fun h133_68 hr => ?_)
           ·
            refine r_skip rfl rfl rfl ?_
            refine r_skip rfl rfl rfl ?_
            refine r_skip rfl rfl rfl ?_
            refine r_skip rfl rfl rfl ?_
            refine r_skip rfl rfl rfl ?_
            refine r_skip rfl rfl rfl ?_
            refine r_skip rfl rfl rfl ?_
            refine r_skip rfl rfl rfl ?_
            refine r_skip rfl rfl rfl ?_
            refine r_skip rfl rfl rfl ?_
            refine r_skip rfl rfl rfl ?_
            refine r_skip rfl rfl rfl ?_
            refine r_skip rfl rfl rfl ?_
            refine r_skip rfl rfl rfl ?_
            refine r_skip rfl rfl rfl ?_
            refine r_d rfl rfl rfl (s_pickT rfl rfl rfl) ?_
            refine r_end ?_
            refine g_condT rfl ?_
            refine g_seq ?_
            refine g_run (by kernel_rfl) [(0, .d)] rfl ?_
            refine r_d rfl rfl rfl (s_assign rfl rfl) ?_
            refine r_end ?_
            obtain rfl := Option.some.inj hr
            refine g_ret Try.func52 _ (.cons (resTmp rfl (Wk.refl _)) .nil) ?_
            rfl
           ·
            refine r_d rfl rfl rfl (s_move rfl rfl) ?_
            refine r_d rfl rfl rfl (s_move rfl rfl) ?_
            refine r_d rfl rfl rfl (s_cmp rfl rfl rfl rfl) ?_
            refine r_d rfl rfl rfl (s_move rfl rfl) ?_
            refine r_sB 137 rfl hr (fun h137_69 hr => ?_) (fun h137_69 hr => ?_)
            ·
             refine r_d rfl rfl rfl (s_move rfl rfl) ?_
             refine r_d rfl rfl rfl (s_cmp rfl rfl rfl rfl) ?_
             refine r_d rfl rfl rfl (s_move rfl rfl) ?_
             refine r_sB 140 rfl hr (fun h140_70 hr => ?_) (fun h140_70 hr => ?_)
             ·
              refine r_skip rfl rfl rfl ?_
              refine r_skip rfl rfl rfl ?_
              refine r_d rfl rfl rfl (s_pickT rfl rfl rfl) ?_
              refine r_d rfl rfl rfl (s_move rfl rfl) ?_
              refine r_skip rfl rfl rfl ?_
              refine r_skip rfl rfl rfl ?_
              refine r_d rfl rfl rfl (s_pickT rfl rfl rfl) ?_
              refine r_d rfl rfl rfl (s_pickT rfl rfl rfl) ?_
              refine r_d rfl rfl rfl (s_pickF rfl rfl rfl) ?_
              refine r_end ?_
              refine g_condT rfl ?_
              refine g_seq ?_
              refine g_run (by kernel_rfl) [(0, .d)] rfl ?_
              refine r_d rfl rfl rfl (s_assign rfl rfl) ?_
              refine r_end ?_
              obtain rfl := Option.some.inj hr
              refine g_ret Try.func52 _ (.cons (resTmp rfl (Wk.refl _)) .nil) ?_
              rfl
             ·
              refine r_d rfl rfl rfl (s_move rfl rfl) ?_
              refine r_d rfl rfl rfl (s_cmp rfl rfl rfl rfl) ?_
              refine r_d rfl rfl rfl (s_pickF rfl rfl rfl) ?_
              refine r_d rfl rfl rfl (s_move rfl rfl) ?_
              refine r_sB 144 rfl hr (fun h144_71 hr => ?_) (fun h144_71 hr => ?_)
              ·
               refine r_skip rfl rfl rfl ?_
               refine r_skip rfl rfl rfl ?_
               refine r_d rfl rfl rfl (s_pickT rfl rfl rfl) ?_
               refine r_d rfl rfl rfl (s_pickT rfl rfl rfl) ?_
               refine r_d rfl rfl rfl (s_pickF rfl rfl rfl) ?_
               refine r_end ?_
               refine g_condT rfl ?_
               refine g_seq ?_
               refine g_run (by kernel_rfl) [(0, .d)] rfl ?_
               refine r_d rfl rfl rfl (s_assign rfl rfl) ?_
               refine r_end ?_
               obtain rfl := Option.some.inj hr
               refine g_ret Try.func52 _ (.cons (resTmp rfl (Wk.refl _)) .nil) ?_
               rfl
              ·
               refine r_d rfl rfl rfl (s_move rfl rfl) ?_
               refine r_d rfl rfl rfl (s_cmp rfl rfl rfl rfl) ?_
               refine r_d rfl rfl rfl (s_pickF rfl rfl rfl) ?_
               refine r_d rfl rfl rfl (s_pickT rfl rfl rfl) ?_
               refine r_d rfl rfl rfl (s_pickF rfl rfl rfl) ?_
               refine r_end ?_
               refine g_sB 149 rfl hr (fun h149_72 hr => ?_) (fun h149_72 hr => ?_)
               ·
                refine g_condT rfl ?_
                refine g_seq ?_
                refine g_run (by kernel_rfl) [(0, .d)] rfl ?_
                refine r_d rfl rfl rfl (s_assign rfl rfl) ?_
                refine r_end ?_
                obtain rfl := Option.some.inj hr
                refine g_ret Try.func52 _ (.cons (resTmp rfl (Wk.refl _)) .nil) ?_
                rfl
               ·
                refine g_condF rfl ?_
                refine g_skip ?_
                refine g_run (by kernel_rfl) [(0, .d), (1, .d)] rfl ?_
                refine r_d rfl rfl rfl (s_move rfl rfl) ?_
                refine r_d rfl rfl rfl (s_assign rfl rfl) ?_
                refine r_end ?_
                refine g_inBlock ?_
                refine g_run (by kernel_rfl) [(0, .d), (1, .d)] rfl ?_
                refine r_d rfl rfl rfl (s_ar (r := ((i_8 + 1 : Nat) : Int)) rfl rfl rfl (by simp [iar]) (by omega)) ?_
                refine r_d rfl rfl rfl (s_move rfl rfl) ?_
                refine r_end ?_
                refine g_sub [(1, .ptr (enc_S_api_Block b_a0)), (3, .ref b3_0 0 []), (4, .map m16_2), (18, .lst (b_a0.f1_Code.map enc_S_api_Instr)), (19, .int .i64 (b_a0.f1_Code.length : Int)), (5, .bool removed_4), (6, .bool kept_5), (7, .int .i64 0), (8, .int .i64 last_7), (20, .int .i64 ((i_8 + 1 : Nat) : Int))] (Sub.cons' rfl (Sub.cons' rfl (Sub.cons' rfl (Sub.cons' rfl (Sub.cons' rfl (Sub.cons' rfl (Sub.cons' rfl (Sub.cons' rfl (Sub.cons' rfl (Sub.cons' rfl (Sub.nil _))))))))))) ?_
                exact IH0 _ _ _ (by omega) ⟨removed_4, kept_5, 0, last_7, (i_8 + 1), bound_9, bound_10, bound_11, bound_12, mm_13, rfl, rfl, rfl, (by omega), hr⟩
            ·
             refine r_skip rfl rfl rfl ?_
             refine r_skip rfl rfl rfl ?_
             refine r_skip rfl rfl rfl ?_
             refine r_skip rfl rfl rfl ?_
             refine r_skip rfl rfl rfl ?_
             refine r_skip rfl rfl rfl ?_
             refine r_skip rfl rfl rfl ?_
             refine r_skip rfl rfl rfl ?_
             refine r_skip rfl rfl rfl ?_
             refine r_skip rfl rfl rfl ?_
             refine r_d rfl rfl rfl (s_pickF rfl rfl rfl) ?_
             refine r_d rfl rfl rfl (s_pickF rfl rfl rfl) ?_
             refine r_end ?_
             refine g_condF rfl ?_
             refine g_skip ?_
             refine g_run (by kernel_rfl) [(0, .d), (1, .d)] rfl ?_
             refine r_d rfl rfl rfl (s_move rfl rfl) ?_
             refine r_d rfl rfl rfl (s_assign rfl rfl) ?_
             refine r_end ?_
             refine g_inBlock ?_
             refine g_run (by kernel_rfl) [(0, .d), (1, .d)] rfl ?_
             refine r_d rfl rfl rfl (s_ar (r := ((i_8 + 1 : Nat) : Int)) rfl rfl rfl (by simp [iar]) (by omega)) ?_
             refine r_d rfl rfl rfl (s_move rfl rfl) ?_
             refine r_end ?_
             refine g_sub [(1, .ptr (enc_S_api_Block b_a0)), (3, .ref b3_0 0 []), (4, .map m16_2), (18, .lst (b_a0.f1_Code.map enc_S_api_Instr)), (19, .int .i64 (b_a0.f1_Code.length : Int)), (5, .bool removed_4), (6, .bool kept_5), (7, .int .i64 0), (8, .int .i64 last_7), (20, .int .i64 ((i_8 + 1 : Nat) : Int))] (Sub.cons' rfl (Sub.cons' rfl (Sub.cons' rfl (Sub.cons' rfl (Sub.cons' rfl (Sub.cons' rfl (Sub.cons' rfl (Sub.cons' rfl (Sub.cons' rfl (Sub.cons' rfl (Sub.nil _))))))))))) ?_
             exact IH0 _ _ _ (by omega) ⟨removed_4, kept_5, 0, last_7, (i_8 + 1), bound_9, bound_10, bound_11, bound_12, mm_13, rfl, rfl, rfl, (by omega), hr⟩
         ·
          refine g_condF rfl ?_
          refine g_seq ?_
          refine g_run (by kernel_rfl) [(0, .d), (1, .d)] rfl ?_
          refine r_d rfl rfl rfl (s_cmp rfl rfl rfl rfl) ?_
          refine r_d rfl rfl rfl (s_assign rfl rfl) ?_
          refine r_end ?_
          refine g_sB 90 rfl hr (fun h90_73 hr => ?_) (fun h90_73 hr => ?_)
          ·
           refine g_condT rfl ?_
           refine g_seq ?_
           refine g_run (by kernel_rfl) [(0, .d), (1, .d), (2, .d), (3, .r), (4, .d), (5, .d), (6, .d), (7, .d), (8, .d), (9, .r), (10, .d), (11, .d)] rfl ?_
           refine r_d rfl rfl rfl (s_fieldAddr rfl fl_api_Instr_1 rfl rfl rfl rfl) ?_
           refine r_d rfl rfl rfl (s_load rfl rfl (by exact ty_int) rfl) ?_
           obtain ⟨q_75, hq_75, hr⟩ := bindS hr
           refine r_d rfl rfl rfl (s_indexB4 rfl are_instr_set rfl rfl hq_75) ?_
           refine r_r rfl rfl rfl (t_loadRef rfl rfl (.head _) (subB4 hq_75) (offB4 hq_75) (by exact ty_bool) rfl) ?_
           refine r_d rfl rfl rfl (s_not rfl rfl) ?_
           refine r_d rfl rfl rfl (s_move rfl rfl) ?_
           refine r_sB 97 rfl hr (fun h97_75 hr => ?_) (fun h97_75 hr => ?_)
           ·
            refine r_skip rfl rfl rfl ?_
            refine r_skip rfl rfl rfl ?_
            refine r_skip rfl rfl rfl ?_
            refine r_skip rfl rfl rfl ?_
            refine r_skip rfl rfl rfl ?_
            refine r_d rfl rfl rfl (s_pickT rfl rfl rfl) ?_
            refine r_end ?_
            refine g_condT rfl ?_
            refine g_seq ?_
            refine g_run (by kernel_rfl) [(0, .d)] rfl ?_
            refine r_d rfl rfl rfl (s_assign rfl rfl) ?_
            refine r_end ?_
            obtain rfl := Option.some.inj hr
            refine g_ret Try.func52 _ (.cons (resTmp rfl (Wk.refl _)) .nil) ?_
            rfl
           ·
            refine r_d rfl rfl rfl (s_fieldAddr rfl fl_api_Instr_2 rfl rfl rfl rfl) ?_
            refine r_d rfl rfl rfl (s_load rfl rfl (by exact ty_int) rfl) ?_
            obtain ⟨q_77, hq_77, hr⟩ := bindS hr
            refine r_d rfl rfl rfl (s_indexB4 rfl are_instr_set rfl rfl hq_77) ?_
            refine r_r rfl rfl rfl (t_loadRef rfl rfl (.head _) (subB4 hq_77) (offB4 hq_77) (by exact ty_bool) rfl) ?_
            refine r_d rfl rfl rfl (s_not rfl rfl) ?_
            refine r_d rfl rfl rfl (s_pickF rfl rfl rfl) ?_
            refine r_end ?_
            refine g_sB 103 rfl hr (fun h103_77 hr => ?_) (fun h103_77 hr => ?_)
            ·
             refine g_condT rfl ?_
             refine g_seq ?_
             refine g_run (by kernel_rfl) [(0, .d)] rfl ?_
             refine r_d rfl rfl rfl (s_assign rfl rfl) ?_
             refine r_end ?_
             obtain rfl := Option.some.inj hr
             refine g_ret Try.func52 _ (.cons (resTmp rfl (Wk.refl _)) .nil) ?_
             rfl
            ·
             refine g_condF rfl ?_
             refine g_skip ?_
             refine g_inBlock ?_
             refine g_seq ?_
             refine g_seq ?_
             refine g_run (by kernel_rfl) [(0, .d), (1, .d), (2, .d), (3, .d), (4, .d), (5, .d), (6, .d), (7, .d), (8, .d), (9, .d), (10, .d), (11, .d), (12, .d), (13, .d), (14, .d), (15, .d), (16, .d), (17, .d), (18, .d), (19, .d)] rfl ?_
             refine r_d rfl rfl rfl (s_move rfl rfl) ?_
             refine r_d rfl rfl rfl (s_move rfl rfl) ?_
             refine r_d rfl rfl rfl (s_cmp rfl rfl rfl rfl) ?_
             refine r_d rfl rfl rfl (s_move rfl rfl) ?_
             refine r_sB 133 rfl hr (fun h133_78 hr => ?_) (fun h133_78 hr => ?_)
             ·
              refine r_skip rfl rfl rfl ?_
              refine r_skip rfl rfl rfl ?_
              refine r_skip rfl rfl rfl ?_
              refine r_skip rfl rfl rfl ?_
              refine r_skip rfl rfl rfl ?_
              refine r_skip rfl rfl rfl ?_
              refine r_skip rfl rfl rfl ?_
              refine r_skip rfl rfl rfl ?_
              refine r_skip rfl rfl rfl ?_
              refine r_skip rfl rfl rfl ?_
              refine r_skip rfl rfl rfl ?_
              refine r_skip rfl rfl rfl ?_
              refine r_skip rfl rfl rfl ?_
              refine r_skip rfl rfl rfl ?_
              refine r_skip rfl rfl rfl ?_
              refine r_d rfl rfl rfl (s_pickT rfl rfl rfl) ?_
              refine r_end ?_
              refine g_condT rfl ?_
              refine g_seq ?_
              refine g_run (by kernel_rfl) [(0, .d)] rfl ?_
              refine r_d rfl rfl rfl (s_assign rfl rfl) ?_
              refine r_end ?_
              obtain rfl := Option.some.inj hr
              refine g_ret Try.func52 _ (.cons (resTmp rfl (Wk.refl _)) .nil) ?_
              rfl
             ·
              refine r_d rfl rfl rfl (s_move rfl rfl) ?_
              refine r_d rfl rfl rfl (s_move rfl rfl) ?_
              refine r_d rfl rfl rfl (s_cmp rfl rfl rfl rfl) ?_
              refine r_d rfl rfl rfl (s_move rfl rfl) ?_
              refine r_sB 137 rfl hr (fun h137_79 hr => ?_) (fun h137_79 hr => ?_)
              ·
               refine r_d rfl rfl rfl (s_move rfl rfl) ?_
               refine r_d rfl rfl rfl (s_cmp rfl rfl rfl rfl) ?_
               refine r_d rfl rfl rfl (s_move rfl rfl) ?_
               refine r_sB 140 rfl hr (fun h140_80 hr => ?_) (fun h140_80 hr => ?_)
               ·
                refine r_skip rfl rfl rfl ?_
                refine r_skip rfl rfl rfl ?_
                refine r_d rfl rfl rfl (s_pickT rfl rfl rfl) ?_
                refine r_d rfl rfl rfl (s_move rfl rfl) ?_
                refine r_skip rfl rfl rfl ?_
                refine r_skip rfl rfl rfl ?_
                refine r_d rfl rfl rfl (s_pickT rfl rfl rfl) ?_
                refine r_d rfl rfl rfl (s_pickT rfl rfl rfl) ?_
                refine r_d rfl rfl rfl (s_pickF rfl rfl rfl) ?_
                refine r_end ?_
                refine g_condT rfl ?_
                refine g_seq ?_
                refine g_run (by kernel_rfl) [(0, .d)] rfl ?_
                refine r_d rfl rfl rfl (s_assign rfl rfl) ?_
                refine r_end ?_
                obtain rfl := Option.some.inj hr
                refine g_ret Try.func52 _ (.cons (resTmp rfl (Wk.refl _)) .nil) ?_
                rfl
               ·
                refine r_d rfl rfl rfl (s_move rfl rfl) ?_
                refine r_d rfl rfl rfl (s_cmp rfl rfl rfl rfl) ?_
                refine r_d rfl rfl rfl (s_pickF rfl rfl rfl) ?_
                refine r_d rfl rfl rfl (s_move rfl rfl) ?_
                refine r_sB 144 rfl hr (fun h144_81 hr => ?_) (fun h144_81 hr => ?_)
                ·
                 refine r_skip rfl rfl rfl ?_
                 refine r_skip rfl rfl rfl ?_
                 refine r_d rfl rfl rfl (s_pickT rfl rfl rfl) ?_
                 refine r_d rfl rfl rfl (s_pickT rfl rfl rfl) ?_
                 refine r_d rfl rfl rfl (s_pickF rfl rfl rfl) ?_
                 refine r_end ?_
                 refine g_condT rfl ?_
                 refine g_seq ?_
                 refine g_run (by kernel_rfl) [(0, .d)] rfl ?_
                 refine r_d rfl rfl rfl (s_assign rfl rfl) ?_
                 refine r_end ?_
                 obtain rfl := Option.some.inj hr
                 refine g_ret Try.func52 _ (.cons (resTmp rfl (Wk.refl _)) .nil) ?_
                 rfl
                ·
                 refine r_d rfl rfl rfl (s_move rfl rfl) ?_
                 refine r_d rfl rfl rfl (s_cmp rfl rfl rfl rfl) ?_
                 refine r_d rfl rfl rfl (s_pickF rfl rfl rfl) ?_
                 refine r_d rfl rfl rfl (s_pickT rfl rfl rfl) ?_
                 refine r_d rfl rfl rfl (s_pickF rfl rfl rfl) ?_
                 refine r_end ?_
                 refine g_sB 149 rfl hr (fun h149_82 hr => ?_) (fun h149_82 hr => ?_)
                 ·
                  refine g_condT rfl ?_
                  refine g_seq ?_
                  refine g_run (by kernel_rfl) [(0, .d)] rfl ?_
                  refine r_d rfl rfl rfl (s_assign rfl rfl) ?_
                  refine r_end ?_
                  obtain rfl := Option.some.inj hr
                  refine g_ret Try.func52 _ (.cons (resTmp rfl (Wk.refl _)) .nil) ?_
                  rfl
                 ·
                  refine g_condF rfl ?_
                  refine g_skip ?_
                  refine g_run (by kernel_rfl) [(0, .d), (1, .d)] rfl ?_
                  refine r_d rfl rfl rfl (s_move rfl rfl) ?_
                  refine r_d rfl rfl rfl (s_assign rfl rfl) ?_
                  refine r_end ?_
                  refine g_inBlock ?_
                  refine g_run (by kernel_rfl) [(0, .d), (1, .d)] rfl ?_
                  refine r_d rfl rfl rfl (s_ar (r := ((i_8 + 1 : Nat) : Int)) rfl rfl rfl (by simp [iar]) (by omega)) ?_
                  refine r_d rfl rfl rfl (s_move rfl rfl) ?_
                  refine r_end ?_
                  refine g_sub [(1, .ptr (enc_S_api_Block b_a0)), (3, .ref b3_0 0 []), (4, .map m16_2), (18, .lst (b_a0.f1_Code.map enc_S_api_Instr)), (19, .int .i64 (b_a0.f1_Code.length : Int)), (5, .bool removed_4), (6, .bool kept_5), (7, .int .i64 0), (8, .int .i64 last_7), (20, .int .i64 ((i_8 + 1 : Nat) : Int))] (Sub.cons' rfl (Sub.cons' rfl (Sub.cons' rfl (Sub.cons' rfl (Sub.cons' rfl (Sub.cons' rfl (Sub.cons' rfl (Sub.cons' rfl (Sub.cons' rfl (Sub.cons' rfl (Sub.nil _))))))))))) ?_
                  exact IH0 _ _ _ (by omega) ⟨removed_4, kept_5, 0, last_7, (i_8 + 1), bound_9, bound_10, bound_11, bound_12, mm_13, rfl, rfl, rfl, (by omega), hr⟩
              ·
               refine r_skip rfl rfl rfl ?_
               refine r_skip rfl rfl rfl ?_
               refine r_skip rfl rfl rfl ?_
               refine r_skip rfl rfl rfl ?_
               refine r_skip rfl rfl rfl ?_
               refine r_skip rfl rfl rfl ?_
               refine r_skip rfl rfl rfl ?_
               refine r_skip rfl rfl rfl ?_
               refine r_skip rfl rfl rfl ?_
               refine r_skip rfl rfl rfl ?_
               refine r_d rfl rfl rfl (s_pickF rfl rfl rfl) ?_
               refine r_d rfl rfl rfl (s_pickF rfl rfl rfl) ?_
               refine r_end ?_
               refine g_condF rfl ?_
               refine g_skip ?_
               refine g_run (by kernel_rfl) [(0, .d), (1, .d)] rfl ?_
               refine r_d rfl rfl rfl (s_move rfl rfl) ?_
               refine r_d rfl rfl rfl (s_assign rfl rfl) ?_
               refine r_end ?_
               refine g_inBlock ?_
               refine g_run (by kernel_rfl) [(0, .d), (1, .d)] rfl ?_
               refine r_d rfl rfl rfl (s_ar (r := ((i_8 + 1 : Nat) : Int)) rfl rfl rfl (by simp [iar]) (by omega)) ?_
               refine r_d rfl rfl rfl (s_move rfl rfl) ?_
               refine r_end ?_
               refine g_sub [(1, .ptr (enc_S_api_Block b_a0)), (3, .ref b3_0 0 []), (4, .map m16_2), (18, .lst (b_a0.f1_Code.map enc_S_api_Instr)), (19, .int .i64 (b_a0.f1_Code.length : Int)), (5, .bool removed_4), (6, .bool kept_5), (7, .int .i64 0), (8, .int .i64 last_7), (20, .int .i64 ((i_8 + 1 : Nat) : Int))] (Sub.cons' rfl (Sub.cons' rfl (Sub.cons' rfl (Sub.cons' rfl (Sub.cons' rfl (Sub.cons' rfl (Sub.cons' rfl (Sub.cons' rfl (Sub.cons' rfl (Sub.cons' rfl (Sub.nil _))))))))))) ?_
               exact IH0 _ _ _ (by omega) ⟨removed_4, kept_5, 0, last_7, (i_8 + 1), bound_9, bound_10, bound_11, bound_12, mm_13, rfl, rfl, rfl, (by omega), hr⟩
          ·
           refine g_condF rfl ?_
           refine g_seq ?_
           refine g_run (by kernel_rfl) [(0, .d), (1, .d)] rfl ?_
           refine r_d rfl rfl rfl (s_cmp rfl rfl rfl rfl) ?_
           refine r_d rfl rfl rfl (s_assign rfl rfl) ?_
           refine r_end ?_
           refine g_sB 104 rfl hr (fun h104_83 hr => ?_) (fun h104_83 hr => ?_)
           ·
            refine g_condT rfl ?_
            refine g_seq ?_
            refine g_seq ?_
            refine g_run (by kernel_rfl) [(0, .d), (1, .d), (2, .d), (3, .r)] rfl ?_
            refine r_d rfl rfl rfl (s_fieldAddr rfl fl_api_Instr_1 rfl rfl rfl rfl) ?_
            refine r_d rfl rfl rfl (s_load rfl rfl (by exact ty_int) rfl) ?_
            obtain ⟨q_85, hq_85, hr⟩ := bindS hr
            refine r_d rfl rfl rfl (s_indexB4 rfl are_instr_set rfl rfl hq_85) ?_
            refine r_r rfl rfl rfl (t_loadRef rfl rfl (.head _) (subB4 hq_85) (offB4 hq_85) (by exact ty_bool) rfl) ?_
            refine r_end ?_
            refine g_sB 109 rfl hr (fun h109_85 hr => ?_) (fun h109_85 hr => ?_)
            ·
             refine g_condT rfl ?_
             refine g_seq ?_
             refine g_run (by kernel_rfl) [(0, .d)] rfl ?_
             refine r_d rfl rfl rfl (s_assign rfl rfl) ?_
             refine r_end ?_
             obtain rfl := Option.some.inj hr
             refine g_ret Try.func52 _ (.cons (resTmp rfl (Wk.refl _)) .nil) ?_
             rfl
            ·
             refine g_condF rfl ?_
             refine g_skip ?_
             refine g_run (by kernel_rfl) [(0, .d), (1, .d), (2, .d), (3, .w)] rfl ?_
             refine r_d rfl rfl rfl (s_fieldAddr rfl fl_api_Instr_1 rfl rfl rfl rfl) ?_
             refine r_d rfl rfl rfl (s_load rfl rfl (by exact ty_int) rfl) ?_
             refine r_d rfl rfl rfl (s_indexB4 rfl are_instr_set rfl rfl hq_85) ?_
             refine r_w01 rfl rfl rfl (t_store _ rfl rfl rfl (Wk.refl _) (pf0 _) (subB4 hq_85) (offB4 hq_85) (by exact ty_bool) rfl rfl rfl) ?_
             refine r_st [.cell b3_0 (.agg [.bool (bif q_20.f1_A == 0 then true else bound_9), .bool (bif q_20.f1_A == 1 then true else bound_10), .bool (bif q_20.f1_A == 2 then true else bound_11), .bool (bif q_20.f1_A == 3 then true else bound_12)]), .map m16_2 (mapM' (D.int .i64) D.bool mm_13)] (by rw [setB4 hq_85]) ?_
             refine r_end ?_
             refine g_inBlock ?_
             refine g_seq ?_
             refine g_seq ?_
             refine g_run (by kernel_rfl) [(0, .d), (1, .d), (2, .d), (3, .d), (4, .d), (5, .d), (6, .d), (7, .d), (8, .d), (9, .d), (10, .d), (11, .d), (12, .d), (13, .d), (14, .d), (15, .d), (16, .d), (17, .d), (18, .d), (19, .d)] rfl ?_
             refine r_d rfl rfl rfl (s_move rfl rfl) ?_
             refine r_d rfl rfl rfl (s_move rfl rfl) ?_
             refine r_d rfl rfl rfl (s_cmp rfl rfl rfl rfl) ?_
             refine r_d rfl rfl rfl (s_move rfl rfl) ?_
             refine r_sB 133 rfl hr (fun h133_86 hr => ?_) (fun h133_86 hr => ?_)
             ·
              refine r_skip rfl rfl rfl ?_
              refine r_skip rfl rfl rfl ?_
              refine r_skip rfl rfl rfl ?_
              refine r_skip rfl rfl rfl ?_
              refine r_skip rfl rfl rfl ?_
              refine r_skip rfl rfl rfl ?_
              refine r_skip rfl rfl rfl ?_
              refine r_skip rfl rfl rfl ?_
              refine r_skip rfl rfl rfl ?_
              refine r_skip rfl rfl rfl ?_
              refine r_skip rfl rfl rfl ?_
              refine r_skip rfl rfl rfl ?_
              refine r_skip rfl rfl rfl ?_
              refine r_skip rfl rfl rfl ?_
              refine r_skip rfl rfl rfl ?_
              refine r_d rfl rfl rfl (s_pickT rfl rfl rfl) ?_
              refine r_end ?_
              refine g_condT rfl ?_
              refine g_seq ?_
              refine g_run (by kernel_rfl) [(0, .d)] rfl ?_
              refine r_d rfl rfl rfl (s_assign rfl rfl) ?_
              refine r_end ?_
              obtain rfl := Option.some.inj hr
              refine g_ret Try.func52 _ (.cons (resTmp rfl (Wk.refl _)) .nil) ?_
              rfl
             ·
              refine r_d rfl rfl rfl (s_move rfl rfl) ?_
              refine r_d rfl rfl rfl (s_move rfl rfl) ?_
              refine r_d rfl rfl rfl (s_cmp rfl rfl rfl rfl) ?_
              refine r_d rfl rfl rfl (s_move rfl rfl) ?_
              refine r_sB 137 rfl hr (fun h137_87 hr => ?_) (fun h137_87 hr => ?_)
              ·
               refine r_d rfl rfl rfl (s_move rfl rfl) ?_
               refine r_d rfl rfl rfl (s_cmp rfl rfl rfl rfl) ?_
               refine r_d rfl rfl rfl (s_move rfl rfl) ?_
               refine r_sB 140 rfl hr (fun h140_88 hr => ?_) (fun h140_88 hr => ?_)
               ·
                refine r_skip rfl rfl rfl ?_
                refine r_skip rfl rfl rfl ?_
                refine r_d rfl rfl rfl (s_pickT rfl rfl rfl) ?_
                refine r_d rfl rfl rfl (s_move rfl rfl) ?_
                refine r_skip rfl rfl rfl ?_
                refine r_skip rfl rfl rfl ?_
                refine r_d rfl rfl rfl (s_pickT rfl rfl rfl) ?_
                refine r_d rfl rfl rfl (s_pickT rfl rfl rfl) ?_
                refine r_d rfl rfl rfl (s_pickF rfl rfl rfl) ?_
                refine r_end ?_
                refine g_condT rfl ?_
                refine g_seq ?_
                refine g_run (by kernel_rfl) [(0, .d)] rfl ?_
                refine r_d rfl rfl rfl (s_assign rfl rfl) ?_
                refine r_end ?_
                obtain rfl := Option.some.inj hr
                refine g_ret Try.func52 _ (.cons (resTmp rfl (Wk.refl _)) .nil) ?_
                rfl
               ·
                refine r_d rfl rfl rfl (s_move rfl rfl) ?_
                refine r_d rfl rfl rfl (s_cmp rfl rfl rfl rfl) ?_
                refine r_d rfl rfl rfl (s_pickF rfl rfl rfl) ?_
                refine r_d rfl rfl rfl (s_move rfl rfl) ?_
                refine r_sB 144 rfl hr (fun h144_89 hr => ?_) (fun h144_89 hr => ?_)
                ·
                 refine r_skip rfl rfl rfl ?_
                 refine r_skip rfl rfl rfl ?_
                 refine r_d rfl rfl rfl (s_pickT rfl rfl rfl) ?_
                 refine r_d rfl rfl rfl (s_pickT rfl rfl rfl) ?_
                 refine r_d rfl rfl rfl (s_pickF rfl rfl rfl) ?_
                 refine r_end ?_
                 refine g_condT rfl ?_
                 refine g_seq ?_
                 refine g_run (by kernel_rfl) [(0, .d)] rfl ?_
                 refine r_d rfl rfl rfl (s_assign rfl rfl) ?_
                 refine r_end ?_
                 obtain rfl := Option.some.inj hr
                 refine g_ret Try.func52 _ (.cons (resTmp rfl (Wk.refl _)) .nil) ?_
                 rfl
                ·
                 refine r_d rfl rfl rfl (s_move rfl rfl) ?_
                 refine r_d rfl rfl rfl (s_cmp rfl rfl rfl rfl) ?_
                 refine r_d rfl rfl rfl (s_pickF rfl rfl rfl) ?_
                 refine r_d rfl rfl rfl (s_pickT rfl rfl rfl) ?_
                 refine r_d rfl rfl rfl (s_pickF rfl rfl rfl) ?_
                 refine r_end ?_
                 refine g_sB 149 rfl hr (fun h149_90 hr => ?_) (fun h149_90 hr => ?_)
                 ·
                  refine g_condT rfl ?_
                  refine g_seq ?_
                  refine g_run (by kernel_rfl) [(0, .d)] rfl ?_
                  refine r_d rfl rfl rfl (s_assign rfl rfl) ?_
                  refine r_end ?_
                  obtain rfl := Option.some.inj hr
                  refine g_ret Try.func52 _ (.cons (resTmp rfl (Wk.refl _)) .nil) ?_
                  rfl
                 ·
                  refine g_condF rfl ?_
                  refine g_skip ?_
                  refine g_run (by kernel_rfl) [(0, .d), (1, .d)] rfl ?_
                  refine r_d rfl rfl rfl (s_move rfl rfl) ?_
                  refine r_d rfl rfl rfl (s_assign rfl rfl) ?_
                  refine r_end ?_
                  refine g_inBlock ?_
                  refine g_run (by kernel_rfl) [(0, .d), (1, .d)] rfl ?_
                  refine r_d rfl rfl rfl (s_ar (r := ((i_8 + 1 : Nat) : Int)) rfl rfl rfl (by simp [iar]) (by omega)) ?_
                  refine r_d rfl rfl rfl (s_move rfl rfl) ?_
                  refine r_end ?_
                  refine g_sub [(1, .ptr (enc_S_api_Block b_a0)), (3, .ref b3_0 0 []), (4, .map m16_2), (18, .lst (b_a0.f1_Code.map enc_S_api_Instr)), (19, .int .i64 (b_a0.f1_Code.length : Int)), (5, .bool removed_4), (6, .bool kept_5), (7, .int .i64 0), (8, .int .i64 last_7), (20, .int .i64 ((i_8 + 1 : Nat) : Int))] (Sub.cons' rfl (Sub.cons' rfl (Sub.cons' rfl (Sub.cons' rfl (Sub.cons' rfl (Sub.cons' rfl (Sub.cons' rfl (Sub.cons' rfl (Sub.cons' rfl (Sub.cons' rfl (Sub.nil _))))))))))) ?_
                  exact IH0 _ _ _ (by omega) ⟨removed_4, kept_5, 0, last_7, (i_8 + 1), (bif q_20.f1_A == 0 then true else bound_9), (bif q_20.f1_A == 1 then true else bound_10), (bif q_20.f1_A == 2 then true else bound_11), (bif q_20.f1_A == 3 then true else bound_12), mm_13, rfl, rfl, rfl, (by omega), hr⟩
              ·
               refine r_skip rfl rfl rfl ?_
               refine r_skip rfl rfl rfl ?_
               refine r_skip rfl rfl rfl ?_
               refine r_skip rfl rfl rfl ?_
               refine r_skip rfl rfl rfl ?_
               refine r_skip rfl rfl rfl ?_
               refine r_skip rfl rfl rfl ?_
               refine r_skip rfl rfl rfl ?_
               refine r_skip rfl rfl rfl ?_
               refine r_skip rfl rfl rfl ?_
               refine r_d rfl rfl rfl (s_pickF rfl rfl rfl) ?_
               refine r_d rfl rfl rfl (s_pickF rfl rfl rfl) ?_
               refine r_end ?_
               refine g_condF rfl ?_
               refine g_skip ?_
               refine g_run (by kernel_rfl) [(0, .d), (1, .d)] rfl ?_
               refine r_d rfl rfl rfl (s_move rfl rfl) ?_
               refine r_d rfl rfl rfl (s_assign rfl rfl) ?_
               refine r_end ?_
               refine g_inBlock ?_
               refine g_run (by kernel_rfl) [(0, .d), (1, .d)] rfl ?_
               refine r_d rfl rfl rfl (s_ar (r := ((i_8 + 1 : Nat) : Int)) rfl rfl rfl (by simp [iar]) (by omega)) ?_
               refine r_d rfl rfl rfl (s_move rfl rfl) ?_
               refine r_end ?_
               refine g_sub [(1, .ptr (enc_S_api_Block b_a0)), (3, .ref b3_0 0 []), (4, .map m16_2), (18, .lst (b_a0.f1_Code.map enc_S_api_Instr)), (19, .int .i64 (b_a0.f1_Code.length : Int)), (5, .bool removed_4), (6, .bool kept_5), (7, .int .i64 0), (8, .int .i64 last_7), (20, .int .i64 ((i_8 + 1 : Nat) : Int))] (Sub.cons' rfl (Sub.cons' rfl (Sub.cons' rfl (Sub.cons' rfl (Sub.cons' rfl (Sub.cons' rfl (Sub.cons' rfl (Sub.cons' rfl (Sub.cons' rfl (Sub.cons' rfl (Sub.nil _))))))))))) ?_
               exact IH0 _ _ _ (by omega) ⟨removed_4, kept_5, 0, last_7, (i_8 + 1), (bif q_20.f1_A == 0 then true else bound_9), (bif q_20.f1_A == 1 then true else bound_10), (bif q_20.f1_A == 2 then true else bound_11), (bif q_20.f1_A == 3 then true else bound_12), mm_13, rfl, rfl, rfl, (by omega), hr⟩
           ·
            refine g_condF rfl ?_
            refine g_seq ?_
            refine g_run (by kernel_rfl) [(0, .d), (1, .d)] rfl ?_
            refine r_d rfl rfl rfl (s_cmp rfl rfl rfl rfl) ?_
            refine r_d rfl rfl rfl (s_assign rfl rfl) ?_
            refine r_end ?_
            refine g_sB 113 rfl hr (fun h113_91 hr => ?_) (fun h113_91 hr => ?_)
            ·
             refine g_condT rfl ?_
             refine g_seq ?_
             refine g_seq ?_
             refine g_run (by kernel_rfl) [(0, .d), (1, .d), (2, .w), (3, .d), (4, .d), (5, .d), (6, .d), (7, .d), (8, .d), (9, .d), (10, .d), (11, .d)] rfl ?_
             refine r_d rfl rfl rfl (s_fieldAddr rfl fl_api_Instr_2 rfl rfl rfl rfl) ?_
             refine r_d rfl rfl rfl (s_load rfl rfl (by exact ty_int) rfl) ?_
             obtain ⟨r_93, hr_93, hr⟩ := bindS hr
             refine r_w rfl rfl rfl (s_call _ rfl cl_Pinstr_set_first (.cons rfl (Wk.refl _) (.cons rfl (Wk.refl _) .nil)) (by exact (pf0 _)) (lg_Pinstr_set_first_s1 _ _ _ _ _ _ _ hr_93)) ?_
             rintro _ _ ⟨_, ⟨rfl, rfl⟩, rfl⟩
             refine r_st ((.cell b3_0 (.agg [.bool r_93.2.1, .bool r_93.2.2.1, .bool r_93.2.2.2.1, .bool r_93.2.2.2.2])) :: _) rfl ?_
             refine r_d rfl rfl rfl (s_not rfl rfl) ?_
             refine r_d rfl rfl rfl (s_move rfl rfl) ?_
             refine r_sB 119 rfl hr (fun h119_93 hr => ?_) (fun h119_93 hr => ?_)
             ·
              refine r_skip rfl rfl rfl ?_
              refine r_skip rfl rfl rfl ?_
              refine r_skip rfl rfl rfl ?_
              refine r_skip rfl rfl rfl ?_
              refine r_skip rfl rfl rfl ?_
              refine r_skip rfl rfl rfl ?_
              refine r_d rfl rfl rfl (s_pickT rfl rfl rfl) ?_
              refine r_end ?_
              refine g_condT rfl ?_
              refine g_seq ?_
              refine g_run (by kernel_rfl) [(0, .d)] rfl ?_
              refine r_d rfl rfl rfl (s_assign rfl rfl) ?_
              refine r_end ?_
              obtain rfl := Option.some.inj hr
              refine g_ret Try.func52 _ (.cons (resTmp rfl (Wk.refl _)) .nil) ?_
              rfl
             ·
              refine r_d rfl rfl rfl (s_fieldAddr rfl fl_api_Instr_1 rfl rfl rfl rfl) ?_
              refine r_d rfl rfl rfl (s_load rfl rfl (by exact ty_int) rfl) ?_
              refine r_d rfl rfl rfl (s_fieldAddr rfl fl_api_Block_0 rfl rfl rfl rfl) ?_
              refine r_d rfl rfl rfl (s_fieldAddr rfl fl_api_Occ_0 rfl rfl rfl rfl) ?_
              refine r_d rfl rfl rfl (s_load rfl rfl (by exact ty_int) rfl) ?_
              refine r_d rfl rfl rfl (s_cmp rfl rfl rfl rfl) ?_
              refine r_d rfl rfl rfl (s_pickF rfl rfl rfl) ?_
              refine r_end ?_
              refine g_sB 126 rfl hr (fun h126_94 hr => ?_) (fun h126_94 hr => ?_)
              ·
               refine g_condT rfl ?_
               refine g_seq ?_
               refine g_run (by kernel_rfl) [(0, .d)] rfl ?_
               refine r_d rfl rfl rfl (s_assign rfl rfl) ?_
               refine r_end ?_
               obtain rfl := Option.some.inj hr
               refine g_ret Try.func52 _ (.cons (resTmp rfl (Wk.refl _)) .nil) ?_
               rfl
              ·
               refine g_condF rfl ?_
               refine g_skip ?_
               refine g_run (by kernel_rfl) [(0, .d), (1, .d), (2, .d), (3, .w)] rfl ?_
               refine r_d rfl rfl rfl (s_move rfl rfl) ?_
               refine r_d rfl rfl rfl (s_fieldAddr rfl fl_api_Instr_2 rfl rfl rfl rfl) ?_
               refine r_d rfl rfl rfl (s_load rfl rfl (by exact ty_int) rfl) ?_
               obtain ⟨mm_96, hmm_96, hr⟩ := bindS hr
               refine r_w01 rfl rfl rfl (m_mapUpdate (key := (D.int .i64)) (g := D.bool) mm_13 q_20.f2_B true rfl Try.underlying105 (keyInt Try.underlying3) rfl rfl rfl (Wk.refl _) (pf1 _ _ _) hmm_96) ?_
               refine r_end ?_
               refine g_inBlock ?_
               refine g_seq ?_
               refine g_seq ?_
               refine g_run (by kernel_rfl) [(0, .d), (1, .d), (2, .d), (3, .d), (4, .d), (5, .d), (6, .d), (7, .d), (8, .d), (9, .d), (10, .d), (11, .d), (12, .d), (13, .d), (14, .d), (15, .d), (16, .d), (17, .d), (18, .d), (19, .d)] rfl ?_
               refine r_d rfl rfl rfl (s_move rfl rfl) ?_
               refine r_d rfl rfl rfl (s_move rfl rfl) ?_
               refine r_d rfl rfl rfl (s_cmp rfl rfl rfl rfl) ?_
               refine r_d rfl rfl rfl (s_move rfl rfl) ?_
               refine r_sB 133 rfl hr (fun h133_96 hr => ?_) (fun h133_96 hr => ?_)
               ·
                refine r_skip rfl rfl rfl ?_
                refine r_skip rfl rfl rfl ?_
                refine r_skip rfl rfl rfl ?_
                refine r_skip rfl rfl rfl ?_
                refine r_skip rfl rfl rfl ?_
                refine r_skip rfl rfl rfl ?_
                refine r_skip rfl rfl rfl ?_
                refine r_skip rfl rfl rfl ?_
                refine r_skip rfl rfl rfl ?_
                refine r_skip rfl rfl rfl ?_
                refine r_skip rfl rfl rfl ?_
                refine r_skip rfl rfl rfl ?_
                refine r_skip rfl rfl rfl ?_
                refine r_skip rfl rfl rfl ?_
                refine r_skip rfl rfl rfl ?_
                refine r_d rfl rfl rfl (s_pickT rfl rfl rfl) ?_
                refine r_end ?_
                refine g_condT rfl ?_
                refine g_seq ?_
                refine g_run (by kernel_rfl) [(0, .d)] rfl ?_
                refine r_d rfl rfl rfl (s_assign rfl rfl) ?_
                refine r_end ?_
                obtain rfl := Option.some.inj hr
                refine g_ret Try.func52 _ (.cons (resTmp rfl (Wk.refl _)) .nil) ?_
                rfl
               ·
                refine r_d rfl rfl rfl (s_move rfl rfl) ?_
                refine r_d rfl rfl rfl (s_move rfl rfl) ?_
                refine r_d rfl rfl rfl (s_cmp rfl rfl rfl rfl) ?_
                refine r_d rfl rfl rfl (s_move rfl rfl) ?_
                refine r_sB 137 rfl hr (fun h137_97 hr => ?_) (fun h137_97 hr => ?_)
                ·
                 refine r_d rfl rfl rfl (s_move rfl rfl) ?_
                 refine r_d rfl rfl rfl (s_cmp rfl rfl rfl rfl) ?_
                 refine r_d rfl rfl rfl (s_move rfl rfl) ?_
                 refine r_sB 140 rfl hr (fun h140_98 hr => ?_) (fun h140_98 hr => ?_)
                 ·
                  refine r_skip rfl rfl rfl ?_
                  refine r_skip rfl rfl rfl ?_
                  refine r_d rfl rfl rfl (s_pickT rfl rfl rfl) ?_
                  refine r_d rfl rfl rfl (s_move rfl rfl) ?_
                  refine r_skip rfl rfl rfl ?_
                  refine r_skip rfl rfl rfl ?_
                  refine r_d rfl rfl rfl (s_pickT rfl rfl rfl) ?_
                  refine r_d rfl rfl rfl (s_pickT rfl rfl rfl) ?_
                  refine r_d rfl rfl rfl (s_pickF rfl rfl rfl) ?_
                  refine r_end ?_
                  refine g_condT rfl ?_
                  refine g_seq ?_
                  refine g_run (by kernel_rfl) [(0, .d)] rfl ?_
                  refine r_d rfl rfl rfl (s_assign rfl rfl) ?_
                  refine r_end ?_
                  obtain rfl := Option.some.inj hr
                  refine g_ret Try.func52 _ (.cons (resTmp rfl (Wk.refl _)) .nil) ?_
                  rfl
                 ·
                  refine r_d rfl rfl rfl (s_move rfl rfl) ?_
                  refine r_d rfl rfl rfl (s_cmp rfl rfl rfl rfl) ?_
                  refine r_d rfl rfl rfl (s_pickF rfl rfl rfl) ?_
                  refine r_d rfl rfl rfl (s_move rfl rfl) ?_
                  refine r_sB 144 rfl hr (fun h144_99 hr => ?_) (fun h144_99 hr => ?_)
                  ·
                   refine r_skip rfl rfl rfl ?_
                   refine r_skip rfl rfl rfl ?_
                   refine r_d rfl rfl rfl (s_pickT rfl rfl rfl) ?_
                   refine r_d rfl rfl rfl (s_pickT rfl rfl rfl) ?_
                   refine r_d rfl rfl rfl (s_pickF rfl rfl rfl) ?_
                   refine r_end ?_
                   refine g_condT rfl ?_
                   refine g_seq ?_
                   refine g_run (by kernel_rfl) [(0, .d)] rfl ?_
                   refine r_d rfl rfl rfl (s_assign rfl rfl) ?_
                   refine r_end ?_
                   obtain rfl := Option.some.inj hr
                   refine g_ret Try.func52 _ (.cons (resTmp rfl (Wk.refl _)) .nil) ?_
                   rfl
                  ·
                   refine r_d rfl rfl rfl (s_move rfl rfl) ?_
                   refine r_d rfl rfl rfl (s_cmp rfl rfl rfl rfl) ?_
                   refine r_d rfl rfl rfl (s_pickF rfl rfl rfl) ?_
                   refine r_d rfl rfl rfl (s_pickT rfl rfl rfl) ?_
                   refine r_d rfl rfl rfl (s_pickF rfl rfl rfl) ?_
                   refine r_end ?_
                   refine g_sB 149 rfl hr (fun h149_100 hr => ?_) (fun h149_100 hr => ?_)
                   ·
                    refine g_condT rfl ?_
                    refine g_seq ?_
                    refine g_run (by kernel_rfl) [(0, .d)] rfl ?_
                    refine r_d rfl rfl rfl (s_assign rfl rfl) ?_
                    refine r_end ?_
                    obtain rfl := Option.some.inj hr
                    refine g_ret Try.func52 _ (.cons (resTmp rfl (Wk.refl _)) .nil) ?_
                    rfl
                   ·
                    refine g_condF rfl ?_
                    refine g_skip ?_
                    refine g_run (by kernel_rfl) [(0, .d), (1, .d)] rfl ?_
                    refine r_d rfl rfl rfl (s_move rfl rfl) ?_
                    refine r_d rfl rfl rfl (s_assign rfl rfl) ?_
                    refine r_end ?_
                    refine g_inBlock ?_
                    refine g_run (by kernel_rfl) [(0, .d), (1, .d)] rfl ?_
                    refine r_d rfl rfl rfl (s_ar (r := ((i_8 + 1 : Nat) : Int)) rfl rfl rfl (by simp [iar]) (by omega)) ?_
                    refine r_d rfl rfl rfl (s_move rfl rfl) ?_
                    refine r_end ?_
                    refine g_sub [(1, .ptr (enc_S_api_Block b_a0)), (3, .ref b3_0 0 []), (4, .map m16_2), (18, .lst (b_a0.f1_Code.map enc_S_api_Instr)), (19, .int .i64 (b_a0.f1_Code.length : Int)), (5, .bool removed_4), (6, .bool kept_5), (7, .int .i64 0), (8, .int .i64 last_7), (20, .int .i64 ((i_8 + 1 : Nat) : Int))] (Sub.cons' rfl (Sub.cons' rfl (Sub.cons' rfl (Sub.cons' rfl (Sub.cons' rfl (Sub.cons' rfl (Sub.cons' rfl (Sub.cons' rfl (Sub.cons' rfl (Sub.cons' rfl (Sub.nil _))))))))))) ?_
                    refine g_perm [_, _] _ ((pf0 _).trans (pf1 _ _ _)) ?_
                    exact IH0 _ _ _ (by omega) ⟨removed_4, kept_5, 0, last_7, (i_8 + 1), r_93.2.1, r_93.2.2.1, r_93.2.2.2.1, r_93.2.2.2.2, mm_96, rfl, rfl, rfl, (by omega), hr⟩
                ·
                 refine r_skip rfl rfl rfl ?_
                 refine r_skip rfl rfl rfl ?_
                 refine r_skip rfl rfl rfl ?_
                 refine r_skip rfl rfl rfl ?_
                 refine r_skip rfl rfl rfl ?_
                 refine r_skip rfl rfl rfl ?_
                 refine r_skip rfl rfl rfl ?_
                 refine r_skip rfl rfl rfl ?_
                 refine r_skip rfl rfl rfl ?_
                 refine r_skip rfl rfl rfl ?_
                 refine r_d rfl rfl rfl (s_pickF rfl rfl rfl) ?_
                 refine r_d rfl rfl rfl (s_pickF rfl rfl rfl) ?_
                 refine r_end ?_
                 refine g_condF rfl ?_
                 refine g_skip ?_
                 refine g_run (by kernel_rfl) [(0, .d), (1, .d)] rfl ?_
                 refine r_d rfl rfl rfl (s_move rfl rfl) ?_
                 refine r_d rfl rfl rfl (s_assign rfl rfl) ?_
                 refine r_end ?_
                 refine g_inBlock ?_
                 refine g_run (by kernel_rfl) [(0, .d), (1, .d)] rfl ?_
                 refine r_d rfl rfl rfl (s_ar (r := ((i_8 + 1 : Nat) : Int)) rfl rfl rfl (by simp [iar]) (by omega)) ?_
                 refine r_d rfl rfl rfl (s_move rfl rfl) ?_
                 refine r_end ?_
                 refine g_sub [(1, .ptr (enc_S_api_Block b_a0)), (3, .ref b3_0 0 []), (4, .map m16_2), (18, .lst (b_a0.f1_Code.map enc_S_api_Instr)), (19, .int .i64 (b_a0.f1_Code.length : Int)), (5, .bool removed_4), (6, .bool kept_5), (7, .int .i64 0), (8, .int .i64 last_7), (20, .int .i64 ((i_8 + 1 : Nat) : Int))] (Sub.cons' rfl (Sub.cons' rfl (Sub.cons' rfl (Sub.cons' rfl (Sub.cons' rfl (Sub.cons' rfl (Sub.cons' rfl (Sub.cons' rfl (Sub.cons' rfl (Sub.cons' rfl (Sub.nil _))))))))))) ?_
                 refine g_perm [_, _] _ ((pf0 _).trans (pf1 _ _ _)) ?_
                 exact IH0 _ _ _ (by omega) ⟨removed_4, kept_5, 0, last_7, (i_8 + 1), r_93.2.1, r_93.2.2.1, r_93.2.2.2.1, r_93.2.2.2.2, mm_96, rfl, rfl, rfl, (by omega), hr⟩
            ·
             refine g_condF rfl ?_
             refine g_skip ?_
             refine g_inBlock ?_
             refine g_seq ?_
             refine g_seq ?_
             refine g_run (by kernel_rfl) [(0, .d), (1, .d), (2, .d), (3, .d), (4, .d), (5, .d), (6, .d), (7, .d), (8, .d), (9, .d), (10, .d), (11, .d), (12, .d), (13, .d), (14, .d), (15, .d), (16, .d), (17, .d), (18, .d), (19, .d)] rfl ?_
             refine r_d rfl rfl rfl (s_move rfl rfl) ?_
             refine r_d rfl rfl rfl (s_move rfl rfl) ?_
             refine r_d rfl rfl rfl (s_cmp rfl rfl rfl rfl) ?_
             refine r_d rfl rfl rfl (s_move rfl rfl) ?_
             refine r_sB 133 rfl hr (fun h133_101 hr => ?_) (fun h133_101 hr => ?_)
             ·
              refine r_skip rfl rfl rfl ?_
              refine r_skip rfl rfl rfl ?_
              refine r_skip rfl rfl rfl ?_
              refine r_skip rfl rfl rfl ?_
              refine r_skip rfl rfl rfl ?_
              refine r_skip rfl rfl rfl ?_
              refine r_skip rfl rfl rfl ?_
              refine r_skip rfl rfl rfl ?_
              refine r_skip rfl rfl rfl ?_
              refine r_skip rfl rfl rfl ?_
              refine r_skip rfl rfl rfl ?_
              refine r_skip rfl rfl rfl ?_
              refine r_skip rfl rfl rfl ?_
              refine r_skip rfl rfl rfl ?_
              refine r_skip rfl rfl rfl ?_
              refine r_d rfl rfl rfl (s_pickT rfl rfl rfl) ?_
              refine r_end ?_
              refine g_condT rfl ?_
              refine g_seq ?_
              refine g_run (by kernel_rfl) [(0, .d)] rfl ?_
              refine r_d rfl rfl rfl (s_assign rfl rfl) ?_
              refine r_end ?_
              obtain rfl := Option.some.inj hr
              refine g_ret Try.func52 _ (.cons (resTmp rfl (Wk.refl _)) .nil) ?_
              rfl
             ·
              refine r_d rfl rfl rfl (s_move rfl rfl) ?_
              refine r_d rfl rfl rfl (s_move rfl rfl) ?_
              refine r_d rfl rfl rfl (s_cmp rfl rfl rfl rfl) ?_
              refine r_d rfl rfl rfl (s_move rfl rfl) ?_
              refine r_sB 137 rfl hr (fun h137_102 hr => ?_) (fun h137_102 hr => ?_)
              ·
               refine r_d rfl rfl rfl (s_move rfl rfl) ?_
               refine r_d rfl rfl rfl (s_cmp rfl rfl rfl rfl) ?_
               refine r_d rfl rfl rfl (s_move rfl rfl) ?_
               refine r_sB 140 rfl hr (fun h140_103 hr => ?_) (fun h140_103 hr => ?_)
               ·
                refine r_skip rfl rfl rfl ?_
                refine r_skip rfl rfl rfl ?_
                refine r_d rfl rfl rfl (s_pickT rfl rfl rfl) ?_
                refine r_d rfl rfl rfl (s_move rfl rfl) ?_
                refine r_skip rfl rfl rfl ?_
                refine r_skip rfl rfl rfl ?_
                refine r_d rfl rfl rfl (s_pickT rfl rfl rfl) ?_
                refine r_d rfl rfl rfl (s_pickT rfl rfl rfl) ?_
                refine r_d rfl rfl rfl (s_pickF rfl rfl rfl) ?_
                refine r_end ?_
                refine g_condT rfl ?_
                refine g_seq ?_
                refine g_run (by kernel_rfl) [(0, .d)] rfl ?_
                refine r_d rfl rfl rfl (s_assign rfl rfl) ?_
                refine r_end ?_
                obtain rfl := Option.some.inj hr
                refine g_ret Try.func52 _ (.cons (resTmp rfl (Wk.refl _)) .nil) ?_
                rfl
               ·
                refine r_d rfl rfl rfl (s_move rfl rfl) ?_
                refine r_d rfl rfl rfl (s_cmp rfl rfl rfl rfl) ?_
                refine r_d rfl rfl rfl (s_pickF rfl rfl rfl) ?_
                refine r_d rfl rfl rfl (s_move rfl rfl) ?_
                refine r_sB 144 rfl hr (fun h144_104 hr => ?_) (fun h144_104 hr => ?_)
                ·
                 refine r_skip rfl rfl rfl ?_
                 refine r_skip rfl rfl rfl ?_
                 refine r_d rfl rfl rfl (s_pickT rfl rfl rfl) ?_
                 refine r_d rfl rfl rfl (s_pickT rfl rfl rfl) ?_
                 refine r_d rfl rfl rfl (s_pickF rfl rfl rfl) ?_
                 refine r_end ?_
                 refine g_condT rfl ?_
                 refine g_seq ?_
                 refine g_run (by kernel_rfl) [(0, .d)] rfl ?_
                 refine r_d rfl rfl rfl (s_assign rfl rfl) ?_
                 refine r_end ?_
                 obtain rfl := Option.some.inj hr
                 refine g_ret Try.func52 _ (.cons (resTmp rfl (Wk.refl _)) .nil) ?_
                 rfl
                ·
                 refine r_d rfl rfl rfl (s_move rfl rfl) ?_
                 refine r_d rfl rfl rfl (s_cmp rfl rfl rfl rfl) ?_
                 refine r_d rfl rfl rfl (s_pickF rfl rfl rfl) ?_
                 refine r_d rfl rfl rfl (s_pickT rfl rfl rfl) ?_
                 refine r_d rfl rfl rfl (s_pickF rfl rfl rfl) ?_
                 refine r_end ?_
                 refine g_sB 149 rfl hr (fun h149_105 hr => ?_) (fun h149_105 hr => ?_)
                 ·
                  refine g_condT rfl ?_
                  refine g_seq ?_
                  refine g_run (by kernel_rfl) [(0, .d)] rfl ?_
                  refine r_d rfl rfl rfl (s_assign rfl rfl) ?_
                  refine r_end ?_
                  obtain rfl := Option.some.inj hr
                  refine g_ret Try.func52 _ (.cons (resTmp rfl (Wk.refl _)) .nil) ?_
                  rfl
                 ·
                  refine g_condF rfl ?_
                  refine g_skip ?_
                  refine g_run (by kernel_rfl) [(0, .d), (1, .d)] rfl ?_
                  refine r_d rfl rfl rfl (s_move rfl rfl) ?_
                  refine r_d rfl rfl rfl (s_assign rfl rfl) ?_
                  refine r_end ?_
                  refine g_inBlock ?_
                  refine g_run (by kernel_rfl) [(0, .d), (1, .d)] rfl ?_
                  refine r_d rfl rfl rfl (s_ar (r := ((i_8 + 1 : Nat) : Int)) rfl rfl rfl (by simp [iar]) (by omega)) ?_
                  refine r_d rfl rfl rfl (s_move rfl rfl) ?_
                  refine r_end ?_
                  refine g_sub [(1, .ptr (enc_S_api_Block b_a0)), (3, .ref b3_0 0 []), (4, .map m16_2), (18, .lst (b_a0.f1_Code.map enc_S_api_Instr)), (19, .int .i64 (b_a0.f1_Code.length : Int)), (5, .bool removed_4), (6, .bool kept_5), (7, .int .i64 0), (8, .int .i64 last_7), (20, .int .i64 ((i_8 + 1 : Nat) : Int))] (Sub.cons' rfl (Sub.cons' rfl (Sub.cons' rfl (Sub.cons' rfl (Sub.cons' rfl (Sub.cons' rfl (Sub.cons' rfl (Sub.cons' rfl (Sub.cons' rfl (Sub.cons' rfl (Sub.nil _))))))))))) ?_
                  exact IH0 _ _ _ (by omega) ⟨removed_4, kept_5, 0, last_7, (i_8 + 1), bound_9, bound_10, bound_11, bound_12, mm_13, rfl, rfl, rfl, (by omega), hr⟩
              ·
               refine r_skip rfl rfl rfl ?_
               refine r_skip rfl rfl rfl ?_
               refine r_skip rfl rfl rfl ?_
               refine r_skip rfl rfl rfl ?_
               refine r_skip rfl rfl rfl ?_
               refine r_skip rfl rfl rfl ?_
               refine r_skip rfl rfl rfl ?_
               refine r_skip rfl rfl rfl ?_
               refine r_skip rfl rfl rfl ?_
               refine r_skip rfl rfl rfl ?_
               refine r_d rfl rfl rfl (s_pickF rfl rfl rfl) ?_
               refine r_d rfl rfl rfl (s_pickF rfl rfl rfl) ?_
               refine r_end ?_
               refine g_condF rfl ?_
               refine g_skip ?_
               refine g_run (by kernel_rfl) [(0, .d), (1, .d)] rfl ?_
               refine r_d rfl rfl rfl (s_move rfl rfl) ?_
               refine r_d rfl rfl rfl (s_assign rfl rfl) ?_
               refine r_end ?_
               refine g_inBlock ?_
               refine g_run (by kernel_rfl) [(0, .d), (1, .d)] rfl ?_
               refine r_d rfl rfl rfl (s_ar (r := ((i_8 + 1 : Nat) : Int)) rfl rfl rfl (by simp [iar]) (by omega)) ?_
               refine r_d rfl rfl rfl (s_move rfl rfl) ?_
               refine r_end ?_
               refine g_sub [(1, .ptr (enc_S_api_Block b_a0)), (3, .ref b3_0 0 []), (4, .map m16_2), (18, .lst (b_a0.f1_Code.map enc_S_api_Instr)), (19, .int .i64 (b_a0.f1_Code.length : Int)), (5, .bool removed_4), (6, .bool kept_5), (7, .int .i64 0), (8, .int .i64 last_7), (20, .int .i64 ((i_8 + 1 : Nat) : Int))] (Sub.cons' rfl (Sub.cons' rfl (Sub.cons' rfl (Sub.cons' rfl (Sub.cons' rfl (Sub.cons' rfl (Sub.cons' rfl (Sub.cons' rfl (Sub.cons' rfl (Sub.cons' rfl (Sub.nil _))))))))))) ?_
               exact IH0 _ _ _ (by omega) ⟨removed_4, kept_5, 0, last_7, (i_8 + 1), bound_9, bound_10, bound_11, bound_12, mm_13, rfl, rfl, rfl, (by omega), hr⟩

noncomputable def lf_instr_Check (b_a0 : S_api_Block) : Option (Int) :=
  (bif (decide ((b_a0.f1_Code.length : Int) > (200 : Int))) then
  some (6)
  else
  ((lf_instr_rule b_a0.f0_Occ.f0_Rule).bind fun r_2 =>
  (bif (!r_2) then
  some (2)
  else
  ((lf_instr_register b_a0.f0_Occ.f1_Head).bind fun r_4 =>
  (bif (!r_4) then
  some (2)
  else
  ((lf_slices_ContainsFunc_s6 b_a0.f1_Code).bind fun r_6 =>
  (bif r_6 then
  some (2)
  else
  ((lf_instr_formed b_a0).bind fun r_8 =>
  (bif (!r_8) then
  some (18)
  else
  some (0))))))))))

set_option maxHeartbeats 1000000 in
theorem lg_instr_Check (b_a0 : S_api_Block) (res : Int) (hr : lf_instr_Check b_a0 = some res) : Gives Try.prog 17 [enc_S_api_Block b_a0] (.int .i64 res) := by
  unfold lf_instr_Check at hr
  refine spec_env [(0, enc_S_api_Block b_a0)] Try.func17 rfl rfl fun K hK => ?_
  refine g_seq ?_
  refine g_run (by kernel_rfl) [(0, .d), (1, .d)] rfl ?_
  refine r_d rfl rfl rfl (s_box rfl rfl rfl) ?_
  refine r_d rfl rfl rfl (s_assign rfl rfl) ?_
  refine r_end ?_
  refine g_seq ?_
  refine g_block ?_
  refine g_seq ?_
  refine g_run (by kernel_rfl) [(0, .d), (1, .d), (2, .d), (3, .d), (4, .d)] rfl ?_
  refine r_d rfl rfl rfl (s_fieldAddr rfl fl_api_Block_1 rfl rfl (by simp [szs, sz, sz_S_api_Occ]) rfl) ?_
  refine r_d rfl rfl rfl (s_load rfl rfl (by exact ty_L_api_Instr) rfl) ?_
  refine r_d rfl rfl rfl (m_len (f := enc_S_api_Instr) b_a0.f1_Code rfl el_L_api_Instr rfl (asl rfl)) ?_
  refine r_d rfl rfl rfl (s_cmp rfl rfl rfl rfl) ?_
  refine r_d rfl rfl rfl (s_assign rfl rfl) ?_
  refine r_end ?_
  refine g_sB 3 rfl hr (fun h3_0 hr => ?_) (fun h3_0 hr => ?_)
  ·
   refine g_condT rfl ?_
   refine g_seq ?_
   refine g_run (by kernel_rfl) [(0, .d)] rfl ?_
   refine r_d rfl rfl rfl (s_assign rfl rfl) ?_
   refine r_end ?_
   obtain rfl := Option.some.inj hr
   refine g_ret Try.func17 _ (.cons (resTmp rfl (Wk.refl _)) .nil) ?_
   rfl
  ·
   refine g_condF rfl ?_
   refine g_seq ?_
   refine g_seq ?_
   refine g_run (by kernel_rfl) [(0, .d), (1, .d), (2, .d), (3, .d), (4, .d), (5, .d), (6, .d), (7, .d), (8, .d), (9, .d), (10, .d), (11, .d), (12, .d)] rfl ?_
   refine r_d rfl rfl rfl (s_fieldAddr rfl fl_api_Block_0 rfl rfl rfl rfl) ?_
   refine r_d rfl rfl rfl (s_fieldAddr rfl fl_api_Occ_0 rfl rfl rfl rfl) ?_
   refine r_d rfl rfl rfl (s_load rfl rfl (by exact ty_int) rfl) ?_
   obtain ⟨r_2, hr_2, hr⟩ := bindS hr
   refine r_d rfl rfl rfl (s_callD rfl cl_instr_rule (.cons rfl (Wk.refl _) .nil) (lg_instr_rule _ _ hr_2)) ?_
   refine r_d rfl rfl rfl (s_not rfl rfl) ?_
   refine r_d rfl rfl rfl (s_move rfl rfl) ?_
   refine r_sB 14 rfl hr (fun h14_2 hr => ?_) (fun h14_2 hr => ?_)
   ·
    refine r_skip rfl rfl rfl ?_
    refine r_skip rfl rfl rfl ?_
    refine r_skip rfl rfl rfl ?_
    refine r_skip rfl rfl rfl ?_
    refine r_skip rfl rfl rfl ?_
    refine r_d rfl rfl rfl (s_pickT rfl rfl rfl) ?_
    refine r_d rfl rfl rfl (s_assign rfl rfl) ?_
    refine r_end ?_
    refine g_condT rfl ?_
    refine g_skip ?_
    refine g_condT rfl ?_
    refine g_seq ?_
    refine g_run (by kernel_rfl) [(0, .d)] rfl ?_
    refine r_d rfl rfl rfl (s_assign rfl rfl) ?_
    refine r_end ?_
    obtain rfl := Option.some.inj hr
    refine g_ret Try.func17 _ (.cons (resTmp rfl (Wk.refl _)) .nil) ?_
    rfl
   ·
    refine r_d rfl rfl rfl (s_fieldAddr rfl fl_api_Block_0 rfl rfl rfl rfl) ?_
    refine r_d rfl rfl rfl (s_fieldAddr rfl fl_api_Occ_1 rfl rfl rfl rfl) ?_
    refine r_d rfl rfl rfl (s_load rfl rfl (by exact ty_int) rfl) ?_
    obtain ⟨r_4, hr_4, hr⟩ := bindS hr
    refine r_d rfl rfl rfl (s_callD rfl cl_instr_register (.cons rfl (Wk.refl _) .nil) (lg_instr_register _ _ hr_4)) ?_
    refine r_d rfl rfl rfl (s_not rfl rfl) ?_
    refine r_d rfl rfl rfl (s_pickF rfl rfl rfl) ?_
    refine r_d rfl rfl rfl (s_assign rfl rfl) ?_
    refine r_end ?_
    refine g_sB 8 rfl hr (fun h8_4 hr => ?_) (fun h8_4 hr => ?_)
    ·
     refine g_condT rfl ?_
     refine g_skip ?_
     refine g_condT rfl ?_
     refine g_seq ?_
     refine g_run (by kernel_rfl) [(0, .d)] rfl ?_
     refine r_d rfl rfl rfl (s_assign rfl rfl) ?_
     refine r_end ?_
     obtain rfl := Option.some.inj hr
     refine g_ret Try.func17 _ (.cons (resTmp rfl (Wk.refl _)) .nil) ?_
     rfl
    ·
     refine g_condF rfl ?_
     refine g_run (by kernel_rfl) [(0, .d), (1, .d), (2, .d), (3, .d)] rfl ?_
     refine r_d rfl rfl rfl (s_fieldAddr rfl fl_api_Block_1 rfl rfl (by simp [szs, sz, sz_S_api_Occ]) rfl) ?_
     refine r_d rfl rfl rfl (s_load rfl rfl (by exact ty_L_api_Instr) rfl) ?_
     obtain ⟨r_6, hr_6, hr⟩ := bindS hr
     refine r_d rfl rfl rfl (s_callD rfl cl_slices_ContainsFunc_api_Instr_api_Instr (.cons rfl (Wk.refl _) (.cons rfl (Wk.refl _) .nil)) (lg_slices_ContainsFunc_s6 _ _ hr_6)) ?_
     refine r_d rfl rfl rfl (s_assign rfl rfl) ?_
     refine r_end ?_
     refine g_sB 8 rfl hr (fun h8_6 hr => ?_) (fun h8_6 hr => ?_)
     ·
      refine g_condT rfl ?_
      refine g_seq ?_
      refine g_run (by kernel_rfl) [(0, .d)] rfl ?_
      refine r_d rfl rfl rfl (s_assign rfl rfl) ?_
      refine r_end ?_
      obtain rfl := Option.some.inj hr
      refine g_ret Try.func17 _ (.cons (resTmp rfl (Wk.refl _)) .nil) ?_
      rfl
     ·
      refine g_condF rfl ?_
      refine g_seq ?_
      refine g_run (by kernel_rfl) [(0, .d), (1, .d), (2, .d), (3, .d)] rfl ?_
      refine r_d rfl rfl rfl (s_load rfl rfl (by exact ty_api_Block) (sz_S_api_Block _)) ?_
      obtain ⟨r_8, hr_8, hr⟩ := bindS hr
      refine r_d rfl rfl rfl (s_callD rfl cl_instr_formed (.cons rfl (Wk.refl _) .nil) (lg_instr_formed _ _ hr_8)) ?_
      refine r_d rfl rfl rfl (s_not rfl rfl) ?_
      refine r_d rfl rfl rfl (s_assign rfl rfl) ?_
      refine r_end ?_
      refine g_sB 24 rfl hr (fun h24_8 hr => ?_) (fun h24_8 hr => ?_)
      ·
       refine g_condT rfl ?_
       refine g_seq ?_
       refine g_run (by kernel_rfl) [(0, .d)] rfl ?_
       refine r_d rfl rfl rfl (s_assign rfl rfl) ?_
       refine r_end ?_
       obtain rfl := Option.some.inj hr
       refine g_ret Try.func17 _ (.cons (resTmp rfl (Wk.refl _)) .nil) ?_
       rfl
      ·
       refine g_condF rfl ?_
       refine g_skip ?_
       refine g_inBlock ?_
       refine g_seq ?_
       refine g_run (by kernel_rfl) [(0, .d)] rfl ?_
       refine r_d rfl rfl rfl (s_assign rfl rfl) ?_
       refine r_end ?_
       obtain rfl := Option.some.inj hr
       refine g_ret Try.func17 _ (.cons (resTmp rfl (Wk.refl _)) .nil) ?_
       rfl

noncomputable def lf_instr_declared (s_a0 : ByteArray) (arity_a1 : Int) : Option (Int) :=
  ((x_isName s_a0).bind fun r_1 =>
  (bif (!r_1) then
  some (7)
  else
  (bif (decide (arity_a1 < (0 : Int))) then
  some (9)
  else
  (bif (decide (arity_a1 > (6 : Int))) then
  some (9)
  else
  some (0)))))

set_option maxHeartbeats 1000000 in
theorem lg_instr_declared (s_a0 : ByteArray) (arity_a1 : Int) (res : Int) (hr : lf_instr_declared s_a0 arity_a1 = some res) : Gives Try.prog 76 [.str s_a0, .int .i64 arity_a1] (.int .i64 res) := by
  unfold lf_instr_declared at hr
  refine spec_env [(0, .str s_a0), (1, .int .i64 arity_a1)] Try.func76 rfl rfl fun K hK => ?_
  refine g_seq ?_
  refine g_run (by kernel_rfl) [(0, .d)] rfl ?_
  refine r_d rfl rfl rfl (s_assign rfl rfl) ?_
  refine r_end ?_
  refine g_seq ?_
  refine g_seq ?_
  refine g_run (by kernel_rfl) [(0, .d), (1, .d), (2, .d)] rfl ?_
  refine r_d rfl rfl rfl (s_move rfl rfl) ?_
  obtain ⟨r_1, hr_1, hr⟩ := bindS hr
  refine r_d rfl rfl rfl (s_callD rfl cl_name_Right (.cons rfl (Wk.refl _) .nil) (lx_name_Right _ _ hr_1)) ?_
  refine r_d rfl rfl rfl (s_not rfl rfl) ?_
  refine r_end ?_
  refine g_sB 7 rfl hr (fun h7_1 hr => ?_) (fun h7_1 hr => ?_)
  ·
   refine g_condT rfl ?_
   refine g_seq ?_
   refine g_run (by kernel_rfl) [(0, .d)] rfl ?_
   refine r_d rfl rfl rfl (s_assign rfl rfl) ?_
   refine r_end ?_
   obtain rfl := Option.some.inj hr
   refine g_ret Try.func76 _ (.cons (resTmp rfl (Wk.refl _)) .nil) ?_
   rfl
  ·
   refine g_condF rfl ?_
   refine g_skip ?_
   refine g_seq ?_
   refine g_seq ?_
   refine g_run (by kernel_rfl) [(0, .d), (1, .d), (2, .d), (3, .d), (4, .d), (5, .d)] rfl ?_
   refine r_d rfl rfl rfl (s_move rfl rfl) ?_
   refine r_d rfl rfl rfl (s_cmp rfl rfl rfl rfl) ?_
   refine r_d rfl rfl rfl (s_move rfl rfl) ?_
   refine r_sB 10 rfl hr (fun h10_2 hr => ?_) (fun h10_2 hr => ?_)
   ·
    refine r_skip rfl rfl rfl ?_
    refine r_skip rfl rfl rfl ?_
    refine r_d rfl rfl rfl (s_pickT rfl rfl rfl) ?_
    refine r_end ?_
    refine g_condT rfl ?_
    refine g_seq ?_
    refine g_run (by kernel_rfl) [(0, .d)] rfl ?_
    refine r_d rfl rfl rfl (s_assign rfl rfl) ?_
    refine r_end ?_
    obtain rfl := Option.some.inj hr
    refine g_ret Try.func76 _ (.cons (resTmp rfl (Wk.refl _)) .nil) ?_
    rfl
   ·
    refine r_d rfl rfl rfl (s_move rfl rfl) ?_
    refine r_d rfl rfl rfl (s_cmp rfl rfl rfl rfl) ?_
    refine r_d rfl rfl rfl (s_pickF rfl rfl rfl) ?_
    refine r_end ?_
    refine g_sB 13 rfl hr (fun h13_3 hr => ?_) (fun h13_3 hr => ?_)
    ·
     refine g_condT rfl ?_
     refine g_seq ?_
     refine g_run (by kernel_rfl) [(0, .d)] rfl ?_
     refine r_d rfl rfl rfl (s_assign rfl rfl) ?_
     refine r_end ?_
     obtain rfl := Option.some.inj hr
     refine g_ret Try.func76 _ (.cons (resTmp rfl (Wk.refl _)) .nil) ?_
     rfl
    ·
     refine g_condF rfl ?_
     refine g_skip ?_
     refine g_seq ?_
     refine g_run (by kernel_rfl) [(0, .d)] rfl ?_
     refine r_d rfl rfl rfl (s_assign rfl rfl) ?_
     refine r_end ?_
     obtain rfl := Option.some.inj hr
     refine g_ret Try.func76 _ (.cons (resTmp rfl (Wk.refl _)) .nil) ?_
     rfl

noncomputable def lf_instr_access_L0 (k : Option (Int)) (a_a0 : S_api_Access) : List Int → Int → Option (Int)
  | [], last_3 =>
  k
  | q_5 :: rest, last_3 =>
  (bif (decide (q_5 ≤ last_3)) then
  some (2)
  else
  (bif (decide (q_5 ≥ a_a0.f1_Arity)) then
  some (2)
  else
  (lf_instr_access_L0 k a_a0 rest q_5)))
noncomputable def lf_instr_access (a_a0 : S_api_Access) : Option (Int) :=
  ((lf_instr_declared a_a0.f0_Name a_a0.f1_Arity).bind fun r_1 =>
  (bif (r_1 != (0 : Int)) then
  some (r_1)
  else
  (lf_instr_access_L0 (some (0)) a_a0 a_a0.f2_Positions (-1))))

set_option maxHeartbeats 1000000 in
theorem lg_instr_access (a_a0 : S_api_Access) (res : Int) (hr : lf_instr_access a_a0 = some res) : Gives Try.prog 53 [enc_S_api_Access a_a0] (.int .i64 res) := by
  unfold lf_instr_access at hr
  refine spec_env [(0, enc_S_api_Access a_a0)] Try.func53 rfl rfl fun K hK => ?_
  refine g_seq ?_
  refine g_run (by kernel_rfl) [(0, .d), (1, .d)] rfl ?_
  refine r_d rfl rfl rfl (s_box rfl rfl rfl) ?_
  refine r_d rfl rfl rfl (s_assign rfl rfl) ?_
  refine r_end ?_
  refine g_seq ?_
  refine g_seq ?_
  refine g_run (by kernel_rfl) [(0, .d), (1, .d), (2, .d), (3, .d), (4, .d), (5, .d)] rfl ?_
  refine r_d rfl rfl rfl (s_fieldAddr rfl fl_api_Access_0 rfl rfl rfl rfl) ?_
  refine r_d rfl rfl rfl (s_load rfl rfl (by exact ty_string) rfl) ?_
  refine r_d rfl rfl rfl (s_fieldAddr rfl fl_api_Access_1 rfl rfl rfl rfl) ?_
  refine r_d rfl rfl rfl (s_load rfl rfl (by exact ty_int) rfl) ?_
  obtain ⟨r_1, hr_1, hr⟩ := bindS hr
  refine r_d rfl rfl rfl (s_callD rfl cl_instr_declared (.cons rfl (Wk.refl _) (.cons rfl (Wk.refl _) .nil)) (lg_instr_declared _ _ _ hr_1)) ?_
  refine r_d rfl rfl rfl (s_assign rfl rfl) ?_
  refine r_end ?_
  refine g_seq ?_
  refine g_run (by kernel_rfl) [(0, .d), (1, .d)] rfl ?_
  refine r_d rfl rfl rfl (s_move rfl rfl) ?_
  refine r_d rfl rfl rfl (s_cmp rfl rfl rfl rfl) ?_
  refine r_end ?_
  refine g_sB 13 rfl hr (fun h13_1 hr => ?_) (fun h13_1 hr => ?_)
  ·
   refine g_condT rfl ?_
   refine g_seq ?_
   refine g_run (by kernel_rfl) [(0, .d), (1, .d)] rfl ?_
   refine r_d rfl rfl rfl (s_move rfl rfl) ?_
   refine r_d rfl rfl rfl (s_assign rfl rfl) ?_
   refine r_end ?_
   obtain rfl := Option.some.inj hr
   refine g_ret Try.func53 _ (.cons (resTmp rfl (Wk.refl _)) .nil) ?_
   rfl
  ·
   refine g_condF rfl ?_
   refine g_skip ?_
   refine g_seq ?_
   refine g_run (by kernel_rfl) [(0, .d)] rfl ?_
   refine r_d rfl rfl rfl (s_assign rfl rfl) ?_
   refine r_end ?_
   refine g_seq ?_
   refine g_seq ?_
   refine g_run (by kernel_rfl) [(0, .d), (1, .d), (2, .d), (3, .d)] rfl ?_
   refine r_d rfl rfl rfl (s_fieldAddr rfl fl_api_Access_2 rfl rfl rfl rfl) ?_
   refine r_d rfl rfl rfl (s_load rfl rfl (by exact ty_L_int) rfl) ?_
   refine r_d rfl rfl rfl (m_len (f := (D.int .i64)) a_a0.f2_Positions rfl el_L_int rfl (asl rfl)) ?_
   refine r_d rfl rfl rfl (s_move rfl rfl) ?_
   refine r_end ?_
   obtain ⟨kk0, hkk0, hr⟩ := exK (fun k => lf_instr_access_L0 k a_a0 a_a0.f2_Positions (-1)) hr
   refine g_len 16 rfl (asl rfl) fun hla0 => ?_
   simp only [List.length_map] at hla0
   refine g_blockJ (fun env σ => env = [] ∧ σ = [] ∧ kk0 = some res) ?_ (fun HK0 => ?_)
   ·
    rintro _ _ ⟨rfl, rfl, hr⟩
    rw [hkk0] at hr
    refine g_seq ?_
    refine g_run (by kernel_rfl) [(0, .d)] rfl ?_
    refine r_d rfl rfl rfl (s_assign rfl rfl) ?_
    refine r_end ?_
    obtain rfl := Option.some.inj hr
    refine g_ret Try.func53 _ (.cons (resTmp rfl (Wk.refl _)) .nil) ?_
    rfl
   ·
    refine g_sub [(1, .ptr (enc_S_api_Access a_a0)), (16, .lst (a_a0.f2_Positions.map (D.int .i64))), (17, .int .i64 (a_a0.f2_Positions.length : Int)), (4, .int .i64 (-1)), (18, .int .i64 ((0 : Nat) : Int))] (Sub.cons' rfl (Sub.cons' rfl (Sub.cons' rfl (Sub.cons' rfl (Sub.cons' rfl (Sub.nil _)))))) ?_
    refine g_loop (fun n env σ => ∃ (last_3 : Int) (i_4 : Nat), (n = a_a0.f2_Positions.length - i_4) ∧ (env = [(1, .ptr (enc_S_api_Access a_a0)), (16, .lst (a_a0.f2_Positions.map (D.int .i64))), (17, .int .i64 (a_a0.f2_Positions.length : Int)), (4, .int .i64 last_3), (18, .int .i64 (i_4 : Int))]) ∧ (σ = []) ∧ (i_4 ≤ a_a0.f2_Positions.length) ∧ (lf_instr_access_L0 kk0 a_a0 (a_a0.f2_Positions.drop i_4) last_3 = some res)) _ ⟨(-1), 0, rfl, rfl, rfl, Nat.zero_le _, hr⟩ ?_
    rintro n _ _ ⟨last_3, i_4, rfl, rfl, rfl, hi0, hr⟩ IH0
    rcases listStep a_a0.f2_Positions i_4 hi0 with ⟨ht0, hd0, he0⟩ | ⟨q_5, ht0, hd0, hq0, hlt0⟩
    ·
     rw [hd0, lf_instr_access_L0] at hr
     refine g_seq ?_
     refine g_run (by kernel_rfl) [(0, .d)] rfl ?_
     refine r_d rfl rfl rfl (s_cmp rfl rfl rfl rfl) ?_
     refine r_end ?_
     refine g_seq ?_
     refine g_known 19 false rfl ht0 ?_
     refine g_condF rfl ?_
     refine g_exit rfl ?_
     refine g_sub [] (Sub.nil _) ?_
     exact HK0 _ _ ⟨rfl, rfl, hr⟩
    ·
     rw [hd0, lf_instr_access_L0] at hr
     refine g_seq ?_
     refine g_run (by kernel_rfl) [(0, .d)] rfl ?_
     refine r_d rfl rfl rfl (s_cmp rfl rfl rfl rfl) ?_
     refine r_end ?_
     refine g_seq ?_
     refine g_known 19 true rfl ht0 ?_
     refine g_condT rfl ?_
     refine g_skip ?_
     refine g_seq ?_
     refine g_block ?_
     refine g_seq ?_
     refine g_run (by kernel_rfl) [(0, .d), (1, .d), (2, .d)] rfl ?_
     refine r_d rfl rfl rfl (m_index (f := (D.int .i64)) a_a0.f2_Positions rfl el_L_int rfl (asl rfl) rfl hq0 (fun _ => rfl) rfl) ?_
     refine r_d rfl rfl rfl (s_load rfl rfl (by exact ty_int) rfl) ?_
     refine r_d rfl rfl rfl (s_assign rfl rfl) ?_
     refine r_end ?_
     refine g_seq ?_
     refine g_seq ?_
     refine g_run (by kernel_rfl) [(0, .d), (1, .d), (2, .d), (3, .d), (4, .d), (5, .d), (6, .d), (7, .d), (8, .d)] rfl ?_
     refine r_d rfl rfl rfl (s_move rfl rfl) ?_
     refine r_d rfl rfl rfl (s_move rfl rfl) ?_
     refine r_d rfl rfl rfl (s_cmp rfl rfl rfl rfl) ?_
     refine r_d rfl rfl rfl (s_move rfl rfl) ?_
     refine r_sB 25 rfl hr (fun h25_5 hr => ?_) (fun h25_5 hr => ?_)
     ·
      refine r_skip rfl rfl rfl ?_
      refine r_skip rfl rfl rfl ?_
      refine r_skip rfl rfl rfl ?_
      refine r_skip rfl rfl rfl ?_
      refine r_d rfl rfl rfl (s_pickT rfl rfl rfl) ?_
      refine r_end ?_
      refine g_condT rfl ?_
      refine g_seq ?_
      refine g_run (by kernel_rfl) [(0, .d)] rfl ?_
      refine r_d rfl rfl rfl (s_assign rfl rfl) ?_
      refine r_end ?_
      obtain rfl := Option.some.inj hr
      refine g_ret Try.func53 _ (.cons (resTmp rfl (Wk.refl _)) .nil) ?_
      rfl
     ·
      refine r_d rfl rfl rfl (s_move rfl rfl) ?_
      refine r_d rfl rfl rfl (s_fieldAddr rfl fl_api_Access_1 rfl rfl rfl rfl) ?_
      refine r_d rfl rfl rfl (s_load rfl rfl (by exact ty_int) rfl) ?_
      refine r_d rfl rfl rfl (s_cmp rfl rfl rfl rfl) ?_
      refine r_d rfl rfl rfl (s_pickF rfl rfl rfl) ?_
      refine r_end ?_
      refine g_sB 30 rfl hr (fun h30_6 hr => ?_) (fun h30_6 hr => ?_)
      ·
       refine g_condT rfl ?_
       refine g_seq ?_
       refine g_run (by kernel_rfl) [(0, .d)] rfl ?_
       refine r_d rfl rfl rfl (s_assign rfl rfl) ?_
       refine r_end ?_
       obtain rfl := Option.some.inj hr
       refine g_ret Try.func53 _ (.cons (resTmp rfl (Wk.refl _)) .nil) ?_
       rfl
      ·
       refine g_condF rfl ?_
       refine g_skip ?_
       refine g_run (by kernel_rfl) [(0, .d), (1, .d)] rfl ?_
       refine r_d rfl rfl rfl (s_move rfl rfl) ?_
       refine r_d rfl rfl rfl (s_assign rfl rfl) ?_
       refine r_end ?_
       refine g_inBlock ?_
       refine g_run (by kernel_rfl) [(0, .d), (1, .d)] rfl ?_
       refine r_d rfl rfl rfl (s_ar (r := ((i_4 + 1 : Nat) : Int)) rfl rfl rfl (by simp [iar]) (by omega)) ?_
       refine r_d rfl rfl rfl (s_move rfl rfl) ?_
       refine r_end ?_
       refine g_sub [(1, .ptr (enc_S_api_Access a_a0)), (16, .lst (a_a0.f2_Positions.map (D.int .i64))), (17, .int .i64 (a_a0.f2_Positions.length : Int)), (4, .int .i64 q_5), (18, .int .i64 ((i_4 + 1 : Nat) : Int))] (Sub.cons' rfl (Sub.cons' rfl (Sub.cons' rfl (Sub.cons' rfl (Sub.cons' rfl (Sub.nil _)))))) ?_
       exact IH0 _ _ _ (by omega) ⟨q_5, (i_4 + 1), rfl, rfl, rfl, (by omega), hr⟩

noncomputable def lf_instr_checker_unit_s1 (c_a0_0 : S_api_Image) (u_a1 : S_api_Unit) (s_0 : (List (S_api_Decl × Bool))) : Option (Int × (List (S_api_Decl × Bool))) :=
  ((lf_instr_declared u_a1.f0_Name u_a1.f1_Arity).bind fun r_2 =>
  (bif (r_2 != (0 : Int)) then
  some (r_2, s_0)
  else
  (bif ((mget s_0 (⟨u_a1.f0_Name, u_a1.f1_Arity⟩ : S_api_Decl)).getD false) then
  some (8, s_0)
  else
  (bif (decide (u_a1.f4_Late < (0 : Int))) then
  some (5, s_0)
  else
  (bif (decide (u_a1.f4_Late > (u_a1.f2_Blocks.length : Int))) then
  some (5, s_0)
  else
  ((mputO s_0 (⟨u_a1.f0_Name, u_a1.f1_Arity⟩ : S_api_Decl) true).bind fun mm_7 =>
  some (0, mm_7)))))))

set_option maxHeartbeats 1000000 in
theorem lg_instr_checker_unit_s1 (c_a0_0 : S_api_Image) (u_a1 : S_api_Unit) (s_0 : (List (S_api_Decl × Bool))) (m_o0 : Nat) (res : Int × (List (S_api_Decl × Bool))) (hr : lf_instr_checker_unit_s1 c_a0_0 u_a1 s_0 = some res) : Spec Try.prog 54 [.agg [enc_S_api_Image c_a0_0, .map m_o0], enc_S_api_Unit u_a1] [.map m_o0 (mapM' enc_S_api_Decl D.bool s_0)] (fun d σ => d = .int .i64 res.1 ∧ σ = [.map m_o0 (mapM' enc_S_api_Decl D.bool res.2)]) := by
  unfold lf_instr_checker_unit_s1 at hr
  refine spec_env [(0, .agg [enc_S_api_Image c_a0_0, .map m_o0]), (1, enc_S_api_Unit u_a1)] Try.func54 rfl rfl fun K hK => ?_
  refine g_seq ?_
  refine g_run (by kernel_rfl) [(0, .d), (1, .d), (2, .d)] rfl ?_
  refine r_d rfl rfl rfl (s_box rfl rfl rfl) ?_
  refine r_d rfl rfl rfl (s_box rfl rfl rfl) ?_
  refine r_d rfl rfl rfl (s_assign rfl rfl) ?_
  refine r_end ?_
  refine g_seq ?_
  refine g_run (by kernel_rfl) [(0, .d), (1, .d), (2, .d), (3, .d), (4, .d), (5, .w), (6, .w)] rfl ?_
  refine r_d rfl rfl rfl (s_fieldAddr rfl fl_api_Unit_0 rfl rfl rfl rfl) ?_
  refine r_d rfl rfl rfl (s_load rfl rfl (by exact ty_string) rfl) ?_
  refine r_d rfl rfl rfl (s_fieldAddr rfl fl_api_Unit_1 rfl rfl rfl rfl) ?_
  refine r_d rfl rfl rfl (s_load rfl rfl (by exact ty_int) rfl) ?_
  refine r_d rfl rfl rfl (s_build rfl bt_api_Decl (.cons rfl (Wk.refl _) (.cons rfl (Wk.refl _) .nil)) (.cons rfl rfl rfl (.cons rfl rfl rfl (.nil _)))) ?_
  refine r_w rfl rfl rfl (s_alloc rfl zv_api_Decl) ?_
  rintro _ _ ⟨b5_0, rfl, rfl⟩
  refine r_w01 rfl rfl rfl (t_store0 _ rfl rfl rfl (Wk.refl _) (pf0 _) (by exact ty_api_Decl) rfl rfl rfl) ?_
  refine r_end ?_
  refine g_freeze 5 b5_0 rfl (pf0 _) ?_
  refine g_seq ?_
  refine g_run (by kernel_rfl) [(0, .d), (1, .d), (2, .d), (3, .d), (4, .d), (5, .d)] rfl ?_
  refine r_d rfl rfl rfl (s_fieldAddr rfl fl_api_Unit_0 rfl rfl rfl rfl) ?_
  refine r_d rfl rfl rfl (s_load rfl rfl (by exact ty_string) rfl) ?_
  refine r_d rfl rfl rfl (s_fieldAddr rfl fl_api_Unit_1 rfl rfl rfl rfl) ?_
  refine r_d rfl rfl rfl (s_load rfl rfl (by exact ty_int) rfl) ?_
  obtain ⟨r_2, hr_2, hr⟩ := bindS hr
  refine r_d rfl rfl rfl (s_callD rfl cl_instr_declared (.cons rfl (Wk.refl _) (.cons rfl (Wk.refl _) .nil)) (lg_instr_declared _ _ _ hr_2)) ?_
  refine r_d rfl rfl rfl (s_assign rfl rfl) ?_
  refine r_end ?_
  refine g_seq ?_
  refine g_block ?_
  refine g_seq ?_
  refine g_run (by kernel_rfl) [(0, .d), (1, .d), (2, .d)] rfl ?_
  refine r_d rfl rfl rfl (s_move rfl rfl) ?_
  refine r_d rfl rfl rfl (s_cmp rfl rfl rfl rfl) ?_
  refine r_d rfl rfl rfl (s_assign rfl rfl) ?_
  refine r_end ?_
  refine g_sB 17 rfl hr (fun h17_2 hr => ?_) (fun h17_2 hr => ?_)
  ·
   refine g_condT rfl ?_
   refine g_seq ?_
   refine g_run (by kernel_rfl) [(0, .d), (1, .d)] rfl ?_
   refine r_d rfl rfl rfl (s_move rfl rfl) ?_
   refine r_d rfl rfl rfl (s_assign rfl rfl) ?_
   refine r_end ?_
   obtain rfl := Option.some.inj hr
   refine g_ret Try.func54 _ (.cons (resTmp rfl (Wk.refl _)) .nil) ?_
   exact ⟨rfl, rfl⟩
  ·
   refine g_condF rfl ?_
   refine g_seq ?_
   refine g_run (by kernel_rfl) [(0, .d), (1, .d), (2, .d), (3, .r), (4, .d)] rfl ?_
   refine r_d rfl rfl rfl (s_fieldAddr rfl fl_instr_checker_1 rfl rfl (by simp [szs, sz, sz_S_api_Image]) rfl) ?_
   refine r_d rfl rfl rfl (s_load rfl rfl (by exact ty_map_api_Decl_bool) rfl) ?_
   refine r_d rfl rfl rfl (s_load rfl rfl (by exact ty_api_Decl) rfl) ?_
   refine r_r rfl rfl rfl (m_lookup1 (key := enc_S_api_Decl) (g := D.bool) s_0 (⟨u_a1.f0_Name, u_a1.f1_Arity⟩ : S_api_Decl) false rfl Try.underlying87 wt_api_Decl.ok zm_bool rfl rfl (.head _)) ?_
   refine r_d rfl rfl rfl (s_assign rfl rfl) ?_
   refine r_end ?_
   refine g_sB 21 rfl hr (fun h21_3 hr => ?_) (fun h21_3 hr => ?_)
   ·
    refine g_condT rfl ?_
    refine g_seq ?_
    refine g_run (by kernel_rfl) [(0, .d)] rfl ?_
    refine r_d rfl rfl rfl (s_assign rfl rfl) ?_
    refine r_end ?_
    obtain rfl := Option.some.inj hr
    refine g_ret Try.func54 _ (.cons (resTmp rfl (Wk.refl _)) .nil) ?_
    exact ⟨rfl, rfl⟩
   ·
    refine g_condF rfl ?_
    refine g_seq ?_
    refine g_run (by kernel_rfl) [(0, .d), (1, .d), (2, .d), (3, .d), (4, .d), (5, .d), (6, .d), (7, .d), (8, .d), (9, .d), (10, .d), (11, .d)] rfl ?_
    refine r_d rfl rfl rfl (s_fieldAddr rfl fl_api_Unit_4 rfl rfl rfl rfl) ?_
    refine r_d rfl rfl rfl (s_load rfl rfl (by exact ty_int) rfl) ?_
    refine r_d rfl rfl rfl (s_cmp rfl rfl rfl rfl) ?_
    refine r_d rfl rfl rfl (s_move rfl rfl) ?_
    refine r_sB 30 rfl hr (fun h30_4 hr => ?_) (fun h30_4 hr => ?_)
    ·
     refine r_skip rfl rfl rfl ?_
     refine r_skip rfl rfl rfl ?_
     refine r_skip rfl rfl rfl ?_
     refine r_skip rfl rfl rfl ?_
     refine r_skip rfl rfl rfl ?_
     refine r_skip rfl rfl rfl ?_
     refine r_d rfl rfl rfl (s_pickT rfl rfl rfl) ?_
     refine r_d rfl rfl rfl (s_assign rfl rfl) ?_
     refine r_end ?_
     refine g_condT rfl ?_
     refine g_seq ?_
     refine g_run (by kernel_rfl) [(0, .d)] rfl ?_
     refine r_d rfl rfl rfl (s_assign rfl rfl) ?_
     refine r_end ?_
     obtain rfl := Option.some.inj hr
     refine g_ret Try.func54 _ (.cons (resTmp rfl (Wk.refl _)) .nil) ?_
     exact ⟨rfl, rfl⟩
    ·
     refine r_d rfl rfl rfl (s_fieldAddr rfl fl_api_Unit_4 rfl rfl rfl rfl) ?_
     refine r_d rfl rfl rfl (s_load rfl rfl (by exact ty_int) rfl) ?_
     refine r_d rfl rfl rfl (s_fieldAddr rfl fl_api_Unit_2 rfl rfl rfl rfl) ?_
     refine r_d rfl rfl rfl (s_load rfl rfl (by exact ty_L_api_Block) rfl) ?_
     refine r_d rfl rfl rfl (m_len (f := enc_S_api_Block) u_a1.f2_Blocks rfl el_L_api_Block rfl (asl rfl)) ?_
     refine r_d rfl rfl rfl (s_cmp rfl rfl rfl rfl) ?_
     refine r_d rfl rfl rfl (s_pickF rfl rfl rfl) ?_
     refine r_d rfl rfl rfl (s_assign rfl rfl) ?_
     refine r_end ?_
     refine g_sB 26 rfl hr (fun h26_5 hr => ?_) (fun h26_5 hr => ?_)
     ·
      refine g_condT rfl ?_
      refine g_seq ?_
      refine g_run (by kernel_rfl) [(0, .d)] rfl ?_
      refine r_d rfl rfl rfl (s_assign rfl rfl) ?_
      refine r_end ?_
      obtain rfl := Option.some.inj hr
      refine g_ret Try.func54 _ (.cons (resTmp rfl (Wk.refl _)) .nil) ?_
      exact ⟨rfl, rfl⟩
     ·
      refine g_condF rfl ?_
      refine g_skip ?_
      refine g_inBlock ?_
      refine g_seq ?_
      refine g_run (by kernel_rfl) [(0, .d), (1, .d), (2, .d), (3, .w)] rfl ?_
      refine r_d rfl rfl rfl (s_fieldAddr rfl fl_instr_checker_1 rfl rfl (by simp [szs, sz, sz_S_api_Image]) rfl) ?_
      refine r_d rfl rfl rfl (s_load rfl rfl (by exact ty_map_api_Decl_bool) rfl) ?_
      refine r_d rfl rfl rfl (s_load rfl rfl (by exact ty_api_Decl) rfl) ?_
      obtain ⟨mm_7, hmm_7, hr⟩ := bindS hr
      refine r_w01 rfl rfl rfl (m_mapUpdate (key := enc_S_api_Decl) (g := D.bool) s_0 (⟨u_a1.f0_Name, u_a1.f1_Arity⟩ : S_api_Decl) true rfl Try.underlying87 wt_api_Decl.ok rfl rfl rfl (Wk.refl _) (pf0 _) hmm_7) ?_
      refine r_end ?_
      refine g_seq ?_
      refine g_run (by kernel_rfl) [(0, .d)] rfl ?_
      refine r_d rfl rfl rfl (s_assign rfl rfl) ?_
      refine r_end ?_
      obtain rfl := Option.some.inj hr
      refine g_ret Try.func54 _ (.cons (resTmp rfl (Wk.refl _)) .nil) ?_
      exact ⟨rfl, rfl⟩

noncomputable def lf_instr_checker_block_s1_L2_E (k : Option ((Int × (List (S_api_Decl × Bool))) ⊕ (Unit))) (mm_11 : (List ((Int × Int) × Bool))) (q_13 : Int × S_api_Decl) (s_0 : (List (S_api_Decl × Bool))) : Option ((Int × (List (S_api_Decl × Bool))) ⊕ (Unit)) :=
  k
noncomputable def lf_instr_checker_block_s1_L2_B (k : Option ((Int × (List (S_api_Decl × Bool))) ⊕ (Unit))) (mm_11 : (List ((Int × Int) × Bool))) (q_13 : Int × S_api_Decl) (s_0 : (List (S_api_Decl × Bool))) (q_16 : Int × S_api_Decl) : Option (((Int × (List (S_api_Decl × Bool))) ⊕ (Unit)) ⊕ (Unit)) :=
  (bif (decide (q_13.1 < q_16.1)) then
  (bif (decide (q_13.2 = q_16.2)) then
  (bif (!((mget mm_11 (q_13.1, q_16.1)).getD false)) then
  (Option.map Sum.inl (Option.map Sum.inl (some (18, s_0))))
  else
  some (.inr ()))
  else
  some (.inr ()))
  else
  some (.inr ()))
noncomputable def lf_instr_checker_block_s1_L2 (k : Option ((Int × (List (S_api_Decl × Bool))) ⊕ (Unit))) (mm_11 : (List ((Int × Int) × Bool))) (q_13 : Int × S_api_Decl) (s_0 : (List (S_api_Decl × Bool))) (l : (List (Int × S_api_Decl))) : Option ((Int × (List (S_api_Decl × Bool))) ⊕ (Unit)) :=
  permO (fun l' => mapLoop (fun q (v : Unit) => lf_instr_checker_block_s1_L2_B k mm_11 q_13 s_0 q ) (fun v => lf_instr_checker_block_s1_L2_E k mm_11 q_13 s_0 ) l' ()) l

noncomputable def lf_instr_checker_block_s1_L1_E (k : Option (Int × (List (S_api_Decl × Bool)))) (mm_10 : (List (Int × S_api_Decl))) (mm_11 : (List ((Int × Int) × Bool))) (s_0 : (List (S_api_Decl × Bool))) : Option (Int × (List (S_api_Decl × Bool))) :=
  k
noncomputable def lf_instr_checker_block_s1_L1_B (k : Option (Int × (List (S_api_Decl × Bool)))) (mm_10 : (List (Int × S_api_Decl))) (mm_11 : (List ((Int × Int) × Bool))) (s_0 : (List (S_api_Decl × Bool))) (q_13 : Int × S_api_Decl) : Option ((Int × (List (S_api_Decl × Bool))) ⊕ (Unit)) :=
  (lf_instr_checker_block_s1_L2 (some (.inr ())) mm_11 q_13 s_0 mm_10)
noncomputable def lf_instr_checker_block_s1_L1 (k : Option (Int × (List (S_api_Decl × Bool)))) (mm_10 : (List (Int × S_api_Decl))) (mm_11 : (List ((Int × Int) × Bool))) (s_0 : (List (S_api_Decl × Bool))) (l : (List (Int × S_api_Decl))) : Option (Int × (List (S_api_Decl × Bool))) :=
  permO (fun l' => mapLoop (fun q (v : Unit) => lf_instr_checker_block_s1_L1_B k mm_10 mm_11 s_0 q ) (fun v => lf_instr_checker_block_s1_L1_E k mm_10 mm_11 s_0 ) l' ()) l

noncomputable def lf_instr_checker_block_s1_L0 (k : ((List (Int × S_api_Decl))) → ((List ((Int × Int) × Bool))) → Option (Int × (List (S_api_Decl × Bool)))) (c_a0_0 : S_api_Image) (s_0 : (List (S_api_Decl × Bool))) : List S_api_Instr → (List (Int × S_api_Decl)) → (List ((Int × Int) × Bool)) → Option (Int × (List (S_api_Decl × Bool)))
  | [], mm_8, mm_9 =>
  (k mm_8 mm_9)
  | q_21 :: rest, mm_8, mm_9 =>
  (bif (q_21.f0_Op == (3 : Int)) then
  (bif (decide (q_21.f2_B ≥ (c_a0_0.f1_Access.length : Int))) then
  some (5, s_0)
  else
  ((getI c_a0_0.f1_Access q_21.f2_B).bind fun q_25 =>
  (bif ((q_21.f4_Terms.length : Int) != (q_25.f2_Positions.length : Int)) then
  some (9, s_0)
  else
  ((mputO mm_8 q_21.f1_A (⟨q_25.f0_Name, q_25.f1_Arity⟩ : S_api_Decl)).bind fun mm_28 =>
  (lf_instr_checker_block_s1_L0 k c_a0_0 s_0 rest mm_28 mm_9)))))
  else
  (bif (q_21.f0_Op == (1 : Int)) then
  (bif (decide (q_21.f2_B ≥ (((mget mm_8 q_21.f1_A).getD (⟨⟨#[]⟩, 0⟩ : S_api_Decl)).f1_Arity))) then
  some (9, s_0)
  else
  (lf_instr_checker_block_s1_L0 k c_a0_0 s_0 rest mm_8 mm_9))
  else
  (bif (q_21.f0_Op == (4 : Int)) then
  ((mputO mm_9 (q_21.f1_A, q_21.f2_B) true).bind fun mm_32 =>
  ((mputO mm_32 (q_21.f2_B, q_21.f1_A) true).bind fun mm_33 =>
  (lf_instr_checker_block_s1_L0 k c_a0_0 s_0 rest mm_8 mm_33)))
  else
  (bif (q_21.f0_Op == (9 : Int)) then
  (bif (q_21.f3_Goal.op == (0 : Int)) then
  (bif (!((mget s_0 (⟨q_21.f3_Goal.n, (q_21.f3_Goal.ts.length : Int)⟩ : S_api_Decl)).getD false)) then
  some (7, s_0)
  else
  (lf_instr_checker_block_s1_L0 k c_a0_0 s_0 rest mm_8 mm_9))
  else
  (lf_instr_checker_block_s1_L0 k c_a0_0 s_0 rest mm_8 mm_9))
  else
  (lf_instr_checker_block_s1_L0 k c_a0_0 s_0 rest mm_8 mm_9)))))
noncomputable def lf_instr_checker_block_s1 (c_a0_0 : S_api_Image) (u_a1 : S_api_Unit) (b_a2 : S_api_Block) (s_0 : (List (S_api_Decl × Bool))) : Option (Int × (List (S_api_Decl × Bool))) :=
  ((lf_instr_Check b_a2).bind fun r_1 =>
  (bif (r_1 != (0 : Int)) then
  some (r_1, s_0)
  else
  (bif (decide (b_a2.f0_Occ.f0_Rule ≥ c_a0_0.f2_Rules)) then
  some (5, s_0)
  else
  ((mputO ([] : (List (Int × S_api_Decl))) b_a2.f0_Occ.f1_Head (⟨u_a1.f0_Name, u_a1.f1_Arity⟩ : S_api_Decl)).bind fun mm_5 =>
  (lf_instr_checker_block_s1_L0 (fun mm_10 mm_11 =>
  (lf_instr_checker_block_s1_L1 (some (0, s_0)) mm_10 mm_11 s_0 mm_10)) c_a0_0 s_0 b_a2.f1_Code mm_5 [])))))

set_option maxHeartbeats 1000000 in
theorem lg_instr_checker_block_s1 (c_a0_0 : S_api_Image) (u_a1 : S_api_Unit) (b_a2 : S_api_Block) (s_0 : (List (S_api_Decl × Bool))) (m_o0 : Nat) (res : Int × (List (S_api_Decl × Bool))) (hr : lf_instr_checker_block_s1 c_a0_0 u_a1 b_a2 s_0 = some res) : Spec Try.prog 55 [.agg [enc_S_api_Image c_a0_0, .map m_o0], enc_S_api_Unit u_a1, enc_S_api_Block b_a2] [.map m_o0 (mapM' enc_S_api_Decl D.bool s_0)] (fun d σ => d = .int .i64 res.1 ∧ σ = [.map m_o0 (mapM' enc_S_api_Decl D.bool res.2)]) := by
  unfold lf_instr_checker_block_s1 at hr
  refine spec_env [(0, .agg [enc_S_api_Image c_a0_0, .map m_o0]), (1, enc_S_api_Unit u_a1), (2, enc_S_api_Block b_a2)] Try.func55 rfl rfl fun K hK => ?_
  refine g_seq ?_
  refine g_run (by kernel_rfl) [(0, .d), (1, .d), (2, .d), (3, .d)] rfl ?_
  refine r_d rfl rfl rfl (s_box rfl rfl rfl) ?_
  refine r_d rfl rfl rfl (s_box rfl rfl rfl) ?_
  refine r_d rfl rfl rfl (s_box rfl rfl rfl) ?_
  refine r_d rfl rfl rfl (s_assign rfl rfl) ?_
  refine r_end ?_
  refine g_seq ?_
  refine g_seq ?_
  refine g_run (by kernel_rfl) [(0, .d), (1, .d), (2, .d)] rfl ?_
  refine r_d rfl rfl rfl (s_load rfl rfl (by exact ty_api_Block) (sz_S_api_Block _)) ?_
  obtain ⟨r_1, hr_1, hr⟩ := bindS hr
  refine r_d rfl rfl rfl (s_callD rfl cl_instr_Check (.cons rfl (Wk.refl _) .nil) (lg_instr_Check _ _ hr_1)) ?_
  refine r_d rfl rfl rfl (s_assign rfl rfl) ?_
  refine r_end ?_
  refine g_seq ?_
  refine g_run (by kernel_rfl) [(0, .d), (1, .d)] rfl ?_
  refine r_d rfl rfl rfl (s_move rfl rfl) ?_
  refine r_d rfl rfl rfl (s_cmp rfl rfl rfl rfl) ?_
  refine r_end ?_
  refine g_sB 20 rfl hr (fun h20_1 hr => ?_) (fun h20_1 hr => ?_)
  ·
   refine g_condT rfl ?_
   refine g_seq ?_
   refine g_run (by kernel_rfl) [(0, .d), (1, .d)] rfl ?_
   refine r_d rfl rfl rfl (s_move rfl rfl) ?_
   refine r_d rfl rfl rfl (s_assign rfl rfl) ?_
   refine r_end ?_
   obtain rfl := Option.some.inj hr
   refine g_ret Try.func55 _ (.cons (resTmp rfl (Wk.refl _)) .nil) ?_
   exact ⟨rfl, rfl⟩
  ·
   refine g_condF rfl ?_
   refine g_skip ?_
   refine g_seq ?_
   refine g_seq ?_
   refine g_run (by kernel_rfl) [(0, .d), (1, .d), (2, .d), (3, .d), (4, .d), (5, .d), (6, .d)] rfl ?_
   refine r_d rfl rfl rfl (s_fieldAddr rfl fl_api_Block_0 rfl rfl rfl rfl) ?_
   refine r_d rfl rfl rfl (s_fieldAddr rfl fl_api_Occ_0 rfl rfl rfl rfl) ?_
   refine r_d rfl rfl rfl (s_load rfl rfl (by exact ty_int) rfl) ?_
   refine r_d rfl rfl rfl (s_fieldAddr rfl fl_instr_checker_0 rfl rfl rfl rfl) ?_
   refine r_d rfl rfl rfl (s_fieldAddr rfl fl_api_Image_2 rfl rfl rfl rfl) ?_
   refine r_d rfl rfl rfl (s_load rfl rfl (by exact ty_int) rfl) ?_
   refine r_d rfl rfl rfl (s_cmp rfl rfl rfl rfl) ?_
   refine r_end ?_
   refine g_sB 28 rfl hr (fun h28_2 hr => ?_) (fun h28_2 hr => ?_)
   ·
    refine g_condT rfl ?_
    refine g_seq ?_
    refine g_run (by kernel_rfl) [(0, .d)] rfl ?_
    refine r_d rfl rfl rfl (s_assign rfl rfl) ?_
    refine r_end ?_
    obtain rfl := Option.some.inj hr
    refine g_ret Try.func55 _ (.cons (resTmp rfl (Wk.refl _)) .nil) ?_
    exact ⟨rfl, rfl⟩
   ·
    refine g_condF rfl ?_
    refine g_skip ?_
    refine g_seq ?_
    refine g_run (by kernel_rfl) [(0, .w), (1, .d), (2, .d), (3, .d), (4, .d), (5, .d), (6, .d), (7, .d), (8, .d), (9, .w), (10, .d), (11, .d)] rfl ?_
    refine r_w rfl rfl rfl (m_makeMap (α := Int) (β := S_api_Decl) (key := (D.int .i64)) (g := enc_S_api_Decl) rfl) ?_
    rintro _ _ ⟨m29_3, rfl, rfl⟩
    refine r_d rfl rfl rfl (s_fieldAddr rfl fl_api_Block_0 rfl rfl rfl rfl) ?_
    refine r_d rfl rfl rfl (s_fieldAddr rfl fl_api_Occ_1 rfl rfl rfl rfl) ?_
    refine r_d rfl rfl rfl (s_load rfl rfl (by exact ty_int) rfl) ?_
    refine r_d rfl rfl rfl (s_fieldAddr rfl fl_api_Unit_0 rfl rfl rfl rfl) ?_
    refine r_d rfl rfl rfl (s_load rfl rfl (by exact ty_string) rfl) ?_
    refine r_d rfl rfl rfl (s_fieldAddr rfl fl_api_Unit_1 rfl rfl rfl rfl) ?_
    refine r_d rfl rfl rfl (s_load rfl rfl (by exact ty_int) rfl) ?_
    refine r_d rfl rfl rfl (s_build rfl bt_api_Decl (.cons rfl (Wk.refl _) (.cons rfl (Wk.refl _) .nil)) (.cons rfl rfl rfl (.cons rfl rfl rfl (.nil _)))) ?_
    obtain ⟨mm_5, hmm_5, hr⟩ := bindS hr
    refine r_w01 rfl rfl rfl (s_asUpdate rfl (m_mapUpdate (key := (D.int .i64)) (g := enc_S_api_Decl) ([] : (List (Int × S_api_Decl))) b_a2.f0_Occ.f1_Head (⟨u_a1.f0_Name, u_a1.f1_Arity⟩ : S_api_Decl) rfl Try.underlying109 (keyInt Try.underlying3) rfl rfl rfl (Wk.refl _) (pf0 _) hmm_5)) ?_
    refine r_d rfl rfl rfl (s_move rfl rfl) ?_
    refine r_d rfl rfl rfl (s_assign rfl rfl) ?_
    refine r_end ?_
    refine g_seq ?_
    refine g_run (by kernel_rfl) [(0, .w), (1, .d)] rfl ?_
    refine r_w rfl rfl rfl (m_makeMap (α := (Int × Int)) (β := Bool) (key := encII) (g := D.bool) rfl) ?_
    rintro _ _ ⟨m39_5, rfl, rfl⟩
    refine r_d rfl rfl rfl (s_assign rfl rfl) ?_
    refine r_end ?_
    refine g_seq ?_
    refine g_seq ?_
    refine g_run (by kernel_rfl) [(0, .d), (1, .d), (2, .d), (3, .d)] rfl ?_
    refine r_d rfl rfl rfl (s_fieldAddr rfl fl_api_Block_1 rfl rfl (by simp [szs, sz, sz_S_api_Occ]) rfl) ?_
    refine r_d rfl rfl rfl (s_load rfl rfl (by exact ty_L_api_Instr) rfl) ?_
    refine r_d rfl rfl rfl (m_len (f := enc_S_api_Instr) b_a2.f1_Code rfl el_L_api_Instr rfl (asl rfl)) ?_
    refine r_d rfl rfl rfl (s_move rfl rfl) ?_
    refine r_end ?_
    obtain ⟨kk0, hkk0, hr⟩ := exK (fun k => lf_instr_checker_block_s1_L0 k c_a0_0 s_0 b_a2.f1_Code mm_5 []) hr
    refine g_len 41 rfl (asl rfl) fun hla0 => ?_
    simp only [List.length_map] at hla0
    refine g_blockJ (fun env σ => ∃ (mm_10 : (List (Int × S_api_Decl))) (mm_11 : (List ((Int × Int) × Bool))), env = [(8, .map m29_3), (9, .map m39_5)] ∧ σ = [.map m29_3 (mapM' (D.int .i64) enc_S_api_Decl mm_10), .map m39_5 (mapM' encII D.bool mm_11), .map m_o0 (mapM' enc_S_api_Decl D.bool s_0)] ∧ kk0 mm_10 mm_11 = some res) ?_ (fun HK0 => ?_)
    ·
     rintro _ _ ⟨mm_10, mm_11, rfl, rfl, hr⟩
     rw [hkk0] at hr
     refine g_seq ?_
     refine g_seq ?_
     refine g_run (by kernel_rfl) [(0, .d), (1, .w)] rfl ?_
     refine r_d rfl rfl rfl (s_move rfl rfl) ?_
     refine r_w rfl rfl rfl (s_range (key := (D.int .i64)) (g := enc_S_api_Decl) (l := mm_10) rfl Try.underlying109 rfl (pf0 _)) ?_
     rintro _ _ ⟨b126_11, es_b126_11, cl_b126_11, rfl, rfl, hes_b126_11⟩
     refine r_end ?_
     obtain ⟨kk1, hkk1, hr⟩ := exK (fun k => lf_instr_checker_block_s1_L1 k mm_10 mm_11 s_0 mm_10) hr
     refine g_blockJ (fun env σ => env = [] ∧ σ = [.map m_o0 (mapM' enc_S_api_Decl D.bool s_0)] ∧ kk1 = some res) ?_ (fun HK1 => ?_)
     ·
      rintro _ _ ⟨rfl, rfl, hr⟩
      rw [hkk1] at hr
      refine g_seq ?_
      refine g_run (by kernel_rfl) [(0, .d)] rfl ?_
      refine r_d rfl rfl rfl (s_assign rfl rfl) ?_
      refine r_end ?_
      obtain rfl := Option.some.inj hr
      refine g_ret Try.func55 _ (.cons (resTmp rfl (Wk.refl _)) .nil) ?_
      exact ⟨rfl, rfl⟩
     ·
      refine g_sub [(8, .map m29_3), (9, .map m39_5), (126, .ref b126_11 0 [])] (Sub.cons' rfl (Sub.cons' rfl (Sub.cons' rfl (Sub.nil _)))) ?_
      refine g_perm [_, _, _, _] _ ((((pf3 _ _ _ _ _).trans (pf1 _ _ _)).trans (pf3 _ _ _ _ _)).trans (pf3 _ _ _ _ _)) ?_
      refine g_loop (fun n env σ => ∃ (seen1 : Array Nat) (last1 : Nat), (n = (remOf es_b126_11 seen1 mm_10).length) ∧ (env = [(8, .map m29_3), (9, .map m39_5), (126, .ref b126_11 0 [])]) ∧ (σ = [.mapE m29_3 (mapM' (D.int .i64) enc_S_api_Decl mm_10) es_b126_11 cl_b126_11, .map m39_5 (mapM' encII D.bool mm_11), .iter b126_11 m29_3 cl_b126_11 seen1 last1, .map m_o0 (mapM' enc_S_api_Decl D.bool s_0)]) ∧ (cl_b126_11 ≤ last1) ∧ (∀ l', l'.Perm (remOf es_b126_11 seen1 mm_10) → mapLoop (fun q (v : Unit) => lf_instr_checker_block_s1_L1_B kk1 mm_10 mm_11 s_0 q ) (fun v => lf_instr_checker_block_s1_L1_E kk1 mm_10 mm_11 s_0 ) l' () = some res)) _ ⟨#[], cl_b126_11, rfl, rfl, rfl, Nat.le_refl _, fun l hl => permO_all hr l (by rw [remOf_start hes_b126_11] at hl; exact hl)⟩ ?_
      rintro n _ _ ⟨seen1, last1, rfl, rfl, rfl, hi1, hr⟩ IH1
      refine g_seq ?_
      refine g_run (by kernel_rfl) [(0, .w), (1, .d)] rfl ?_
      refine r_w rfl rfl rfl (s_next rfl rfl ((pf0 _).trans (pf2 _ _ _ _)) hi1) ?_
      rintro _ _ (⟨hrem1, rfl, rfl⟩ | ⟨q_13, e_q_13, hp_q_13, hc_q_13, rfl, rfl⟩)
      ·
       have hr : lf_instr_checker_block_s1_L1_E kk1 mm_10 mm_11 s_0 = some res := mapEnd (v := ()) (k := fun _ => lf_instr_checker_block_s1_L1_E kk1 mm_10 mm_11 s_0) hrem1 hr
       unfold lf_instr_checker_block_s1_L1_E at hr
       refine r_d rfl rfl rfl (s_extract rfl rfl rfl) ?_
       refine r_end ?_
       refine g_seq ?_
       refine g_condF rfl ?_
       refine g_exit rfl ?_
       refine g_sub [] (Sub.nil _) ?_
       refine g_perm [_] _ (pf2 _ _ _ _) ?_
       exact HK1 _ _ ⟨rfl, rfl, hr⟩
      ·
       obtain ⟨z1, hr, hz1⟩ := mapStep hp_q_13 hr
       have hr : lf_instr_checker_block_s1_L1_B kk1 mm_10 mm_11 s_0 q_13  = some z1 := hr
       unfold lf_instr_checker_block_s1_L1_B at hr
       refine r_d rfl rfl rfl (s_extract rfl rfl rfl) ?_
       refine r_end ?_
       refine g_seq ?_
       refine g_condT rfl ?_
       refine g_skip ?_
       refine g_block ?_
       refine g_seq ?_
       refine g_run (by kernel_rfl) [(0, .r), (1, .d), (2, .d), (3, .w), (4, .d), (5, .w)] rfl ?_
       refine r_r rfl rfl rfl (s_entry (key := (D.int .i64)) (g := enc_S_api_Decl) rfl rfl (.head _) (.tail _ (.head _)) hc_q_13) ?_
       refine r_d rfl rfl rfl (s_extract rfl rfl rfl) ?_
       refine r_d rfl rfl rfl (s_extract rfl rfl rfl) ?_
       refine r_w rfl rfl rfl (s_alloc rfl zv_api_Decl) ?_
       rintro _ _ ⟨b14_13, rfl, rfl⟩
       refine r_d rfl rfl rfl (s_assign rfl rfl) ?_
       refine r_w01 rfl rfl rfl (t_store0 _ rfl rfl rfl (Wk.refl _) (pf0 _) (by exact ty_api_Decl) (sz_S_api_Decl _) rfl rfl) ?_
       refine r_end ?_
       refine g_freeze 14 b14_13 rfl (pf0 _) ?_
       refine g_seq ?_
       refine g_run (by kernel_rfl) [(0, .d), (1, .w)] rfl ?_
       refine r_d rfl rfl rfl (s_move rfl rfl) ?_
       refine r_w rfl rfl rfl (s_range2 (key := (D.int .i64)) (g := enc_S_api_Decl) (l := mm_10) rfl Try.underlying109 rfl (pf1 _ _ _)) ?_
       rintro _ _ ⟨b133_14, rfl, rfl⟩
       refine r_end ?_
       obtain ⟨kk2, hkk2, hr⟩ := exK (fun k => lf_instr_checker_block_s1_L2 k mm_11 q_13 s_0 mm_10) hr
       refine g_blockJ (fun env σ => env = [(8, .map m29_3), (9, .map m39_5), (126, .ref b126_11 0 [])] ∧ σ = [.mapE m29_3 (mapM' (D.int .i64) enc_S_api_Decl mm_10) es_b126_11 cl_b126_11, .map m39_5 (mapM' encII D.bool mm_11), .iter b126_11 m29_3 cl_b126_11 (seen1.push e_q_13.born) cl_b126_11, .map m_o0 (mapM' enc_S_api_Decl D.bool s_0)] ∧ kk2 = some z1) ?_ (fun HK2 => ?_)
       ·
        rintro _ _ ⟨rfl, rfl, hr⟩
        rw [hkk2] at hr
        refine g_inBlock ?_
        refine g_sub [(8, .map m29_3), (9, .map m39_5), (126, .ref b126_11 0 [])] (Sub.cons' rfl (Sub.cons' rfl (Sub.cons' rfl (Sub.nil _)))) ?_
        exact IH1 _ _ _ (by have := (hp_q_13).length_eq; simp only [List.length_cons] at this; omega) ⟨_, _, rfl, rfl, rfl, Nat.le_refl _, mapBack hz1 hr⟩
       ·
        refine g_sub [(8, .map m29_3), (9, .map m39_5), (13, .int .i64 q_13.1), (14, .ptr (enc_S_api_Decl q_13.2)), (126, .ref b126_11 0 []), (133, .ref b133_14 0 [])] (Sub.cons' rfl (Sub.cons' rfl (Sub.cons' rfl (Sub.cons' rfl (Sub.cons' rfl (Sub.cons' rfl (Sub.nil _))))))) ?_
        refine g_perm [_, _, _, _, _] _ (((((pf4 _ _ _ _ _ _).trans (pf1 _ _ _)).trans (pf3 _ _ _ _ _)).trans (pf4 _ _ _ _ _ _)).trans (pf4 _ _ _ _ _ _)) ?_
        refine g_loop (fun n env σ => ∃ (seen2 : Array Nat) (last2 : Nat), (n = (remOf es_b126_11 seen2 mm_10).length) ∧ (env = [(8, .map m29_3), (9, .map m39_5), (13, .int .i64 q_13.1), (14, .ptr (enc_S_api_Decl q_13.2)), (126, .ref b126_11 0 []), (133, .ref b133_14 0 [])]) ∧ (σ = [.mapE m29_3 (mapM' (D.int .i64) enc_S_api_Decl mm_10) es_b126_11 cl_b126_11, .map m39_5 (mapM' encII D.bool mm_11), .iter b126_11 m29_3 cl_b126_11 (seen1.push e_q_13.born) cl_b126_11, .iter b133_14 m29_3 cl_b126_11 seen2 last2, .map m_o0 (mapM' enc_S_api_Decl D.bool s_0)]) ∧ (cl_b126_11 ≤ last2) ∧ (∀ l', l'.Perm (remOf es_b126_11 seen2 mm_10) → mapLoop (fun q (v : Unit) => lf_instr_checker_block_s1_L2_B kk2 mm_11 q_13 s_0 q ) (fun v => lf_instr_checker_block_s1_L2_E kk2 mm_11 q_13 s_0 ) l' () = some z1)) _ ⟨#[], cl_b126_11, rfl, rfl, rfl, Nat.le_refl _, fun l hl => permO_all hr l (by rw [remOf_start hes_b126_11] at hl; exact hl)⟩ ?_
        rintro n _ _ ⟨seen2, last2, rfl, rfl, rfl, hi2, hr⟩ IH2
        refine g_seq ?_
        refine g_run (by kernel_rfl) [(0, .w), (1, .d)] rfl ?_
        refine r_w rfl rfl rfl (s_next2 rfl rfl ((pf0 _).trans (pf3 _ _ _ _ _)) hi2) ?_
        rintro _ _ (⟨hrem2, rfl, rfl⟩ | ⟨q_16, e_q_16, hp_q_16, hc_q_16, rfl, rfl⟩)
        ·
         have hr : lf_instr_checker_block_s1_L2_E kk2 mm_11 q_13 s_0 = some z1 := mapEnd (v := ()) (k := fun _ => lf_instr_checker_block_s1_L2_E kk2 mm_11 q_13 s_0) hrem2 hr
         unfold lf_instr_checker_block_s1_L2_E at hr
         refine r_d rfl rfl rfl (s_extract rfl rfl rfl) ?_
         refine r_end ?_
         refine g_seq ?_
         refine g_condF rfl ?_
         refine g_exit rfl ?_
         refine g_sub [(8, .map m29_3), (9, .map m39_5), (126, .ref b126_11 0 [])] (Sub.cons' rfl (Sub.cons' rfl (Sub.cons' rfl (Sub.nil _)))) ?_
         exact HK2 _ _ ⟨rfl, rfl, hr⟩
        ·
         obtain ⟨z2, hr, hz2⟩ := mapStep hp_q_16 hr
         have hr : lf_instr_checker_block_s1_L2_B kk2 mm_11 q_13 s_0 q_16  = some z2 := hr
         unfold lf_instr_checker_block_s1_L2_B at hr
         refine r_d rfl rfl rfl (s_extract rfl rfl rfl) ?_
         refine r_end ?_
         refine g_seq ?_
         refine g_condT rfl ?_
         refine g_skip ?_
         refine g_block ?_
         refine g_seq ?_
         refine g_run (by kernel_rfl) [(0, .r), (1, .d), (2, .d), (3, .w), (4, .d), (5, .w)] rfl ?_
         refine r_r rfl rfl rfl (s_entry (key := (D.int .i64)) (g := enc_S_api_Decl) rfl rfl (.head _) (.tail _ (.head _)) hc_q_16) ?_
         refine r_d rfl rfl rfl (s_extract rfl rfl rfl) ?_
         refine r_d rfl rfl rfl (s_extract rfl rfl rfl) ?_
         refine r_w rfl rfl rfl (s_alloc rfl zv_api_Decl) ?_
         rintro _ _ ⟨b16_16, rfl, rfl⟩
         refine r_d rfl rfl rfl (s_assign rfl rfl) ?_
         refine r_w01 rfl rfl rfl (t_store0 _ rfl rfl rfl (Wk.refl _) (pf0 _) (by exact ty_api_Decl) (sz_S_api_Decl _) rfl rfl) ?_
         refine r_end ?_
         refine g_freeze 16 b16_16 rfl (pf0 _) ?_
         refine g_seq ?_
         refine g_run (by kernel_rfl) [(0, .d), (1, .d), (2, .d), (3, .d), (4, .d), (5, .d), (6, .d), (7, .d), (8, .d), (9, .d), (10, .d), (11, .d), (12, .d), (13, .r), (14, .d), (15, .d)] rfl ?_
         refine r_d rfl rfl rfl (s_move rfl rfl) ?_
         refine r_d rfl rfl rfl (s_move rfl rfl) ?_
         refine r_d rfl rfl rfl (s_cmp rfl rfl rfl rfl) ?_
         refine r_d rfl rfl rfl (s_move rfl rfl) ?_
         refine r_sB 142 rfl hr (fun h142_17 hr => ?_) (fun h142_17 hr => ?_)
         ·
          refine r_d rfl rfl rfl (s_load rfl rfl (by exact ty_api_Decl) (sz_S_api_Decl _)) ?_
          refine r_d rfl rfl rfl (s_load rfl rfl (by exact ty_api_Decl) (sz_S_api_Decl _)) ?_
          refine r_d rfl rfl rfl (s_eqT rfl wt_api_Decl rfl rfl) ?_
          refine r_d rfl rfl rfl (s_pickT rfl rfl rfl) ?_
          refine r_d rfl rfl rfl (s_move rfl rfl) ?_
          refine r_sB 147 rfl hr (fun h147_18 hr => ?_) (fun h147_18 hr => ?_)
          ·
           refine r_d rfl rfl rfl (s_move rfl rfl) ?_
           refine r_d rfl rfl rfl (s_move rfl rfl) ?_
           refine r_d rfl rfl rfl (s_move rfl rfl) ?_
           refine r_d rfl rfl rfl (s_buildI2 rfl pt__2_int rfl rfl) ?_
           refine r_r rfl rfl rfl (m_lookup1 (key := encII) (g := D.bool) mm_11 (q_13.1, q_16.1) false rfl Try.underlying110 kii__2_int zm_bool rfl rfl (.tail _ (.tail _ (.head _)))) ?_
           refine r_d rfl rfl rfl (s_not rfl rfl) ?_
           refine r_d rfl rfl rfl (s_pickT rfl rfl rfl) ?_
           refine r_end ?_
           refine g_sB 154 rfl hr (fun h154_19 hr => ?_) (fun h154_19 hr => ?_)
           ·
            refine g_condT rfl ?_
            refine g_seq ?_
            refine g_run (by kernel_rfl) [(0, .d)] rfl ?_
            refine r_d rfl rfl rfl (s_assign rfl rfl) ?_
            refine r_end ?_
            refine g_mapDrop (pf0 _) ?_
            refine g_mapClose ((pf0 _).trans (pf2 _ _ _ _)) ?_
            refine g_perm [_] _ (pf2 _ _ _ _) ?_
            have hr := mapOut hz2 hr
            have hr := mapOut hz1 hr
            obtain rfl := Option.some.inj hr
            refine g_ret Try.func55 _ (.cons (resTmp rfl (Wk.refl _)) .nil) ?_
            exact ⟨rfl, rfl⟩
           ·
            refine g_condF rfl ?_
            refine g_skip ?_
            refine g_inBlock ?_
            refine g_sub [(8, .map m29_3), (9, .map m39_5), (13, .int .i64 q_13.1), (14, .ptr (enc_S_api_Decl q_13.2)), (126, .ref b126_11 0 []), (133, .ref b133_14 0 [])] (Sub.cons' rfl (Sub.cons' rfl (Sub.cons' rfl (Sub.cons' rfl (Sub.cons' rfl (Sub.cons' rfl (Sub.nil _))))))) ?_
            refine g_perm [_, _, _, _, _] _ (((((pf4 _ _ _ _ _ _).trans (pf1 _ _ _)).trans (pf4 _ _ _ _ _ _)).trans (pf4 _ _ _ _ _ _)).trans (pf4 _ _ _ _ _ _)) ?_
            exact IH2 _ _ _ (by have := (hp_q_16).length_eq; simp only [List.length_cons] at this; omega) ⟨_, _, rfl, rfl, rfl, Nat.le_refl _, mapBack hz2 hr⟩
          ·
           refine r_skip rfl rfl rfl ?_
           refine r_skip rfl rfl rfl ?_
           refine r_skip rfl rfl rfl ?_
           refine r_skip rfl rfl rfl ?_
           refine r_skip rfl rfl rfl ?_
           refine r_skip rfl rfl rfl ?_
           refine r_d rfl rfl rfl (s_pickF rfl rfl rfl) ?_
           refine r_end ?_
           refine g_condF rfl ?_
           refine g_skip ?_
           refine g_inBlock ?_
           refine g_sub [(8, .map m29_3), (9, .map m39_5), (13, .int .i64 q_13.1), (14, .ptr (enc_S_api_Decl q_13.2)), (126, .ref b126_11 0 []), (133, .ref b133_14 0 [])] (Sub.cons' rfl (Sub.cons' rfl (Sub.cons' rfl (Sub.cons' rfl (Sub.cons' rfl (Sub.cons' rfl (Sub.nil _))))))) ?_
           refine g_perm [_, _, _, _, _] _ (((((pf4 _ _ _ _ _ _).trans (pf1 _ _ _)).trans (pf4 _ _ _ _ _ _)).trans (pf4 _ _ _ _ _ _)).trans (pf4 _ _ _ _ _ _)) ?_
           exact IH2 _ _ _ (by have := (hp_q_16).length_eq; simp only [List.length_cons] at this; omega) ⟨_, _, rfl, rfl, rfl, Nat.le_refl _, mapBack hz2 hr⟩
         ·
          refine r_skip rfl rfl rfl ?_
          refine r_skip rfl rfl rfl ?_
          refine r_skip rfl rfl rfl ?_
          refine r_d rfl rfl rfl (s_pickF rfl rfl rfl) ?_
          refine r_d rfl rfl rfl (s_move rfl rfl) ?_
          refine r_skip rfl rfl rfl ?_
          refine r_skip rfl rfl rfl ?_
          refine r_skip rfl rfl rfl ?_
          refine r_skip rfl rfl rfl ?_
          refine r_skip rfl rfl rfl ?_
          refine r_skip rfl rfl rfl ?_
          refine r_d rfl rfl rfl (s_pickF rfl rfl rfl) ?_
          refine r_end ?_
          refine g_condF rfl ?_
          refine g_skip ?_
          refine g_inBlock ?_
          refine g_sub [(8, .map m29_3), (9, .map m39_5), (13, .int .i64 q_13.1), (14, .ptr (enc_S_api_Decl q_13.2)), (126, .ref b126_11 0 []), (133, .ref b133_14 0 [])] (Sub.cons' rfl (Sub.cons' rfl (Sub.cons' rfl (Sub.cons' rfl (Sub.cons' rfl (Sub.cons' rfl (Sub.nil _))))))) ?_
          refine g_perm [_, _, _, _, _] _ (((((pf4 _ _ _ _ _ _).trans (pf1 _ _ _)).trans (pf4 _ _ _ _ _ _)).trans (pf4 _ _ _ _ _ _)).trans (pf4 _ _ _ _ _ _)) ?_
          exact IH2 _ _ _ (by have := (hp_q_16).length_eq; simp only [List.length_cons] at this; omega) ⟨_, _, rfl, rfl, rfl, Nat.le_refl _, mapBack hz2 hr⟩
    ·
     refine g_sub [(3, .ptr (.agg [enc_S_api_Image c_a0_0, .map m_o0])), (8, .map m29_3), (9, .map m39_5), (41, .lst (b_a2.f1_Code.map enc_S_api_Instr)), (42, .int .i64 (b_a2.f1_Code.length : Int)), (43, .int .i64 ((0 : Nat) : Int))] (Sub.cons' rfl (Sub.cons' rfl (Sub.cons' rfl (Sub.cons' rfl (Sub.cons' rfl (Sub.cons' rfl (Sub.nil _))))))) ?_
     refine g_perm [_, _, _] _ (((pf0 _).trans (pf1 _ _ _)).trans (pf2 _ _ _ _)) ?_
     refine g_loop (fun n env σ => ∃ (i_7 : Nat) (mm_8 : (List (Int × S_api_Decl))) (mm_9 : (List ((Int × Int) × Bool))), (n = b_a2.f1_Code.length - i_7) ∧ (env = [(3, .ptr (.agg [enc_S_api_Image c_a0_0, .map m_o0])), (8, .map m29_3), (9, .map m39_5), (41, .lst (b_a2.f1_Code.map enc_S_api_Instr)), (42, .int .i64 (b_a2.f1_Code.length : Int)), (43, .int .i64 (i_7 : Int))]) ∧ (σ = [.map m_o0 (mapM' enc_S_api_Decl D.bool s_0), .map m29_3 (mapM' (D.int .i64) enc_S_api_Decl mm_8), .map m39_5 (mapM' encII D.bool mm_9)]) ∧ (i_7 ≤ b_a2.f1_Code.length) ∧ (lf_instr_checker_block_s1_L0 kk0 c_a0_0 s_0 (b_a2.f1_Code.drop i_7) mm_8 mm_9 = some res)) _ ⟨0, mm_5, [], rfl, rfl, rfl, Nat.zero_le _, hr⟩ ?_
     rintro n _ _ ⟨i_7, mm_8, mm_9, rfl, rfl, rfl, hi0, hr⟩ IH0
     rcases listStep b_a2.f1_Code i_7 hi0 with ⟨ht0, hd0, he0⟩ | ⟨q_21, ht0, hd0, hq0, hlt0⟩
     ·
      rw [hd0, lf_instr_checker_block_s1_L0] at hr
      refine g_seq ?_
      refine g_run (by kernel_rfl) [(0, .d)] rfl ?_
      refine r_d rfl rfl rfl (s_cmp rfl rfl rfl rfl) ?_
      refine r_end ?_
      refine g_seq ?_
      refine g_known 44 false rfl ht0 ?_
      refine g_condF rfl ?_
      refine g_exit rfl ?_
      refine g_sub [(8, .map m29_3), (9, .map m39_5)] (Sub.cons' rfl (Sub.cons' rfl (Sub.nil _))) ?_
      refine g_perm [_, _, _] _ (((pf0 _).trans (pf2 _ _ _ _)).trans (pf2 _ _ _ _)) ?_
      exact HK0 _ _ ⟨mm_8, mm_9, rfl, rfl, hr⟩
     ·
      rw [hd0, lf_instr_checker_block_s1_L0] at hr
      refine g_seq ?_
      refine g_run (by kernel_rfl) [(0, .d)] rfl ?_
      refine r_d rfl rfl rfl (s_cmp rfl rfl rfl rfl) ?_
      refine r_end ?_
      refine g_seq ?_
      refine g_known 44 true rfl ht0 ?_
      refine g_condT rfl ?_
      refine g_skip ?_
      refine g_seq ?_
      refine g_block ?_
      refine g_seq ?_
      refine g_run (by kernel_rfl) [(0, .d), (1, .d), (2, .w), (3, .w)] rfl ?_
      refine r_d rfl rfl rfl (m_index (f := enc_S_api_Instr) b_a2.f1_Code rfl el_L_api_Instr rfl (asl rfl) rfl hq0 sz_S_api_Instr rfl) ?_
      refine r_d rfl rfl rfl (s_load rfl rfl (by exact ty_api_Instr) (sz_S_api_Instr _)) ?_
      refine r_w rfl rfl rfl (s_alloc rfl zv_api_Instr) ?_
      rintro _ _ ⟨b11_21, rfl, rfl⟩
      refine r_w01 rfl rfl rfl (t_store0 _ rfl rfl rfl (Wk.refl _) (pf0 _) (by exact ty_api_Instr) (sz_S_api_Instr _) (by simp [sz, szs, szs_fsT, sz_encG]) rfl) ?_
      refine r_end ?_
      refine g_freeze 11 b11_21 rfl (pf0 _) ?_
      refine g_seq ?_
      refine g_run (by kernel_rfl) [(0, .d), (1, .d)] rfl ?_
      refine r_d rfl rfl rfl (s_fieldAddr rfl fl_api_Instr_0 rfl rfl rfl rfl) ?_
      refine r_d rfl rfl rfl (s_load rfl rfl (by exact ty_int) rfl) ?_
      refine r_end ?_
      refine g_block ?_
      refine g_seq ?_
      refine g_run (by kernel_rfl) [(0, .d), (1, .d)] rfl ?_
      refine r_d rfl rfl rfl (s_cmp rfl rfl rfl rfl) ?_
      refine r_d rfl rfl rfl (s_assign rfl rfl) ?_
      refine r_end ?_
      refine g_sB 49 rfl hr (fun h49_22 hr => ?_) (fun h49_22 hr => ?_)
      ·
       refine g_condT rfl ?_
       refine g_seq ?_
       refine g_seq ?_
       refine g_run (by kernel_rfl) [(0, .d), (1, .d), (2, .d), (3, .d), (4, .d), (5, .d), (6, .d)] rfl ?_
       refine r_d rfl rfl rfl (s_fieldAddr rfl fl_api_Instr_2 rfl rfl rfl rfl) ?_
       refine r_d rfl rfl rfl (s_load rfl rfl (by exact ty_int) rfl) ?_
       refine r_d rfl rfl rfl (s_fieldAddr rfl fl_instr_checker_0 rfl rfl rfl rfl) ?_
       refine r_d rfl rfl rfl (s_fieldAddr rfl fl_api_Image_1 rfl rfl rfl rfl) ?_
       refine r_d rfl rfl rfl (s_load rfl rfl (by exact ty_L_api_Access) rfl) ?_
       refine r_d rfl rfl rfl (m_len (f := enc_S_api_Access) c_a0_0.f1_Access rfl el_L_api_Access rfl (asl rfl)) ?_
       refine r_d rfl rfl rfl (s_cmp rfl rfl rfl rfl) ?_
       refine r_end ?_
       refine g_sB 57 rfl hr (fun h57_23 hr => ?_) (fun h57_23 hr => ?_)
       ·
        refine g_condT rfl ?_
        refine g_seq ?_
        refine g_run (by kernel_rfl) [(0, .d)] rfl ?_
        refine r_d rfl rfl rfl (s_assign rfl rfl) ?_
        refine r_end ?_
        refine g_perm [_] _ (pf0 _) ?_
        obtain rfl := Option.some.inj hr
        refine g_ret Try.func55 _ (.cons (resTmp rfl (Wk.refl _)) .nil) ?_
        exact ⟨rfl, rfl⟩
       ·
        refine g_condF rfl ?_
        refine g_skip ?_
        refine g_seq ?_
        refine g_run (by kernel_rfl) [(0, .d), (1, .d), (2, .d), (3, .d), (4, .d), (5, .d), (6, .d), (7, .w), (8, .w)] rfl ?_
        refine r_d rfl rfl rfl (s_fieldAddr rfl fl_instr_checker_0 rfl rfl rfl rfl) ?_
        refine r_d rfl rfl rfl (s_fieldAddr rfl fl_api_Image_1 rfl rfl rfl rfl) ?_
        refine r_d rfl rfl rfl (s_load rfl rfl (by exact ty_L_api_Access) rfl) ?_
        refine r_d rfl rfl rfl (s_fieldAddr rfl fl_api_Instr_2 rfl rfl rfl rfl) ?_
        refine r_d rfl rfl rfl (s_load rfl rfl (by exact ty_int) rfl) ?_
        obtain ⟨q_25, hq_25, hr⟩ := bindS hr
        refine r_d rfl rfl rfl (m_index (f := enc_S_api_Access) c_a0_0.f1_Access rfl el_L_api_Access rfl (asl rfl) rfl hq_25 sz_S_api_Access rfl) ?_
        refine r_d rfl rfl rfl (s_load rfl rfl (by exact ty_api_Access) (sz_S_api_Access _)) ?_
        refine r_w rfl rfl rfl (s_alloc rfl zv_api_Access) ?_
        rintro _ _ ⟨b12_25, rfl, rfl⟩
        refine r_w01 rfl rfl rfl (t_store0 _ rfl rfl rfl (Wk.refl _) (pf0 _) (by exact ty_api_Access) (sz_S_api_Access _) rfl rfl) ?_
        refine r_end ?_
        refine g_freeze 12 b12_25 rfl (pf0 _) ?_
        refine g_seq ?_
        refine g_seq ?_
        refine g_run (by kernel_rfl) [(0, .d), (1, .d), (2, .d), (3, .d), (4, .d), (5, .d), (6, .d)] rfl ?_
        refine r_d rfl rfl rfl (s_fieldAddr rfl fl_api_Instr_4 rfl rfl (by simp [szs, sz, sz_encG]) rfl) ?_
        refine r_d rfl rfl rfl (s_load rfl rfl (by exact ty_L_api_Term) rfl) ?_
        refine r_d rfl rfl rfl (m_len (f := encT) q_21.f4_Terms rfl el_L_api_Term rfl (asl rfl)) ?_
        refine r_d rfl rfl rfl (s_fieldAddr rfl fl_api_Access_2 rfl rfl rfl rfl) ?_
        refine r_d rfl rfl rfl (s_load rfl rfl (by exact ty_L_int) rfl) ?_
        refine r_d rfl rfl rfl (m_len (f := (D.int .i64)) q_25.f2_Positions rfl el_L_int rfl (asl rfl)) ?_
        refine r_d rfl rfl rfl (s_cmp rfl rfl rfl rfl) ?_
        refine r_end ?_
        refine g_sB 71 rfl hr (fun h71_26 hr => ?_) (fun h71_26 hr => ?_)
        ·
         refine g_condT rfl ?_
         refine g_seq ?_
         refine g_run (by kernel_rfl) [(0, .d)] rfl ?_
         refine r_d rfl rfl rfl (s_assign rfl rfl) ?_
         refine r_end ?_
         refine g_perm [_] _ (pf0 _) ?_
         obtain rfl := Option.some.inj hr
         refine g_ret Try.func55 _ (.cons (resTmp rfl (Wk.refl _)) .nil) ?_
         exact ⟨rfl, rfl⟩
        ·
         refine g_condF rfl ?_
         refine g_skip ?_
         refine g_run (by kernel_rfl) [(0, .d), (1, .d), (2, .d), (3, .d), (4, .d), (5, .d), (6, .d), (7, .d), (8, .w)] rfl ?_
         refine r_d rfl rfl rfl (s_move rfl rfl) ?_
         refine r_d rfl rfl rfl (s_fieldAddr rfl fl_api_Instr_1 rfl rfl rfl rfl) ?_
         refine r_d rfl rfl rfl (s_load rfl rfl (by exact ty_int) rfl) ?_
         refine r_d rfl rfl rfl (s_fieldAddr rfl fl_api_Access_0 rfl rfl rfl rfl) ?_
         refine r_d rfl rfl rfl (s_load rfl rfl (by exact ty_string) rfl) ?_
         refine r_d rfl rfl rfl (s_fieldAddr rfl fl_api_Access_1 rfl rfl rfl rfl) ?_
         refine r_d rfl rfl rfl (s_load rfl rfl (by exact ty_int) rfl) ?_
         refine r_d rfl rfl rfl (s_build rfl bt_api_Decl (.cons rfl (Wk.refl _) (.cons rfl (Wk.refl _) .nil)) (.cons rfl rfl rfl (.cons rfl rfl rfl (.nil _)))) ?_
         obtain ⟨mm_28, hmm_28, hr⟩ := bindS hr
         refine r_w01 rfl rfl rfl (m_mapUpdate (key := (D.int .i64)) (g := enc_S_api_Decl) mm_8 q_21.f1_A (⟨q_25.f0_Name, q_25.f1_Arity⟩ : S_api_Decl) rfl Try.underlying109 (keyInt Try.underlying3) rfl rfl rfl (Wk.refl _) (pf1 _ _ _) hmm_28) ?_
         refine r_end ?_
         refine g_inBlock ?_
         refine g_inBlock ?_
         refine g_run (by kernel_rfl) [(0, .d), (1, .d)] rfl ?_
         refine r_d rfl rfl rfl (s_ar (r := ((i_7 + 1 : Nat) : Int)) rfl rfl rfl (by simp [iar]) (by omega)) ?_
         refine r_d rfl rfl rfl (s_move rfl rfl) ?_
         refine r_end ?_
         refine g_sub [(3, .ptr (.agg [enc_S_api_Image c_a0_0, .map m_o0])), (8, .map m29_3), (9, .map m39_5), (41, .lst (b_a2.f1_Code.map enc_S_api_Instr)), (42, .int .i64 (b_a2.f1_Code.length : Int)), (43, .int .i64 ((i_7 + 1 : Nat) : Int))] (Sub.cons' rfl (Sub.cons' rfl (Sub.cons' rfl (Sub.cons' rfl (Sub.cons' rfl (Sub.cons' rfl (Sub.nil _))))))) ?_
         refine g_perm [_, _, _] _ (((pf2 _ _ _ _).trans (pf1 _ _ _)).trans (pf2 _ _ _ _)) ?_
         exact IH0 _ _ _ (by omega) ⟨(i_7 + 1), mm_28, mm_9, rfl, rfl, rfl, (by omega), hr⟩
      ·
       refine g_condF rfl ?_
       refine g_seq ?_
       refine g_run (by kernel_rfl) [(0, .d), (1, .d)] rfl ?_
       refine r_d rfl rfl rfl (s_cmp rfl rfl rfl rfl) ?_
       refine r_d rfl rfl rfl (s_assign rfl rfl) ?_
       refine r_end ?_
       refine g_sB 80 rfl hr (fun h80_28 hr => ?_) (fun h80_28 hr => ?_)
       ·
        refine g_condT rfl ?_
        refine g_seq ?_
        refine g_run (by kernel_rfl) [(0, .d), (1, .d), (2, .d), (3, .d), (4, .d), (5, .r), (6, .d), (7, .d)] rfl ?_
        refine r_d rfl rfl rfl (s_fieldAddr rfl fl_api_Instr_2 rfl rfl rfl rfl) ?_
        refine r_d rfl rfl rfl (s_load rfl rfl (by exact ty_int) rfl) ?_
        refine r_d rfl rfl rfl (s_move rfl rfl) ?_
        refine r_d rfl rfl rfl (s_fieldAddr rfl fl_api_Instr_1 rfl rfl rfl rfl) ?_
        refine r_d rfl rfl rfl (s_load rfl rfl (by exact ty_int) rfl) ?_
        refine r_r rfl rfl rfl (m_lookup1 (key := (D.int .i64)) (g := enc_S_api_Decl) mm_8 q_21.f1_A (⟨⟨#[]⟩, 0⟩ : S_api_Decl) rfl Try.underlying109 (keyInt Try.underlying3) zm_api_Decl rfl rfl (.tail _ (.head _))) ?_
        refine r_d rfl rfl rfl (s_field1 rfl fv_api_Decl_1 (by exact ty_int) rfl rfl rfl rfl) ?_
        refine r_d rfl rfl rfl (s_cmp rfl rfl rfl rfl) ?_
        refine r_end ?_
        refine g_sB 89 rfl hr (fun h89_29 hr => ?_) (fun h89_29 hr => ?_)
        ·
         refine g_condT rfl ?_
         refine g_seq ?_
         refine g_run (by kernel_rfl) [(0, .d)] rfl ?_
         refine r_d rfl rfl rfl (s_assign rfl rfl) ?_
         refine r_end ?_
         refine g_perm [_] _ (pf0 _) ?_
         obtain rfl := Option.some.inj hr
         refine g_ret Try.func55 _ (.cons (resTmp rfl (Wk.refl _)) .nil) ?_
         exact ⟨rfl, rfl⟩
        ·
         refine g_condF rfl ?_
         refine g_skip ?_
         refine g_inBlock ?_
         refine g_inBlock ?_
         refine g_run (by kernel_rfl) [(0, .d), (1, .d)] rfl ?_
         refine r_d rfl rfl rfl (s_ar (r := ((i_7 + 1 : Nat) : Int)) rfl rfl rfl (by simp [iar]) (by omega)) ?_
         refine r_d rfl rfl rfl (s_move rfl rfl) ?_
         refine r_end ?_
         refine g_sub [(3, .ptr (.agg [enc_S_api_Image c_a0_0, .map m_o0])), (8, .map m29_3), (9, .map m39_5), (41, .lst (b_a2.f1_Code.map enc_S_api_Instr)), (42, .int .i64 (b_a2.f1_Code.length : Int)), (43, .int .i64 ((i_7 + 1 : Nat) : Int))] (Sub.cons' rfl (Sub.cons' rfl (Sub.cons' rfl (Sub.cons' rfl (Sub.cons' rfl (Sub.cons' rfl (Sub.nil _))))))) ?_
         exact IH0 _ _ _ (by omega) ⟨(i_7 + 1), mm_8, mm_9, rfl, rfl, rfl, (by omega), hr⟩
       ·
        refine g_condF rfl ?_
        refine g_seq ?_
        refine g_run (by kernel_rfl) [(0, .d), (1, .d)] rfl ?_
        refine r_d rfl rfl rfl (s_cmp rfl rfl rfl rfl) ?_
        refine r_d rfl rfl rfl (s_assign rfl rfl) ?_
        refine r_end ?_
        refine g_sB 90 rfl hr (fun h90_30 hr => ?_) (fun h90_30 hr => ?_)
        ·
         refine g_condT rfl ?_
         refine g_any (by kernel_rfl) (by kernel_rfl) [(0, .d), (1, .d), (2, .d), (3, .d), (4, .d), (5, .d), (6, .d), (7, .d), (8, .d), (9, .d), (10, .d), (11, .d), (12, .w), (13, .w)] (by kernel_rfl) ?_
         refine r_d rfl rfl rfl (s_move rfl rfl) ?_
         refine r_d rfl rfl rfl (s_fieldAddr rfl fl_api_Instr_1 rfl rfl rfl rfl) ?_
         refine r_d rfl rfl rfl (s_load rfl rfl (by exact ty_int) rfl) ?_
         refine r_d rfl rfl rfl (s_fieldAddr rfl fl_api_Instr_2 rfl rfl rfl rfl) ?_
         refine r_d rfl rfl rfl (s_load rfl rfl (by exact ty_int) rfl) ?_
         refine r_d rfl rfl rfl (s_buildI2 rfl pt__2_int rfl rfl) ?_
         refine r_d rfl rfl rfl (s_move rfl rfl) ?_
         refine r_d rfl rfl rfl (s_fieldAddr rfl fl_api_Instr_2 rfl rfl rfl rfl) ?_
         refine r_d rfl rfl rfl (s_load rfl rfl (by exact ty_int) rfl) ?_
         refine r_d rfl rfl rfl (s_fieldAddr rfl fl_api_Instr_1 rfl rfl rfl rfl) ?_
         refine r_d rfl rfl rfl (s_load rfl rfl (by exact ty_int) rfl) ?_
         refine r_d rfl rfl rfl (s_buildI2 rfl pt__2_int rfl rfl) ?_
         obtain ⟨mm_32, hmm_32, hr⟩ := bindS hr
         refine r_w01 rfl rfl rfl (m_mapUpdate (key := encII) (g := D.bool) mm_9 (q_21.f1_A, q_21.f2_B) true rfl Try.underlying110 kii__2_int rfl rfl rfl (Wk.refl _) (pf2 _ _ _ _) hmm_32) ?_
         obtain ⟨mm_33, hmm_33, hr⟩ := bindS hr
         refine r_w01 rfl rfl rfl (m_mapUpdate (key := encII) (g := D.bool) mm_32 (q_21.f2_B, q_21.f1_A) true rfl Try.underlying110 kii__2_int rfl rfl rfl (Wk.refl _) (pf0 _) hmm_33) ?_
         refine r_end ?_
         refine g_inBlock ?_
         refine g_inBlock ?_
         refine g_run (by kernel_rfl) [(0, .d), (1, .d)] rfl ?_
         refine r_d rfl rfl rfl (s_ar (r := ((i_7 + 1 : Nat) : Int)) rfl rfl rfl (by simp [iar]) (by omega)) ?_
         refine r_d rfl rfl rfl (s_move rfl rfl) ?_
         refine r_end ?_
         refine g_sub [(3, .ptr (.agg [enc_S_api_Image c_a0_0, .map m_o0])), (8, .map m29_3), (9, .map m39_5), (41, .lst (b_a2.f1_Code.map enc_S_api_Instr)), (42, .int .i64 (b_a2.f1_Code.length : Int)), (43, .int .i64 ((i_7 + 1 : Nat) : Int))] (Sub.cons' rfl (Sub.cons' rfl (Sub.cons' rfl (Sub.cons' rfl (Sub.cons' rfl (Sub.cons' rfl (Sub.nil _))))))) ?_
         refine g_perm [_, _, _] _ (((pf0 _).trans (pf2 _ _ _ _)).trans (pf2 _ _ _ _)) ?_
         exact IH0 _ _ _ (by omega) ⟨(i_7 + 1), mm_8, mm_33, rfl, rfl, rfl, (by omega), hr⟩
        ·
         refine g_condF rfl ?_
         refine g_seq ?_
         refine g_run (by kernel_rfl) [(0, .d), (1, .d)] rfl ?_
         refine r_d rfl rfl rfl (s_cmp rfl rfl rfl rfl) ?_
         refine r_d rfl rfl rfl (s_assign rfl rfl) ?_
         refine r_end ?_
         refine g_sB 104 rfl hr (fun h104_33 hr => ?_) (fun h104_33 hr => ?_)
         ·
          refine g_condT rfl ?_
          refine g_seq ?_
          refine g_run (by kernel_rfl) [(0, .d), (1, .d), (2, .d), (3, .d), (4, .d), (5, .d), (6, .d), (7, .d), (8, .d), (9, .d), (10, .d), (11, .d), (12, .d), (13, .d), (14, .d), (15, .r), (16, .d), (17, .d)] rfl ?_
          refine r_d rfl rfl rfl (s_fieldAddr rfl fl_api_Instr_3 rfl rfl rfl rfl) ?_
          refine r_d rfl rfl rfl (s_fieldAddr rfl fl_api_Goal_0 rfl rfl rfl rfl) ?_
          refine r_d rfl rfl rfl (s_load rfl rfl (by exact ty_int) rfl) ?_
          refine r_d rfl rfl rfl (s_cmp rfl rfl rfl rfl) ?_
          refine r_d rfl rfl rfl (s_move rfl rfl) ?_
          refine r_sB 110 rfl hr (fun h110_34 hr => ?_) (fun h110_34 hr => ?_)
          ·
           refine r_d rfl rfl rfl (s_fieldAddr rfl fl_instr_checker_1 rfl rfl (by simp [szs, sz, sz_S_api_Image]) rfl) ?_
           refine r_d rfl rfl rfl (s_load rfl rfl (by exact ty_map_api_Decl_bool) rfl) ?_
           refine r_d rfl rfl rfl (s_fieldAddr rfl fl_api_Instr_3 rfl rfl rfl rfl) ?_
           refine r_d rfl rfl rfl (s_fieldAddr rfl fl_api_Goal_1 rfl rfl rfl rfl) ?_
           refine r_d rfl rfl rfl (s_load rfl rfl (by exact ty_string) rfl) ?_
           refine r_d rfl rfl rfl (s_fieldAddr rfl fl_api_Instr_3 rfl rfl rfl rfl) ?_
           refine r_d rfl rfl rfl (s_fieldAddr rfl fl_api_Goal_2 rfl rfl rfl rfl) ?_
           refine r_d rfl rfl rfl (s_load rfl rfl (by exact ty_L_api_Term) rfl) ?_
           refine r_d rfl rfl rfl (m_len (f := encT) q_21.f3_Goal.ts rfl el_L_api_Term rfl (asl rfl)) ?_
           refine r_d rfl rfl rfl (s_build rfl bt_api_Decl (.cons rfl (Wk.refl _) (.cons rfl (Wk.refl _) .nil)) (.cons rfl rfl rfl (.cons rfl rfl rfl (.nil _)))) ?_
           refine r_r rfl rfl rfl (m_lookup1 (key := enc_S_api_Decl) (g := D.bool) s_0 (⟨q_21.f3_Goal.n, (q_21.f3_Goal.ts.length : Int)⟩ : S_api_Decl) false rfl Try.underlying87 wt_api_Decl.ok zm_bool rfl rfl (.head _)) ?_
           refine r_d rfl rfl rfl (s_not rfl rfl) ?_
           refine r_d rfl rfl rfl (s_pickT rfl rfl rfl) ?_
           refine r_end ?_
           refine g_sB 123 rfl hr (fun h123_35 hr => ?_) (fun h123_35 hr => ?_)
           ·
            refine g_condT rfl ?_
            refine g_seq ?_
            refine g_run (by kernel_rfl) [(0, .d)] rfl ?_
            refine r_d rfl rfl rfl (s_assign rfl rfl) ?_
            refine r_end ?_
            refine g_perm [_] _ (pf0 _) ?_
            obtain rfl := Option.some.inj hr
            refine g_ret Try.func55 _ (.cons (resTmp rfl (Wk.refl _)) .nil) ?_
            exact ⟨rfl, rfl⟩
           ·
            refine g_condF rfl ?_
            refine g_skip ?_
            refine g_inBlock ?_
            refine g_inBlock ?_
            refine g_run (by kernel_rfl) [(0, .d), (1, .d)] rfl ?_
            refine r_d rfl rfl rfl (s_ar (r := ((i_7 + 1 : Nat) : Int)) rfl rfl rfl (by simp [iar]) (by omega)) ?_
            refine r_d rfl rfl rfl (s_move rfl rfl) ?_
            refine r_end ?_
            refine g_sub [(3, .ptr (.agg [enc_S_api_Image c_a0_0, .map m_o0])), (8, .map m29_3), (9, .map m39_5), (41, .lst (b_a2.f1_Code.map enc_S_api_Instr)), (42, .int .i64 (b_a2.f1_Code.length : Int)), (43, .int .i64 ((i_7 + 1 : Nat) : Int))] (Sub.cons' rfl (Sub.cons' rfl (Sub.cons' rfl (Sub.cons' rfl (Sub.cons' rfl (Sub.cons' rfl (Sub.nil _))))))) ?_
            exact IH0 _ _ _ (by omega) ⟨(i_7 + 1), mm_8, mm_9, rfl, rfl, rfl, (by omega), hr⟩
          ·
           refine r_skip rfl rfl rfl ?_
           refine r_skip rfl rfl rfl ?_
           refine r_skip rfl rfl rfl ?_
           refine r_skip rfl rfl rfl ?_
           refine r_skip rfl rfl rfl ?_
           refine r_skip rfl rfl rfl ?_
           refine r_skip rfl rfl rfl ?_
           refine r_skip rfl rfl rfl ?_
           refine r_skip rfl rfl rfl ?_
           refine r_skip rfl rfl rfl ?_
           refine r_skip rfl rfl rfl ?_
           refine r_skip rfl rfl rfl ?_
           refine r_d rfl rfl rfl (s_pickF rfl rfl rfl) ?_
           refine r_end ?_
           refine g_condF rfl ?_
           refine g_skip ?_
           refine g_inBlock ?_
           refine g_inBlock ?_
           refine g_run (by kernel_rfl) [(0, .d), (1, .d)] rfl ?_
           refine r_d rfl rfl rfl (s_ar (r := ((i_7 + 1 : Nat) : Int)) rfl rfl rfl (by simp [iar]) (by omega)) ?_
           refine r_d rfl rfl rfl (s_move rfl rfl) ?_
           refine r_end ?_
           refine g_sub [(3, .ptr (.agg [enc_S_api_Image c_a0_0, .map m_o0])), (8, .map m29_3), (9, .map m39_5), (41, .lst (b_a2.f1_Code.map enc_S_api_Instr)), (42, .int .i64 (b_a2.f1_Code.length : Int)), (43, .int .i64 ((i_7 + 1 : Nat) : Int))] (Sub.cons' rfl (Sub.cons' rfl (Sub.cons' rfl (Sub.cons' rfl (Sub.cons' rfl (Sub.cons' rfl (Sub.nil _))))))) ?_
           exact IH0 _ _ _ (by omega) ⟨(i_7 + 1), mm_8, mm_9, rfl, rfl, rfl, (by omega), hr⟩
         ·
          refine g_condF rfl ?_
          refine g_skip ?_
          refine g_inBlock ?_
          refine g_inBlock ?_
          refine g_run (by kernel_rfl) [(0, .d), (1, .d)] rfl ?_
          refine r_d rfl rfl rfl (s_ar (r := ((i_7 + 1 : Nat) : Int)) rfl rfl rfl (by simp [iar]) (by omega)) ?_
          refine r_d rfl rfl rfl (s_move rfl rfl) ?_
          refine r_end ?_
          refine g_sub [(3, .ptr (.agg [enc_S_api_Image c_a0_0, .map m_o0])), (8, .map m29_3), (9, .map m39_5), (41, .lst (b_a2.f1_Code.map enc_S_api_Instr)), (42, .int .i64 (b_a2.f1_Code.length : Int)), (43, .int .i64 ((i_7 + 1 : Nat) : Int))] (Sub.cons' rfl (Sub.cons' rfl (Sub.cons' rfl (Sub.cons' rfl (Sub.cons' rfl (Sub.cons' rfl (Sub.nil _))))))) ?_
          exact IH0 _ _ _ (by omega) ⟨(i_7 + 1), mm_8, mm_9, rfl, rfl, rfl, (by omega), hr⟩

noncomputable def lf_instr_CheckImage_L4 (k : ((List (S_api_Decl × Bool))) → Option (Int)) (m_a0 : S_api_Image) (q_14 : S_api_Unit) : List S_api_Block → (List (S_api_Decl × Bool)) → Option (Int)
  | [], mm_17 =>
  (k mm_17)
  | q_19 :: rest, mm_17 =>
  ((lf_instr_checker_block_s1 m_a0 q_14 q_19 mm_17).bind fun r_21 =>
  (bif (r_21.1 != (0 : Int)) then
  some (r_21.1)
  else
  (lf_instr_CheckImage_L4 k m_a0 q_14 rest r_21.2)))

noncomputable def lf_instr_CheckImage_L3 (k : Option (Int)) (m_a0 : S_api_Image) : List S_api_Unit → (List (S_api_Decl × Bool)) → Option (Int)
  | [], mm_13 =>
  k
  | q_14 :: rest, mm_13 =>
  (lf_instr_CheckImage_L4 (fun mm_18 =>
  (lf_instr_CheckImage_L3 k m_a0 rest mm_18)) m_a0 q_14 q_14.f2_Blocks mm_13)

noncomputable def lf_instr_CheckImage_L2 (k : ((List (S_api_Decl × Bool))) → Option (Int)) (m_a0 : S_api_Image) : List S_api_Unit → (List (S_api_Decl × Bool)) → Option (Int)
  | [], mm_10 =>
  (k mm_10)
  | q_23 :: rest, mm_10 =>
  ((lf_instr_checker_unit_s1 m_a0 q_23 mm_10).bind fun r_25 =>
  (bif (r_25.1 != (0 : Int)) then
  some (r_25.1)
  else
  (lf_instr_CheckImage_L2 k m_a0 rest r_25.2)))

noncomputable def lf_instr_CheckImage_L1 (k : Option (Int)) : List S_api_Access → Option (Int)
  | [] =>
  k
  | q_27 :: rest =>
  ((lf_instr_access q_27).bind fun r_29 =>
  (bif (r_29 != (0 : Int)) then
  some (r_29)
  else
  (lf_instr_CheckImage_L1 k rest)))

noncomputable def lf_instr_CheckImage_L0 (k : Option (Int)) : List S_api_Unit → Option (Int)
  | [] =>
  k
  | q_31 :: rest =>
  (bif (decide ((q_31.f2_Blocks.length : Int) > (160 : Int))) then
  some (6)
  else
  (lf_instr_CheckImage_L0 k rest))
noncomputable def lf_instr_CheckImage (m_a0 : S_api_Image) : Option (Int) :=
  (bif (decide (m_a0.f2_Rules < (0 : Int))) then
  some (5)
  else
  (bif (decide (m_a0.f2_Rules > (40 : Int))) then
  some (5)
  else
  (bif (decide ((m_a0.f0_Units.length : Int) > (30 : Int))) then
  some (6)
  else
  (bif (decide ((m_a0.f1_Access.length : Int) > (480 : Int))) then
  some (6)
  else
  (lf_instr_CheckImage_L0 ((lf_instr_CheckImage_L1 ((lf_instr_CheckImage_L2 (fun mm_11 =>
  (lf_instr_CheckImage_L3 (some (0)) m_a0 m_a0.f0_Units mm_11)) m_a0 m_a0.f0_Units [])) m_a0.f1_Access)) m_a0.f0_Units)))))

end Go.Proofs.Ytbdhjkneoandiaa

