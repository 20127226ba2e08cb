/-
  Texts of the seat, merged.
-/
import Derived.Test.YtbdhjkneoandiaaGreatLGA
import Derived.Test.YtbdhjkneoandiaaGreatLGB
import Derived.Test.YtbdhjkneoandiaaGreatLGC
import Derived.Test.YtbdhjkneoandiaaGreatLGD
import Derived.Test.YtbdhjkneoandiaaGreatLGE
import Derived.Test.YtbdhjkneoandiaaGreatLGF
import Derived.Test.YtbdhjkneoandiaaGreatLGG
import Derived.Test.YtbdhjkneoandiaaGreatLGH
import Derived.Test.YtbdhjkneoandiaaGreatChecked
import Derived.WalkKit
import Derived.Lib.Hide
import Derived.Lib.AppendStr
import Derived.Deep.AppendLies
import Derived.Deep.AppendSrc
import Derived.Deep.Draws
import Derived.Deep.QuietTactic
import Derived.BigQuiet
import Derived.Deep.RegionWith
import Derived.Maps.AppendAt
import Derived.WalkSpells
import Derived.Orders
import Derived.Deep.Slices
import Derived.Deep.Fields
import Derived.ChangeArms
import Derived.Lib.OthersKept
import Derived.Lib.TrimU
import Derived.Lib.IndexAny
import Derived.Deep.LoopGhost
import Derived.Lib.Bytealg
import Derived.RangeFuncBox
import Derived.RangeFuncNested
import Derived.RangeFuncBound
import Derived.RangeFuncCalls
import Derived.RangeFuncLeaves
import Derived.Shelf.Abstract
import Derived.OwnWalkIn
import Derived.TacticsInMore
import Derived.LoopNIn
import Derived.LoopIn
import Derived.RangeFuncWrites
import Derived.Maps.OwnIn
import Derived.Maps.Views
import Derived.Laws.OwnMore
import Derived.Maps.OwnSet
import Derived.Test.YtbdhjkneoandiaaGreatRows
import Derived.ProofKit
import Derived.OpenShut
import Derived.Carry
import Derived.OrdersIn
import Derived.Great.BuildSlice
import Derived.ArgAppend
import Derived.Laws.MakeOwn
import Derived.Laws.Cover3
import Derived.Laws.CopyRow
import Derived.MapKept
import Derived.Maps.RangeRun
import Derived.DeepKeys5
import Derived.WideKeyRuns
set_option linter.unusedVariables false
set_option linter.unusedSimpArgs false
set_option linter.unnecessarySimpa false
set_option linter.all false

namespace Go.Proofs.YtbdhjkneoandiaaGreat
set_option maxRecDepth 100000
open Go.RowKit

set_option maxHeartbeats 1000000 in
theorem lg_constraintref32_block (m_a0 : S_api_Image) (u_a1 : S_api_Unit) (b_a2 : S_api_Block) (res : Int) (hr : lf_constraintref32_block m_a0 u_a1 b_a2 = some res) : Gives Tryz.prog 33 [enc_S_api_Image m_a0, enc_S_api_Unit u_a1, enc_S_api_Block b_a2] (.int .i64 res) := by
  unfold lf_constraintref32_block at hr
  refine spec_env [(0, enc_S_api_Image m_a0), (1, enc_S_api_Unit u_a1), (2, enc_S_api_Block b_a2)] Tryz.func33 rfl rfl fun K hK => ?_
  refine g_seq ?_
  refine g_run (by kernel_rfl) [(0, .d), (1, .d), (2, .d), (3, .d)] rfl ?_
  refine r_d rfl rfl rfl (s_box rfl rfl rfl) ?_
  refine r_d rfl rfl rfl (s_box rfl rfl rfl) ?_
  refine r_d rfl rfl rfl (s_box rfl rfl rfl) ?_
  refine r_d rfl rfl rfl (s_assign rfl rfl) ?_
  refine r_end ?_
  refine g_seq ?_
  refine g_run (by kernel_rfl) [(0, .d), (1, .d), (2, .d)] rfl ?_
  refine r_d rfl rfl rfl (s_load rfl rfl (by exact ty_api_Block) (sz_S_api_Block _)) ?_
  obtain ⟨r_1, hr_1, hr⟩ := bindS hr
  refine r_d rfl rfl rfl (s_callD rfl cl_constraintref32_Check (.cons rfl (Wk.refl _) .nil) (lg_constraintref32_Check _ _ hr_1)) ?_
  refine r_d rfl rfl rfl (s_assign rfl rfl) ?_
  refine r_end ?_
  refine g_seq ?_
  refine g_seq ?_
  refine g_run (by kernel_rfl) [(0, .d), (1, .d)] rfl ?_
  refine r_d rfl rfl rfl (s_move rfl rfl) ?_
  refine r_d rfl rfl rfl (s_cmp rfl rfl rfl rfl) ?_
  refine r_end ?_
  refine g_sB 18 rfl hr (fun h18_1 hr => ?_) (fun h18_1 hr => ?_)
  ·
   refine g_condT rfl ?_
   refine g_seq ?_
   refine g_run (by kernel_rfl) [(0, .d), (1, .d)] rfl ?_
   refine r_d rfl rfl rfl (s_move rfl rfl) ?_
   refine r_d rfl rfl rfl (s_assign rfl rfl) ?_
   refine r_end ?_
   obtain rfl := Option.some.inj hr
   refine g_ret Tryz.func33 _ (.cons (resTmp rfl (Wk.refl _)) .nil) ?_
   rfl
  ·
   refine g_condF rfl ?_
   refine g_skip ?_
   refine g_seq ?_
   refine g_seq ?_
   refine g_run (by kernel_rfl) [(0, .d), (1, .d), (2, .d), (3, .d), (4, .d), (5, .d)] rfl ?_
   refine r_d rfl rfl rfl (s_fieldAddr rfl fl_api_Block_0 rfl rfl rfl rfl) ?_
   refine r_d rfl rfl rfl (s_fieldAddr rfl fl_api_Occ_0 rfl rfl rfl rfl) ?_
   refine r_d rfl rfl rfl (s_load rfl rfl (by exact ty_int) rfl) ?_
   refine r_d rfl rfl rfl (s_fieldAddr rfl fl_api_Image_2 rfl rfl rfl rfl) ?_
   refine r_d rfl rfl rfl (s_load rfl rfl (by exact ty_int) rfl) ?_
   refine r_d rfl rfl rfl (s_cmp rfl rfl rfl rfl) ?_
   refine r_end ?_
   refine g_sB 25 rfl hr (fun h25_2 hr => ?_) (fun h25_2 hr => ?_)
   ·
    refine g_condT rfl ?_
    refine g_seq ?_
    refine g_run (by kernel_rfl) [(0, .d)] rfl ?_
    refine r_d rfl rfl rfl (s_assign rfl rfl) ?_
    refine r_end ?_
    obtain rfl := Option.some.inj hr
    refine g_ret Tryz.func33 _ (.cons (resTmp rfl (Wk.refl _)) .nil) ?_
    rfl
   ·
    refine g_condF rfl ?_
    refine g_skip ?_
    refine g_seq ?_
    refine g_run (by kernel_rfl) [(0, .d), (1, .d), (2, .d), (3, .d), (4, .d), (5, .d), (6, .d), (7, .d), (8, .w), (9, .d)] rfl ?_
    refine r_d rfl rfl rfl (s_fieldAddr rfl fl_api_Block_0 rfl rfl rfl rfl) ?_
    refine r_d rfl rfl rfl (s_fieldAddr rfl fl_api_Occ_1 rfl rfl rfl rfl) ?_
    refine r_d rfl rfl rfl (s_load rfl rfl (by exact ty_int) rfl) ?_
    refine r_d rfl rfl rfl (s_fieldAddr rfl fl_api_Unit_0 rfl rfl rfl rfl) ?_
    refine r_d rfl rfl rfl (s_load rfl rfl (by exact ty_string) rfl) ?_
    refine r_d rfl rfl rfl (s_fieldAddr rfl fl_api_Unit_1 rfl rfl rfl rfl) ?_
    refine r_d rfl rfl rfl (s_load rfl rfl (by exact ty_int) rfl) ?_
    refine r_d rfl rfl rfl (s_build rfl bt_constraintref32_held (.cons rfl (Wk.refl _) (.cons rfl (Wk.refl _) (.cons rfl (Wk.refl _) .nil))) (.cons rfl rfl rfl (.cons rfl rfl rfl (.cons rfl rfl rfl (.nil _))))) ?_
    refine r_w rfl rfl rfl (m_litOwn (f := enc_S_constraintref32_held) [.tmp 33] [(⟨b_a2.f0_Occ.f1_Head, u_a1.f0_Name, u_a1.f1_Arity⟩ : S_constraintref32_held)] rfl el_L_constraintref32_held rfl rfl (by decide) (by decide) (.cons rfl (Wk.refl _) .nil) sz_S_constraintref32_held (fun _ => rfl)) ?_
    rintro _ _ ⟨u34_3, rfl, rfl⟩
    refine r_d rfl rfl rfl (s_assign rfl rfl) ?_
    refine r_end ?_
    refine g_seq ?_
    refine g_seq ?_
    refine g_run (by kernel_rfl) [(0, .d)] rfl ?_
    refine r_d rfl rfl rfl (s_assign rfl rfl) ?_
    refine r_end ?_
    obtain ⟨kk0, hkk0, hr⟩ := exK (fun k => lf_constraintref32_block_L0 k m_a0 b_a2.f1_Code [(⟨b_a2.f0_Occ.f1_Head, u_a1.f0_Name, u_a1.f1_Arity⟩ : S_constraintref32_held)]) hr
    refine g_lenS 2 [1] (l := b_a2.f1_Code.map enc_S_api_Instr) rfl rfl (asl rfl) fun hla0 => ?_
    simp only [List.length_map] at hla0
    refine g_blockJ (fun env σ => ∃ (l_9 : (List S_constraintref32_held)) (u_8 : Value), env = [(5, .ptr (enc_S_api_Block b_a2)), (8, .own u_8 (l_9.map enc_S_constraintref32_held))] ∧ σ = [.row u_8 l_9.length 104 3] ∧ kk0 l_9 = some res) ?_ (fun HK0 => ?_)
    ·
     rintro _ _ ⟨l_9, u_8, rfl, rfl, hr⟩
     rw [hkk0] at hr
     refine g_seq ?_
     refine g_seq ?_
     refine g_run (by kernel_rfl) [(0, .d)] rfl ?_
     refine r_d rfl rfl rfl (s_assign rfl rfl) ?_
     refine r_end ?_
     obtain ⟨kk1, hkk1, hr⟩ := exK (fun k => lf_constraintref32_block_L1 k b_a2 l_9 l_9 0) hr
     refine g_len 8 rfl (asl rfl) fun hla1 => ?_
     simp only [List.length_map] at hla1
     refine g_blockJ (fun env σ => env = [] ∧ σ = [] ∧ kk1 = some res) ?_ (fun HK1 => ?_)
     ·
      rintro _ _ ⟨rfl, rfl, hr⟩
      rw [hkk1] at hr
      refine g_seq ?_
      refine g_run (by kernel_rfl) [(0, .d)] rfl ?_
      refine r_d rfl rfl rfl (s_assign rfl rfl) ?_
      refine r_end ?_
      obtain rfl := Option.some.inj hr
      refine g_ret Tryz.func33 _ (.cons (resTmp rfl (Wk.refl _)) .nil) ?_
      rfl
     ·
      refine g_sub [(5, .ptr (enc_S_api_Block b_a2)), (8, .own u_8 (l_9.map enc_S_constraintref32_held)), (13, .int .i64 ((0 : Nat) : Int))] (Sub.cons' rfl (Sub.cons' rfl (Sub.cons' rfl (Sub.nil _)))) ?_
      refine g_loop (fun n env σ => ∃ (i_11 : Nat) (u_10 : Value), (n = l_9.length - i_11) ∧ (env = [(5, .ptr (enc_S_api_Block b_a2)), (8, .own u_10 (l_9.map enc_S_constraintref32_held)), (13, .int .i64 (i_11 : Int))]) ∧ (σ = [.row u_10 l_9.length 104 3]) ∧ (i_11 ≤ l_9.length) ∧ (lf_constraintref32_block_L1 kk1 b_a2 l_9 (l_9.drop i_11) i_11 = some res)) _ ⟨0, u_8, rfl, rfl, rfl, Nat.zero_le _, hr⟩ ?_
      rintro n _ _ ⟨i_11, u_10, rfl, rfl, rfl, hi1, hr⟩ IH1
      rcases listStep l_9 i_11 hi1 with ⟨ht1, hd1, he1⟩ | ⟨q_12, ht1, hd1, hq1, hlt1⟩
      ·
       rw [hd1, lf_constraintref32_block_L1] at hr
       refine g_seq ?_
       refine g_seq ?_
       refine g_run (by kernel_rfl) [(0, .d), (1, .d), (2, .d), (3, .d)] rfl ?_
       refine r_d rfl rfl rfl (s_move rfl rfl) ?_
       refine r_d rfl rfl rfl (s_move rfl rfl) ?_
       refine r_d rfl rfl rfl (m_len (f := enc_S_constraintref32_held) l_9 rfl el_L_constraintref32_held rfl (asl rfl)) ?_
       refine r_d rfl rfl rfl (s_cmp rfl rfl rfl rfl) ?_
       refine r_end ?_
       refine g_known 128 false rfl ht1 ?_
       refine g_condF rfl ?_
       refine g_exit rfl ?_
       refine g_sub [] (Sub.nil _) ?_
       refine g_perm [] _ (pf0 _) ?_
       exact HK1 _ _ ⟨rfl, rfl, hr⟩
      ·
       rw [hd1, lf_constraintref32_block_L1] at hr
       refine g_seq ?_
       refine g_seq ?_
       refine g_run (by kernel_rfl) [(0, .d), (1, .d), (2, .d), (3, .d)] rfl ?_
       refine r_d rfl rfl rfl (s_move rfl rfl) ?_
       refine r_d rfl rfl rfl (s_move rfl rfl) ?_
       refine r_d rfl rfl rfl (m_len (f := enc_S_constraintref32_held) l_9 rfl el_L_constraintref32_held rfl (asl rfl)) ?_
       refine r_d rfl rfl rfl (s_cmp rfl rfl rfl rfl) ?_
       refine r_end ?_
       refine g_known 128 true rfl ht1 ?_
       refine g_condT rfl ?_
       refine g_skip ?_
       refine g_seq ?_
       refine g_block ?_
       refine g_seq ?_
       refine g_run (by kernel_rfl) [(0, .d)] rfl ?_
       refine r_d rfl rfl rfl (s_assign rfl rfl) ?_
       refine r_end ?_
       obtain ⟨kk2, hkk2, hr⟩ := exK (fun k => lf_constraintref32_block_L2 k b_a2 l_9 q_12 ((i_11 : Int) - 0 : Int).toNat 0) hr
       refine g_int 13 rfl fun hla2 => ?_
       refine g_blockJ (fun env σ => ∃ (u_15 : Value), env = [(5, .ptr (enc_S_api_Block b_a2)), (8, .own u_15 (l_9.map enc_S_constraintref32_held)), (13, .int .i64 (i_11 : Int))] ∧ σ = [.row u_15 l_9.length 104 3] ∧ kk2 = some res) ?_ (fun HK2 => ?_)
       ·
        rintro _ _ ⟨u_15, rfl, rfl, hr⟩
        rw [hkk2] at hr
        refine g_inBlock ?_
        refine g_run (by kernel_rfl) [(0, .d), (1, .d), (2, .d)] rfl ?_
        refine r_d rfl rfl rfl (s_move rfl rfl) ?_
        refine r_d rfl rfl rfl (s_ar (r := ((i_11 + 1 : Nat) : Int)) rfl rfl rfl (by simp [iar]) (by omega)) ?_
        refine r_d rfl rfl rfl (s_assign rfl rfl) ?_
        refine r_end ?_
        refine g_sub [(5, .ptr (enc_S_api_Block b_a2)), (8, .own u_15 (l_9.map enc_S_constraintref32_held)), (13, .int .i64 ((i_11 + 1 : Nat) : Int))] (Sub.cons' rfl (Sub.cons' rfl (Sub.cons' rfl (Sub.nil _)))) ?_
        exact IH1 _ _ _ (by omega) ⟨(i_11 + 1), u_15, rfl, rfl, rfl, (by omega), hr⟩
       ·
        refine g_sub [(5, .ptr (enc_S_api_Block b_a2)), (8, .own u_10 (l_9.map enc_S_constraintref32_held)), (13, .int .i64 ((i_11 : Nat) : Int)), (14, .int .i64 0)] (Sub.cons' rfl (Sub.cons' rfl (Sub.cons' rfl (Sub.cons' rfl (Sub.nil _))))) ?_
        refine g_loop (fun n env σ => ∃ (k_14 : Int) (u_13 : Value) (m2 : Nat), (m2 = n) ∧ (env = [(5, .ptr (enc_S_api_Block b_a2)), (8, .own u_13 (l_9.map enc_S_constraintref32_held)), (13, .int .i64 (i_11 : Int)), (14, .int .i64 k_14)]) ∧ (σ = [.row u_13 l_9.length 104 3]) ∧ (m2 = ((i_11 : Int) - k_14 : Int).toNat) ∧ (lf_constraintref32_block_L2 kk2 b_a2 l_9 q_12 m2 k_14 = some res)) _ ⟨0, u_10, _, rfl, rfl, rfl, rfl, hr⟩ ?_
        rintro n _ _ ⟨k_14, u_13, m2, rfl, rfl, rfl, hi2, hr⟩ IH2
        refine g_int 14 rfl fun hb2 => ?_
        rcases cntStep k_14 (i_11 : Int) m2 hi2 with ⟨hm2, ht2⟩ | ⟨m2', hm2, ht2, hi2', hlt2⟩
        ·
         rw [hm2, lf_constraintref32_block_L2] at hr
         refine g_seq ?_
         refine g_seq ?_
         refine g_run (by kernel_rfl) [(0, .d), (1, .d), (2, .d)] rfl ?_
         refine r_d rfl rfl rfl (s_move rfl rfl) ?_
         refine r_d rfl rfl rfl (s_move rfl rfl) ?_
         refine r_d rfl rfl rfl (s_cmp rfl rfl rfl rfl) ?_
         refine r_end ?_
         refine g_known 133 false rfl ht2 ?_
         refine g_condF rfl ?_
         refine g_exit rfl ?_
         refine g_sub [(5, .ptr (enc_S_api_Block b_a2)), (8, .own u_13 (l_9.map enc_S_constraintref32_held)), (13, .int .i64 (i_11 : Int))] (Sub.cons' rfl (Sub.cons' rfl (Sub.cons' rfl (Sub.nil _)))) ?_
         exact HK2 _ _ ⟨u_13, rfl, rfl, hr⟩
        ·
         rw [hm2, lf_constraintref32_block_L2] at hr
         refine g_seq ?_
         refine g_seq ?_
         refine g_run (by kernel_rfl) [(0, .d), (1, .d), (2, .d)] rfl ?_
         refine r_d rfl rfl rfl (s_move rfl rfl) ?_
         refine r_d rfl rfl rfl (s_move rfl rfl) ?_
         refine r_d rfl rfl rfl (s_cmp rfl rfl rfl rfl) ?_
         refine r_end ?_
         refine g_int 13 rfl fun hbN13 => ?_
         refine g_known 133 true rfl ht2 ?_
         refine g_condT rfl ?_
         refine g_skip ?_
         refine g_seq ?_
         refine g_block ?_
         refine g_seq ?_
         refine g_any (by kernel_rfl) (by kernel_rfl) [(0, .d), (1, .d), (2, .d), (3, .d), (4, .d), (5, .d), (6, .d), (7, .d), (8, .d), (9, .d), (10, .d), (11, .d), (12, .d), (13, .d), (14, .d), (15, .d), (16, .d), (17, .d), (18, .d), (19, .d), (20, .d), (21, .d), (22, .d), (23, .d), (24, .d), (25, .d), (26, .d), (27, .d), (28, .d), (29, .d), (30, .d), (31, .d), (32, .d), (33, .d), (34, .d), (35, .d), (36, .d), (37, .d), (38, .d), (39, .d)] (by kernel_rfl) ?_
         refine r_d rfl rfl rfl (s_move rfl rfl) ?_
         refine r_d rfl rfl rfl (s_move rfl rfl) ?_
         refine r_d rfl rfl rfl (m_index (f := enc_S_constraintref32_held) l_9 rfl el_L_constraintref32_held rfl (asl rfl) rfl hq1 sz_S_constraintref32_held rfl) ?_
         refine r_d rfl rfl rfl (s_fieldAddr rfl fl_constraintref32_held_1 rfl rfl rfl rfl) ?_
         refine r_d rfl rfl rfl (s_load rfl rfl (by exact ty_string) rfl) ?_
         refine r_d rfl rfl rfl (s_move rfl rfl) ?_
         refine r_d rfl rfl rfl (s_move rfl rfl) ?_
         obtain ⟨q_16, hq_16, hr⟩ := bindS hr
         refine r_d rfl rfl rfl (m_index (f := enc_S_constraintref32_held) l_9 rfl el_L_constraintref32_held rfl (asl rfl) rfl hq_16 sz_S_constraintref32_held rfl) ?_
         refine r_d rfl rfl rfl (s_fieldAddr rfl fl_constraintref32_held_1 rfl rfl rfl rfl) ?_
         refine r_d rfl rfl rfl (s_load rfl rfl (by exact ty_string) rfl) ?_
         refine r_d rfl rfl rfl (s_cmpS rfl rfl rfl rfl) ?_
         refine r_d rfl rfl rfl (s_move rfl rfl) ?_
         refine r_sB 147 rfl hr (fun h147_16 hr => ?_) (fun h147_16 hr => ?_)
         ·
          refine r_d rfl rfl rfl (s_move rfl rfl) ?_
          refine r_d rfl rfl rfl (s_move rfl rfl) ?_
          refine r_d rfl rfl rfl (m_index (f := enc_S_constraintref32_held) l_9 rfl el_L_constraintref32_held rfl (asl rfl) rfl hq1 sz_S_constraintref32_held rfl) ?_
          refine r_d rfl rfl rfl (s_fieldAddr rfl fl_constraintref32_held_2 rfl rfl rfl rfl) ?_
          refine r_d rfl rfl rfl (s_load rfl rfl (by exact ty_int) rfl) ?_
          refine r_d rfl rfl rfl (s_move rfl rfl) ?_
          refine r_d rfl rfl rfl (s_move rfl rfl) ?_
          refine r_d rfl rfl rfl (m_index (f := enc_S_constraintref32_held) l_9 rfl el_L_constraintref32_held rfl (asl rfl) rfl hq_16 sz_S_constraintref32_held rfl) ?_
          refine r_d rfl rfl rfl (s_fieldAddr rfl fl_constraintref32_held_2 rfl rfl rfl rfl) ?_
          refine r_d rfl rfl rfl (s_load rfl rfl (by exact ty_int) rfl) ?_
          refine r_d rfl rfl rfl (s_cmp rfl rfl rfl rfl) ?_
          refine r_d rfl rfl rfl (s_pickT rfl rfl rfl) ?_
          refine r_d rfl rfl rfl (s_move rfl rfl) ?_
          refine r_sB 160 rfl hr (fun h160_17 hr => ?_) (fun h160_17 hr => ?_)
          ·
           refine r_d rfl rfl rfl (s_fieldAddr rfl fl_api_Block_1 rfl rfl (by simp [szs, sz, sz_S_api_Occ]) rfl) ?_
           refine r_d rfl rfl rfl (s_load rfl rfl (by exact ty_L_api_Instr) rfl) ?_
           refine r_d rfl rfl rfl (s_move rfl rfl) ?_
           refine r_d rfl rfl rfl (s_move rfl rfl) ?_
           refine r_d rfl rfl rfl (m_index (f := enc_S_constraintref32_held) l_9 rfl el_L_constraintref32_held rfl (asl rfl) rfl hq1 sz_S_constraintref32_held rfl) ?_
           refine r_d rfl rfl rfl (s_fieldAddr rfl fl_constraintref32_held_0 rfl rfl rfl rfl) ?_
           refine r_d rfl rfl rfl (s_load rfl rfl (by exact ty_int) rfl) ?_
           refine r_d rfl rfl rfl (s_move rfl rfl) ?_
           refine r_d rfl rfl rfl (s_move rfl rfl) ?_
           refine r_d rfl rfl rfl (m_index (f := enc_S_constraintref32_held) l_9 rfl el_L_constraintref32_held rfl (asl rfl) rfl hq_16 sz_S_constraintref32_held rfl) ?_
           refine r_d rfl rfl rfl (s_fieldAddr rfl fl_constraintref32_held_0 rfl rfl rfl rfl) ?_
           refine r_d rfl rfl rfl (s_load rfl rfl (by exact ty_int) rfl) ?_
           obtain ⟨r_19, hr_19, hr⟩ := bindS hr
           refine r_d rfl rfl rfl (s_callD rfl cl_constraintref32_apart (.cons rfl (Wk.refl _) (.cons rfl (Wk.refl _) (.cons rfl (Wk.refl _) .nil))) (lg_constraintref32_apart _ _ _ _ hr_19)) ?_
           refine r_d rfl rfl rfl (s_not rfl rfl) ?_
           refine r_d rfl rfl rfl (s_pickT rfl rfl rfl) ?_
           refine r_end ?_
           refine g_sB 175 rfl hr (fun h175_19 hr => ?_) (fun h175_19 hr => ?_)
           ·
            refine g_condT rfl ?_
            refine g_seq ?_
            refine g_run (by kernel_rfl) [(0, .d)] rfl ?_
            refine r_d rfl rfl rfl (s_assign rfl rfl) ?_
            refine r_end ?_
            obtain rfl := Option.some.inj hr
            refine g_ret Tryz.func33 _ (.cons (resTmp rfl (Wk.refl _)) .nil) ?_
            rfl
           ·
            refine g_condF rfl ?_
            refine g_skip ?_
            refine g_inBlock ?_
            refine g_run (by kernel_rfl) [(0, .d), (1, .d), (2, .d)] rfl ?_
            refine r_d rfl rfl rfl (s_move rfl rfl) ?_
            refine r_d rfl rfl rfl (s_ar (r := k_14 + 1) rfl rfl rfl rfl (by omega)) ?_
            refine r_d rfl rfl rfl (s_assign rfl rfl) ?_
            refine r_end ?_
            refine g_sub [(5, .ptr (enc_S_api_Block b_a2)), (8, .own u_13 (l_9.map enc_S_constraintref32_held)), (13, .int .i64 ((i_11 : Nat) : Int)), (14, .int .i64 (k_14 + 1))] (Sub.cons' rfl (Sub.cons' rfl (Sub.cons' rfl (Sub.cons' rfl (Sub.nil _))))) ?_
            exact IH2 _ _ _ (by omega) ⟨(k_14 + 1), u_13, _, rfl, rfl, rfl, hi2', hr⟩
          ·
           refine r_skip rfl rfl rfl ?_
           refine r_skip rfl rfl rfl ?_
           refine r_skip rfl rfl rfl ?_
           refine r_skip rfl rfl rfl ?_
           refine r_skip rfl rfl rfl ?_
           refine r_skip rfl rfl rfl ?_
           refine r_skip rfl rfl rfl ?_
           refine r_skip rfl rfl rfl ?_
           refine r_skip rfl rfl rfl ?_
           refine r_skip rfl rfl rfl ?_
           refine r_skip rfl rfl rfl ?_
           refine r_skip rfl rfl rfl ?_
           refine r_skip rfl rfl rfl ?_
           refine r_skip rfl rfl rfl ?_
           refine r_d rfl rfl rfl (s_pickF rfl rfl rfl) ?_
           refine r_end ?_
           refine g_condF rfl ?_
           refine g_skip ?_
           refine g_inBlock ?_
           refine g_run (by kernel_rfl) [(0, .d), (1, .d), (2, .d)] rfl ?_
           refine r_d rfl rfl rfl (s_move rfl rfl) ?_
           refine r_d rfl rfl rfl (s_ar (r := k_14 + 1) rfl rfl rfl rfl (by omega)) ?_
           refine r_d rfl rfl rfl (s_assign rfl rfl) ?_
           refine r_end ?_
           refine g_sub [(5, .ptr (enc_S_api_Block b_a2)), (8, .own u_13 (l_9.map enc_S_constraintref32_held)), (13, .int .i64 ((i_11 : Nat) : Int)), (14, .int .i64 (k_14 + 1))] (Sub.cons' rfl (Sub.cons' rfl (Sub.cons' rfl (Sub.cons' rfl (Sub.nil _))))) ?_
           exact IH2 _ _ _ (by omega) ⟨(k_14 + 1), u_13, _, rfl, rfl, rfl, hi2', hr⟩
         ·
          refine r_skip rfl rfl rfl ?_
          refine r_skip rfl rfl rfl ?_
          refine r_skip rfl rfl rfl ?_
          refine r_skip rfl rfl rfl ?_
          refine r_skip rfl rfl rfl ?_
          refine r_skip rfl rfl rfl ?_
          refine r_skip rfl rfl rfl ?_
          refine r_skip rfl rfl rfl ?_
          refine r_skip rfl rfl rfl ?_
          refine r_skip rfl rfl rfl ?_
          refine r_skip rfl rfl rfl ?_
          refine r_d rfl rfl rfl (s_pickF rfl rfl rfl) ?_
          refine r_d rfl rfl rfl (s_move rfl rfl) ?_
          refine r_skip rfl rfl rfl ?_
          refine r_skip rfl rfl rfl ?_
          refine r_skip rfl rfl rfl ?_
          refine r_skip rfl rfl rfl ?_
          refine r_skip rfl rfl rfl ?_
          refine r_skip rfl rfl rfl ?_
          refine r_skip rfl rfl rfl ?_
          refine r_skip rfl rfl rfl ?_
          refine r_skip rfl rfl rfl ?_
          refine r_skip rfl rfl rfl ?_
          refine r_skip rfl rfl rfl ?_
          refine r_skip rfl rfl rfl ?_
          refine r_skip rfl rfl rfl ?_
          refine r_skip rfl rfl rfl ?_
          refine r_d rfl rfl rfl (s_pickF rfl rfl rfl) ?_
          refine r_end ?_
          refine g_condF rfl ?_
          refine g_skip ?_
          refine g_inBlock ?_
          refine g_run (by kernel_rfl) [(0, .d), (1, .d), (2, .d)] rfl ?_
          refine r_d rfl rfl rfl (s_move rfl rfl) ?_
          refine r_d rfl rfl rfl (s_ar (r := k_14 + 1) rfl rfl rfl rfl (by omega)) ?_
          refine r_d rfl rfl rfl (s_assign rfl rfl) ?_
          refine r_end ?_
          refine g_sub [(5, .ptr (enc_S_api_Block b_a2)), (8, .own u_13 (l_9.map enc_S_constraintref32_held)), (13, .int .i64 ((i_11 : Nat) : Int)), (14, .int .i64 (k_14 + 1))] (Sub.cons' rfl (Sub.cons' rfl (Sub.cons' rfl (Sub.cons' rfl (Sub.nil _))))) ?_
          exact IH2 _ _ _ (by omega) ⟨(k_14 + 1), u_13, _, rfl, rfl, rfl, hi2', hr⟩
    ·
     refine g_sub [(3, .ptr (enc_S_api_Image m_a0)), (5, .ptr (enc_S_api_Block b_a2)), (8, .own u34_3 ([(⟨b_a2.f0_Occ.f1_Head, u_a1.f0_Name, u_a1.f1_Arity⟩ : S_constraintref32_held)].map enc_S_constraintref32_held)), (9, .int .i64 ((0 : Nat) : Int))] (Sub.cons' rfl (Sub.cons' rfl (Sub.cons' rfl (Sub.cons' rfl (Sub.nil _))))) ?_
     refine g_loop (fun n env σ => ∃ (l_6 : (List S_constraintref32_held)) (i_7 : Nat) (u_5 : Value), (n = b_a2.f1_Code.length - i_7) ∧ (env = [(3, .ptr (enc_S_api_Image m_a0)), (5, .ptr (enc_S_api_Block b_a2)), (8, .own u_5 (l_6.map enc_S_constraintref32_held)), (9, .int .i64 (i_7 : Int))]) ∧ (σ = [.row u_5 l_6.length 104 3]) ∧ (i_7 ≤ b_a2.f1_Code.length) ∧ (lf_constraintref32_block_L0 kk0 m_a0 (b_a2.f1_Code.drop i_7) l_6 = some res)) _ ⟨[(⟨b_a2.f0_Occ.f1_Head, u_a1.f0_Name, u_a1.f1_Arity⟩ : S_constraintref32_held)], 0, u34_3, rfl, rfl, rfl, Nat.zero_le _, hr⟩ ?_
     rintro n _ _ ⟨l_6, i_7, u_5, rfl, rfl, rfl, hi0, hr⟩ IH0
     rcases listStep b_a2.f1_Code i_7 hi0 with ⟨ht0, hd0, he0⟩ | ⟨q_21, ht0, hd0, hq0, hlt0⟩
     ·
      rw [hd0, lf_constraintref32_block_L0] at hr
      refine g_seq ?_
      refine g_seq ?_
      refine g_run (by kernel_rfl) [(0, .d), (1, .d), (2, .d), (3, .d), (4, .d)] rfl ?_
      refine r_d rfl rfl rfl (s_move rfl rfl) ?_
      refine r_d rfl rfl rfl (s_fieldAddr rfl fl_api_Block_1 rfl rfl (by simp [szs, sz, sz_S_api_Occ]) rfl) ?_
      refine r_d rfl rfl rfl (s_load rfl rfl (by exact ty_L_api_Instr) rfl) ?_
      refine r_d rfl rfl rfl (m_len (f := enc_S_api_Instr) b_a2.f1_Code rfl el_L_api_Instr rfl (asl rfl)) ?_
      refine r_d rfl rfl rfl (s_cmp rfl rfl rfl rfl) ?_
      refine r_end ?_
      refine g_known 39 false rfl ht0 ?_
      refine g_condF rfl ?_
      refine g_exit rfl ?_
      refine g_sub [(5, .ptr (enc_S_api_Block b_a2)), (8, .own u_5 (l_6.map enc_S_constraintref32_held))] (Sub.cons' rfl (Sub.cons' rfl (Sub.nil _))) ?_
      exact HK0 _ _ ⟨l_6, u_5, rfl, rfl, hr⟩
     ·
      rw [hd0, lf_constraintref32_block_L0] at hr
      refine g_seq ?_
      refine g_seq ?_
      refine g_run (by kernel_rfl) [(0, .d), (1, .d), (2, .d), (3, .d), (4, .d)] rfl ?_
      refine r_d rfl rfl rfl (s_move rfl rfl) ?_
      refine r_d rfl rfl rfl (s_fieldAddr rfl fl_api_Block_1 rfl rfl (by simp [szs, sz, sz_S_api_Occ]) rfl) ?_
      refine r_d rfl rfl rfl (s_load rfl rfl (by exact ty_L_api_Instr) rfl) ?_
      refine r_d rfl rfl rfl (m_len (f := enc_S_api_Instr) b_a2.f1_Code rfl el_L_api_Instr rfl (asl rfl)) ?_
      refine r_d rfl rfl rfl (s_cmp rfl rfl rfl rfl) ?_
      refine r_end ?_
      refine g_known 39 true rfl ht0 ?_
      refine g_condT rfl ?_
      refine g_skip ?_
      refine g_seq ?_
      refine g_block ?_
      refine g_seq ?_
      refine g_run (by kernel_rfl) [(0, .d), (1, .d), (2, .d), (3, .d), (4, .d), (5, .w), (6, .w)] rfl ?_
      refine r_d rfl rfl rfl (s_fieldAddr rfl fl_api_Block_1 rfl rfl (by simp [szs, sz, sz_S_api_Occ]) rfl) ?_
      refine r_d rfl rfl rfl (s_load rfl rfl (by exact ty_L_api_Instr) rfl) ?_
      refine r_d rfl rfl rfl (s_move rfl rfl) ?_
      refine r_d rfl rfl rfl (m_index (f := enc_S_api_Instr) b_a2.f1_Code rfl el_L_api_Instr rfl (asl rfl) rfl hq0 sz_S_api_Instr rfl) ?_
      refine r_d rfl rfl rfl (s_load rfl rfl (by exact ty_api_Instr) (sz_S_api_Instr _)) ?_
      refine r_w rfl rfl rfl (s_alloc rfl zv_api_Instr) ?_
      rintro _ _ ⟨b10_21, rfl, rfl⟩
      refine r_w01 rfl rfl rfl (t_store0 _ rfl rfl rfl (Wk.refl _) (pf0 _) (by exact ty_api_Instr) (sz_S_api_Instr _) (by simp [sz, szs, szs_fsT, sz_encG]) rfl) ?_
      refine r_end ?_
      refine g_freeze 10 b10_21 rfl (pf0 _) ?_
      refine g_seq ?_
      refine g_run (by kernel_rfl) [(0, .d), (1, .d)] rfl ?_
      refine r_d rfl rfl rfl (s_fieldAddr rfl fl_api_Instr_0 rfl rfl rfl rfl) ?_
      refine r_d rfl rfl rfl (s_load rfl rfl (by exact ty_int) rfl) ?_
      refine r_end ?_
      refine g_block ?_
      refine g_seq ?_
      refine g_run (by kernel_rfl) [(0, .d), (1, .d)] rfl ?_
      refine r_d rfl rfl rfl (s_cmp rfl rfl rfl rfl) ?_
      refine r_d rfl rfl rfl (s_assign rfl rfl) ?_
      refine r_end ?_
      refine g_sB 49 rfl hr (fun h49_22 hr => ?_) (fun h49_22 hr => ?_)
      ·
       refine g_condT rfl ?_
       refine g_seq ?_
       refine g_seq ?_
       refine g_run (by kernel_rfl) [(0, .d), (1, .d), (2, .d), (3, .d), (4, .d), (5, .d)] rfl ?_
       refine r_d rfl rfl rfl (s_fieldAddr rfl fl_api_Instr_2 rfl rfl rfl rfl) ?_
       refine r_d rfl rfl rfl (s_load rfl rfl (by exact ty_int) rfl) ?_
       refine r_d rfl rfl rfl (s_fieldAddr rfl fl_api_Image_1 rfl rfl rfl rfl) ?_
       refine r_d rfl rfl rfl (s_load rfl rfl (by exact ty_L_api_Access) rfl) ?_
       refine r_d rfl rfl rfl (m_len (f := enc_S_api_Access) m_a0.f1_Access rfl el_L_api_Access rfl (asl rfl)) ?_
       refine r_d rfl rfl rfl (s_cmp rfl rfl rfl rfl) ?_
       refine r_end ?_
       refine g_sB 56 rfl hr (fun h56_23 hr => ?_) (fun h56_23 hr => ?_)
       ·
        refine g_condT rfl ?_
        refine g_seq ?_
        refine g_run (by kernel_rfl) [(0, .d)] rfl ?_
        refine r_d rfl rfl rfl (s_assign rfl rfl) ?_
        refine r_end ?_
        obtain rfl := Option.some.inj hr
        refine g_ret Tryz.func33 _ (.cons (resTmp rfl (Wk.refl _)) .nil) ?_
        rfl
       ·
        refine g_condF rfl ?_
        refine g_skip ?_
        refine g_seq ?_
        refine g_run (by kernel_rfl) [(0, .d), (1, .d), (2, .d), (3, .d), (4, .d), (5, .d), (6, .w), (7, .w)] rfl ?_
        refine r_d rfl rfl rfl (s_fieldAddr rfl fl_api_Image_1 rfl rfl rfl rfl) ?_
        refine r_d rfl rfl rfl (s_load rfl rfl (by exact ty_L_api_Access) rfl) ?_
        refine r_d rfl rfl rfl (s_fieldAddr rfl fl_api_Instr_2 rfl rfl rfl rfl) ?_
        refine r_d rfl rfl rfl (s_load rfl rfl (by exact ty_int) rfl) ?_
        obtain ⟨q_25, hq_25, hr⟩ := bindS hr
        refine r_d rfl rfl rfl (m_index (f := enc_S_api_Access) m_a0.f1_Access rfl el_L_api_Access rfl (asl rfl) rfl hq_25 sz_S_api_Access rfl) ?_
        refine r_d rfl rfl rfl (s_load rfl rfl (by exact ty_api_Access) (sz_S_api_Access _)) ?_
        refine r_w rfl rfl rfl (s_alloc rfl zv_api_Access) ?_
        rintro _ _ ⟨b11_25, rfl, rfl⟩
        refine r_w01 rfl rfl rfl (t_store0 _ rfl rfl rfl (Wk.refl _) (pf0 _) (by exact ty_api_Access) (sz_S_api_Access _) rfl rfl) ?_
        refine r_end ?_
        refine g_freeze 11 b11_25 rfl (pf0 _) ?_
        refine g_seq ?_
        refine g_seq ?_
        refine g_run (by kernel_rfl) [(0, .d), (1, .d), (2, .d), (3, .d), (4, .d), (5, .d), (6, .d)] rfl ?_
        refine r_d rfl rfl rfl (s_fieldAddr rfl fl_api_Instr_4 rfl rfl (by simp [szs, sz, sz_encG]) rfl) ?_
        refine r_d rfl rfl rfl (s_load rfl rfl (by exact ty_L_api_Term) rfl) ?_
        refine r_d rfl rfl rfl (m_len (f := encT) q_21.f4_Terms rfl el_L_api_Term rfl (asl rfl)) ?_
        refine r_d rfl rfl rfl (s_fieldAddr rfl fl_api_Access_2 rfl rfl rfl rfl) ?_
        refine r_d rfl rfl rfl (s_load rfl rfl (by exact ty_L_int) rfl) ?_
        refine r_d rfl rfl rfl (m_len (f := (D.int .i64)) q_25.f2_Positions rfl el_L_int rfl (asl rfl)) ?_
        refine r_d rfl rfl rfl (s_cmp rfl rfl rfl rfl) ?_
        refine r_end ?_
        refine g_sB 69 rfl hr (fun h69_26 hr => ?_) (fun h69_26 hr => ?_)
        ·
         refine g_condT rfl ?_
         refine g_seq ?_
         refine g_run (by kernel_rfl) [(0, .d)] rfl ?_
         refine r_d rfl rfl rfl (s_assign rfl rfl) ?_
         refine r_end ?_
         obtain rfl := Option.some.inj hr
         refine g_ret Tryz.func33 _ (.cons (resTmp rfl (Wk.refl _)) .nil) ?_
         rfl
        ·
         refine g_condF rfl ?_
         refine g_skip ?_
         refine g_run (by kernel_rfl) [(0, .d), (1, .d), (2, .d), (3, .d), (4, .d), (5, .d), (6, .d), (7, .d), (8, .d), (9, .w), (10, .d)] rfl ?_
         refine r_d rfl rfl rfl (s_move rfl rfl) ?_
         refine r_d rfl rfl rfl (s_fieldAddr rfl fl_api_Instr_1 rfl rfl rfl rfl) ?_
         refine r_d rfl rfl rfl (s_load rfl rfl (by exact ty_int) rfl) ?_
         refine r_d rfl rfl rfl (s_fieldAddr rfl fl_api_Access_0 rfl rfl rfl rfl) ?_
         refine r_d rfl rfl rfl (s_load rfl rfl (by exact ty_string) rfl) ?_
         refine r_d rfl rfl rfl (s_fieldAddr rfl fl_api_Access_1 rfl rfl rfl rfl) ?_
         refine r_d rfl rfl rfl (s_load rfl rfl (by exact ty_int) rfl) ?_
         refine r_d rfl rfl rfl (s_build rfl bt_constraintref32_held (.cons rfl (Wk.refl _) (.cons rfl (Wk.refl _) (.cons rfl (Wk.refl _) .nil))) (.cons rfl rfl rfl (.cons rfl rfl rfl (.cons rfl rfl rfl (.nil _))))) ?_
         refine r_d rfl rfl rfl (m_lit (f := enc_S_constraintref32_held) [.tmp 77] [(⟨q_21.f1_A, q_25.f0_Name, q_25.f1_Arity⟩ : S_constraintref32_held)] rfl el_L_constraintref32_held rfl rfl (by decide) (by decide) (.cons rfl (Wk.refl _) .nil) sz_S_constraintref32_held (fun _ => rfl)) ?_
         obtain ⟨l_28, hl_28, hr⟩ := bindS hr
         refine r_w rfl rfl rfl (m_appOwn (f := enc_S_constraintref32_held) l_6 [(⟨q_21.f1_A, q_25.f0_Name, q_25.f1_Arity⟩ : S_constraintref32_held)] rfl el_L_constraintref32_held rfl rfl (asl rfl) (pf0 _) rfl sz_S_constraintref32_held hl_28) ?_
         rintro _ _ ⟨u79_28, rfl, rfl⟩
         refine r_d rfl rfl rfl (s_assign rfl rfl) ?_
         refine r_end ?_
         refine g_inBlock ?_
         refine g_inBlock ?_
         refine g_run (by kernel_rfl) [(0, .d), (1, .d), (2, .d)] rfl ?_
         refine r_d rfl rfl rfl (s_move rfl rfl) ?_
         refine r_d rfl rfl rfl (s_ar (r := ((i_7 + 1 : Nat) : Int)) rfl rfl rfl (by simp [iar]) (by omega)) ?_
         refine r_d rfl rfl rfl (s_assign rfl rfl) ?_
         refine r_end ?_
         refine g_sub [(3, .ptr (enc_S_api_Image m_a0)), (5, .ptr (enc_S_api_Block b_a2)), (8, .own u79_28 (l_28.map enc_S_constraintref32_held)), (9, .int .i64 ((i_7 + 1 : Nat) : Int))] (Sub.cons' rfl (Sub.cons' rfl (Sub.cons' rfl (Sub.cons' rfl (Sub.nil _))))) ?_
         exact IH0 _ _ _ (by omega) ⟨l_28, (i_7 + 1), u79_28, rfl, rfl, rfl, (by omega), hr⟩
      ·
       refine g_condF rfl ?_
       refine g_seq ?_
       refine g_run (by kernel_rfl) [(0, .d), (1, .d)] rfl ?_
       refine r_d rfl rfl rfl (s_cmp rfl rfl rfl rfl) ?_
       refine r_d rfl rfl rfl (s_assign rfl rfl) ?_
       refine r_end ?_
       refine g_sB 80 rfl hr (fun h80_29 hr => ?_) (fun h80_29 hr => ?_)
       ·
        refine g_condT rfl ?_
        refine g_seq ?_
        refine g_run (by kernel_rfl) [(0, .d)] rfl ?_
        refine r_d rfl rfl rfl (s_assign rfl rfl) ?_
        refine r_end ?_
        obtain ⟨kk3, hkk3, hr⟩ := exK (fun k => lf_constraintref32_block_L3 k q_21 l_6) hr
        refine g_len 8 rfl (asl rfl) fun hla3 => ?_
        simp only [List.length_map] at hla3
        refine g_blockJ (fun env σ => ∃ (u_33 : Value), env = [(3, .ptr (enc_S_api_Image m_a0)), (5, .ptr (enc_S_api_Block b_a2)), (8, .own u_33 (l_6.map enc_S_constraintref32_held)), (9, .int .i64 (i_7 : Int))] ∧ σ = [.row u_33 l_6.length 104 3] ∧ kk3 = some res) ?_ (fun HK3 => ?_)
        ·
         rintro _ _ ⟨u_33, rfl, rfl, hr⟩
         rw [hkk3] at hr
         refine g_inBlock ?_
         refine g_inBlock ?_
         refine g_run (by kernel_rfl) [(0, .d), (1, .d), (2, .d)] rfl ?_
         refine r_d rfl rfl rfl (s_move rfl rfl) ?_
         refine r_d rfl rfl rfl (s_ar (r := ((i_7 + 1 : Nat) : Int)) rfl rfl rfl (by simp [iar]) (by omega)) ?_
         refine r_d rfl rfl rfl (s_assign rfl rfl) ?_
         refine r_end ?_
         refine g_sub [(3, .ptr (enc_S_api_Image m_a0)), (5, .ptr (enc_S_api_Block b_a2)), (8, .own u_33 (l_6.map enc_S_constraintref32_held)), (9, .int .i64 ((i_7 + 1 : Nat) : Int))] (Sub.cons' rfl (Sub.cons' rfl (Sub.cons' rfl (Sub.cons' rfl (Sub.nil _))))) ?_
         exact IH0 _ _ _ (by omega) ⟨l_6, (i_7 + 1), u_33, rfl, rfl, rfl, (by omega), hr⟩
        ·
         refine g_sub [(3, .ptr (enc_S_api_Image m_a0)), (5, .ptr (enc_S_api_Block b_a2)), (8, .own u_5 (l_6.map enc_S_constraintref32_held)), (9, .int .i64 ((i_7 : Nat) : Int)), (10, .ptr (enc_S_api_Instr q_21)), (12, .int .i64 ((0 : Nat) : Int))] (Sub.cons' rfl (Sub.cons' rfl (Sub.cons' rfl (Sub.cons' rfl (Sub.cons' rfl (Sub.cons' rfl (Sub.nil _))))))) ?_
         refine g_loop (fun n env σ => ∃ (k_32 : Nat) (u_31 : Value), (n = l_6.length - k_32) ∧ (env = [(3, .ptr (enc_S_api_Image m_a0)), (5, .ptr (enc_S_api_Block b_a2)), (8, .own u_31 (l_6.map enc_S_constraintref32_held)), (9, .int .i64 (i_7 : Int)), (10, .ptr (enc_S_api_Instr q_21)), (12, .int .i64 (k_32 : Int))]) ∧ (σ = [.row u_31 l_6.length 104 3]) ∧ (k_32 ≤ l_6.length) ∧ (lf_constraintref32_block_L3 kk3 q_21 (l_6.drop k_32) = some res)) _ ⟨0, u_5, rfl, rfl, rfl, Nat.zero_le _, hr⟩ ?_
         rintro n _ _ ⟨k_32, u_31, rfl, rfl, rfl, hi3, hr⟩ IH3
         rcases listStep l_6 k_32 hi3 with ⟨ht3, hd3, he3⟩ | ⟨q_34, ht3, hd3, hq3, hlt3⟩
         ·
          rw [hd3, lf_constraintref32_block_L3] at hr
          refine g_seq ?_
          refine g_seq ?_
          refine g_run (by kernel_rfl) [(0, .d), (1, .d), (2, .d), (3, .d)] rfl ?_
          refine r_d rfl rfl rfl (s_move rfl rfl) ?_
          refine r_d rfl rfl rfl (s_move rfl rfl) ?_
          refine r_d rfl rfl rfl (m_len (f := enc_S_constraintref32_held) l_6 rfl el_L_constraintref32_held rfl (asl rfl)) ?_
          refine r_d rfl rfl rfl (s_cmp rfl rfl rfl rfl) ?_
          refine r_end ?_
          refine g_known 85 false rfl ht3 ?_
          refine g_condF rfl ?_
          refine g_exit rfl ?_
          refine g_sub [(3, .ptr (enc_S_api_Image m_a0)), (5, .ptr (enc_S_api_Block b_a2)), (8, .own u_31 (l_6.map enc_S_constraintref32_held)), (9, .int .i64 (i_7 : Int))] (Sub.cons' rfl (Sub.cons' rfl (Sub.cons' rfl (Sub.cons' rfl (Sub.nil _))))) ?_
          exact HK3 _ _ ⟨u_31, rfl, rfl, hr⟩
         ·
          rw [hd3, lf_constraintref32_block_L3] at hr
          refine g_seq ?_
          refine g_seq ?_
          refine g_run (by kernel_rfl) [(0, .d), (1, .d), (2, .d), (3, .d)] rfl ?_
          refine r_d rfl rfl rfl (s_move rfl rfl) ?_
          refine r_d rfl rfl rfl (s_move rfl rfl) ?_
          refine r_d rfl rfl rfl (m_len (f := enc_S_constraintref32_held) l_6 rfl el_L_constraintref32_held rfl (asl rfl)) ?_
          refine r_d rfl rfl rfl (s_cmp rfl rfl rfl rfl) ?_
          refine r_end ?_
          refine g_known 85 true rfl ht3 ?_
          refine g_condT rfl ?_
          refine g_skip ?_
          refine g_seq ?_
          refine g_block ?_
          refine g_seq ?_
          refine g_any (by kernel_rfl) (by kernel_rfl) [(0, .d), (1, .d), (2, .d), (3, .d), (4, .d), (5, .d), (6, .d), (7, .d), (8, .d), (9, .d), (10, .d), (11, .d), (12, .d), (13, .d), (14, .d), (15, .d), (16, .d), (17, .d)] (by kernel_rfl) ?_
          refine r_d rfl rfl rfl (s_move rfl rfl) ?_
          refine r_d rfl rfl rfl (s_move rfl rfl) ?_
          refine r_d rfl rfl rfl (m_index (f := enc_S_constraintref32_held) l_6 rfl el_L_constraintref32_held rfl (asl rfl) rfl hq3 sz_S_constraintref32_held rfl) ?_
          refine r_d rfl rfl rfl (s_fieldAddr rfl fl_constraintref32_held_0 rfl rfl rfl rfl) ?_
          refine r_d rfl rfl rfl (s_load rfl rfl (by exact ty_int) rfl) ?_
          refine r_d rfl rfl rfl (s_fieldAddr rfl fl_api_Instr_1 rfl rfl rfl rfl) ?_
          refine r_d rfl rfl rfl (s_load rfl rfl (by exact ty_int) rfl) ?_
          refine r_d rfl rfl rfl (s_cmp rfl rfl rfl rfl) ?_
          refine r_d rfl rfl rfl (s_move rfl rfl) ?_
          refine r_sB 96 rfl hr (fun h96_34 hr => ?_) (fun h96_34 hr => ?_)
          ·
           refine r_d rfl rfl rfl (s_fieldAddr rfl fl_api_Instr_2 rfl rfl rfl rfl) ?_
           refine r_d rfl rfl rfl (s_load rfl rfl (by exact ty_int) rfl) ?_
           refine r_d rfl rfl rfl (s_move rfl rfl) ?_
           refine r_d rfl rfl rfl (s_move rfl rfl) ?_
           refine r_d rfl rfl rfl (m_index (f := enc_S_constraintref32_held) l_6 rfl el_L_constraintref32_held rfl (asl rfl) rfl hq3 sz_S_constraintref32_held rfl) ?_
           refine r_d rfl rfl rfl (s_fieldAddr rfl fl_constraintref32_held_2 rfl rfl rfl rfl) ?_
           refine r_d rfl rfl rfl (s_load rfl rfl (by exact ty_int) rfl) ?_
           refine r_d rfl rfl rfl (s_cmp rfl rfl rfl rfl) ?_
           refine r_d rfl rfl rfl (s_pickT rfl rfl rfl) ?_
           refine r_end ?_
           refine g_sB 105 rfl hr (fun h105_35 hr => ?_) (fun h105_35 hr => ?_)
           ·
            refine g_condT rfl ?_
            refine g_seq ?_
            refine g_run (by kernel_rfl) [(0, .d)] rfl ?_
            refine r_d rfl rfl rfl (s_assign rfl rfl) ?_
            refine r_end ?_
            obtain rfl := Option.some.inj hr
            refine g_ret Tryz.func33 _ (.cons (resTmp rfl (Wk.refl _)) .nil) ?_
            rfl
           ·
            refine g_condF rfl ?_
            refine g_skip ?_
            refine g_inBlock ?_
            refine g_run (by kernel_rfl) [(0, .d), (1, .d), (2, .d)] rfl ?_
            refine r_d rfl rfl rfl (s_move rfl rfl) ?_
            refine r_d rfl rfl rfl (s_ar (r := ((k_32 + 1 : Nat) : Int)) rfl rfl rfl (by simp [iar]) (by omega)) ?_
            refine r_d rfl rfl rfl (s_assign rfl rfl) ?_
            refine r_end ?_
            refine g_sub [(3, .ptr (enc_S_api_Image m_a0)), (5, .ptr (enc_S_api_Block b_a2)), (8, .own u_31 (l_6.map enc_S_constraintref32_held)), (9, .int .i64 ((i_7 : Nat) : Int)), (10, .ptr (enc_S_api_Instr q_21)), (12, .int .i64 ((k_32 + 1 : Nat) : Int))] (Sub.cons' rfl (Sub.cons' rfl (Sub.cons' rfl (Sub.cons' rfl (Sub.cons' rfl (Sub.cons' rfl (Sub.nil _))))))) ?_
            exact IH3 _ _ _ (by omega) ⟨(k_32 + 1), u_31, rfl, rfl, rfl, (by omega), hr⟩
          ·
           refine r_skip rfl rfl rfl ?_
           refine r_skip rfl rfl rfl ?_
           refine r_skip rfl rfl rfl ?_
           refine r_skip rfl rfl rfl ?_
           refine r_skip rfl rfl rfl ?_
           refine r_skip rfl rfl rfl ?_
           refine r_skip rfl rfl rfl ?_
           refine r_skip rfl rfl rfl ?_
           refine r_d rfl rfl rfl (s_pickF rfl rfl rfl) ?_
           refine r_end ?_
           refine g_condF rfl ?_
           refine g_skip ?_
           refine g_inBlock ?_
           refine g_run (by kernel_rfl) [(0, .d), (1, .d), (2, .d)] rfl ?_
           refine r_d rfl rfl rfl (s_move rfl rfl) ?_
           refine r_d rfl rfl rfl (s_ar (r := ((k_32 + 1 : Nat) : Int)) rfl rfl rfl (by simp [iar]) (by omega)) ?_
           refine r_d rfl rfl rfl (s_assign rfl rfl) ?_
           refine r_end ?_
           refine g_sub [(3, .ptr (enc_S_api_Image m_a0)), (5, .ptr (enc_S_api_Block b_a2)), (8, .own u_31 (l_6.map enc_S_constraintref32_held)), (9, .int .i64 ((i_7 : Nat) : Int)), (10, .ptr (enc_S_api_Instr q_21)), (12, .int .i64 ((k_32 + 1 : Nat) : Int))] (Sub.cons' rfl (Sub.cons' rfl (Sub.cons' rfl (Sub.cons' rfl (Sub.cons' rfl (Sub.cons' rfl (Sub.nil _))))))) ?_
           exact IH3 _ _ _ (by omega) ⟨(k_32 + 1), u_31, rfl, rfl, rfl, (by omega), hr⟩
       ·
        refine g_condF rfl ?_
        refine g_seq ?_
        refine g_run (by kernel_rfl) [(0, .d), (1, .d)] rfl ?_
        refine r_d rfl rfl rfl (s_cmp rfl rfl rfl rfl) ?_
        refine r_d rfl rfl rfl (s_assign rfl rfl) ?_
        refine r_end ?_
        refine g_sB 106 rfl hr (fun h106_36 hr => ?_) (fun h106_36 hr => ?_)
        ·
         refine g_condT rfl ?_
         refine g_seq ?_
         refine g_run (by kernel_rfl) [(0, .d), (1, .d), (2, .d), (3, .d), (4, .d), (5, .d), (6, .d), (7, .d), (8, .d), (9, .d), (10, .d), (11, .d), (12, .d), (13, .d), (14, .d), (15, .d), (16, .d)] rfl ?_
         refine r_d rfl rfl rfl (s_fieldAddr rfl fl_api_Instr_3 rfl rfl rfl rfl) ?_
         refine r_d rfl rfl rfl (s_fieldAddr rfl fl_api_Goal_0 rfl rfl rfl rfl) ?_
         refine r_d rfl rfl rfl (s_load rfl rfl (by exact ty_int) rfl) ?_
         refine r_d rfl rfl rfl (s_cmp rfl rfl rfl rfl) ?_
         refine r_d rfl rfl rfl (s_move rfl rfl) ?_
         refine r_sB 112 rfl hr (fun h112_37 hr => ?_) (fun h112_37 hr => ?_)
         ·
          refine r_d rfl rfl rfl (s_fieldAddr rfl fl_api_Image_0 rfl rfl rfl rfl) ?_
          refine r_d rfl rfl rfl (s_load rfl rfl (by exact ty_L_api_Unit) rfl) ?_
          refine r_d rfl rfl rfl (s_fieldAddr rfl fl_api_Instr_3 rfl rfl rfl rfl) ?_
          refine r_d rfl rfl rfl (s_fieldAddr rfl fl_api_Goal_1 rfl rfl rfl rfl) ?_
          refine r_d rfl rfl rfl (s_load rfl rfl (by exact ty_string) rfl) ?_
          refine r_d rfl rfl rfl (s_fieldAddr rfl fl_api_Instr_3 rfl rfl rfl rfl) ?_
          refine r_d rfl rfl rfl (s_fieldAddr rfl fl_api_Goal_2 rfl rfl rfl rfl) ?_
          refine r_d rfl rfl rfl (s_load rfl rfl (by exact ty_L_api_Term) rfl) ?_
          refine r_d rfl rfl rfl (m_len (f := encT) q_21.f3_Goal.ts rfl el_L_api_Term rfl (asl rfl)) ?_
          obtain ⟨r_39, hr_39, hr⟩ := bindS hr
          refine r_d rfl rfl rfl (s_callD rfl cl_constraintref32_Unit (.cons rfl (Wk.refl _) (.cons rfl (Wk.refl _) (.cons rfl (Wk.refl _) .nil))) (lg_constraintref32_Unit _ _ _ _ hr_39)) ?_
          refine r_d rfl rfl rfl (s_not rfl rfl) ?_
          refine r_d rfl rfl rfl (s_pickT rfl rfl rfl) ?_
          refine r_end ?_
          refine g_sB 124 rfl hr (fun h124_39 hr => ?_) (fun h124_39 hr => ?_)
          ·
           refine g_condT rfl ?_
           refine g_seq ?_
           refine g_run (by kernel_rfl) [(0, .d)] rfl ?_
           refine r_d rfl rfl rfl (s_assign rfl rfl) ?_
           refine r_end ?_
           obtain rfl := Option.some.inj hr
           refine g_ret Tryz.func33 _ (.cons (resTmp rfl (Wk.refl _)) .nil) ?_
           rfl
          ·
           refine g_condF rfl ?_
           refine g_skip ?_
           refine g_inBlock ?_
           refine g_inBlock ?_
           refine g_run (by kernel_rfl) [(0, .d), (1, .d), (2, .d)] rfl ?_
           refine r_d rfl rfl rfl (s_move rfl rfl) ?_
           refine r_d rfl rfl rfl (s_ar (r := ((i_7 + 1 : Nat) : Int)) rfl rfl rfl (by simp [iar]) (by omega)) ?_
           refine r_d rfl rfl rfl (s_assign rfl rfl) ?_
           refine r_end ?_
           refine g_sub [(3, .ptr (enc_S_api_Image m_a0)), (5, .ptr (enc_S_api_Block b_a2)), (8, .own u_5 (l_6.map enc_S_constraintref32_held)), (9, .int .i64 ((i_7 + 1 : Nat) : Int))] (Sub.cons' rfl (Sub.cons' rfl (Sub.cons' rfl (Sub.cons' rfl (Sub.nil _))))) ?_
           exact IH0 _ _ _ (by omega) ⟨l_6, (i_7 + 1), u_5, rfl, rfl, rfl, (by omega), hr⟩
         ·
          refine r_skip rfl rfl rfl ?_
          refine r_skip rfl rfl rfl ?_
          refine r_skip rfl rfl rfl ?_
          refine r_skip rfl rfl rfl ?_
          refine r_skip rfl rfl rfl ?_
          refine r_skip rfl rfl rfl ?_
          refine r_skip rfl rfl rfl ?_
          refine r_skip rfl rfl rfl ?_
          refine r_skip rfl rfl rfl ?_
          refine r_skip rfl rfl rfl ?_
          refine r_skip rfl rfl rfl ?_
          refine r_d rfl rfl rfl (s_pickF rfl rfl rfl) ?_
          refine r_end ?_
          refine g_condF rfl ?_
          refine g_skip ?_
          refine g_inBlock ?_
          refine g_inBlock ?_
          refine g_run (by kernel_rfl) [(0, .d), (1, .d), (2, .d)] rfl ?_
          refine r_d rfl rfl rfl (s_move rfl rfl) ?_
          refine r_d rfl rfl rfl (s_ar (r := ((i_7 + 1 : Nat) : Int)) rfl rfl rfl (by simp [iar]) (by omega)) ?_
          refine r_d rfl rfl rfl (s_assign rfl rfl) ?_
          refine r_end ?_
          refine g_sub [(3, .ptr (enc_S_api_Image m_a0)), (5, .ptr (enc_S_api_Block b_a2)), (8, .own u_5 (l_6.map enc_S_constraintref32_held)), (9, .int .i64 ((i_7 + 1 : Nat) : Int))] (Sub.cons' rfl (Sub.cons' rfl (Sub.cons' rfl (Sub.cons' rfl (Sub.nil _))))) ?_
          exact IH0 _ _ _ (by omega) ⟨l_6, (i_7 + 1), u_5, rfl, rfl, rfl, (by omega), hr⟩
        ·
         refine g_condF rfl ?_
         refine g_skip ?_
         refine g_inBlock ?_
         refine g_inBlock ?_
         refine g_run (by kernel_rfl) [(0, .d), (1, .d), (2, .d)] rfl ?_
         refine r_d rfl rfl rfl (s_move rfl rfl) ?_
         refine r_d rfl rfl rfl (s_ar (r := ((i_7 + 1 : Nat) : Int)) rfl rfl rfl (by simp [iar]) (by omega)) ?_
         refine r_d rfl rfl rfl (s_assign rfl rfl) ?_
         refine r_end ?_
         refine g_sub [(3, .ptr (enc_S_api_Image m_a0)), (5, .ptr (enc_S_api_Block b_a2)), (8, .own u_5 (l_6.map enc_S_constraintref32_held)), (9, .int .i64 ((i_7 + 1 : Nat) : Int))] (Sub.cons' rfl (Sub.cons' rfl (Sub.cons' rfl (Sub.cons' rfl (Sub.nil _))))) ?_
         exact IH0 _ _ _ (by omega) ⟨l_6, (i_7 + 1), u_5, rfl, rfl, rfl, (by omega), hr⟩

noncomputable def lf_constraintref32_CheckImage_L2 (k : (Int) → Option (Int)) (m_a0 : S_api_Image) (q_11 : S_api_Unit) : List S_api_Block → Int → Option (Int)
  | [], e_13 =>
  (k e_13)
  | q_16 :: rest, e_13 =>
  (bif (e_13 == (0 : Int)) then
  ((lf_constraintref32_block m_a0 q_11 q_16).bind fun r_18 =>
  (lf_constraintref32_CheckImage_L2 k m_a0 q_11 rest r_18))
  else
  (k e_13))

noncomputable def lf_constraintref32_CheckImage_L1 (k : (Int) → Option (Int)) (m_a0 : S_api_Image) : List S_api_Unit → Int → Option (Int)
  | [], e_8 =>
  (k e_8)
  | q_11 :: rest, e_8 =>
  (bif (e_8 == (0 : Int)) then
  (lf_constraintref32_CheckImage_L2 (fun e_15 =>
  (lf_constraintref32_CheckImage_L1 k m_a0 rest e_15)) m_a0 q_11 q_11.f2_Blocks e_8)
  else
  (k e_8))

noncomputable def lf_constraintref32_CheckImage_J0 (k : (Int) → Option (Int)) (m_a0 : S_api_Image) (r_6 : Int) : Option (Int) :=
  (bif (r_6 == (0 : Int)) then
  ((lf_constraintref32_units m_a0.f0_Units).bind fun r_20 =>
  (k r_20))
  else
  (k r_6))

noncomputable def lf_constraintref32_CheckImage_L0 (k : Option (Int)) : List S_api_Unit → Option (Int)
  | [] =>
  k
  | q_21 :: rest =>
  (bif (decide ((q_21.f2_Blocks.length : Int) > (160 : Int))) then
  some (6)
  else
  (lf_constraintref32_CheckImage_L0 k rest))
noncomputable def lf_constraintref32_CheckImage (m_a0 : S_api_Image) : Option (Int) :=
  (bif (decide (m_a0.f2_Rules < (0 : Int))) then
  some (5)
  else
  (bif (decide (m_a0.f2_Rules > (40 : Int))) then
  some (5)
  else
  (bif (decide ((m_a0.f0_Units.length : Int) > (30 : Int))) then
  some (6)
  else
  (bif (decide ((m_a0.f1_Access.length : Int) > (480 : Int))) then
  some (6)
  else
  (lf_constraintref32_CheckImage_L0 (((lf_constraintref32_access m_a0.f1_Access).bind fun r_6 =>
  (lf_constraintref32_CheckImage_J0 (fun e_7 =>
  (lf_constraintref32_CheckImage_L1 (fun e_10 =>
  some (e_10)) m_a0 m_a0.f0_Units e_7)) m_a0 r_6))) m_a0.f0_Units)))))

set_option maxHeartbeats 1000000 in
theorem lg_constraintref32_CheckImage (m_a0 : S_api_Image) (res : Int) (hr : lf_constraintref32_CheckImage m_a0 = some res) : Gives Tryz.prog 11 [enc_S_api_Image m_a0] (.int .i64 res) := by
  unfold lf_constraintref32_CheckImage at hr
  refine spec_env [(0, enc_S_api_Image m_a0)] Tryz.func11 rfl rfl fun K hK => ?_
  refine g_seq ?_
  refine g_run (by kernel_rfl) [(0, .d), (1, .d)] rfl ?_
  refine r_d rfl rfl rfl (s_box rfl rfl rfl) ?_
  refine r_d rfl rfl rfl (s_assign rfl rfl) ?_
  refine r_end ?_
  refine g_seq ?_
  refine g_seq ?_
  refine g_run (by kernel_rfl) [(0, .d), (1, .d), (2, .d), (3, .d), (4, .d), (5, .d), (6, .d), (7, .d)] rfl ?_
  refine r_d rfl rfl rfl (s_fieldAddr rfl fl_api_Image_2 rfl rfl rfl rfl) ?_
  refine r_d rfl rfl rfl (s_load rfl rfl (by exact ty_int) rfl) ?_
  refine r_d rfl rfl rfl (s_cmp rfl rfl rfl rfl) ?_
  refine r_d rfl rfl rfl (s_move rfl rfl) ?_
  refine r_sB 10 rfl hr (fun h10_0 hr => ?_) (fun h10_0 hr => ?_)
  ·
   refine r_skip rfl rfl rfl ?_
   refine r_skip rfl rfl rfl ?_
   refine r_skip rfl rfl rfl ?_
   refine r_d rfl rfl rfl (s_pickT rfl rfl rfl) ?_
   refine r_end ?_
   refine g_condT rfl ?_
   refine g_seq ?_
   refine g_run (by kernel_rfl) [(0, .d)] rfl ?_
   refine r_d rfl rfl rfl (s_assign rfl rfl) ?_
   refine r_end ?_
   obtain rfl := Option.some.inj hr
   refine g_ret Tryz.func11 _ (.cons (resTmp rfl (Wk.refl _)) .nil) ?_
   rfl
  ·
   refine r_d rfl rfl rfl (s_fieldAddr rfl fl_api_Image_2 rfl rfl rfl rfl) ?_
   refine r_d rfl rfl rfl (s_load rfl rfl (by exact ty_int) rfl) ?_
   refine r_d rfl rfl rfl (s_cmp rfl rfl rfl rfl) ?_
   refine r_d rfl rfl rfl (s_pickF rfl rfl rfl) ?_
   refine r_end ?_
   refine g_sB 14 rfl hr (fun h14_1 hr => ?_) (fun h14_1 hr => ?_)
   ·
    refine g_condT rfl ?_
    refine g_seq ?_
    refine g_run (by kernel_rfl) [(0, .d)] rfl ?_
    refine r_d rfl rfl rfl (s_assign rfl rfl) ?_
    refine r_end ?_
    obtain rfl := Option.some.inj hr
    refine g_ret Tryz.func11 _ (.cons (resTmp rfl (Wk.refl _)) .nil) ?_
    rfl
   ·
    refine g_condF rfl ?_
    refine g_skip ?_
    refine g_seq ?_
    refine g_seq ?_
    refine g_run (by kernel_rfl) [(0, .d), (1, .d), (2, .d), (3, .d), (4, .d), (5, .d), (6, .d), (7, .d), (8, .d), (9, .d)] rfl ?_
    refine r_d rfl rfl rfl (s_fieldAddr rfl fl_api_Image_0 rfl rfl rfl rfl) ?_
    refine r_d rfl rfl rfl (s_load rfl rfl (by exact ty_L_api_Unit) rfl) ?_
    refine r_d rfl rfl rfl (m_len (f := enc_S_api_Unit) m_a0.f0_Units rfl el_L_api_Unit rfl (asl rfl)) ?_
    refine r_d rfl rfl rfl (s_cmp rfl rfl rfl rfl) ?_
    refine r_d rfl rfl rfl (s_move rfl rfl) ?_
    refine r_sB 19 rfl hr (fun h19_2 hr => ?_) (fun h19_2 hr => ?_)
    ·
     refine r_skip rfl rfl rfl ?_
     refine r_skip rfl rfl rfl ?_
     refine r_skip rfl rfl rfl ?_
     refine r_skip rfl rfl rfl ?_
     refine r_d rfl rfl rfl (s_pickT rfl rfl rfl) ?_
     refine r_end ?_
     refine g_condT rfl ?_
     refine g_seq ?_
     refine g_run (by kernel_rfl) [(0, .d)] rfl ?_
     refine r_d rfl rfl rfl (s_assign rfl rfl) ?_
     refine r_end ?_
     obtain rfl := Option.some.inj hr
     refine g_ret Tryz.func11 _ (.cons (resTmp rfl (Wk.refl _)) .nil) ?_
     rfl
    ·
     refine r_d rfl rfl rfl (s_fieldAddr rfl fl_api_Image_1 rfl rfl rfl rfl) ?_
     refine r_d rfl rfl rfl (s_load rfl rfl (by exact ty_L_api_Access) rfl) ?_
     refine r_d rfl rfl rfl (m_len (f := enc_S_api_Access) m_a0.f1_Access rfl el_L_api_Access rfl (asl rfl)) ?_
     refine r_d rfl rfl rfl (s_cmp rfl rfl rfl rfl) ?_
     refine r_d rfl rfl rfl (s_pickF rfl rfl rfl) ?_
     refine r_end ?_
     refine g_sB 24 rfl hr (fun h24_3 hr => ?_) (fun h24_3 hr => ?_)
     ·
      refine g_condT rfl ?_
      refine g_seq ?_
      refine g_run (by kernel_rfl) [(0, .d)] rfl ?_
      refine r_d rfl rfl rfl (s_assign rfl rfl) ?_
      refine r_end ?_
      obtain rfl := Option.some.inj hr
      refine g_ret Tryz.func11 _ (.cons (resTmp rfl (Wk.refl _)) .nil) ?_
      rfl
     ·
      refine g_condF rfl ?_
      refine g_skip ?_
      refine g_seq ?_
      refine g_seq ?_
      refine g_run (by kernel_rfl) [(0, .d)] rfl ?_
      refine r_d rfl rfl rfl (s_assign rfl rfl) ?_
      refine r_end ?_
      obtain ⟨kk0, hkk0, hr⟩ := exK (fun k => lf_constraintref32_CheckImage_L0 k m_a0.f0_Units) hr
      refine g_len 16 rfl (asl rfl) fun hla0 => ?_
      simp only [List.length_map] at hla0
      refine g_blockJ (fun env σ => env = [(1, .ptr (enc_S_api_Image m_a0))] ∧ σ = [] ∧ kk0 = some res) ?_ (fun HK0 => ?_)
      ·
       rintro _ _ ⟨rfl, rfl, hr⟩
       rw [hkk0] at hr
       refine g_seq ?_
       refine g_run (by kernel_rfl) [(0, .d), (1, .d), (2, .d), (3, .d)] rfl ?_
       refine r_d rfl rfl rfl (s_fieldAddr rfl fl_api_Image_1 rfl rfl rfl rfl) ?_
       refine r_d rfl rfl rfl (s_load rfl rfl (by exact ty_L_api_Access) rfl) ?_
       obtain ⟨r_6, hr_6, hr⟩ := bindS hr
       refine r_d rfl rfl rfl (s_callD rfl cl_constraintref32_access (.cons rfl (Wk.refl _) .nil) (lg_constraintref32_access _ _ hr_6)) ?_
       refine r_d rfl rfl rfl (s_assign rfl rfl) ?_
       refine r_end ?_
       obtain ⟨kkJ0, hkkJ0, hr⟩ := exK (fun k => lf_constraintref32_CheckImage_J0 k m_a0 r_6) hr
       refine g_seqJ (fun env σ => ∃ (e_7 : Int), env = [(1, .ptr (enc_S_api_Image m_a0)), (4, .int .i64 e_7)] ∧ σ = [] ∧ kkJ0 e_7 = some res) ?_ (fun HKJ0 => ?_)
       ·
        rintro _ _ ⟨e_7, rfl, rfl, hr⟩
        rw [hkkJ0] at hr
        refine g_seq ?_
        refine g_seq ?_
        refine g_run (by kernel_rfl) [(0, .d)] rfl ?_
        refine r_d rfl rfl rfl (s_assign rfl rfl) ?_
        refine r_end ?_
        obtain ⟨kk1, hkk1, hr⟩ := exK (fun k => lf_constraintref32_CheckImage_L1 k m_a0 m_a0.f0_Units e_7) hr
        refine g_lenP 1 [0] (l := m_a0.f0_Units.map enc_S_api_Unit) rfl rfl (asl rfl) fun hla1 => ?_
        simp only [List.length_map] at hla1
        refine g_blockJ (fun env σ => ∃ (e_10 : Int), env = [(4, .int .i64 e_10)] ∧ σ = [] ∧ kk1 e_10 = some res) ?_ (fun HK1 => ?_)
        ·
         rintro _ _ ⟨e_10, rfl, rfl, hr⟩
         rw [hkk1] at hr
         refine g_seq ?_
         refine g_run (by kernel_rfl) [(0, .d), (1, .d)] rfl ?_
         refine r_d rfl rfl rfl (s_move rfl rfl) ?_
         refine r_d rfl rfl rfl (s_assign rfl rfl) ?_
         refine r_end ?_
         obtain rfl := Option.some.inj hr
         refine g_ret Tryz.func11 _ (.cons (resTmp rfl (Wk.refl _)) .nil) ?_
         rfl
        ·
         refine g_sub [(1, .ptr (enc_S_api_Image m_a0)), (4, .int .i64 e_7), (5, .int .i64 ((0 : Nat) : Int))] (Sub.cons' rfl (Sub.cons' rfl (Sub.cons' rfl (Sub.nil _)))) ?_
         refine g_loop (fun n env σ => ∃ (e_8 : Int) (i_9 : Nat), (n = m_a0.f0_Units.length - i_9) ∧ (env = [(1, .ptr (enc_S_api_Image m_a0)), (4, .int .i64 e_8), (5, .int .i64 (i_9 : Int))]) ∧ (σ = []) ∧ (i_9 ≤ m_a0.f0_Units.length) ∧ (lf_constraintref32_CheckImage_L1 kk1 m_a0 (m_a0.f0_Units.drop i_9) e_8 = some res)) _ ⟨e_7, 0, rfl, rfl, rfl, Nat.zero_le _, hr⟩ ?_
         rintro n _ _ ⟨e_8, i_9, rfl, rfl, rfl, hi1, hr⟩ IH1
         rcases listStep m_a0.f0_Units i_9 hi1 with ⟨ht1, hd1, he1⟩ | ⟨q_11, ht1, hd1, hq1, hlt1⟩
         ·
          rw [hd1, lf_constraintref32_CheckImage_L1] at hr
          refine g_seq ?_
          refine g_seq ?_
          refine g_run (by kernel_rfl) [(0, .d), (1, .d), (2, .d), (3, .d), (4, .d), (5, .d), (6, .d), (7, .d), (8, .d)] rfl ?_
          refine r_d rfl rfl rfl (s_move rfl rfl) ?_
          refine r_d rfl rfl rfl (s_fieldAddr rfl fl_api_Image_0 rfl rfl rfl rfl) ?_
          refine r_d rfl rfl rfl (s_load rfl rfl (by exact ty_L_api_Unit) rfl) ?_
          refine r_d rfl rfl rfl (m_len (f := enc_S_api_Unit) m_a0.f0_Units rfl el_L_api_Unit rfl (asl rfl)) ?_
          refine r_d rfl rfl rfl (s_cmp rfl rfl rfl rfl) ?_
          refine r_d rfl rfl rfl (s_move rfl rfl) ?_
          refine r_known 53 false rfl ht1 ?_
          refine r_skip rfl rfl rfl ?_
          refine r_skip rfl rfl rfl ?_
          refine r_d rfl rfl rfl (s_pickF rfl rfl rfl) ?_
          refine r_end ?_
          refine g_condF rfl ?_
          refine g_exit rfl ?_
          refine g_sub [(4, .int .i64 e_8)] (Sub.cons' rfl (Sub.nil _)) ?_
          exact HK1 _ _ ⟨e_8, rfl, rfl, hr⟩
         ·
          rw [hd1, lf_constraintref32_CheckImage_L1] at hr
          refine g_seq ?_
          refine g_seq ?_
          refine g_run (by kernel_rfl) [(0, .d), (1, .d), (2, .d), (3, .d), (4, .d), (5, .d), (6, .d), (7, .d), (8, .d)] rfl ?_
          refine r_d rfl rfl rfl (s_move rfl rfl) ?_
          refine r_d rfl rfl rfl (s_fieldAddr rfl fl_api_Image_0 rfl rfl rfl rfl) ?_
          refine r_d rfl rfl rfl (s_load rfl rfl (by exact ty_L_api_Unit) rfl) ?_
          refine r_d rfl rfl rfl (m_len (f := enc_S_api_Unit) m_a0.f0_Units rfl el_L_api_Unit rfl (asl rfl)) ?_
          refine r_d rfl rfl rfl (s_cmp rfl rfl rfl rfl) ?_
          refine r_d rfl rfl rfl (s_move rfl rfl) ?_
          refine r_known 53 true rfl ht1 ?_
          refine r_d rfl rfl rfl (s_move rfl rfl) ?_
          refine r_d rfl rfl rfl (s_cmp rfl rfl rfl rfl) ?_
          refine r_d rfl rfl rfl (s_pickT rfl rfl rfl) ?_
          refine r_end ?_
          refine g_sB 56 rfl hr (fun h56_11 hr => ?_) (fun h56_11 hr => ?_)
          ·
           refine g_condT rfl ?_
           refine g_skip ?_
           refine g_seq ?_
           refine g_block ?_
           refine g_seq ?_
           refine g_run (by kernel_rfl) [(0, .d)] rfl ?_
           refine r_d rfl rfl rfl (s_assign rfl rfl) ?_
           refine r_end ?_
           obtain ⟨kk2, hkk2, hr⟩ := exK (fun k => lf_constraintref32_CheckImage_L2 k m_a0 q_11 q_11.f2_Blocks e_8) hr
           refine g_lenI 50 (l := q_11.f2_Blocks.map enc_S_api_Block) rfl (.sub (.el .refl (asl rfl) (List.mem_map_of_mem (getI_mem hq1))) [2] rfl) (asl rfl) fun hla2 => ?_
           simp only [List.length_map] at hla2
           refine g_blockJ (fun env σ => ∃ (e_15 : Int), env = [(1, .ptr (enc_S_api_Image m_a0)), (4, .int .i64 e_15), (5, .int .i64 (i_9 : Int))] ∧ σ = [] ∧ kk2 e_15 = some res) ?_ (fun HK2 => ?_)
           ·
            rintro _ _ ⟨e_15, rfl, rfl, hr⟩
            rw [hkk2] at hr
            refine g_inBlock ?_
            refine g_run (by kernel_rfl) [(0, .d), (1, .d), (2, .d)] rfl ?_
            refine r_d rfl rfl rfl (s_move rfl rfl) ?_
            refine r_d rfl rfl rfl (s_ar (r := ((i_9 + 1 : Nat) : Int)) rfl rfl rfl (by simp [iar]) (by omega)) ?_
            refine r_d rfl rfl rfl (s_assign rfl rfl) ?_
            refine r_end ?_
            refine g_sub [(1, .ptr (enc_S_api_Image m_a0)), (4, .int .i64 e_15), (5, .int .i64 ((i_9 + 1 : Nat) : Int))] (Sub.cons' rfl (Sub.cons' rfl (Sub.cons' rfl (Sub.nil _)))) ?_
            exact IH1 _ _ _ (by omega) ⟨e_15, (i_9 + 1), rfl, rfl, rfl, (by omega), hr⟩
           ·
            refine g_sub [(1, .ptr (enc_S_api_Image m_a0)), (5, .int .i64 ((i_9 : Nat) : Int)), (4, .int .i64 e_8), (6, .int .i64 ((0 : Nat) : Int))] (Sub.cons' rfl (Sub.cons' rfl (Sub.cons' rfl (Sub.cons' rfl (Sub.nil _))))) ?_
            refine g_loop (fun n env σ => ∃ (e_13 : Int) (k_14 : Nat), (n = q_11.f2_Blocks.length - k_14) ∧ (env = [(1, .ptr (enc_S_api_Image m_a0)), (5, .int .i64 (i_9 : Int)), (4, .int .i64 e_13), (6, .int .i64 (k_14 : Int))]) ∧ (σ = []) ∧ (k_14 ≤ q_11.f2_Blocks.length) ∧ (lf_constraintref32_CheckImage_L2 kk2 m_a0 q_11 (q_11.f2_Blocks.drop k_14) e_13 = some res)) _ ⟨e_8, 0, rfl, rfl, rfl, Nat.zero_le _, hr⟩ ?_
            rintro n _ _ ⟨e_13, k_14, rfl, rfl, rfl, hi2, hr⟩ IH2
            rcases listStep q_11.f2_Blocks k_14 hi2 with ⟨ht2, hd2, he2⟩ | ⟨q_16, ht2, hd2, hq2, hlt2⟩
            ·
             rw [hd2, lf_constraintref32_CheckImage_L2] at hr
             refine g_seq ?_
             refine g_seq ?_
             refine g_run (by kernel_rfl) [(0, .d), (1, .d), (2, .d), (3, .d), (4, .d), (5, .d), (6, .d), (7, .d), (8, .d), (9, .d), (10, .d), (11, .d), (12, .d)] rfl ?_
             refine r_d rfl rfl rfl (s_move rfl rfl) ?_
             refine r_d rfl rfl rfl (s_fieldAddr rfl fl_api_Image_0 rfl rfl rfl rfl) ?_
             refine r_d rfl rfl rfl (s_load rfl rfl (by exact ty_L_api_Unit) rfl) ?_
             refine r_d rfl rfl rfl (s_move rfl rfl) ?_
             refine r_d rfl rfl rfl (m_index (f := enc_S_api_Unit) m_a0.f0_Units rfl el_L_api_Unit rfl (asl rfl) rfl hq1 sz_S_api_Unit rfl) ?_
             refine r_d rfl rfl rfl (s_fieldAddr rfl fl_api_Unit_2 rfl rfl rfl rfl) ?_
             refine r_d rfl rfl rfl (s_load rfl rfl (by exact ty_L_api_Block) rfl) ?_
             refine r_d rfl rfl rfl (m_len (f := enc_S_api_Block) q_11.f2_Blocks rfl el_L_api_Block rfl (asl rfl)) ?_
             refine r_d rfl rfl rfl (s_cmp rfl rfl rfl rfl) ?_
             refine r_d rfl rfl rfl (s_move rfl rfl) ?_
             refine r_known 68 false rfl ht2 ?_
             refine r_skip rfl rfl rfl ?_
             refine r_skip rfl rfl rfl ?_
             refine r_d rfl rfl rfl (s_pickF rfl rfl rfl) ?_
             refine r_end ?_
             refine g_condF rfl ?_
             refine g_exit rfl ?_
             refine g_sub [(1, .ptr (enc_S_api_Image m_a0)), (4, .int .i64 e_13), (5, .int .i64 (i_9 : Int))] (Sub.cons' rfl (Sub.cons' rfl (Sub.cons' rfl (Sub.nil _)))) ?_
             exact HK2 _ _ ⟨e_13, rfl, rfl, hr⟩
            ·
             rw [hd2, lf_constraintref32_CheckImage_L2] at hr
             refine g_seq ?_
             refine g_seq ?_
             refine g_run (by kernel_rfl) [(0, .d), (1, .d), (2, .d), (3, .d), (4, .d), (5, .d), (6, .d), (7, .d), (8, .d), (9, .d), (10, .d), (11, .d), (12, .d)] rfl ?_
             refine r_d rfl rfl rfl (s_move rfl rfl) ?_
             refine r_d rfl rfl rfl (s_fieldAddr rfl fl_api_Image_0 rfl rfl rfl rfl) ?_
             refine r_d rfl rfl rfl (s_load rfl rfl (by exact ty_L_api_Unit) rfl) ?_
             refine r_d rfl rfl rfl (s_move rfl rfl) ?_
             refine r_d rfl rfl rfl (m_index (f := enc_S_api_Unit) m_a0.f0_Units rfl el_L_api_Unit rfl (asl rfl) rfl hq1 sz_S_api_Unit rfl) ?_
             refine r_d rfl rfl rfl (s_fieldAddr rfl fl_api_Unit_2 rfl rfl rfl rfl) ?_
             refine r_d rfl rfl rfl (s_load rfl rfl (by exact ty_L_api_Block) rfl) ?_
             refine r_d rfl rfl rfl (m_len (f := enc_S_api_Block) q_11.f2_Blocks rfl el_L_api_Block rfl (asl rfl)) ?_
             refine r_d rfl rfl rfl (s_cmp rfl rfl rfl rfl) ?_
             refine r_d rfl rfl rfl (s_move rfl rfl) ?_
             refine r_known 68 true rfl ht2 ?_
             refine r_d rfl rfl rfl (s_move rfl rfl) ?_
             refine r_d rfl rfl rfl (s_cmp rfl rfl rfl rfl) ?_
             refine r_d rfl rfl rfl (s_pickT rfl rfl rfl) ?_
             refine r_end ?_
             refine g_sB 71 rfl hr (fun h71_16 hr => ?_) (fun h71_16 hr => ?_)
             ·
              refine g_condT rfl ?_
              refine g_skip ?_
              refine g_seq ?_
              refine g_block ?_
              refine g_any (by kernel_rfl) (by kernel_rfl) [(0, .d), (1, .d), (2, .d), (3, .d), (4, .d), (5, .d), (6, .d), (7, .d), (8, .d), (9, .d), (10, .d), (11, .d), (12, .d), (13, .d), (14, .d), (15, .d), (16, .d)] (by kernel_rfl) ?_
              refine r_d rfl rfl rfl (s_load rfl rfl (by exact ty_api_Image) (sz_S_api_Image _)) ?_
              refine r_d rfl rfl rfl (s_fieldAddr rfl fl_api_Image_0 rfl rfl rfl rfl) ?_
              refine r_d rfl rfl rfl (s_load rfl rfl (by exact ty_L_api_Unit) rfl) ?_
              refine r_d rfl rfl rfl (s_move rfl rfl) ?_
              refine r_d rfl rfl rfl (m_index (f := enc_S_api_Unit) m_a0.f0_Units rfl el_L_api_Unit rfl (asl rfl) rfl hq1 sz_S_api_Unit rfl) ?_
              refine r_d rfl rfl rfl (s_load rfl rfl (by exact ty_api_Unit) (sz_S_api_Unit _)) ?_
              refine r_d rfl rfl rfl (s_fieldAddr rfl fl_api_Image_0 rfl rfl rfl rfl) ?_
              refine r_d rfl rfl rfl (s_load rfl rfl (by exact ty_L_api_Unit) rfl) ?_
              refine r_d rfl rfl rfl (s_move rfl rfl) ?_
              refine r_d rfl rfl rfl (m_index (f := enc_S_api_Unit) m_a0.f0_Units rfl el_L_api_Unit rfl (asl rfl) rfl hq1 sz_S_api_Unit rfl) ?_
              refine r_d rfl rfl rfl (s_fieldAddr rfl fl_api_Unit_2 rfl rfl rfl rfl) ?_
              refine r_d rfl rfl rfl (s_load rfl rfl (by exact ty_L_api_Block) rfl) ?_
              refine r_d rfl rfl rfl (s_move rfl rfl) ?_
              refine r_d rfl rfl rfl (m_index (f := enc_S_api_Block) q_11.f2_Blocks rfl el_L_api_Block rfl (asl rfl) rfl hq2 sz_S_api_Block rfl) ?_
              refine r_d rfl rfl rfl (s_load rfl rfl (by exact ty_api_Block) (sz_S_api_Block _)) ?_
              obtain ⟨r_18, hr_18, hr⟩ := bindS hr
              refine r_d rfl rfl rfl (s_callD rfl cl_constraintref32_block (.cons rfl (Wk.refl _) (.cons rfl (Wk.refl _) (.cons rfl (Wk.refl _) .nil))) (lg_constraintref32_block _ _ _ _ hr_18)) ?_
              refine r_d rfl rfl rfl (s_assign rfl rfl) ?_
              refine r_end ?_
              refine g_inBlock ?_
              refine g_run (by kernel_rfl) [(0, .d), (1, .d), (2, .d)] rfl ?_
              refine r_d rfl rfl rfl (s_move rfl rfl) ?_
              refine r_d rfl rfl rfl (s_ar (r := ((k_14 + 1 : Nat) : Int)) rfl rfl rfl (by simp [iar]) (by omega)) ?_
              refine r_d rfl rfl rfl (s_assign rfl rfl) ?_
              refine r_end ?_
              refine g_sub [(1, .ptr (enc_S_api_Image m_a0)), (5, .int .i64 ((i_9 : Nat) : Int)), (4, .int .i64 r_18), (6, .int .i64 ((k_14 + 1 : Nat) : Int))] (Sub.cons' rfl (Sub.cons' rfl (Sub.cons' rfl (Sub.cons' rfl (Sub.nil _))))) ?_
              exact IH2 _ _ _ (by omega) ⟨r_18, (k_14 + 1), rfl, rfl, rfl, (by omega), hr⟩
             ·
              refine g_condF rfl ?_
              refine g_exit rfl ?_
              refine g_sub [(1, .ptr (enc_S_api_Image m_a0)), (4, .int .i64 e_13), (5, .int .i64 (i_9 : Int))] (Sub.cons' rfl (Sub.cons' rfl (Sub.cons' rfl (Sub.nil _)))) ?_
              exact HK2 _ _ ⟨e_13, rfl, rfl, hr⟩
          ·
           refine g_condF rfl ?_
           refine g_exit rfl ?_
           refine g_sub [(4, .int .i64 e_8)] (Sub.cons' rfl (Sub.nil _)) ?_
           exact HK1 _ _ ⟨e_8, rfl, rfl, hr⟩
       ·
        unfold lf_constraintref32_CheckImage_J0 at hr
        refine g_seq ?_
        refine g_run (by kernel_rfl) [(0, .d), (1, .d)] rfl ?_
        refine r_d rfl rfl rfl (s_move rfl rfl) ?_
        refine r_d rfl rfl rfl (s_cmp rfl rfl rfl rfl) ?_
        refine r_end ?_
        refine g_sB 44 rfl hr (fun h44_18 hr => ?_) (fun h44_18 hr => ?_)
        ·
         refine g_condT rfl ?_
         refine g_run (by kernel_rfl) [(0, .d), (1, .d), (2, .d), (3, .d)] rfl ?_
         refine r_d rfl rfl rfl (s_fieldAddr rfl fl_api_Image_0 rfl rfl rfl rfl) ?_
         refine r_d rfl rfl rfl (s_load rfl rfl (by exact ty_L_api_Unit) rfl) ?_
         obtain ⟨r_20, hr_20, hr⟩ := bindS hr
         refine r_d rfl rfl rfl (s_callD rfl cl_constraintref32_units (.cons rfl (Wk.refl _) .nil) (lg_constraintref32_units _ _ hr_20)) ?_
         refine r_d rfl rfl rfl (s_assign rfl rfl) ?_
         refine r_end ?_
         refine g_sub [(1, .ptr (enc_S_api_Image m_a0)), (4, .int .i64 r_20)] (Sub.cons' rfl (Sub.cons' rfl (Sub.nil _))) ?_
         exact HKJ0 _ _ ⟨r_20, rfl, rfl, hr⟩
        ·
         refine g_condF rfl ?_
         refine g_skip ?_
         refine g_sub [(1, .ptr (enc_S_api_Image m_a0)), (4, .int .i64 r_6)] (Sub.cons' rfl (Sub.cons' rfl (Sub.nil _))) ?_
         exact HKJ0 _ _ ⟨r_6, rfl, rfl, hr⟩
      ·
       refine g_sub [(1, .ptr (enc_S_api_Image m_a0)), (3, .int .i64 ((0 : Nat) : Int))] (Sub.cons' rfl (Sub.cons' rfl (Sub.nil _))) ?_
       refine g_loop (fun n env σ => ∃ (i_5 : Nat), (n = m_a0.f0_Units.length - i_5) ∧ (env = [(1, .ptr (enc_S_api_Image m_a0)), (3, .int .i64 (i_5 : Int))]) ∧ (σ = []) ∧ (i_5 ≤ m_a0.f0_Units.length) ∧ (lf_constraintref32_CheckImage_L0 kk0 (m_a0.f0_Units.drop i_5) = some res)) _ ⟨0, rfl, rfl, rfl, Nat.zero_le _, hr⟩ ?_
       rintro n _ _ ⟨i_5, rfl, rfl, rfl, hi0, hr⟩ IH0
       rcases listStep m_a0.f0_Units i_5 hi0 with ⟨ht0, hd0, he0⟩ | ⟨q_21, ht0, hd0, hq0, hlt0⟩
       ·
        rw [hd0, lf_constraintref32_CheckImage_L0] at hr
        refine g_seq ?_
        refine g_seq ?_
        refine g_run (by kernel_rfl) [(0, .d), (1, .d), (2, .d), (3, .d), (4, .d)] rfl ?_
        refine r_d rfl rfl rfl (s_move rfl rfl) ?_
        refine r_d rfl rfl rfl (s_fieldAddr rfl fl_api_Image_0 rfl rfl rfl rfl) ?_
        refine r_d rfl rfl rfl (s_load rfl rfl (by exact ty_L_api_Unit) rfl) ?_
        refine r_d rfl rfl rfl (m_len (f := enc_S_api_Unit) m_a0.f0_Units rfl el_L_api_Unit rfl (asl rfl)) ?_
        refine r_d rfl rfl rfl (s_cmp rfl rfl rfl rfl) ?_
        refine r_end ?_
        refine g_known 29 false rfl ht0 ?_
        refine g_condF rfl ?_
        refine g_exit rfl ?_
        refine g_sub [(1, .ptr (enc_S_api_Image m_a0))] (Sub.cons' rfl (Sub.nil _)) ?_
        exact HK0 _ _ ⟨rfl, rfl, hr⟩
       ·
        rw [hd0, lf_constraintref32_CheckImage_L0] at hr
        refine g_seq ?_
        refine g_seq ?_
        refine g_run (by kernel_rfl) [(0, .d), (1, .d), (2, .d), (3, .d), (4, .d)] rfl ?_
        refine r_d rfl rfl rfl (s_move rfl rfl) ?_
        refine r_d rfl rfl rfl (s_fieldAddr rfl fl_api_Image_0 rfl rfl rfl rfl) ?_
        refine r_d rfl rfl rfl (s_load rfl rfl (by exact ty_L_api_Unit) rfl) ?_
        refine r_d rfl rfl rfl (m_len (f := enc_S_api_Unit) m_a0.f0_Units rfl el_L_api_Unit rfl (asl rfl)) ?_
        refine r_d rfl rfl rfl (s_cmp rfl rfl rfl rfl) ?_
        refine r_end ?_
        refine g_known 29 true rfl ht0 ?_
        refine g_condT rfl ?_
        refine g_skip ?_
        refine g_seq ?_
        refine g_block ?_
        refine g_seq ?_
        refine g_run (by kernel_rfl) [(0, .d), (1, .d), (2, .d), (3, .d), (4, .d), (5, .d), (6, .d), (7, .d)] rfl ?_
        refine r_d rfl rfl rfl (s_fieldAddr rfl fl_api_Image_0 rfl rfl rfl rfl) ?_
        refine r_d rfl rfl rfl (s_load rfl rfl (by exact ty_L_api_Unit) rfl) ?_
        refine r_d rfl rfl rfl (s_move rfl rfl) ?_
        refine r_d rfl rfl rfl (m_index (f := enc_S_api_Unit) m_a0.f0_Units rfl el_L_api_Unit rfl (asl rfl) rfl hq0 sz_S_api_Unit rfl) ?_
        refine r_d rfl rfl rfl (s_fieldAddr rfl fl_api_Unit_2 rfl rfl rfl rfl) ?_
        refine r_d rfl rfl rfl (s_load rfl rfl (by exact ty_L_api_Block) rfl) ?_
        refine r_d rfl rfl rfl (m_len (f := enc_S_api_Block) q_21.f2_Blocks rfl el_L_api_Block rfl (asl rfl)) ?_
        refine r_d rfl rfl rfl (s_cmp rfl rfl rfl rfl) ?_
        refine r_end ?_
        refine g_sB 39 rfl hr (fun h39_21 hr => ?_) (fun h39_21 hr => ?_)
        ·
         refine g_condT rfl ?_
         refine g_seq ?_
         refine g_run (by kernel_rfl) [(0, .d)] rfl ?_
         refine r_d rfl rfl rfl (s_assign rfl rfl) ?_
         refine r_end ?_
         obtain rfl := Option.some.inj hr
         refine g_ret Tryz.func11 _ (.cons (resTmp rfl (Wk.refl _)) .nil) ?_
         rfl
        ·
         refine g_condF rfl ?_
         refine g_skip ?_
         refine g_inBlock ?_
         refine g_run (by kernel_rfl) [(0, .d), (1, .d), (2, .d)] rfl ?_
         refine r_d rfl rfl rfl (s_move rfl rfl) ?_
         refine r_d rfl rfl rfl (s_ar (r := ((i_5 + 1 : Nat) : Int)) rfl rfl rfl (by simp [iar]) (by omega)) ?_
         refine r_d rfl rfl rfl (s_assign rfl rfl) ?_
         refine r_end ?_
         refine g_sub [(1, .ptr (enc_S_api_Image m_a0)), (3, .int .i64 ((i_5 + 1 : Nat) : Int))] (Sub.cons' rfl (Sub.cons' rfl (Sub.nil _))) ?_
         exact IH0 _ _ _ (by omega) ⟨(i_5 + 1), rfl, rfl, rfl, (by omega), hr⟩

noncomputable def lf_constraintlaw32_InstrCheck (b_a0 : S_api_Block) : Option (Bool) :=
  ((lf_constraintref32_Great b_a0.f1_Code 600).bind fun r_1 =>
  (bif r_1 then
  some (true)
  else
  ((lf_instr_Check b_a0).bind fun r_3 =>
  ((lf_constraintref32_Check b_a0).bind fun r_4 =>
  (bif (r_3 == r_4) then
  (lf_constraintlaw32_live.bind fun r_6 =>
  some (r_6))
  else
  some (false))))))

set_option maxHeartbeats 1000000 in
theorem lg_constraintlaw32_InstrCheck (b_a0 : S_api_Block) (res : Bool) (hr : lf_constraintlaw32_InstrCheck b_a0 = some res) : Gives Tryz.prog 3 [enc_S_api_Block b_a0] (.bool res) := by
  unfold lf_constraintlaw32_InstrCheck at hr
  refine spec_env [(0, enc_S_api_Block b_a0)] Tryz.func3 rfl rfl fun K hK => ?_
  refine g_seq ?_
  refine g_run (by kernel_rfl) [(0, .d), (1, .d)] rfl ?_
  refine r_d rfl rfl rfl (s_box rfl rfl rfl) ?_
  refine r_d rfl rfl rfl (s_assign rfl rfl) ?_
  refine r_end ?_
  refine g_seq ?_
  refine g_any (by kernel_rfl) (by kernel_rfl) [(0, .d), (1, .d), (2, .d), (3, .d), (4, .d), (5, .d), (6, .d), (7, .d), (8, .d), (9, .d), (10, .d), (11, .d), (12, .d), (13, .d)] (by kernel_rfl) ?_
  refine r_d rfl rfl rfl (s_fieldAddr rfl fl_api_Block_1 rfl rfl (by simp [szs, sz, sz_S_api_Occ]) rfl) ?_
  refine r_d rfl rfl rfl (s_load rfl rfl (by exact ty_L_api_Instr) rfl) ?_
  obtain ⟨r_1, hr_1, hr⟩ := bindS hr
  refine r_d rfl rfl rfl (s_callD rfl cl_constraintref32_Great (.cons rfl (Wk.refl _) (.cons rfl (Wk.refl _) .nil)) (lg_constraintref32_Great _ _ _ hr_1)) ?_
  refine r_d rfl rfl rfl (s_move rfl rfl) ?_
  refine r_sB 6 rfl hr (fun h6_1 hr => ?_) (fun h6_1 hr => ?_)
  ·
   refine r_skip rfl rfl rfl ?_
   refine r_skip rfl rfl rfl ?_
   refine r_skip rfl rfl rfl ?_
   refine r_skip rfl rfl rfl ?_
   refine r_skip rfl rfl rfl ?_
   refine r_skip rfl rfl rfl ?_
   refine r_skip rfl rfl rfl ?_
   refine r_skip rfl rfl rfl ?_
   refine r_d rfl rfl rfl (s_pickT rfl rfl rfl) ?_
   refine r_d rfl rfl rfl (s_assign rfl rfl) ?_
   refine r_end ?_
   obtain rfl := Option.some.inj hr
   refine g_ret Tryz.func3 _ (.cons (resTmp rfl (Wk.refl _)) .nil) ?_
   rfl
  ·
   refine r_d rfl rfl rfl (s_load rfl rfl (by exact ty_api_Block) (sz_S_api_Block _)) ?_
   obtain ⟨r_3, hr_3, hr⟩ := bindS hr
   refine r_d rfl rfl rfl (s_callD rfl cl_instr_Check (.cons rfl (Wk.refl _) .nil) (lg_instr_Check _ _ hr_3)) ?_
   refine r_d rfl rfl rfl (s_load rfl rfl (by exact ty_api_Block) (sz_S_api_Block _)) ?_
   obtain ⟨r_4, hr_4, hr⟩ := bindS hr
   refine r_d rfl rfl rfl (s_callD rfl cl_constraintref32_Check (.cons rfl (Wk.refl _) .nil) (lg_constraintref32_Check _ _ hr_4)) ?_
   refine r_d rfl rfl rfl (s_cmp rfl rfl rfl rfl) ?_
   refine r_d rfl rfl rfl (s_move rfl rfl) ?_
   refine r_sB 12 rfl hr (fun h12_4 hr => ?_) (fun h12_4 hr => ?_)
   ·
    obtain ⟨r_6, hr_6, hr⟩ := bindS hr
    refine r_d rfl rfl rfl (s_callD rfl cl_constraintlaw32_live .nil (lg_constraintlaw32_live _ hr_6)) ?_
    refine r_d rfl rfl rfl (s_pickT rfl rfl rfl) ?_
    refine r_d rfl rfl rfl (s_pickF rfl rfl rfl) ?_
    refine r_d rfl rfl rfl (s_assign rfl rfl) ?_
    refine r_end ?_
    obtain rfl := Option.some.inj hr
    refine g_ret Tryz.func3 _ (.cons (resTmp rfl (Wk.refl _)) .nil) ?_
    rfl
   ·
    refine r_skip rfl rfl rfl ?_
    refine r_d rfl rfl rfl (s_pickF rfl rfl rfl) ?_
    refine r_d rfl rfl rfl (s_pickF rfl rfl rfl) ?_
    refine r_d rfl rfl rfl (s_assign rfl rfl) ?_
    refine r_end ?_
    obtain rfl := Option.some.inj hr
    refine g_ret Tryz.func3 _ (.cons (resTmp rfl (Wk.refl _)) .nil) ?_
    rfl

noncomputable def lf_constraintlaw32_InstrImage (m_a0 : S_api_Image) : Option (Bool) :=
  ((lf_constraintref32_GreatImage m_a0 600).bind fun r_1 =>
  (bif r_1 then
  some (true)
  else
  ((lf_instr_CheckImage m_a0).bind fun r_3 =>
  ((lf_constraintref32_CheckImage m_a0).bind fun r_4 =>
  (bif (r_3 == r_4) then
  (lf_constraintlaw32_live.bind fun r_6 =>
  some (r_6))
  else
  some (false))))))

set_option maxHeartbeats 1000000 in
theorem lg_constraintlaw32_InstrImage (m_a0 : S_api_Image) (res : Bool) (hr : lf_constraintlaw32_InstrImage m_a0 = some res) : Gives Tryz.prog 4 [enc_S_api_Image m_a0] (.bool res) := by
  unfold lf_constraintlaw32_InstrImage at hr
  refine spec_env [(0, enc_S_api_Image m_a0)] Tryz.func4 rfl rfl fun K hK => ?_
  refine g_seq ?_
  refine g_run (by kernel_rfl) [(0, .d), (1, .d)] rfl ?_
  refine r_d rfl rfl rfl (s_box rfl rfl rfl) ?_
  refine r_d rfl rfl rfl (s_assign rfl rfl) ?_
  refine r_end ?_
  refine g_seq ?_
  refine g_any (by kernel_rfl) (by kernel_rfl) [(0, .d), (1, .d), (2, .d), (3, .d), (4, .d), (5, .d), (6, .d), (7, .d), (8, .d), (9, .d), (10, .d), (11, .d), (12, .d)] (by kernel_rfl) ?_
  refine r_d rfl rfl rfl (s_load rfl rfl (by exact ty_api_Image) (sz_S_api_Image _)) ?_
  obtain ⟨r_1, hr_1, hr⟩ := bindS hr
  refine r_d rfl rfl rfl (s_callD rfl cl_constraintref32_GreatImage (.cons rfl (Wk.refl _) (.cons rfl (Wk.refl _) .nil)) (lg_constraintref32_GreatImage _ _ _ hr_1)) ?_
  refine r_d rfl rfl rfl (s_move rfl rfl) ?_
  refine r_sB 5 rfl hr (fun h5_1 hr => ?_) (fun h5_1 hr => ?_)
  ·
   refine r_skip rfl rfl rfl ?_
   refine r_skip rfl rfl rfl ?_
   refine r_skip rfl rfl rfl ?_
   refine r_skip rfl rfl rfl ?_
   refine r_skip rfl rfl rfl ?_
   refine r_skip rfl rfl rfl ?_
   refine r_skip rfl rfl rfl ?_
   refine r_skip rfl rfl rfl ?_
   refine r_d rfl rfl rfl (s_pickT rfl rfl rfl) ?_
   refine r_d rfl rfl rfl (s_assign rfl rfl) ?_
   refine r_end ?_
   obtain rfl := Option.some.inj hr
   refine g_ret Tryz.func4 _ (.cons (resTmp rfl (Wk.refl _)) .nil) ?_
   rfl
  ·
   refine r_d rfl rfl rfl (s_load rfl rfl (by exact ty_api_Image) (sz_S_api_Image _)) ?_
   obtain ⟨r_3, hr_3, hr⟩ := bindS hr
   refine r_d rfl rfl rfl (s_callD rfl cl_instr_CheckImage (.cons rfl (Wk.refl _) .nil) (lg_instr_CheckImage _ _ hr_3)) ?_
   refine r_d rfl rfl rfl (s_load rfl rfl (by exact ty_api_Image) (sz_S_api_Image _)) ?_
   obtain ⟨r_4, hr_4, hr⟩ := bindS hr
   refine r_d rfl rfl rfl (s_callD rfl cl_constraintref32_CheckImage (.cons rfl (Wk.refl _) .nil) (lg_constraintref32_CheckImage _ _ hr_4)) ?_
   refine r_d rfl rfl rfl (s_cmp rfl rfl rfl rfl) ?_
   refine r_d rfl rfl rfl (s_move rfl rfl) ?_
   refine r_sB 11 rfl hr (fun h11_4 hr => ?_) (fun h11_4 hr => ?_)
   ·
    obtain ⟨r_6, hr_6, hr⟩ := bindS hr
    refine r_d rfl rfl rfl (s_callD rfl cl_constraintlaw32_live .nil (lg_constraintlaw32_live _ hr_6)) ?_
    refine r_d rfl rfl rfl (s_pickT rfl rfl rfl) ?_
    refine r_d rfl rfl rfl (s_pickF rfl rfl rfl) ?_
    refine r_d rfl rfl rfl (s_assign rfl rfl) ?_
    refine r_end ?_
    obtain rfl := Option.some.inj hr
    refine g_ret Tryz.func4 _ (.cons (resTmp rfl (Wk.refl _)) .nil) ?_
    rfl
   ·
    refine r_skip rfl rfl rfl ?_
    refine r_d rfl rfl rfl (s_pickF rfl rfl rfl) ?_
    refine r_d rfl rfl rfl (s_pickF rfl rfl rfl) ?_
    refine r_d rfl rfl rfl (s_assign rfl rfl) ?_
    refine r_end ?_
    obtain rfl := Option.some.inj hr
    refine g_ret Tryz.func4 _ (.cons (resTmp rfl (Wk.refl _)) .nil) ?_
    rfl

end Go.Proofs.YtbdhjkneoandiaaGreat

