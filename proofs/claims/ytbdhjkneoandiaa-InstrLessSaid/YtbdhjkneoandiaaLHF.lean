/-
  Texts of the seat, merged.
-/
import Derived.Test.YtbdhjkneoandiaaLHA
import Derived.Test.YtbdhjkneoandiaaLHB
import Derived.Test.YtbdhjkneoandiaaLHC
import Derived.Test.YtbdhjkneoandiaaLHD
import Derived.Test.YtbdhjkneoandiaaLHE
import Derived.Test.YtbdhjkneoandiaaChecked
import Derived.WalkKit
import Derived.Lib.Hide
import Derived.Lib.AppendStr
import Derived.Deep.AppendLies
import Derived.Deep.AppendSrc
import Derived.Deep.Draws
import Derived.Deep.QuietTactic
import Derived.BigQuiet
import Derived.Deep.RegionWith
import Derived.Maps.AppendAt
import Derived.WalkSpells
import Derived.Orders
import Derived.Deep.Slices
import Derived.Deep.Fields
import Derived.ChangeArms
import Derived.Lib.OthersKept
import Derived.Lib.TrimU
import Derived.Lib.IndexAny
import Derived.Deep.LoopGhost
import Derived.Lib.Bytealg
import Derived.RangeFuncBox
import Derived.RangeFuncNested
import Derived.RangeFuncBound
import Derived.RangeFuncCalls
import Derived.RangeFuncLeaves
import Derived.Shelf.Abstract
import Derived.OwnWalkIn
import Derived.TacticsInMore
import Derived.LoopNIn
import Derived.LoopIn
import Derived.RangeFuncWrites
import Derived.Maps.OwnIn
import Derived.Maps.Views
import Derived.Laws.OwnMore
import Derived.Maps.OwnSet
import Derived.Test.YtbdhjkneoandiaaRows
import Derived.ProofKit
import Derived.OpenShut
import Derived.Carry
import Derived.OrdersIn
import Derived.Great.BuildSlice
import Derived.ArgAppend
import Derived.Laws.MakeOwn
import Derived.Laws.Cover3
import Derived.Laws.CopyRow
import Derived.MapKept
import Derived.Maps.RangeRun
import Derived.DeepKeys5
import Derived.WideKeyRuns
set_option linter.unusedVariables false
set_option linter.unusedSimpArgs false
set_option linter.unnecessarySimpa false
set_option linter.all false

namespace Go.Proofs.Ytbdhjkneoandiaa
set_option maxRecDepth 100000
open Go.RowKit

set_option maxHeartbeats 1000000 in
theorem lg_instr_CheckImage (m_a0 : S_api_Image) (res : Int) (hr : lf_instr_CheckImage m_a0 = some res) : Gives Try.prog 18 [enc_S_api_Image m_a0] (.int .i64 res) := by
  unfold lf_instr_CheckImage at hr
  refine spec_env [(0, enc_S_api_Image m_a0)] Try.func18 rfl rfl fun K hK => ?_
  refine g_seq ?_
  refine g_run (by kernel_rfl) [(0, .d), (1, .d)] rfl ?_
  refine r_d rfl rfl rfl (s_box rfl rfl rfl) ?_
  refine r_d rfl rfl rfl (s_assign rfl rfl) ?_
  refine r_end ?_
  refine g_seq ?_
  refine g_seq ?_
  refine g_run (by kernel_rfl) [(0, .d), (1, .d), (2, .d), (3, .d), (4, .d), (5, .d), (6, .d), (7, .d)] rfl ?_
  refine r_d rfl rfl rfl (s_fieldAddr rfl fl_api_Image_2 rfl rfl rfl rfl) ?_
  refine r_d rfl rfl rfl (s_load rfl rfl (by exact ty_int) rfl) ?_
  refine r_d rfl rfl rfl (s_cmp rfl rfl rfl rfl) ?_
  refine r_d rfl rfl rfl (s_move rfl rfl) ?_
  refine r_sB 20 rfl hr (fun h20_0 hr => ?_) (fun h20_0 hr => ?_)
  ·
   refine r_skip rfl rfl rfl ?_
   refine r_skip rfl rfl rfl ?_
   refine r_skip rfl rfl rfl ?_
   refine r_d rfl rfl rfl (s_pickT rfl rfl rfl) ?_
   refine r_end ?_
   refine g_condT rfl ?_
   refine g_seq ?_
   refine g_run (by kernel_rfl) [(0, .d)] rfl ?_
   refine r_d rfl rfl rfl (s_assign rfl rfl) ?_
   refine r_end ?_
   obtain rfl := Option.some.inj hr
   refine g_ret Try.func18 _ (.cons (resTmp rfl (Wk.refl _)) .nil) ?_
   rfl
  ·
   refine r_d rfl rfl rfl (s_fieldAddr rfl fl_api_Image_2 rfl rfl rfl rfl) ?_
   refine r_d rfl rfl rfl (s_load rfl rfl (by exact ty_int) rfl) ?_
   refine r_d rfl rfl rfl (s_cmp rfl rfl rfl rfl) ?_
   refine r_d rfl rfl rfl (s_pickF rfl rfl rfl) ?_
   refine r_end ?_
   refine g_sB 24 rfl hr (fun h24_1 hr => ?_) (fun h24_1 hr => ?_)
   ·
    refine g_condT rfl ?_
    refine g_seq ?_
    refine g_run (by kernel_rfl) [(0, .d)] rfl ?_
    refine r_d rfl rfl rfl (s_assign rfl rfl) ?_
    refine r_end ?_
    obtain rfl := Option.some.inj hr
    refine g_ret Try.func18 _ (.cons (resTmp rfl (Wk.refl _)) .nil) ?_
    rfl
   ·
    refine g_condF rfl ?_
    refine g_skip ?_
    refine g_seq ?_
    refine g_seq ?_
    refine g_run (by kernel_rfl) [(0, .d), (1, .d), (2, .d), (3, .d), (4, .d), (5, .d), (6, .d), (7, .d), (8, .d), (9, .d)] rfl ?_
    refine r_d rfl rfl rfl (s_fieldAddr rfl fl_api_Image_0 rfl rfl rfl rfl) ?_
    refine r_d rfl rfl rfl (s_load rfl rfl (by exact ty_L_api_Unit) rfl) ?_
    refine r_d rfl rfl rfl (m_len (f := enc_S_api_Unit) m_a0.f0_Units rfl el_L_api_Unit rfl (asl rfl)) ?_
    refine r_d rfl rfl rfl (s_cmp rfl rfl rfl rfl) ?_
    refine r_d rfl rfl rfl (s_move rfl rfl) ?_
    refine r_sB 29 rfl hr (fun h29_2 hr => ?_) (fun h29_2 hr => ?_)
    ·
     refine r_skip rfl rfl rfl ?_
     refine r_skip rfl rfl rfl ?_
     refine r_skip rfl rfl rfl ?_
     refine r_skip rfl rfl rfl ?_
     refine r_d rfl rfl rfl (s_pickT rfl rfl rfl) ?_
     refine r_end ?_
     refine g_condT rfl ?_
     refine g_seq ?_
     refine g_run (by kernel_rfl) [(0, .d)] rfl ?_
     refine r_d rfl rfl rfl (s_assign rfl rfl) ?_
     refine r_end ?_
     obtain rfl := Option.some.inj hr
     refine g_ret Try.func18 _ (.cons (resTmp rfl (Wk.refl _)) .nil) ?_
     rfl
    ·
     refine r_d rfl rfl rfl (s_fieldAddr rfl fl_api_Image_1 rfl rfl rfl rfl) ?_
     refine r_d rfl rfl rfl (s_load rfl rfl (by exact ty_L_api_Access) rfl) ?_
     refine r_d rfl rfl rfl (m_len (f := enc_S_api_Access) m_a0.f1_Access rfl el_L_api_Access rfl (asl rfl)) ?_
     refine r_d rfl rfl rfl (s_cmp rfl rfl rfl rfl) ?_
     refine r_d rfl rfl rfl (s_pickF rfl rfl rfl) ?_
     refine r_end ?_
     refine g_sB 34 rfl hr (fun h34_3 hr => ?_) (fun h34_3 hr => ?_)
     ·
      refine g_condT rfl ?_
      refine g_seq ?_
      refine g_run (by kernel_rfl) [(0, .d)] rfl ?_
      refine r_d rfl rfl rfl (s_assign rfl rfl) ?_
      refine r_end ?_
      obtain rfl := Option.some.inj hr
      refine g_ret Try.func18 _ (.cons (resTmp rfl (Wk.refl _)) .nil) ?_
      rfl
     ·
      refine g_condF rfl ?_
      refine g_skip ?_
      refine g_seq ?_
      refine g_seq ?_
      refine g_run (by kernel_rfl) [(0, .d), (1, .d), (2, .d), (3, .d)] rfl ?_
      refine r_d rfl rfl rfl (s_fieldAddr rfl fl_api_Image_0 rfl rfl rfl rfl) ?_
      refine r_d rfl rfl rfl (s_load rfl rfl (by exact ty_L_api_Unit) rfl) ?_
      refine r_d rfl rfl rfl (m_len (f := enc_S_api_Unit) m_a0.f0_Units rfl el_L_api_Unit rfl (asl rfl)) ?_
      refine r_d rfl rfl rfl (s_move rfl rfl) ?_
      refine r_end ?_
      obtain ⟨kk0, hkk0, hr⟩ := exK (fun k => lf_instr_CheckImage_L0 k m_a0.f0_Units) hr
      refine g_len 26 rfl (asl rfl) fun hla0 => ?_
      simp only [List.length_map] at hla0
      refine g_blockJ (fun env σ => env = [(1, .ptr (enc_S_api_Image m_a0))] ∧ σ = [] ∧ kk0 = some res) ?_ (fun HK0 => ?_)
      ·
       rintro _ _ ⟨rfl, rfl, hr⟩
       rw [hkk0] at hr
       refine g_seq ?_
       refine g_run (by kernel_rfl) [(0, .d), (1, .w), (2, .d), (3, .w), (4, .w)] rfl ?_
       refine r_d rfl rfl rfl (s_load rfl rfl (by exact ty_api_Image) (sz_S_api_Image _)) ?_
       refine r_w rfl rfl rfl (m_makeMap (α := S_api_Decl) (β := Bool) (key := enc_S_api_Decl) (g := D.bool) rfl) ?_
       rintro _ _ ⟨m48_5, rfl, rfl⟩
       refine r_d rfl rfl rfl (s_build rfl btx_instr_checker (.cons rfl (Wk.refl _) (.cons rfl (Wk.refl _) .nil)) (.cons rfl (sz_S_api_Image _) rfl (.cons rfl rfl rfl (.nil _)))) ?_
       refine r_w rfl rfl rfl (s_alloc rfl (ZeroV.agg btx_instr_checker)) ?_
       rintro _ _ ⟨b5_6, rfl, rfl⟩
       refine r_w01 rfl rfl rfl (t_store0 _ rfl rfl rfl (Wk.refl _) (pf0 _) (by exact ty_instr_checker) (by simp [sz, szs, szs_fsT, sz_S_api_Image]) (by simp [sz, szs, szs_fsT, sz_S_api_Image]) rfl) ?_
       refine r_end ?_
       refine g_freeze 5 b5_6 rfl (pf0 _) ?_
       refine g_seq ?_
       refine g_seq ?_
       refine g_run (by kernel_rfl) [(0, .d), (1, .d), (2, .d), (3, .d), (4, .d)] rfl ?_
       refine r_d rfl rfl rfl (s_fieldAddr rfl fl_instr_checker_0 rfl rfl rfl rfl) ?_
       refine r_d rfl rfl rfl (s_fieldAddr rfl fl_api_Image_1 rfl rfl rfl rfl) ?_
       refine r_d rfl rfl rfl (s_load rfl rfl (by exact ty_L_api_Access) rfl) ?_
       refine r_d rfl rfl rfl (m_len (f := enc_S_api_Access) m_a0.f1_Access rfl el_L_api_Access rfl (asl rfl)) ?_
       refine r_d rfl rfl rfl (s_move rfl rfl) ?_
       refine r_end ?_
       obtain ⟨kk1, hkk1, hr⟩ := exK (fun k => lf_instr_CheckImage_L1 k m_a0.f1_Access) hr
       refine g_len 52 rfl (asl rfl) fun hla1 => ?_
       simp only [List.length_map] at hla1
       refine g_blockJ (fun env σ => env = [(5, .ptr (.agg [enc_S_api_Image m_a0, .map m48_5]))] ∧ σ = [.map m48_5 (mapM' enc_S_api_Decl D.bool ([] : (List (S_api_Decl × Bool))))] ∧ kk1 = some res) ?_ (fun HK1 => ?_)
       ·
        rintro _ _ ⟨rfl, rfl, hr⟩
        rw [hkk1] at hr
        refine g_seq ?_
        refine g_seq ?_
        refine g_run (by kernel_rfl) [(0, .d), (1, .d), (2, .d), (3, .d), (4, .d)] rfl ?_
        refine r_d rfl rfl rfl (s_fieldAddr rfl fl_instr_checker_0 rfl rfl rfl rfl) ?_
        refine r_d rfl rfl rfl (s_fieldAddr rfl fl_api_Image_0 rfl rfl rfl rfl) ?_
        refine r_d rfl rfl rfl (s_load rfl rfl (by exact ty_L_api_Unit) rfl) ?_
        refine r_d rfl rfl rfl (m_len (f := enc_S_api_Unit) m_a0.f0_Units rfl el_L_api_Unit rfl (asl rfl)) ?_
        refine r_d rfl rfl rfl (s_move rfl rfl) ?_
        refine r_end ?_
        obtain ⟨kk2, hkk2, hr⟩ := exK (fun k => lf_instr_CheckImage_L2 k m_a0 m_a0.f0_Units []) hr
        refine g_len 66 rfl (asl rfl) fun hla2 => ?_
        simp only [List.length_map] at hla2
        refine g_blockJ (fun env σ => ∃ (mm_11 : (List (S_api_Decl × Bool))), env = [(5, .ptr (.agg [enc_S_api_Image m_a0, .map m48_5]))] ∧ σ = [.map m48_5 (mapM' enc_S_api_Decl D.bool mm_11)] ∧ kk2 mm_11 = some res) ?_ (fun HK2 => ?_)
        ·
         rintro _ _ ⟨mm_11, rfl, rfl, hr⟩
         rw [hkk2] at hr
         refine g_seq ?_
         refine g_seq ?_
         refine g_run (by kernel_rfl) [(0, .d), (1, .d), (2, .d), (3, .d), (4, .d)] rfl ?_
         refine r_d rfl rfl rfl (s_fieldAddr rfl fl_instr_checker_0 rfl rfl rfl rfl) ?_
         refine r_d rfl rfl rfl (s_fieldAddr rfl fl_api_Image_0 rfl rfl rfl rfl) ?_
         refine r_d rfl rfl rfl (s_load rfl rfl (by exact ty_L_api_Unit) rfl) ?_
         refine r_d rfl rfl rfl (m_len (f := enc_S_api_Unit) m_a0.f0_Units rfl el_L_api_Unit rfl (asl rfl)) ?_
         refine r_d rfl rfl rfl (s_move rfl rfl) ?_
         refine r_end ?_
         obtain ⟨kk3, hkk3, hr⟩ := exK (fun k => lf_instr_CheckImage_L3 k m_a0 m_a0.f0_Units mm_11) hr
         refine g_len 81 rfl (asl rfl) fun hla3 => ?_
         simp only [List.length_map] at hla3
         refine g_blockJ (fun env σ => env = [] ∧ σ = [] ∧ kk3 = some res) ?_ (fun HK3 => ?_)
         ·
          rintro _ _ ⟨rfl, rfl, hr⟩
          rw [hkk3] at hr
          refine g_seq ?_
          refine g_run (by kernel_rfl) [(0, .d)] rfl ?_
          refine r_d rfl rfl rfl (s_assign rfl rfl) ?_
          refine r_end ?_
          obtain rfl := Option.some.inj hr
          refine g_ret Try.func18 _ (.cons (resTmp rfl (Wk.refl _)) .nil) ?_
          rfl
         ·
          refine g_sub [(5, .ptr (.agg [enc_S_api_Image m_a0, .map m48_5])), (81, .lst (m_a0.f0_Units.map enc_S_api_Unit)), (82, .int .i64 (m_a0.f0_Units.length : Int)), (83, .int .i64 ((0 : Nat) : Int))] (Sub.cons' rfl (Sub.cons' rfl (Sub.cons' rfl (Sub.cons' rfl (Sub.nil _))))) ?_
          refine g_loop (fun n env σ => ∃ (i_12 : Nat) (mm_13 : (List (S_api_Decl × Bool))), (n = m_a0.f0_Units.length - i_12) ∧ (env = [(5, .ptr (.agg [enc_S_api_Image m_a0, .map m48_5])), (81, .lst (m_a0.f0_Units.map enc_S_api_Unit)), (82, .int .i64 (m_a0.f0_Units.length : Int)), (83, .int .i64 (i_12 : Int))]) ∧ (σ = [.map m48_5 (mapM' enc_S_api_Decl D.bool mm_13)]) ∧ (i_12 ≤ m_a0.f0_Units.length) ∧ (lf_instr_CheckImage_L3 kk3 m_a0 (m_a0.f0_Units.drop i_12) mm_13 = some res)) _ ⟨0, mm_11, rfl, rfl, rfl, Nat.zero_le _, hr⟩ ?_
          rintro n _ _ ⟨i_12, mm_13, rfl, rfl, rfl, hi3, hr⟩ IH3
          rcases listStep m_a0.f0_Units i_12 hi3 with ⟨ht3, hd3, he3⟩ | ⟨q_14, ht3, hd3, hq3, hlt3⟩
          ·
           rw [hd3, lf_instr_CheckImage_L3] at hr
           refine g_seq ?_
           refine g_run (by kernel_rfl) [(0, .d)] rfl ?_
           refine r_d rfl rfl rfl (s_cmp rfl rfl rfl rfl) ?_
           refine r_end ?_
           refine g_seq ?_
           refine g_known 84 false rfl ht3 ?_
           refine g_condF rfl ?_
           refine g_exit rfl ?_
           refine g_sub [] (Sub.nil _) ?_
           refine g_perm [] _ (pf0 _) ?_
           exact HK3 _ _ ⟨rfl, rfl, hr⟩
          ·
           rw [hd3, lf_instr_CheckImage_L3] at hr
           refine g_seq ?_
           refine g_run (by kernel_rfl) [(0, .d)] rfl ?_
           refine r_d rfl rfl rfl (s_cmp rfl rfl rfl rfl) ?_
           refine r_end ?_
           refine g_seq ?_
           refine g_known 84 true rfl ht3 ?_
           refine g_condT rfl ?_
           refine g_skip ?_
           refine g_seq ?_
           refine g_block ?_
           refine g_seq ?_
           refine g_run (by kernel_rfl) [(0, .d), (1, .d), (2, .w), (3, .w)] rfl ?_
           refine r_d rfl rfl rfl (m_index (f := enc_S_api_Unit) m_a0.f0_Units rfl el_L_api_Unit rfl (asl rfl) rfl hq3 sz_S_api_Unit rfl) ?_
           refine r_d rfl rfl rfl (s_load rfl rfl (by exact ty_api_Unit) (sz_S_api_Unit _)) ?_
           refine r_w rfl rfl rfl (s_alloc rfl zv_api_Unit) ?_
           rintro _ _ ⟨b13_14, rfl, rfl⟩
           refine r_w01 rfl rfl rfl (t_store0 _ rfl rfl rfl (Wk.refl _) (pf0 _) (by exact ty_api_Unit) (sz_S_api_Unit _) rfl rfl) ?_
           refine r_end ?_
           refine g_freeze 13 b13_14 rfl (pf0 _) ?_
           refine g_seq ?_
           refine g_run (by kernel_rfl) [(0, .d), (1, .d), (2, .d), (3, .d)] rfl ?_
           refine r_d rfl rfl rfl (s_fieldAddr rfl fl_api_Unit_2 rfl rfl rfl rfl) ?_
           refine r_d rfl rfl rfl (s_load rfl rfl (by exact ty_L_api_Block) rfl) ?_
           refine r_d rfl rfl rfl (m_len (f := enc_S_api_Block) q_14.f2_Blocks rfl el_L_api_Block rfl (asl rfl)) ?_
           refine r_d rfl rfl rfl (s_move rfl rfl) ?_
           refine r_end ?_
           obtain ⟨kk4, hkk4, hr⟩ := exK (fun k => lf_instr_CheckImage_L4 k m_a0 q_14 q_14.f2_Blocks mm_13) hr
           refine g_len 88 rfl (asl rfl) fun hla4 => ?_
           simp only [List.length_map] at hla4
           refine g_blockJ (fun env σ => ∃ (mm_18 : (List (S_api_Decl × Bool))), env = [(5, .ptr (.agg [enc_S_api_Image m_a0, .map m48_5])), (81, .lst (m_a0.f0_Units.map enc_S_api_Unit)), (82, .int .i64 (m_a0.f0_Units.length : Int)), (83, .int .i64 (i_12 : Int))] ∧ σ = [.map m48_5 (mapM' enc_S_api_Decl D.bool mm_18)] ∧ kk4 mm_18 = some res) ?_ (fun HK4 => ?_)
           ·
            rintro _ _ ⟨mm_18, rfl, rfl, hr⟩
            rw [hkk4] at hr
            refine g_inBlock ?_
            refine g_run (by kernel_rfl) [(0, .d), (1, .d)] rfl ?_
            refine r_d rfl rfl rfl (s_ar (r := ((i_12 + 1 : Nat) : Int)) rfl rfl rfl (by simp [iar]) (by omega)) ?_
            refine r_d rfl rfl rfl (s_move rfl rfl) ?_
            refine r_end ?_
            refine g_sub [(5, .ptr (.agg [enc_S_api_Image m_a0, .map m48_5])), (81, .lst (m_a0.f0_Units.map enc_S_api_Unit)), (82, .int .i64 (m_a0.f0_Units.length : Int)), (83, .int .i64 ((i_12 + 1 : Nat) : Int))] (Sub.cons' rfl (Sub.cons' rfl (Sub.cons' rfl (Sub.cons' rfl (Sub.nil _))))) ?_
            exact IH3 _ _ _ (by omega) ⟨(i_12 + 1), mm_18, rfl, rfl, rfl, (by omega), hr⟩
           ·
            refine g_sub [(5, .ptr (.agg [enc_S_api_Image m_a0, .map m48_5])), (13, .ptr (enc_S_api_Unit q_14)), (81, .lst (m_a0.f0_Units.map enc_S_api_Unit)), (82, .int .i64 (m_a0.f0_Units.length : Int)), (83, .int .i64 ((i_12 : Nat) : Int)), (88, .lst (q_14.f2_Blocks.map enc_S_api_Block)), (89, .int .i64 (q_14.f2_Blocks.length : Int)), (90, .int .i64 ((0 : Nat) : Int))] (Sub.cons' rfl (Sub.cons' rfl (Sub.cons' rfl (Sub.cons' rfl (Sub.cons' rfl (Sub.cons' rfl (Sub.cons' rfl (Sub.cons' rfl (Sub.nil _))))))))) ?_
            refine g_loop (fun n env σ => ∃ (i_16 : Nat) (mm_17 : (List (S_api_Decl × Bool))), (n = q_14.f2_Blocks.length - i_16) ∧ (env = [(5, .ptr (.agg [enc_S_api_Image m_a0, .map m48_5])), (13, .ptr (enc_S_api_Unit q_14)), (81, .lst (m_a0.f0_Units.map enc_S_api_Unit)), (82, .int .i64 (m_a0.f0_Units.length : Int)), (83, .int .i64 (i_12 : Int)), (88, .lst (q_14.f2_Blocks.map enc_S_api_Block)), (89, .int .i64 (q_14.f2_Blocks.length : Int)), (90, .int .i64 (i_16 : Int))]) ∧ (σ = [.map m48_5 (mapM' enc_S_api_Decl D.bool mm_17)]) ∧ (i_16 ≤ q_14.f2_Blocks.length) ∧ (lf_instr_CheckImage_L4 kk4 m_a0 q_14 (q_14.f2_Blocks.drop i_16) mm_17 = some res)) _ ⟨0, mm_13, rfl, rfl, rfl, Nat.zero_le _, hr⟩ ?_
            rintro n _ _ ⟨i_16, mm_17, rfl, rfl, rfl, hi4, hr⟩ IH4
            rcases listStep q_14.f2_Blocks i_16 hi4 with ⟨ht4, hd4, he4⟩ | ⟨q_19, ht4, hd4, hq4, hlt4⟩
            ·
             rw [hd4, lf_instr_CheckImage_L4] at hr
             refine g_seq ?_
             refine g_run (by kernel_rfl) [(0, .d)] rfl ?_
             refine r_d rfl rfl rfl (s_cmp rfl rfl rfl rfl) ?_
             refine r_end ?_
             refine g_seq ?_
             refine g_known 91 false rfl ht4 ?_
             refine g_condF rfl ?_
             refine g_exit rfl ?_
             refine g_sub [(5, .ptr (.agg [enc_S_api_Image m_a0, .map m48_5])), (81, .lst (m_a0.f0_Units.map enc_S_api_Unit)), (82, .int .i64 (m_a0.f0_Units.length : Int)), (83, .int .i64 (i_12 : Int))] (Sub.cons' rfl (Sub.cons' rfl (Sub.cons' rfl (Sub.cons' rfl (Sub.nil _))))) ?_
             exact HK4 _ _ ⟨mm_17, rfl, rfl, hr⟩
            ·
             rw [hd4, lf_instr_CheckImage_L4] at hr
             refine g_seq ?_
             refine g_run (by kernel_rfl) [(0, .d)] rfl ?_
             refine r_d rfl rfl rfl (s_cmp rfl rfl rfl rfl) ?_
             refine r_end ?_
             refine g_seq ?_
             refine g_known 91 true rfl ht4 ?_
             refine g_condT rfl ?_
             refine g_skip ?_
             refine g_seq ?_
             refine g_block ?_
             refine g_seq ?_
             refine g_run (by kernel_rfl) [(0, .d), (1, .d), (2, .w), (3, .w)] rfl ?_
             refine r_d rfl rfl rfl (m_index (f := enc_S_api_Block) q_14.f2_Blocks rfl el_L_api_Block rfl (asl rfl) rfl hq4 sz_S_api_Block rfl) ?_
             refine r_d rfl rfl rfl (s_load rfl rfl (by exact ty_api_Block) (sz_S_api_Block _)) ?_
             refine r_w rfl rfl rfl (s_alloc rfl zv_api_Block) ?_
             rintro _ _ ⟨b15_19, rfl, rfl⟩
             refine r_w01 rfl rfl rfl (t_store0 _ rfl rfl rfl (Wk.refl _) (pf0 _) (by exact ty_api_Block) (sz_S_api_Block _) (by simp [sz, szs, szs_fsT, sz_S_api_Occ]) rfl) ?_
             refine r_end ?_
             refine g_freeze 15 b15_19 rfl (pf0 _) ?_
             refine g_seq ?_
             refine g_run (by kernel_rfl) [(0, .d), (1, .d), (2, .d), (3, .w), (4, .d)] rfl ?_
             refine r_d rfl rfl rfl (s_load rfl rfl (by exact ty_instr_checker) (by simp [sz, szs, szs_fsT, sz_S_api_Image])) ?_
             refine r_d rfl rfl rfl (s_load rfl rfl (by exact ty_api_Unit) (sz_S_api_Unit _)) ?_
             refine r_d rfl rfl rfl (s_load rfl rfl (by exact ty_api_Block) (sz_S_api_Block _)) ?_
             obtain ⟨r_21, hr_21, hr⟩ := bindS hr
             refine r_w rfl rfl rfl (s_call _ rfl cl_instr_checker_block (.cons rfl (Wk.refl _) (.cons rfl (Wk.refl _) (.cons rfl (Wk.refl _) .nil))) (by exact (pf0 _)) (lg_instr_checker_block_s1 _ _ _ _ _ _ hr_21)) ?_
             rintro _ _ ⟨_, ⟨rfl, rfl⟩, rfl⟩
             refine r_st ((.map m48_5 (mapM' enc_S_api_Decl D.bool r_21.2)) :: _) rfl ?_
             refine r_d rfl rfl rfl (s_assign rfl rfl) ?_
             refine r_end ?_
             refine g_seq ?_
             refine g_run (by kernel_rfl) [(0, .d), (1, .d)] rfl ?_
             refine r_d rfl rfl rfl (s_move rfl rfl) ?_
             refine r_d rfl rfl rfl (s_cmp rfl rfl rfl rfl) ?_
             refine r_end ?_
             refine g_sB 99 rfl hr (fun h99_21 hr => ?_) (fun h99_21 hr => ?_)
             ·
              refine g_condT rfl ?_
              refine g_seq ?_
              refine g_run (by kernel_rfl) [(0, .d), (1, .d)] rfl ?_
              refine r_d rfl rfl rfl (s_move rfl rfl) ?_
              refine r_d rfl rfl rfl (s_assign rfl rfl) ?_
              refine r_end ?_
              obtain rfl := Option.some.inj hr
              refine g_ret Try.func18 _ (.cons (resTmp rfl (Wk.refl _)) .nil) ?_
              rfl
             ·
              refine g_condF rfl ?_
              refine g_skip ?_
              refine g_inBlock ?_
              refine g_run (by kernel_rfl) [(0, .d), (1, .d)] rfl ?_
              refine r_d rfl rfl rfl (s_ar (r := ((i_16 + 1 : Nat) : Int)) rfl rfl rfl (by simp [iar]) (by omega)) ?_
              refine r_d rfl rfl rfl (s_move rfl rfl) ?_
              refine r_end ?_
              refine g_sub [(5, .ptr (.agg [enc_S_api_Image m_a0, .map m48_5])), (13, .ptr (enc_S_api_Unit q_14)), (81, .lst (m_a0.f0_Units.map enc_S_api_Unit)), (82, .int .i64 (m_a0.f0_Units.length : Int)), (83, .int .i64 ((i_12 : Nat) : Int)), (88, .lst (q_14.f2_Blocks.map enc_S_api_Block)), (89, .int .i64 (q_14.f2_Blocks.length : Int)), (90, .int .i64 ((i_16 + 1 : Nat) : Int))] (Sub.cons' rfl (Sub.cons' rfl (Sub.cons' rfl (Sub.cons' rfl (Sub.cons' rfl (Sub.cons' rfl (Sub.cons' rfl (Sub.cons' rfl (Sub.nil _))))))))) ?_
              exact IH4 _ _ _ (by omega) ⟨(i_16 + 1), r_21.2, rfl, rfl, rfl, (by omega), hr⟩
        ·
         refine g_sub [(5, .ptr (.agg [enc_S_api_Image m_a0, .map m48_5])), (66, .lst (m_a0.f0_Units.map enc_S_api_Unit)), (67, .int .i64 (m_a0.f0_Units.length : Int)), (68, .int .i64 ((0 : Nat) : Int))] (Sub.cons' rfl (Sub.cons' rfl (Sub.cons' rfl (Sub.cons' rfl (Sub.nil _))))) ?_
         refine g_loop (fun n env σ => ∃ (i_9 : Nat) (mm_10 : (List (S_api_Decl × Bool))), (n = m_a0.f0_Units.length - i_9) ∧ (env = [(5, .ptr (.agg [enc_S_api_Image m_a0, .map m48_5])), (66, .lst (m_a0.f0_Units.map enc_S_api_Unit)), (67, .int .i64 (m_a0.f0_Units.length : Int)), (68, .int .i64 (i_9 : Int))]) ∧ (σ = [.map m48_5 (mapM' enc_S_api_Decl D.bool mm_10)]) ∧ (i_9 ≤ m_a0.f0_Units.length) ∧ (lf_instr_CheckImage_L2 kk2 m_a0 (m_a0.f0_Units.drop i_9) mm_10 = some res)) _ ⟨0, [], rfl, rfl, rfl, Nat.zero_le _, hr⟩ ?_
         rintro n _ _ ⟨i_9, mm_10, rfl, rfl, rfl, hi2, hr⟩ IH2
         rcases listStep m_a0.f0_Units i_9 hi2 with ⟨ht2, hd2, he2⟩ | ⟨q_23, ht2, hd2, hq2, hlt2⟩
         ·
          rw [hd2, lf_instr_CheckImage_L2] at hr
          refine g_seq ?_
          refine g_run (by kernel_rfl) [(0, .d)] rfl ?_
          refine r_d rfl rfl rfl (s_cmp rfl rfl rfl rfl) ?_
          refine r_end ?_
          refine g_seq ?_
          refine g_known 69 false rfl ht2 ?_
          refine g_condF rfl ?_
          refine g_exit rfl ?_
          refine g_sub [(5, .ptr (.agg [enc_S_api_Image m_a0, .map m48_5]))] (Sub.cons' rfl (Sub.nil _)) ?_
          exact HK2 _ _ ⟨mm_10, rfl, rfl, hr⟩
         ·
          rw [hd2, lf_instr_CheckImage_L2] at hr
          refine g_seq ?_
          refine g_run (by kernel_rfl) [(0, .d)] rfl ?_
          refine r_d rfl rfl rfl (s_cmp rfl rfl rfl rfl) ?_
          refine r_end ?_
          refine g_seq ?_
          refine g_known 69 true rfl ht2 ?_
          refine g_condT rfl ?_
          refine g_skip ?_
          refine g_seq ?_
          refine g_block ?_
          refine g_seq ?_
          refine g_run (by kernel_rfl) [(0, .d), (1, .d), (2, .w), (3, .w)] rfl ?_
          refine r_d rfl rfl rfl (m_index (f := enc_S_api_Unit) m_a0.f0_Units rfl el_L_api_Unit rfl (asl rfl) rfl hq2 sz_S_api_Unit rfl) ?_
          refine r_d rfl rfl rfl (s_load rfl rfl (by exact ty_api_Unit) (sz_S_api_Unit _)) ?_
          refine r_w rfl rfl rfl (s_alloc rfl zv_api_Unit) ?_
          rintro _ _ ⟨b10_23, rfl, rfl⟩
          refine r_w01 rfl rfl rfl (t_store0 _ rfl rfl rfl (Wk.refl _) (pf0 _) (by exact ty_api_Unit) (sz_S_api_Unit _) rfl rfl) ?_
          refine r_end ?_
          refine g_freeze 10 b10_23 rfl (pf0 _) ?_
          refine g_seq ?_
          refine g_run (by kernel_rfl) [(0, .d), (1, .d), (2, .w), (3, .d)] rfl ?_
          refine r_d rfl rfl rfl (s_load rfl rfl (by exact ty_instr_checker) (by simp [sz, szs, szs_fsT, sz_S_api_Image])) ?_
          refine r_d rfl rfl rfl (s_load rfl rfl (by exact ty_api_Unit) (sz_S_api_Unit _)) ?_
          obtain ⟨r_25, hr_25, hr⟩ := bindS hr
          refine r_w rfl rfl rfl (s_call _ rfl cl_instr_checker_unit (.cons rfl (Wk.refl _) (.cons rfl (Wk.refl _) .nil)) (by exact (pf0 _)) (lg_instr_checker_unit_s1 _ _ _ _ _ hr_25)) ?_
          rintro _ _ ⟨_, ⟨rfl, rfl⟩, rfl⟩
          refine r_st ((.map m48_5 (mapM' enc_S_api_Decl D.bool r_25.2)) :: _) rfl ?_
          refine r_d rfl rfl rfl (s_assign rfl rfl) ?_
          refine r_end ?_
          refine g_seq ?_
          refine g_run (by kernel_rfl) [(0, .d), (1, .d)] rfl ?_
          refine r_d rfl rfl rfl (s_move rfl rfl) ?_
          refine r_d rfl rfl rfl (s_cmp rfl rfl rfl rfl) ?_
          refine r_end ?_
          refine g_sB 76 rfl hr (fun h76_25 hr => ?_) (fun h76_25 hr => ?_)
          ·
           refine g_condT rfl ?_
           refine g_seq ?_
           refine g_run (by kernel_rfl) [(0, .d), (1, .d)] rfl ?_
           refine r_d rfl rfl rfl (s_move rfl rfl) ?_
           refine r_d rfl rfl rfl (s_assign rfl rfl) ?_
           refine r_end ?_
           obtain rfl := Option.some.inj hr
           refine g_ret Try.func18 _ (.cons (resTmp rfl (Wk.refl _)) .nil) ?_
           rfl
          ·
           refine g_condF rfl ?_
           refine g_skip ?_
           refine g_inBlock ?_
           refine g_run (by kernel_rfl) [(0, .d), (1, .d)] rfl ?_
           refine r_d rfl rfl rfl (s_ar (r := ((i_9 + 1 : Nat) : Int)) rfl rfl rfl (by simp [iar]) (by omega)) ?_
           refine r_d rfl rfl rfl (s_move rfl rfl) ?_
           refine r_end ?_
           refine g_sub [(5, .ptr (.agg [enc_S_api_Image m_a0, .map m48_5])), (66, .lst (m_a0.f0_Units.map enc_S_api_Unit)), (67, .int .i64 (m_a0.f0_Units.length : Int)), (68, .int .i64 ((i_9 + 1 : Nat) : Int))] (Sub.cons' rfl (Sub.cons' rfl (Sub.cons' rfl (Sub.cons' rfl (Sub.nil _))))) ?_
           exact IH2 _ _ _ (by omega) ⟨(i_9 + 1), r_25.2, rfl, rfl, rfl, (by omega), hr⟩
       ·
        refine g_sub [(5, .ptr (.agg [enc_S_api_Image m_a0, .map m48_5])), (52, .lst (m_a0.f1_Access.map enc_S_api_Access)), (53, .int .i64 (m_a0.f1_Access.length : Int)), (54, .int .i64 ((0 : Nat) : Int))] (Sub.cons' rfl (Sub.cons' rfl (Sub.cons' rfl (Sub.cons' rfl (Sub.nil _))))) ?_
        refine g_loop (fun n env σ => ∃ (i_8 : Nat), (n = m_a0.f1_Access.length - i_8) ∧ (env = [(5, .ptr (.agg [enc_S_api_Image m_a0, .map m48_5])), (52, .lst (m_a0.f1_Access.map enc_S_api_Access)), (53, .int .i64 (m_a0.f1_Access.length : Int)), (54, .int .i64 (i_8 : Int))]) ∧ (σ = [.map m48_5 (mapM' enc_S_api_Decl D.bool ([] : (List (S_api_Decl × Bool))))]) ∧ (i_8 ≤ m_a0.f1_Access.length) ∧ (lf_instr_CheckImage_L1 kk1 (m_a0.f1_Access.drop i_8) = some res)) _ ⟨0, rfl, rfl, rfl, Nat.zero_le _, hr⟩ ?_
        rintro n _ _ ⟨i_8, rfl, rfl, rfl, hi1, hr⟩ IH1
        rcases listStep m_a0.f1_Access i_8 hi1 with ⟨ht1, hd1, he1⟩ | ⟨q_27, ht1, hd1, hq1, hlt1⟩
        ·
         rw [hd1, lf_instr_CheckImage_L1] at hr
         refine g_seq ?_
         refine g_run (by kernel_rfl) [(0, .d)] rfl ?_
         refine r_d rfl rfl rfl (s_cmp rfl rfl rfl rfl) ?_
         refine r_end ?_
         refine g_seq ?_
         refine g_known 55 false rfl ht1 ?_
         refine g_condF rfl ?_
         refine g_exit rfl ?_
         refine g_sub [(5, .ptr (.agg [enc_S_api_Image m_a0, .map m48_5]))] (Sub.cons' rfl (Sub.nil _)) ?_
         exact HK1 _ _ ⟨rfl, rfl, hr⟩
        ·
         rw [hd1, lf_instr_CheckImage_L1] at hr
         refine g_seq ?_
         refine g_run (by kernel_rfl) [(0, .d)] rfl ?_
         refine r_d rfl rfl rfl (s_cmp rfl rfl rfl rfl) ?_
         refine r_end ?_
         refine g_seq ?_
         refine g_known 55 true rfl ht1 ?_
         refine g_condT rfl ?_
         refine g_skip ?_
         refine g_seq ?_
         refine g_block ?_
         refine g_seq ?_
         refine g_run (by kernel_rfl) [(0, .d), (1, .d), (2, .w), (3, .w)] rfl ?_
         refine r_d rfl rfl rfl (m_index (f := enc_S_api_Access) m_a0.f1_Access rfl el_L_api_Access rfl (asl rfl) rfl hq1 sz_S_api_Access rfl) ?_
         refine r_d rfl rfl rfl (s_load rfl rfl (by exact ty_api_Access) (sz_S_api_Access _)) ?_
         refine r_w rfl rfl rfl (s_alloc rfl zv_api_Access) ?_
         rintro _ _ ⟨b7_27, rfl, rfl⟩
         refine r_w01 rfl rfl rfl (t_store0 _ rfl rfl rfl (Wk.refl _) (pf0 _) (by exact ty_api_Access) (sz_S_api_Access _) rfl rfl) ?_
         refine r_end ?_
         refine g_freeze 7 b7_27 rfl (pf0 _) ?_
         refine g_seq ?_
         refine g_run (by kernel_rfl) [(0, .d), (1, .d), (2, .d)] rfl ?_
         refine r_d rfl rfl rfl (s_load rfl rfl (by exact ty_api_Access) (sz_S_api_Access _)) ?_
         obtain ⟨r_29, hr_29, hr⟩ := bindS hr
         refine r_d rfl rfl rfl (s_callD rfl cl_instr_access (.cons rfl (Wk.refl _) .nil) (lg_instr_access _ _ hr_29)) ?_
         refine r_d rfl rfl rfl (s_assign rfl rfl) ?_
         refine r_end ?_
         refine g_seq ?_
         refine g_run (by kernel_rfl) [(0, .d), (1, .d)] rfl ?_
         refine r_d rfl rfl rfl (s_move rfl rfl) ?_
         refine r_d rfl rfl rfl (s_cmp rfl rfl rfl rfl) ?_
         refine r_end ?_
         refine g_sB 61 rfl hr (fun h61_29 hr => ?_) (fun h61_29 hr => ?_)
         ·
          refine g_condT rfl ?_
          refine g_seq ?_
          refine g_run (by kernel_rfl) [(0, .d), (1, .d)] rfl ?_
          refine r_d rfl rfl rfl (s_move rfl rfl) ?_
          refine r_d rfl rfl rfl (s_assign rfl rfl) ?_
          refine r_end ?_
          obtain rfl := Option.some.inj hr
          refine g_ret Try.func18 _ (.cons (resTmp rfl (Wk.refl _)) .nil) ?_
          rfl
         ·
          refine g_condF rfl ?_
          refine g_skip ?_
          refine g_inBlock ?_
          refine g_run (by kernel_rfl) [(0, .d), (1, .d)] rfl ?_
          refine r_d rfl rfl rfl (s_ar (r := ((i_8 + 1 : Nat) : Int)) rfl rfl rfl (by simp [iar]) (by omega)) ?_
          refine r_d rfl rfl rfl (s_move rfl rfl) ?_
          refine r_end ?_
          refine g_sub [(5, .ptr (.agg [enc_S_api_Image m_a0, .map m48_5])), (52, .lst (m_a0.f1_Access.map enc_S_api_Access)), (53, .int .i64 (m_a0.f1_Access.length : Int)), (54, .int .i64 ((i_8 + 1 : Nat) : Int))] (Sub.cons' rfl (Sub.cons' rfl (Sub.cons' rfl (Sub.cons' rfl (Sub.nil _))))) ?_
          exact IH1 _ _ _ (by omega) ⟨(i_8 + 1), rfl, rfl, rfl, (by omega), hr⟩
      ·
       refine g_sub [(1, .ptr (enc_S_api_Image m_a0)), (36, .lst (m_a0.f0_Units.map enc_S_api_Unit)), (37, .int .i64 (m_a0.f0_Units.length : Int)), (38, .int .i64 ((0 : Nat) : Int))] (Sub.cons' rfl (Sub.cons' rfl (Sub.cons' rfl (Sub.cons' rfl (Sub.nil _))))) ?_
       refine g_loop (fun n env σ => ∃ (i_5 : Nat), (n = m_a0.f0_Units.length - i_5) ∧ (env = [(1, .ptr (enc_S_api_Image m_a0)), (36, .lst (m_a0.f0_Units.map enc_S_api_Unit)), (37, .int .i64 (m_a0.f0_Units.length : Int)), (38, .int .i64 (i_5 : Int))]) ∧ (σ = []) ∧ (i_5 ≤ m_a0.f0_Units.length) ∧ (lf_instr_CheckImage_L0 kk0 (m_a0.f0_Units.drop i_5) = some res)) _ ⟨0, rfl, rfl, rfl, Nat.zero_le _, hr⟩ ?_
       rintro n _ _ ⟨i_5, rfl, rfl, rfl, hi0, hr⟩ IH0
       rcases listStep m_a0.f0_Units i_5 hi0 with ⟨ht0, hd0, he0⟩ | ⟨q_31, ht0, hd0, hq0, hlt0⟩
       ·
        rw [hd0, lf_instr_CheckImage_L0] at hr
        refine g_seq ?_
        refine g_run (by kernel_rfl) [(0, .d)] rfl ?_
        refine r_d rfl rfl rfl (s_cmp rfl rfl rfl rfl) ?_
        refine r_end ?_
        refine g_seq ?_
        refine g_known 39 false rfl ht0 ?_
        refine g_condF rfl ?_
        refine g_exit rfl ?_
        refine g_sub [(1, .ptr (enc_S_api_Image m_a0))] (Sub.cons' rfl (Sub.nil _)) ?_
        exact HK0 _ _ ⟨rfl, rfl, hr⟩
       ·
        rw [hd0, lf_instr_CheckImage_L0] at hr
        refine g_seq ?_
        refine g_run (by kernel_rfl) [(0, .d)] rfl ?_
        refine r_d rfl rfl rfl (s_cmp rfl rfl rfl rfl) ?_
        refine r_end ?_
        refine g_seq ?_
        refine g_known 39 true rfl ht0 ?_
        refine g_condT rfl ?_
        refine g_skip ?_
        refine g_seq ?_
        refine g_block ?_
        refine g_seq ?_
        refine g_run (by kernel_rfl) [(0, .d), (1, .d), (2, .w), (3, .w)] rfl ?_
        refine r_d rfl rfl rfl (m_index (f := enc_S_api_Unit) m_a0.f0_Units rfl el_L_api_Unit rfl (asl rfl) rfl hq0 sz_S_api_Unit rfl) ?_
        refine r_d rfl rfl rfl (s_load rfl rfl (by exact ty_api_Unit) (sz_S_api_Unit _)) ?_
        refine r_w rfl rfl rfl (s_alloc rfl zv_api_Unit) ?_
        rintro _ _ ⟨b4_31, rfl, rfl⟩
        refine r_w01 rfl rfl rfl (t_store0 _ rfl rfl rfl (Wk.refl _) (pf0 _) (by exact ty_api_Unit) (sz_S_api_Unit _) rfl rfl) ?_
        refine r_end ?_
        refine g_freeze 4 b4_31 rfl (pf0 _) ?_
        refine g_seq ?_
        refine g_run (by kernel_rfl) [(0, .d), (1, .d), (2, .d), (3, .d)] rfl ?_
        refine r_d rfl rfl rfl (s_fieldAddr rfl fl_api_Unit_2 rfl rfl rfl rfl) ?_
        refine r_d rfl rfl rfl (s_load rfl rfl (by exact ty_L_api_Block) rfl) ?_
        refine r_d rfl rfl rfl (m_len (f := enc_S_api_Block) q_31.f2_Blocks rfl el_L_api_Block rfl (asl rfl)) ?_
        refine r_d rfl rfl rfl (s_cmp rfl rfl rfl rfl) ?_
        refine r_end ?_
        refine g_sB 45 rfl hr (fun h45_32 hr => ?_) (fun h45_32 hr => ?_)
        ·
         refine g_condT rfl ?_
         refine g_seq ?_
         refine g_run (by kernel_rfl) [(0, .d)] rfl ?_
         refine r_d rfl rfl rfl (s_assign rfl rfl) ?_
         refine r_end ?_
         obtain rfl := Option.some.inj hr
         refine g_ret Try.func18 _ (.cons (resTmp rfl (Wk.refl _)) .nil) ?_
         rfl
        ·
         refine g_condF rfl ?_
         refine g_skip ?_
         refine g_inBlock ?_
         refine g_run (by kernel_rfl) [(0, .d), (1, .d)] rfl ?_
         refine r_d rfl rfl rfl (s_ar (r := ((i_5 + 1 : Nat) : Int)) rfl rfl rfl (by simp [iar]) (by omega)) ?_
         refine r_d rfl rfl rfl (s_move rfl rfl) ?_
         refine r_end ?_
         refine g_sub [(1, .ptr (enc_S_api_Image m_a0)), (36, .lst (m_a0.f0_Units.map enc_S_api_Unit)), (37, .int .i64 (m_a0.f0_Units.length : Int)), (38, .int .i64 ((i_5 + 1 : Nat) : Int))] (Sub.cons' rfl (Sub.cons' rfl (Sub.cons' rfl (Sub.cons' rfl (Sub.nil _))))) ?_
         exact IH0 _ _ _ (by omega) ⟨(i_5 + 1), rfl, rfl, rfl, (by omega), hr⟩

noncomputable def lf_slices_EqualFunc_s1_L0 (k : Option (Bool)) (s2_a1 : (List T)) : List T → Nat → Option (Bool)
  | [], i_2 =>
  k
  | q_3 :: rest, i_2 =>
  ((getI s2_a1 (i_2 : Int)).bind fun q_5 =>
  ((x_sameT q_3 q_5).bind fun r_7 =>
  (bif (!r_7) then
  some (false)
  else
  (lf_slices_EqualFunc_s1_L0 k s2_a1 rest (i_2 + 1)))))
noncomputable def lf_slices_EqualFunc_s1 (s1_a0 : (List T)) (s2_a1 : (List T)) : Option (Bool) :=
  (bif ((s1_a0.length : Int) != (s2_a1.length : Int)) then
  some (false)
  else
  (lf_slices_EqualFunc_s1_L0 (some (true)) s2_a1 s1_a0 0))

set_option maxHeartbeats 1000000 in
theorem lg_slices_EqualFunc_s1 (s1_a0 : (List T)) (s2_a1 : (List T)) (res : Bool) (hr : lf_slices_EqualFunc_s1 s1_a0 s2_a1 = some res) : Gives Try.prog 44 [.lst (s1_a0.map encT), .lst (s2_a1.map encT), .clo (.func 45) [] []] (.bool res) := by
  unfold lf_slices_EqualFunc_s1 at hr
  refine spec_env [(0, .lst (s1_a0.map encT)), (1, .lst (s2_a1.map encT)), (2, .clo (.func 45) [] [])] Try.func44 rfl rfl fun K hK => ?_
  refine g_seq ?_
  refine g_run (by kernel_rfl) [(0, .d)] rfl ?_
  refine r_d rfl rfl rfl (s_assign rfl rfl) ?_
  refine r_end ?_
  refine g_seq ?_
  refine g_seq ?_
  refine g_run (by kernel_rfl) [(0, .d), (1, .d), (2, .d), (3, .d), (4, .d)] rfl ?_
  refine r_d rfl rfl rfl (s_move rfl rfl) ?_
  refine r_d rfl rfl rfl (m_len (f := encT) s1_a0 rfl el_L_api_Term rfl (asl rfl)) ?_
  refine r_d rfl rfl rfl (s_move rfl rfl) ?_
  refine r_d rfl rfl rfl (m_len (f := encT) s2_a1 rfl el_L_api_Term rfl (asl rfl)) ?_
  refine r_d rfl rfl rfl (s_cmp rfl rfl rfl rfl) ?_
  refine r_end ?_
  refine g_sB 14 rfl hr (fun h14_0 hr => ?_) (fun h14_0 hr => ?_)
  ·
   refine g_condT rfl ?_
   refine g_seq ?_
   refine g_run (by kernel_rfl) [(0, .d)] rfl ?_
   refine r_d rfl rfl rfl (s_assign rfl rfl) ?_
   refine r_end ?_
   obtain rfl := Option.some.inj hr
   refine g_ret Try.func44 _ (.cons (resTmp rfl (Wk.refl _)) .nil) ?_
   rfl
  ·
   refine g_condF rfl ?_
   refine g_skip ?_
   refine g_seq ?_
   refine g_seq ?_
   refine g_run (by kernel_rfl) [(0, .d), (1, .d), (2, .d)] rfl ?_
   refine r_d rfl rfl rfl (s_move rfl rfl) ?_
   refine r_d rfl rfl rfl (m_len (f := encT) s1_a0 rfl el_L_api_Term rfl (asl rfl)) ?_
   refine r_d rfl rfl rfl (s_move rfl rfl) ?_
   refine r_end ?_
   obtain ⟨kk0, hkk0, hr⟩ := exK (fun k => lf_slices_EqualFunc_s1_L0 k s2_a1 s1_a0 0) hr
   refine g_len 0 rfl (asl rfl) fun hla0 => ?_
   simp only [List.length_map] at hla0
   refine g_blockJ (fun env σ => env = [] ∧ σ = [] ∧ kk0 = some res) ?_ (fun HK0 => ?_)
   ·
    rintro _ _ ⟨rfl, rfl, hr⟩
    rw [hkk0] at hr
    refine g_seq ?_
    refine g_run (by kernel_rfl) [(0, .d)] rfl ?_
    refine r_d rfl rfl rfl (s_assign rfl rfl) ?_
    refine r_end ?_
    obtain rfl := Option.some.inj hr
    refine g_ret Try.func44 _ (.cons (resTmp rfl (Wk.refl _)) .nil) ?_
    rfl
   ·
    refine g_sub [(1, .lst (s2_a1.map encT)), (2, .clo (.func 45) [] []), (15, .lst (s1_a0.map encT)), (16, .int .i64 (s1_a0.length : Int)), (17, .int .i64 ((0 : Nat) : Int))] (Sub.cons' rfl (Sub.cons' rfl (Sub.cons' rfl (Sub.cons' rfl (Sub.cons' rfl (Sub.nil _)))))) ?_
    refine g_loop (fun n env σ => ∃ (i_2 : Nat), (n = s1_a0.length - i_2) ∧ (env = [(1, .lst (s2_a1.map encT)), (2, .clo (.func 45) [] []), (15, .lst (s1_a0.map encT)), (16, .int .i64 (s1_a0.length : Int)), (17, .int .i64 (i_2 : Int))]) ∧ (σ = []) ∧ (i_2 ≤ s1_a0.length) ∧ (lf_slices_EqualFunc_s1_L0 kk0 s2_a1 (s1_a0.drop i_2) i_2 = some res)) _ ⟨0, rfl, rfl, rfl, Nat.zero_le _, hr⟩ ?_
    rintro n _ _ ⟨i_2, rfl, rfl, rfl, hi0, hr⟩ IH0
    rcases listStep s1_a0 i_2 hi0 with ⟨ht0, hd0, he0⟩ | ⟨q_3, ht0, hd0, hq0, hlt0⟩
    ·
     rw [hd0, lf_slices_EqualFunc_s1_L0] at hr
     refine g_seq ?_
     refine g_run (by kernel_rfl) [(0, .d)] rfl ?_
     refine r_d rfl rfl rfl (s_cmp rfl rfl rfl rfl) ?_
     refine r_end ?_
     refine g_seq ?_
     refine g_known 18 false rfl ht0 ?_
     refine g_condF rfl ?_
     refine g_exit rfl ?_
     refine g_sub [] (Sub.nil _) ?_
     exact HK0 _ _ ⟨rfl, rfl, hr⟩
    ·
     rw [hd0, lf_slices_EqualFunc_s1_L0] at hr
     refine g_seq ?_
     refine g_run (by kernel_rfl) [(0, .d)] rfl ?_
     refine r_d rfl rfl rfl (s_cmp rfl rfl rfl rfl) ?_
     refine r_end ?_
     refine g_seq ?_
     refine g_known 18 true rfl ht0 ?_
     refine g_condT rfl ?_
     refine g_skip ?_
     refine g_seq ?_
     refine g_block ?_
     refine g_seq ?_
     refine g_run (by kernel_rfl) [(0, .d), (1, .d), (2, .d), (3, .w), (4, .d), (5, .w)] rfl ?_
     refine r_d rfl rfl rfl (s_move rfl rfl) ?_
     refine r_d rfl rfl rfl (m_index (f := encT) s1_a0 rfl el_L_api_Term rfl (asl rfl) rfl hq0 sz_encT rfl) ?_
     refine r_d rfl rfl rfl (s_load rfl rfl (by exact ty_api_Term) (sz_encT _)) ?_
     refine r_w rfl rfl rfl (s_alloc rfl zv_api_Term) ?_
     rintro _ _ ⟨b8_3, rfl, rfl⟩
     refine r_d rfl rfl rfl (s_assign rfl rfl) ?_
     refine r_w01 rfl rfl rfl (t_store0 _ rfl rfl rfl (Wk.refl _) (pf0 _) (by exact ty_api_Term) (sz_encT _) rfl rfl) ?_
     refine r_end ?_
     refine g_freeze 8 b8_3 rfl (pf0 _) ?_
     refine g_seq ?_
     refine g_run (by kernel_rfl) [(0, .d), (1, .d), (2, .d), (3, .d), (4, .w), (5, .w)] rfl ?_
     refine r_d rfl rfl rfl (s_move rfl rfl) ?_
     refine r_d rfl rfl rfl (s_move rfl rfl) ?_
     obtain ⟨q_5, hq_5, hr⟩ := bindS hr
     refine r_d rfl rfl rfl (m_index (f := encT) s2_a1 rfl el_L_api_Term rfl (asl rfl) rfl hq_5 sz_encT rfl) ?_
     refine r_d rfl rfl rfl (s_load rfl rfl (by exact ty_api_Term) (sz_encT _)) ?_
     refine r_w rfl rfl rfl (s_alloc rfl zv_api_Term) ?_
     rintro _ _ ⟨b9_5, rfl, rfl⟩
     refine r_w01 rfl rfl rfl (t_store0 _ rfl rfl rfl (Wk.refl _) (pf0 _) (by exact ty_api_Term) (sz_encT _) rfl rfl) ?_
     refine r_end ?_
     refine g_freeze 9 b9_5 rfl (pf0 _) ?_
     refine g_seq ?_
     refine g_run (by kernel_rfl) [(0, .d), (1, .d), (2, .d), (3, .d), (4, .d)] rfl ?_
     refine r_d rfl rfl rfl (s_move rfl rfl) ?_
     refine r_d rfl rfl rfl (s_load rfl rfl (by exact ty_api_Term) (sz_encT _)) ?_
     refine r_d rfl rfl rfl (s_load rfl rfl (by exact ty_api_Term) (sz_encT _)) ?_
     obtain ⟨r_7, hr_7, hr⟩ := bindS hr
     refine r_d rfl rfl rfl (s_callVD rfl rfl cl_term_Same (.cons rfl (Wk.refl _) (.cons rfl (Wk.refl _) .nil)) rfl (lx_term_Same _ _ _ hr_7)) ?_
     refine r_d rfl rfl rfl (s_not rfl rfl) ?_
     refine r_end ?_
     refine g_sB 30 rfl hr (fun h30_7 hr => ?_) (fun h30_7 hr => ?_)
     ·
      refine g_condT rfl ?_
      refine g_seq ?_
      refine g_run (by kernel_rfl) [(0, .d)] rfl ?_
      refine r_d rfl rfl rfl (s_assign rfl rfl) ?_
      refine r_end ?_
      obtain rfl := Option.some.inj hr
      refine g_ret Try.func44 _ (.cons (resTmp rfl (Wk.refl _)) .nil) ?_
      rfl
     ·
      refine g_condF rfl ?_
      refine g_skip ?_
      refine g_inBlock ?_
      refine g_run (by kernel_rfl) [(0, .d), (1, .d)] rfl ?_
      refine r_d rfl rfl rfl (s_ar (r := ((i_2 + 1 : Nat) : Int)) rfl rfl rfl (by simp [iar]) (by omega)) ?_
      refine r_d rfl rfl rfl (s_move rfl rfl) ?_
      refine r_end ?_
      refine g_sub [(1, .lst (s2_a1.map encT)), (2, .clo (.func 45) [] []), (15, .lst (s1_a0.map encT)), (16, .int .i64 (s1_a0.length : Int)), (17, .int .i64 ((i_2 + 1 : Nat) : Int))] (Sub.cons' rfl (Sub.cons' rfl (Sub.cons' rfl (Sub.cons' rfl (Sub.cons' rfl (Sub.nil _)))))) ?_
      exact IH0 _ _ _ (by omega) ⟨(i_2 + 1), rfl, rfl, rfl, (by omega), hr⟩

noncomputable def lf_instr_Same (a_a0 : S_api_Instr) (b_a1 : S_api_Instr) : Option (Bool) :=
  (bif (a_a0.f0_Op == b_a1.f0_Op) then
  (bif (a_a0.f1_A == b_a1.f1_A) then
  (bif (a_a0.f2_B == b_a1.f2_B) then
  ((x_sameG a_a0.f3_Goal b_a1.f3_Goal).bind fun r_4 =>
  (bif r_4 then
  ((lf_slices_EqualFunc_s1 a_a0.f4_Terms b_a1.f4_Terms).bind fun r_6 =>
  some (r_6))
  else
  some (false)))
  else
  some (false))
  else
  some (false))
  else
  some (false))

set_option maxHeartbeats 1000000 in
theorem lg_instr_Same (a_a0 : S_api_Instr) (b_a1 : S_api_Instr) (res : Bool) (hr : lf_instr_Same a_a0 b_a1 = some res) : Gives Try.prog 15 [enc_S_api_Instr a_a0, enc_S_api_Instr b_a1] (.bool res) := by
  unfold lf_instr_Same at hr
  refine spec_env [(0, enc_S_api_Instr a_a0), (1, enc_S_api_Instr b_a1)] Try.func15 rfl rfl fun K hK => ?_
  refine g_seq ?_
  refine g_run (by kernel_rfl) [(0, .d), (1, .d), (2, .d)] rfl ?_
  refine r_d rfl rfl rfl (s_box rfl rfl rfl) ?_
  refine r_d rfl rfl rfl (s_box rfl rfl rfl) ?_
  refine r_d rfl rfl rfl (s_assign rfl rfl) ?_
  refine r_end ?_
  refine g_seq ?_
  refine g_run (by kernel_rfl) [(0, .d), (1, .d), (2, .d), (3, .d), (4, .d), (5, .d), (6, .d), (7, .d), (8, .d), (9, .d), (10, .d), (11, .d), (12, .d), (13, .d), (14, .d), (15, .d), (16, .d), (17, .d), (18, .d), (19, .d), (20, .d), (21, .d), (22, .d), (23, .d), (24, .d), (25, .d), (26, .d), (27, .d), (28, .d), (29, .d), (30, .d), (31, .d), (32, .d), (33, .d)] rfl ?_
  refine r_d rfl rfl rfl (s_fieldAddr rfl fl_api_Instr_0 rfl rfl rfl rfl) ?_
  refine r_d rfl rfl rfl (s_load rfl rfl (by exact ty_int) rfl) ?_
  refine r_d rfl rfl rfl (s_fieldAddr rfl fl_api_Instr_0 rfl rfl rfl rfl) ?_
  refine r_d rfl rfl rfl (s_load rfl rfl (by exact ty_int) rfl) ?_
  refine r_d rfl rfl rfl (s_cmp rfl rfl rfl rfl) ?_
  refine r_d rfl rfl rfl (s_move rfl rfl) ?_
  refine r_sB 10 rfl hr (fun h10_0 hr => ?_) (fun h10_0 hr => ?_)
  ·
   refine r_d rfl rfl rfl (s_fieldAddr rfl fl_api_Instr_1 rfl rfl rfl rfl) ?_
   refine r_d rfl rfl rfl (s_load rfl rfl (by exact ty_int) rfl) ?_
   refine r_d rfl rfl rfl (s_fieldAddr rfl fl_api_Instr_1 rfl rfl rfl rfl) ?_
   refine r_d rfl rfl rfl (s_load rfl rfl (by exact ty_int) rfl) ?_
   refine r_d rfl rfl rfl (s_cmp rfl rfl rfl rfl) ?_
   refine r_d rfl rfl rfl (s_pickT rfl rfl rfl) ?_
   refine r_d rfl rfl rfl (s_move rfl rfl) ?_
   refine r_sB 17 rfl hr (fun h17_1 hr => ?_) (fun h17_1 hr => ?_)
   ·
    refine r_d rfl rfl rfl (s_fieldAddr rfl fl_api_Instr_2 rfl rfl rfl rfl) ?_
    refine r_d rfl rfl rfl (s_load rfl rfl (by exact ty_int) rfl) ?_
    refine r_d rfl rfl rfl (s_fieldAddr rfl fl_api_Instr_2 rfl rfl rfl rfl) ?_
    refine r_d rfl rfl rfl (s_load rfl rfl (by exact ty_int) rfl) ?_
    refine r_d rfl rfl rfl (s_cmp rfl rfl rfl rfl) ?_
    refine r_d rfl rfl rfl (s_pickT rfl rfl rfl) ?_
    refine r_d rfl rfl rfl (s_move rfl rfl) ?_
    refine r_sB 24 rfl hr (fun h24_2 hr => ?_) (fun h24_2 hr => ?_)
    ·
     refine r_d rfl rfl rfl (s_fieldAddr rfl fl_api_Instr_3 rfl rfl rfl rfl) ?_
     refine r_d rfl rfl rfl (s_load rfl rfl (by exact ty_api_Goal) (sz_encG _)) ?_
     refine r_d rfl rfl rfl (s_fieldAddr rfl fl_api_Instr_3 rfl rfl rfl rfl) ?_
     refine r_d rfl rfl rfl (s_load rfl rfl (by exact ty_api_Goal) (sz_encG _)) ?_
     obtain ⟨r_4, hr_4, hr⟩ := bindS hr
     refine r_d rfl rfl rfl (s_callD rfl cl_term_SameGoal (.cons rfl (Wk.refl _) (.cons rfl (Wk.refl _) .nil)) (lx_term_SameGoal _ _ _ hr_4)) ?_
     refine r_d rfl rfl rfl (s_pickT rfl rfl rfl) ?_
     refine r_d rfl rfl rfl (s_move rfl rfl) ?_
     refine r_sB 31 rfl hr (fun h31_4 hr => ?_) (fun h31_4 hr => ?_)
     ·
      refine r_d rfl rfl rfl (s_fieldAddr rfl fl_api_Instr_4 rfl rfl (by simp [szs, sz, sz_encG]) rfl) ?_
      refine r_d rfl rfl rfl (s_load rfl rfl (by exact ty_L_api_Term) rfl) ?_
      refine r_d rfl rfl rfl (s_fieldAddr rfl fl_api_Instr_4 rfl rfl (by simp [szs, sz, sz_encG]) rfl) ?_
      refine r_d rfl rfl rfl (s_load rfl rfl (by exact ty_L_api_Term) rfl) ?_
      obtain ⟨r_6, hr_6, hr⟩ := bindS hr
      refine r_d rfl rfl rfl (s_callD rfl cl_slices_EqualFunc_api_Term_api_Term_api_Term_api_Term (.cons rfl (Wk.refl _) (.cons rfl (Wk.refl _) (.cons rfl (Wk.refl _) .nil))) (lg_slices_EqualFunc_s1 _ _ _ hr_6)) ?_
      refine r_d rfl rfl rfl (s_pickT rfl rfl rfl) ?_
      refine r_d rfl rfl rfl (s_assign rfl rfl) ?_
      refine r_end ?_
      obtain rfl := Option.some.inj hr
      refine g_ret Try.func15 _ (.cons (resTmp rfl (Wk.refl _)) .nil) ?_
      rfl
     ·
      refine r_skip rfl rfl rfl ?_
      refine r_skip rfl rfl rfl ?_
      refine r_skip rfl rfl rfl ?_
      refine r_skip rfl rfl rfl ?_
      refine r_skip rfl rfl rfl ?_
      refine r_d rfl rfl rfl (s_pickF rfl rfl rfl) ?_
      refine r_d rfl rfl rfl (s_assign rfl rfl) ?_
      refine r_end ?_
      obtain rfl := Option.some.inj hr
      refine g_ret Try.func15 _ (.cons (resTmp rfl (Wk.refl _)) .nil) ?_
      rfl
    ·
     refine r_skip rfl rfl rfl ?_
     refine r_skip rfl rfl rfl ?_
     refine r_skip rfl rfl rfl ?_
     refine r_skip rfl rfl rfl ?_
     refine r_skip rfl rfl rfl ?_
     refine r_d rfl rfl rfl (s_pickF rfl rfl rfl) ?_
     refine r_d rfl rfl rfl (s_move rfl rfl) ?_
     refine r_skip rfl rfl rfl ?_
     refine r_skip rfl rfl rfl ?_
     refine r_skip rfl rfl rfl ?_
     refine r_skip rfl rfl rfl ?_
     refine r_skip rfl rfl rfl ?_
     refine r_d rfl rfl rfl (s_pickF rfl rfl rfl) ?_
     refine r_d rfl rfl rfl (s_assign rfl rfl) ?_
     refine r_end ?_
     obtain rfl := Option.some.inj hr
     refine g_ret Try.func15 _ (.cons (resTmp rfl (Wk.refl _)) .nil) ?_
     rfl
   ·
    refine r_skip rfl rfl rfl ?_
    refine r_skip rfl rfl rfl ?_
    refine r_skip rfl rfl rfl ?_
    refine r_skip rfl rfl rfl ?_
    refine r_skip rfl rfl rfl ?_
    refine r_d rfl rfl rfl (s_pickF rfl rfl rfl) ?_
    refine r_d rfl rfl rfl (s_move rfl rfl) ?_
    refine r_skip rfl rfl rfl ?_
    refine r_skip rfl rfl rfl ?_
    refine r_skip rfl rfl rfl ?_
    refine r_skip rfl rfl rfl ?_
    refine r_skip rfl rfl rfl ?_
    refine r_d rfl rfl rfl (s_pickF rfl rfl rfl) ?_
    refine r_d rfl rfl rfl (s_move rfl rfl) ?_
    refine r_skip rfl rfl rfl ?_
    refine r_skip rfl rfl rfl ?_
    refine r_skip rfl rfl rfl ?_
    refine r_skip rfl rfl rfl ?_
    refine r_skip rfl rfl rfl ?_
    refine r_d rfl rfl rfl (s_pickF rfl rfl rfl) ?_
    refine r_d rfl rfl rfl (s_assign rfl rfl) ?_
    refine r_end ?_
    obtain rfl := Option.some.inj hr
    refine g_ret Try.func15 _ (.cons (resTmp rfl (Wk.refl _)) .nil) ?_
    rfl
  ·
   refine r_skip rfl rfl rfl ?_
   refine r_skip rfl rfl rfl ?_
   refine r_skip rfl rfl rfl ?_
   refine r_skip rfl rfl rfl ?_
   refine r_skip rfl rfl rfl ?_
   refine r_d rfl rfl rfl (s_pickF rfl rfl rfl) ?_
   refine r_d rfl rfl rfl (s_move rfl rfl) ?_
   refine r_skip rfl rfl rfl ?_
   refine r_skip rfl rfl rfl ?_
   refine r_skip rfl rfl rfl ?_
   refine r_skip rfl rfl rfl ?_
   refine r_skip rfl rfl rfl ?_
   refine r_d rfl rfl rfl (s_pickF rfl rfl rfl) ?_
   refine r_d rfl rfl rfl (s_move rfl rfl) ?_
   refine r_skip rfl rfl rfl ?_
   refine r_skip rfl rfl rfl ?_
   refine r_skip rfl rfl rfl ?_
   refine r_skip rfl rfl rfl ?_
   refine r_skip rfl rfl rfl ?_
   refine r_d rfl rfl rfl (s_pickF rfl rfl rfl) ?_
   refine r_d rfl rfl rfl (s_move rfl rfl) ?_
   refine r_skip rfl rfl rfl ?_
   refine r_skip rfl rfl rfl ?_
   refine r_skip rfl rfl rfl ?_
   refine r_skip rfl rfl rfl ?_
   refine r_skip rfl rfl rfl ?_
   refine r_d rfl rfl rfl (s_pickF rfl rfl rfl) ?_
   refine r_d rfl rfl rfl (s_assign rfl rfl) ?_
   refine r_end ?_
   obtain rfl := Option.some.inj hr
   refine g_ret Try.func15 _ (.cons (resTmp rfl (Wk.refl _)) .nil) ?_
   rfl

noncomputable def lf_slices_Equal_int_int_L0 (k : Option (Bool)) (s2_a1 : (List Int)) : List Int → Nat → Option (Bool)
  | [], i_2 =>
  k
  | q_3 :: rest, i_2 =>
  ((getI s2_a1 (i_2 : Int)).bind fun q_4 =>
  (bif (q_3 != q_4) then
  some (false)
  else
  (lf_slices_Equal_int_int_L0 k s2_a1 rest (i_2 + 1))))
noncomputable def lf_slices_Equal_int_int (s1_a0 : (List Int)) (s2_a1 : (List Int)) : Option (Bool) :=
  (bif ((s1_a0.length : Int) != (s2_a1.length : Int)) then
  some (false)
  else
  (lf_slices_Equal_int_int_L0 (some (true)) s2_a1 s1_a0 0))

set_option maxHeartbeats 1000000 in
theorem lg_slices_Equal_int_int (s1_a0 : (List Int)) (s2_a1 : (List Int)) (res : Bool) (hr : lf_slices_Equal_int_int s1_a0 s2_a1 = some res) : Gives Try.prog 38 [.lst (s1_a0.map (D.int .i64)), .lst (s2_a1.map (D.int .i64))] (.bool res) := by
  unfold lf_slices_Equal_int_int at hr
  refine spec_env [(0, .lst (s1_a0.map (D.int .i64))), (1, .lst (s2_a1.map (D.int .i64)))] Try.func38 rfl rfl fun K hK => ?_
  refine g_seq ?_
  refine g_run (by kernel_rfl) [(0, .d)] rfl ?_
  refine r_d rfl rfl rfl (s_assign rfl rfl) ?_
  refine r_end ?_
  refine g_seq ?_
  refine g_seq ?_
  refine g_run (by kernel_rfl) [(0, .d), (1, .d), (2, .d), (3, .d), (4, .d)] rfl ?_
  refine r_d rfl rfl rfl (s_move rfl rfl) ?_
  refine r_d rfl rfl rfl (m_len (f := (D.int .i64)) s1_a0 rfl el_L_int rfl (asl rfl)) ?_
  refine r_d rfl rfl rfl (s_move rfl rfl) ?_
  refine r_d rfl rfl rfl (m_len (f := (D.int .i64)) s2_a1 rfl el_L_int rfl (asl rfl)) ?_
  refine r_d rfl rfl rfl (s_cmp rfl rfl rfl rfl) ?_
  refine r_end ?_
  refine g_sB 10 rfl hr (fun h10_0 hr => ?_) (fun h10_0 hr => ?_)
  ·
   refine g_condT rfl ?_
   refine g_seq ?_
   refine g_run (by kernel_rfl) [(0, .d)] rfl ?_
   refine r_d rfl rfl rfl (s_assign rfl rfl) ?_
   refine r_end ?_
   obtain rfl := Option.some.inj hr
   refine g_ret Try.func38 _ (.cons (resTmp rfl (Wk.refl _)) .nil) ?_
   rfl
  ·
   refine g_condF rfl ?_
   refine g_skip ?_
   refine g_seq ?_
   refine g_seq ?_
   refine g_run (by kernel_rfl) [(0, .d), (1, .d), (2, .d)] rfl ?_
   refine r_d rfl rfl rfl (s_move rfl rfl) ?_
   refine r_d rfl rfl rfl (m_len (f := (D.int .i64)) s1_a0 rfl el_L_int rfl (asl rfl)) ?_
   refine r_d rfl rfl rfl (s_move rfl rfl) ?_
   refine r_end ?_
   obtain ⟨kk0, hkk0, hr⟩ := exK (fun k => lf_slices_Equal_int_int_L0 k s2_a1 s1_a0 0) hr
   refine g_len 0 rfl (asl rfl) fun hla0 => ?_
   simp only [List.length_map] at hla0
   refine g_blockJ (fun env σ => env = [] ∧ σ = [] ∧ kk0 = some res) ?_ (fun HK0 => ?_)
   ·
    rintro _ _ ⟨rfl, rfl, hr⟩
    rw [hkk0] at hr
    refine g_seq ?_
    refine g_run (by kernel_rfl) [(0, .d)] rfl ?_
    refine r_d rfl rfl rfl (s_assign rfl rfl) ?_
    refine r_end ?_
    obtain rfl := Option.some.inj hr
    refine g_ret Try.func38 _ (.cons (resTmp rfl (Wk.refl _)) .nil) ?_
    rfl
   ·
    refine g_sub [(0, .lst (s1_a0.map (D.int .i64))), (1, .lst (s2_a1.map (D.int .i64))), (12, .int .i64 (s1_a0.length : Int)), (13, .int .i64 ((0 : Nat) : Int))] (Sub.cons' rfl (Sub.cons' rfl (Sub.cons' rfl (Sub.cons' rfl (Sub.nil _))))) ?_
    refine g_loop (fun n env σ => ∃ (i_2 : Nat), (n = s1_a0.length - i_2) ∧ (env = [(0, .lst (s1_a0.map (D.int .i64))), (1, .lst (s2_a1.map (D.int .i64))), (12, .int .i64 (s1_a0.length : Int)), (13, .int .i64 (i_2 : Int))]) ∧ (σ = []) ∧ (i_2 ≤ s1_a0.length) ∧ (lf_slices_Equal_int_int_L0 kk0 s2_a1 (s1_a0.drop i_2) i_2 = some res)) _ ⟨0, rfl, rfl, rfl, Nat.zero_le _, hr⟩ ?_
    rintro n _ _ ⟨i_2, rfl, rfl, rfl, hi0, hr⟩ IH0
    rcases listStep s1_a0 i_2 hi0 with ⟨ht0, hd0, he0⟩ | ⟨q_3, ht0, hd0, hq0, hlt0⟩
    ·
     rw [hd0, lf_slices_Equal_int_int_L0] at hr
     refine g_seq ?_
     refine g_run (by kernel_rfl) [(0, .d)] rfl ?_
     refine r_d rfl rfl rfl (s_cmp rfl rfl rfl rfl) ?_
     refine r_end ?_
     refine g_seq ?_
     refine g_known 14 false rfl ht0 ?_
     refine g_condF rfl ?_
     refine g_exit rfl ?_
     refine g_sub [] (Sub.nil _) ?_
     exact HK0 _ _ ⟨rfl, rfl, hr⟩
    ·
     rw [hd0, lf_slices_Equal_int_int_L0] at hr
     refine g_seq ?_
     refine g_run (by kernel_rfl) [(0, .d)] rfl ?_
     refine r_d rfl rfl rfl (s_cmp rfl rfl rfl rfl) ?_
     refine r_end ?_
     refine g_seq ?_
     refine g_known 14 true rfl ht0 ?_
     refine g_condT rfl ?_
     refine g_skip ?_
     refine g_seq ?_
     refine g_block ?_
     refine g_seq ?_
     refine g_run (by kernel_rfl) [(0, .d), (1, .d)] rfl ?_
     refine r_d rfl rfl rfl (s_move rfl rfl) ?_
     refine r_d rfl rfl rfl (s_assign rfl rfl) ?_
     refine r_end ?_
     refine g_seq ?_
     refine g_any (by kernel_rfl) (by kernel_rfl) [(0, .d), (1, .d), (2, .d), (3, .d), (4, .d), (5, .d), (6, .d), (7, .d), (8, .d)] (by kernel_rfl) ?_
     refine r_d rfl rfl rfl (s_move rfl rfl) ?_
     refine r_d rfl rfl rfl (s_move rfl rfl) ?_
     refine r_d rfl rfl rfl (m_index (f := (D.int .i64)) s1_a0 rfl el_L_int rfl (asl rfl) rfl hq0 (fun _ => rfl) rfl) ?_
     refine r_d rfl rfl rfl (s_load rfl rfl (by exact ty_int) rfl) ?_
     refine r_d rfl rfl rfl (s_move rfl rfl) ?_
     refine r_d rfl rfl rfl (s_move rfl rfl) ?_
     obtain ⟨q_4, hq_4, hr⟩ := bindS hr
     refine r_d rfl rfl rfl (m_index (f := (D.int .i64)) s2_a1 rfl el_L_int rfl (asl rfl) rfl hq_4 (fun _ => rfl) rfl) ?_
     refine r_d rfl rfl rfl (s_load rfl rfl (by exact ty_int) rfl) ?_
     refine r_d rfl rfl rfl (s_cmp rfl rfl rfl rfl) ?_
     refine r_end ?_
     refine g_sB 24 rfl hr (fun h24_4 hr => ?_) (fun h24_4 hr => ?_)
     ·
      refine g_condT rfl ?_
      refine g_seq ?_
      refine g_run (by kernel_rfl) [(0, .d)] rfl ?_
      refine r_d rfl rfl rfl (s_assign rfl rfl) ?_
      refine r_end ?_
      obtain rfl := Option.some.inj hr
      refine g_ret Try.func38 _ (.cons (resTmp rfl (Wk.refl _)) .nil) ?_
      rfl
     ·
      refine g_condF rfl ?_
      refine g_skip ?_
      refine g_inBlock ?_
      refine g_run (by kernel_rfl) [(0, .d), (1, .d)] rfl ?_
      refine r_d rfl rfl rfl (s_ar (r := ((i_2 + 1 : Nat) : Int)) rfl rfl rfl (by simp [iar]) (by omega)) ?_
      refine r_d rfl rfl rfl (s_move rfl rfl) ?_
      refine r_end ?_
      refine g_sub [(0, .lst (s1_a0.map (D.int .i64))), (1, .lst (s2_a1.map (D.int .i64))), (12, .int .i64 (s1_a0.length : Int)), (13, .int .i64 ((i_2 + 1 : Nat) : Int))] (Sub.cons' rfl (Sub.cons' rfl (Sub.cons' rfl (Sub.cons' rfl (Sub.nil _))))) ?_
      exact IH0 _ _ _ (by omega) ⟨(i_2 + 1), rfl, rfl, rfl, (by omega), hr⟩

noncomputable def lf_instr_SameImage_3 (x_a0 : S_api_Access) (y_a1 : S_api_Access) : Option (Bool) :=
  (bif (x_a0.f0_Name.toList == y_a1.f0_Name.toList) then
  (bif (x_a0.f1_Arity == y_a1.f1_Arity) then
  ((lf_slices_Equal_int_int x_a0.f2_Positions y_a1.f2_Positions).bind fun r_3 =>
  some (r_3))
  else
  some (false))
  else
  some (false))

set_option maxHeartbeats 1000000 in
theorem lg_instr_SameImage_3 (x_a0 : S_api_Access) (y_a1 : S_api_Access) (res : Bool) (hr : lf_instr_SameImage_3 x_a0 y_a1 = some res) : Gives Try.prog 37 [enc_S_api_Access x_a0, enc_S_api_Access y_a1] (.bool res) := by
  unfold lf_instr_SameImage_3 at hr
  refine spec_env [(0, enc_S_api_Access x_a0), (1, enc_S_api_Access y_a1)] Try.func37 rfl rfl fun K hK => ?_
  refine g_seq ?_
  refine g_run (by kernel_rfl) [(0, .d), (1, .d), (2, .d)] rfl ?_
  refine r_d rfl rfl rfl (s_box rfl rfl rfl) ?_
  refine r_d rfl rfl rfl (s_box rfl rfl rfl) ?_
  refine r_d rfl rfl rfl (s_assign rfl rfl) ?_
  refine r_end ?_
  refine g_seq ?_
  refine g_run (by kernel_rfl) [(0, .d), (1, .d), (2, .d), (3, .d), (4, .d), (5, .d), (6, .d), (7, .d), (8, .d), (9, .d), (10, .d), (11, .d), (12, .d), (13, .d), (14, .d), (15, .d), (16, .d), (17, .d), (18, .d), (19, .d)] rfl ?_
  refine r_d rfl rfl rfl (s_fieldAddr rfl fl_api_Access_0 rfl rfl rfl rfl) ?_
  refine r_d rfl rfl rfl (s_load rfl rfl (by exact ty_string) rfl) ?_
  refine r_d rfl rfl rfl (s_fieldAddr rfl fl_api_Access_0 rfl rfl rfl rfl) ?_
  refine r_d rfl rfl rfl (s_load rfl rfl (by exact ty_string) rfl) ?_
  refine r_d rfl rfl rfl (s_cmpS rfl rfl rfl rfl) ?_
  refine r_d rfl rfl rfl (s_move rfl rfl) ?_
  refine r_sB 10 rfl hr (fun h10_0 hr => ?_) (fun h10_0 hr => ?_)
  ·
   refine r_d rfl rfl rfl (s_fieldAddr rfl fl_api_Access_1 rfl rfl rfl rfl) ?_
   refine r_d rfl rfl rfl (s_load rfl rfl (by exact ty_int) rfl) ?_
   refine r_d rfl rfl rfl (s_fieldAddr rfl fl_api_Access_1 rfl rfl rfl rfl) ?_
   refine r_d rfl rfl rfl (s_load rfl rfl (by exact ty_int) rfl) ?_
   refine r_d rfl rfl rfl (s_cmp rfl rfl rfl rfl) ?_
   refine r_d rfl rfl rfl (s_pickT rfl rfl rfl) ?_
   refine r_d rfl rfl rfl (s_move rfl rfl) ?_
   refine r_sB 17 rfl hr (fun h17_1 hr => ?_) (fun h17_1 hr => ?_)
   ·
    refine r_d rfl rfl rfl (s_fieldAddr rfl fl_api_Access_2 rfl rfl rfl rfl) ?_
    refine r_d rfl rfl rfl (s_load rfl rfl (by exact ty_L_int) rfl) ?_
    refine r_d rfl rfl rfl (s_fieldAddr rfl fl_api_Access_2 rfl rfl rfl rfl) ?_
    refine r_d rfl rfl rfl (s_load rfl rfl (by exact ty_L_int) rfl) ?_
    obtain ⟨r_3, hr_3, hr⟩ := bindS hr
    refine r_d rfl rfl rfl (s_callD rfl cl_slices_Equal_int_int (.cons rfl (Wk.refl _) (.cons rfl (Wk.refl _) .nil)) (lg_slices_Equal_int_int _ _ _ hr_3)) ?_
    refine r_d rfl rfl rfl (s_pickT rfl rfl rfl) ?_
    refine r_d rfl rfl rfl (s_assign rfl rfl) ?_
    refine r_end ?_
    obtain rfl := Option.some.inj hr
    refine g_ret Try.func37 _ (.cons (resTmp rfl (Wk.refl _)) .nil) ?_
    rfl
   ·
    refine r_skip rfl rfl rfl ?_
    refine r_skip rfl rfl rfl ?_
    refine r_skip rfl rfl rfl ?_
    refine r_skip rfl rfl rfl ?_
    refine r_skip rfl rfl rfl ?_
    refine r_d rfl rfl rfl (s_pickF rfl rfl rfl) ?_
    refine r_d rfl rfl rfl (s_assign rfl rfl) ?_
    refine r_end ?_
    obtain rfl := Option.some.inj hr
    refine g_ret Try.func37 _ (.cons (resTmp rfl (Wk.refl _)) .nil) ?_
    rfl
  ·
   refine r_skip rfl rfl rfl ?_
   refine r_skip rfl rfl rfl ?_
   refine r_skip rfl rfl rfl ?_
   refine r_skip rfl rfl rfl ?_
   refine r_skip rfl rfl rfl ?_
   refine r_d rfl rfl rfl (s_pickF rfl rfl rfl) ?_
   refine r_d rfl rfl rfl (s_move rfl rfl) ?_
   refine r_skip rfl rfl rfl ?_
   refine r_skip rfl rfl rfl ?_
   refine r_skip rfl rfl rfl ?_
   refine r_skip rfl rfl rfl ?_
   refine r_skip rfl rfl rfl ?_
   refine r_d rfl rfl rfl (s_pickF rfl rfl rfl) ?_
   refine r_d rfl rfl rfl (s_assign rfl rfl) ?_
   refine r_end ?_
   obtain rfl := Option.some.inj hr
   refine g_ret Try.func37 _ (.cons (resTmp rfl (Wk.refl _)) .nil) ?_
   rfl

noncomputable def lf_slices_EqualFunc_s2_L0 (k : Option (Bool)) (s2_a1 : (List S_api_Access)) : List S_api_Access → Nat → Option (Bool)
  | [], i_2 =>
  k
  | q_3 :: rest, i_2 =>
  ((getI s2_a1 (i_2 : Int)).bind fun q_5 =>
  ((lf_instr_SameImage_3 q_3 q_5).bind fun r_7 =>
  (bif (!r_7) then
  some (false)
  else
  (lf_slices_EqualFunc_s2_L0 k s2_a1 rest (i_2 + 1)))))
noncomputable def lf_slices_EqualFunc_s2 (s1_a0 : (List S_api_Access)) (s2_a1 : (List S_api_Access)) : Option (Bool) :=
  (bif ((s1_a0.length : Int) != (s2_a1.length : Int)) then
  some (false)
  else
  (lf_slices_EqualFunc_s2_L0 (some (true)) s2_a1 s1_a0 0))

set_option maxHeartbeats 1000000 in
theorem lg_slices_EqualFunc_s2 (s1_a0 : (List S_api_Access)) (s2_a1 : (List S_api_Access)) (res : Bool) (hr : lf_slices_EqualFunc_s2 s1_a0 s2_a1 = some res) : Gives Try.prog 39 [.lst (s1_a0.map enc_S_api_Access), .lst (s2_a1.map enc_S_api_Access), .clo (.func 37) [] []] (.bool res) := by
  unfold lf_slices_EqualFunc_s2 at hr
  refine spec_env [(0, .lst (s1_a0.map enc_S_api_Access)), (1, .lst (s2_a1.map enc_S_api_Access)), (2, .clo (.func 37) [] [])] Try.func39 rfl rfl fun K hK => ?_
  refine g_seq ?_
  refine g_run (by kernel_rfl) [(0, .d)] rfl ?_
  refine r_d rfl rfl rfl (s_assign rfl rfl) ?_
  refine r_end ?_
  refine g_seq ?_
  refine g_seq ?_
  refine g_run (by kernel_rfl) [(0, .d), (1, .d), (2, .d), (3, .d), (4, .d)] rfl ?_
  refine r_d rfl rfl rfl (s_move rfl rfl) ?_
  refine r_d rfl rfl rfl (m_len (f := enc_S_api_Access) s1_a0 rfl el_L_api_Access rfl (asl rfl)) ?_
  refine r_d rfl rfl rfl (s_move rfl rfl) ?_
  refine r_d rfl rfl rfl (m_len (f := enc_S_api_Access) s2_a1 rfl el_L_api_Access rfl (asl rfl)) ?_
  refine r_d rfl rfl rfl (s_cmp rfl rfl rfl rfl) ?_
  refine r_end ?_
  refine g_sB 14 rfl hr (fun h14_0 hr => ?_) (fun h14_0 hr => ?_)
  ·
   refine g_condT rfl ?_
   refine g_seq ?_
   refine g_run (by kernel_rfl) [(0, .d)] rfl ?_
   refine r_d rfl rfl rfl (s_assign rfl rfl) ?_
   refine r_end ?_
   obtain rfl := Option.some.inj hr
   refine g_ret Try.func39 _ (.cons (resTmp rfl (Wk.refl _)) .nil) ?_
   rfl
  ·
   refine g_condF rfl ?_
   refine g_skip ?_
   refine g_seq ?_
   refine g_seq ?_
   refine g_run (by kernel_rfl) [(0, .d), (1, .d), (2, .d)] rfl ?_
   refine r_d rfl rfl rfl (s_move rfl rfl) ?_
   refine r_d rfl rfl rfl (m_len (f := enc_S_api_Access) s1_a0 rfl el_L_api_Access rfl (asl rfl)) ?_
   refine r_d rfl rfl rfl (s_move rfl rfl) ?_
   refine r_end ?_
   obtain ⟨kk0, hkk0, hr⟩ := exK (fun k => lf_slices_EqualFunc_s2_L0 k s2_a1 s1_a0 0) hr
   refine g_len 0 rfl (asl rfl) fun hla0 => ?_
   simp only [List.length_map] at hla0
   refine g_blockJ (fun env σ => env = [] ∧ σ = [] ∧ kk0 = some res) ?_ (fun HK0 => ?_)
   ·
    rintro _ _ ⟨rfl, rfl, hr⟩
    rw [hkk0] at hr
    refine g_seq ?_
    refine g_run (by kernel_rfl) [(0, .d)] rfl ?_
    refine r_d rfl rfl rfl (s_assign rfl rfl) ?_
    refine r_end ?_
    obtain rfl := Option.some.inj hr
    refine g_ret Try.func39 _ (.cons (resTmp rfl (Wk.refl _)) .nil) ?_
    rfl
   ·
    refine g_sub [(1, .lst (s2_a1.map enc_S_api_Access)), (2, .clo (.func 37) [] []), (15, .lst (s1_a0.map enc_S_api_Access)), (16, .int .i64 (s1_a0.length : Int)), (17, .int .i64 ((0 : Nat) : Int))] (Sub.cons' rfl (Sub.cons' rfl (Sub.cons' rfl (Sub.cons' rfl (Sub.cons' rfl (Sub.nil _)))))) ?_
    refine g_loop (fun n env σ => ∃ (i_2 : Nat), (n = s1_a0.length - i_2) ∧ (env = [(1, .lst (s2_a1.map enc_S_api_Access)), (2, .clo (.func 37) [] []), (15, .lst (s1_a0.map enc_S_api_Access)), (16, .int .i64 (s1_a0.length : Int)), (17, .int .i64 (i_2 : Int))]) ∧ (σ = []) ∧ (i_2 ≤ s1_a0.length) ∧ (lf_slices_EqualFunc_s2_L0 kk0 s2_a1 (s1_a0.drop i_2) i_2 = some res)) _ ⟨0, rfl, rfl, rfl, Nat.zero_le _, hr⟩ ?_
    rintro n _ _ ⟨i_2, rfl, rfl, rfl, hi0, hr⟩ IH0
    rcases listStep s1_a0 i_2 hi0 with ⟨ht0, hd0, he0⟩ | ⟨q_3, ht0, hd0, hq0, hlt0⟩
    ·
     rw [hd0, lf_slices_EqualFunc_s2_L0] at hr
     refine g_seq ?_
     refine g_run (by kernel_rfl) [(0, .d)] rfl ?_
     refine r_d rfl rfl rfl (s_cmp rfl rfl rfl rfl) ?_
     refine r_end ?_
     refine g_seq ?_
     refine g_known 18 false rfl ht0 ?_
     refine g_condF rfl ?_
     refine g_exit rfl ?_
     refine g_sub [] (Sub.nil _) ?_
     exact HK0 _ _ ⟨rfl, rfl, hr⟩
    ·
     rw [hd0, lf_slices_EqualFunc_s2_L0] at hr
     refine g_seq ?_
     refine g_run (by kernel_rfl) [(0, .d)] rfl ?_
     refine r_d rfl rfl rfl (s_cmp rfl rfl rfl rfl) ?_
     refine r_end ?_
     refine g_seq ?_
     refine g_known 18 true rfl ht0 ?_
     refine g_condT rfl ?_
     refine g_skip ?_
     refine g_seq ?_
     refine g_block ?_
     refine g_seq ?_
     refine g_run (by kernel_rfl) [(0, .d), (1, .d), (2, .d), (3, .w), (4, .d), (5, .w)] rfl ?_
     refine r_d rfl rfl rfl (s_move rfl rfl) ?_
     refine r_d rfl rfl rfl (m_index (f := enc_S_api_Access) s1_a0 rfl el_L_api_Access rfl (asl rfl) rfl hq0 sz_S_api_Access rfl) ?_
     refine r_d rfl rfl rfl (s_load rfl rfl (by exact ty_api_Access) (sz_S_api_Access _)) ?_
     refine r_w rfl rfl rfl (s_alloc rfl zv_api_Access) ?_
     rintro _ _ ⟨b8_3, rfl, rfl⟩
     refine r_d rfl rfl rfl (s_assign rfl rfl) ?_
     refine r_w01 rfl rfl rfl (t_store0 _ rfl rfl rfl (Wk.refl _) (pf0 _) (by exact ty_api_Access) (sz_S_api_Access _) rfl rfl) ?_
     refine r_end ?_
     refine g_freeze 8 b8_3 rfl (pf0 _) ?_
     refine g_seq ?_
     refine g_run (by kernel_rfl) [(0, .d), (1, .d), (2, .d), (3, .d), (4, .w), (5, .w)] rfl ?_
     refine r_d rfl rfl rfl (s_move rfl rfl) ?_
     refine r_d rfl rfl rfl (s_move rfl rfl) ?_
     obtain ⟨q_5, hq_5, hr⟩ := bindS hr
     refine r_d rfl rfl rfl (m_index (f := enc_S_api_Access) s2_a1 rfl el_L_api_Access rfl (asl rfl) rfl hq_5 sz_S_api_Access rfl) ?_
     refine r_d rfl rfl rfl (s_load rfl rfl (by exact ty_api_Access) (sz_S_api_Access _)) ?_
     refine r_w rfl rfl rfl (s_alloc rfl zv_api_Access) ?_
     rintro _ _ ⟨b9_5, rfl, rfl⟩
     refine r_w01 rfl rfl rfl (t_store0 _ rfl rfl rfl (Wk.refl _) (pf0 _) (by exact ty_api_Access) (sz_S_api_Access _) rfl rfl) ?_
     refine r_end ?_
     refine g_freeze 9 b9_5 rfl (pf0 _) ?_
     refine g_seq ?_
     refine g_run (by kernel_rfl) [(0, .d), (1, .d), (2, .d), (3, .d), (4, .d)] rfl ?_
     refine r_d rfl rfl rfl (s_move rfl rfl) ?_
     refine r_d rfl rfl rfl (s_load rfl rfl (by exact ty_api_Access) (sz_S_api_Access _)) ?_
     refine r_d rfl rfl rfl (s_load rfl rfl (by exact ty_api_Access) (sz_S_api_Access _)) ?_
     obtain ⟨r_7, hr_7, hr⟩ := bindS hr
     refine r_d rfl rfl rfl (s_callVD rfl rfl cl_instr_SameImage_3 (.cons rfl (Wk.refl _) (.cons rfl (Wk.refl _) .nil)) rfl (lg_instr_SameImage_3 _ _ _ hr_7)) ?_
     refine r_d rfl rfl rfl (s_not rfl rfl) ?_
     refine r_end ?_
     refine g_sB 30 rfl hr (fun h30_7 hr => ?_) (fun h30_7 hr => ?_)
     ·
      refine g_condT rfl ?_
      refine g_seq ?_
      refine g_run (by kernel_rfl) [(0, .d)] rfl ?_
      refine r_d rfl rfl rfl (s_assign rfl rfl) ?_
      refine r_end ?_
      obtain rfl := Option.some.inj hr
      refine g_ret Try.func39 _ (.cons (resTmp rfl (Wk.refl _)) .nil) ?_
      rfl
     ·
      refine g_condF rfl ?_
      refine g_skip ?_
      refine g_inBlock ?_
      refine g_run (by kernel_rfl) [(0, .d), (1, .d)] rfl ?_
      refine r_d rfl rfl rfl (s_ar (r := ((i_2 + 1 : Nat) : Int)) rfl rfl rfl (by simp [iar]) (by omega)) ?_
      refine r_d rfl rfl rfl (s_move rfl rfl) ?_
      refine r_end ?_
      refine g_sub [(1, .lst (s2_a1.map enc_S_api_Access)), (2, .clo (.func 37) [] []), (15, .lst (s1_a0.map enc_S_api_Access)), (16, .int .i64 (s1_a0.length : Int)), (17, .int .i64 ((i_2 + 1 : Nat) : Int))] (Sub.cons' rfl (Sub.cons' rfl (Sub.cons' rfl (Sub.cons' rfl (Sub.cons' rfl (Sub.nil _)))))) ?_
      exact IH0 _ _ _ (by omega) ⟨(i_2 + 1), rfl, rfl, rfl, (by omega), hr⟩

noncomputable def lf_slices_EqualFunc_s5_L0 (k : Option (Bool)) (s2_a1 : (List S_api_Instr)) : List S_api_Instr → Nat → Option (Bool)
  | [], i_2 =>
  k
  | q_3 :: rest, i_2 =>
  ((getI s2_a1 (i_2 : Int)).bind fun q_5 =>
  ((lf_instr_Same q_3 q_5).bind fun r_7 =>
  (bif (!r_7) then
  some (false)
  else
  (lf_slices_EqualFunc_s5_L0 k s2_a1 rest (i_2 + 1)))))
noncomputable def lf_slices_EqualFunc_s5 (s1_a0 : (List S_api_Instr)) (s2_a1 : (List S_api_Instr)) : Option (Bool) :=
  (bif ((s1_a0.length : Int) != (s2_a1.length : Int)) then
  some (false)
  else
  (lf_slices_EqualFunc_s5_L0 (some (true)) s2_a1 s1_a0 0))

set_option maxHeartbeats 1000000 in
theorem lg_slices_EqualFunc_s5 (s1_a0 : (List S_api_Instr)) (s2_a1 : (List S_api_Instr)) (res : Bool) (hr : lf_slices_EqualFunc_s5 s1_a0 s2_a1 = some res) : Gives Try.prog 34 [.lst (s1_a0.map enc_S_api_Instr), .lst (s2_a1.map enc_S_api_Instr), .clo (.func 15) [] []] (.bool res) := by
  unfold lf_slices_EqualFunc_s5 at hr
  refine spec_env [(0, .lst (s1_a0.map enc_S_api_Instr)), (1, .lst (s2_a1.map enc_S_api_Instr)), (2, .clo (.func 15) [] [])] Try.func34 rfl rfl fun K hK => ?_
  refine g_seq ?_
  refine g_run (by kernel_rfl) [(0, .d)] rfl ?_
  refine r_d rfl rfl rfl (s_assign rfl rfl) ?_
  refine r_end ?_
  refine g_seq ?_
  refine g_seq ?_
  refine g_run (by kernel_rfl) [(0, .d), (1, .d), (2, .d), (3, .d), (4, .d)] rfl ?_
  refine r_d rfl rfl rfl (s_move rfl rfl) ?_
  refine r_d rfl rfl rfl (m_len (f := enc_S_api_Instr) s1_a0 rfl el_L_api_Instr rfl (asl rfl)) ?_
  refine r_d rfl rfl rfl (s_move rfl rfl) ?_
  refine r_d rfl rfl rfl (m_len (f := enc_S_api_Instr) s2_a1 rfl el_L_api_Instr rfl (asl rfl)) ?_
  refine r_d rfl rfl rfl (s_cmp rfl rfl rfl rfl) ?_
  refine r_end ?_
  refine g_sB 14 rfl hr (fun h14_0 hr => ?_) (fun h14_0 hr => ?_)
  ·
   refine g_condT rfl ?_
   refine g_seq ?_
   refine g_run (by kernel_rfl) [(0, .d)] rfl ?_
   refine r_d rfl rfl rfl (s_assign rfl rfl) ?_
   refine r_end ?_
   obtain rfl := Option.some.inj hr
   refine g_ret Try.func34 _ (.cons (resTmp rfl (Wk.refl _)) .nil) ?_
   rfl
  ·
   refine g_condF rfl ?_
   refine g_skip ?_
   refine g_seq ?_
   refine g_seq ?_
   refine g_run (by kernel_rfl) [(0, .d), (1, .d), (2, .d)] rfl ?_
   refine r_d rfl rfl rfl (s_move rfl rfl) ?_
   refine r_d rfl rfl rfl (m_len (f := enc_S_api_Instr) s1_a0 rfl el_L_api_Instr rfl (asl rfl)) ?_
   refine r_d rfl rfl rfl (s_move rfl rfl) ?_
   refine r_end ?_
   obtain ⟨kk0, hkk0, hr⟩ := exK (fun k => lf_slices_EqualFunc_s5_L0 k s2_a1 s1_a0 0) hr
   refine g_len 0 rfl (asl rfl) fun hla0 => ?_
   simp only [List.length_map] at hla0
   refine g_blockJ (fun env σ => env = [] ∧ σ = [] ∧ kk0 = some res) ?_ (fun HK0 => ?_)
   ·
    rintro _ _ ⟨rfl, rfl, hr⟩
    rw [hkk0] at hr
    refine g_seq ?_
    refine g_run (by kernel_rfl) [(0, .d)] rfl ?_
    refine r_d rfl rfl rfl (s_assign rfl rfl) ?_
    refine r_end ?_
    obtain rfl := Option.some.inj hr
    refine g_ret Try.func34 _ (.cons (resTmp rfl (Wk.refl _)) .nil) ?_
    rfl
   ·
    refine g_sub [(1, .lst (s2_a1.map enc_S_api_Instr)), (2, .clo (.func 15) [] []), (15, .lst (s1_a0.map enc_S_api_Instr)), (16, .int .i64 (s1_a0.length : Int)), (17, .int .i64 ((0 : Nat) : Int))] (Sub.cons' rfl (Sub.cons' rfl (Sub.cons' rfl (Sub.cons' rfl (Sub.cons' rfl (Sub.nil _)))))) ?_
    refine g_loop (fun n env σ => ∃ (i_2 : Nat), (n = s1_a0.length - i_2) ∧ (env = [(1, .lst (s2_a1.map enc_S_api_Instr)), (2, .clo (.func 15) [] []), (15, .lst (s1_a0.map enc_S_api_Instr)), (16, .int .i64 (s1_a0.length : Int)), (17, .int .i64 (i_2 : Int))]) ∧ (σ = []) ∧ (i_2 ≤ s1_a0.length) ∧ (lf_slices_EqualFunc_s5_L0 kk0 s2_a1 (s1_a0.drop i_2) i_2 = some res)) _ ⟨0, rfl, rfl, rfl, Nat.zero_le _, hr⟩ ?_
    rintro n _ _ ⟨i_2, rfl, rfl, rfl, hi0, hr⟩ IH0
    rcases listStep s1_a0 i_2 hi0 with ⟨ht0, hd0, he0⟩ | ⟨q_3, ht0, hd0, hq0, hlt0⟩
    ·
     rw [hd0, lf_slices_EqualFunc_s5_L0] at hr
     refine g_seq ?_
     refine g_run (by kernel_rfl) [(0, .d)] rfl ?_
     refine r_d rfl rfl rfl (s_cmp rfl rfl rfl rfl) ?_
     refine r_end ?_
     refine g_seq ?_
     refine g_known 18 false rfl ht0 ?_
     refine g_condF rfl ?_
     refine g_exit rfl ?_
     refine g_sub [] (Sub.nil _) ?_
     exact HK0 _ _ ⟨rfl, rfl, hr⟩
    ·
     rw [hd0, lf_slices_EqualFunc_s5_L0] at hr
     refine g_seq ?_
     refine g_run (by kernel_rfl) [(0, .d)] rfl ?_
     refine r_d rfl rfl rfl (s_cmp rfl rfl rfl rfl) ?_
     refine r_end ?_
     refine g_seq ?_
     refine g_known 18 true rfl ht0 ?_
     refine g_condT rfl ?_
     refine g_skip ?_
     refine g_seq ?_
     refine g_block ?_
     refine g_seq ?_
     refine g_run (by kernel_rfl) [(0, .d), (1, .d), (2, .d), (3, .w), (4, .d), (5, .w)] rfl ?_
     refine r_d rfl rfl rfl (s_move rfl rfl) ?_
     refine r_d rfl rfl rfl (m_index (f := enc_S_api_Instr) s1_a0 rfl el_L_api_Instr rfl (asl rfl) rfl hq0 sz_S_api_Instr rfl) ?_
     refine r_d rfl rfl rfl (s_load rfl rfl (by exact ty_api_Instr) (sz_S_api_Instr _)) ?_
     refine r_w rfl rfl rfl (s_alloc rfl zv_api_Instr) ?_
     rintro _ _ ⟨b8_3, rfl, rfl⟩
     refine r_d rfl rfl rfl (s_assign rfl rfl) ?_
     refine r_w01 rfl rfl rfl (t_store0 _ rfl rfl rfl (Wk.refl _) (pf0 _) (by exact ty_api_Instr) (sz_S_api_Instr _) (by simp [sz, szs, szs_fsT, sz_encG]) rfl) ?_
     refine r_end ?_
     refine g_freeze 8 b8_3 rfl (pf0 _) ?_
     refine g_seq ?_
     refine g_run (by kernel_rfl) [(0, .d), (1, .d), (2, .d), (3, .d), (4, .w), (5, .w)] rfl ?_
     refine r_d rfl rfl rfl (s_move rfl rfl) ?_
     refine r_d rfl rfl rfl (s_move rfl rfl) ?_
     obtain ⟨q_5, hq_5, hr⟩ := bindS hr
     refine r_d rfl rfl rfl (m_index (f := enc_S_api_Instr) s2_a1 rfl el_L_api_Instr rfl (asl rfl) rfl hq_5 sz_S_api_Instr rfl) ?_
     refine r_d rfl rfl rfl (s_load rfl rfl (by exact ty_api_Instr) (sz_S_api_Instr _)) ?_
     refine r_w rfl rfl rfl (s_alloc rfl zv_api_Instr) ?_
     rintro _ _ ⟨b9_5, rfl, rfl⟩
     refine r_w01 rfl rfl rfl (t_store0 _ rfl rfl rfl (Wk.refl _) (pf0 _) (by exact ty_api_Instr) (sz_S_api_Instr _) (by simp [sz, szs, szs_fsT, sz_encG]) rfl) ?_
     refine r_end ?_
     refine g_freeze 9 b9_5 rfl (pf0 _) ?_
     refine g_seq ?_
     refine g_run (by kernel_rfl) [(0, .d), (1, .d), (2, .d), (3, .d), (4, .d)] rfl ?_
     refine r_d rfl rfl rfl (s_move rfl rfl) ?_
     refine r_d rfl rfl rfl (s_load rfl rfl (by exact ty_api_Instr) (sz_S_api_Instr _)) ?_
     refine r_d rfl rfl rfl (s_load rfl rfl (by exact ty_api_Instr) (sz_S_api_Instr _)) ?_
     obtain ⟨r_7, hr_7, hr⟩ := bindS hr
     refine r_d rfl rfl rfl (s_callVD rfl rfl cl_instr_Same (.cons rfl (Wk.refl _) (.cons rfl (Wk.refl _) .nil)) rfl (lg_instr_Same _ _ _ hr_7)) ?_
     refine r_d rfl rfl rfl (s_not rfl rfl) ?_
     refine r_end ?_
     refine g_sB 30 rfl hr (fun h30_7 hr => ?_) (fun h30_7 hr => ?_)
     ·
      refine g_condT rfl ?_
      refine g_seq ?_
      refine g_run (by kernel_rfl) [(0, .d)] rfl ?_
      refine r_d rfl rfl rfl (s_assign rfl rfl) ?_
      refine r_end ?_
      obtain rfl := Option.some.inj hr
      refine g_ret Try.func34 _ (.cons (resTmp rfl (Wk.refl _)) .nil) ?_
      rfl
     ·
      refine g_condF rfl ?_
      refine g_skip ?_
      refine g_inBlock ?_
      refine g_run (by kernel_rfl) [(0, .d), (1, .d)] rfl ?_
      refine r_d rfl rfl rfl (s_ar (r := ((i_2 + 1 : Nat) : Int)) rfl rfl rfl (by simp [iar]) (by omega)) ?_
      refine r_d rfl rfl rfl (s_move rfl rfl) ?_
      refine r_end ?_
      refine g_sub [(1, .lst (s2_a1.map enc_S_api_Instr)), (2, .clo (.func 15) [] []), (15, .lst (s1_a0.map enc_S_api_Instr)), (16, .int .i64 (s1_a0.length : Int)), (17, .int .i64 ((i_2 + 1 : Nat) : Int))] (Sub.cons' rfl (Sub.cons' rfl (Sub.cons' rfl (Sub.cons' rfl (Sub.cons' rfl (Sub.nil _)))))) ?_
      exact IH0 _ _ _ (by omega) ⟨(i_2 + 1), rfl, rfl, rfl, (by omega), hr⟩

noncomputable def lf_instr_SameImage_1 (x_a0 : S_api_Block) (y_a1 : S_api_Block) : Option (Bool) :=
  (bif (decide (x_a0.f0_Occ = y_a1.f0_Occ)) then
  ((lf_slices_EqualFunc_s5 x_a0.f1_Code y_a1.f1_Code).bind fun r_2 =>
  some (r_2))
  else
  some (false))

set_option maxHeartbeats 1000000 in
theorem lg_instr_SameImage_1 (x_a0 : S_api_Block) (y_a1 : S_api_Block) (res : Bool) (hr : lf_instr_SameImage_1 x_a0 y_a1 = some res) : Gives Try.prog 33 [enc_S_api_Block x_a0, enc_S_api_Block y_a1] (.bool res) := by
  unfold lf_instr_SameImage_1 at hr
  refine spec_env [(0, enc_S_api_Block x_a0), (1, enc_S_api_Block y_a1)] Try.func33 rfl rfl fun K hK => ?_
  refine g_seq ?_
  refine g_run (by kernel_rfl) [(0, .d), (1, .d), (2, .d)] rfl ?_
  refine r_d rfl rfl rfl (s_box rfl rfl rfl) ?_
  refine r_d rfl rfl rfl (s_box rfl rfl rfl) ?_
  refine r_d rfl rfl rfl (s_assign rfl rfl) ?_
  refine r_end ?_
  refine g_seq ?_
  refine g_run (by kernel_rfl) [(0, .d), (1, .d), (2, .d), (3, .d), (4, .d), (5, .d), (6, .d), (7, .d), (8, .d), (9, .d), (10, .d), (11, .d), (12, .d)] rfl ?_
  refine r_d rfl rfl rfl (s_fieldAddr rfl fl_api_Block_0 rfl rfl rfl rfl) ?_
  refine r_d rfl rfl rfl (s_load rfl rfl (by exact ty_api_Occ) (sz_S_api_Occ _)) ?_
  refine r_d rfl rfl rfl (s_fieldAddr rfl fl_api_Block_0 rfl rfl rfl rfl) ?_
  refine r_d rfl rfl rfl (s_load rfl rfl (by exact ty_api_Occ) (sz_S_api_Occ _)) ?_
  refine r_d rfl rfl rfl (s_eqT rfl wt_api_Occ rfl rfl) ?_
  refine r_d rfl rfl rfl (s_move rfl rfl) ?_
  refine r_sB 10 rfl hr (fun h10_0 hr => ?_) (fun h10_0 hr => ?_)
  ·
   refine r_d rfl rfl rfl (s_fieldAddr rfl fl_api_Block_1 rfl rfl (by simp [szs, sz, sz_S_api_Occ]) rfl) ?_
   refine r_d rfl rfl rfl (s_load rfl rfl (by exact ty_L_api_Instr) rfl) ?_
   refine r_d rfl rfl rfl (s_fieldAddr rfl fl_api_Block_1 rfl rfl (by simp [szs, sz, sz_S_api_Occ]) rfl) ?_
   refine r_d rfl rfl rfl (s_load rfl rfl (by exact ty_L_api_Instr) rfl) ?_
   obtain ⟨r_2, hr_2, hr⟩ := bindS hr
   refine r_d rfl rfl rfl (s_callD rfl cl_slices_EqualFunc_api_Instr_api_Instr_api_Instr_api_Instr (.cons rfl (Wk.refl _) (.cons rfl (Wk.refl _) (.cons rfl (Wk.refl _) .nil))) (lg_slices_EqualFunc_s5 _ _ _ hr_2)) ?_
   refine r_d rfl rfl rfl (s_pickT rfl rfl rfl) ?_
   refine r_d rfl rfl rfl (s_assign rfl rfl) ?_
   refine r_end ?_
   obtain rfl := Option.some.inj hr
   refine g_ret Try.func33 _ (.cons (resTmp rfl (Wk.refl _)) .nil) ?_
   rfl
  ·
   refine r_skip rfl rfl rfl ?_
   refine r_skip rfl rfl rfl ?_
   refine r_skip rfl rfl rfl ?_
   refine r_skip rfl rfl rfl ?_
   refine r_skip rfl rfl rfl ?_
   refine r_d rfl rfl rfl (s_pickF rfl rfl rfl) ?_
   refine r_d rfl rfl rfl (s_assign rfl rfl) ?_
   refine r_end ?_
   obtain rfl := Option.some.inj hr
   refine g_ret Try.func33 _ (.cons (resTmp rfl (Wk.refl _)) .nil) ?_
   rfl

noncomputable def lf_slices_EqualFunc_s4_L0 (k : Option (Bool)) (s2_a1 : (List S_api_Block)) : List S_api_Block → Nat → Option (Bool)
  | [], i_2 =>
  k
  | q_3 :: rest, i_2 =>
  ((getI s2_a1 (i_2 : Int)).bind fun q_5 =>
  ((lf_instr_SameImage_1 q_3 q_5).bind fun r_7 =>
  (bif (!r_7) then
  some (false)
  else
  (lf_slices_EqualFunc_s4_L0 k s2_a1 rest (i_2 + 1)))))
noncomputable def lf_slices_EqualFunc_s4 (s1_a0 : (List S_api_Block)) (s2_a1 : (List S_api_Block)) : Option (Bool) :=
  (bif ((s1_a0.length : Int) != (s2_a1.length : Int)) then
  some (false)
  else
  (lf_slices_EqualFunc_s4_L0 (some (true)) s2_a1 s1_a0 0))

set_option maxHeartbeats 1000000 in
theorem lg_slices_EqualFunc_s4 (s1_a0 : (List S_api_Block)) (s2_a1 : (List S_api_Block)) (res : Bool) (hr : lf_slices_EqualFunc_s4 s1_a0 s2_a1 = some res) : Gives Try.prog 36 [.lst (s1_a0.map enc_S_api_Block), .lst (s2_a1.map enc_S_api_Block), .clo (.func 33) [] []] (.bool res) := by
  unfold lf_slices_EqualFunc_s4 at hr
  refine spec_env [(0, .lst (s1_a0.map enc_S_api_Block)), (1, .lst (s2_a1.map enc_S_api_Block)), (2, .clo (.func 33) [] [])] Try.func36 rfl rfl fun K hK => ?_
  refine g_seq ?_
  refine g_run (by kernel_rfl) [(0, .d)] rfl ?_
  refine r_d rfl rfl rfl (s_assign rfl rfl) ?_
  refine r_end ?_
  refine g_seq ?_
  refine g_seq ?_
  refine g_run (by kernel_rfl) [(0, .d), (1, .d), (2, .d), (3, .d), (4, .d)] rfl ?_
  refine r_d rfl rfl rfl (s_move rfl rfl) ?_
  refine r_d rfl rfl rfl (m_len (f := enc_S_api_Block) s1_a0 rfl el_L_api_Block rfl (asl rfl)) ?_
  refine r_d rfl rfl rfl (s_move rfl rfl) ?_
  refine r_d rfl rfl rfl (m_len (f := enc_S_api_Block) s2_a1 rfl el_L_api_Block rfl (asl rfl)) ?_
  refine r_d rfl rfl rfl (s_cmp rfl rfl rfl rfl) ?_
  refine r_end ?_
  refine g_sB 14 rfl hr (fun h14_0 hr => ?_) (fun h14_0 hr => ?_)
  ·
   refine g_condT rfl ?_
   refine g_seq ?_
   refine g_run (by kernel_rfl) [(0, .d)] rfl ?_
   refine r_d rfl rfl rfl (s_assign rfl rfl) ?_
   refine r_end ?_
   obtain rfl := Option.some.inj hr
   refine g_ret Try.func36 _ (.cons (resTmp rfl (Wk.refl _)) .nil) ?_
   rfl
  ·
   refine g_condF rfl ?_
   refine g_skip ?_
   refine g_seq ?_
   refine g_seq ?_
   refine g_run (by kernel_rfl) [(0, .d), (1, .d), (2, .d)] rfl ?_
   refine r_d rfl rfl rfl (s_move rfl rfl) ?_
   refine r_d rfl rfl rfl (m_len (f := enc_S_api_Block) s1_a0 rfl el_L_api_Block rfl (asl rfl)) ?_
   refine r_d rfl rfl rfl (s_move rfl rfl) ?_
   refine r_end ?_
   obtain ⟨kk0, hkk0, hr⟩ := exK (fun k => lf_slices_EqualFunc_s4_L0 k s2_a1 s1_a0 0) hr
   refine g_len 0 rfl (asl rfl) fun hla0 => ?_
   simp only [List.length_map] at hla0
   refine g_blockJ (fun env σ => env = [] ∧ σ = [] ∧ kk0 = some res) ?_ (fun HK0 => ?_)
   ·
    rintro _ _ ⟨rfl, rfl, hr⟩
    rw [hkk0] at hr
    refine g_seq ?_
    refine g_run (by kernel_rfl) [(0, .d)] rfl ?_
    refine r_d rfl rfl rfl (s_assign rfl rfl) ?_
    refine r_end ?_
    obtain rfl := Option.some.inj hr
    refine g_ret Try.func36 _ (.cons (resTmp rfl (Wk.refl _)) .nil) ?_
    rfl
   ·
    refine g_sub [(1, .lst (s2_a1.map enc_S_api_Block)), (2, .clo (.func 33) [] []), (15, .lst (s1_a0.map enc_S_api_Block)), (16, .int .i64 (s1_a0.length : Int)), (17, .int .i64 ((0 : Nat) : Int))] (Sub.cons' rfl (Sub.cons' rfl (Sub.cons' rfl (Sub.cons' rfl (Sub.cons' rfl (Sub.nil _)))))) ?_
    refine g_loop (fun n env σ => ∃ (i_2 : Nat), (n = s1_a0.length - i_2) ∧ (env = [(1, .lst (s2_a1.map enc_S_api_Block)), (2, .clo (.func 33) [] []), (15, .lst (s1_a0.map enc_S_api_Block)), (16, .int .i64 (s1_a0.length : Int)), (17, .int .i64 (i_2 : Int))]) ∧ (σ = []) ∧ (i_2 ≤ s1_a0.length) ∧ (lf_slices_EqualFunc_s4_L0 kk0 s2_a1 (s1_a0.drop i_2) i_2 = some res)) _ ⟨0, rfl, rfl, rfl, Nat.zero_le _, hr⟩ ?_
    rintro n _ _ ⟨i_2, rfl, rfl, rfl, hi0, hr⟩ IH0
    rcases listStep s1_a0 i_2 hi0 with ⟨ht0, hd0, he0⟩ | ⟨q_3, ht0, hd0, hq0, hlt0⟩
    ·
     rw [hd0, lf_slices_EqualFunc_s4_L0] at hr
     refine g_seq ?_
     refine g_run (by kernel_rfl) [(0, .d)] rfl ?_
     refine r_d rfl rfl rfl (s_cmp rfl rfl rfl rfl) ?_
     refine r_end ?_
     refine g_seq ?_
     refine g_known 18 false rfl ht0 ?_
     refine g_condF rfl ?_
     refine g_exit rfl ?_
     refine g_sub [] (Sub.nil _) ?_
     exact HK0 _ _ ⟨rfl, rfl, hr⟩
    ·
     rw [hd0, lf_slices_EqualFunc_s4_L0] at hr
     refine g_seq ?_
     refine g_run (by kernel_rfl) [(0, .d)] rfl ?_
     refine r_d rfl rfl rfl (s_cmp rfl rfl rfl rfl) ?_
     refine r_end ?_
     refine g_seq ?_
     refine g_known 18 true rfl ht0 ?_
     refine g_condT rfl ?_
     refine g_skip ?_
     refine g_seq ?_
     refine g_block ?_
     refine g_seq ?_
     refine g_run (by kernel_rfl) [(0, .d), (1, .d), (2, .d), (3, .w), (4, .d), (5, .w)] rfl ?_
     refine r_d rfl rfl rfl (s_move rfl rfl) ?_
     refine r_d rfl rfl rfl (m_index (f := enc_S_api_Block) s1_a0 rfl el_L_api_Block rfl (asl rfl) rfl hq0 sz_S_api_Block rfl) ?_
     refine r_d rfl rfl rfl (s_load rfl rfl (by exact ty_api_Block) (sz_S_api_Block _)) ?_
     refine r_w rfl rfl rfl (s_alloc rfl zv_api_Block) ?_
     rintro _ _ ⟨b8_3, rfl, rfl⟩
     refine r_d rfl rfl rfl (s_assign rfl rfl) ?_
     refine r_w01 rfl rfl rfl (t_store0 _ rfl rfl rfl (Wk.refl _) (pf0 _) (by exact ty_api_Block) (sz_S_api_Block _) (by simp [sz, szs, szs_fsT, sz_S_api_Occ]) rfl) ?_
     refine r_end ?_
     refine g_freeze 8 b8_3 rfl (pf0 _) ?_
     refine g_seq ?_
     refine g_run (by kernel_rfl) [(0, .d), (1, .d), (2, .d), (3, .d), (4, .w), (5, .w)] rfl ?_
     refine r_d rfl rfl rfl (s_move rfl rfl) ?_
     refine r_d rfl rfl rfl (s_move rfl rfl) ?_
     obtain ⟨q_5, hq_5, hr⟩ := bindS hr
     refine r_d rfl rfl rfl (m_index (f := enc_S_api_Block) s2_a1 rfl el_L_api_Block rfl (asl rfl) rfl hq_5 sz_S_api_Block rfl) ?_
     refine r_d rfl rfl rfl (s_load rfl rfl (by exact ty_api_Block) (sz_S_api_Block _)) ?_
     refine r_w rfl rfl rfl (s_alloc rfl zv_api_Block) ?_
     rintro _ _ ⟨b9_5, rfl, rfl⟩
     refine r_w01 rfl rfl rfl (t_store0 _ rfl rfl rfl (Wk.refl _) (pf0 _) (by exact ty_api_Block) (sz_S_api_Block _) (by simp [sz, szs, szs_fsT, sz_S_api_Occ]) rfl) ?_
     refine r_end ?_
     refine g_freeze 9 b9_5 rfl (pf0 _) ?_
     refine g_seq ?_
     refine g_run (by kernel_rfl) [(0, .d), (1, .d), (2, .d), (3, .d), (4, .d)] rfl ?_
     refine r_d rfl rfl rfl (s_move rfl rfl) ?_
     refine r_d rfl rfl rfl (s_load rfl rfl (by exact ty_api_Block) (sz_S_api_Block _)) ?_
     refine r_d rfl rfl rfl (s_load rfl rfl (by exact ty_api_Block) (sz_S_api_Block _)) ?_
     obtain ⟨r_7, hr_7, hr⟩ := bindS hr
     refine r_d rfl rfl rfl (s_callVD rfl rfl cl_instr_SameImage_1 (.cons rfl (Wk.refl _) (.cons rfl (Wk.refl _) .nil)) rfl (lg_instr_SameImage_1 _ _ _ hr_7)) ?_
     refine r_d rfl rfl rfl (s_not rfl rfl) ?_
     refine r_end ?_
     refine g_sB 30 rfl hr (fun h30_7 hr => ?_) (fun h30_7 hr => ?_)
     ·
      refine g_condT rfl ?_
      refine g_seq ?_
      refine g_run (by kernel_rfl) [(0, .d)] rfl ?_
      refine r_d rfl rfl rfl (s_assign rfl rfl) ?_
      refine r_end ?_
      obtain rfl := Option.some.inj hr
      refine g_ret Try.func36 _ (.cons (resTmp rfl (Wk.refl _)) .nil) ?_
      rfl
     ·
      refine g_condF rfl ?_
      refine g_skip ?_
      refine g_inBlock ?_
      refine g_run (by kernel_rfl) [(0, .d), (1, .d)] rfl ?_
      refine r_d rfl rfl rfl (s_ar (r := ((i_2 + 1 : Nat) : Int)) rfl rfl rfl (by simp [iar]) (by omega)) ?_
      refine r_d rfl rfl rfl (s_move rfl rfl) ?_
      refine r_end ?_
      refine g_sub [(1, .lst (s2_a1.map enc_S_api_Block)), (2, .clo (.func 33) [] []), (15, .lst (s1_a0.map enc_S_api_Block)), (16, .int .i64 (s1_a0.length : Int)), (17, .int .i64 ((i_2 + 1 : Nat) : Int))] (Sub.cons' rfl (Sub.cons' rfl (Sub.cons' rfl (Sub.cons' rfl (Sub.cons' rfl (Sub.nil _)))))) ?_
      exact IH0 _ _ _ (by omega) ⟨(i_2 + 1), rfl, rfl, rfl, (by omega), hr⟩

noncomputable def lf_instr_SameImage_2_s1 (x_a0 : S_api_Unit) (y_a1 : S_api_Unit) : Option (Bool) :=
  (bif (x_a0.f0_Name.toList == y_a1.f0_Name.toList) then
  (bif (x_a0.f1_Arity == y_a1.f1_Arity) then
  (bif (x_a0.f3_Never == y_a1.f3_Never) then
  (bif (x_a0.f4_Late == y_a1.f4_Late) then
  ((lf_slices_EqualFunc_s4 x_a0.f2_Blocks y_a1.f2_Blocks).bind fun r_5 =>
  some (r_5))
  else
  some (false))
  else
  some (false))
  else
  some (false))
  else
  some (false))

set_option maxHeartbeats 1000000 in
theorem lg_instr_SameImage_2_s1 (x_a0 : S_api_Unit) (y_a1 : S_api_Unit) (res : Bool) (hr : lf_instr_SameImage_2_s1 x_a0 y_a1 = some res) : Gives Try.prog 35 [enc_S_api_Unit x_a0, enc_S_api_Unit y_a1, .ptr (.clo (.func 33) [] [])] (.bool res) := by
  unfold lf_instr_SameImage_2_s1 at hr
  refine spec_env [(0, enc_S_api_Unit x_a0), (1, enc_S_api_Unit y_a1), (2, .ptr (.clo (.func 33) [] []))] Try.func35 rfl rfl fun K hK => ?_
  refine g_seq ?_
  refine g_run (by kernel_rfl) [(0, .d), (1, .d), (2, .d)] rfl ?_
  refine r_d rfl rfl rfl (s_box rfl rfl rfl) ?_
  refine r_d rfl rfl rfl (s_box rfl rfl rfl) ?_
  refine r_d rfl rfl rfl (s_assign rfl rfl) ?_
  refine r_end ?_
  refine g_seq ?_
  refine g_run (by kernel_rfl) [(0, .d), (1, .d), (2, .d), (3, .d), (4, .d), (5, .d), (6, .d), (7, .d), (8, .d), (9, .d), (10, .d), (11, .d), (12, .d), (13, .d), (14, .d), (15, .d), (16, .d), (17, .d), (18, .d), (19, .d), (20, .d), (21, .d), (22, .d), (23, .d), (24, .d), (25, .d), (26, .d), (27, .d), (28, .d), (29, .d), (30, .d), (31, .d), (32, .d), (33, .d), (34, .d)] rfl ?_
  refine r_d rfl rfl rfl (s_fieldAddr rfl fl_api_Unit_0 rfl rfl rfl rfl) ?_
  refine r_d rfl rfl rfl (s_load rfl rfl (by exact ty_string) rfl) ?_
  refine r_d rfl rfl rfl (s_fieldAddr rfl fl_api_Unit_0 rfl rfl rfl rfl) ?_
  refine r_d rfl rfl rfl (s_load rfl rfl (by exact ty_string) rfl) ?_
  refine r_d rfl rfl rfl (s_cmpS rfl rfl rfl rfl) ?_
  refine r_d rfl rfl rfl (s_move rfl rfl) ?_
  refine r_sB 11 rfl hr (fun h11_0 hr => ?_) (fun h11_0 hr => ?_)
  ·
   refine r_d rfl rfl rfl (s_fieldAddr rfl fl_api_Unit_1 rfl rfl rfl rfl) ?_
   refine r_d rfl rfl rfl (s_load rfl rfl (by exact ty_int) rfl) ?_
   refine r_d rfl rfl rfl (s_fieldAddr rfl fl_api_Unit_1 rfl rfl rfl rfl) ?_
   refine r_d rfl rfl rfl (s_load rfl rfl (by exact ty_int) rfl) ?_
   refine r_d rfl rfl rfl (s_cmp rfl rfl rfl rfl) ?_
   refine r_d rfl rfl rfl (s_pickT rfl rfl rfl) ?_
   refine r_d rfl rfl rfl (s_move rfl rfl) ?_
   refine r_sB 18 rfl hr (fun h18_1 hr => ?_) (fun h18_1 hr => ?_)
   ·
    refine r_d rfl rfl rfl (s_fieldAddr rfl fl_api_Unit_3 rfl rfl rfl rfl) ?_
    refine r_d rfl rfl rfl (s_load rfl rfl (by exact ty_bool) rfl) ?_
    refine r_d rfl rfl rfl (s_fieldAddr rfl fl_api_Unit_3 rfl rfl rfl rfl) ?_
    refine r_d rfl rfl rfl (s_load rfl rfl (by exact ty_bool) rfl) ?_
    refine r_d rfl rfl rfl (s_cmpB rfl Try.underlying4 rfl rfl) ?_
    refine r_d rfl rfl rfl (s_pickT rfl rfl rfl) ?_
    refine r_d rfl rfl rfl (s_move rfl rfl) ?_
    refine r_sB 25 rfl hr (fun h25_2 hr => ?_) (fun h25_2 hr => ?_)
    ·
     refine r_d rfl rfl rfl (s_fieldAddr rfl fl_api_Unit_4 rfl rfl rfl rfl) ?_
     refine r_d rfl rfl rfl (s_load rfl rfl (by exact ty_int) rfl) ?_
     refine r_d rfl rfl rfl (s_fieldAddr rfl fl_api_Unit_4 rfl rfl rfl rfl) ?_
     refine r_d rfl rfl rfl (s_load rfl rfl (by exact ty_int) rfl) ?_
     refine r_d rfl rfl rfl (s_cmp rfl rfl rfl rfl) ?_
     refine r_d rfl rfl rfl (s_pickT rfl rfl rfl) ?_
     refine r_d rfl rfl rfl (s_move rfl rfl) ?_
     refine r_sB 32 rfl hr (fun h32_3 hr => ?_) (fun h32_3 hr => ?_)
     ·
      refine r_d rfl rfl rfl (s_fieldAddr rfl fl_api_Unit_2 rfl rfl rfl rfl) ?_
      refine r_d rfl rfl rfl (s_load rfl rfl (by exact ty_L_api_Block) rfl) ?_
      refine r_d rfl rfl rfl (s_fieldAddr rfl fl_api_Unit_2 rfl rfl rfl rfl) ?_
      refine r_d rfl rfl rfl (s_load rfl rfl (by exact ty_L_api_Block) rfl) ?_
      refine r_d rfl rfl rfl (s_load rfl rfl (by exact ty_func_api_Block__api_Block__bool) rfl) ?_
      obtain ⟨r_5, hr_5, hr⟩ := bindS hr
      refine r_d rfl rfl rfl (s_callD rfl cl_slices_EqualFunc_api_Block_api_Block_api_Block_api_Block (.cons rfl (Wk.refl _) (.cons rfl (Wk.refl _) (.cons rfl (Wk.refl _) .nil))) (lg_slices_EqualFunc_s4 _ _ _ hr_5)) ?_
      refine r_d rfl rfl rfl (s_pickT rfl rfl rfl) ?_
      refine r_d rfl rfl rfl (s_assign rfl rfl) ?_
      refine r_end ?_
      obtain rfl := Option.some.inj hr
      refine g_ret Try.func35 _ (.cons (resTmp rfl (Wk.refl _)) .nil) ?_
      rfl
     ·
      refine r_skip rfl rfl rfl ?_
      refine r_skip rfl rfl rfl ?_
      refine r_skip rfl rfl rfl ?_
      refine r_skip rfl rfl rfl ?_
      refine r_skip rfl rfl rfl ?_
      refine r_skip rfl rfl rfl ?_
      refine r_d rfl rfl rfl (s_pickF rfl rfl rfl) ?_
      refine r_d rfl rfl rfl (s_assign rfl rfl) ?_
      refine r_end ?_
      obtain rfl := Option.some.inj hr
      refine g_ret Try.func35 _ (.cons (resTmp rfl (Wk.refl _)) .nil) ?_
      rfl
    ·
     refine r_skip rfl rfl rfl ?_
     refine r_skip rfl rfl rfl ?_
     refine r_skip rfl rfl rfl ?_
     refine r_skip rfl rfl rfl ?_
     refine r_skip rfl rfl rfl ?_
     refine r_d rfl rfl rfl (s_pickF rfl rfl rfl) ?_
     refine r_d rfl rfl rfl (s_move rfl rfl) ?_
     refine r_skip rfl rfl rfl ?_
     refine r_skip rfl rfl rfl ?_
     refine r_skip rfl rfl rfl ?_
     refine r_skip rfl rfl rfl ?_
     refine r_skip rfl rfl rfl ?_
     refine r_skip rfl rfl rfl ?_
     refine r_d rfl rfl rfl (s_pickF rfl rfl rfl) ?_
     refine r_d rfl rfl rfl (s_assign rfl rfl) ?_
     refine r_end ?_
     obtain rfl := Option.some.inj hr
     refine g_ret Try.func35 _ (.cons (resTmp rfl (Wk.refl _)) .nil) ?_
     rfl
   ·
    refine r_skip rfl rfl rfl ?_
    refine r_skip rfl rfl rfl ?_
    refine r_skip rfl rfl rfl ?_
    refine r_skip rfl rfl rfl ?_
    refine r_skip rfl rfl rfl ?_
    refine r_d rfl rfl rfl (s_pickF rfl rfl rfl) ?_
    refine r_d rfl rfl rfl (s_move rfl rfl) ?_
    refine r_skip rfl rfl rfl ?_
    refine r_skip rfl rfl rfl ?_
    refine r_skip rfl rfl rfl ?_
    refine r_skip rfl rfl rfl ?_
    refine r_skip rfl rfl rfl ?_
    refine r_d rfl rfl rfl (s_pickF rfl rfl rfl) ?_
    refine r_d rfl rfl rfl (s_move rfl rfl) ?_
    refine r_skip rfl rfl rfl ?_
    refine r_skip rfl rfl rfl ?_
    refine r_skip rfl rfl rfl ?_
    refine r_skip rfl rfl rfl ?_
    refine r_skip rfl rfl rfl ?_
    refine r_skip rfl rfl rfl ?_
    refine r_d rfl rfl rfl (s_pickF rfl rfl rfl) ?_
    refine r_d rfl rfl rfl (s_assign rfl rfl) ?_
    refine r_end ?_
    obtain rfl := Option.some.inj hr
    refine g_ret Try.func35 _ (.cons (resTmp rfl (Wk.refl _)) .nil) ?_
    rfl
  ·
   refine r_skip rfl rfl rfl ?_
   refine r_skip rfl rfl rfl ?_
   refine r_skip rfl rfl rfl ?_
   refine r_skip rfl rfl rfl ?_
   refine r_skip rfl rfl rfl ?_
   refine r_d rfl rfl rfl (s_pickF rfl rfl rfl) ?_
   refine r_d rfl rfl rfl (s_move rfl rfl) ?_
   refine r_skip rfl rfl rfl ?_
   refine r_skip rfl rfl rfl ?_
   refine r_skip rfl rfl rfl ?_
   refine r_skip rfl rfl rfl ?_
   refine r_skip rfl rfl rfl ?_
   refine r_d rfl rfl rfl (s_pickF rfl rfl rfl) ?_
   refine r_d rfl rfl rfl (s_move rfl rfl) ?_
   refine r_skip rfl rfl rfl ?_
   refine r_skip rfl rfl rfl ?_
   refine r_skip rfl rfl rfl ?_
   refine r_skip rfl rfl rfl ?_
   refine r_skip rfl rfl rfl ?_
   refine r_d rfl rfl rfl (s_pickF rfl rfl rfl) ?_
   refine r_d rfl rfl rfl (s_move rfl rfl) ?_
   refine r_skip rfl rfl rfl ?_
   refine r_skip rfl rfl rfl ?_
   refine r_skip rfl rfl rfl ?_
   refine r_skip rfl rfl rfl ?_
   refine r_skip rfl rfl rfl ?_
   refine r_skip rfl rfl rfl ?_
   refine r_d rfl rfl rfl (s_pickF rfl rfl rfl) ?_
   refine r_d rfl rfl rfl (s_assign rfl rfl) ?_
   refine r_end ?_
   obtain rfl := Option.some.inj hr
   refine g_ret Try.func35 _ (.cons (resTmp rfl (Wk.refl _)) .nil) ?_
   rfl

noncomputable def lf_slices_EqualFunc_s3_L0 (k : Option (Bool)) (s2_a1 : (List S_api_Unit)) : List S_api_Unit → Nat → Option (Bool)
  | [], i_2 =>
  k
  | q_3 :: rest, i_2 =>
  ((getI s2_a1 (i_2 : Int)).bind fun q_5 =>
  ((lf_instr_SameImage_2_s1 q_3 q_5).bind fun r_7 =>
  (bif (!r_7) then
  some (false)
  else
  (lf_slices_EqualFunc_s3_L0 k s2_a1 rest (i_2 + 1)))))
noncomputable def lf_slices_EqualFunc_s3 (s1_a0 : (List S_api_Unit)) (s2_a1 : (List S_api_Unit)) : Option (Bool) :=
  (bif ((s1_a0.length : Int) != (s2_a1.length : Int)) then
  some (false)
  else
  (lf_slices_EqualFunc_s3_L0 (some (true)) s2_a1 s1_a0 0))

set_option maxHeartbeats 1000000 in
theorem lg_slices_EqualFunc_s3 (s1_a0 : (List S_api_Unit)) (s2_a1 : (List S_api_Unit)) (res : Bool) (hr : lf_slices_EqualFunc_s3 s1_a0 s2_a1 = some res) : Gives Try.prog 40 [.lst (s1_a0.map enc_S_api_Unit), .lst (s2_a1.map enc_S_api_Unit), .clo (.func 35) [] [.ptr (.clo (.func 33) [] [])]] (.bool res) := by
  unfold lf_slices_EqualFunc_s3 at hr
  refine spec_env [(0, .lst (s1_a0.map enc_S_api_Unit)), (1, .lst (s2_a1.map enc_S_api_Unit)), (2, .clo (.func 35) [] [.ptr (.clo (.func 33) [] [])])] Try.func40 rfl rfl fun K hK => ?_
  refine g_seq ?_
  refine g_run (by kernel_rfl) [(0, .d)] rfl ?_
  refine r_d rfl rfl rfl (s_assign rfl rfl) ?_
  refine r_end ?_
  refine g_seq ?_
  refine g_seq ?_
  refine g_run (by kernel_rfl) [(0, .d), (1, .d), (2, .d), (3, .d), (4, .d)] rfl ?_
  refine r_d rfl rfl rfl (s_move rfl rfl) ?_
  refine r_d rfl rfl rfl (m_len (f := enc_S_api_Unit) s1_a0 rfl el_L_api_Unit rfl (asl rfl)) ?_
  refine r_d rfl rfl rfl (s_move rfl rfl) ?_
  refine r_d rfl rfl rfl (m_len (f := enc_S_api_Unit) s2_a1 rfl el_L_api_Unit rfl (asl rfl)) ?_
  refine r_d rfl rfl rfl (s_cmp rfl rfl rfl rfl) ?_
  refine r_end ?_
  refine g_sB 14 rfl hr (fun h14_0 hr => ?_) (fun h14_0 hr => ?_)
  ·
   refine g_condT rfl ?_
   refine g_seq ?_
   refine g_run (by kernel_rfl) [(0, .d)] rfl ?_
   refine r_d rfl rfl rfl (s_assign rfl rfl) ?_
   refine r_end ?_
   obtain rfl := Option.some.inj hr
   refine g_ret Try.func40 _ (.cons (resTmp rfl (Wk.refl _)) .nil) ?_
   rfl
  ·
   refine g_condF rfl ?_
   refine g_skip ?_
   refine g_seq ?_
   refine g_seq ?_
   refine g_run (by kernel_rfl) [(0, .d), (1, .d), (2, .d)] rfl ?_
   refine r_d rfl rfl rfl (s_move rfl rfl) ?_
   refine r_d rfl rfl rfl (m_len (f := enc_S_api_Unit) s1_a0 rfl el_L_api_Unit rfl (asl rfl)) ?_
   refine r_d rfl rfl rfl (s_move rfl rfl) ?_
   refine r_end ?_
   obtain ⟨kk0, hkk0, hr⟩ := exK (fun k => lf_slices_EqualFunc_s3_L0 k s2_a1 s1_a0 0) hr
   refine g_len 0 rfl (asl rfl) fun hla0 => ?_
   simp only [List.length_map] at hla0
   refine g_blockJ (fun env σ => env = [] ∧ σ = [] ∧ kk0 = some res) ?_ (fun HK0 => ?_)
   ·
    rintro _ _ ⟨rfl, rfl, hr⟩
    rw [hkk0] at hr
    refine g_seq ?_
    refine g_run (by kernel_rfl) [(0, .d)] rfl ?_
    refine r_d rfl rfl rfl (s_assign rfl rfl) ?_
    refine r_end ?_
    obtain rfl := Option.some.inj hr
    refine g_ret Try.func40 _ (.cons (resTmp rfl (Wk.refl _)) .nil) ?_
    rfl
   ·
    refine g_sub [(1, .lst (s2_a1.map enc_S_api_Unit)), (2, .clo (.func 35) [] [.ptr (.clo (.func 33) [] [])]), (15, .lst (s1_a0.map enc_S_api_Unit)), (16, .int .i64 (s1_a0.length : Int)), (17, .int .i64 ((0 : Nat) : Int))] (Sub.cons' rfl (Sub.cons' rfl (Sub.cons' rfl (Sub.cons' rfl (Sub.cons' rfl (Sub.nil _)))))) ?_
    refine g_loop (fun n env σ => ∃ (i_2 : Nat), (n = s1_a0.length - i_2) ∧ (env = [(1, .lst (s2_a1.map enc_S_api_Unit)), (2, .clo (.func 35) [] [.ptr (.clo (.func 33) [] [])]), (15, .lst (s1_a0.map enc_S_api_Unit)), (16, .int .i64 (s1_a0.length : Int)), (17, .int .i64 (i_2 : Int))]) ∧ (σ = []) ∧ (i_2 ≤ s1_a0.length) ∧ (lf_slices_EqualFunc_s3_L0 kk0 s2_a1 (s1_a0.drop i_2) i_2 = some res)) _ ⟨0, rfl, rfl, rfl, Nat.zero_le _, hr⟩ ?_
    rintro n _ _ ⟨i_2, rfl, rfl, rfl, hi0, hr⟩ IH0
    rcases listStep s1_a0 i_2 hi0 with ⟨ht0, hd0, he0⟩ | ⟨q_3, ht0, hd0, hq0, hlt0⟩
    ·
     rw [hd0, lf_slices_EqualFunc_s3_L0] at hr
     refine g_seq ?_
     refine g_run (by kernel_rfl) [(0, .d)] rfl ?_
     refine r_d rfl rfl rfl (s_cmp rfl rfl rfl rfl) ?_
     refine r_end ?_
     refine g_seq ?_
     refine g_known 18 false rfl ht0 ?_
     refine g_condF rfl ?_
     refine g_exit rfl ?_
     refine g_sub [] (Sub.nil _) ?_
     exact HK0 _ _ ⟨rfl, rfl, hr⟩
    ·
     rw [hd0, lf_slices_EqualFunc_s3_L0] at hr
     refine g_seq ?_
     refine g_run (by kernel_rfl) [(0, .d)] rfl ?_
     refine r_d rfl rfl rfl (s_cmp rfl rfl rfl rfl) ?_
     refine r_end ?_
     refine g_seq ?_
     refine g_known 18 true rfl ht0 ?_
     refine g_condT rfl ?_
     refine g_skip ?_
     refine g_seq ?_
     refine g_block ?_
     refine g_seq ?_
     refine g_run (by kernel_rfl) [(0, .d), (1, .d), (2, .d), (3, .w), (4, .d), (5, .w)] rfl ?_
     refine r_d rfl rfl rfl (s_move rfl rfl) ?_
     refine r_d rfl rfl rfl (m_index (f := enc_S_api_Unit) s1_a0 rfl el_L_api_Unit rfl (asl rfl) rfl hq0 sz_S_api_Unit rfl) ?_
     refine r_d rfl rfl rfl (s_load rfl rfl (by exact ty_api_Unit) (sz_S_api_Unit _)) ?_
     refine r_w rfl rfl rfl (s_alloc rfl zv_api_Unit) ?_
     rintro _ _ ⟨b8_3, rfl, rfl⟩
     refine r_d rfl rfl rfl (s_assign rfl rfl) ?_
     refine r_w01 rfl rfl rfl (t_store0 _ rfl rfl rfl (Wk.refl _) (pf0 _) (by exact ty_api_Unit) (sz_S_api_Unit _) rfl rfl) ?_
     refine r_end ?_
     refine g_freeze 8 b8_3 rfl (pf0 _) ?_
     refine g_seq ?_
     refine g_run (by kernel_rfl) [(0, .d), (1, .d), (2, .d), (3, .d), (4, .w), (5, .w)] rfl ?_
     refine r_d rfl rfl rfl (s_move rfl rfl) ?_
     refine r_d rfl rfl rfl (s_move rfl rfl) ?_
     obtain ⟨q_5, hq_5, hr⟩ := bindS hr
     refine r_d rfl rfl rfl (m_index (f := enc_S_api_Unit) s2_a1 rfl el_L_api_Unit rfl (asl rfl) rfl hq_5 sz_S_api_Unit rfl) ?_
     refine r_d rfl rfl rfl (s_load rfl rfl (by exact ty_api_Unit) (sz_S_api_Unit _)) ?_
     refine r_w rfl rfl rfl (s_alloc rfl zv_api_Unit) ?_
     rintro _ _ ⟨b9_5, rfl, rfl⟩
     refine r_w01 rfl rfl rfl (t_store0 _ rfl rfl rfl (Wk.refl _) (pf0 _) (by exact ty_api_Unit) (sz_S_api_Unit _) rfl rfl) ?_
     refine r_end ?_
     refine g_freeze 9 b9_5 rfl (pf0 _) ?_
     refine g_seq ?_
     refine g_run (by kernel_rfl) [(0, .d), (1, .d), (2, .d), (3, .d), (4, .d)] rfl ?_
     refine r_d rfl rfl rfl (s_move rfl rfl) ?_
     refine r_d rfl rfl rfl (s_load rfl rfl (by exact ty_api_Unit) (sz_S_api_Unit _)) ?_
     refine r_d rfl rfl rfl (s_load rfl rfl (by exact ty_api_Unit) (sz_S_api_Unit _)) ?_
     obtain ⟨r_7, hr_7, hr⟩ := bindS hr
     refine r_d rfl rfl rfl (s_callVD rfl rfl cl_instr_SameImage_2 (.cons rfl (Wk.refl _) (.cons rfl (Wk.refl _) .nil)) rfl (lg_instr_SameImage_2_s1 _ _ _ hr_7)) ?_
     refine r_d rfl rfl rfl (s_not rfl rfl) ?_
     refine r_end ?_
     refine g_sB 30 rfl hr (fun h30_7 hr => ?_) (fun h30_7 hr => ?_)
     ·
      refine g_condT rfl ?_
      refine g_seq ?_
      refine g_run (by kernel_rfl) [(0, .d)] rfl ?_
      refine r_d rfl rfl rfl (s_assign rfl rfl) ?_
      refine r_end ?_
      obtain rfl := Option.some.inj hr
      refine g_ret Try.func40 _ (.cons (resTmp rfl (Wk.refl _)) .nil) ?_
      rfl
     ·
      refine g_condF rfl ?_
      refine g_skip ?_
      refine g_inBlock ?_
      refine g_run (by kernel_rfl) [(0, .d), (1, .d)] rfl ?_
      refine r_d rfl rfl rfl (s_ar (r := ((i_2 + 1 : Nat) : Int)) rfl rfl rfl (by simp [iar]) (by omega)) ?_
      refine r_d rfl rfl rfl (s_move rfl rfl) ?_
      refine r_end ?_
      refine g_sub [(1, .lst (s2_a1.map enc_S_api_Unit)), (2, .clo (.func 35) [] [.ptr (.clo (.func 33) [] [])]), (15, .lst (s1_a0.map enc_S_api_Unit)), (16, .int .i64 (s1_a0.length : Int)), (17, .int .i64 ((i_2 + 1 : Nat) : Int))] (Sub.cons' rfl (Sub.cons' rfl (Sub.cons' rfl (Sub.cons' rfl (Sub.cons' rfl (Sub.nil _)))))) ?_
      exact IH0 _ _ _ (by omega) ⟨(i_2 + 1), rfl, rfl, rfl, (by omega), hr⟩

noncomputable def lf_instr_SameImage (a_a0 : S_api_Image) (b_a1 : S_api_Image) : Option (Bool) :=
  (bif (a_a0.f2_Rules == b_a1.f2_Rules) then
  ((lf_slices_EqualFunc_s2 a_a0.f1_Access b_a1.f1_Access).bind fun r_3 =>
  (bif r_3 then
  ((lf_slices_EqualFunc_s3 a_a0.f0_Units b_a1.f0_Units).bind fun r_5 =>
  some (r_5))
  else
  some (false)))
  else
  some (false))

set_option maxHeartbeats 1000000 in
theorem lg_instr_SameImage (a_a0 : S_api_Image) (b_a1 : S_api_Image) (res : Bool) (hr : lf_instr_SameImage a_a0 b_a1 = some res) : Gives Try.prog 13 [enc_S_api_Image a_a0, enc_S_api_Image b_a1] (.bool res) := by
  unfold lf_instr_SameImage at hr
  refine spec_env [(0, enc_S_api_Image a_a0), (1, enc_S_api_Image b_a1)] Try.func13 rfl rfl fun K hK => ?_
  refine g_seq ?_
  refine g_run (by kernel_rfl) [(0, .d), (1, .d), (2, .d)] rfl ?_
  refine r_d rfl rfl rfl (s_box rfl rfl rfl) ?_
  refine r_d rfl rfl rfl (s_box rfl rfl rfl) ?_
  refine r_d rfl rfl rfl (s_assign rfl rfl) ?_
  refine r_end ?_
  refine g_seq ?_
  refine g_run (by kernel_rfl) [(0, .w), (1, .w)] rfl ?_
  refine r_w rfl rfl rfl (s_alloc rfl zv_func_api_Block__api_Block__bool) ?_
  rintro _ _ ⟨b5_0, rfl, rfl⟩
  refine r_w01 rfl rfl rfl (t_store0 _ rfl rfl rfl (Wk.refl _) (pf0 _) (by exact ty_func_api_Block__api_Block__bool) rfl rfl rfl) ?_
  refine r_end ?_
  refine g_freeze 5 b5_0 rfl (pf0 _) ?_
  refine g_seq ?_
  refine g_run (by kernel_rfl) [(0, .d), (1, .d)] rfl ?_
  refine r_d rfl rfl rfl (s_makeFunc rfl rfl rfl) ?_
  refine r_d rfl rfl rfl (s_assign rfl rfl) ?_
  refine r_end ?_
  refine g_seq ?_
  refine g_run (by kernel_rfl) [(0, .d)] rfl ?_
  refine r_d rfl rfl rfl (s_assign rfl rfl) ?_
  refine r_end ?_
  refine g_seq ?_
  refine g_run (by kernel_rfl) [(0, .d), (1, .d), (2, .d), (3, .d), (4, .d), (5, .d), (6, .d), (7, .d), (8, .d), (9, .d), (10, .d), (11, .d), (12, .d), (13, .d), (14, .d), (15, .d), (16, .d), (17, .d), (18, .d), (19, .d), (20, .d), (21, .d)] rfl ?_
  refine r_d rfl rfl rfl (s_fieldAddr rfl fl_api_Image_2 rfl rfl rfl rfl) ?_
  refine r_d rfl rfl rfl (s_load rfl rfl (by exact ty_int) rfl) ?_
  refine r_d rfl rfl rfl (s_fieldAddr rfl fl_api_Image_2 rfl rfl rfl rfl) ?_
  refine r_d rfl rfl rfl (s_load rfl rfl (by exact ty_int) rfl) ?_
  refine r_d rfl rfl rfl (s_cmp rfl rfl rfl rfl) ?_
  refine r_d rfl rfl rfl (s_move rfl rfl) ?_
  refine r_sB 14 rfl hr (fun h14_1 hr => ?_) (fun h14_1 hr => ?_)
  ·
   refine r_d rfl rfl rfl (s_fieldAddr rfl fl_api_Image_1 rfl rfl rfl rfl) ?_
   refine r_d rfl rfl rfl (s_load rfl rfl (by exact ty_L_api_Access) rfl) ?_
   refine r_d rfl rfl rfl (s_fieldAddr rfl fl_api_Image_1 rfl rfl rfl rfl) ?_
   refine r_d rfl rfl rfl (s_load rfl rfl (by exact ty_L_api_Access) rfl) ?_
   refine r_d rfl rfl rfl (s_move rfl rfl) ?_
   obtain ⟨r_3, hr_3, hr⟩ := bindS hr
   refine r_d rfl rfl rfl (s_callD rfl cl_slices_EqualFunc_api_Access_api_Access_api_Access_api_Access (.cons rfl (Wk.refl _) (.cons rfl (Wk.refl _) (.cons rfl (Wk.refl _) .nil))) (lg_slices_EqualFunc_s2 _ _ _ hr_3)) ?_
   refine r_d rfl rfl rfl (s_pickT rfl rfl rfl) ?_
   refine r_d rfl rfl rfl (s_move rfl rfl) ?_
   refine r_sB 22 rfl hr (fun h22_3 hr => ?_) (fun h22_3 hr => ?_)
   ·
    refine r_d rfl rfl rfl (s_fieldAddr rfl fl_api_Image_0 rfl rfl rfl rfl) ?_
    refine r_d rfl rfl rfl (s_load rfl rfl (by exact ty_L_api_Unit) rfl) ?_
    refine r_d rfl rfl rfl (s_fieldAddr rfl fl_api_Image_0 rfl rfl rfl rfl) ?_
    refine r_d rfl rfl rfl (s_load rfl rfl (by exact ty_L_api_Unit) rfl) ?_
    refine r_d rfl rfl rfl (s_move rfl rfl) ?_
    obtain ⟨r_5, hr_5, hr⟩ := bindS hr
    refine r_d rfl rfl rfl (s_callD rfl cl_slices_EqualFunc_api_Unit_api_Unit_api_Unit_api_Unit (.cons rfl (Wk.refl _) (.cons rfl (Wk.refl _) (.cons rfl (Wk.refl _) .nil))) (lg_slices_EqualFunc_s3 _ _ _ hr_5)) ?_
    refine r_d rfl rfl rfl (s_pickT rfl rfl rfl) ?_
    refine r_d rfl rfl rfl (s_assign rfl rfl) ?_
    refine r_end ?_
    obtain rfl := Option.some.inj hr
    refine g_ret Try.func13 _ (.cons (resTmp rfl (Wk.refl _)) .nil) ?_
    rfl
   ·
    refine r_skip rfl rfl rfl ?_
    refine r_skip rfl rfl rfl ?_
    refine r_skip rfl rfl rfl ?_
    refine r_skip rfl rfl rfl ?_
    refine r_skip rfl rfl rfl ?_
    refine r_skip rfl rfl rfl ?_
    refine r_d rfl rfl rfl (s_pickF rfl rfl rfl) ?_
    refine r_d rfl rfl rfl (s_assign rfl rfl) ?_
    refine r_end ?_
    obtain rfl := Option.some.inj hr
    refine g_ret Try.func13 _ (.cons (resTmp rfl (Wk.refl _)) .nil) ?_
    rfl
  ·
   refine r_skip rfl rfl rfl ?_
   refine r_skip rfl rfl rfl ?_
   refine r_skip rfl rfl rfl ?_
   refine r_skip rfl rfl rfl ?_
   refine r_skip rfl rfl rfl ?_
   refine r_skip rfl rfl rfl ?_
   refine r_d rfl rfl rfl (s_pickF rfl rfl rfl) ?_
   refine r_d rfl rfl rfl (s_move rfl rfl) ?_
   refine r_skip rfl rfl rfl ?_
   refine r_skip rfl rfl rfl ?_
   refine r_skip rfl rfl rfl ?_
   refine r_skip rfl rfl rfl ?_
   refine r_skip rfl rfl rfl ?_
   refine r_skip rfl rfl rfl ?_
   refine r_d rfl rfl rfl (s_pickF rfl rfl rfl) ?_
   refine r_d rfl rfl rfl (s_assign rfl rfl) ?_
   refine r_end ?_
   obtain rfl := Option.some.inj hr
   refine g_ret Try.func13 _ (.cons (resTmp rfl (Wk.refl _)) .nil) ?_
   rfl

noncomputable def lf_constraintlaw32_live : Option (Bool) :=
  ((getI [(⟨3, 1, 0, (⟨0, ⟨#[]⟩, []⟩ : Gl), []⟩ : S_api_Instr), (⟨6, 1, 0, (⟨0, ⟨#[]⟩, []⟩ : Gl), []⟩ : S_api_Instr), (⟨10, 0, 0, (⟨0, ⟨#[]⟩, []⟩ : Gl), []⟩ : S_api_Instr)] 0).bind fun q_1 =>
  ((lf_instr_Right q_1).bind fun r_2 =>
  (bif r_2 then
  ((lf_instr_Check (⟨(⟨0, 0, true⟩ : S_api_Occ), [(⟨3, 1, 0, (⟨0, ⟨#[]⟩, []⟩ : Gl), []⟩ : S_api_Instr), (⟨6, 1, 0, (⟨0, ⟨#[]⟩, []⟩ : Gl), []⟩ : S_api_Instr), (⟨10, 0, 0, (⟨0, ⟨#[]⟩, []⟩ : Gl), []⟩ : S_api_Instr)]⟩ : S_api_Block)).bind fun r_4 =>
  (bif (r_4 == (0 : Int)) then
  ((lf_instr_Check (⟨(⟨0, 1, true⟩ : S_api_Occ), [(⟨3, 1, 0, (⟨0, ⟨#[]⟩, []⟩ : Gl), []⟩ : S_api_Instr), (⟨6, 1, 0, (⟨0, ⟨#[]⟩, []⟩ : Gl), []⟩ : S_api_Instr), (⟨10, 0, 0, (⟨0, ⟨#[]⟩, []⟩ : Gl), []⟩ : S_api_Instr)]⟩ : S_api_Block)).bind fun r_6 =>
  (bif (r_6 == (18 : Int)) then
  ((lf_instr_CheckImage (⟨[], [], 0⟩ : S_api_Image)).bind fun r_8 =>
  (bif (r_8 == (0 : Int)) then
  ((lf_instr_Same q_1 q_1).bind fun r_10 =>
  (bif r_10 then
  ((getI [(⟨3, 1, 0, (⟨0, ⟨#[]⟩, []⟩ : Gl), []⟩ : S_api_Instr), (⟨6, 1, 0, (⟨0, ⟨#[]⟩, []⟩ : Gl), []⟩ : S_api_Instr), (⟨10, 0, 0, (⟨0, ⟨#[]⟩, []⟩ : Gl), []⟩ : S_api_Instr)] 1).bind fun q_12 =>
  ((lf_instr_Same q_1 q_12).bind fun r_13 =>
  (bif (!r_13) then
  ((lf_instr_SameImage (⟨[], [], 0⟩ : S_api_Image) (⟨[], [], 0⟩ : S_api_Image)).bind fun r_15 =>
  (bif r_15 then
  ((lf_instr_SameImage (⟨[], [], 0⟩ : S_api_Image) (⟨[], [], 1⟩ : S_api_Image)).bind fun r_17 =>
  some ((!r_17)))
  else
  some (false)))
  else
  some (false))))
  else
  some (false)))
  else
  some (false)))
  else
  some (false)))
  else
  some (false)))
  else
  some (false))))

set_option maxHeartbeats 1000000 in
theorem lg_constraintlaw32_live (res : Bool) (hr : lf_constraintlaw32_live = some res) : Gives Try.prog 11 [] (.bool res) := by
  unfold lf_constraintlaw32_live at hr
  refine spec_env [] Try.func11 rfl rfl fun K hK => ?_
  refine g_seq ?_
  refine g_run (by kernel_rfl) [(0, .d)] rfl ?_
  refine r_d rfl rfl rfl (s_assign rfl rfl) ?_
  refine r_end ?_
  refine g_seq ?_
  refine g_run (by kernel_rfl) [(0, .d), (1, .d), (2, .d), (3, .d), (4, .d)] rfl ?_
  refine r_d rfl rfl rfl (s_build rfl bt_api_Instr (.cons rfl (Wk.refl _) (.cons rfl (Wk.refl _) .nil)) (.cons rfl rfl rfl (.cons rfl rfl rfl (.nil _)))) ?_
  refine r_d rfl rfl rfl (s_build rfl bt_api_Instr (.cons rfl (Wk.refl _) (.cons rfl (Wk.refl _) .nil)) (.cons rfl rfl rfl (.cons rfl rfl rfl (.nil _)))) ?_
  refine r_d rfl rfl rfl (s_build rfl bt_api_Instr (.cons rfl (Wk.refl _) .nil) (.cons rfl rfl rfl (.nil _))) ?_
  refine r_d rfl rfl rfl (m_lit (f := enc_S_api_Instr) [.tmp 2, .tmp 3, .tmp 4] [(⟨3, 1, 0, (⟨0, ⟨#[]⟩, []⟩ : Gl), []⟩ : S_api_Instr), (⟨6, 1, 0, (⟨0, ⟨#[]⟩, []⟩ : Gl), []⟩ : S_api_Instr), (⟨10, 0, 0, (⟨0, ⟨#[]⟩, []⟩ : Gl), []⟩ : S_api_Instr)] rfl el_L_api_Instr rfl rfl (by decide) (by decide) (.cons rfl (Wk.refl _) (.cons rfl (Wk.refl _) (.cons rfl (Wk.refl _) .nil))) sz_S_api_Instr (fun _ => rfl)) ?_
  refine r_d rfl rfl rfl (s_assign rfl rfl) ?_
  refine r_end ?_
  refine g_seq ?_
  refine g_any (by kernel_rfl) (by kernel_rfl) [(0, .d), (1, .d), (2, .d), (3, .d), (4, .d), (5, .d), (6, .d), (7, .d), (8, .d), (9, .d), (10, .d), (11, .d), (12, .d), (13, .d), (14, .d), (15, .d), (16, .d), (17, .d), (18, .d), (19, .d), (20, .d), (21, .d), (22, .d), (23, .d), (24, .d), (25, .d), (26, .d), (27, .d), (28, .d), (29, .d), (30, .d), (31, .d), (32, .d), (33, .d), (34, .d), (35, .d), (36, .d), (37, .d), (38, .d), (39, .d), (40, .d), (41, .d), (42, .d), (43, .d), (44, .d), (45, .d), (46, .d), (47, .d), (48, .d), (49, .d), (50, .d), (51, .d), (52, .d), (53, .d)] (by kernel_rfl) ?_
  refine r_d rfl rfl rfl (s_move rfl rfl) ?_
  obtain ⟨q_1, hq_1, hr⟩ := bindS hr
  refine r_d rfl rfl rfl (m_index (f := enc_S_api_Instr) [(⟨3, 1, 0, (⟨0, ⟨#[]⟩, []⟩ : Gl), []⟩ : S_api_Instr), (⟨6, 1, 0, (⟨0, ⟨#[]⟩, []⟩ : Gl), []⟩ : S_api_Instr), (⟨10, 0, 0, (⟨0, ⟨#[]⟩, []⟩ : Gl), []⟩ : S_api_Instr)] rfl el_L_api_Instr rfl (asl rfl) rfl hq_1 sz_S_api_Instr rfl) ?_
  refine r_d rfl rfl rfl (s_load rfl rfl (by exact ty_api_Instr) (sz_S_api_Instr _)) ?_
  obtain ⟨r_2, hr_2, hr⟩ := bindS hr
  refine r_d rfl rfl rfl (s_callD rfl cl_instr_Right (.cons rfl (Wk.refl _) .nil) (lg_instr_Right _ _ hr_2)) ?_
  refine r_d rfl rfl rfl (s_move rfl rfl) ?_
  refine r_sB 10 rfl hr (fun h10_2 hr => ?_) (fun h10_2 hr => ?_)
  ·
   refine r_d rfl rfl rfl (s_build rfl bt_api_Occ (.cons rfl (Wk.refl _) .nil) (.cons rfl rfl rfl (.nil _))) ?_
   refine r_d rfl rfl rfl (s_move rfl rfl) ?_
   refine r_d rfl rfl rfl (s_build rfl bt_api_Block (.cons rfl (Wk.refl _) (.cons rfl (Wk.full _) .nil)) (.cons rfl rfl rfl (.cons rfl rfl rfl (.nil _)))) ?_
   obtain ⟨r_4, hr_4, hr⟩ := bindS hr
   refine r_d rfl rfl rfl (s_callD rfl cl_instr_Check (.cons rfl (Wk.refl _) .nil) (lg_instr_Check _ _ hr_4)) ?_
   refine r_d rfl rfl rfl (s_cmp rfl rfl rfl rfl) ?_
   refine r_d rfl rfl rfl (s_pickT rfl rfl rfl) ?_
   refine r_d rfl rfl rfl (s_move rfl rfl) ?_
   refine r_sB 17 rfl hr (fun h17_4 hr => ?_) (fun h17_4 hr => ?_)
   ·
    refine r_d rfl rfl rfl (s_build rfl bt_api_Occ (.cons rfl (Wk.refl _) (.cons rfl (Wk.refl _) .nil)) (.cons rfl rfl rfl (.cons rfl rfl rfl (.nil _)))) ?_
    refine r_d rfl rfl rfl (s_move rfl rfl) ?_
    refine r_d rfl rfl rfl (s_build rfl bt_api_Block (.cons rfl (Wk.refl _) (.cons rfl (Wk.full _) .nil)) (.cons rfl rfl rfl (.cons rfl rfl rfl (.nil _)))) ?_
    obtain ⟨r_6, hr_6, hr⟩ := bindS hr
    refine r_d rfl rfl rfl (s_callD rfl cl_instr_Check (.cons rfl (Wk.refl _) .nil) (lg_instr_Check _ _ hr_6)) ?_
    refine r_d rfl rfl rfl (s_cmp rfl rfl rfl rfl) ?_
    refine r_d rfl rfl rfl (s_pickT rfl rfl rfl) ?_
    refine r_d rfl rfl rfl (s_move rfl rfl) ?_
    refine r_sB 24 rfl hr (fun h24_6 hr => ?_) (fun h24_6 hr => ?_)
    ·
     refine r_d rfl rfl rfl (s_build rfl bt_api_Image .nil (.nil _)) ?_
     obtain ⟨r_8, hr_8, hr⟩ := bindS hr
     refine r_d rfl rfl rfl (s_callD rfl cl_instr_CheckImage (.cons rfl (Wk.refl _) .nil) (lg_instr_CheckImage _ _ hr_8)) ?_
     refine r_d rfl rfl rfl (s_cmp rfl rfl rfl rfl) ?_
     refine r_d rfl rfl rfl (s_pickT rfl rfl rfl) ?_
     refine r_d rfl rfl rfl (s_move rfl rfl) ?_
     refine r_sB 29 rfl hr (fun h29_8 hr => ?_) (fun h29_8 hr => ?_)
     ·
      refine r_d rfl rfl rfl (s_move rfl rfl) ?_
      refine r_d rfl rfl rfl (m_index (f := enc_S_api_Instr) [(⟨3, 1, 0, (⟨0, ⟨#[]⟩, []⟩ : Gl), []⟩ : S_api_Instr), (⟨6, 1, 0, (⟨0, ⟨#[]⟩, []⟩ : Gl), []⟩ : S_api_Instr), (⟨10, 0, 0, (⟨0, ⟨#[]⟩, []⟩ : Gl), []⟩ : S_api_Instr)] rfl el_L_api_Instr rfl (asl rfl) rfl hq_1 sz_S_api_Instr rfl) ?_
      refine r_d rfl rfl rfl (s_load rfl rfl (by exact ty_api_Instr) (sz_S_api_Instr _)) ?_
      refine r_d rfl rfl rfl (s_move rfl rfl) ?_
      refine r_d rfl rfl rfl (m_index (f := enc_S_api_Instr) [(⟨3, 1, 0, (⟨0, ⟨#[]⟩, []⟩ : Gl), []⟩ : S_api_Instr), (⟨6, 1, 0, (⟨0, ⟨#[]⟩, []⟩ : Gl), []⟩ : S_api_Instr), (⟨10, 0, 0, (⟨0, ⟨#[]⟩, []⟩ : Gl), []⟩ : S_api_Instr)] rfl el_L_api_Instr rfl (asl rfl) rfl hq_1 sz_S_api_Instr rfl) ?_
      refine r_d rfl rfl rfl (s_load rfl rfl (by exact ty_api_Instr) (sz_S_api_Instr _)) ?_
      obtain ⟨r_10, hr_10, hr⟩ := bindS hr
      refine r_d rfl rfl rfl (s_callD rfl cl_instr_Same (.cons rfl (Wk.refl _) (.cons rfl (Wk.refl _) .nil)) (lg_instr_Same _ _ _ hr_10)) ?_
      refine r_d rfl rfl rfl (s_pickT rfl rfl rfl) ?_
      refine r_d rfl rfl rfl (s_move rfl rfl) ?_
      refine r_sB 38 rfl hr (fun h38_10 hr => ?_) (fun h38_10 hr => ?_)
      ·
       refine r_d rfl rfl rfl (s_move rfl rfl) ?_
       refine r_d rfl rfl rfl (m_index (f := enc_S_api_Instr) [(⟨3, 1, 0, (⟨0, ⟨#[]⟩, []⟩ : Gl), []⟩ : S_api_Instr), (⟨6, 1, 0, (⟨0, ⟨#[]⟩, []⟩ : Gl), []⟩ : S_api_Instr), (⟨10, 0, 0, (⟨0, ⟨#[]⟩, []⟩ : Gl), []⟩ : S_api_Instr)] rfl el_L_api_Instr rfl (asl rfl) rfl hq_1 sz_S_api_Instr rfl) ?_
       refine r_d rfl rfl rfl (s_load rfl rfl (by exact ty_api_Instr) (sz_S_api_Instr _)) ?_
       refine r_d rfl rfl rfl (s_move rfl rfl) ?_
       obtain ⟨q_12, hq_12, hr⟩ := bindS hr
       refine r_d rfl rfl rfl (m_index (f := enc_S_api_Instr) [(⟨3, 1, 0, (⟨0, ⟨#[]⟩, []⟩ : Gl), []⟩ : S_api_Instr), (⟨6, 1, 0, (⟨0, ⟨#[]⟩, []⟩ : Gl), []⟩ : S_api_Instr), (⟨10, 0, 0, (⟨0, ⟨#[]⟩, []⟩ : Gl), []⟩ : S_api_Instr)] rfl el_L_api_Instr rfl (asl rfl) rfl hq_12 sz_S_api_Instr rfl) ?_
       refine r_d rfl rfl rfl (s_load rfl rfl (by exact ty_api_Instr) (sz_S_api_Instr _)) ?_
       obtain ⟨r_13, hr_13, hr⟩ := bindS hr
       refine r_d rfl rfl rfl (s_callD rfl cl_instr_Same (.cons rfl (Wk.refl _) (.cons rfl (Wk.refl _) .nil)) (lg_instr_Same _ _ _ hr_13)) ?_
       refine r_d rfl rfl rfl (s_not rfl rfl) ?_
       refine r_d rfl rfl rfl (s_pickT rfl rfl rfl) ?_
       refine r_d rfl rfl rfl (s_move rfl rfl) ?_
       refine r_sB 48 rfl hr (fun h48_13 hr => ?_) (fun h48_13 hr => ?_)
       ·
        refine r_d rfl rfl rfl (s_build rfl bt_api_Image .nil (.nil _)) ?_
        refine r_d rfl rfl rfl (s_build rfl bt_api_Image .nil (.nil _)) ?_
        obtain ⟨r_15, hr_15, hr⟩ := bindS hr
        refine r_d rfl rfl rfl (s_callD rfl cl_instr_SameImage (.cons rfl (Wk.refl _) (.cons rfl (Wk.refl _) .nil)) (lg_instr_SameImage _ _ _ hr_15)) ?_
        refine r_d rfl rfl rfl (s_pickT rfl rfl rfl) ?_
        refine r_d rfl rfl rfl (s_move rfl rfl) ?_
        refine r_sB 53 rfl hr (fun h53_15 hr => ?_) (fun h53_15 hr => ?_)
        ·
         refine r_d rfl rfl rfl (s_build rfl bt_api_Image .nil (.nil _)) ?_
         refine r_d rfl rfl rfl (s_build rfl bt_api_Image (.cons rfl (Wk.refl _) .nil) (.cons rfl rfl rfl (.nil _))) ?_
         obtain ⟨r_17, hr_17, hr⟩ := bindS hr
         refine r_d rfl rfl rfl (s_callD rfl cl_instr_SameImage (.cons rfl (Wk.refl _) (.cons rfl (Wk.refl _) .nil)) (lg_instr_SameImage _ _ _ hr_17)) ?_
         refine r_d rfl rfl rfl (s_not rfl rfl) ?_
         refine r_d rfl rfl rfl (s_pickT rfl rfl rfl) ?_
         refine r_d rfl rfl rfl (s_assign rfl rfl) ?_
         refine r_end ?_
         obtain rfl := Option.some.inj hr
         refine g_ret Try.func11 _ (.cons (resTmp rfl (Wk.refl _)) .nil) ?_
         rfl
        ·
         refine r_skip rfl rfl rfl ?_
         refine r_skip rfl rfl rfl ?_
         refine r_skip rfl rfl rfl ?_
         refine r_skip rfl rfl rfl ?_
         refine r_d rfl rfl rfl (s_pickF rfl rfl rfl) ?_
         refine r_d rfl rfl rfl (s_assign rfl rfl) ?_
         refine r_end ?_
         obtain rfl := Option.some.inj hr
         refine g_ret Try.func11 _ (.cons (resTmp rfl (Wk.refl _)) .nil) ?_
         rfl
       ·
        refine r_skip rfl rfl rfl ?_
        refine r_skip rfl rfl rfl ?_
        refine r_skip rfl rfl rfl ?_
        refine r_d rfl rfl rfl (s_pickF rfl rfl rfl) ?_
        refine r_d rfl rfl rfl (s_move rfl rfl) ?_
        refine r_skip rfl rfl rfl ?_
        refine r_skip rfl rfl rfl ?_
        refine r_skip rfl rfl rfl ?_
        refine r_skip rfl rfl rfl ?_
        refine r_d rfl rfl rfl (s_pickF rfl rfl rfl) ?_
        refine r_d rfl rfl rfl (s_assign rfl rfl) ?_
        refine r_end ?_
        obtain rfl := Option.some.inj hr
        refine g_ret Try.func11 _ (.cons (resTmp rfl (Wk.refl _)) .nil) ?_
        rfl
      ·
       refine r_skip rfl rfl rfl ?_
       refine r_skip rfl rfl rfl ?_
       refine r_skip rfl rfl rfl ?_
       refine r_skip rfl rfl rfl ?_
       refine r_skip rfl rfl rfl ?_
       refine r_skip rfl rfl rfl ?_
       refine r_skip rfl rfl rfl ?_
       refine r_skip rfl rfl rfl ?_
       refine r_d rfl rfl rfl (s_pickF rfl rfl rfl) ?_
       refine r_d rfl rfl rfl (s_move rfl rfl) ?_
       refine r_skip rfl rfl rfl ?_
       refine r_skip rfl rfl rfl ?_
       refine r_skip rfl rfl rfl ?_
       refine r_d rfl rfl rfl (s_pickF rfl rfl rfl) ?_
       refine r_d rfl rfl rfl (s_move rfl rfl) ?_
       refine r_skip rfl rfl rfl ?_
       refine r_skip rfl rfl rfl ?_
       refine r_skip rfl rfl rfl ?_
       refine r_skip rfl rfl rfl ?_
       refine r_d rfl rfl rfl (s_pickF rfl rfl rfl) ?_
       refine r_d rfl rfl rfl (s_assign rfl rfl) ?_
       refine r_end ?_
       obtain rfl := Option.some.inj hr
       refine g_ret Try.func11 _ (.cons (resTmp rfl (Wk.refl _)) .nil) ?_
       rfl
     ·
      refine r_skip rfl rfl rfl ?_
      refine r_skip rfl rfl rfl ?_
      refine r_skip rfl rfl rfl ?_
      refine r_skip rfl rfl rfl ?_
      refine r_skip rfl rfl rfl ?_
      refine r_skip rfl rfl rfl ?_
      refine r_skip rfl rfl rfl ?_
      refine r_d rfl rfl rfl (s_pickF rfl rfl rfl) ?_
      refine r_d rfl rfl rfl (s_move rfl rfl) ?_
      refine r_skip rfl rfl rfl ?_
      refine r_skip rfl rfl rfl ?_
      refine r_skip rfl rfl rfl ?_
      refine r_skip rfl rfl rfl ?_
      refine r_skip rfl rfl rfl ?_
      refine r_skip rfl rfl rfl ?_
      refine r_skip rfl rfl rfl ?_
      refine r_skip rfl rfl rfl ?_
      refine r_d rfl rfl rfl (s_pickF rfl rfl rfl) ?_
      refine r_d rfl rfl rfl (s_move rfl rfl) ?_
      refine r_skip rfl rfl rfl ?_
      refine r_skip rfl rfl rfl ?_
      refine r_skip rfl rfl rfl ?_
      refine r_d rfl rfl rfl (s_pickF rfl rfl rfl) ?_
      refine r_d rfl rfl rfl (s_move rfl rfl) ?_
      refine r_skip rfl rfl rfl ?_
      refine r_skip rfl rfl rfl ?_
      refine r_skip rfl rfl rfl ?_
      refine r_skip rfl rfl rfl ?_
      refine r_d rfl rfl rfl (s_pickF rfl rfl rfl) ?_
      refine r_d rfl rfl rfl (s_assign rfl rfl) ?_
      refine r_end ?_
      obtain rfl := Option.some.inj hr
      refine g_ret Try.func11 _ (.cons (resTmp rfl (Wk.refl _)) .nil) ?_
      rfl
    ·
     refine r_skip rfl rfl rfl ?_
     refine r_skip rfl rfl rfl ?_
     refine r_skip rfl rfl rfl ?_
     refine r_d rfl rfl rfl (s_pickF rfl rfl rfl) ?_
     refine r_d rfl rfl rfl (s_move rfl rfl) ?_
     refine r_skip rfl rfl rfl ?_
     refine r_skip rfl rfl rfl ?_
     refine r_skip rfl rfl rfl ?_
     refine r_skip rfl rfl rfl ?_
     refine r_skip rfl rfl rfl ?_
     refine r_skip rfl rfl rfl ?_
     refine r_skip rfl rfl rfl ?_
     refine r_d rfl rfl rfl (s_pickF rfl rfl rfl) ?_
     refine r_d rfl rfl rfl (s_move rfl rfl) ?_
     refine r_skip rfl rfl rfl ?_
     refine r_skip rfl rfl rfl ?_
     refine r_skip rfl rfl rfl ?_
     refine r_skip rfl rfl rfl ?_
     refine r_skip rfl rfl rfl ?_
     refine r_skip rfl rfl rfl ?_
     refine r_skip rfl rfl rfl ?_
     refine r_skip rfl rfl rfl ?_
     refine r_d rfl rfl rfl (s_pickF rfl rfl rfl) ?_
     refine r_d rfl rfl rfl (s_move rfl rfl) ?_
     refine r_skip rfl rfl rfl ?_
     refine r_skip rfl rfl rfl ?_
     refine r_skip rfl rfl rfl ?_
     refine r_d rfl rfl rfl (s_pickF rfl rfl rfl) ?_
     refine r_d rfl rfl rfl (s_move rfl rfl) ?_
     refine r_skip rfl rfl rfl ?_
     refine r_skip rfl rfl rfl ?_
     refine r_skip rfl rfl rfl ?_
     refine r_skip rfl rfl rfl ?_
     refine r_d rfl rfl rfl (s_pickF rfl rfl rfl) ?_
     refine r_d rfl rfl rfl (s_assign rfl rfl) ?_
     refine r_end ?_
     obtain rfl := Option.some.inj hr
     refine g_ret Try.func11 _ (.cons (resTmp rfl (Wk.refl _)) .nil) ?_
     rfl
   ·
    refine r_skip rfl rfl rfl ?_
    refine r_skip rfl rfl rfl ?_
    refine r_skip rfl rfl rfl ?_
    refine r_skip rfl rfl rfl ?_
    refine r_skip rfl rfl rfl ?_
    refine r_d rfl rfl rfl (s_pickF rfl rfl rfl) ?_
    refine r_d rfl rfl rfl (s_move rfl rfl) ?_
    refine r_skip rfl rfl rfl ?_
    refine r_skip rfl rfl rfl ?_
    refine r_skip rfl rfl rfl ?_
    refine r_d rfl rfl rfl (s_pickF rfl rfl rfl) ?_
    refine r_d rfl rfl rfl (s_move rfl rfl) ?_
    refine r_skip rfl rfl rfl ?_
    refine r_skip rfl rfl rfl ?_
    refine r_skip rfl rfl rfl ?_
    refine r_skip rfl rfl rfl ?_
    refine r_skip rfl rfl rfl ?_
    refine r_skip rfl rfl rfl ?_
    refine r_skip rfl rfl rfl ?_
    refine r_d rfl rfl rfl (s_pickF rfl rfl rfl) ?_
    refine r_d rfl rfl rfl (s_move rfl rfl) ?_
    refine r_skip rfl rfl rfl ?_
    refine r_skip rfl rfl rfl ?_
    refine r_skip rfl rfl rfl ?_
    refine r_skip rfl rfl rfl ?_
    refine r_skip rfl rfl rfl ?_
    refine r_skip rfl rfl rfl ?_
    refine r_skip rfl rfl rfl ?_
    refine r_skip rfl rfl rfl ?_
    refine r_d rfl rfl rfl (s_pickF rfl rfl rfl) ?_
    refine r_d rfl rfl rfl (s_move rfl rfl) ?_
    refine r_skip rfl rfl rfl ?_
    refine r_skip rfl rfl rfl ?_
    refine r_skip rfl rfl rfl ?_
    refine r_d rfl rfl rfl (s_pickF rfl rfl rfl) ?_
    refine r_d rfl rfl rfl (s_move rfl rfl) ?_
    refine r_skip rfl rfl rfl ?_
    refine r_skip rfl rfl rfl ?_
    refine r_skip rfl rfl rfl ?_
    refine r_skip rfl rfl rfl ?_
    refine r_d rfl rfl rfl (s_pickF rfl rfl rfl) ?_
    refine r_d rfl rfl rfl (s_assign rfl rfl) ?_
    refine r_end ?_
    obtain rfl := Option.some.inj hr
    refine g_ret Try.func11 _ (.cons (resTmp rfl (Wk.refl _)) .nil) ?_
    rfl
  ·
   refine r_skip rfl rfl rfl ?_
   refine r_skip rfl rfl rfl ?_
   refine r_skip rfl rfl rfl ?_
   refine r_skip rfl rfl rfl ?_
   refine r_skip rfl rfl rfl ?_
   refine r_d rfl rfl rfl (s_pickF rfl rfl rfl) ?_
   refine r_d rfl rfl rfl (s_move rfl rfl) ?_
   refine r_skip rfl rfl rfl ?_
   refine r_skip rfl rfl rfl ?_
   refine r_skip rfl rfl rfl ?_
   refine r_skip rfl rfl rfl ?_
   refine r_skip rfl rfl rfl ?_
   refine r_d rfl rfl rfl (s_pickF rfl rfl rfl) ?_
   refine r_d rfl rfl rfl (s_move rfl rfl) ?_
   refine r_skip rfl rfl rfl ?_
   refine r_skip rfl rfl rfl ?_
   refine r_skip rfl rfl rfl ?_
   refine r_d rfl rfl rfl (s_pickF rfl rfl rfl) ?_
   refine r_d rfl rfl rfl (s_move rfl rfl) ?_
   refine r_skip rfl rfl rfl ?_
   refine r_skip rfl rfl rfl ?_
   refine r_skip rfl rfl rfl ?_
   refine r_skip rfl rfl rfl ?_
   refine r_skip rfl rfl rfl ?_
   refine r_skip rfl rfl rfl ?_
   refine r_skip rfl rfl rfl ?_
   refine r_d rfl rfl rfl (s_pickF rfl rfl rfl) ?_
   refine r_d rfl rfl rfl (s_move rfl rfl) ?_
   refine r_skip rfl rfl rfl ?_
   refine r_skip rfl rfl rfl ?_
   refine r_skip rfl rfl rfl ?_
   refine r_skip rfl rfl rfl ?_
   refine r_skip rfl rfl rfl ?_
   refine r_skip rfl rfl rfl ?_
   refine r_skip rfl rfl rfl ?_
   refine r_skip rfl rfl rfl ?_
   refine r_d rfl rfl rfl (s_pickF rfl rfl rfl) ?_
   refine r_d rfl rfl rfl (s_move rfl rfl) ?_
   refine r_skip rfl rfl rfl ?_
   refine r_skip rfl rfl rfl ?_
   refine r_skip rfl rfl rfl ?_
   refine r_d rfl rfl rfl (s_pickF rfl rfl rfl) ?_
   refine r_d rfl rfl rfl (s_move rfl rfl) ?_
   refine r_skip rfl rfl rfl ?_
   refine r_skip rfl rfl rfl ?_
   refine r_skip rfl rfl rfl ?_
   refine r_skip rfl rfl rfl ?_
   refine r_d rfl rfl rfl (s_pickF rfl rfl rfl) ?_
   refine r_d rfl rfl rfl (s_assign rfl rfl) ?_
   refine r_end ?_
   obtain rfl := Option.some.inj hr
   refine g_ret Try.func11 _ (.cons (resTmp rfl (Wk.refl _)) .nil) ?_
   rfl

noncomputable def lf_constraintref32_GreatImage_L2 (k : (Int) → Option (Bool)) : List S_api_Block → Int → Option (Bool)
  | [], most_9 =>
  (k most_9)
  | q_12 :: rest, most_9 =>
  (bif (decide ((wr ((wr (most_9 - (1 : Int))) - (q_12.f1_Code.length : Int))) < (0 : Int))) then
  some (true)
  else
  ((lf_constraintref32_Great q_12.f1_Code (wr ((wr (most_9 - (1 : Int))) - (q_12.f1_Code.length : Int)))).bind fun r_14 =>
  (bif r_14 then
  some (true)
  else
  (lf_constraintref32_GreatImage_L2 k rest (wr ((wr (most_9 - (1 : Int))) - (q_12.f1_Code.length : Int)))))))

noncomputable def lf_constraintref32_GreatImage_L1 (k : Option (Bool)) : List S_api_Unit → Int → Option (Bool)
  | [], most_4 =>
  k
  | q_6 :: rest, most_4 =>
  (bif (decide ((q_6.f2_Blocks.length : Int) > (170 : Int))) then
  some (true)
  else
  (bif (decide ((q_6.f0_Name.size : Int) > (200 : Int))) then
  some (true)
  else
  (lf_constraintref32_GreatImage_L2 (fun most_11 =>
  (lf_constraintref32_GreatImage_L1 k rest most_11)) q_6.f2_Blocks most_4)))

noncomputable def lf_constraintref32_GreatImage_L0 (k : Option (Bool)) : List S_api_Access → Option (Bool)
  | [] =>
  k
  | q_16 :: rest =>
  (bif (decide ((q_16.f2_Positions.length : Int) > (20 : Int))) then
  some (true)
  else
  (bif (decide ((q_16.f0_Name.size : Int) > (200 : Int))) then
  some (true)
  else
  (lf_constraintref32_GreatImage_L0 k rest)))
noncomputable def lf_constraintref32_GreatImage (m_a0 : S_api_Image) (most_a1 : Int) : Option (Bool) :=
  (bif (decide ((m_a0.f0_Units.length : Int) > (40 : Int))) then
  some (true)
  else
  (bif (decide ((m_a0.f1_Access.length : Int) > (500 : Int))) then
  some (true)
  else
  (lf_constraintref32_GreatImage_L0 ((lf_constraintref32_GreatImage_L1 (some (false)) m_a0.f0_Units most_a1)) m_a0.f1_Access)))

set_option maxHeartbeats 1000000 in
theorem lg_constraintref32_GreatImage (m_a0 : S_api_Image) (most_a1 : Int) (res : Bool) (hr : lf_constraintref32_GreatImage m_a0 most_a1 = some res) : Gives Try.prog 12 [enc_S_api_Image m_a0, .int .i64 most_a1] (.bool res) := by
  unfold lf_constraintref32_GreatImage at hr
  refine spec_env [(0, enc_S_api_Image m_a0), (1, .int .i64 most_a1)] Try.func12 rfl rfl fun K hK => ?_
  refine g_seq ?_
  refine g_run (by kernel_rfl) [(0, .d), (1, .d)] rfl ?_
  refine r_d rfl rfl rfl (s_box rfl rfl rfl) ?_
  refine r_d rfl rfl rfl (s_assign rfl rfl) ?_
  refine r_end ?_
  refine g_seq ?_
  refine g_seq ?_
  refine g_run (by kernel_rfl) [(0, .d), (1, .d), (2, .d), (3, .d), (4, .d), (5, .d), (6, .d), (7, .d), (8, .d), (9, .d)] rfl ?_
  refine r_d rfl rfl rfl (s_fieldAddr rfl fl_api_Image_0 rfl rfl rfl rfl) ?_
  refine r_d rfl rfl rfl (s_load rfl rfl (by exact ty_L_api_Unit) rfl) ?_
  refine r_d rfl rfl rfl (m_len (f := enc_S_api_Unit) m_a0.f0_Units rfl el_L_api_Unit rfl (asl rfl)) ?_
  refine r_d rfl rfl rfl (s_cmp rfl rfl rfl rfl) ?_
  refine r_d rfl rfl rfl (s_move rfl rfl) ?_
  refine r_sB 12 rfl hr (fun h12_0 hr => ?_) (fun h12_0 hr => ?_)
  ·
   refine r_skip rfl rfl rfl ?_
   refine r_skip rfl rfl rfl ?_
   refine r_skip rfl rfl rfl ?_
   refine r_skip rfl rfl rfl ?_
   refine r_d rfl rfl rfl (s_pickT rfl rfl rfl) ?_
   refine r_end ?_
   refine g_condT rfl ?_
   refine g_seq ?_
   refine g_run (by kernel_rfl) [(0, .d)] rfl ?_
   refine r_d rfl rfl rfl (s_assign rfl rfl) ?_
   refine r_end ?_
   obtain rfl := Option.some.inj hr
   refine g_ret Try.func12 _ (.cons (resTmp rfl (Wk.refl _)) .nil) ?_
   rfl
  ·
   refine r_d rfl rfl rfl (s_fieldAddr rfl fl_api_Image_1 rfl rfl rfl rfl) ?_
   refine r_d rfl rfl rfl (s_load rfl rfl (by exact ty_L_api_Access) rfl) ?_
   refine r_d rfl rfl rfl (m_len (f := enc_S_api_Access) m_a0.f1_Access rfl el_L_api_Access rfl (asl rfl)) ?_
   refine r_d rfl rfl rfl (s_cmp rfl rfl rfl rfl) ?_
   refine r_d rfl rfl rfl (s_pickF rfl rfl rfl) ?_
   refine r_end ?_
   refine g_sB 17 rfl hr (fun h17_1 hr => ?_) (fun h17_1 hr => ?_)
   ·
    refine g_condT rfl ?_
    refine g_seq ?_
    refine g_run (by kernel_rfl) [(0, .d)] rfl ?_
    refine r_d rfl rfl rfl (s_assign rfl rfl) ?_
    refine r_end ?_
    obtain rfl := Option.some.inj hr
    refine g_ret Try.func12 _ (.cons (resTmp rfl (Wk.refl _)) .nil) ?_
    rfl
   ·
    refine g_condF rfl ?_
    refine g_skip ?_
    refine g_seq ?_
    refine g_seq ?_
    refine g_run (by kernel_rfl) [(0, .d)] rfl ?_
    refine r_d rfl rfl rfl (s_assign rfl rfl) ?_
    refine r_end ?_
    obtain ⟨kk0, hkk0, hr⟩ := exK (fun k => lf_constraintref32_GreatImage_L0 k m_a0.f1_Access) hr
    refine g_len 14 rfl (asl rfl) fun hla0 => ?_
    simp only [List.length_map] at hla0
    refine g_blockJ (fun env σ => env = [(1, .int .i64 most_a1), (2, .ptr (enc_S_api_Image m_a0))] ∧ σ = [] ∧ kk0 = some res) ?_ (fun HK0 => ?_)
    ·
     rintro _ _ ⟨rfl, rfl, hr⟩
     rw [hkk0] at hr
     refine g_seq ?_
     refine g_seq ?_
     refine g_run (by kernel_rfl) [(0, .d)] rfl ?_
     refine r_d rfl rfl rfl (s_assign rfl rfl) ?_
     refine r_end ?_
     obtain ⟨kk1, hkk1, hr⟩ := exK (fun k => lf_constraintref32_GreatImage_L1 k m_a0.f0_Units most_a1) hr
     refine g_lenP 2 [0] (l := m_a0.f0_Units.map enc_S_api_Unit) rfl rfl (asl rfl) fun hla1 => ?_
     simp only [List.length_map] at hla1
     refine g_blockJ (fun env σ => env = [] ∧ σ = [] ∧ kk1 = some res) ?_ (fun HK1 => ?_)
     ·
      rintro _ _ ⟨rfl, rfl, hr⟩
      rw [hkk1] at hr
      refine g_seq ?_
      refine g_run (by kernel_rfl) [(0, .d)] rfl ?_
      refine r_d rfl rfl rfl (s_assign rfl rfl) ?_
      refine r_end ?_
      obtain rfl := Option.some.inj hr
      refine g_ret Try.func12 _ (.cons (resTmp rfl (Wk.refl _)) .nil) ?_
      rfl
     ·
      refine g_sub [(2, .ptr (enc_S_api_Image m_a0)), (1, .int .i64 most_a1), (6, .int .i64 ((0 : Nat) : Int))] (Sub.cons' rfl (Sub.cons' rfl (Sub.cons' rfl (Sub.nil _)))) ?_
      refine g_loop (fun n env σ => ∃ (most_4 : Int) (i_5 : Nat), (n = m_a0.f0_Units.length - i_5) ∧ (env = [(2, .ptr (enc_S_api_Image m_a0)), (1, .int .i64 most_4), (6, .int .i64 (i_5 : Int))]) ∧ (σ = []) ∧ (i_5 ≤ m_a0.f0_Units.length) ∧ (lf_constraintref32_GreatImage_L1 kk1 (m_a0.f0_Units.drop i_5) most_4 = some res)) _ ⟨most_a1, 0, rfl, rfl, rfl, Nat.zero_le _, hr⟩ ?_
      rintro n _ _ ⟨most_4, i_5, rfl, rfl, rfl, hi1, hr⟩ IH1
      rcases listStep m_a0.f0_Units i_5 hi1 with ⟨ht1, hd1, he1⟩ | ⟨q_6, ht1, hd1, hq1, hlt1⟩
      ·
       rw [hd1, lf_constraintref32_GreatImage_L1] at hr
       refine g_seq ?_
       refine g_seq ?_
       refine g_run (by kernel_rfl) [(0, .d), (1, .d), (2, .d), (3, .d), (4, .d)] rfl ?_
       refine r_d rfl rfl rfl (s_move rfl rfl) ?_
       refine r_d rfl rfl rfl (s_fieldAddr rfl fl_api_Image_0 rfl rfl rfl rfl) ?_
       refine r_d rfl rfl rfl (s_load rfl rfl (by exact ty_L_api_Unit) rfl) ?_
       refine r_d rfl rfl rfl (m_len (f := enc_S_api_Unit) m_a0.f0_Units rfl el_L_api_Unit rfl (asl rfl)) ?_
       refine r_d rfl rfl rfl (s_cmp rfl rfl rfl rfl) ?_
       refine r_end ?_
       refine g_known 47 false rfl ht1 ?_
       refine g_condF rfl ?_
       refine g_exit rfl ?_
       refine g_sub [] (Sub.nil _) ?_
       exact HK1 _ _ ⟨rfl, rfl, hr⟩
      ·
       rw [hd1, lf_constraintref32_GreatImage_L1] at hr
       refine g_seq ?_
       refine g_seq ?_
       refine g_run (by kernel_rfl) [(0, .d), (1, .d), (2, .d), (3, .d), (4, .d)] rfl ?_
       refine r_d rfl rfl rfl (s_move rfl rfl) ?_
       refine r_d rfl rfl rfl (s_fieldAddr rfl fl_api_Image_0 rfl rfl rfl rfl) ?_
       refine r_d rfl rfl rfl (s_load rfl rfl (by exact ty_L_api_Unit) rfl) ?_
       refine r_d rfl rfl rfl (m_len (f := enc_S_api_Unit) m_a0.f0_Units rfl el_L_api_Unit rfl (asl rfl)) ?_
       refine r_d rfl rfl rfl (s_cmp rfl rfl rfl rfl) ?_
       refine r_end ?_
       refine g_known 47 true rfl ht1 ?_
       refine g_condT rfl ?_
       refine g_skip ?_
       refine g_seq ?_
       refine g_block ?_
       refine g_seq ?_
       refine g_seq ?_
       refine g_run (by kernel_rfl) [(0, .d), (1, .d), (2, .d), (3, .d), (4, .d), (5, .d), (6, .d), (7, .d), (8, .d), (9, .d), (10, .d), (11, .d), (12, .d), (13, .d), (14, .d), (15, .d), (16, .d), (17, .d)] rfl ?_
       refine r_d rfl rfl rfl (s_fieldAddr rfl fl_api_Image_0 rfl rfl rfl rfl) ?_
       refine r_d rfl rfl rfl (s_load rfl rfl (by exact ty_L_api_Unit) rfl) ?_
       refine r_d rfl rfl rfl (s_move rfl rfl) ?_
       refine r_d rfl rfl rfl (m_index (f := enc_S_api_Unit) m_a0.f0_Units rfl el_L_api_Unit rfl (asl rfl) rfl hq1 sz_S_api_Unit rfl) ?_
       refine r_d rfl rfl rfl (s_fieldAddr rfl fl_api_Unit_2 rfl rfl rfl rfl) ?_
       refine r_d rfl rfl rfl (s_load rfl rfl (by exact ty_L_api_Block) rfl) ?_
       refine r_d rfl rfl rfl (m_len (f := enc_S_api_Block) q_6.f2_Blocks rfl el_L_api_Block rfl (asl rfl)) ?_
       refine r_d rfl rfl rfl (s_cmp rfl rfl rfl rfl) ?_
       refine r_d rfl rfl rfl (s_move rfl rfl) ?_
       refine r_sB 58 rfl hr (fun h58_6 hr => ?_) (fun h58_6 hr => ?_)
       ·
        refine r_skip rfl rfl rfl ?_
        refine r_skip rfl rfl rfl ?_
        refine r_skip rfl rfl rfl ?_
        refine r_skip rfl rfl rfl ?_
        refine r_skip rfl rfl rfl ?_
        refine r_skip rfl rfl rfl ?_
        refine r_skip rfl rfl rfl ?_
        refine r_skip rfl rfl rfl ?_
        refine r_d rfl rfl rfl (s_pickT rfl rfl rfl) ?_
        refine r_end ?_
        refine g_condT rfl ?_
        refine g_seq ?_
        refine g_run (by kernel_rfl) [(0, .d)] rfl ?_
        refine r_d rfl rfl rfl (s_assign rfl rfl) ?_
        refine r_end ?_
        obtain rfl := Option.some.inj hr
        refine g_ret Try.func12 _ (.cons (resTmp rfl (Wk.refl _)) .nil) ?_
        rfl
       ·
        refine r_d rfl rfl rfl (s_fieldAddr rfl fl_api_Image_0 rfl rfl rfl rfl) ?_
        refine r_d rfl rfl rfl (s_load rfl rfl (by exact ty_L_api_Unit) rfl) ?_
        refine r_d rfl rfl rfl (s_move rfl rfl) ?_
        refine r_d rfl rfl rfl (m_index (f := enc_S_api_Unit) m_a0.f0_Units rfl el_L_api_Unit rfl (asl rfl) rfl hq1 sz_S_api_Unit rfl) ?_
        refine r_d rfl rfl rfl (s_fieldAddr rfl fl_api_Unit_0 rfl rfl rfl rfl) ?_
        refine r_d rfl rfl rfl (s_load rfl rfl (by exact ty_string) rfl) ?_
        refine r_d rfl rfl rfl (s_lenS rfl Try.underlying9 rfl) ?_
        refine r_d rfl rfl rfl (s_cmp rfl rfl rfl rfl) ?_
        refine r_d rfl rfl rfl (s_pickF rfl rfl rfl) ?_
        refine r_end ?_
        refine g_sB 67 rfl hr (fun h67_7 hr => ?_) (fun h67_7 hr => ?_)
        ·
         refine g_condT rfl ?_
         refine g_seq ?_
         refine g_run (by kernel_rfl) [(0, .d)] rfl ?_
         refine r_d rfl rfl rfl (s_assign rfl rfl) ?_
         refine r_end ?_
         obtain rfl := Option.some.inj hr
         refine g_ret Try.func12 _ (.cons (resTmp rfl (Wk.refl _)) .nil) ?_
         rfl
        ·
         refine g_condF rfl ?_
         refine g_skip ?_
         refine g_seq ?_
         refine g_run (by kernel_rfl) [(0, .d)] rfl ?_
         refine r_d rfl rfl rfl (s_assign rfl rfl) ?_
         refine r_end ?_
         obtain ⟨kk2, hkk2, hr⟩ := exK (fun k => lf_constraintref32_GreatImage_L2 k q_6.f2_Blocks most_4) hr
         refine g_len 55 rfl (asl rfl) fun hla2 => ?_
         simp only [List.length_map] at hla2
         refine g_blockJ (fun env σ => ∃ (most_11 : Int), env = [(1, .int .i64 most_11), (2, .ptr (enc_S_api_Image m_a0)), (6, .int .i64 (i_5 : Int))] ∧ σ = [] ∧ kk2 most_11 = some res) ?_ (fun HK2 => ?_)
         ·
          rintro _ _ ⟨most_11, rfl, rfl, hr⟩
          rw [hkk2] at hr
          refine g_inBlock ?_
          refine g_run (by kernel_rfl) [(0, .d), (1, .d), (2, .d)] rfl ?_
          refine r_d rfl rfl rfl (s_move rfl rfl) ?_
          refine r_d rfl rfl rfl (s_ar (r := ((i_5 + 1 : Nat) : Int)) rfl rfl rfl (by simp [iar]) (by omega)) ?_
          refine r_d rfl rfl rfl (s_assign rfl rfl) ?_
          refine r_end ?_
          refine g_sub [(2, .ptr (enc_S_api_Image m_a0)), (1, .int .i64 most_11), (6, .int .i64 ((i_5 + 1 : Nat) : Int))] (Sub.cons' rfl (Sub.cons' rfl (Sub.cons' rfl (Sub.nil _)))) ?_
          exact IH1 _ _ _ (by omega) ⟨most_11, (i_5 + 1), rfl, rfl, rfl, (by omega), hr⟩
         ·
          refine g_sub [(2, .ptr (enc_S_api_Image m_a0)), (6, .int .i64 ((i_5 : Nat) : Int)), (1, .int .i64 most_4), (7, .int .i64 ((0 : Nat) : Int))] (Sub.cons' rfl (Sub.cons' rfl (Sub.cons' rfl (Sub.cons' rfl (Sub.nil _))))) ?_
          refine g_loop (fun n env σ => ∃ (most_9 : Int) (k_10 : Nat), (n = q_6.f2_Blocks.length - k_10) ∧ (env = [(2, .ptr (enc_S_api_Image m_a0)), (6, .int .i64 (i_5 : Int)), (1, .int .i64 most_9), (7, .int .i64 (k_10 : Int))]) ∧ (σ = []) ∧ (k_10 ≤ q_6.f2_Blocks.length) ∧ (lf_constraintref32_GreatImage_L2 kk2 (q_6.f2_Blocks.drop k_10) most_9 = some res)) _ ⟨most_4, 0, rfl, rfl, rfl, Nat.zero_le _, hr⟩ ?_
          rintro n _ _ ⟨most_9, k_10, rfl, rfl, rfl, hi2, hr⟩ IH2
          rcases listStep q_6.f2_Blocks k_10 hi2 with ⟨ht2, hd2, he2⟩ | ⟨q_12, ht2, hd2, hq2, hlt2⟩
          ·
           rw [hd2, lf_constraintref32_GreatImage_L2] at hr
           refine g_seq ?_
           refine g_seq ?_
           refine g_run (by kernel_rfl) [(0, .d), (1, .d), (2, .d), (3, .d), (4, .d), (5, .d), (6, .d), (7, .d), (8, .d)] rfl ?_
           refine r_d rfl rfl rfl (s_move rfl rfl) ?_
           refine r_d rfl rfl rfl (s_fieldAddr rfl fl_api_Image_0 rfl rfl rfl rfl) ?_
           refine r_d rfl rfl rfl (s_load rfl rfl (by exact ty_L_api_Unit) rfl) ?_
           refine r_d rfl rfl rfl (s_move rfl rfl) ?_
           refine r_d rfl rfl rfl (m_index (f := enc_S_api_Unit) m_a0.f0_Units rfl el_L_api_Unit rfl (asl rfl) rfl hq1 sz_S_api_Unit rfl) ?_
           refine r_d rfl rfl rfl (s_fieldAddr rfl fl_api_Unit_2 rfl rfl rfl rfl) ?_
           refine r_d rfl rfl rfl (s_load rfl rfl (by exact ty_L_api_Block) rfl) ?_
           refine r_d rfl rfl rfl (m_len (f := enc_S_api_Block) q_6.f2_Blocks rfl el_L_api_Block rfl (asl rfl)) ?_
           refine r_d rfl rfl rfl (s_cmp rfl rfl rfl rfl) ?_
           refine r_end ?_
           refine g_known 76 false rfl ht2 ?_
           refine g_condF rfl ?_
           refine g_exit rfl ?_
           refine g_sub [(1, .int .i64 most_9), (2, .ptr (enc_S_api_Image m_a0)), (6, .int .i64 (i_5 : Int))] (Sub.cons' rfl (Sub.cons' rfl (Sub.cons' rfl (Sub.nil _)))) ?_
           exact HK2 _ _ ⟨most_9, rfl, rfl, hr⟩
          ·
           rw [hd2, lf_constraintref32_GreatImage_L2] at hr
           refine g_seq ?_
           refine g_seq ?_
           refine g_run (by kernel_rfl) [(0, .d), (1, .d), (2, .d), (3, .d), (4, .d), (5, .d), (6, .d), (7, .d), (8, .d)] rfl ?_
           refine r_d rfl rfl rfl (s_move rfl rfl) ?_
           refine r_d rfl rfl rfl (s_fieldAddr rfl fl_api_Image_0 rfl rfl rfl rfl) ?_
           refine r_d rfl rfl rfl (s_load rfl rfl (by exact ty_L_api_Unit) rfl) ?_
           refine r_d rfl rfl rfl (s_move rfl rfl) ?_
           refine r_d rfl rfl rfl (m_index (f := enc_S_api_Unit) m_a0.f0_Units rfl el_L_api_Unit rfl (asl rfl) rfl hq1 sz_S_api_Unit rfl) ?_
           refine r_d rfl rfl rfl (s_fieldAddr rfl fl_api_Unit_2 rfl rfl rfl rfl) ?_
           refine r_d rfl rfl rfl (s_load rfl rfl (by exact ty_L_api_Block) rfl) ?_
           refine r_d rfl rfl rfl (m_len (f := enc_S_api_Block) q_6.f2_Blocks rfl el_L_api_Block rfl (asl rfl)) ?_
           refine r_d rfl rfl rfl (s_cmp rfl rfl rfl rfl) ?_
           refine r_end ?_
           refine g_known 76 true rfl ht2 ?_
           refine g_condT rfl ?_
           refine g_skip ?_
           refine g_seq ?_
           refine g_block ?_
           refine g_seq ?_
           refine g_run (by kernel_rfl) [(0, .d), (1, .d), (2, .d), (3, .d), (4, .d), (5, .d), (6, .d), (7, .d), (8, .d), (9, .d), (10, .d), (11, .d), (12, .d), (13, .d), (14, .d)] rfl ?_
           refine r_d rfl rfl rfl (s_move rfl rfl) ?_
           refine r_d rfl rfl rfl (s_arW rfl rfl rfl rfl) ?_
           refine r_d rfl rfl rfl (s_fieldAddr rfl fl_api_Image_0 rfl rfl rfl rfl) ?_
           refine r_d rfl rfl rfl (s_load rfl rfl (by exact ty_L_api_Unit) rfl) ?_
           refine r_d rfl rfl rfl (s_move rfl rfl) ?_
           refine r_d rfl rfl rfl (m_index (f := enc_S_api_Unit) m_a0.f0_Units rfl el_L_api_Unit rfl (asl rfl) rfl hq1 sz_S_api_Unit rfl) ?_
           refine r_d rfl rfl rfl (s_fieldAddr rfl fl_api_Unit_2 rfl rfl rfl rfl) ?_
           refine r_d rfl rfl rfl (s_load rfl rfl (by exact ty_L_api_Block) rfl) ?_
           refine r_d rfl rfl rfl (s_move rfl rfl) ?_
           refine r_d rfl rfl rfl (m_index (f := enc_S_api_Block) q_6.f2_Blocks rfl el_L_api_Block rfl (asl rfl) rfl hq2 sz_S_api_Block rfl) ?_
           refine r_d rfl rfl rfl (s_fieldAddr rfl fl_api_Block_1 rfl rfl (by simp [szs, sz, sz_S_api_Occ]) rfl) ?_
           refine r_d rfl rfl rfl (s_load rfl rfl (by exact ty_L_api_Instr) rfl) ?_
           refine r_d rfl rfl rfl (m_len (f := enc_S_api_Instr) q_12.f1_Code rfl el_L_api_Instr rfl (asl rfl)) ?_
           refine r_d rfl rfl rfl (s_arW rfl rfl rfl rfl) ?_
           refine r_d rfl rfl rfl (s_assign rfl rfl) ?_
           refine r_end ?_
           refine g_seq ?_
           refine g_run (by kernel_rfl) [(0, .d), (1, .d), (2, .d), (3, .d), (4, .d), (5, .d), (6, .d), (7, .d), (8, .d), (9, .d), (10, .d), (11, .d), (12, .d), (13, .d), (14, .d), (15, .d)] rfl ?_
           refine r_d rfl rfl rfl (s_move rfl rfl) ?_
           refine r_d rfl rfl rfl (s_cmp rfl rfl rfl rfl) ?_
           refine r_d rfl rfl rfl (s_move rfl rfl) ?_
           refine r_sB 95 rfl hr (fun h95_12 hr => ?_) (fun h95_12 hr => ?_)
           ·
            refine r_skip rfl rfl rfl ?_
            refine r_skip rfl rfl rfl ?_
            refine r_skip rfl rfl rfl ?_
            refine r_skip rfl rfl rfl ?_
            refine r_skip rfl rfl rfl ?_
            refine r_skip rfl rfl rfl ?_
            refine r_skip rfl rfl rfl ?_
            refine r_skip rfl rfl rfl ?_
            refine r_skip rfl rfl rfl ?_
            refine r_skip rfl rfl rfl ?_
            refine r_skip rfl rfl rfl ?_
            refine r_skip rfl rfl rfl ?_
            refine r_d rfl rfl rfl (s_pickT rfl rfl rfl) ?_
            refine r_end ?_
            refine g_condT rfl ?_
            refine g_seq ?_
            refine g_run (by kernel_rfl) [(0, .d)] rfl ?_
            refine r_d rfl rfl rfl (s_assign rfl rfl) ?_
            refine r_end ?_
            obtain rfl := Option.some.inj hr
            refine g_ret Try.func12 _ (.cons (resTmp rfl (Wk.refl _)) .nil) ?_
            rfl
           ·
            refine r_d rfl rfl rfl (s_fieldAddr rfl fl_api_Image_0 rfl rfl rfl rfl) ?_
            refine r_d rfl rfl rfl (s_load rfl rfl (by exact ty_L_api_Unit) rfl) ?_
            refine r_d rfl rfl rfl (s_move rfl rfl) ?_
            refine r_d rfl rfl rfl (m_index (f := enc_S_api_Unit) m_a0.f0_Units rfl el_L_api_Unit rfl (asl rfl) rfl hq1 sz_S_api_Unit rfl) ?_
            refine r_d rfl rfl rfl (s_fieldAddr rfl fl_api_Unit_2 rfl rfl rfl rfl) ?_
            refine r_d rfl rfl rfl (s_load rfl rfl (by exact ty_L_api_Block) rfl) ?_
            refine r_d rfl rfl rfl (s_move rfl rfl) ?_
            refine r_d rfl rfl rfl (m_index (f := enc_S_api_Block) q_6.f2_Blocks rfl el_L_api_Block rfl (asl rfl) rfl hq2 sz_S_api_Block rfl) ?_
            refine r_d rfl rfl rfl (s_fieldAddr rfl fl_api_Block_1 rfl rfl (by simp [szs, sz, sz_S_api_Occ]) rfl) ?_
            refine r_d rfl rfl rfl (s_load rfl rfl (by exact ty_L_api_Instr) rfl) ?_
            refine r_d rfl rfl rfl (s_move rfl rfl) ?_
            obtain ⟨r_14, hr_14, hr⟩ := bindS hr
            refine r_d rfl rfl rfl (s_callD rfl cl_constraintref32_Great (.cons rfl (Wk.refl _) (.cons rfl (Wk.refl _) .nil)) (lg_constraintref32_Great _ _ _ hr_14)) ?_
            refine r_d rfl rfl rfl (s_pickF rfl rfl rfl) ?_
            refine r_end ?_
            refine g_sB 108 rfl hr (fun h108_14 hr => ?_) (fun h108_14 hr => ?_)
            ·
             refine g_condT rfl ?_
             refine g_seq ?_
             refine g_run (by kernel_rfl) [(0, .d)] rfl ?_
             refine r_d rfl rfl rfl (s_assign rfl rfl) ?_
             refine r_end ?_
             obtain rfl := Option.some.inj hr
             refine g_ret Try.func12 _ (.cons (resTmp rfl (Wk.refl _)) .nil) ?_
             rfl
            ·
             refine g_condF rfl ?_
             refine g_skip ?_
             refine g_inBlock ?_
             refine g_run (by kernel_rfl) [(0, .d), (1, .d), (2, .d)] rfl ?_
             refine r_d rfl rfl rfl (s_move rfl rfl) ?_
             refine r_d rfl rfl rfl (s_ar (r := ((k_10 + 1 : Nat) : Int)) rfl rfl rfl (by simp [iar]) (by omega)) ?_
             refine r_d rfl rfl rfl (s_assign rfl rfl) ?_
             refine r_end ?_
             refine g_sub [(2, .ptr (enc_S_api_Image m_a0)), (6, .int .i64 ((i_5 : Nat) : Int)), (1, .int .i64 (wr ((wr (most_9 - (1 : Int))) - (q_12.f1_Code.length : Int)))), (7, .int .i64 ((k_10 + 1 : Nat) : Int))] (Sub.cons' rfl (Sub.cons' rfl (Sub.cons' rfl (Sub.cons' rfl (Sub.nil _))))) ?_
             exact IH2 _ _ _ (by omega) ⟨(wr ((wr (most_9 - (1 : Int))) - (q_12.f1_Code.length : Int))), (k_10 + 1), rfl, rfl, rfl, (by omega), hr⟩
    ·
     refine g_sub [(1, .int .i64 most_a1), (2, .ptr (enc_S_api_Image m_a0)), (5, .int .i64 ((0 : Nat) : Int))] (Sub.cons' rfl (Sub.cons' rfl (Sub.cons' rfl (Sub.nil _)))) ?_
     refine g_loop (fun n env σ => ∃ (i_3 : Nat), (n = m_a0.f1_Access.length - i_3) ∧ (env = [(1, .int .i64 most_a1), (2, .ptr (enc_S_api_Image m_a0)), (5, .int .i64 (i_3 : Int))]) ∧ (σ = []) ∧ (i_3 ≤ m_a0.f1_Access.length) ∧ (lf_constraintref32_GreatImage_L0 kk0 (m_a0.f1_Access.drop i_3) = some res)) _ ⟨0, rfl, rfl, rfl, Nat.zero_le _, hr⟩ ?_
     rintro n _ _ ⟨i_3, rfl, rfl, rfl, hi0, hr⟩ IH0
     rcases listStep m_a0.f1_Access i_3 hi0 with ⟨ht0, hd0, he0⟩ | ⟨q_16, ht0, hd0, hq0, hlt0⟩
     ·
      rw [hd0, lf_constraintref32_GreatImage_L0] at hr
      refine g_seq ?_
      refine g_seq ?_
      refine g_run (by kernel_rfl) [(0, .d), (1, .d), (2, .d), (3, .d), (4, .d)] rfl ?_
      refine r_d rfl rfl rfl (s_move rfl rfl) ?_
      refine r_d rfl rfl rfl (s_fieldAddr rfl fl_api_Image_1 rfl rfl rfl rfl) ?_
      refine r_d rfl rfl rfl (s_load rfl rfl (by exact ty_L_api_Access) rfl) ?_
      refine r_d rfl rfl rfl (m_len (f := enc_S_api_Access) m_a0.f1_Access rfl el_L_api_Access rfl (asl rfl)) ?_
      refine r_d rfl rfl rfl (s_cmp rfl rfl rfl rfl) ?_
      refine r_end ?_
      refine g_known 22 false rfl ht0 ?_
      refine g_condF rfl ?_
      refine g_exit rfl ?_
      refine g_sub [(1, .int .i64 most_a1), (2, .ptr (enc_S_api_Image m_a0))] (Sub.cons' rfl (Sub.cons' rfl (Sub.nil _))) ?_
      exact HK0 _ _ ⟨rfl, rfl, hr⟩
     ·
      rw [hd0, lf_constraintref32_GreatImage_L0] at hr
      refine g_seq ?_
      refine g_seq ?_
      refine g_run (by kernel_rfl) [(0, .d), (1, .d), (2, .d), (3, .d), (4, .d)] rfl ?_
      refine r_d rfl rfl rfl (s_move rfl rfl) ?_
      refine r_d rfl rfl rfl (s_fieldAddr rfl fl_api_Image_1 rfl rfl rfl rfl) ?_
      refine r_d rfl rfl rfl (s_load rfl rfl (by exact ty_L_api_Access) rfl) ?_
      refine r_d rfl rfl rfl (m_len (f := enc_S_api_Access) m_a0.f1_Access rfl el_L_api_Access rfl (asl rfl)) ?_
      refine r_d rfl rfl rfl (s_cmp rfl rfl rfl rfl) ?_
      refine r_end ?_
      refine g_known 22 true rfl ht0 ?_
      refine g_condT rfl ?_
      refine g_skip ?_
      refine g_seq ?_
      refine g_block ?_
      refine g_seq ?_
      refine g_run (by kernel_rfl) [(0, .d), (1, .d), (2, .d), (3, .d), (4, .d), (5, .d), (6, .d), (7, .d), (8, .d), (9, .d), (10, .d), (11, .d), (12, .d), (13, .d), (14, .d), (15, .d), (16, .d), (17, .d)] rfl ?_
      refine r_d rfl rfl rfl (s_fieldAddr rfl fl_api_Image_1 rfl rfl rfl rfl) ?_
      refine r_d rfl rfl rfl (s_load rfl rfl (by exact ty_L_api_Access) rfl) ?_
      refine r_d rfl rfl rfl (s_move rfl rfl) ?_
      refine r_d rfl rfl rfl (m_index (f := enc_S_api_Access) m_a0.f1_Access rfl el_L_api_Access rfl (asl rfl) rfl hq0 sz_S_api_Access rfl) ?_
      refine r_d rfl rfl rfl (s_fieldAddr rfl fl_api_Access_2 rfl rfl rfl rfl) ?_
      refine r_d rfl rfl rfl (s_load rfl rfl (by exact ty_L_int) rfl) ?_
      refine r_d rfl rfl rfl (m_len (f := (D.int .i64)) q_16.f2_Positions rfl el_L_int rfl (asl rfl)) ?_
      refine r_d rfl rfl rfl (s_cmp rfl rfl rfl rfl) ?_
      refine r_d rfl rfl rfl (s_move rfl rfl) ?_
      refine r_sB 33 rfl hr (fun h33_16 hr => ?_) (fun h33_16 hr => ?_)
      ·
       refine r_skip rfl rfl rfl ?_
       refine r_skip rfl rfl rfl ?_
       refine r_skip rfl rfl rfl ?_
       refine r_skip rfl rfl rfl ?_
       refine r_skip rfl rfl rfl ?_
       refine r_skip rfl rfl rfl ?_
       refine r_skip rfl rfl rfl ?_
       refine r_skip rfl rfl rfl ?_
       refine r_d rfl rfl rfl (s_pickT rfl rfl rfl) ?_
       refine r_end ?_
       refine g_condT rfl ?_
       refine g_seq ?_
       refine g_run (by kernel_rfl) [(0, .d)] rfl ?_
       refine r_d rfl rfl rfl (s_assign rfl rfl) ?_
       refine r_end ?_
       obtain rfl := Option.some.inj hr
       refine g_ret Try.func12 _ (.cons (resTmp rfl (Wk.refl _)) .nil) ?_
       rfl
      ·
       refine r_d rfl rfl rfl (s_fieldAddr rfl fl_api_Image_1 rfl rfl rfl rfl) ?_
       refine r_d rfl rfl rfl (s_load rfl rfl (by exact ty_L_api_Access) rfl) ?_
       refine r_d rfl rfl rfl (s_move rfl rfl) ?_
       refine r_d rfl rfl rfl (m_index (f := enc_S_api_Access) m_a0.f1_Access rfl el_L_api_Access rfl (asl rfl) rfl hq0 sz_S_api_Access rfl) ?_
       refine r_d rfl rfl rfl (s_fieldAddr rfl fl_api_Access_0 rfl rfl rfl rfl) ?_
       refine r_d rfl rfl rfl (s_load rfl rfl (by exact ty_string) rfl) ?_
       refine r_d rfl rfl rfl (s_lenS rfl Try.underlying9 rfl) ?_
       refine r_d rfl rfl rfl (s_cmp rfl rfl rfl rfl) ?_
       refine r_d rfl rfl rfl (s_pickF rfl rfl rfl) ?_
       refine r_end ?_
       refine g_sB 42 rfl hr (fun h42_17 hr => ?_) (fun h42_17 hr => ?_)
       ·
        refine g_condT rfl ?_
        refine g_seq ?_
        refine g_run (by kernel_rfl) [(0, .d)] rfl ?_
        refine r_d rfl rfl rfl (s_assign rfl rfl) ?_
        refine r_end ?_
        obtain rfl := Option.some.inj hr
        refine g_ret Try.func12 _ (.cons (resTmp rfl (Wk.refl _)) .nil) ?_
        rfl
       ·
        refine g_condF rfl ?_
        refine g_skip ?_
        refine g_inBlock ?_
        refine g_run (by kernel_rfl) [(0, .d), (1, .d), (2, .d)] rfl ?_
        refine r_d rfl rfl rfl (s_move rfl rfl) ?_
        refine r_d rfl rfl rfl (s_ar (r := ((i_3 + 1 : Nat) : Int)) rfl rfl rfl (by simp [iar]) (by omega)) ?_
        refine r_d rfl rfl rfl (s_assign rfl rfl) ?_
        refine r_end ?_
        refine g_sub [(1, .int .i64 most_a1), (2, .ptr (enc_S_api_Image m_a0)), (5, .int .i64 ((i_3 + 1 : Nat) : Int))] (Sub.cons' rfl (Sub.cons' rfl (Sub.cons' rfl (Sub.nil _)))) ?_
        exact IH0 _ _ _ (by omega) ⟨(i_3 + 1), rfl, rfl, rfl, (by omega), hr⟩

end Go.Proofs.Ytbdhjkneoandiaa

