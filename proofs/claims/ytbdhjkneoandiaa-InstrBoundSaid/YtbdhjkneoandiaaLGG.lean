/-
  Texts of the seat, merged.
-/
import Derived.Test.YtbdhjkneoandiaaLGA
import Derived.Test.YtbdhjkneoandiaaLGB
import Derived.Test.YtbdhjkneoandiaaLGC
import Derived.Test.YtbdhjkneoandiaaLGD
import Derived.Test.YtbdhjkneoandiaaLGE
import Derived.Test.YtbdhjkneoandiaaLGF
import Derived.Test.YtbdhjkneoandiaaChecked
import Derived.WalkKit
import Derived.Lib.Hide
import Derived.Lib.AppendStr
import Derived.Deep.AppendLies
import Derived.Deep.AppendSrc
import Derived.Deep.Draws
import Derived.Deep.QuietTactic
import Derived.BigQuiet
import Derived.Deep.RegionWith
import Derived.Maps.AppendAt
import Derived.WalkSpells
import Derived.Orders
import Derived.Deep.Slices
import Derived.Deep.Fields
import Derived.ChangeArms
import Derived.Lib.OthersKept
import Derived.Lib.TrimU
import Derived.Lib.IndexAny
import Derived.Deep.LoopGhost
import Derived.Lib.Bytealg
import Derived.RangeFuncBox
import Derived.RangeFuncNested
import Derived.RangeFuncBound
import Derived.RangeFuncCalls
import Derived.RangeFuncLeaves
import Derived.Shelf.Abstract
import Derived.OwnWalkIn
import Derived.TacticsInMore
import Derived.LoopNIn
import Derived.LoopIn
import Derived.RangeFuncWrites
import Derived.Maps.OwnIn
import Derived.Maps.Views
import Derived.Laws.OwnMore
import Derived.Maps.OwnSet
import Derived.Test.YtbdhjkneoandiaaRows
import Derived.ProofKit
import Derived.OpenShut
import Derived.Carry
import Derived.OrdersIn
import Derived.Great.BuildSlice
import Derived.ArgAppend
import Derived.Laws.MakeOwn
import Derived.Laws.Cover3
import Derived.Laws.CopyRow
import Derived.MapKept
import Derived.Maps.RangeRun
import Derived.DeepKeys5
import Derived.WideKeyRuns
set_option linter.unusedVariables false
set_option linter.unusedSimpArgs false
set_option linter.unnecessarySimpa false
set_option linter.all false

namespace Go.Proofs.Ytbdhjkneoandiaa
set_option maxRecDepth 100000
open Go.RowKit

set_option maxHeartbeats 1000000 in
theorem lg_constraintref32_SameImage (a_a0 : S_api_Image) (b_a1 : S_api_Image) (res : Bool) (hr : lf_constraintref32_SameImage a_a0 b_a1 = some res) : Gives Try.prog 14 [enc_S_api_Image a_a0, enc_S_api_Image b_a1] (.bool res) := by
  unfold lf_constraintref32_SameImage at hr
  refine spec_env [(0, enc_S_api_Image a_a0), (1, enc_S_api_Image b_a1)] Try.func14 rfl rfl fun K hK => ?_
  refine g_seq ?_
  refine g_run (by kernel_rfl) [(0, .d), (1, .d), (2, .d)] rfl ?_
  refine r_d rfl rfl rfl (s_box rfl rfl rfl) ?_
  refine r_d rfl rfl rfl (s_box rfl rfl rfl) ?_
  refine r_d rfl rfl rfl (s_assign rfl rfl) ?_
  refine r_end ?_
  refine g_seq ?_
  refine g_seq ?_
  refine g_run (by kernel_rfl) [(0, .d), (1, .d), (2, .d), (3, .d), (4, .d), (5, .d), (6, .d), (7, .d), (8, .d), (9, .d), (10, .d), (11, .d), (12, .d), (13, .d), (14, .d), (15, .d), (16, .d), (17, .d), (18, .d), (19, .d), (20, .d), (21, .d), (22, .d)] rfl ?_
  refine r_d rfl rfl rfl (s_fieldAddr rfl fl_api_Image_2 rfl rfl rfl rfl) ?_
  refine r_d rfl rfl rfl (s_load rfl rfl (by exact ty_int) rfl) ?_
  refine r_d rfl rfl rfl (s_fieldAddr rfl fl_api_Image_2 rfl rfl rfl rfl) ?_
  refine r_d rfl rfl rfl (s_load rfl rfl (by exact ty_int) rfl) ?_
  refine r_d rfl rfl rfl (s_cmp rfl rfl rfl rfl) ?_
  refine r_d rfl rfl rfl (s_move rfl rfl) ?_
  refine r_sB 17 rfl hr (fun h17_0 hr => ?_) (fun h17_0 hr => ?_)
  ·
   refine r_skip rfl rfl rfl ?_
   refine r_skip rfl rfl rfl ?_
   refine r_skip rfl rfl rfl ?_
   refine r_skip rfl rfl rfl ?_
   refine r_skip rfl rfl rfl ?_
   refine r_skip rfl rfl rfl ?_
   refine r_skip rfl rfl rfl ?_
   refine r_d rfl rfl rfl (s_pickT rfl rfl rfl) ?_
   refine r_d rfl rfl rfl (s_move rfl rfl) ?_
   refine r_skip rfl rfl rfl ?_
   refine r_skip rfl rfl rfl ?_
   refine r_skip rfl rfl rfl ?_
   refine r_skip rfl rfl rfl ?_
   refine r_skip rfl rfl rfl ?_
   refine r_skip rfl rfl rfl ?_
   refine r_skip rfl rfl rfl ?_
   refine r_d rfl rfl rfl (s_pickT rfl rfl rfl) ?_
   refine r_end ?_
   refine g_condT rfl ?_
   refine g_seq ?_
   refine g_run (by kernel_rfl) [(0, .d)] rfl ?_
   refine r_d rfl rfl rfl (s_assign rfl rfl) ?_
   refine r_end ?_
   obtain rfl := Option.some.inj hr
   refine g_ret Try.func14 _ (.cons (resTmp rfl (Wk.refl _)) .nil) ?_
   rfl
  ·
   refine r_d rfl rfl rfl (s_fieldAddr rfl fl_api_Image_0 rfl rfl rfl rfl) ?_
   refine r_d rfl rfl rfl (s_load rfl rfl (by exact ty_L_api_Unit) rfl) ?_
   refine r_d rfl rfl rfl (m_len (f := enc_S_api_Unit) a_a0.f0_Units rfl el_L_api_Unit rfl (asl rfl)) ?_
   refine r_d rfl rfl rfl (s_fieldAddr rfl fl_api_Image_0 rfl rfl rfl rfl) ?_
   refine r_d rfl rfl rfl (s_load rfl rfl (by exact ty_L_api_Unit) rfl) ?_
   refine r_d rfl rfl rfl (m_len (f := enc_S_api_Unit) b_a1.f0_Units rfl el_L_api_Unit rfl (asl rfl)) ?_
   refine r_d rfl rfl rfl (s_cmp rfl rfl rfl rfl) ?_
   refine r_d rfl rfl rfl (s_pickF rfl rfl rfl) ?_
   refine r_d rfl rfl rfl (s_move rfl rfl) ?_
   refine r_sB 26 rfl hr (fun h26_1 hr => ?_) (fun h26_1 hr => ?_)
   ·
    refine r_skip rfl rfl rfl ?_
    refine r_skip rfl rfl rfl ?_
    refine r_skip rfl rfl rfl ?_
    refine r_skip rfl rfl rfl ?_
    refine r_skip rfl rfl rfl ?_
    refine r_skip rfl rfl rfl ?_
    refine r_skip rfl rfl rfl ?_
    refine r_d rfl rfl rfl (s_pickT rfl rfl rfl) ?_
    refine r_end ?_
    refine g_condT rfl ?_
    refine g_seq ?_
    refine g_run (by kernel_rfl) [(0, .d)] rfl ?_
    refine r_d rfl rfl rfl (s_assign rfl rfl) ?_
    refine r_end ?_
    obtain rfl := Option.some.inj hr
    refine g_ret Try.func14 _ (.cons (resTmp rfl (Wk.refl _)) .nil) ?_
    rfl
   ·
    refine r_d rfl rfl rfl (s_fieldAddr rfl fl_api_Image_1 rfl rfl rfl rfl) ?_
    refine r_d rfl rfl rfl (s_load rfl rfl (by exact ty_L_api_Access) rfl) ?_
    refine r_d rfl rfl rfl (m_len (f := enc_S_api_Access) a_a0.f1_Access rfl el_L_api_Access rfl (asl rfl)) ?_
    refine r_d rfl rfl rfl (s_fieldAddr rfl fl_api_Image_1 rfl rfl rfl rfl) ?_
    refine r_d rfl rfl rfl (s_load rfl rfl (by exact ty_L_api_Access) rfl) ?_
    refine r_d rfl rfl rfl (m_len (f := enc_S_api_Access) b_a1.f1_Access rfl el_L_api_Access rfl (asl rfl)) ?_
    refine r_d rfl rfl rfl (s_cmp rfl rfl rfl rfl) ?_
    refine r_d rfl rfl rfl (s_pickF rfl rfl rfl) ?_
    refine r_end ?_
    refine g_sB 34 rfl hr (fun h34_2 hr => ?_) (fun h34_2 hr => ?_)
    ·
     refine g_condT rfl ?_
     refine g_seq ?_
     refine g_run (by kernel_rfl) [(0, .d)] rfl ?_
     refine r_d rfl rfl rfl (s_assign rfl rfl) ?_
     refine r_end ?_
     obtain rfl := Option.some.inj hr
     refine g_ret Try.func14 _ (.cons (resTmp rfl (Wk.refl _)) .nil) ?_
     rfl
    ·
     refine g_condF rfl ?_
     refine g_skip ?_
     refine g_seq ?_
     refine g_seq ?_
     refine g_run (by kernel_rfl) [(0, .d)] rfl ?_
     refine r_d rfl rfl rfl (s_assign rfl rfl) ?_
     refine r_end ?_
     obtain ⟨kk0, hkk0, hr⟩ := exK (fun k => lf_constraintref32_SameImage_L0 k b_a1 a_a0.f1_Access 0) hr
     refine g_len 28 rfl (asl rfl) fun hla0 => ?_
     simp only [List.length_map] at hla0
     refine g_blockJ (fun env σ => env = [(2, .ptr (enc_S_api_Image a_a0)), (3, .ptr (enc_S_api_Image b_a1))] ∧ σ = [] ∧ kk0 = some res) ?_ (fun HK0 => ?_)
     ·
      rintro _ _ ⟨rfl, rfl, hr⟩
      rw [hkk0] at hr
      refine g_seq ?_
      refine g_seq ?_
      refine g_run (by kernel_rfl) [(0, .d)] rfl ?_
      refine r_d rfl rfl rfl (s_assign rfl rfl) ?_
      refine r_end ?_
      obtain ⟨kk1, hkk1, hr⟩ := exK (fun k => lf_constraintref32_SameImage_L1 k b_a1 a_a0.f0_Units 0) hr
      refine g_lenP 2 [0] (l := a_a0.f0_Units.map enc_S_api_Unit) rfl rfl (asl rfl) fun hla1 => ?_
      simp only [List.length_map] at hla1
      refine g_blockJ (fun env σ => env = [] ∧ σ = [] ∧ kk1 = some res) ?_ (fun HK1 => ?_)
      ·
       rintro _ _ ⟨rfl, rfl, hr⟩
       rw [hkk1] at hr
       refine g_seq ?_
       refine g_run (by kernel_rfl) [(0, .d)] rfl ?_
       refine r_d rfl rfl rfl (s_assign rfl rfl) ?_
       refine r_end ?_
       obtain rfl := Option.some.inj hr
       refine g_ret Try.func14 _ (.cons (resTmp rfl (Wk.refl _)) .nil) ?_
       rfl
      ·
       refine g_sub [(2, .ptr (enc_S_api_Image a_a0)), (3, .ptr (enc_S_api_Image b_a1)), (8, .int .i64 ((0 : Nat) : Int))] (Sub.cons' rfl (Sub.cons' rfl (Sub.cons' rfl (Sub.nil _)))) ?_
       refine g_loop (fun n env σ => ∃ (i_5 : Nat), (n = a_a0.f0_Units.length - i_5) ∧ (env = [(2, .ptr (enc_S_api_Image a_a0)), (3, .ptr (enc_S_api_Image b_a1)), (8, .int .i64 (i_5 : Int))]) ∧ (σ = []) ∧ (i_5 ≤ a_a0.f0_Units.length) ∧ (lf_constraintref32_SameImage_L1 kk1 b_a1 (a_a0.f0_Units.drop i_5) i_5 = some res)) _ ⟨0, rfl, rfl, rfl, Nat.zero_le _, hr⟩ ?_
       rintro n _ _ ⟨i_5, rfl, rfl, rfl, hi1, hr⟩ IH1
       rcases listStep a_a0.f0_Units i_5 hi1 with ⟨ht1, hd1, he1⟩ | ⟨q_6, ht1, hd1, hq1, hlt1⟩
       ·
        rw [hd1, lf_constraintref32_SameImage_L1] at hr
        refine g_seq ?_
        refine g_seq ?_
        refine g_run (by kernel_rfl) [(0, .d), (1, .d), (2, .d), (3, .d), (4, .d)] rfl ?_
        refine r_d rfl rfl rfl (s_move rfl rfl) ?_
        refine r_d rfl rfl rfl (s_fieldAddr rfl fl_api_Image_0 rfl rfl rfl rfl) ?_
        refine r_d rfl rfl rfl (s_load rfl rfl (by exact ty_L_api_Unit) rfl) ?_
        refine r_d rfl rfl rfl (m_len (f := enc_S_api_Unit) a_a0.f0_Units rfl el_L_api_Unit rfl (asl rfl)) ?_
        refine r_d rfl rfl rfl (s_cmp rfl rfl rfl rfl) ?_
        refine r_end ?_
        refine g_known 76 false rfl ht1 ?_
        refine g_condF rfl ?_
        refine g_exit rfl ?_
        refine g_sub [] (Sub.nil _) ?_
        exact HK1 _ _ ⟨rfl, rfl, hr⟩
       ·
        rw [hd1, lf_constraintref32_SameImage_L1] at hr
        refine g_seq ?_
        refine g_seq ?_
        refine g_run (by kernel_rfl) [(0, .d), (1, .d), (2, .d), (3, .d), (4, .d)] rfl ?_
        refine r_d rfl rfl rfl (s_move rfl rfl) ?_
        refine r_d rfl rfl rfl (s_fieldAddr rfl fl_api_Image_0 rfl rfl rfl rfl) ?_
        refine r_d rfl rfl rfl (s_load rfl rfl (by exact ty_L_api_Unit) rfl) ?_
        refine r_d rfl rfl rfl (m_len (f := enc_S_api_Unit) a_a0.f0_Units rfl el_L_api_Unit rfl (asl rfl)) ?_
        refine r_d rfl rfl rfl (s_cmp rfl rfl rfl rfl) ?_
        refine r_end ?_
        refine g_known 76 true rfl ht1 ?_
        refine g_condT rfl ?_
        refine g_skip ?_
        refine g_seq ?_
        refine g_block ?_
        refine g_seq ?_
        obtain ⟨q_8, hq_8, hr⟩ := bindS hr
        refine g_two (by kernel_rfl) (by kernel_rfl) [(0, .d), (1, .d), (2, .d), (3, .d), (4, .d), (5, .d), (6, .d), (7, .d), (8, .d), (9, .d)] [(10, .x), (11, .w), (12, .w), (13, .w)] [(11, .x), (10, .w), (12, .w), (13, .w)] (by kernel_rfl) (fun env σ => ∃ (b10_r12_6 : Nat) (b9_r12_6 : Nat), Sub [(2, .ptr (enc_S_api_Image a_a0)), (3, .ptr (enc_S_api_Image b_a1)), (8, .int .i64 (i_5 : Int)), (9, .ref b9_r12_6 0 []), (10, .ref b10_r12_6 0 [])] env ∧ σ.Perm [.cell b10_r12_6 (enc_S_api_Unit q_8), .cell b9_r12_6 (enc_S_api_Unit q_6)]) ?_ ?_
        ·
         refine r_d rfl rfl rfl (s_fieldAddr rfl fl_api_Image_0 rfl rfl rfl rfl) ?_
         refine r_d rfl rfl rfl (s_load rfl rfl (by exact ty_L_api_Unit) rfl) ?_
         refine r_d rfl rfl rfl (s_move rfl rfl) ?_
         refine r_d rfl rfl rfl (m_index (f := enc_S_api_Unit) a_a0.f0_Units rfl el_L_api_Unit rfl (asl rfl) rfl hq1 sz_S_api_Unit rfl) ?_
         refine r_d rfl rfl rfl (s_load rfl rfl (by exact ty_api_Unit) (sz_S_api_Unit _)) ?_
         refine r_d rfl rfl rfl (s_fieldAddr rfl fl_api_Image_0 rfl rfl rfl rfl) ?_
         refine r_d rfl rfl rfl (s_load rfl rfl (by exact ty_L_api_Unit) rfl) ?_
         refine r_d rfl rfl rfl (s_move rfl rfl) ?_
         refine r_d rfl rfl rfl (m_index (f := enc_S_api_Unit) b_a1.f0_Units rfl el_L_api_Unit rfl (asl rfl) rfl hq_8 sz_S_api_Unit rfl) ?_
         refine r_d rfl rfl rfl (s_load rfl rfl (by exact ty_api_Unit) (sz_S_api_Unit _)) ?_
         refine r_end ⟨?_, ?_⟩
         ·
          refine r_x rfl rfl rfl (s_alloc rfl zv_api_Unit) ?_
          rintro _ _ ⟨b9_r12_6, rfl, rfl⟩
          refine r_w rfl rfl rfl (s_alloc rfl zv_api_Unit) ?_
          rintro _ _ ⟨b10_r12_6, rfl, rfl⟩
          refine r_w01 rfl rfl rfl (t_store0 _ rfl rfl rfl (Wk.refl _) (pf1 _ _ _) (by exact ty_api_Unit) (sz_S_api_Unit _) rfl rfl) ?_
          refine r_w01 rfl rfl rfl (t_store0 _ rfl rfl rfl (Wk.refl _) (pf1 _ _ _) (by exact ty_api_Unit) (sz_S_api_Unit _) rfl rfl) ?_
          refine r_end ?_
          exact ⟨b10_r12_6, b9_r12_6, (Sub.cons' rfl (Sub.cons' rfl (Sub.cons' rfl (Sub.cons' rfl (Sub.cons' rfl (Sub.nil _)))))), ((pf1 _ _ _).trans (pf1 _ _ _))⟩
         ·
          refine r_x rfl rfl rfl (s_alloc rfl zv_api_Unit) ?_
          rintro _ _ ⟨b10_r12_6, rfl, rfl⟩
          refine r_w rfl rfl rfl (s_alloc rfl zv_api_Unit) ?_
          rintro _ _ ⟨b9_r12_6, rfl, rfl⟩
          refine r_w01 rfl rfl rfl (t_store0 _ rfl rfl rfl (Wk.refl _) (pf0 _) (by exact ty_api_Unit) (sz_S_api_Unit _) rfl rfl) ?_
          refine r_w01 rfl rfl rfl (t_store0 _ rfl rfl rfl (Wk.refl _) (pf1 _ _ _) (by exact ty_api_Unit) (sz_S_api_Unit _) rfl rfl) ?_
          refine r_end ?_
          exact ⟨b10_r12_6, b9_r12_6, (Sub.cons' rfl (Sub.cons' rfl (Sub.cons' rfl (Sub.cons' rfl (Sub.cons' rfl (Sub.nil _)))))), ((pf1 _ _ _).trans (pf1 _ _ _))⟩
        ·
         rintro _ _ ⟨b10_r12_6, b9_r12_6, hs, hp⟩
         refine g_ends hs hp ?_
         refine g_freeze 9 b9_r12_6 rfl (pf1 _ _ _) ?_
         refine g_freeze 10 b10_r12_6 rfl (pf0 _) ?_
         refine g_seq ?_
         refine g_seq ?_
         refine g_run (by kernel_rfl) [(0, .d), (1, .d), (2, .d), (3, .d), (4, .d), (5, .d), (6, .d), (7, .d), (8, .d), (9, .d), (10, .d), (11, .d), (12, .d), (13, .d), (14, .d), (15, .d), (16, .d), (17, .d), (18, .d), (19, .d), (20, .d), (21, .d), (22, .d), (23, .d), (24, .d), (25, .d), (26, .d), (27, .d), (28, .d), (29, .d), (30, .d), (31, .d), (32, .d), (33, .d), (34, .d)] rfl ?_
         refine r_d rfl rfl rfl (s_fieldAddr rfl fl_api_Unit_0 rfl rfl rfl rfl) ?_
         refine r_d rfl rfl rfl (s_load rfl rfl (by exact ty_string) rfl) ?_
         refine r_d rfl rfl rfl (s_fieldAddr rfl fl_api_Unit_0 rfl rfl rfl rfl) ?_
         refine r_d rfl rfl rfl (s_load rfl rfl (by exact ty_string) rfl) ?_
         refine r_d rfl rfl rfl (s_cmpS rfl rfl rfl rfl) ?_
         refine r_d rfl rfl rfl (s_move rfl rfl) ?_
         refine r_sB 94 rfl hr (fun h94_8 hr => ?_) (fun h94_8 hr => ?_)
         ·
          refine r_skip rfl rfl rfl ?_
          refine r_skip rfl rfl rfl ?_
          refine r_skip rfl rfl rfl ?_
          refine r_skip rfl rfl rfl ?_
          refine r_skip rfl rfl rfl ?_
          refine r_d rfl rfl rfl (s_pickT rfl rfl rfl) ?_
          refine r_d rfl rfl rfl (s_move rfl rfl) ?_
          refine r_skip rfl rfl rfl ?_
          refine r_skip rfl rfl rfl ?_
          refine r_skip rfl rfl rfl ?_
          refine r_skip rfl rfl rfl ?_
          refine r_skip rfl rfl rfl ?_
          refine r_d rfl rfl rfl (s_pickT rfl rfl rfl) ?_
          refine r_d rfl rfl rfl (s_move rfl rfl) ?_
          refine r_skip rfl rfl rfl ?_
          refine r_skip rfl rfl rfl ?_
          refine r_skip rfl rfl rfl ?_
          refine r_skip rfl rfl rfl ?_
          refine r_skip rfl rfl rfl ?_
          refine r_d rfl rfl rfl (s_pickT rfl rfl rfl) ?_
          refine r_d rfl rfl rfl (s_move rfl rfl) ?_
          refine r_skip rfl rfl rfl ?_
          refine r_skip rfl rfl rfl ?_
          refine r_skip rfl rfl rfl ?_
          refine r_skip rfl rfl rfl ?_
          refine r_skip rfl rfl rfl ?_
          refine r_skip rfl rfl rfl ?_
          refine r_skip rfl rfl rfl ?_
          refine r_d rfl rfl rfl (s_pickT rfl rfl rfl) ?_
          refine r_end ?_
          refine g_condT rfl ?_
          refine g_seq ?_
          refine g_run (by kernel_rfl) [(0, .d)] rfl ?_
          refine r_d rfl rfl rfl (s_assign rfl rfl) ?_
          refine r_end ?_
          obtain rfl := Option.some.inj hr
          refine g_ret Try.func14 _ (.cons (resTmp rfl (Wk.refl _)) .nil) ?_
          rfl
         ·
          refine r_d rfl rfl rfl (s_fieldAddr rfl fl_api_Unit_1 rfl rfl rfl rfl) ?_
          refine r_d rfl rfl rfl (s_load rfl rfl (by exact ty_int) rfl) ?_
          refine r_d rfl rfl rfl (s_fieldAddr rfl fl_api_Unit_1 rfl rfl rfl rfl) ?_
          refine r_d rfl rfl rfl (s_load rfl rfl (by exact ty_int) rfl) ?_
          refine r_d rfl rfl rfl (s_cmp rfl rfl rfl rfl) ?_
          refine r_d rfl rfl rfl (s_pickF rfl rfl rfl) ?_
          refine r_d rfl rfl rfl (s_move rfl rfl) ?_
          refine r_sB 101 rfl hr (fun h101_9 hr => ?_) (fun h101_9 hr => ?_)
          ·
           refine r_skip rfl rfl rfl ?_
           refine r_skip rfl rfl rfl ?_
           refine r_skip rfl rfl rfl ?_
           refine r_skip rfl rfl rfl ?_
           refine r_skip rfl rfl rfl ?_
           refine r_d rfl rfl rfl (s_pickT rfl rfl rfl) ?_
           refine r_d rfl rfl rfl (s_move rfl rfl) ?_
           refine r_skip rfl rfl rfl ?_
           refine r_skip rfl rfl rfl ?_
           refine r_skip rfl rfl rfl ?_
           refine r_skip rfl rfl rfl ?_
           refine r_skip rfl rfl rfl ?_
           refine r_d rfl rfl rfl (s_pickT rfl rfl rfl) ?_
           refine r_d rfl rfl rfl (s_move rfl rfl) ?_
           refine r_skip rfl rfl rfl ?_
           refine r_skip rfl rfl rfl ?_
           refine r_skip rfl rfl rfl ?_
           refine r_skip rfl rfl rfl ?_
           refine r_skip rfl rfl rfl ?_
           refine r_skip rfl rfl rfl ?_
           refine r_skip rfl rfl rfl ?_
           refine r_d rfl rfl rfl (s_pickT rfl rfl rfl) ?_
           refine r_end ?_
           refine g_condT rfl ?_
           refine g_seq ?_
           refine g_run (by kernel_rfl) [(0, .d)] rfl ?_
           refine r_d rfl rfl rfl (s_assign rfl rfl) ?_
           refine r_end ?_
           obtain rfl := Option.some.inj hr
           refine g_ret Try.func14 _ (.cons (resTmp rfl (Wk.refl _)) .nil) ?_
           rfl
          ·
           refine r_d rfl rfl rfl (s_fieldAddr rfl fl_api_Unit_3 rfl rfl rfl rfl) ?_
           refine r_d rfl rfl rfl (s_load rfl rfl (by exact ty_bool) rfl) ?_
           refine r_d rfl rfl rfl (s_fieldAddr rfl fl_api_Unit_3 rfl rfl rfl rfl) ?_
           refine r_d rfl rfl rfl (s_load rfl rfl (by exact ty_bool) rfl) ?_
           refine r_d rfl rfl rfl (s_neqB rfl Try.underlying4 rfl rfl) ?_
           refine r_d rfl rfl rfl (s_pickF rfl rfl rfl) ?_
           refine r_d rfl rfl rfl (s_move rfl rfl) ?_
           refine r_sB 108 rfl hr (fun h108_10 hr => ?_) (fun h108_10 hr => ?_)
           ·
            refine r_skip rfl rfl rfl ?_
            refine r_skip rfl rfl rfl ?_
            refine r_skip rfl rfl rfl ?_
            refine r_skip rfl rfl rfl ?_
            refine r_skip rfl rfl rfl ?_
            refine r_d rfl rfl rfl (s_pickT rfl rfl rfl) ?_
            refine r_d rfl rfl rfl (s_move rfl rfl) ?_
            refine r_skip rfl rfl rfl ?_
            refine r_skip rfl rfl rfl ?_
            refine r_skip rfl rfl rfl ?_
            refine r_skip rfl rfl rfl ?_
            refine r_skip rfl rfl rfl ?_
            refine r_skip rfl rfl rfl ?_
            refine r_skip rfl rfl rfl ?_
            refine r_d rfl rfl rfl (s_pickT rfl rfl rfl) ?_
            refine r_end ?_
            refine g_condT rfl ?_
            refine g_seq ?_
            refine g_run (by kernel_rfl) [(0, .d)] rfl ?_
            refine r_d rfl rfl rfl (s_assign rfl rfl) ?_
            refine r_end ?_
            obtain rfl := Option.some.inj hr
            refine g_ret Try.func14 _ (.cons (resTmp rfl (Wk.refl _)) .nil) ?_
            rfl
           ·
            refine r_d rfl rfl rfl (s_fieldAddr rfl fl_api_Unit_4 rfl rfl rfl rfl) ?_
            refine r_d rfl rfl rfl (s_load rfl rfl (by exact ty_int) rfl) ?_
            refine r_d rfl rfl rfl (s_fieldAddr rfl fl_api_Unit_4 rfl rfl rfl rfl) ?_
            refine r_d rfl rfl rfl (s_load rfl rfl (by exact ty_int) rfl) ?_
            refine r_d rfl rfl rfl (s_cmp rfl rfl rfl rfl) ?_
            refine r_d rfl rfl rfl (s_pickF rfl rfl rfl) ?_
            refine r_d rfl rfl rfl (s_move rfl rfl) ?_
            refine r_sB 115 rfl hr (fun h115_11 hr => ?_) (fun h115_11 hr => ?_)
            ·
             refine r_skip rfl rfl rfl ?_
             refine r_skip rfl rfl rfl ?_
             refine r_skip rfl rfl rfl ?_
             refine r_skip rfl rfl rfl ?_
             refine r_skip rfl rfl rfl ?_
             refine r_skip rfl rfl rfl ?_
             refine r_skip rfl rfl rfl ?_
             refine r_d rfl rfl rfl (s_pickT rfl rfl rfl) ?_
             refine r_end ?_
             refine g_condT rfl ?_
             refine g_seq ?_
             refine g_run (by kernel_rfl) [(0, .d)] rfl ?_
             refine r_d rfl rfl rfl (s_assign rfl rfl) ?_
             refine r_end ?_
             obtain rfl := Option.some.inj hr
             refine g_ret Try.func14 _ (.cons (resTmp rfl (Wk.refl _)) .nil) ?_
             rfl
            ·
             refine r_d rfl rfl rfl (s_fieldAddr rfl fl_api_Unit_2 rfl rfl rfl rfl) ?_
             refine r_d rfl rfl rfl (s_load rfl rfl (by exact ty_L_api_Block) rfl) ?_
             refine r_d rfl rfl rfl (m_len (f := enc_S_api_Block) q_6.f2_Blocks rfl el_L_api_Block rfl (asl rfl)) ?_
             refine r_d rfl rfl rfl (s_fieldAddr rfl fl_api_Unit_2 rfl rfl rfl rfl) ?_
             refine r_d rfl rfl rfl (s_load rfl rfl (by exact ty_L_api_Block) rfl) ?_
             refine r_d rfl rfl rfl (m_len (f := enc_S_api_Block) q_8.f2_Blocks rfl el_L_api_Block rfl (asl rfl)) ?_
             refine r_d rfl rfl rfl (s_cmp rfl rfl rfl rfl) ?_
             refine r_d rfl rfl rfl (s_pickF rfl rfl rfl) ?_
             refine r_end ?_
             refine g_sB 123 rfl hr (fun h123_12 hr => ?_) (fun h123_12 hr => ?_)
             ·
              refine g_condT rfl ?_
              refine g_seq ?_
              refine g_run (by kernel_rfl) [(0, .d)] rfl ?_
              refine r_d rfl rfl rfl (s_assign rfl rfl) ?_
              refine r_end ?_
              obtain rfl := Option.some.inj hr
              refine g_ret Try.func14 _ (.cons (resTmp rfl (Wk.refl _)) .nil) ?_
              rfl
             ·
              refine g_condF rfl ?_
              refine g_skip ?_
              refine g_seq ?_
              refine g_run (by kernel_rfl) [(0, .d)] rfl ?_
              refine r_d rfl rfl rfl (s_assign rfl rfl) ?_
              refine r_end ?_
              obtain ⟨kk2, hkk2, hr⟩ := exK (fun k => lf_constraintref32_SameImage_L2 k q_8 q_6.f2_Blocks 0) hr
              refine g_len 117 rfl (asl rfl) fun hla2 => ?_
              simp only [List.length_map] at hla2
              refine g_blockJ (fun env σ => env = [(2, .ptr (enc_S_api_Image a_a0)), (3, .ptr (enc_S_api_Image b_a1)), (8, .int .i64 (i_5 : Int))] ∧ σ = [] ∧ kk2 = some res) ?_ (fun HK2 => ?_)
              ·
               rintro _ _ ⟨rfl, rfl, hr⟩
               rw [hkk2] at hr
               refine g_inBlock ?_
               refine g_run (by kernel_rfl) [(0, .d), (1, .d), (2, .d)] rfl ?_
               refine r_d rfl rfl rfl (s_move rfl rfl) ?_
               refine r_d rfl rfl rfl (s_ar (r := ((i_5 + 1 : Nat) : Int)) rfl rfl rfl (by simp [iar]) (by omega)) ?_
               refine r_d rfl rfl rfl (s_assign rfl rfl) ?_
               refine r_end ?_
               refine g_sub [(2, .ptr (enc_S_api_Image a_a0)), (3, .ptr (enc_S_api_Image b_a1)), (8, .int .i64 ((i_5 + 1 : Nat) : Int))] (Sub.cons' rfl (Sub.cons' rfl (Sub.cons' rfl (Sub.nil _)))) ?_
               exact IH1 _ _ _ (by omega) ⟨(i_5 + 1), rfl, rfl, rfl, (by omega), hr⟩
              ·
               refine g_sub [(2, .ptr (enc_S_api_Image a_a0)), (3, .ptr (enc_S_api_Image b_a1)), (8, .int .i64 ((i_5 : Nat) : Int)), (9, .ptr (enc_S_api_Unit q_6)), (10, .ptr (enc_S_api_Unit q_8)), (11, .int .i64 ((0 : Nat) : Int))] (Sub.cons' rfl (Sub.cons' rfl (Sub.cons' rfl (Sub.cons' rfl (Sub.cons' rfl (Sub.cons' rfl (Sub.nil _))))))) ?_
               refine g_loop (fun n env σ => ∃ (k_14 : Nat), (n = q_6.f2_Blocks.length - k_14) ∧ (env = [(2, .ptr (enc_S_api_Image a_a0)), (3, .ptr (enc_S_api_Image b_a1)), (8, .int .i64 (i_5 : Int)), (9, .ptr (enc_S_api_Unit q_6)), (10, .ptr (enc_S_api_Unit q_8)), (11, .int .i64 (k_14 : Int))]) ∧ (σ = []) ∧ (k_14 ≤ q_6.f2_Blocks.length) ∧ (lf_constraintref32_SameImage_L2 kk2 q_8 (q_6.f2_Blocks.drop k_14) k_14 = some res)) _ ⟨0, rfl, rfl, rfl, Nat.zero_le _, hr⟩ ?_
               rintro n _ _ ⟨k_14, rfl, rfl, rfl, hi2, hr⟩ IH2
               rcases listStep q_6.f2_Blocks k_14 hi2 with ⟨ht2, hd2, he2⟩ | ⟨q_15, ht2, hd2, hq2, hlt2⟩
               ·
                rw [hd2, lf_constraintref32_SameImage_L2] at hr
                refine g_seq ?_
                refine g_seq ?_
                refine g_run (by kernel_rfl) [(0, .d), (1, .d), (2, .d), (3, .d), (4, .d)] rfl ?_
                refine r_d rfl rfl rfl (s_move rfl rfl) ?_
                refine r_d rfl rfl rfl (s_fieldAddr rfl fl_api_Unit_2 rfl rfl rfl rfl) ?_
                refine r_d rfl rfl rfl (s_load rfl rfl (by exact ty_L_api_Block) rfl) ?_
                refine r_d rfl rfl rfl (m_len (f := enc_S_api_Block) q_6.f2_Blocks rfl el_L_api_Block rfl (asl rfl)) ?_
                refine r_d rfl rfl rfl (s_cmp rfl rfl rfl rfl) ?_
                refine r_end ?_
                refine g_known 128 false rfl ht2 ?_
                refine g_condF rfl ?_
                refine g_exit rfl ?_
                refine g_sub [(2, .ptr (enc_S_api_Image a_a0)), (3, .ptr (enc_S_api_Image b_a1)), (8, .int .i64 (i_5 : Int))] (Sub.cons' rfl (Sub.cons' rfl (Sub.cons' rfl (Sub.nil _)))) ?_
                exact HK2 _ _ ⟨rfl, rfl, hr⟩
               ·
                rw [hd2, lf_constraintref32_SameImage_L2] at hr
                refine g_seq ?_
                refine g_seq ?_
                refine g_run (by kernel_rfl) [(0, .d), (1, .d), (2, .d), (3, .d), (4, .d)] rfl ?_
                refine r_d rfl rfl rfl (s_move rfl rfl) ?_
                refine r_d rfl rfl rfl (s_fieldAddr rfl fl_api_Unit_2 rfl rfl rfl rfl) ?_
                refine r_d rfl rfl rfl (s_load rfl rfl (by exact ty_L_api_Block) rfl) ?_
                refine r_d rfl rfl rfl (m_len (f := enc_S_api_Block) q_6.f2_Blocks rfl el_L_api_Block rfl (asl rfl)) ?_
                refine r_d rfl rfl rfl (s_cmp rfl rfl rfl rfl) ?_
                refine r_end ?_
                refine g_known 128 true rfl ht2 ?_
                refine g_condT rfl ?_
                refine g_skip ?_
                refine g_seq ?_
                refine g_block ?_
                refine g_seq ?_
                refine g_any (by kernel_rfl) (by kernel_rfl) [(0, .d), (1, .d), (2, .d), (3, .d), (4, .d), (5, .d), (6, .d), (7, .d), (8, .d), (9, .d), (10, .d), (11, .d)] (by kernel_rfl) ?_
                refine r_d rfl rfl rfl (s_fieldAddr rfl fl_api_Unit_2 rfl rfl rfl rfl) ?_
                refine r_d rfl rfl rfl (s_load rfl rfl (by exact ty_L_api_Block) rfl) ?_
                refine r_d rfl rfl rfl (s_move rfl rfl) ?_
                refine r_d rfl rfl rfl (m_index (f := enc_S_api_Block) q_6.f2_Blocks rfl el_L_api_Block rfl (asl rfl) rfl hq2 sz_S_api_Block rfl) ?_
                refine r_d rfl rfl rfl (s_load rfl rfl (by exact ty_api_Block) (sz_S_api_Block _)) ?_
                refine r_d rfl rfl rfl (s_fieldAddr rfl fl_api_Unit_2 rfl rfl rfl rfl) ?_
                refine r_d rfl rfl rfl (s_load rfl rfl (by exact ty_L_api_Block) rfl) ?_
                refine r_d rfl rfl rfl (s_move rfl rfl) ?_
                obtain ⟨q_16, hq_16, hr⟩ := bindS hr
                refine r_d rfl rfl rfl (m_index (f := enc_S_api_Block) q_8.f2_Blocks rfl el_L_api_Block rfl (asl rfl) rfl hq_16 sz_S_api_Block rfl) ?_
                refine r_d rfl rfl rfl (s_load rfl rfl (by exact ty_api_Block) (sz_S_api_Block _)) ?_
                obtain ⟨r_17, hr_17, hr⟩ := bindS hr
                refine r_d rfl rfl rfl (s_callD rfl cl_constraintref32_SameBlock (.cons rfl (Wk.refl _) (.cons rfl (Wk.refl _) .nil)) (lg_constraintref32_SameBlock _ _ _ hr_17)) ?_
                refine r_d rfl rfl rfl (s_not rfl rfl) ?_
                refine r_end ?_
                refine g_sB 142 rfl hr (fun h142_17 hr => ?_) (fun h142_17 hr => ?_)
                ·
                 refine g_condT rfl ?_
                 refine g_seq ?_
                 refine g_run (by kernel_rfl) [(0, .d)] rfl ?_
                 refine r_d rfl rfl rfl (s_assign rfl rfl) ?_
                 refine r_end ?_
                 obtain rfl := Option.some.inj hr
                 refine g_ret Try.func14 _ (.cons (resTmp rfl (Wk.refl _)) .nil) ?_
                 rfl
                ·
                 refine g_condF rfl ?_
                 refine g_skip ?_
                 refine g_inBlock ?_
                 refine g_run (by kernel_rfl) [(0, .d), (1, .d), (2, .d)] rfl ?_
                 refine r_d rfl rfl rfl (s_move rfl rfl) ?_
                 refine r_d rfl rfl rfl (s_ar (r := ((k_14 + 1 : Nat) : Int)) rfl rfl rfl (by simp [iar]) (by omega)) ?_
                 refine r_d rfl rfl rfl (s_assign rfl rfl) ?_
                 refine r_end ?_
                 refine g_sub [(2, .ptr (enc_S_api_Image a_a0)), (3, .ptr (enc_S_api_Image b_a1)), (8, .int .i64 ((i_5 : Nat) : Int)), (9, .ptr (enc_S_api_Unit q_6)), (10, .ptr (enc_S_api_Unit q_8)), (11, .int .i64 ((k_14 + 1 : Nat) : Int))] (Sub.cons' rfl (Sub.cons' rfl (Sub.cons' rfl (Sub.cons' rfl (Sub.cons' rfl (Sub.cons' rfl (Sub.nil _))))))) ?_
                 exact IH2 _ _ _ (by omega) ⟨(k_14 + 1), rfl, rfl, rfl, (by omega), hr⟩
     ·
      refine g_sub [(2, .ptr (enc_S_api_Image a_a0)), (3, .ptr (enc_S_api_Image b_a1)), (5, .int .i64 ((0 : Nat) : Int))] (Sub.cons' rfl (Sub.cons' rfl (Sub.cons' rfl (Sub.nil _)))) ?_
      refine g_loop (fun n env σ => ∃ (i_4 : Nat), (n = a_a0.f1_Access.length - i_4) ∧ (env = [(2, .ptr (enc_S_api_Image a_a0)), (3, .ptr (enc_S_api_Image b_a1)), (5, .int .i64 (i_4 : Int))]) ∧ (σ = []) ∧ (i_4 ≤ a_a0.f1_Access.length) ∧ (lf_constraintref32_SameImage_L0 kk0 b_a1 (a_a0.f1_Access.drop i_4) i_4 = some res)) _ ⟨0, rfl, rfl, rfl, Nat.zero_le _, hr⟩ ?_
      rintro n _ _ ⟨i_4, rfl, rfl, rfl, hi0, hr⟩ IH0
      rcases listStep a_a0.f1_Access i_4 hi0 with ⟨ht0, hd0, he0⟩ | ⟨q_19, ht0, hd0, hq0, hlt0⟩
      ·
       rw [hd0, lf_constraintref32_SameImage_L0] at hr
       refine g_seq ?_
       refine g_seq ?_
       refine g_run (by kernel_rfl) [(0, .d), (1, .d), (2, .d), (3, .d), (4, .d)] rfl ?_
       refine r_d rfl rfl rfl (s_move rfl rfl) ?_
       refine r_d rfl rfl rfl (s_fieldAddr rfl fl_api_Image_1 rfl rfl rfl rfl) ?_
       refine r_d rfl rfl rfl (s_load rfl rfl (by exact ty_L_api_Access) rfl) ?_
       refine r_d rfl rfl rfl (m_len (f := enc_S_api_Access) a_a0.f1_Access rfl el_L_api_Access rfl (asl rfl)) ?_
       refine r_d rfl rfl rfl (s_cmp rfl rfl rfl rfl) ?_
       refine r_end ?_
       refine g_known 39 false rfl ht0 ?_
       refine g_condF rfl ?_
       refine g_exit rfl ?_
       refine g_sub [(2, .ptr (enc_S_api_Image a_a0)), (3, .ptr (enc_S_api_Image b_a1))] (Sub.cons' rfl (Sub.cons' rfl (Sub.nil _))) ?_
       exact HK0 _ _ ⟨rfl, rfl, hr⟩
      ·
       rw [hd0, lf_constraintref32_SameImage_L0] at hr
       refine g_seq ?_
       refine g_seq ?_
       refine g_run (by kernel_rfl) [(0, .d), (1, .d), (2, .d), (3, .d), (4, .d)] rfl ?_
       refine r_d rfl rfl rfl (s_move rfl rfl) ?_
       refine r_d rfl rfl rfl (s_fieldAddr rfl fl_api_Image_1 rfl rfl rfl rfl) ?_
       refine r_d rfl rfl rfl (s_load rfl rfl (by exact ty_L_api_Access) rfl) ?_
       refine r_d rfl rfl rfl (m_len (f := enc_S_api_Access) a_a0.f1_Access rfl el_L_api_Access rfl (asl rfl)) ?_
       refine r_d rfl rfl rfl (s_cmp rfl rfl rfl rfl) ?_
       refine r_end ?_
       refine g_known 39 true rfl ht0 ?_
       refine g_condT rfl ?_
       refine g_skip ?_
       refine g_seq ?_
       refine g_block ?_
       refine g_seq ?_
       obtain ⟨q_21, hq_21, hr⟩ := bindS hr
       refine g_two (by kernel_rfl) (by kernel_rfl) [(0, .d), (1, .d), (2, .d), (3, .d), (4, .d), (5, .d), (6, .d), (7, .d), (8, .d), (9, .d)] [(10, .x), (11, .w), (12, .w), (13, .w)] [(11, .x), (10, .w), (12, .w), (13, .w)] (by kernel_rfl) (fun env σ => ∃ (b7_r6_19 : Nat) (b6_r6_19 : Nat), Sub [(2, .ptr (enc_S_api_Image a_a0)), (3, .ptr (enc_S_api_Image b_a1)), (5, .int .i64 (i_4 : Int)), (6, .ref b6_r6_19 0 []), (7, .ref b7_r6_19 0 [])] env ∧ σ.Perm [.cell b7_r6_19 (enc_S_api_Access q_21), .cell b6_r6_19 (enc_S_api_Access q_19)]) ?_ ?_
       ·
        refine r_d rfl rfl rfl (s_fieldAddr rfl fl_api_Image_1 rfl rfl rfl rfl) ?_
        refine r_d rfl rfl rfl (s_load rfl rfl (by exact ty_L_api_Access) rfl) ?_
        refine r_d rfl rfl rfl (s_move rfl rfl) ?_
        refine r_d rfl rfl rfl (m_index (f := enc_S_api_Access) a_a0.f1_Access rfl el_L_api_Access rfl (asl rfl) rfl hq0 sz_S_api_Access rfl) ?_
        refine r_d rfl rfl rfl (s_load rfl rfl (by exact ty_api_Access) (sz_S_api_Access _)) ?_
        refine r_d rfl rfl rfl (s_fieldAddr rfl fl_api_Image_1 rfl rfl rfl rfl) ?_
        refine r_d rfl rfl rfl (s_load rfl rfl (by exact ty_L_api_Access) rfl) ?_
        refine r_d rfl rfl rfl (s_move rfl rfl) ?_
        refine r_d rfl rfl rfl (m_index (f := enc_S_api_Access) b_a1.f1_Access rfl el_L_api_Access rfl (asl rfl) rfl hq_21 sz_S_api_Access rfl) ?_
        refine r_d rfl rfl rfl (s_load rfl rfl (by exact ty_api_Access) (sz_S_api_Access _)) ?_
        refine r_end ⟨?_, ?_⟩
        ·
         refine r_x rfl rfl rfl (s_alloc rfl zv_api_Access) ?_
         rintro _ _ ⟨b6_r6_19, rfl, rfl⟩
         refine r_w rfl rfl rfl (s_alloc rfl zv_api_Access) ?_
         rintro _ _ ⟨b7_r6_19, rfl, rfl⟩
         refine r_w01 rfl rfl rfl (t_store0 _ rfl rfl rfl (Wk.refl _) (pf1 _ _ _) (by exact ty_api_Access) (sz_S_api_Access _) rfl rfl) ?_
         refine r_w01 rfl rfl rfl (t_store0 _ rfl rfl rfl (Wk.refl _) (pf1 _ _ _) (by exact ty_api_Access) (sz_S_api_Access _) rfl rfl) ?_
         refine r_end ?_
         exact ⟨b7_r6_19, b6_r6_19, (Sub.cons' rfl (Sub.cons' rfl (Sub.cons' rfl (Sub.cons' rfl (Sub.cons' rfl (Sub.nil _)))))), ((pf1 _ _ _).trans (pf1 _ _ _))⟩
        ·
         refine r_x rfl rfl rfl (s_alloc rfl zv_api_Access) ?_
         rintro _ _ ⟨b7_r6_19, rfl, rfl⟩
         refine r_w rfl rfl rfl (s_alloc rfl zv_api_Access) ?_
         rintro _ _ ⟨b6_r6_19, rfl, rfl⟩
         refine r_w01 rfl rfl rfl (t_store0 _ rfl rfl rfl (Wk.refl _) (pf0 _) (by exact ty_api_Access) (sz_S_api_Access _) rfl rfl) ?_
         refine r_w01 rfl rfl rfl (t_store0 _ rfl rfl rfl (Wk.refl _) (pf1 _ _ _) (by exact ty_api_Access) (sz_S_api_Access _) rfl rfl) ?_
         refine r_end ?_
         exact ⟨b7_r6_19, b6_r6_19, (Sub.cons' rfl (Sub.cons' rfl (Sub.cons' rfl (Sub.cons' rfl (Sub.cons' rfl (Sub.nil _)))))), ((pf1 _ _ _).trans (pf1 _ _ _))⟩
       ·
        rintro _ _ ⟨b7_r6_19, b6_r6_19, hs, hp⟩
        refine g_ends hs hp ?_
        refine g_freeze 6 b6_r6_19 rfl (pf1 _ _ _) ?_
        refine g_freeze 7 b7_r6_19 rfl (pf0 _) ?_
        refine g_seq ?_
        refine g_run (by kernel_rfl) [(0, .d), (1, .d), (2, .d), (3, .d), (4, .d), (5, .d), (6, .d), (7, .d), (8, .d), (9, .d), (10, .d), (11, .d), (12, .d), (13, .d), (14, .d), (15, .d), (16, .d), (17, .d), (18, .d), (19, .d)] rfl ?_
        refine r_d rfl rfl rfl (s_fieldAddr rfl fl_api_Access_0 rfl rfl rfl rfl) ?_
        refine r_d rfl rfl rfl (s_load rfl rfl (by exact ty_string) rfl) ?_
        refine r_d rfl rfl rfl (s_fieldAddr rfl fl_api_Access_0 rfl rfl rfl rfl) ?_
        refine r_d rfl rfl rfl (s_load rfl rfl (by exact ty_string) rfl) ?_
        refine r_d rfl rfl rfl (s_cmpS rfl rfl rfl rfl) ?_
        refine r_d rfl rfl rfl (s_move rfl rfl) ?_
        refine r_sB 57 rfl hr (fun h57_21 hr => ?_) (fun h57_21 hr => ?_)
        ·
         refine r_skip rfl rfl rfl ?_
         refine r_skip rfl rfl rfl ?_
         refine r_skip rfl rfl rfl ?_
         refine r_skip rfl rfl rfl ?_
         refine r_skip rfl rfl rfl ?_
         refine r_d rfl rfl rfl (s_pickT rfl rfl rfl) ?_
         refine r_d rfl rfl rfl (s_move rfl rfl) ?_
         refine r_skip rfl rfl rfl ?_
         refine r_skip rfl rfl rfl ?_
         refine r_skip rfl rfl rfl ?_
         refine r_skip rfl rfl rfl ?_
         refine r_skip rfl rfl rfl ?_
         refine r_skip rfl rfl rfl ?_
         refine r_d rfl rfl rfl (s_pickT rfl rfl rfl) ?_
         refine r_end ?_
         refine g_condT rfl ?_
         refine g_seq ?_
         refine g_run (by kernel_rfl) [(0, .d)] rfl ?_
         refine r_d rfl rfl rfl (s_assign rfl rfl) ?_
         refine r_end ?_
         obtain rfl := Option.some.inj hr
         refine g_ret Try.func14 _ (.cons (resTmp rfl (Wk.refl _)) .nil) ?_
         rfl
        ·
         refine r_d rfl rfl rfl (s_fieldAddr rfl fl_api_Access_1 rfl rfl rfl rfl) ?_
         refine r_d rfl rfl rfl (s_load rfl rfl (by exact ty_int) rfl) ?_
         refine r_d rfl rfl rfl (s_fieldAddr rfl fl_api_Access_1 rfl rfl rfl rfl) ?_
         refine r_d rfl rfl rfl (s_load rfl rfl (by exact ty_int) rfl) ?_
         refine r_d rfl rfl rfl (s_cmp rfl rfl rfl rfl) ?_
         refine r_d rfl rfl rfl (s_pickF rfl rfl rfl) ?_
         refine r_d rfl rfl rfl (s_move rfl rfl) ?_
         refine r_sB 64 rfl hr (fun h64_22 hr => ?_) (fun h64_22 hr => ?_)
         ·
          refine r_skip rfl rfl rfl ?_
          refine r_skip rfl rfl rfl ?_
          refine r_skip rfl rfl rfl ?_
          refine r_skip rfl rfl rfl ?_
          refine r_skip rfl rfl rfl ?_
          refine r_skip rfl rfl rfl ?_
          refine r_d rfl rfl rfl (s_pickT rfl rfl rfl) ?_
          refine r_end ?_
          refine g_condT rfl ?_
          refine g_seq ?_
          refine g_run (by kernel_rfl) [(0, .d)] rfl ?_
          refine r_d rfl rfl rfl (s_assign rfl rfl) ?_
          refine r_end ?_
          obtain rfl := Option.some.inj hr
          refine g_ret Try.func14 _ (.cons (resTmp rfl (Wk.refl _)) .nil) ?_
          rfl
         ·
          refine r_d rfl rfl rfl (s_fieldAddr rfl fl_api_Access_2 rfl rfl rfl rfl) ?_
          refine r_d rfl rfl rfl (s_load rfl rfl (by exact ty_L_int) rfl) ?_
          refine r_d rfl rfl rfl (s_fieldAddr rfl fl_api_Access_2 rfl rfl rfl rfl) ?_
          refine r_d rfl rfl rfl (s_load rfl rfl (by exact ty_L_int) rfl) ?_
          obtain ⟨r_24, hr_24, hr⟩ := bindS hr
          refine r_d rfl rfl rfl (s_callD rfl cl_constraintref03_SameInts (.cons rfl (Wk.refl _) (.cons rfl (Wk.refl _) .nil)) (lg_constraintref03_SameInts _ _ _ hr_24)) ?_
          refine r_d rfl rfl rfl (s_not rfl rfl) ?_
          refine r_d rfl rfl rfl (s_pickF rfl rfl rfl) ?_
          refine r_end ?_
          refine g_sB 71 rfl hr (fun h71_24 hr => ?_) (fun h71_24 hr => ?_)
          ·
           refine g_condT rfl ?_
           refine g_seq ?_
           refine g_run (by kernel_rfl) [(0, .d)] rfl ?_
           refine r_d rfl rfl rfl (s_assign rfl rfl) ?_
           refine r_end ?_
           obtain rfl := Option.some.inj hr
           refine g_ret Try.func14 _ (.cons (resTmp rfl (Wk.refl _)) .nil) ?_
           rfl
          ·
           refine g_condF rfl ?_
           refine g_skip ?_
           refine g_inBlock ?_
           refine g_run (by kernel_rfl) [(0, .d), (1, .d), (2, .d)] rfl ?_
           refine r_d rfl rfl rfl (s_move rfl rfl) ?_
           refine r_d rfl rfl rfl (s_ar (r := ((i_4 + 1 : Nat) : Int)) rfl rfl rfl (by simp [iar]) (by omega)) ?_
           refine r_d rfl rfl rfl (s_assign rfl rfl) ?_
           refine r_end ?_
           refine g_sub [(2, .ptr (enc_S_api_Image a_a0)), (3, .ptr (enc_S_api_Image b_a1)), (5, .int .i64 ((i_4 + 1 : Nat) : Int))] (Sub.cons' rfl (Sub.cons' rfl (Sub.cons' rfl (Sub.nil _)))) ?_
           exact IH0 _ _ _ (by omega) ⟨(i_4 + 1), rfl, rfl, rfl, (by omega), hr⟩

noncomputable def lf_constraintlaw32_InstrSame_L2 (k : Option (Bool)) (q_18 : S_api_Block) : List S_api_Instr → Nat → Option (Bool)
  | [], j_19 =>
  k
  | q_20 :: rest, j_19 =>
  (bif (decide ((j_19 : Int) < (q_18.f1_Code.length : Int))) then
  ((getI q_18.f1_Code (j_19 : Int)).bind fun q_22 =>
  ((lf_instr_Same q_20 q_22).bind fun r_23 =>
  ((lf_constraintref32_Same q_20 q_22).bind fun r_24 =>
  (bif (r_23 != r_24) then
  some (false)
  else
  (lf_constraintlaw32_InstrSame_L2 k q_18 rest (j_19 + 1))))))
  else
  k)

noncomputable def lf_constraintlaw32_InstrSame_L1 (k : Option (Bool)) (b_a1 : S_api_Image) (i_10 : Nat) : List S_api_Block → Nat → Option (Bool)
  | [], k_14 =>
  k
  | q_15 :: rest, k_14 =>
  ((getI b_a1.f0_Units (i_10 : Int)).bind fun q_16 =>
  (bif (decide ((k_14 : Int) < (q_16.f2_Blocks.length : Int))) then
  ((getI q_16.f2_Blocks (k_14 : Int)).bind fun q_18 =>
  (lf_constraintlaw32_InstrSame_L2 ((lf_constraintlaw32_InstrSame_L1 k b_a1 i_10 rest (k_14 + 1))) q_18 q_15.f1_Code 0))
  else
  k))

noncomputable def lf_constraintlaw32_InstrSame_L0 (k : Option (Bool)) (b_a1 : S_api_Image) : List S_api_Unit → Nat → Option (Bool)
  | [], i_10 =>
  k
  | q_12 :: rest, i_10 =>
  (bif (decide ((i_10 : Int) < (b_a1.f0_Units.length : Int))) then
  (lf_constraintlaw32_InstrSame_L1 ((lf_constraintlaw32_InstrSame_L0 k b_a1 rest (i_10 + 1))) b_a1 i_10 q_12.f2_Blocks 0)
  else
  k)
noncomputable def lf_constraintlaw32_InstrSame (a_a0 : S_api_Image) (b_a1 : S_api_Image) : Option (Bool) :=
  ((lf_constraintref32_GreatImage a_a0 300).bind fun r_1 =>
  (bif r_1 then
  some (true)
  else
  ((lf_constraintref32_GreatImage b_a1 300).bind fun r_3 =>
  (bif r_3 then
  some (true)
  else
  ((lf_instr_SameImage a_a0 b_a1).bind fun r_5 =>
  ((lf_constraintref32_SameImage a_a0 b_a1).bind fun r_6 =>
  (bif (r_5 != r_6) then
  some (false)
  else
  ((lf_instr_SameImage a_a0 a_a0).bind fun r_8 =>
  (bif (!r_8) then
  some (false)
  else
  (lf_constraintlaw32_InstrSame_L0 ((lf_constraintlaw32_live.bind fun r_11 =>
  some (r_11))) b_a1 a_a0.f0_Units 0))))))))))

set_option maxHeartbeats 1000000 in
theorem lg_constraintlaw32_InstrSame (a_a0 : S_api_Image) (b_a1 : S_api_Image) (res : Bool) (hr : lf_constraintlaw32_InstrSame a_a0 b_a1 = some res) : Gives Try.prog 4 [enc_S_api_Image a_a0, enc_S_api_Image b_a1] (.bool res) := by
  unfold lf_constraintlaw32_InstrSame at hr
  refine spec_env [(0, enc_S_api_Image a_a0), (1, enc_S_api_Image b_a1)] Try.func4 rfl rfl fun K hK => ?_
  refine g_seq ?_
  refine g_run (by kernel_rfl) [(0, .d), (1, .d), (2, .d)] rfl ?_
  refine r_d rfl rfl rfl (s_box rfl rfl rfl) ?_
  refine r_d rfl rfl rfl (s_box rfl rfl rfl) ?_
  refine r_d rfl rfl rfl (s_assign rfl rfl) ?_
  refine r_end ?_
  refine g_seq ?_
  refine g_seq ?_
  refine g_run (by kernel_rfl) [(0, .d), (1, .d), (2, .d), (3, .d), (4, .d), (5, .d)] rfl ?_
  refine r_d rfl rfl rfl (s_load rfl rfl (by exact ty_api_Image) (sz_S_api_Image _)) ?_
  obtain ⟨r_1, hr_1, hr⟩ := bindS hr
  refine r_d rfl rfl rfl (s_callD rfl cl_constraintref32_GreatImage (.cons rfl (Wk.refl _) (.cons rfl (Wk.refl _) .nil)) (lg_constraintref32_GreatImage _ _ _ hr_1)) ?_
  refine r_d rfl rfl rfl (s_move rfl rfl) ?_
  refine r_sB 12 rfl hr (fun h12_1 hr => ?_) (fun h12_1 hr => ?_)
  ·
   refine r_skip rfl rfl rfl ?_
   refine r_skip rfl rfl rfl ?_
   refine r_d rfl rfl rfl (s_pickT rfl rfl rfl) ?_
   refine r_end ?_
   refine g_condT rfl ?_
   refine g_seq ?_
   refine g_run (by kernel_rfl) [(0, .d)] rfl ?_
   refine r_d rfl rfl rfl (s_assign rfl rfl) ?_
   refine r_end ?_
   obtain rfl := Option.some.inj hr
   refine g_ret Try.func4 _ (.cons (resTmp rfl (Wk.refl _)) .nil) ?_
   rfl
  ·
   refine r_d rfl rfl rfl (s_load rfl rfl (by exact ty_api_Image) (sz_S_api_Image _)) ?_
   obtain ⟨r_3, hr_3, hr⟩ := bindS hr
   refine r_d rfl rfl rfl (s_callD rfl cl_constraintref32_GreatImage (.cons rfl (Wk.refl _) (.cons rfl (Wk.refl _) .nil)) (lg_constraintref32_GreatImage _ _ _ hr_3)) ?_
   refine r_d rfl rfl rfl (s_pickF rfl rfl rfl) ?_
   refine r_end ?_
   refine g_sB 15 rfl hr (fun h15_3 hr => ?_) (fun h15_3 hr => ?_)
   ·
    refine g_condT rfl ?_
    refine g_seq ?_
    refine g_run (by kernel_rfl) [(0, .d)] rfl ?_
    refine r_d rfl rfl rfl (s_assign rfl rfl) ?_
    refine r_end ?_
    obtain rfl := Option.some.inj hr
    refine g_ret Try.func4 _ (.cons (resTmp rfl (Wk.refl _)) .nil) ?_
    rfl
   ·
    refine g_condF rfl ?_
    refine g_skip ?_
    refine g_seq ?_
    refine g_seq ?_
    refine g_any (by kernel_rfl) (by kernel_rfl) [(0, .d), (1, .d), (2, .d), (3, .d), (4, .d), (5, .d), (6, .d), (7, .d), (8, .d), (9, .d), (10, .d), (11, .d), (12, .d)] (by kernel_rfl) ?_
    refine r_d rfl rfl rfl (s_load rfl rfl (by exact ty_api_Image) (sz_S_api_Image _)) ?_
    refine r_d rfl rfl rfl (s_load rfl rfl (by exact ty_api_Image) (sz_S_api_Image _)) ?_
    obtain ⟨r_5, hr_5, hr⟩ := bindS hr
    refine r_d rfl rfl rfl (s_callD rfl cl_instr_SameImage (.cons rfl (Wk.refl _) (.cons rfl (Wk.refl _) .nil)) (lg_instr_SameImage _ _ _ hr_5)) ?_
    refine r_d rfl rfl rfl (s_load rfl rfl (by exact ty_api_Image) (sz_S_api_Image _)) ?_
    refine r_d rfl rfl rfl (s_load rfl rfl (by exact ty_api_Image) (sz_S_api_Image _)) ?_
    obtain ⟨r_6, hr_6, hr⟩ := bindS hr
    refine r_d rfl rfl rfl (s_callD rfl cl_constraintref32_SameImage (.cons rfl (Wk.refl _) (.cons rfl (Wk.refl _) .nil)) (lg_constraintref32_SameImage _ _ _ hr_6)) ?_
    refine r_d rfl rfl rfl (s_neqB rfl Try.underlying4 rfl rfl) ?_
    refine r_d rfl rfl rfl (s_move rfl rfl) ?_
    refine r_sB 23 rfl hr (fun h23_6 hr => ?_) (fun h23_6 hr => ?_)
    ·
     refine r_skip rfl rfl rfl ?_
     refine r_skip rfl rfl rfl ?_
     refine r_skip rfl rfl rfl ?_
     refine r_skip rfl rfl rfl ?_
     refine r_d rfl rfl rfl (s_pickT rfl rfl rfl) ?_
     refine r_end ?_
     refine g_condT rfl ?_
     refine g_seq ?_
     refine g_run (by kernel_rfl) [(0, .d)] rfl ?_
     refine r_d rfl rfl rfl (s_assign rfl rfl) ?_
     refine r_end ?_
     obtain rfl := Option.some.inj hr
     refine g_ret Try.func4 _ (.cons (resTmp rfl (Wk.refl _)) .nil) ?_
     rfl
    ·
     refine r_d rfl rfl rfl (s_load rfl rfl (by exact ty_api_Image) (sz_S_api_Image _)) ?_
     refine r_d rfl rfl rfl (s_load rfl rfl (by exact ty_api_Image) (sz_S_api_Image _)) ?_
     obtain ⟨r_8, hr_8, hr⟩ := bindS hr
     refine r_d rfl rfl rfl (s_callD rfl cl_instr_SameImage (.cons rfl (Wk.refl _) (.cons rfl (Wk.refl _) .nil)) (lg_instr_SameImage _ _ _ hr_8)) ?_
     refine r_d rfl rfl rfl (s_not rfl rfl) ?_
     refine r_d rfl rfl rfl (s_pickF rfl rfl rfl) ?_
     refine r_end ?_
     refine g_sB 28 rfl hr (fun h28_8 hr => ?_) (fun h28_8 hr => ?_)
     ·
      refine g_condT rfl ?_
      refine g_seq ?_
      refine g_run (by kernel_rfl) [(0, .d)] rfl ?_
      refine r_d rfl rfl rfl (s_assign rfl rfl) ?_
      refine r_end ?_
      obtain rfl := Option.some.inj hr
      refine g_ret Try.func4 _ (.cons (resTmp rfl (Wk.refl _)) .nil) ?_
      rfl
     ·
      refine g_condF rfl ?_
      refine g_skip ?_
      refine g_seq ?_
      refine g_seq ?_
      refine g_run (by kernel_rfl) [(0, .d)] rfl ?_
      refine r_d rfl rfl rfl (s_assign rfl rfl) ?_
      refine r_end ?_
      obtain ⟨kk0, hkk0, hr⟩ := exK (fun k => lf_constraintlaw32_InstrSame_L0 k b_a1 a_a0.f0_Units 0) hr
      refine g_lenS 0 [0] (l := a_a0.f0_Units.map enc_S_api_Unit) rfl rfl (asl rfl) fun hla0 => ?_
      simp only [List.length_map] at hla0
      refine g_blockJ (fun env σ => env = [] ∧ σ = [] ∧ kk0 = some res) ?_ (fun HK0 => ?_)
      ·
       rintro _ _ ⟨rfl, rfl, hr⟩
       rw [hkk0] at hr
       refine g_seq ?_
       refine g_run (by kernel_rfl) [(0, .d), (1, .d)] rfl ?_
       obtain ⟨r_11, hr_11, hr⟩ := bindS hr
       refine r_d rfl rfl rfl (s_callD rfl cl_constraintlaw32_live .nil (lg_constraintlaw32_live _ hr_11)) ?_
       refine r_d rfl rfl rfl (s_assign rfl rfl) ?_
       refine r_end ?_
       obtain rfl := Option.some.inj hr
       refine g_ret Try.func4 _ (.cons (resTmp rfl (Wk.refl _)) .nil) ?_
       rfl
      ·
       refine g_sub [(2, .ptr (enc_S_api_Image a_a0)), (3, .ptr (enc_S_api_Image b_a1)), (5, .int .i64 ((0 : Nat) : Int))] (Sub.cons' rfl (Sub.cons' rfl (Sub.cons' rfl (Sub.nil _)))) ?_
       refine g_loop (fun n env σ => ∃ (i_10 : Nat), (n = a_a0.f0_Units.length - i_10) ∧ (env = [(2, .ptr (enc_S_api_Image a_a0)), (3, .ptr (enc_S_api_Image b_a1)), (5, .int .i64 (i_10 : Int))]) ∧ (σ = []) ∧ (i_10 ≤ a_a0.f0_Units.length) ∧ (lf_constraintlaw32_InstrSame_L0 kk0 b_a1 (a_a0.f0_Units.drop i_10) i_10 = some res)) _ ⟨0, rfl, rfl, rfl, Nat.zero_le _, hr⟩ ?_
       rintro n _ _ ⟨i_10, rfl, rfl, rfl, hi0, hr⟩ IH0
       rcases listStep a_a0.f0_Units i_10 hi0 with ⟨ht0, hd0, he0⟩ | ⟨q_12, ht0, hd0, hq0, hlt0⟩
       ·
        rw [hd0, lf_constraintlaw32_InstrSame_L0] at hr
        refine g_seq ?_
        refine g_seq ?_
        refine g_run (by kernel_rfl) [(0, .d), (1, .d), (2, .d), (3, .d), (4, .d), (5, .d), (6, .d), (7, .d), (8, .d), (9, .d), (10, .d), (11, .d)] rfl ?_
        refine r_d rfl rfl rfl (s_move rfl rfl) ?_
        refine r_d rfl rfl rfl (s_fieldAddr rfl fl_api_Image_0 rfl rfl rfl rfl) ?_
        refine r_d rfl rfl rfl (s_load rfl rfl (by exact ty_L_api_Unit) rfl) ?_
        refine r_d rfl rfl rfl (m_len (f := enc_S_api_Unit) a_a0.f0_Units rfl el_L_api_Unit rfl (asl rfl)) ?_
        refine r_d rfl rfl rfl (s_cmp rfl rfl rfl rfl) ?_
        refine r_d rfl rfl rfl (s_move rfl rfl) ?_
        refine r_known 34 false rfl ht0 ?_
        refine r_skip rfl rfl rfl ?_
        refine r_skip rfl rfl rfl ?_
        refine r_skip rfl rfl rfl ?_
        refine r_skip rfl rfl rfl ?_
        refine r_skip rfl rfl rfl ?_
        refine r_d rfl rfl rfl (s_pickF rfl rfl rfl) ?_
        refine r_end ?_
        refine g_condF rfl ?_
        refine g_exit rfl ?_
        refine g_sub [] (Sub.nil _) ?_
        exact HK0 _ _ ⟨rfl, rfl, hr⟩
       ·
        rw [hd0, lf_constraintlaw32_InstrSame_L0] at hr
        refine g_seq ?_
        refine g_seq ?_
        refine g_run (by kernel_rfl) [(0, .d), (1, .d), (2, .d), (3, .d), (4, .d), (5, .d), (6, .d), (7, .d), (8, .d), (9, .d), (10, .d), (11, .d)] rfl ?_
        refine r_d rfl rfl rfl (s_move rfl rfl) ?_
        refine r_d rfl rfl rfl (s_fieldAddr rfl fl_api_Image_0 rfl rfl rfl rfl) ?_
        refine r_d rfl rfl rfl (s_load rfl rfl (by exact ty_L_api_Unit) rfl) ?_
        refine r_d rfl rfl rfl (m_len (f := enc_S_api_Unit) a_a0.f0_Units rfl el_L_api_Unit rfl (asl rfl)) ?_
        refine r_d rfl rfl rfl (s_cmp rfl rfl rfl rfl) ?_
        refine r_d rfl rfl rfl (s_move rfl rfl) ?_
        refine r_known 34 true rfl ht0 ?_
        refine r_d rfl rfl rfl (s_move rfl rfl) ?_
        refine r_d rfl rfl rfl (s_fieldAddr rfl fl_api_Image_0 rfl rfl rfl rfl) ?_
        refine r_d rfl rfl rfl (s_load rfl rfl (by exact ty_L_api_Unit) rfl) ?_
        refine r_d rfl rfl rfl (m_len (f := enc_S_api_Unit) b_a1.f0_Units rfl el_L_api_Unit rfl (asl rfl)) ?_
        refine r_d rfl rfl rfl (s_cmp rfl rfl rfl rfl) ?_
        refine r_d rfl rfl rfl (s_pickT rfl rfl rfl) ?_
        refine r_end ?_
        refine g_sB 40 rfl hr (fun h40_12 hr => ?_) (fun h40_12 hr => ?_)
        ·
         refine g_condT rfl ?_
         refine g_skip ?_
         refine g_seq ?_
         refine g_block ?_
         refine g_seq ?_
         refine g_run (by kernel_rfl) [(0, .d)] rfl ?_
         refine r_d rfl rfl rfl (s_assign rfl rfl) ?_
         refine r_end ?_
         obtain ⟨kk1, hkk1, hr⟩ := exK (fun k => lf_constraintlaw32_InstrSame_L1 k b_a1 i_10 q_12.f2_Blocks 0) hr
         refine g_lenI 31 (l := q_12.f2_Blocks.map enc_S_api_Block) rfl (.sub (.el .refl (asl rfl) (List.mem_map_of_mem (getI_mem hq0))) [2] rfl) (asl rfl) fun hla1 => ?_
         simp only [List.length_map] at hla1
         refine g_blockJ (fun env σ => env = [(2, .ptr (enc_S_api_Image a_a0)), (3, .ptr (enc_S_api_Image b_a1)), (5, .int .i64 (i_10 : Int))] ∧ σ = [] ∧ kk1 = some res) ?_ (fun HK1 => ?_)
         ·
          rintro _ _ ⟨rfl, rfl, hr⟩
          rw [hkk1] at hr
          refine g_inBlock ?_
          refine g_run (by kernel_rfl) [(0, .d), (1, .d), (2, .d)] rfl ?_
          refine r_d rfl rfl rfl (s_move rfl rfl) ?_
          refine r_d rfl rfl rfl (s_ar (r := ((i_10 + 1 : Nat) : Int)) rfl rfl rfl (by simp [iar]) (by omega)) ?_
          refine r_d rfl rfl rfl (s_assign rfl rfl) ?_
          refine r_end ?_
          refine g_sub [(2, .ptr (enc_S_api_Image a_a0)), (3, .ptr (enc_S_api_Image b_a1)), (5, .int .i64 ((i_10 + 1 : Nat) : Int))] (Sub.cons' rfl (Sub.cons' rfl (Sub.cons' rfl (Sub.nil _)))) ?_
          exact IH0 _ _ _ (by omega) ⟨(i_10 + 1), rfl, rfl, rfl, (by omega), hr⟩
         ·
          refine g_sub [(2, .ptr (enc_S_api_Image a_a0)), (3, .ptr (enc_S_api_Image b_a1)), (5, .int .i64 ((i_10 : Nat) : Int)), (6, .int .i64 ((0 : Nat) : Int))] (Sub.cons' rfl (Sub.cons' rfl (Sub.cons' rfl (Sub.cons' rfl (Sub.nil _))))) ?_
          refine g_loop (fun n env σ => ∃ (k_14 : Nat), (n = q_12.f2_Blocks.length - k_14) ∧ (env = [(2, .ptr (enc_S_api_Image a_a0)), (3, .ptr (enc_S_api_Image b_a1)), (5, .int .i64 (i_10 : Int)), (6, .int .i64 (k_14 : Int))]) ∧ (σ = []) ∧ (k_14 ≤ q_12.f2_Blocks.length) ∧ (lf_constraintlaw32_InstrSame_L1 kk1 b_a1 i_10 (q_12.f2_Blocks.drop k_14) k_14 = some res)) _ ⟨0, rfl, rfl, rfl, Nat.zero_le _, hr⟩ ?_
          rintro n _ _ ⟨k_14, rfl, rfl, rfl, hi1, hr⟩ IH1
          rcases listStep q_12.f2_Blocks k_14 hi1 with ⟨ht1, hd1, he1⟩ | ⟨q_15, ht1, hd1, hq1, hlt1⟩
          ·
           rw [hd1, lf_constraintlaw32_InstrSame_L1] at hr
           refine g_seq ?_
           refine g_seq ?_
           refine g_run (by kernel_rfl) [(0, .d), (1, .d), (2, .d), (3, .d), (4, .d), (5, .d), (6, .d), (7, .d), (8, .d), (9, .d), (10, .d), (11, .d), (12, .d), (13, .d), (14, .d), (15, .d), (16, .d), (17, .d), (18, .d), (19, .d)] rfl ?_
           refine r_d rfl rfl rfl (s_move rfl rfl) ?_
           refine r_d rfl rfl rfl (s_fieldAddr rfl fl_api_Image_0 rfl rfl rfl rfl) ?_
           refine r_d rfl rfl rfl (s_load rfl rfl (by exact ty_L_api_Unit) rfl) ?_
           refine r_d rfl rfl rfl (s_move rfl rfl) ?_
           refine r_d rfl rfl rfl (m_index (f := enc_S_api_Unit) a_a0.f0_Units rfl el_L_api_Unit rfl (asl rfl) rfl hq0 sz_S_api_Unit rfl) ?_
           refine r_d rfl rfl rfl (s_fieldAddr rfl fl_api_Unit_2 rfl rfl rfl rfl) ?_
           refine r_d rfl rfl rfl (s_load rfl rfl (by exact ty_L_api_Block) rfl) ?_
           refine r_d rfl rfl rfl (m_len (f := enc_S_api_Block) q_12.f2_Blocks rfl el_L_api_Block rfl (asl rfl)) ?_
           refine r_d rfl rfl rfl (s_cmp rfl rfl rfl rfl) ?_
           refine r_d rfl rfl rfl (s_move rfl rfl) ?_
           refine r_known 52 false rfl ht1 ?_
           refine r_skip rfl rfl rfl ?_
           refine r_skip rfl rfl rfl ?_
           refine r_skip rfl rfl rfl ?_
           refine r_skip rfl rfl rfl ?_
           refine r_skip rfl rfl rfl ?_
           refine r_skip rfl rfl rfl ?_
           refine r_skip rfl rfl rfl ?_
           refine r_skip rfl rfl rfl ?_
           refine r_skip rfl rfl rfl ?_
           refine r_d rfl rfl rfl (s_pickF rfl rfl rfl) ?_
           refine r_end ?_
           refine g_condF rfl ?_
           refine g_exit rfl ?_
           refine g_sub [(2, .ptr (enc_S_api_Image a_a0)), (3, .ptr (enc_S_api_Image b_a1)), (5, .int .i64 (i_10 : Int))] (Sub.cons' rfl (Sub.cons' rfl (Sub.cons' rfl (Sub.nil _)))) ?_
           exact HK1 _ _ ⟨rfl, rfl, hr⟩
          ·
           rw [hd1, lf_constraintlaw32_InstrSame_L1] at hr
           refine g_seq ?_
           refine g_seq ?_
           refine g_run (by kernel_rfl) [(0, .d), (1, .d), (2, .d), (3, .d), (4, .d), (5, .d), (6, .d), (7, .d), (8, .d), (9, .d), (10, .d), (11, .d), (12, .d), (13, .d), (14, .d), (15, .d), (16, .d), (17, .d), (18, .d), (19, .d)] rfl ?_
           refine r_d rfl rfl rfl (s_move rfl rfl) ?_
           refine r_d rfl rfl rfl (s_fieldAddr rfl fl_api_Image_0 rfl rfl rfl rfl) ?_
           refine r_d rfl rfl rfl (s_load rfl rfl (by exact ty_L_api_Unit) rfl) ?_
           refine r_d rfl rfl rfl (s_move rfl rfl) ?_
           refine r_d rfl rfl rfl (m_index (f := enc_S_api_Unit) a_a0.f0_Units rfl el_L_api_Unit rfl (asl rfl) rfl hq0 sz_S_api_Unit rfl) ?_
           refine r_d rfl rfl rfl (s_fieldAddr rfl fl_api_Unit_2 rfl rfl rfl rfl) ?_
           refine r_d rfl rfl rfl (s_load rfl rfl (by exact ty_L_api_Block) rfl) ?_
           refine r_d rfl rfl rfl (m_len (f := enc_S_api_Block) q_12.f2_Blocks rfl el_L_api_Block rfl (asl rfl)) ?_
           refine r_d rfl rfl rfl (s_cmp rfl rfl rfl rfl) ?_
           refine r_d rfl rfl rfl (s_move rfl rfl) ?_
           refine r_known 52 true rfl ht1 ?_
           refine r_d rfl rfl rfl (s_move rfl rfl) ?_
           refine r_d rfl rfl rfl (s_fieldAddr rfl fl_api_Image_0 rfl rfl rfl rfl) ?_
           refine r_d rfl rfl rfl (s_load rfl rfl (by exact ty_L_api_Unit) rfl) ?_
           refine r_d rfl rfl rfl (s_move rfl rfl) ?_
           obtain ⟨q_16, hq_16, hr⟩ := bindS hr
           refine r_d rfl rfl rfl (m_index (f := enc_S_api_Unit) b_a1.f0_Units rfl el_L_api_Unit rfl (asl rfl) rfl hq_16 sz_S_api_Unit rfl) ?_
           refine r_d rfl rfl rfl (s_fieldAddr rfl fl_api_Unit_2 rfl rfl rfl rfl) ?_
           refine r_d rfl rfl rfl (s_load rfl rfl (by exact ty_L_api_Block) rfl) ?_
           refine r_d rfl rfl rfl (m_len (f := enc_S_api_Block) q_16.f2_Blocks rfl el_L_api_Block rfl (asl rfl)) ?_
           refine r_d rfl rfl rfl (s_cmp rfl rfl rfl rfl) ?_
           refine r_d rfl rfl rfl (s_pickT rfl rfl rfl) ?_
           refine r_end ?_
           refine g_sB 62 rfl hr (fun h62_16 hr => ?_) (fun h62_16 hr => ?_)
           ·
            refine g_condT rfl ?_
            refine g_skip ?_
            refine g_seq ?_
            refine g_block ?_
            refine g_seq ?_
            refine g_any (by kernel_rfl) (by kernel_rfl) [(0, .d), (1, .d), (2, .d), (3, .d), (4, .d), (5, .d), (6, .d), (7, .d), (8, .d), (9, .d), (10, .d), (11, .d), (12, .d), (13, .d), (14, .d), (15, .d), (16, .d), (17, .d), (18, .d), (19, .d), (20, .d), (21, .d)] (by kernel_rfl) ?_
            refine r_d rfl rfl rfl (s_fieldAddr rfl fl_api_Image_0 rfl rfl rfl rfl) ?_
            refine r_d rfl rfl rfl (s_load rfl rfl (by exact ty_L_api_Unit) rfl) ?_
            refine r_d rfl rfl rfl (s_move rfl rfl) ?_
            refine r_d rfl rfl rfl (m_index (f := enc_S_api_Unit) a_a0.f0_Units rfl el_L_api_Unit rfl (asl rfl) rfl hq0 sz_S_api_Unit rfl) ?_
            refine r_d rfl rfl rfl (s_fieldAddr rfl fl_api_Unit_2 rfl rfl rfl rfl) ?_
            refine r_d rfl rfl rfl (s_load rfl rfl (by exact ty_L_api_Block) rfl) ?_
            refine r_d rfl rfl rfl (s_move rfl rfl) ?_
            refine r_d rfl rfl rfl (m_index (f := enc_S_api_Block) q_12.f2_Blocks rfl el_L_api_Block rfl (asl rfl) rfl hq1 sz_S_api_Block rfl) ?_
            refine r_d rfl rfl rfl (s_fieldAddr rfl fl_api_Block_1 rfl rfl (by simp [szs, sz, sz_S_api_Occ]) rfl) ?_
            refine r_d rfl rfl rfl (s_load rfl rfl (by exact ty_L_api_Instr) rfl) ?_
            refine r_d rfl rfl rfl (s_fieldAddr rfl fl_api_Image_0 rfl rfl rfl rfl) ?_
            refine r_d rfl rfl rfl (s_load rfl rfl (by exact ty_L_api_Unit) rfl) ?_
            refine r_d rfl rfl rfl (s_move rfl rfl) ?_
            refine r_d rfl rfl rfl (m_index (f := enc_S_api_Unit) b_a1.f0_Units rfl el_L_api_Unit rfl (asl rfl) rfl hq_16 sz_S_api_Unit rfl) ?_
            refine r_d rfl rfl rfl (s_fieldAddr rfl fl_api_Unit_2 rfl rfl rfl rfl) ?_
            refine r_d rfl rfl rfl (s_load rfl rfl (by exact ty_L_api_Block) rfl) ?_
            refine r_d rfl rfl rfl (s_move rfl rfl) ?_
            obtain ⟨q_18, hq_18, hr⟩ := bindS hr
            refine r_d rfl rfl rfl (m_index (f := enc_S_api_Block) q_16.f2_Blocks rfl el_L_api_Block rfl (asl rfl) rfl hq_18 sz_S_api_Block rfl) ?_
            refine r_d rfl rfl rfl (s_fieldAddr rfl fl_api_Block_1 rfl rfl (by simp [szs, sz, sz_S_api_Occ]) rfl) ?_
            refine r_d rfl rfl rfl (s_load rfl rfl (by exact ty_L_api_Instr) rfl) ?_
            refine r_d rfl rfl rfl (s_assign rfl rfl) ?_
            refine r_d rfl rfl rfl (s_assign rfl rfl) ?_
            refine r_end ?_
            refine g_seq ?_
            refine g_run (by kernel_rfl) [(0, .d)] rfl ?_
            refine r_d rfl rfl rfl (s_assign rfl rfl) ?_
            refine r_end ?_
            obtain ⟨kk2, hkk2, hr⟩ := exK (fun k => lf_constraintlaw32_InstrSame_L2 k q_18 q_15.f1_Code 0) hr
            refine g_len 74 rfl (asl rfl) fun hla2 => ?_
            simp only [List.length_map] at hla2
            refine g_blockJ (fun env σ => env = [(2, .ptr (enc_S_api_Image a_a0)), (3, .ptr (enc_S_api_Image b_a1)), (5, .int .i64 (i_10 : Int)), (6, .int .i64 (k_14 : Int))] ∧ σ = [] ∧ kk2 = some res) ?_ (fun HK2 => ?_)
            ·
             rintro _ _ ⟨rfl, rfl, hr⟩
             rw [hkk2] at hr
             refine g_inBlock ?_
             refine g_run (by kernel_rfl) [(0, .d), (1, .d), (2, .d)] rfl ?_
             refine r_d rfl rfl rfl (s_move rfl rfl) ?_
             refine r_d rfl rfl rfl (s_ar (r := ((k_14 + 1 : Nat) : Int)) rfl rfl rfl (by simp [iar]) (by omega)) ?_
             refine r_d rfl rfl rfl (s_assign rfl rfl) ?_
             refine r_end ?_
             refine g_sub [(2, .ptr (enc_S_api_Image a_a0)), (3, .ptr (enc_S_api_Image b_a1)), (5, .int .i64 ((i_10 : Nat) : Int)), (6, .int .i64 ((k_14 + 1 : Nat) : Int))] (Sub.cons' rfl (Sub.cons' rfl (Sub.cons' rfl (Sub.cons' rfl (Sub.nil _))))) ?_
             exact IH1 _ _ _ (by omega) ⟨(k_14 + 1), rfl, rfl, rfl, (by omega), hr⟩
            ·
             refine g_sub [(2, .ptr (enc_S_api_Image a_a0)), (3, .ptr (enc_S_api_Image b_a1)), (5, .int .i64 ((i_10 : Nat) : Int)), (6, .int .i64 ((k_14 : Nat) : Int)), (7, .lst (q_15.f1_Code.map enc_S_api_Instr)), (8, .lst (q_18.f1_Code.map enc_S_api_Instr)), (9, .int .i64 ((0 : Nat) : Int))] (Sub.cons' rfl (Sub.cons' rfl (Sub.cons' rfl (Sub.cons' rfl (Sub.cons' rfl (Sub.cons' rfl (Sub.cons' rfl (Sub.nil _)))))))) ?_
             refine g_loop (fun n env σ => ∃ (j_19 : Nat), (n = q_15.f1_Code.length - j_19) ∧ (env = [(2, .ptr (enc_S_api_Image a_a0)), (3, .ptr (enc_S_api_Image b_a1)), (5, .int .i64 (i_10 : Int)), (6, .int .i64 (k_14 : Int)), (7, .lst (q_15.f1_Code.map enc_S_api_Instr)), (8, .lst (q_18.f1_Code.map enc_S_api_Instr)), (9, .int .i64 (j_19 : Int))]) ∧ (σ = []) ∧ (j_19 ≤ q_15.f1_Code.length) ∧ (lf_constraintlaw32_InstrSame_L2 kk2 q_18 (q_15.f1_Code.drop j_19) j_19 = some res)) _ ⟨0, rfl, rfl, rfl, Nat.zero_le _, hr⟩ ?_
             rintro n _ _ ⟨j_19, rfl, rfl, rfl, hi2, hr⟩ IH2
             rcases listStep q_15.f1_Code j_19 hi2 with ⟨ht2, hd2, he2⟩ | ⟨q_20, ht2, hd2, hq2, hlt2⟩
             ·
              rw [hd2, lf_constraintlaw32_InstrSame_L2] at hr
              refine g_seq ?_
              refine g_seq ?_
              refine g_run (by kernel_rfl) [(0, .d), (1, .d), (2, .d), (3, .d), (4, .d), (5, .d), (6, .d), (7, .d), (8, .d), (9, .d)] rfl ?_
              refine r_d rfl rfl rfl (s_move rfl rfl) ?_
              refine r_d rfl rfl rfl (s_move rfl rfl) ?_
              refine r_d rfl rfl rfl (m_len (f := enc_S_api_Instr) q_15.f1_Code rfl el_L_api_Instr rfl (asl rfl)) ?_
              refine r_d rfl rfl rfl (s_cmp rfl rfl rfl rfl) ?_
              refine r_d rfl rfl rfl (s_move rfl rfl) ?_
              refine r_known 89 false rfl ht2 ?_
              refine r_skip rfl rfl rfl ?_
              refine r_skip rfl rfl rfl ?_
              refine r_skip rfl rfl rfl ?_
              refine r_skip rfl rfl rfl ?_
              refine r_d rfl rfl rfl (s_pickF rfl rfl rfl) ?_
              refine r_end ?_
              refine g_condF rfl ?_
              refine g_exit rfl ?_
              refine g_sub [(2, .ptr (enc_S_api_Image a_a0)), (3, .ptr (enc_S_api_Image b_a1)), (5, .int .i64 (i_10 : Int)), (6, .int .i64 (k_14 : Int))] (Sub.cons' rfl (Sub.cons' rfl (Sub.cons' rfl (Sub.cons' rfl (Sub.nil _))))) ?_
              exact HK2 _ _ ⟨rfl, rfl, hr⟩
             ·
              rw [hd2, lf_constraintlaw32_InstrSame_L2] at hr
              refine g_seq ?_
              refine g_seq ?_
              refine g_run (by kernel_rfl) [(0, .d), (1, .d), (2, .d), (3, .d), (4, .d), (5, .d), (6, .d), (7, .d), (8, .d), (9, .d)] rfl ?_
              refine r_d rfl rfl rfl (s_move rfl rfl) ?_
              refine r_d rfl rfl rfl (s_move rfl rfl) ?_
              refine r_d rfl rfl rfl (m_len (f := enc_S_api_Instr) q_15.f1_Code rfl el_L_api_Instr rfl (asl rfl)) ?_
              refine r_d rfl rfl rfl (s_cmp rfl rfl rfl rfl) ?_
              refine r_d rfl rfl rfl (s_move rfl rfl) ?_
              refine r_known 89 true rfl ht2 ?_
              refine r_d rfl rfl rfl (s_move rfl rfl) ?_
              refine r_d rfl rfl rfl (s_move rfl rfl) ?_
              refine r_d rfl rfl rfl (m_len (f := enc_S_api_Instr) q_18.f1_Code rfl el_L_api_Instr rfl (asl rfl)) ?_
              refine r_d rfl rfl rfl (s_cmp rfl rfl rfl rfl) ?_
              refine r_d rfl rfl rfl (s_pickT rfl rfl rfl) ?_
              refine r_end ?_
              refine g_sB 94 rfl hr (fun h94_20 hr => ?_) (fun h94_20 hr => ?_)
              ·
               refine g_condT rfl ?_
               refine g_skip ?_
               refine g_seq ?_
               refine g_block ?_
               refine g_seq ?_
               refine g_any (by kernel_rfl) (by kernel_rfl) [(0, .d), (1, .d), (2, .d), (3, .d), (4, .d), (5, .d), (6, .d), (7, .d), (8, .d), (9, .d), (10, .d), (11, .d), (12, .d), (13, .d), (14, .d), (15, .d), (16, .d), (17, .d), (18, .d)] (by kernel_rfl) ?_
               refine r_d rfl rfl rfl (s_move rfl rfl) ?_
               refine r_d rfl rfl rfl (s_move rfl rfl) ?_
               refine r_d rfl rfl rfl (m_index (f := enc_S_api_Instr) q_15.f1_Code rfl el_L_api_Instr rfl (asl rfl) rfl hq2 sz_S_api_Instr rfl) ?_
               refine r_d rfl rfl rfl (s_load rfl rfl (by exact ty_api_Instr) (sz_S_api_Instr _)) ?_
               refine r_d rfl rfl rfl (s_move rfl rfl) ?_
               refine r_d rfl rfl rfl (s_move rfl rfl) ?_
               obtain ⟨q_22, hq_22, hr⟩ := bindS hr
               refine r_d rfl rfl rfl (m_index (f := enc_S_api_Instr) q_18.f1_Code rfl el_L_api_Instr rfl (asl rfl) rfl hq_22 sz_S_api_Instr rfl) ?_
               refine r_d rfl rfl rfl (s_load rfl rfl (by exact ty_api_Instr) (sz_S_api_Instr _)) ?_
               obtain ⟨r_23, hr_23, hr⟩ := bindS hr
               refine r_d rfl rfl rfl (s_callD rfl cl_instr_Same (.cons rfl (Wk.refl _) (.cons rfl (Wk.refl _) .nil)) (lg_instr_Same _ _ _ hr_23)) ?_
               refine r_d rfl rfl rfl (s_move rfl rfl) ?_
               refine r_d rfl rfl rfl (s_move rfl rfl) ?_
               refine r_d rfl rfl rfl (m_index (f := enc_S_api_Instr) q_15.f1_Code rfl el_L_api_Instr rfl (asl rfl) rfl hq2 sz_S_api_Instr rfl) ?_
               refine r_d rfl rfl rfl (s_load rfl rfl (by exact ty_api_Instr) (sz_S_api_Instr _)) ?_
               refine r_d rfl rfl rfl (s_move rfl rfl) ?_
               refine r_d rfl rfl rfl (s_move rfl rfl) ?_
               refine r_d rfl rfl rfl (m_index (f := enc_S_api_Instr) q_18.f1_Code rfl el_L_api_Instr rfl (asl rfl) rfl hq_22 sz_S_api_Instr rfl) ?_
               refine r_d rfl rfl rfl (s_load rfl rfl (by exact ty_api_Instr) (sz_S_api_Instr _)) ?_
               obtain ⟨r_24, hr_24, hr⟩ := bindS hr
               refine r_d rfl rfl rfl (s_callD rfl cl_constraintref32_Same (.cons rfl (Wk.refl _) (.cons rfl (Wk.refl _) .nil)) (lg_constraintref32_Same _ _ _ hr_24)) ?_
               refine r_d rfl rfl rfl (s_neqB rfl Try.underlying4 rfl rfl) ?_
               refine r_end ?_
               refine g_sB 115 rfl hr (fun h115_24 hr => ?_) (fun h115_24 hr => ?_)
               ·
                refine g_condT rfl ?_
                refine g_seq ?_
                refine g_run (by kernel_rfl) [(0, .d)] rfl ?_
                refine r_d rfl rfl rfl (s_assign rfl rfl) ?_
                refine r_end ?_
                obtain rfl := Option.some.inj hr
                refine g_ret Try.func4 _ (.cons (resTmp rfl (Wk.refl _)) .nil) ?_
                rfl
               ·
                refine g_condF rfl ?_
                refine g_skip ?_
                refine g_inBlock ?_
                refine g_run (by kernel_rfl) [(0, .d), (1, .d), (2, .d)] rfl ?_
                refine r_d rfl rfl rfl (s_move rfl rfl) ?_
                refine r_d rfl rfl rfl (s_ar (r := ((j_19 + 1 : Nat) : Int)) rfl rfl rfl (by simp [iar]) (by omega)) ?_
                refine r_d rfl rfl rfl (s_assign rfl rfl) ?_
                refine r_end ?_
                refine g_sub [(2, .ptr (enc_S_api_Image a_a0)), (3, .ptr (enc_S_api_Image b_a1)), (5, .int .i64 ((i_10 : Nat) : Int)), (6, .int .i64 ((k_14 : Nat) : Int)), (7, .lst (q_15.f1_Code.map enc_S_api_Instr)), (8, .lst (q_18.f1_Code.map enc_S_api_Instr)), (9, .int .i64 ((j_19 + 1 : Nat) : Int))] (Sub.cons' rfl (Sub.cons' rfl (Sub.cons' rfl (Sub.cons' rfl (Sub.cons' rfl (Sub.cons' rfl (Sub.cons' rfl (Sub.nil _)))))))) ?_
                exact IH2 _ _ _ (by omega) ⟨(j_19 + 1), rfl, rfl, rfl, (by omega), hr⟩
              ·
               refine g_condF rfl ?_
               refine g_exit rfl ?_
               refine g_sub [(2, .ptr (enc_S_api_Image a_a0)), (3, .ptr (enc_S_api_Image b_a1)), (5, .int .i64 (i_10 : Int)), (6, .int .i64 (k_14 : Int))] (Sub.cons' rfl (Sub.cons' rfl (Sub.cons' rfl (Sub.cons' rfl (Sub.nil _))))) ?_
               exact HK2 _ _ ⟨rfl, rfl, hr⟩
           ·
            refine g_condF rfl ?_
            refine g_exit rfl ?_
            refine g_sub [(2, .ptr (enc_S_api_Image a_a0)), (3, .ptr (enc_S_api_Image b_a1)), (5, .int .i64 (i_10 : Int))] (Sub.cons' rfl (Sub.cons' rfl (Sub.cons' rfl (Sub.nil _)))) ?_
            exact HK1 _ _ ⟨rfl, rfl, hr⟩
        ·
         refine g_condF rfl ?_
         refine g_exit rfl ?_
         refine g_sub [] (Sub.nil _) ?_
         exact HK0 _ _ ⟨rfl, rfl, hr⟩

noncomputable def lf_constraintlaw32_InstrBound_L1 (k : Option (Bool)) (bound_16 : Bool) (bound_17 : Bool) (bound_18 : Bool) (bound_19 : Bool) : Nat → Int → Option (Bool)
  | 0, r_40 =>
  k
  | rest + 1, r_40 =>
  ((getI [bound_16, bound_17, bound_18, bound_19] r_40).bind fun q_41 =>
  (bif (!q_41) then
  some (false)
  else
  (lf_constraintlaw32_InstrBound_L1 k bound_16 bound_17 bound_18 bound_19 rest (r_40 + 1))))

noncomputable def lf_constraintlaw32_InstrBound_L2 (k : Option (Bool)) (bound_16 : Bool) (bound_17 : Bool) (bound_18 : Bool) (bound_19 : Bool) : Nat → Int → Option (Bool)
  | 0, r_44 =>
  k
  | rest + 1, r_44 =>
  ((getI [bound_16, bound_17, bound_18, bound_19] r_44).bind fun q_45 =>
  (bif (!q_45) then
  some (false)
  else
  (lf_constraintlaw32_InstrBound_L2 k bound_16 bound_17 bound_18 bound_19 rest (r_44 + 1))))

noncomputable def lf_constraintlaw32_InstrBound_L0 (k : Option (Bool)) (b_a0 : S_api_Block) : List S_api_Instr → Nat → Bool → Bool → Bool → Bool → Option (Bool)
  | [], i_15, bound_16, bound_17, bound_18, bound_19 =>
  k
  | q_20 :: rest, i_15, bound_16, bound_17, bound_18, bound_19 =>
  ((lf_instr_Right q_20).bind fun r_22 =>
  (bif (!r_22) then
  some (false)
  else
  (bif ((q_20.f0_Op == (10 : Int)) != ((i_15 : Int) == (wr ((b_a0.f1_Code.length : Int) - (1 : Int))))) then
  some (false)
  else
  (bif (q_20.f0_Op == (3 : Int)) then
  ((getI [bound_16, bound_17, bound_18, bound_19] q_20.f1_A).bind fun q_26 =>
  (bif q_26 then
  some (false)
  else
  (lf_constraintlaw32_InstrBound_L0 k b_a0 rest (i_15 + 1) (bif q_20.f1_A == 0 then true else bound_16) (bif q_20.f1_A == 1 then true else bound_17) (bif q_20.f1_A == 2 then true else bound_18) (bif q_20.f1_A == 3 then true else bound_19))))
  else
  (bif (q_20.f0_Op == (1 : Int)) then
  ((getI [bound_16, bound_17, bound_18, bound_19] q_20.f1_A).bind fun q_29 =>
  (bif (!q_29) then
  some (false)
  else
  (lf_constraintlaw32_InstrBound_L0 k b_a0 rest (i_15 + 1) bound_16 bound_17 bound_18 bound_19)))
  else
  (bif (q_20.f0_Op == (6 : Int)) then
  ((getI [bound_16, bound_17, bound_18, bound_19] q_20.f1_A).bind fun q_32 =>
  (bif (!q_32) then
  some (false)
  else
  (lf_constraintlaw32_InstrBound_L0 k b_a0 rest (i_15 + 1) bound_16 bound_17 bound_18 bound_19)))
  else
  (bif (q_20.f0_Op == (4 : Int)) then
  ((getI [bound_16, bound_17, bound_18, bound_19] q_20.f1_A).bind fun q_35 =>
  (bif (!q_35) then
  some (false)
  else
  ((getI [bound_16, bound_17, bound_18, bound_19] q_20.f2_B).bind fun q_37 =>
  (bif (!q_37) then
  some (false)
  else
  (lf_constraintlaw32_InstrBound_L0 k b_a0 rest (i_15 + 1) bound_16 bound_17 bound_18 bound_19)))))
  else
  (bif (q_20.f0_Op == (8 : Int)) then
  (lf_constraintlaw32_InstrBound_L1 ((lf_constraintlaw32_InstrBound_L0 k b_a0 rest (i_15 + 1) bound_16 bound_17 bound_18 bound_19)) bound_16 bound_17 bound_18 bound_19 (q_20.f2_B - 0 : Int).toNat 0)
  else
  (bif (q_20.f0_Op == (5 : Int)) then
  (lf_constraintlaw32_InstrBound_L2 ((lf_constraintlaw32_InstrBound_L0 k b_a0 rest (i_15 + 1) bound_16 bound_17 bound_18 bound_19)) bound_16 bound_17 bound_18 bound_19 (q_20.f2_B - 0 : Int).toNat 0)
  else
  (lf_constraintlaw32_InstrBound_L0 k b_a0 rest (i_15 + 1) bound_16 bound_17 bound_18 bound_19))))))))))
noncomputable def lf_constraintlaw32_InstrBound (b_a0 : S_api_Block) : Option (Bool) :=
  (lf_constraintlaw32_live.bind fun r_1 =>
  (bif (!r_1) then
  some (false)
  else
  ((lf_constraintref32_Great b_a0.f1_Code 600).bind fun r_3 =>
  (bif r_3 then
  some (true)
  else
  ((lf_instr_Check b_a0).bind fun r_5 =>
  (bif (r_5 != (0 : Int)) then
  some (true)
  else
  (bif ((b_a0.f1_Code.length : Int) == (0 : Int)) then
  some (false)
  else
  ((getI b_a0.f1_Code (wr ((b_a0.f1_Code.length : Int) - (1 : Int)))).bind fun q_8 =>
  (bif (q_8.f0_Op != (10 : Int)) then
  some (false)
  else
  (bif (decide ((b_a0.f1_Code.length : Int) > (200 : Int))) then
  some (false)
  else
  (bif (decide (b_a0.f0_Occ.f1_Head < (0 : Int))) then
  some (false)
  else
  (bif (decide (b_a0.f0_Occ.f1_Head ≥ (4 : Int))) then
  some (false)
  else
  ((getI [false, false, false, false] b_a0.f0_Occ.f1_Head).bind fun q_14 =>
  (lf_constraintlaw32_InstrBound_L0 (some (true)) b_a0 b_a0.f1_Code 0 (bif b_a0.f0_Occ.f1_Head == 0 then true else false) (bif b_a0.f0_Occ.f1_Head == 1 then true else false) (bif b_a0.f0_Occ.f1_Head == 2 then true else false) (bif b_a0.f0_Occ.f1_Head == 3 then true else false)))))))))))))))

set_option maxHeartbeats 1000000 in
theorem lg_constraintlaw32_InstrBound (b_a0 : S_api_Block) (res : Bool) (hr : lf_constraintlaw32_InstrBound b_a0 = some res) : Gives Try.prog 5 [enc_S_api_Block b_a0] (.bool res) := by
  unfold lf_constraintlaw32_InstrBound at hr
  refine spec_env [(0, enc_S_api_Block b_a0)] Try.func5 rfl rfl fun K hK => ?_
  refine g_seq ?_
  refine g_run (by kernel_rfl) [(0, .d), (1, .d)] rfl ?_
  refine r_d rfl rfl rfl (s_box rfl rfl rfl) ?_
  refine r_d rfl rfl rfl (s_assign rfl rfl) ?_
  refine r_end ?_
  refine g_seq ?_
  refine g_seq ?_
  refine g_run (by kernel_rfl) [(0, .d), (1, .d)] rfl ?_
  obtain ⟨r_1, hr_1, hr⟩ := bindS hr
  refine r_d rfl rfl rfl (s_callD rfl cl_constraintlaw32_live .nil (lg_constraintlaw32_live _ hr_1)) ?_
  refine r_d rfl rfl rfl (s_not rfl rfl) ?_
  refine r_end ?_
  refine g_sB 8 rfl hr (fun h8_1 hr => ?_) (fun h8_1 hr => ?_)
  ·
   refine g_condT rfl ?_
   refine g_seq ?_
   refine g_run (by kernel_rfl) [(0, .d)] rfl ?_
   refine r_d rfl rfl rfl (s_assign rfl rfl) ?_
   refine r_end ?_
   obtain rfl := Option.some.inj hr
   refine g_ret Try.func5 _ (.cons (resTmp rfl (Wk.refl _)) .nil) ?_
   rfl
  ·
   refine g_condF rfl ?_
   refine g_skip ?_
   refine g_seq ?_
   refine g_seq ?_
   refine g_run (by kernel_rfl) [(0, .d), (1, .d), (2, .d), (3, .d), (4, .d), (5, .d), (6, .d), (7, .d)] rfl ?_
   refine r_d rfl rfl rfl (s_fieldAddr rfl fl_api_Block_1 rfl rfl (by simp [szs, sz, sz_S_api_Occ]) rfl) ?_
   refine r_d rfl rfl rfl (s_load rfl rfl (by exact ty_L_api_Instr) rfl) ?_
   obtain ⟨r_3, hr_3, hr⟩ := bindS hr
   refine r_d rfl rfl rfl (s_callD rfl cl_constraintref32_Great (.cons rfl (Wk.refl _) (.cons rfl (Wk.refl _) .nil)) (lg_constraintref32_Great _ _ _ hr_3)) ?_
   refine r_d rfl rfl rfl (s_move rfl rfl) ?_
   refine r_sB 12 rfl hr (fun h12_3 hr => ?_) (fun h12_3 hr => ?_)
   ·
    refine r_skip rfl rfl rfl ?_
    refine r_skip rfl rfl rfl ?_
    refine r_skip rfl rfl rfl ?_
    refine r_d rfl rfl rfl (s_pickT rfl rfl rfl) ?_
    refine r_end ?_
    refine g_condT rfl ?_
    refine g_seq ?_
    refine g_run (by kernel_rfl) [(0, .d)] rfl ?_
    refine r_d rfl rfl rfl (s_assign rfl rfl) ?_
    refine r_end ?_
    obtain rfl := Option.some.inj hr
    refine g_ret Try.func5 _ (.cons (resTmp rfl (Wk.refl _)) .nil) ?_
    rfl
   ·
    refine r_d rfl rfl rfl (s_load rfl rfl (by exact ty_api_Block) (sz_S_api_Block _)) ?_
    obtain ⟨r_5, hr_5, hr⟩ := bindS hr
    refine r_d rfl rfl rfl (s_callD rfl cl_instr_Check (.cons rfl (Wk.refl _) .nil) (lg_instr_Check _ _ hr_5)) ?_
    refine r_d rfl rfl rfl (s_cmp rfl rfl rfl rfl) ?_
    refine r_d rfl rfl rfl (s_pickF rfl rfl rfl) ?_
    refine r_end ?_
    refine g_sB 16 rfl hr (fun h16_5 hr => ?_) (fun h16_5 hr => ?_)
    ·
     refine g_condT rfl ?_
     refine g_seq ?_
     refine g_run (by kernel_rfl) [(0, .d)] rfl ?_
     refine r_d rfl rfl rfl (s_assign rfl rfl) ?_
     refine r_end ?_
     obtain rfl := Option.some.inj hr
     refine g_ret Try.func5 _ (.cons (resTmp rfl (Wk.refl _)) .nil) ?_
     rfl
    ·
     refine g_condF rfl ?_
     refine g_skip ?_
     refine g_seq ?_
     refine g_seq ?_
     refine g_run (by kernel_rfl) [(0, .d), (1, .d), (2, .d), (3, .d), (4, .d), (5, .d), (6, .d), (7, .d), (8, .d), (9, .d), (10, .d), (11, .d), (12, .d), (13, .d), (14, .d), (15, .d), (16, .d), (17, .d), (18, .d), (19, .d), (20, .d), (21, .d), (22, .d), (23, .d), (24, .d), (25, .d), (26, .d), (27, .d), (28, .d), (29, .d), (30, .d), (31, .d), (32, .d), (33, .d)] rfl ?_
     refine r_d rfl rfl rfl (s_fieldAddr rfl fl_api_Block_1 rfl rfl (by simp [szs, sz, sz_S_api_Occ]) rfl) ?_
     refine r_d rfl rfl rfl (s_load rfl rfl (by exact ty_L_api_Instr) rfl) ?_
     refine r_d rfl rfl rfl (m_len (f := enc_S_api_Instr) b_a0.f1_Code rfl el_L_api_Instr rfl (asl rfl)) ?_
     refine r_d rfl rfl rfl (s_cmp rfl rfl rfl rfl) ?_
     refine r_d rfl rfl rfl (s_move rfl rfl) ?_
     refine r_sB 21 rfl hr (fun h21_6 hr => ?_) (fun h21_6 hr => ?_)
     ·
      refine r_skip rfl rfl rfl ?_
      refine r_skip rfl rfl rfl ?_
      refine r_skip rfl rfl rfl ?_
      refine r_skip rfl rfl rfl ?_
      refine r_skip rfl rfl rfl ?_
      refine r_skip rfl rfl rfl ?_
      refine r_skip rfl rfl rfl ?_
      refine r_skip rfl rfl rfl ?_
      refine r_skip rfl rfl rfl ?_
      refine r_skip rfl rfl rfl ?_
      refine r_d rfl rfl rfl (s_pickT rfl rfl rfl) ?_
      refine r_d rfl rfl rfl (s_move rfl rfl) ?_
      refine r_skip rfl rfl rfl ?_
      refine r_skip rfl rfl rfl ?_
      refine r_skip rfl rfl rfl ?_
      refine r_skip rfl rfl rfl ?_
      refine r_d rfl rfl rfl (s_pickT rfl rfl rfl) ?_
      refine r_d rfl rfl rfl (s_move rfl rfl) ?_
      refine r_skip rfl rfl rfl ?_
      refine r_skip rfl rfl rfl ?_
      refine r_skip rfl rfl rfl ?_
      refine r_skip rfl rfl rfl ?_
      refine r_d rfl rfl rfl (s_pickT rfl rfl rfl) ?_
      refine r_d rfl rfl rfl (s_move rfl rfl) ?_
      refine r_skip rfl rfl rfl ?_
      refine r_skip rfl rfl rfl ?_
      refine r_skip rfl rfl rfl ?_
      refine r_skip rfl rfl rfl ?_
      refine r_d rfl rfl rfl (s_pickT rfl rfl rfl) ?_
      refine r_end ?_
      refine g_condT rfl ?_
      refine g_seq ?_
      refine g_run (by kernel_rfl) [(0, .d)] rfl ?_
      refine r_d rfl rfl rfl (s_assign rfl rfl) ?_
      refine r_end ?_
      obtain rfl := Option.some.inj hr
      refine g_ret Try.func5 _ (.cons (resTmp rfl (Wk.refl _)) .nil) ?_
      rfl
     ·
      refine r_d rfl rfl rfl (s_fieldAddr rfl fl_api_Block_1 rfl rfl (by simp [szs, sz, sz_S_api_Occ]) rfl) ?_
      refine r_d rfl rfl rfl (s_load rfl rfl (by exact ty_L_api_Instr) rfl) ?_
      refine r_d rfl rfl rfl (s_fieldAddr rfl fl_api_Block_1 rfl rfl (by simp [szs, sz, sz_S_api_Occ]) rfl) ?_
      refine r_d rfl rfl rfl (s_load rfl rfl (by exact ty_L_api_Instr) rfl) ?_
      refine r_d rfl rfl rfl (m_len (f := enc_S_api_Instr) b_a0.f1_Code rfl el_L_api_Instr rfl (asl rfl)) ?_
      refine r_d rfl rfl rfl (s_arW rfl rfl rfl rfl) ?_
      obtain ⟨q_8, hq_8, hr⟩ := bindS hr
      refine r_d rfl rfl rfl (m_index (f := enc_S_api_Instr) b_a0.f1_Code rfl el_L_api_Instr rfl (asl rfl) rfl hq_8 sz_S_api_Instr rfl) ?_
      refine r_d rfl rfl rfl (s_fieldAddr rfl fl_api_Instr_0 rfl rfl rfl rfl) ?_
      refine r_d rfl rfl rfl (s_load rfl rfl (by exact ty_int) rfl) ?_
      refine r_d rfl rfl rfl (s_cmp rfl rfl rfl rfl) ?_
      refine r_d rfl rfl rfl (s_pickF rfl rfl rfl) ?_
      refine r_d rfl rfl rfl (s_move rfl rfl) ?_
      refine r_sB 33 rfl hr (fun h33_8 hr => ?_) (fun h33_8 hr => ?_)
      ·
       refine r_skip rfl rfl rfl ?_
       refine r_skip rfl rfl rfl ?_
       refine r_skip rfl rfl rfl ?_
       refine r_skip rfl rfl rfl ?_
       refine r_d rfl rfl rfl (s_pickT rfl rfl rfl) ?_
       refine r_d rfl rfl rfl (s_move rfl rfl) ?_
       refine r_skip rfl rfl rfl ?_
       refine r_skip rfl rfl rfl ?_
       refine r_skip rfl rfl rfl ?_
       refine r_skip rfl rfl rfl ?_
       refine r_d rfl rfl rfl (s_pickT rfl rfl rfl) ?_
       refine r_d rfl rfl rfl (s_move rfl rfl) ?_
       refine r_skip rfl rfl rfl ?_
       refine r_skip rfl rfl rfl ?_
       refine r_skip rfl rfl rfl ?_
       refine r_skip rfl rfl rfl ?_
       refine r_d rfl rfl rfl (s_pickT rfl rfl rfl) ?_
       refine r_end ?_
       refine g_condT rfl ?_
       refine g_seq ?_
       refine g_run (by kernel_rfl) [(0, .d)] rfl ?_
       refine r_d rfl rfl rfl (s_assign rfl rfl) ?_
       refine r_end ?_
       obtain rfl := Option.some.inj hr
       refine g_ret Try.func5 _ (.cons (resTmp rfl (Wk.refl _)) .nil) ?_
       rfl
      ·
       refine r_d rfl rfl rfl (s_fieldAddr rfl fl_api_Block_1 rfl rfl (by simp [szs, sz, sz_S_api_Occ]) rfl) ?_
       refine r_d rfl rfl rfl (s_load rfl rfl (by exact ty_L_api_Instr) rfl) ?_
       refine r_d rfl rfl rfl (m_len (f := enc_S_api_Instr) b_a0.f1_Code rfl el_L_api_Instr rfl (asl rfl)) ?_
       refine r_d rfl rfl rfl (s_cmp rfl rfl rfl rfl) ?_
       refine r_d rfl rfl rfl (s_pickF rfl rfl rfl) ?_
       refine r_d rfl rfl rfl (s_move rfl rfl) ?_
       refine r_sB 39 rfl hr (fun h39_9 hr => ?_) (fun h39_9 hr => ?_)
       ·
        refine r_skip rfl rfl rfl ?_
        refine r_skip rfl rfl rfl ?_
        refine r_skip rfl rfl rfl ?_
        refine r_skip rfl rfl rfl ?_
        refine r_d rfl rfl rfl (s_pickT rfl rfl rfl) ?_
        refine r_d rfl rfl rfl (s_move rfl rfl) ?_
        refine r_skip rfl rfl rfl ?_
        refine r_skip rfl rfl rfl ?_
        refine r_skip rfl rfl rfl ?_
        refine r_skip rfl rfl rfl ?_
        refine r_d rfl rfl rfl (s_pickT rfl rfl rfl) ?_
        refine r_end ?_
        refine g_condT rfl ?_
        refine g_seq ?_
        refine g_run (by kernel_rfl) [(0, .d)] rfl ?_
        refine r_d rfl rfl rfl (s_assign rfl rfl) ?_
        refine r_end ?_
        obtain rfl := Option.some.inj hr
        refine g_ret Try.func5 _ (.cons (resTmp rfl (Wk.refl _)) .nil) ?_
        rfl
       ·
        refine r_d rfl rfl rfl (s_fieldAddr rfl fl_api_Block_0 rfl rfl rfl rfl) ?_
        refine r_d rfl rfl rfl (s_fieldAddr rfl fl_api_Occ_1 rfl rfl rfl rfl) ?_
        refine r_d rfl rfl rfl (s_load rfl rfl (by exact ty_int) rfl) ?_
        refine r_d rfl rfl rfl (s_cmp rfl rfl rfl rfl) ?_
        refine r_d rfl rfl rfl (s_pickF rfl rfl rfl) ?_
        refine r_d rfl rfl rfl (s_move rfl rfl) ?_
        refine r_sB 45 rfl hr (fun h45_10 hr => ?_) (fun h45_10 hr => ?_)
        ·
         refine r_skip rfl rfl rfl ?_
         refine r_skip rfl rfl rfl ?_
         refine r_skip rfl rfl rfl ?_
         refine r_skip rfl rfl rfl ?_
         refine r_d rfl rfl rfl (s_pickT rfl rfl rfl) ?_
         refine r_end ?_
         refine g_condT rfl ?_
         refine g_seq ?_
         refine g_run (by kernel_rfl) [(0, .d)] rfl ?_
         refine r_d rfl rfl rfl (s_assign rfl rfl) ?_
         refine r_end ?_
         obtain rfl := Option.some.inj hr
         refine g_ret Try.func5 _ (.cons (resTmp rfl (Wk.refl _)) .nil) ?_
         rfl
        ·
         refine r_d rfl rfl rfl (s_fieldAddr rfl fl_api_Block_0 rfl rfl rfl rfl) ?_
         refine r_d rfl rfl rfl (s_fieldAddr rfl fl_api_Occ_1 rfl rfl rfl rfl) ?_
         refine r_d rfl rfl rfl (s_load rfl rfl (by exact ty_int) rfl) ?_
         refine r_d rfl rfl rfl (s_cmp rfl rfl rfl rfl) ?_
         refine r_d rfl rfl rfl (s_pickF rfl rfl rfl) ?_
         refine r_end ?_
         refine g_sB 50 rfl hr (fun h50_11 hr => ?_) (fun h50_11 hr => ?_)
         ·
          refine g_condT rfl ?_
          refine g_seq ?_
          refine g_run (by kernel_rfl) [(0, .d)] rfl ?_
          refine r_d rfl rfl rfl (s_assign rfl rfl) ?_
          refine r_end ?_
          obtain rfl := Option.some.inj hr
          refine g_ret Try.func5 _ (.cons (resTmp rfl (Wk.refl _)) .nil) ?_
          rfl
         ·
          refine g_condF rfl ?_
          refine g_skip ?_
          refine g_seq ?_
          refine g_run (by kernel_rfl) [(0, .w)] rfl ?_
          refine r_w rfl rfl rfl (s_alloc rfl zvx__4_bool) ?_
          rintro _ _ ⟨b3_12, rfl, rfl⟩
          refine r_end ?_
          refine g_seq ?_
          refine g_run (by kernel_rfl) [(0, .d), (1, .d), (2, .d), (3, .d), (4, .w)] rfl ?_
          refine r_d rfl rfl rfl (s_fieldAddr rfl fl_api_Block_0 rfl rfl rfl rfl) ?_
          refine r_d rfl rfl rfl (s_fieldAddr rfl fl_api_Occ_1 rfl rfl rfl rfl) ?_
          refine r_d rfl rfl rfl (s_load rfl rfl (by exact ty_int) rfl) ?_
          obtain ⟨q_14, hq_14, hr⟩ := bindS hr
          refine r_d rfl rfl rfl (s_indexB4 rfl are__4_bool rfl rfl hq_14) ?_
          refine r_w01 rfl rfl rfl (t_store _ rfl rfl rfl (Wk.refl _) (pf0 _) (subB4 hq_14) (offB4 hq_14) (by exact ty_bool) rfl rfl rfl) ?_
          refine r_st [.cell b3_12 (.agg [.bool (bif b_a0.f0_Occ.f1_Head == 0 then true else false), .bool (bif b_a0.f0_Occ.f1_Head == 1 then true else false), .bool (bif b_a0.f0_Occ.f1_Head == 2 then true else false), .bool (bif b_a0.f0_Occ.f1_Head == 3 then true else false)])] (by rw [setB4 hq_14]) ?_
          refine r_end ?_
          refine g_seq ?_
          refine g_seq ?_
          refine g_run (by kernel_rfl) [(0, .d)] rfl ?_
          refine r_d rfl rfl rfl (s_assign rfl rfl) ?_
          refine r_end ?_
          obtain ⟨kk0, hkk0, hr⟩ := exK (fun k => lf_constraintlaw32_InstrBound_L0 k b_a0 b_a0.f1_Code 0 (bif b_a0.f0_Occ.f1_Head == 0 then true else false) (bif b_a0.f0_Occ.f1_Head == 1 then true else false) (bif b_a0.f0_Occ.f1_Head == 2 then true else false) (bif b_a0.f0_Occ.f1_Head == 3 then true else false)) hr
          refine g_len 10 rfl (asl rfl) fun hla0 => ?_
          simp only [List.length_map] at hla0
          refine g_blockJ (fun env σ => env = [] ∧ σ = [] ∧ kk0 = some res) ?_ (fun HK0 => ?_)
          ·
           rintro _ _ ⟨rfl, rfl, hr⟩
           rw [hkk0] at hr
           refine g_seq ?_
           refine g_run (by kernel_rfl) [(0, .d)] rfl ?_
           refine r_d rfl rfl rfl (s_assign rfl rfl) ?_
           refine r_end ?_
           obtain rfl := Option.some.inj hr
           refine g_ret Try.func5 _ (.cons (resTmp rfl (Wk.refl _)) .nil) ?_
           rfl
          ·
           refine g_sub [(1, .ptr (enc_S_api_Block b_a0)), (3, .ref b3_12 0 []), (4, .int .i64 ((0 : Nat) : Int))] (Sub.cons' rfl (Sub.cons' rfl (Sub.cons' rfl (Sub.nil _)))) ?_
           refine g_loop (fun n env σ => ∃ (i_15 : Nat) (bound_16 : Bool) (bound_17 : Bool) (bound_18 : Bool) (bound_19 : Bool), (n = b_a0.f1_Code.length - i_15) ∧ (env = [(1, .ptr (enc_S_api_Block b_a0)), (3, .ref b3_12 0 []), (4, .int .i64 (i_15 : Int))]) ∧ (σ = [.cell b3_12 (.agg [.bool bound_16, .bool bound_17, .bool bound_18, .bool bound_19])]) ∧ (i_15 ≤ b_a0.f1_Code.length) ∧ (lf_constraintlaw32_InstrBound_L0 kk0 b_a0 (b_a0.f1_Code.drop i_15) i_15 bound_16 bound_17 bound_18 bound_19 = some res)) _ ⟨0, (bif b_a0.f0_Occ.f1_Head == 0 then true else false), (bif b_a0.f0_Occ.f1_Head == 1 then true else false), (bif b_a0.f0_Occ.f1_Head == 2 then true else false), (bif b_a0.f0_Occ.f1_Head == 3 then true else false), rfl, rfl, rfl, Nat.zero_le _, hr⟩ ?_
           rintro n _ _ ⟨i_15, bound_16, bound_17, bound_18, bound_19, rfl, rfl, rfl, hi0, hr⟩ IH0
           rcases listStep b_a0.f1_Code i_15 hi0 with ⟨ht0, hd0, he0⟩ | ⟨q_20, ht0, hd0, hq0, hlt0⟩
           ·
            rw [hd0, lf_constraintlaw32_InstrBound_L0] at hr
            refine g_seq ?_
            refine g_seq ?_
            refine g_run (by kernel_rfl) [(0, .d), (1, .d), (2, .d), (3, .d), (4, .d)] rfl ?_
            refine r_d rfl rfl rfl (s_move rfl rfl) ?_
            refine r_d rfl rfl rfl (s_fieldAddr rfl fl_api_Block_1 rfl rfl (by simp [szs, sz, sz_S_api_Occ]) rfl) ?_
            refine r_d rfl rfl rfl (s_load rfl rfl (by exact ty_L_api_Instr) rfl) ?_
            refine r_d rfl rfl rfl (m_len (f := enc_S_api_Instr) b_a0.f1_Code rfl el_L_api_Instr rfl (asl rfl)) ?_
            refine r_d rfl rfl rfl (s_cmp rfl rfl rfl rfl) ?_
            refine r_end ?_
            refine g_known 59 false rfl ht0 ?_
            refine g_condF rfl ?_
            refine g_exit rfl ?_
            refine g_sub [] (Sub.nil _) ?_
            refine g_perm [] _ (pf0 _) ?_
            exact HK0 _ _ ⟨rfl, rfl, hr⟩
           ·
            rw [hd0, lf_constraintlaw32_InstrBound_L0] at hr
            refine g_seq ?_
            refine g_seq ?_
            refine g_run (by kernel_rfl) [(0, .d), (1, .d), (2, .d), (3, .d), (4, .d)] rfl ?_
            refine r_d rfl rfl rfl (s_move rfl rfl) ?_
            refine r_d rfl rfl rfl (s_fieldAddr rfl fl_api_Block_1 rfl rfl (by simp [szs, sz, sz_S_api_Occ]) rfl) ?_
            refine r_d rfl rfl rfl (s_load rfl rfl (by exact ty_L_api_Instr) rfl) ?_
            refine r_d rfl rfl rfl (m_len (f := enc_S_api_Instr) b_a0.f1_Code rfl el_L_api_Instr rfl (asl rfl)) ?_
            refine r_d rfl rfl rfl (s_cmp rfl rfl rfl rfl) ?_
            refine r_end ?_
            refine g_known 59 true rfl ht0 ?_
            refine g_condT rfl ?_
            refine g_skip ?_
            refine g_seq ?_
            refine g_block ?_
            refine g_seq ?_
            refine g_run (by kernel_rfl) [(0, .d), (1, .d), (2, .d), (3, .d), (4, .d), (5, .w), (6, .w)] rfl ?_
            refine r_d rfl rfl rfl (s_fieldAddr rfl fl_api_Block_1 rfl rfl (by simp [szs, sz, sz_S_api_Occ]) rfl) ?_
            refine r_d rfl rfl rfl (s_load rfl rfl (by exact ty_L_api_Instr) rfl) ?_
            refine r_d rfl rfl rfl (s_move rfl rfl) ?_
            refine r_d rfl rfl rfl (m_index (f := enc_S_api_Instr) b_a0.f1_Code rfl el_L_api_Instr rfl (asl rfl) rfl hq0 sz_S_api_Instr rfl) ?_
            refine r_d rfl rfl rfl (s_load rfl rfl (by exact ty_api_Instr) (sz_S_api_Instr _)) ?_
            refine r_w rfl rfl rfl (s_alloc rfl zv_api_Instr) ?_
            rintro _ _ ⟨b5_20, rfl, rfl⟩
            refine r_w01 rfl rfl rfl (t_store0 _ rfl rfl rfl (Wk.refl _) (pf0 _) (by exact ty_api_Instr) (sz_S_api_Instr _) (by simp [sz, szs, szs_fsT, sz_encG]) rfl) ?_
            refine r_end ?_
            refine g_freeze 5 b5_20 rfl (pf0 _) ?_
            refine g_seq ?_
            refine g_seq ?_
            refine g_run (by kernel_rfl) [(0, .d), (1, .d), (2, .d), (3, .d), (4, .d), (5, .d), (6, .d), (7, .d), (8, .d), (9, .d), (10, .d), (11, .d), (12, .d), (13, .d), (14, .d)] rfl ?_
            refine r_d rfl rfl rfl (s_load rfl rfl (by exact ty_api_Instr) (sz_S_api_Instr _)) ?_
            obtain ⟨r_22, hr_22, hr⟩ := bindS hr
            refine r_d rfl rfl rfl (s_callD rfl cl_instr_Right (.cons rfl (Wk.refl _) .nil) (lg_instr_Right _ _ hr_22)) ?_
            refine r_d rfl rfl rfl (s_not rfl rfl) ?_
            refine r_d rfl rfl rfl (s_move rfl rfl) ?_
            refine r_sB 70 rfl hr (fun h70_22 hr => ?_) (fun h70_22 hr => ?_)
            ·
             refine r_skip rfl rfl rfl ?_
             refine r_skip rfl rfl rfl ?_
             refine r_skip rfl rfl rfl ?_
             refine r_skip rfl rfl rfl ?_
             refine r_skip rfl rfl rfl ?_
             refine r_skip rfl rfl rfl ?_
             refine r_skip rfl rfl rfl ?_
             refine r_skip rfl rfl rfl ?_
             refine r_skip rfl rfl rfl ?_
             refine r_skip rfl rfl rfl ?_
             refine r_d rfl rfl rfl (s_pickT rfl rfl rfl) ?_
             refine r_end ?_
             refine g_condT rfl ?_
             refine g_seq ?_
             refine g_run (by kernel_rfl) [(0, .d)] rfl ?_
             refine r_d rfl rfl rfl (s_assign rfl rfl) ?_
             refine r_end ?_
             obtain rfl := Option.some.inj hr
             refine g_ret Try.func5 _ (.cons (resTmp rfl (Wk.refl _)) .nil) ?_
             rfl
            ·
             refine r_d rfl rfl rfl (s_fieldAddr rfl fl_api_Instr_0 rfl rfl rfl rfl) ?_
             refine r_d rfl rfl rfl (s_load rfl rfl (by exact ty_int) rfl) ?_
             refine r_d rfl rfl rfl (s_cmp rfl rfl rfl rfl) ?_
             refine r_d rfl rfl rfl (s_move rfl rfl) ?_
             refine r_d rfl rfl rfl (s_fieldAddr rfl fl_api_Block_1 rfl rfl (by simp [szs, sz, sz_S_api_Occ]) rfl) ?_
             refine r_d rfl rfl rfl (s_load rfl rfl (by exact ty_L_api_Instr) rfl) ?_
             refine r_d rfl rfl rfl (m_len (f := enc_S_api_Instr) b_a0.f1_Code rfl el_L_api_Instr rfl (asl rfl)) ?_
             refine r_d rfl rfl rfl (s_arW rfl rfl rfl rfl) ?_
             refine r_d rfl rfl rfl (s_cmp rfl rfl rfl rfl) ?_
             refine r_d rfl rfl rfl (s_neqB rfl Try.underlying4 rfl rfl) ?_
             refine r_d rfl rfl rfl (s_pickF rfl rfl rfl) ?_
             refine r_end ?_
             refine g_sB 81 rfl hr (fun h81_23 hr => ?_) (fun h81_23 hr => ?_)
             ·
              refine g_condT rfl ?_
              refine g_seq ?_
              refine g_run (by kernel_rfl) [(0, .d)] rfl ?_
              refine r_d rfl rfl rfl (s_assign rfl rfl) ?_
              refine r_end ?_
              obtain rfl := Option.some.inj hr
              refine g_ret Try.func5 _ (.cons (resTmp rfl (Wk.refl _)) .nil) ?_
              rfl
             ·
              refine g_condF rfl ?_
              refine g_skip ?_
              refine g_seq ?_
              refine g_run (by kernel_rfl) [(0, .d), (1, .d)] rfl ?_
              refine r_d rfl rfl rfl (s_fieldAddr rfl fl_api_Instr_0 rfl rfl rfl rfl) ?_
              refine r_d rfl rfl rfl (s_load rfl rfl (by exact ty_int) rfl) ?_
              refine r_end ?_
              refine g_block ?_
              refine g_seq ?_
              refine g_run (by kernel_rfl) [(0, .d), (1, .d)] rfl ?_
              refine r_d rfl rfl rfl (s_cmp rfl rfl rfl rfl) ?_
              refine r_d rfl rfl rfl (s_assign rfl rfl) ?_
              refine r_end ?_
              refine g_sB 84 rfl hr (fun h84_24 hr => ?_) (fun h84_24 hr => ?_)
              ·
               refine g_condT rfl ?_
               refine g_seq ?_
               refine g_seq ?_
               refine g_run (by kernel_rfl) [(0, .d), (1, .d), (2, .d), (3, .r)] rfl ?_
               refine r_d rfl rfl rfl (s_fieldAddr rfl fl_api_Instr_1 rfl rfl rfl rfl) ?_
               refine r_d rfl rfl rfl (s_load rfl rfl (by exact ty_int) rfl) ?_
               obtain ⟨q_26, hq_26, hr⟩ := bindS hr
               refine r_d rfl rfl rfl (s_indexB4 rfl are__4_bool rfl rfl hq_26) ?_
               refine r_r rfl rfl rfl (t_loadRef rfl rfl (.head _) (subB4 hq_26) (offB4 hq_26) (by exact ty_bool) rfl) ?_
               refine r_end ?_
               refine g_sB 89 rfl hr (fun h89_26 hr => ?_) (fun h89_26 hr => ?_)
               ·
                refine g_condT rfl ?_
                refine g_seq ?_
                refine g_run (by kernel_rfl) [(0, .d)] rfl ?_
                refine r_d rfl rfl rfl (s_assign rfl rfl) ?_
                refine r_end ?_
                obtain rfl := Option.some.inj hr
                refine g_ret Try.func5 _ (.cons (resTmp rfl (Wk.refl _)) .nil) ?_
                rfl
               ·
                refine g_condF rfl ?_
                refine g_skip ?_
                refine g_run (by kernel_rfl) [(0, .d), (1, .d), (2, .d), (3, .w)] rfl ?_
                refine r_d rfl rfl rfl (s_fieldAddr rfl fl_api_Instr_1 rfl rfl rfl rfl) ?_
                refine r_d rfl rfl rfl (s_load rfl rfl (by exact ty_int) rfl) ?_
                refine r_d rfl rfl rfl (s_indexB4 rfl are__4_bool rfl rfl hq_26) ?_
                refine r_w01 rfl rfl rfl (t_store _ rfl rfl rfl (Wk.refl _) (pf0 _) (subB4 hq_26) (offB4 hq_26) (by exact ty_bool) rfl rfl rfl) ?_
                refine r_st [.cell b3_12 (.agg [.bool (bif q_20.f1_A == 0 then true else bound_16), .bool (bif q_20.f1_A == 1 then true else bound_17), .bool (bif q_20.f1_A == 2 then true else bound_18), .bool (bif q_20.f1_A == 3 then true else bound_19)])] (by rw [setB4 hq_26]) ?_
                refine r_end ?_
                refine g_inBlock ?_
                refine g_inBlock ?_
                refine g_run (by kernel_rfl) [(0, .d), (1, .d), (2, .d)] rfl ?_
                refine r_d rfl rfl rfl (s_move rfl rfl) ?_
                refine r_d rfl rfl rfl (s_ar (r := ((i_15 + 1 : Nat) : Int)) rfl rfl rfl (by simp [iar]) (by omega)) ?_
                refine r_d rfl rfl rfl (s_assign rfl rfl) ?_
                refine r_end ?_
                refine g_sub [(1, .ptr (enc_S_api_Block b_a0)), (3, .ref b3_12 0 []), (4, .int .i64 ((i_15 + 1 : Nat) : Int))] (Sub.cons' rfl (Sub.cons' rfl (Sub.cons' rfl (Sub.nil _)))) ?_
                exact IH0 _ _ _ (by omega) ⟨(i_15 + 1), (bif q_20.f1_A == 0 then true else bound_16), (bif q_20.f1_A == 1 then true else bound_17), (bif q_20.f1_A == 2 then true else bound_18), (bif q_20.f1_A == 3 then true else bound_19), rfl, rfl, rfl, (by omega), hr⟩
              ·
               refine g_condF rfl ?_
               refine g_seq ?_
               refine g_seq ?_
               refine g_run (by kernel_rfl) [(0, .d), (1, .d)] rfl ?_
               refine r_d rfl rfl rfl (s_cmp rfl rfl rfl rfl) ?_
               refine r_d rfl rfl rfl (s_assign rfl rfl) ?_
               refine r_end ?_
               refine g_sB 93 rfl hr (fun h93_27 hr => ?_) (fun h93_27 hr => ?_)
               ·
                refine g_condT rfl ?_
                refine g_skip ?_
                refine g_condT rfl ?_
                refine g_seq ?_
                refine g_run (by kernel_rfl) [(0, .d), (1, .d), (2, .d), (3, .r), (4, .d)] rfl ?_
                refine r_d rfl rfl rfl (s_fieldAddr rfl fl_api_Instr_1 rfl rfl rfl rfl) ?_
                refine r_d rfl rfl rfl (s_load rfl rfl (by exact ty_int) rfl) ?_
                obtain ⟨q_29, hq_29, hr⟩ := bindS hr
                refine r_d rfl rfl rfl (s_indexB4 rfl are__4_bool rfl rfl hq_29) ?_
                refine r_r rfl rfl rfl (t_loadRef rfl rfl (.head _) (subB4 hq_29) (offB4 hq_29) (by exact ty_bool) rfl) ?_
                refine r_d rfl rfl rfl (s_not rfl rfl) ?_
                refine r_end ?_
                refine g_sB 100 rfl hr (fun h100_29 hr => ?_) (fun h100_29 hr => ?_)
                ·
                 refine g_condT rfl ?_
                 refine g_seq ?_
                 refine g_run (by kernel_rfl) [(0, .d)] rfl ?_
                 refine r_d rfl rfl rfl (s_assign rfl rfl) ?_
                 refine r_end ?_
                 obtain rfl := Option.some.inj hr
                 refine g_ret Try.func5 _ (.cons (resTmp rfl (Wk.refl _)) .nil) ?_
                 rfl
                ·
                 refine g_condF rfl ?_
                 refine g_skip ?_
                 refine g_inBlock ?_
                 refine g_inBlock ?_
                 refine g_run (by kernel_rfl) [(0, .d), (1, .d), (2, .d)] rfl ?_
                 refine r_d rfl rfl rfl (s_move rfl rfl) ?_
                 refine r_d rfl rfl rfl (s_ar (r := ((i_15 + 1 : Nat) : Int)) rfl rfl rfl (by simp [iar]) (by omega)) ?_
                 refine r_d rfl rfl rfl (s_assign rfl rfl) ?_
                 refine r_end ?_
                 refine g_sub [(1, .ptr (enc_S_api_Block b_a0)), (3, .ref b3_12 0 []), (4, .int .i64 ((i_15 + 1 : Nat) : Int))] (Sub.cons' rfl (Sub.cons' rfl (Sub.cons' rfl (Sub.nil _)))) ?_
                 exact IH0 _ _ _ (by omega) ⟨(i_15 + 1), bound_16, bound_17, bound_18, bound_19, rfl, rfl, rfl, (by omega), hr⟩
               ·
                refine g_condF rfl ?_
                refine g_run (by kernel_rfl) [(0, .d), (1, .d)] rfl ?_
                refine r_d rfl rfl rfl (s_cmp rfl rfl rfl rfl) ?_
                refine r_d rfl rfl rfl (s_assign rfl rfl) ?_
                refine r_end ?_
                refine g_sB 93 rfl hr (fun h93_30 hr => ?_) (fun h93_30 hr => ?_)
                ·
                 refine g_condT rfl ?_
                 refine g_seq ?_
                 refine g_run (by kernel_rfl) [(0, .d), (1, .d), (2, .d), (3, .r), (4, .d)] rfl ?_
                 refine r_d rfl rfl rfl (s_fieldAddr rfl fl_api_Instr_1 rfl rfl rfl rfl) ?_
                 refine r_d rfl rfl rfl (s_load rfl rfl (by exact ty_int) rfl) ?_
                 obtain ⟨q_32, hq_32, hr⟩ := bindS hr
                 refine r_d rfl rfl rfl (s_indexB4 rfl are__4_bool rfl rfl hq_32) ?_
                 refine r_r rfl rfl rfl (t_loadRef rfl rfl (.head _) (subB4 hq_32) (offB4 hq_32) (by exact ty_bool) rfl) ?_
                 refine r_d rfl rfl rfl (s_not rfl rfl) ?_
                 refine r_end ?_
                 refine g_sB 100 rfl hr (fun h100_32 hr => ?_) (fun h100_32 hr => ?_)
                 ·
                  refine g_condT rfl ?_
                  refine g_seq ?_
                  refine g_run (by kernel_rfl) [(0, .d)] rfl ?_
                  refine r_d rfl rfl rfl (s_assign rfl rfl) ?_
                  refine r_end ?_
                  obtain rfl := Option.some.inj hr
                  refine g_ret Try.func5 _ (.cons (resTmp rfl (Wk.refl _)) .nil) ?_
                  rfl
                 ·
                  refine g_condF rfl ?_
                  refine g_skip ?_
                  refine g_inBlock ?_
                  refine g_inBlock ?_
                  refine g_run (by kernel_rfl) [(0, .d), (1, .d), (2, .d)] rfl ?_
                  refine r_d rfl rfl rfl (s_move rfl rfl) ?_
                  refine r_d rfl rfl rfl (s_ar (r := ((i_15 + 1 : Nat) : Int)) rfl rfl rfl (by simp [iar]) (by omega)) ?_
                  refine r_d rfl rfl rfl (s_assign rfl rfl) ?_
                  refine r_end ?_
                  refine g_sub [(1, .ptr (enc_S_api_Block b_a0)), (3, .ref b3_12 0 []), (4, .int .i64 ((i_15 + 1 : Nat) : Int))] (Sub.cons' rfl (Sub.cons' rfl (Sub.cons' rfl (Sub.nil _)))) ?_
                  exact IH0 _ _ _ (by omega) ⟨(i_15 + 1), bound_16, bound_17, bound_18, bound_19, rfl, rfl, rfl, (by omega), hr⟩
                ·
                 refine g_condF rfl ?_
                 refine g_seq ?_
                 refine g_run (by kernel_rfl) [(0, .d), (1, .d)] rfl ?_
                 refine r_d rfl rfl rfl (s_cmp rfl rfl rfl rfl) ?_
                 refine r_d rfl rfl rfl (s_assign rfl rfl) ?_
                 refine r_end ?_
                 refine g_sB 101 rfl hr (fun h101_33 hr => ?_) (fun h101_33 hr => ?_)
                 ·
                  refine g_condT rfl ?_
                  refine g_seq ?_
                  refine g_run (by kernel_rfl) [(0, .d), (1, .d), (2, .d), (3, .r), (4, .d), (5, .d), (6, .d), (7, .d), (8, .d), (9, .r), (10, .d), (11, .d)] rfl ?_
                  refine r_d rfl rfl rfl (s_fieldAddr rfl fl_api_Instr_1 rfl rfl rfl rfl) ?_
                  refine r_d rfl rfl rfl (s_load rfl rfl (by exact ty_int) rfl) ?_
                  obtain ⟨q_35, hq_35, hr⟩ := bindS hr
                  refine r_d rfl rfl rfl (s_indexB4 rfl are__4_bool rfl rfl hq_35) ?_
                  refine r_r rfl rfl rfl (t_loadRef rfl rfl (.head _) (subB4 hq_35) (offB4 hq_35) (by exact ty_bool) rfl) ?_
                  refine r_d rfl rfl rfl (s_not rfl rfl) ?_
                  refine r_d rfl rfl rfl (s_move rfl rfl) ?_
                  refine r_sB 108 rfl hr (fun h108_35 hr => ?_) (fun h108_35 hr => ?_)
                  ·
                   refine r_skip rfl rfl rfl ?_
                   refine r_skip rfl rfl rfl ?_
                   refine r_skip rfl rfl rfl ?_
                   refine r_skip rfl rfl rfl ?_
                   refine r_skip rfl rfl rfl ?_
                   refine r_d rfl rfl rfl (s_pickT rfl rfl rfl) ?_
                   refine r_end ?_
                   refine g_condT rfl ?_
                   refine g_seq ?_
                   refine g_run (by kernel_rfl) [(0, .d)] rfl ?_
                   refine r_d rfl rfl rfl (s_assign rfl rfl) ?_
                   refine r_end ?_
                   obtain rfl := Option.some.inj hr
                   refine g_ret Try.func5 _ (.cons (resTmp rfl (Wk.refl _)) .nil) ?_
                   rfl
                  ·
                   refine r_d rfl rfl rfl (s_fieldAddr rfl fl_api_Instr_2 rfl rfl rfl rfl) ?_
                   refine r_d rfl rfl rfl (s_load rfl rfl (by exact ty_int) rfl) ?_
                   obtain ⟨q_37, hq_37, hr⟩ := bindS hr
                   refine r_d rfl rfl rfl (s_indexB4 rfl are__4_bool rfl rfl hq_37) ?_
                   refine r_r rfl rfl rfl (t_loadRef rfl rfl (.head _) (subB4 hq_37) (offB4 hq_37) (by exact ty_bool) rfl) ?_
                   refine r_d rfl rfl rfl (s_not rfl rfl) ?_
                   refine r_d rfl rfl rfl (s_pickF rfl rfl rfl) ?_
                   refine r_end ?_
                   refine g_sB 114 rfl hr (fun h114_37 hr => ?_) (fun h114_37 hr => ?_)
                   ·
                    refine g_condT rfl ?_
                    refine g_seq ?_
                    refine g_run (by kernel_rfl) [(0, .d)] rfl ?_
                    refine r_d rfl rfl rfl (s_assign rfl rfl) ?_
                    refine r_end ?_
                    obtain rfl := Option.some.inj hr
                    refine g_ret Try.func5 _ (.cons (resTmp rfl (Wk.refl _)) .nil) ?_
                    rfl
                   ·
                    refine g_condF rfl ?_
                    refine g_skip ?_
                    refine g_inBlock ?_
                    refine g_inBlock ?_
                    refine g_run (by kernel_rfl) [(0, .d), (1, .d), (2, .d)] rfl ?_
                    refine r_d rfl rfl rfl (s_move rfl rfl) ?_
                    refine r_d rfl rfl rfl (s_ar (r := ((i_15 + 1 : Nat) : Int)) rfl rfl rfl (by simp [iar]) (by omega)) ?_
                    refine r_d rfl rfl rfl (s_assign rfl rfl) ?_
                    refine r_end ?_
                    refine g_sub [(1, .ptr (enc_S_api_Block b_a0)), (3, .ref b3_12 0 []), (4, .int .i64 ((i_15 + 1 : Nat) : Int))] (Sub.cons' rfl (Sub.cons' rfl (Sub.cons' rfl (Sub.nil _)))) ?_
                    exact IH0 _ _ _ (by omega) ⟨(i_15 + 1), bound_16, bound_17, bound_18, bound_19, rfl, rfl, rfl, (by omega), hr⟩
                 ·
                  refine g_condF rfl ?_
                  refine g_seq ?_
                  refine g_seq ?_
                  refine g_run (by kernel_rfl) [(0, .d), (1, .d)] rfl ?_
                  refine r_d rfl rfl rfl (s_cmp rfl rfl rfl rfl) ?_
                  refine r_d rfl rfl rfl (s_assign rfl rfl) ?_
                  refine r_end ?_
                  refine g_sB 115 rfl hr (fun h115_38 hr => ?_) (fun h115_38 hr => ?_)
                  ·
                   refine g_condT rfl ?_
                   refine g_skip ?_
                   refine g_condT rfl ?_
                   refine g_seq ?_
                   refine g_run (by kernel_rfl) [(0, .d)] rfl ?_
                   refine r_d rfl rfl rfl (s_assign rfl rfl) ?_
                   refine r_end ?_
                   obtain ⟨kk1, hkk1, hr⟩ := exK (fun k => lf_constraintlaw32_InstrBound_L1 k bound_16 bound_17 bound_18 bound_19 (q_20.f2_B - 0 : Int).toNat 0) hr
                   refine g_blockJ (fun env σ => env = [(1, .ptr (enc_S_api_Block b_a0)), (3, .ref b3_12 0 []), (4, .int .i64 (i_15 : Int))] ∧ σ = [.cell b3_12 (.agg [.bool bound_16, .bool bound_17, .bool bound_18, .bool bound_19])] ∧ kk1 = some res) ?_ (fun HK1 => ?_)
                   ·
                    rintro _ _ ⟨rfl, rfl, hr⟩
                    rw [hkk1] at hr
                    refine g_inBlock ?_
                    refine g_inBlock ?_
                    refine g_run (by kernel_rfl) [(0, .d), (1, .d), (2, .d)] rfl ?_
                    refine r_d rfl rfl rfl (s_move rfl rfl) ?_
                    refine r_d rfl rfl rfl (s_ar (r := ((i_15 + 1 : Nat) : Int)) rfl rfl rfl (by simp [iar]) (by omega)) ?_
                    refine r_d rfl rfl rfl (s_assign rfl rfl) ?_
                    refine r_end ?_
                    refine g_sub [(1, .ptr (enc_S_api_Block b_a0)), (3, .ref b3_12 0 []), (4, .int .i64 ((i_15 + 1 : Nat) : Int))] (Sub.cons' rfl (Sub.cons' rfl (Sub.cons' rfl (Sub.nil _)))) ?_
                    exact IH0 _ _ _ (by omega) ⟨(i_15 + 1), bound_16, bound_17, bound_18, bound_19, rfl, rfl, rfl, (by omega), hr⟩
                   ·
                    refine g_sub [(1, .ptr (enc_S_api_Block b_a0)), (3, .ref b3_12 0 []), (4, .int .i64 ((i_15 : Nat) : Int)), (5, .ptr (enc_S_api_Instr q_20)), (6, .int .i64 0)] (Sub.cons' rfl (Sub.cons' rfl (Sub.cons' rfl (Sub.cons' rfl (Sub.cons' rfl (Sub.nil _)))))) ?_
                    refine g_loop (fun n env σ => ∃ (r_40 : Int) (m1 : Nat), (m1 = n) ∧ (env = [(1, .ptr (enc_S_api_Block b_a0)), (3, .ref b3_12 0 []), (4, .int .i64 (i_15 : Int)), (5, .ptr (enc_S_api_Instr q_20)), (6, .int .i64 r_40)]) ∧ (σ = [.cell b3_12 (.agg [.bool bound_16, .bool bound_17, .bool bound_18, .bool bound_19])]) ∧ (m1 = (q_20.f2_B - r_40 : Int).toNat) ∧ (lf_constraintlaw32_InstrBound_L1 kk1 bound_16 bound_17 bound_18 bound_19 m1 r_40 = some res)) _ ⟨0, _, rfl, rfl, rfl, rfl, hr⟩ ?_
                    rintro n _ _ ⟨r_40, m1, rfl, rfl, rfl, hi1, hr⟩ IH1
                    refine g_int 6 rfl fun hb1 => ?_
                    rcases cntStep r_40 q_20.f2_B m1 hi1 with ⟨hm1, ht1⟩ | ⟨m1', hm1, ht1, hi1', hlt1⟩
                    ·
                     rw [hm1, lf_constraintlaw32_InstrBound_L1] at hr
                     refine g_seq ?_
                     refine g_seq ?_
                     refine g_run (by kernel_rfl) [(0, .d), (1, .d), (2, .d), (3, .d)] rfl ?_
                     refine r_d rfl rfl rfl (s_move rfl rfl) ?_
                     refine r_d rfl rfl rfl (s_fieldAddr rfl fl_api_Instr_2 rfl rfl rfl rfl) ?_
                     refine r_d rfl rfl rfl (s_load rfl rfl (by exact ty_int) rfl) ?_
                     refine r_d rfl rfl rfl (s_cmp rfl rfl rfl rfl) ?_
                     refine r_end ?_
                     refine g_known 121 false rfl ht1 ?_
                     refine g_condF rfl ?_
                     refine g_exit rfl ?_
                     refine g_sub [(1, .ptr (enc_S_api_Block b_a0)), (3, .ref b3_12 0 []), (4, .int .i64 (i_15 : Int))] (Sub.cons' rfl (Sub.cons' rfl (Sub.cons' rfl (Sub.nil _)))) ?_
                     exact HK1 _ _ ⟨rfl, rfl, hr⟩
                    ·
                     rw [hm1, lf_constraintlaw32_InstrBound_L1] at hr
                     refine g_seq ?_
                     refine g_seq ?_
                     refine g_run (by kernel_rfl) [(0, .d), (1, .d), (2, .d), (3, .d)] rfl ?_
                     refine r_d rfl rfl rfl (s_move rfl rfl) ?_
                     refine r_d rfl rfl rfl (s_fieldAddr rfl fl_api_Instr_2 rfl rfl rfl rfl) ?_
                     refine r_d rfl rfl rfl (s_load rfl rfl (by exact ty_int) rfl) ?_
                     refine r_d rfl rfl rfl (s_cmp rfl rfl rfl rfl) ?_
                     refine r_end ?_
                     refine g_int 120 rfl fun hbN120 => ?_
                     refine g_known 121 true rfl ht1 ?_
                     refine g_condT rfl ?_
                     refine g_skip ?_
                     refine g_seq ?_
                     refine g_block ?_
                     refine g_seq ?_
                     refine g_run (by kernel_rfl) [(0, .d), (1, .d), (2, .r), (3, .d)] rfl ?_
                     refine r_d rfl rfl rfl (s_move rfl rfl) ?_
                     obtain ⟨q_41, hq_41, hr⟩ := bindS hr
                     refine r_d rfl rfl rfl (s_indexB4 rfl are__4_bool rfl rfl hq_41) ?_
                     refine r_r rfl rfl rfl (t_loadRef rfl rfl (.head _) (subB4 hq_41) (offB4 hq_41) (by exact ty_bool) rfl) ?_
                     refine r_d rfl rfl rfl (s_not rfl rfl) ?_
                     refine r_end ?_
                     refine g_sB 127 rfl hr (fun h127_41 hr => ?_) (fun h127_41 hr => ?_)
                     ·
                      refine g_condT rfl ?_
                      refine g_seq ?_
                      refine g_run (by kernel_rfl) [(0, .d)] rfl ?_
                      refine r_d rfl rfl rfl (s_assign rfl rfl) ?_
                      refine r_end ?_
                      obtain rfl := Option.some.inj hr
                      refine g_ret Try.func5 _ (.cons (resTmp rfl (Wk.refl _)) .nil) ?_
                      rfl
                     ·
                      refine g_condF rfl ?_
                      refine g_skip ?_
                      refine g_inBlock ?_
                      refine g_run (by kernel_rfl) [(0, .d), (1, .d), (2, .d)] rfl ?_
                      refine r_d rfl rfl rfl (s_move rfl rfl) ?_
                      refine r_d rfl rfl rfl (s_ar (r := r_40 + 1) rfl rfl rfl rfl (by omega)) ?_
                      refine r_d rfl rfl rfl (s_assign rfl rfl) ?_
                      refine r_end ?_
                      refine g_sub [(1, .ptr (enc_S_api_Block b_a0)), (3, .ref b3_12 0 []), (4, .int .i64 ((i_15 : Nat) : Int)), (5, .ptr (enc_S_api_Instr q_20)), (6, .int .i64 (r_40 + 1))] (Sub.cons' rfl (Sub.cons' rfl (Sub.cons' rfl (Sub.cons' rfl (Sub.cons' rfl (Sub.nil _)))))) ?_
                      exact IH1 _ _ _ (by omega) ⟨(r_40 + 1), _, rfl, rfl, rfl, hi1', hr⟩
                  ·
                   refine g_condF rfl ?_
                   refine g_run (by kernel_rfl) [(0, .d), (1, .d)] rfl ?_
                   refine r_d rfl rfl rfl (s_cmp rfl rfl rfl rfl) ?_
                   refine r_d rfl rfl rfl (s_assign rfl rfl) ?_
                   refine r_end ?_
                   refine g_sB 115 rfl hr (fun h115_42 hr => ?_) (fun h115_42 hr => ?_)
                   ·
                    refine g_condT rfl ?_
                    refine g_seq ?_
                    refine g_run (by kernel_rfl) [(0, .d)] rfl ?_
                    refine r_d rfl rfl rfl (s_assign rfl rfl) ?_
                    refine r_end ?_
                    obtain ⟨kk2, hkk2, hr⟩ := exK (fun k => lf_constraintlaw32_InstrBound_L2 k bound_16 bound_17 bound_18 bound_19 (q_20.f2_B - 0 : Int).toNat 0) hr
                    refine g_blockJ (fun env σ => env = [(1, .ptr (enc_S_api_Block b_a0)), (3, .ref b3_12 0 []), (4, .int .i64 (i_15 : Int))] ∧ σ = [.cell b3_12 (.agg [.bool bound_16, .bool bound_17, .bool bound_18, .bool bound_19])] ∧ kk2 = some res) ?_ (fun HK2 => ?_)
                    ·
                     rintro _ _ ⟨rfl, rfl, hr⟩
                     rw [hkk2] at hr
                     refine g_inBlock ?_
                     refine g_inBlock ?_
                     refine g_run (by kernel_rfl) [(0, .d), (1, .d), (2, .d)] rfl ?_
                     refine r_d rfl rfl rfl (s_move rfl rfl) ?_
                     refine r_d rfl rfl rfl (s_ar (r := ((i_15 + 1 : Nat) : Int)) rfl rfl rfl (by simp [iar]) (by omega)) ?_
                     refine r_d rfl rfl rfl (s_assign rfl rfl) ?_
                     refine r_end ?_
                     refine g_sub [(1, .ptr (enc_S_api_Block b_a0)), (3, .ref b3_12 0 []), (4, .int .i64 ((i_15 + 1 : Nat) : Int))] (Sub.cons' rfl (Sub.cons' rfl (Sub.cons' rfl (Sub.nil _)))) ?_
                     exact IH0 _ _ _ (by omega) ⟨(i_15 + 1), bound_16, bound_17, bound_18, bound_19, rfl, rfl, rfl, (by omega), hr⟩
                    ·
                     refine g_sub [(1, .ptr (enc_S_api_Block b_a0)), (3, .ref b3_12 0 []), (4, .int .i64 ((i_15 : Nat) : Int)), (5, .ptr (enc_S_api_Instr q_20)), (6, .int .i64 0)] (Sub.cons' rfl (Sub.cons' rfl (Sub.cons' rfl (Sub.cons' rfl (Sub.cons' rfl (Sub.nil _)))))) ?_
                     refine g_loop (fun n env σ => ∃ (r_44 : Int) (m2 : Nat), (m2 = n) ∧ (env = [(1, .ptr (enc_S_api_Block b_a0)), (3, .ref b3_12 0 []), (4, .int .i64 (i_15 : Int)), (5, .ptr (enc_S_api_Instr q_20)), (6, .int .i64 r_44)]) ∧ (σ = [.cell b3_12 (.agg [.bool bound_16, .bool bound_17, .bool bound_18, .bool bound_19])]) ∧ (m2 = (q_20.f2_B - r_44 : Int).toNat) ∧ (lf_constraintlaw32_InstrBound_L2 kk2 bound_16 bound_17 bound_18 bound_19 m2 r_44 = some res)) _ ⟨0, _, rfl, rfl, rfl, rfl, hr⟩ ?_
                     rintro n _ _ ⟨r_44, m2, rfl, rfl, rfl, hi2, hr⟩ IH2
                     refine g_int 6 rfl fun hb2 => ?_
                     rcases cntStep r_44 q_20.f2_B m2 hi2 with ⟨hm2, ht2⟩ | ⟨m2', hm2, ht2, hi2', hlt2⟩
                     ·
                      rw [hm2, lf_constraintlaw32_InstrBound_L2] at hr
                      refine g_seq ?_
                      refine g_seq ?_
                      refine g_run (by kernel_rfl) [(0, .d), (1, .d), (2, .d), (3, .d)] rfl ?_
                      refine r_d rfl rfl rfl (s_move rfl rfl) ?_
                      refine r_d rfl rfl rfl (s_fieldAddr rfl fl_api_Instr_2 rfl rfl rfl rfl) ?_
                      refine r_d rfl rfl rfl (s_load rfl rfl (by exact ty_int) rfl) ?_
                      refine r_d rfl rfl rfl (s_cmp rfl rfl rfl rfl) ?_
                      refine r_end ?_
                      refine g_known 121 false rfl ht2 ?_
                      refine g_condF rfl ?_
                      refine g_exit rfl ?_
                      refine g_sub [(1, .ptr (enc_S_api_Block b_a0)), (3, .ref b3_12 0 []), (4, .int .i64 (i_15 : Int))] (Sub.cons' rfl (Sub.cons' rfl (Sub.cons' rfl (Sub.nil _)))) ?_
                      exact HK2 _ _ ⟨rfl, rfl, hr⟩
                     ·
                      rw [hm2, lf_constraintlaw32_InstrBound_L2] at hr
                      refine g_seq ?_
                      refine g_seq ?_
                      refine g_run (by kernel_rfl) [(0, .d), (1, .d), (2, .d), (3, .d)] rfl ?_
                      refine r_d rfl rfl rfl (s_move rfl rfl) ?_
                      refine r_d rfl rfl rfl (s_fieldAddr rfl fl_api_Instr_2 rfl rfl rfl rfl) ?_
                      refine r_d rfl rfl rfl (s_load rfl rfl (by exact ty_int) rfl) ?_
                      refine r_d rfl rfl rfl (s_cmp rfl rfl rfl rfl) ?_
                      refine r_end ?_
                      refine g_int 120 rfl fun hbN120 => ?_
                      refine g_known 121 true rfl ht2 ?_
                      refine g_condT rfl ?_
                      refine g_skip ?_
                      refine g_seq ?_
                      refine g_block ?_
                      refine g_seq ?_
                      refine g_run (by kernel_rfl) [(0, .d), (1, .d), (2, .r), (3, .d)] rfl ?_
                      refine r_d rfl rfl rfl (s_move rfl rfl) ?_
                      obtain ⟨q_45, hq_45, hr⟩ := bindS hr
                      refine r_d rfl rfl rfl (s_indexB4 rfl are__4_bool rfl rfl hq_45) ?_
                      refine r_r rfl rfl rfl (t_loadRef rfl rfl (.head _) (subB4 hq_45) (offB4 hq_45) (by exact ty_bool) rfl) ?_
                      refine r_d rfl rfl rfl (s_not rfl rfl) ?_
                      refine r_end ?_
                      refine g_sB 127 rfl hr (fun h127_45 hr => ?_) (fun h127_45 hr => ?_)
                      ·
                       refine g_condT rfl ?_
                       refine g_seq ?_
                       refine g_run (by kernel_rfl) [(0, .d)] rfl ?_
                       refine r_d rfl rfl rfl (s_assign rfl rfl) ?_
                       refine r_end ?_
                       obtain rfl := Option.some.inj hr
                       refine g_ret Try.func5 _ (.cons (resTmp rfl (Wk.refl _)) .nil) ?_
                       rfl
                      ·
                       refine g_condF rfl ?_
                       refine g_skip ?_
                       refine g_inBlock ?_
                       refine g_run (by kernel_rfl) [(0, .d), (1, .d), (2, .d)] rfl ?_
                       refine r_d rfl rfl rfl (s_move rfl rfl) ?_
                       refine r_d rfl rfl rfl (s_ar (r := r_44 + 1) rfl rfl rfl rfl (by omega)) ?_
                       refine r_d rfl rfl rfl (s_assign rfl rfl) ?_
                       refine r_end ?_
                       refine g_sub [(1, .ptr (enc_S_api_Block b_a0)), (3, .ref b3_12 0 []), (4, .int .i64 ((i_15 : Nat) : Int)), (5, .ptr (enc_S_api_Instr q_20)), (6, .int .i64 (r_44 + 1))] (Sub.cons' rfl (Sub.cons' rfl (Sub.cons' rfl (Sub.cons' rfl (Sub.cons' rfl (Sub.nil _)))))) ?_
                       exact IH2 _ _ _ (by omega) ⟨(r_44 + 1), _, rfl, rfl, rfl, hi2', hr⟩
                   ·
                    refine g_condF rfl ?_
                    refine g_skip ?_
                    refine g_inBlock ?_
                    refine g_inBlock ?_
                    refine g_run (by kernel_rfl) [(0, .d), (1, .d), (2, .d)] rfl ?_
                    refine r_d rfl rfl rfl (s_move rfl rfl) ?_
                    refine r_d rfl rfl rfl (s_ar (r := ((i_15 + 1 : Nat) : Int)) rfl rfl rfl (by simp [iar]) (by omega)) ?_
                    refine r_d rfl rfl rfl (s_assign rfl rfl) ?_
                    refine r_end ?_
                    refine g_sub [(1, .ptr (enc_S_api_Block b_a0)), (3, .ref b3_12 0 []), (4, .int .i64 ((i_15 + 1 : Nat) : Int))] (Sub.cons' rfl (Sub.cons' rfl (Sub.cons' rfl (Sub.nil _)))) ?_
                    exact IH0 _ _ _ (by omega) ⟨(i_15 + 1), bound_16, bound_17, bound_18, bound_19, rfl, rfl, rfl, (by omega), hr⟩

end Go.Proofs.Ytbdhjkneoandiaa

