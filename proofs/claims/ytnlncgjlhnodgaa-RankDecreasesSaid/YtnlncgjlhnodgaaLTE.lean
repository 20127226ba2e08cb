/-
  Texts of the seat, merged.
-/
import Derived.Test.YtnlncgjlhnodgaaLTA
import Derived.Test.YtnlncgjlhnodgaaLTB
import Derived.Test.YtnlncgjlhnodgaaLTC
import Derived.Test.YtnlncgjlhnodgaaLTD
import Derived.Test.YtnlncgjlhnodgaaChecked
import Derived.WalkKit
import Derived.Lib.Hide
import Derived.Lib.AppendStr
import Derived.Deep.AppendLies
import Derived.Deep.AppendSrc
import Derived.Deep.Draws
import Derived.Deep.QuietTactic
import Derived.BigQuiet
import Derived.Deep.RegionWith
import Derived.Maps.AppendAt
import Derived.WalkSpells
import Derived.Orders
import Derived.Deep.Slices
import Derived.Deep.Fields
import Derived.ChangeArms
import Derived.Lib.OthersKept
import Derived.Lib.TrimU
import Derived.Lib.IndexAny
import Derived.Deep.LoopGhost
import Derived.Lib.Bytealg
import Derived.RangeFuncBox
import Derived.RangeFuncNested
import Derived.RangeFuncBound
import Derived.RangeFuncCalls
import Derived.RangeFuncLeaves
import Derived.Shelf.Abstract
import Derived.OwnWalkIn
import Derived.TacticsInMore
import Derived.LoopNIn
import Derived.LoopIn
import Derived.RangeFuncWrites
import Derived.Maps.OwnIn
import Derived.Maps.Views
import Derived.Laws.OwnMore
import Derived.Maps.OwnSet
import Derived.Test.YtnlncgjlhnodgaaRows
import Derived.ProofKit
import Derived.OpenShut
import Derived.Carry
import Derived.Great.BuildSlice
import Derived.ArgAppend
import Derived.Laws.MakeOwn
import Derived.Laws.Cover3
import Derived.Laws.CopyRow
import Derived.MapKept
import Derived.Maps.RangeRun
set_option linter.unusedVariables false
set_option linter.unusedSimpArgs false
set_option linter.unnecessarySimpa false
set_option linter.all false

namespace Go.Proofs.Ytnlncgjlhnodgaa
set_option maxRecDepth 100000
open Go.RowKit

set_option maxHeartbeats 1000000 in
theorem lg_constraintlaw41_awake (fuel : Nat) (res : Bool) (hr : lf_constraintlaw41_awake fuel = some res) : Gives Try.prog 7 [] (.bool res) := by
  unfold lf_constraintlaw41_awake at hr
  refine spec_env [] Try.func7 rfl rfl fun K hK => ?_
  refine g_seq ?_
  refine g_run (by kernel_rfl) [(0, .d)] rfl ?_
  refine r_d rfl rfl rfl (s_assign rfl rfl) ?_
  refine r_end ?_
  refine g_seq ?_
  refine g_run (by kernel_rfl) [(0, .d), (1, .d), (2, .w), (3, .w), (4, .w), (5, .w)] rfl ?_
  refine r_d rfl rfl rfl (s_build rfl bt_api_Term (.cons rfl (Wk.refl _) .nil) (.cons rfl rfl rfl (.nil _))) ?_
  refine r_d rfl rfl rfl (s_build rfl bt_api_Term (.cons rfl (Wk.refl _) (.cons rfl (Wk.refl _) .nil)) (.cons rfl rfl rfl (.cons rfl rfl rfl (.nil _)))) ?_
  refine r_w rfl rfl rfl (s_alloc rfl zv_api_Term) ?_
  rintro _ _ ⟨b1_0, rfl, rfl⟩
  refine r_w rfl rfl rfl (s_alloc rfl zv_api_Term) ?_
  rintro _ _ ⟨b2_1, rfl, rfl⟩
  refine r_w01 rfl rfl rfl (t_store0 _ rfl rfl rfl (Wk.refl _) (pf1 _ _ _) (by exact ty_api_Term) rfl rfl rfl) ?_
  refine r_w01 rfl rfl rfl (t_store0 _ rfl rfl rfl (Wk.refl _) (pf1 _ _ _) (by exact ty_api_Term) rfl rfl rfl) ?_
  refine r_end ?_
  refine g_freeze 1 b1_0 rfl (pf1 _ _ _) ?_
  refine g_freeze 2 b2_1 rfl (pf0 _) ?_
  refine g_seq ?_
  refine g_run (by kernel_rfl) [(0, .d), (1, .d), (2, .d), (3, .w), (4, .w)] rfl ?_
  refine r_d rfl rfl rfl (s_load rfl rfl (by exact ty_api_Term) rfl) ?_
  refine r_d rfl rfl rfl (m_lit (f := encT) [.tmp 17] [(T.mk 1 0 ⟨#[]⟩ [])] rfl el_L_api_Term rfl rfl (by decide) (by decide) (.cons rfl (Wk.refl _) .nil) sz_encT (fun _ => rfl)) ?_
  refine r_d rfl rfl rfl (s_build rfl bt_api_Term (.cons rfl (Wk.refl _) (.cons rfl (Wk.refl _) (.cons rfl (Wk.full _) .nil))) (.cons rfl rfl rfl (.cons rfl rfl rfl (.cons rfl rfl rfl (.nil _))))) ?_
  refine r_w rfl rfl rfl (s_alloc rfl zv_api_Term) ?_
  rintro _ _ ⟨b3_2, rfl, rfl⟩
  refine r_w01 rfl rfl rfl (t_store0 _ rfl rfl rfl (Wk.refl _) (pf0 _) (by exact ty_api_Term) rfl rfl rfl) ?_
  refine r_end ?_
  refine g_freeze 3 b3_2 rfl (pf0 _) ?_
  refine g_seq ?_
  refine g_run (by kernel_rfl) [(0, .d), (1, .d), (2, .w), (3, .w)] rfl ?_
  refine r_d rfl rfl rfl (m_lit (f := (D.int .i64)) [.const (.int .i64 (1))] [1] rfl el_L_int rfl rfl (by decide) (by decide) (.cons rfl (Wk.refl _) .nil) (fun _ => rfl) (fun _ => rfl)) ?_
  refine r_d rfl rfl rfl (s_build rfl bt_api_Rank (.cons rfl (Wk.refl _) (.cons rfl (Wk.full _) .nil)) (.cons rfl rfl rfl (.cons rfl rfl rfl (.nil _)))) ?_
  refine r_w rfl rfl rfl (s_alloc rfl zv_api_Rank) ?_
  rintro _ _ ⟨b4_3, rfl, rfl⟩
  refine r_w01 rfl rfl rfl (t_store0 _ rfl rfl rfl (Wk.refl _) (pf0 _) (by exact ty_api_Rank) rfl rfl rfl) ?_
  refine r_end ?_
  refine g_freeze 4 b4_3 rfl (pf0 _) ?_
  refine g_seq ?_
  refine g_run (by kernel_rfl) [(0, .d), (1, .d), (2, .d), (3, .d), (4, .d), (5, .d), (6, .d), (7, .d), (8, .d), (9, .w), (10, .w)] rfl ?_
  refine r_d rfl rfl rfl (s_load rfl rfl (by exact ty_api_Term) rfl) ?_
  refine r_d rfl rfl rfl (m_lit (f := encT) [.tmp 22] [(T.mk 2 0 ⟨#[102]⟩ [(T.mk 1 0 ⟨#[]⟩ [])])] rfl el_L_api_Term rfl rfl (by decide) (by decide) (.cons rfl (Wk.refl _) .nil) sz_encT (fun _ => rfl)) ?_
  refine r_d rfl rfl rfl (s_build rfl bt_api_Atom (.cons rfl (Wk.refl _) (.cons rfl (Wk.full _) .nil)) (.cons rfl rfl rfl (.cons rfl rfl rfl (.nil _)))) ?_
  refine r_d rfl rfl rfl (m_lit (f := encA) [.tmp 24] [(⟨⟨#[112]⟩, [(T.mk 2 0 ⟨#[102]⟩ [(T.mk 1 0 ⟨#[]⟩ [])])]⟩ : At)] rfl el_L_api_Atom rfl rfl (by decide) (by decide) (.cons rfl (Wk.refl _) .nil) sz_encA (fun _ => rfl)) ?_
  refine r_d rfl rfl rfl (s_load rfl rfl (by exact ty_api_Term) rfl) ?_
  refine r_d rfl rfl rfl (m_lit (f := encT) [.tmp 26] [(T.mk 1 0 ⟨#[]⟩ [])] rfl el_L_api_Term rfl rfl (by decide) (by decide) (.cons rfl (Wk.refl _) .nil) sz_encT (fun _ => rfl)) ?_
  refine r_d rfl rfl rfl (s_build rfl bt_api_Goal (.cons rfl (Wk.refl _) (.cons rfl (Wk.full _) .nil)) (.cons rfl rfl rfl (.cons rfl rfl rfl (.nil _)))) ?_
  refine r_d rfl rfl rfl (m_lit (f := encG) [.tmp 28] [(⟨0, ⟨#[112]⟩, [(T.mk 1 0 ⟨#[]⟩ [])]⟩ : Gl)] rfl el_L_api_Goal rfl rfl (by decide) (by decide) (.cons rfl (Wk.refl _) .nil) sz_encG (fun _ => rfl)) ?_
  refine r_d rfl rfl rfl (s_build rfl bt_api_Rule (.cons rfl (Wk.full _) (.cons rfl (Wk.full _) (.cons rfl (Wk.refl _) .nil))) (.cons rfl rfl rfl (.cons rfl rfl rfl (.cons rfl rfl rfl (.nil _))))) ?_
  refine r_w rfl rfl rfl (s_alloc rfl zv_api_Rule) ?_
  rintro _ _ ⟨b5_4, rfl, rfl⟩
  refine r_w01 rfl rfl rfl (t_store0 _ rfl rfl rfl (Wk.refl _) (pf0 _) (by exact ty_api_Rule) rfl rfl rfl) ?_
  refine r_end ?_
  refine g_freeze 5 b5_4 rfl (pf0 _) ?_
  refine g_seq ?_
  refine g_run (by kernel_rfl) [(0, .d), (1, .d), (2, .d), (3, .d), (4, .d), (5, .d), (6, .d), (7, .d), (8, .d), (9, .w), (10, .w)] rfl ?_
  refine r_d rfl rfl rfl (s_load rfl rfl (by exact ty_api_Term) rfl) ?_
  refine r_d rfl rfl rfl (m_lit (f := encT) [.tmp 31] [(T.mk 1 0 ⟨#[]⟩ [])] rfl el_L_api_Term rfl rfl (by decide) (by decide) (.cons rfl (Wk.refl _) .nil) sz_encT (fun _ => rfl)) ?_
  refine r_d rfl rfl rfl (s_build rfl bt_api_Atom (.cons rfl (Wk.refl _) (.cons rfl (Wk.full _) .nil)) (.cons rfl rfl rfl (.cons rfl rfl rfl (.nil _)))) ?_
  refine r_d rfl rfl rfl (m_lit (f := encA) [.tmp 33] [(⟨⟨#[112]⟩, [(T.mk 1 0 ⟨#[]⟩ [])]⟩ : At)] rfl el_L_api_Atom rfl rfl (by decide) (by decide) (.cons rfl (Wk.refl _) .nil) sz_encA (fun _ => rfl)) ?_
  refine r_d rfl rfl rfl (s_load rfl rfl (by exact ty_api_Term) rfl) ?_
  refine r_d rfl rfl rfl (m_lit (f := encT) [.tmp 35] [(T.mk 2 0 ⟨#[102]⟩ [(T.mk 1 0 ⟨#[]⟩ [])])] rfl el_L_api_Term rfl rfl (by decide) (by decide) (.cons rfl (Wk.refl _) .nil) sz_encT (fun _ => rfl)) ?_
  refine r_d rfl rfl rfl (s_build rfl bt_api_Goal (.cons rfl (Wk.refl _) (.cons rfl (Wk.full _) .nil)) (.cons rfl rfl rfl (.cons rfl rfl rfl (.nil _)))) ?_
  refine r_d rfl rfl rfl (m_lit (f := encG) [.tmp 37] [(⟨0, ⟨#[112]⟩, [(T.mk 2 0 ⟨#[102]⟩ [(T.mk 1 0 ⟨#[]⟩ [])])]⟩ : Gl)] rfl el_L_api_Goal rfl rfl (by decide) (by decide) (.cons rfl (Wk.refl _) .nil) sz_encG (fun _ => rfl)) ?_
  refine r_d rfl rfl rfl (s_build rfl bt_api_Rule (.cons rfl (Wk.full _) (.cons rfl (Wk.full _) (.cons rfl (Wk.refl _) .nil))) (.cons rfl rfl rfl (.cons rfl rfl rfl (.cons rfl rfl rfl (.nil _))))) ?_
  refine r_w rfl rfl rfl (s_alloc rfl zv_api_Rule) ?_
  rintro _ _ ⟨b6_5, rfl, rfl⟩
  refine r_w01 rfl rfl rfl (t_store0 _ rfl rfl rfl (Wk.refl _) (pf0 _) (by exact ty_api_Rule) rfl rfl rfl) ?_
  refine r_end ?_
  refine g_freeze 6 b6_5 rfl (pf0 _) ?_
  refine g_seq ?_
  refine g_run (by kernel_rfl) [(0, .d), (1, .d), (2, .d), (3, .d), (4, .d), (5, .d), (6, .d), (7, .d), (8, .d), (9, .w), (10, .w)] rfl ?_
  refine r_d rfl rfl rfl (s_load rfl rfl (by exact ty_api_Term) rfl) ?_
  refine r_d rfl rfl rfl (m_lit (f := encT) [.tmp 40] [(T.mk 2 0 ⟨#[102]⟩ [(T.mk 1 0 ⟨#[]⟩ [])])] rfl el_L_api_Term rfl rfl (by decide) (by decide) (.cons rfl (Wk.refl _) .nil) sz_encT (fun _ => rfl)) ?_
  refine r_d rfl rfl rfl (s_build rfl bt_api_Atom (.cons rfl (Wk.refl _) (.cons rfl (Wk.full _) .nil)) (.cons rfl rfl rfl (.cons rfl rfl rfl (.nil _)))) ?_
  refine r_d rfl rfl rfl (m_lit (f := encA) [.tmp 42] [(⟨⟨#[112]⟩, [(T.mk 2 0 ⟨#[102]⟩ [(T.mk 1 0 ⟨#[]⟩ [])])]⟩ : At)] rfl el_L_api_Atom rfl rfl (by decide) (by decide) (.cons rfl (Wk.refl _) .nil) sz_encA (fun _ => rfl)) ?_
  refine r_d rfl rfl rfl (s_load rfl rfl (by exact ty_api_Term) rfl) ?_
  refine r_d rfl rfl rfl (m_lit (f := encT) [.tmp 44] [(T.mk 1 1 ⟨#[]⟩ [])] rfl el_L_api_Term rfl rfl (by decide) (by decide) (.cons rfl (Wk.refl _) .nil) sz_encT (fun _ => rfl)) ?_
  refine r_d rfl rfl rfl (s_build rfl bt_api_Goal (.cons rfl (Wk.refl _) (.cons rfl (Wk.full _) .nil)) (.cons rfl rfl rfl (.cons rfl rfl rfl (.nil _)))) ?_
  refine r_d rfl rfl rfl (m_lit (f := encG) [.tmp 46] [(⟨0, ⟨#[112]⟩, [(T.mk 1 1 ⟨#[]⟩ [])]⟩ : Gl)] rfl el_L_api_Goal rfl rfl (by decide) (by decide) (.cons rfl (Wk.refl _) .nil) sz_encG (fun _ => rfl)) ?_
  refine r_d rfl rfl rfl (s_build rfl bt_api_Rule (.cons rfl (Wk.full _) (.cons rfl (Wk.full _) (.cons rfl (Wk.refl _) .nil))) (.cons rfl rfl rfl (.cons rfl rfl rfl (.cons rfl rfl rfl (.nil _))))) ?_
  refine r_w rfl rfl rfl (s_alloc rfl zv_api_Rule) ?_
  rintro _ _ ⟨b7_6, rfl, rfl⟩
  refine r_w01 rfl rfl rfl (t_store0 _ rfl rfl rfl (Wk.refl _) (pf0 _) (by exact ty_api_Rule) rfl rfl rfl) ?_
  refine r_end ?_
  refine g_freeze 7 b7_6 rfl (pf0 _) ?_
  refine g_seq ?_
  refine g_run (by kernel_rfl) [(0, .d), (1, .d), (2, .d)] rfl ?_
  refine r_d rfl rfl rfl (s_load rfl rfl (by exact ty_api_Rank) rfl) ?_
  refine r_d rfl rfl rfl (m_lit (f := enc_S_api_Rank) [.tmp 49] [(⟨⟨#[112]⟩, 0, [1]⟩ : S_api_Rank)] rfl el_L_api_Rank rfl rfl (by decide) (by decide) (.cons rfl (Wk.refl _) .nil) sz_S_api_Rank (fun _ => rfl)) ?_
  refine r_d rfl rfl rfl (s_assign rfl rfl) ?_
  refine r_end ?_
  refine g_seq ?_
  refine g_run (by kernel_rfl) [(0, .d), (1, .d), (2, .d), (3, .d), (4, .d), (5, .d), (6, .d), (7, .d), (8, .d), (9, .d), (10, .d), (11, .d)] rfl ?_
  refine r_d rfl rfl rfl (s_move rfl rfl) ?_
  refine r_d rfl rfl rfl (s_build rfl bt_api_Term (.cons rfl (Wk.refl _) .nil) (.cons rfl rfl rfl (.nil _))) ?_
  refine r_d rfl rfl rfl (m_lit (f := encT) [.tmp 53] [(T.mk 0 7 ⟨#[]⟩ [])] rfl el_L_api_Term rfl rfl (by decide) (by decide) (.cons rfl (Wk.refl _) .nil) sz_encT (fun _ => rfl)) ?_
  refine r_d rfl rfl rfl (s_build rfl bt_api_Term (.cons rfl (Wk.refl _) (.cons rfl (Wk.refl _) (.cons rfl (Wk.full _) .nil))) (.cons rfl rfl rfl (.cons rfl rfl rfl (.cons rfl rfl rfl (.nil _))))) ?_
  refine r_d rfl rfl rfl (m_lit (f := encT) [.tmp 55] [(T.mk 2 0 ⟨#[102]⟩ [(T.mk 0 7 ⟨#[]⟩ [])])] rfl el_L_api_Term rfl rfl (by decide) (by decide) (.cons rfl (Wk.refl _) .nil) sz_encT (fun _ => rfl)) ?_
  refine r_d rfl rfl rfl (s_build rfl bt_api_Atom (.cons rfl (Wk.refl _) (.cons rfl (Wk.full _) .nil)) (.cons rfl rfl rfl (.cons rfl rfl rfl (.nil _)))) ?_
  obtain ⟨r_8, hr_8, hr⟩ := bindS hr
  refine r_d rfl rfl rfl (s_callD rfl cl_rank_Of (.cons rfl (Wk.full _) (.cons rfl (Wk.refl _) .nil)) (lg_rank_Of _ _ _ hr_8)) ?_
  refine r_d rfl rfl rfl (s_move rfl rfl) ?_
  refine r_d rfl rfl rfl (s_extract rfl rfl rfl) ?_
  refine r_d rfl rfl rfl (s_extract rfl rfl rfl) ?_
  refine r_d rfl rfl rfl (s_assign rfl rfl) ?_
  refine r_d rfl rfl rfl (s_assign rfl rfl) ?_
  refine r_end ?_
  refine g_seq ?_
  refine g_run (by kernel_rfl) [(0, .d), (1, .d), (2, .d), (3, .d), (4, .d), (5, .d), (6, .d), (7, .d), (8, .d), (9, .d), (10, .d)] rfl ?_
  refine r_d rfl rfl rfl (s_move rfl rfl) ?_
  refine r_d rfl rfl rfl (s_fieldAddr rfl fl_api_Rule_2 rfl rfl rfl rfl) ?_
  refine r_d rfl rfl rfl (s_load rfl rfl (by exact ty_L_api_Atom) rfl) ?_
  obtain ⟨q_9, hq_9, hr⟩ := bindS hr
  refine r_d rfl rfl rfl (m_index (f := encA) [(⟨⟨#[112]⟩, [(T.mk 2 0 ⟨#[102]⟩ [(T.mk 1 0 ⟨#[]⟩ [])])]⟩ : At)] rfl el_L_api_Atom rfl (asl rfl) rfl hq_9 sz_encA rfl) ?_
  refine r_d rfl rfl rfl (s_load rfl rfl (by exact ty_api_Atom) (sz_encA _)) ?_
  obtain ⟨r_10, hr_10, hr⟩ := bindS hr
  refine r_d rfl rfl rfl (s_callD rfl cl_rank_Of (.cons rfl (Wk.full _) (.cons rfl (Wk.refl _) .nil)) (lg_rank_Of _ _ _ hr_10)) ?_
  refine r_d rfl rfl rfl (s_move rfl rfl) ?_
  refine r_d rfl rfl rfl (s_extract rfl rfl rfl) ?_
  refine r_d rfl rfl rfl (s_extract rfl rfl rfl) ?_
  refine r_d rfl rfl rfl (s_assign rfl rfl) ?_
  refine r_d rfl rfl rfl (s_assign rfl rfl) ?_
  refine r_end ?_
  refine g_seq ?_
  refine g_run (by kernel_rfl) [(0, .d), (1, .d), (2, .d), (3, .d), (4, .d), (5, .d), (6, .d), (7, .d), (8, .d)] rfl ?_
  refine r_d rfl rfl rfl (s_move rfl rfl) ?_
  refine r_d rfl rfl rfl (s_fieldAddr rfl fl_api_Rule_2 rfl rfl rfl rfl) ?_
  refine r_d rfl rfl rfl (s_load rfl rfl (by exact ty_L_api_Atom) rfl) ?_
  obtain ⟨r_11, hr_11, hr⟩ := bindS hr
  refine r_d rfl rfl rfl (s_callD rfl cl_rank_Total (.cons rfl (Wk.full _) (.cons rfl (Wk.refl _) .nil)) (lg_rank_Total _ _ _ hr_11)) ?_
  refine r_d rfl rfl rfl (s_move rfl rfl) ?_
  refine r_d rfl rfl rfl (s_extract rfl rfl rfl) ?_
  refine r_d rfl rfl rfl (s_extract rfl rfl rfl) ?_
  refine r_d rfl rfl rfl (s_assign rfl rfl) ?_
  refine r_d rfl rfl rfl (s_assign rfl rfl) ?_
  refine r_end ?_
  refine g_seq ?_
  refine g_run (by kernel_rfl) [(0, .d), (1, .d), (2, .d), (3, .d), (4, .d), (5, .d), (6, .d), (7, .d), (8, .d), (9, .d), (10, .d), (11, .d), (12, .d), (13, .d), (14, .d), (15, .d), (16, .d), (17, .d), (18, .d), (19, .d), (20, .d), (21, .d), (22, .d), (23, .d), (24, .d), (25, .d), (26, .d), (27, .d), (28, .d), (29, .d), (30, .d), (31, .d), (32, .d), (33, .d), (34, .d), (35, .d), (36, .d), (37, .d), (38, .d), (39, .d), (40, .d), (41, .d), (42, .d), (43, .d), (44, .d), (45, .d), (46, .d), (47, .d), (48, .d)] rfl ?_
  refine r_d rfl rfl rfl (s_move rfl rfl) ?_
  refine r_d rfl rfl rfl (s_cmp rfl rfl rfl rfl) ?_
  refine r_d rfl rfl rfl (s_move rfl rfl) ?_
  refine r_sB 79 rfl hr (fun h79_11 hr => ?_) (fun h79_11 hr => ?_)
  ·
    refine r_d rfl rfl rfl (s_move rfl rfl) ?_
    refine r_d rfl rfl rfl (s_pickT rfl rfl rfl) ?_
    refine r_d rfl rfl rfl (s_move rfl rfl) ?_
    refine r_sB 82 rfl hr (fun h82_12 hr => ?_) (fun h82_12 hr => ?_)
    ·
      refine r_d rfl rfl rfl (s_move rfl rfl) ?_
      refine r_d rfl rfl rfl (s_not rfl rfl) ?_
      refine r_d rfl rfl rfl (s_pickT rfl rfl rfl) ?_
      refine r_d rfl rfl rfl (s_move rfl rfl) ?_
      refine r_sB 86 rfl hr (fun h86_13 hr => ?_) (fun h86_13 hr => ?_)
      ·
        refine r_d rfl rfl rfl (s_move rfl rfl) ?_
        refine r_d rfl rfl rfl (s_cmp rfl rfl rfl rfl) ?_
        refine r_d rfl rfl rfl (s_pickT rfl rfl rfl) ?_
        refine r_d rfl rfl rfl (s_move rfl rfl) ?_
        refine r_sB 90 rfl hr (fun h90_14 hr => ?_) (fun h90_14 hr => ?_)
        ·
          refine r_d rfl rfl rfl (s_move rfl rfl) ?_
          refine r_d rfl rfl rfl (s_load rfl rfl (by exact ty_api_Rule) rfl) ?_
          obtain ⟨r_16, hr_16, hr⟩ := bindS hr
          refine r_d rfl rfl rfl (s_callD rfl cl_rank_Decreases (.cons rfl (Wk.full _) (.cons rfl (Wk.refl _) .nil)) (lg_rank_Decreases fuel _ _ _ hr_16)) ?_
          refine r_d rfl rfl rfl (s_pickT rfl rfl rfl) ?_
          refine r_d rfl rfl rfl (s_move rfl rfl) ?_
          refine r_sB 95 rfl hr (fun h95_16 hr => ?_) (fun h95_16 hr => ?_)
          ·
            refine r_d rfl rfl rfl (s_move rfl rfl) ?_
            refine r_d rfl rfl rfl (s_load rfl rfl (by exact ty_api_Rule) rfl) ?_
            obtain ⟨r_18, hr_18, hr⟩ := bindS hr
            refine r_d rfl rfl rfl (s_callD rfl cl_rank_Decreases (.cons rfl (Wk.full _) (.cons rfl (Wk.refl _) .nil)) (lg_rank_Decreases fuel _ _ _ hr_18)) ?_
            refine r_d rfl rfl rfl (s_not rfl rfl) ?_
            refine r_d rfl rfl rfl (s_pickT rfl rfl rfl) ?_
            refine r_d rfl rfl rfl (s_move rfl rfl) ?_
            refine r_sB 101 rfl hr (fun h101_18 hr => ?_) (fun h101_18 hr => ?_)
            ·
              refine r_d rfl rfl rfl (s_move rfl rfl) ?_
              refine r_d rfl rfl rfl (s_load rfl rfl (by exact ty_api_Rule) rfl) ?_
              obtain ⟨r_20, hr_20, hr⟩ := bindS hr
              refine r_d rfl rfl rfl (s_callD rfl cl_rank_Decreases (.cons rfl (Wk.full _) (.cons rfl (Wk.refl _) .nil)) (lg_rank_Decreases fuel _ _ _ hr_20)) ?_
              refine r_d rfl rfl rfl (s_not rfl rfl) ?_
              refine r_d rfl rfl rfl (s_pickT rfl rfl rfl) ?_
              refine r_d rfl rfl rfl (s_move rfl rfl) ?_
              refine r_sB 107 rfl hr (fun h107_20 hr => ?_) (fun h107_20 hr => ?_)
              ·
                refine r_d rfl rfl rfl (s_build rfl bt_api_Decl (.cons rfl (Wk.refl _) (.cons rfl (Wk.refl _) .nil)) (.cons rfl rfl rfl (.cons rfl rfl rfl (.nil _)))) ?_
                refine r_d rfl rfl rfl (m_lit (f := enc_S_api_Decl) [.tmp 108] [(⟨⟨#[112]⟩, 1⟩ : S_api_Decl)] rfl el_L_api_Decl rfl rfl (by decide) (by decide) (.cons rfl (Wk.refl _) .nil) sz_S_api_Decl (fun _ => rfl)) ?_
                refine r_d rfl rfl rfl (s_load rfl rfl (by exact ty_api_Rule) rfl) ?_
                refine r_d rfl rfl rfl (m_lit (f := enc_S_api_Rule) [.tmp 110] [(⟨⟨#[]⟩, [], [(⟨⟨#[112]⟩, [(T.mk 2 0 ⟨#[102]⟩ [(T.mk 1 0 ⟨#[]⟩ [])])]⟩ : At)], [], [(⟨0, ⟨#[112]⟩, [(T.mk 1 0 ⟨#[]⟩ [])]⟩ : Gl)], 1⟩ : S_api_Rule)] rfl el_L_api_Rule rfl rfl (by decide) (by decide) (.cons rfl (Wk.refl _) .nil) sz_S_api_Rule (fun _ => rfl)) ?_
                refine r_d rfl rfl rfl (s_build rfl bt_api_Program (.cons rfl (Wk.full _) (.cons rfl (Wk.full _) .nil)) (.cons rfl rfl rfl (.cons rfl rfl rfl (.nil _)))) ?_
                refine r_d rfl rfl rfl (s_move rfl rfl) ?_
                obtain ⟨r_22, hr_22, hr⟩ := bindS hr
                refine r_d rfl rfl rfl (s_callD rfl cl_rank_Check (.cons rfl (Wk.refl _) (.cons rfl (Wk.full _) .nil)) (lg_rank_Check fuel _ _ _ hr_22)) ?_
                refine r_d rfl rfl rfl (s_cmp rfl rfl rfl rfl) ?_
                refine r_d rfl rfl rfl (s_pickT rfl rfl rfl) ?_
                refine r_d rfl rfl rfl (s_move rfl rfl) ?_
                refine r_sB 117 rfl hr (fun h117_22 hr => ?_) (fun h117_22 hr => ?_)
                ·
                  refine r_d rfl rfl rfl (s_load rfl rfl (by exact ty_api_Rule) rfl) ?_
                  refine r_d rfl rfl rfl (m_lit (f := enc_S_api_Rule) [.tmp 118] [(⟨⟨#[]⟩, [], [(⟨⟨#[112]⟩, [(T.mk 1 0 ⟨#[]⟩ [])]⟩ : At)], [], [(⟨0, ⟨#[112]⟩, [(T.mk 2 0 ⟨#[102]⟩ [(T.mk 1 0 ⟨#[]⟩ [])])]⟩ : Gl)], 1⟩ : S_api_Rule)] rfl el_L_api_Rule rfl rfl (by decide) (by decide) (.cons rfl (Wk.refl _) .nil) sz_S_api_Rule (fun _ => rfl)) ?_
                  refine r_d rfl rfl rfl (s_build rfl bt_api_Program (.cons rfl (Wk.full _) .nil) (.cons rfl rfl rfl (.nil _))) ?_
                  refine r_d rfl rfl rfl (s_move rfl rfl) ?_
                  obtain ⟨r_24, hr_24, hr⟩ := bindS hr
                  refine r_d rfl rfl rfl (s_callD rfl cl_rank_Check (.cons rfl (Wk.refl _) (.cons rfl (Wk.full _) .nil)) (lg_rank_Check fuel _ _ _ hr_24)) ?_
                  refine r_d rfl rfl rfl (s_cmp rfl rfl rfl rfl) ?_
                  refine r_d rfl rfl rfl (s_pickT rfl rfl rfl) ?_
                  refine r_d rfl rfl rfl (s_assign rfl rfl) ?_
                  refine r_end ?_
                  obtain rfl := Option.some.inj hr
                  refine g_ret Try.func7 _ (.cons (resTmp rfl (Wk.refl _)) .nil) ?_
                  rfl
                ·
                  refine r_skip rfl rfl rfl ?_
                  refine r_skip rfl rfl rfl ?_
                  refine r_skip rfl rfl rfl ?_
                  refine r_skip rfl rfl rfl ?_
                  refine r_skip rfl rfl rfl ?_
                  refine r_skip rfl rfl rfl ?_
                  refine r_d rfl rfl rfl (s_pickF rfl rfl rfl) ?_
                  refine r_d rfl rfl rfl (s_assign rfl rfl) ?_
                  refine r_end ?_
                  obtain rfl := Option.some.inj hr
                  refine g_ret Try.func7 _ (.cons (resTmp rfl (Wk.refl _)) .nil) ?_
                  rfl
              ·
                refine r_skip rfl rfl rfl ?_
                refine r_skip rfl rfl rfl ?_
                refine r_skip rfl rfl rfl ?_
                refine r_skip rfl rfl rfl ?_
                refine r_skip rfl rfl rfl ?_
                refine r_skip rfl rfl rfl ?_
                refine r_skip rfl rfl rfl ?_
                refine r_skip rfl rfl rfl ?_
                refine r_d rfl rfl rfl (s_pickF rfl rfl rfl) ?_
                refine r_d rfl rfl rfl (s_move rfl rfl) ?_
                refine r_skip rfl rfl rfl ?_
                refine r_skip rfl rfl rfl ?_
                refine r_skip rfl rfl rfl ?_
                refine r_skip rfl rfl rfl ?_
                refine r_skip rfl rfl rfl ?_
                refine r_skip rfl rfl rfl ?_
                refine r_d rfl rfl rfl (s_pickF rfl rfl rfl) ?_
                refine r_d rfl rfl rfl (s_assign rfl rfl) ?_
                refine r_end ?_
                obtain rfl := Option.some.inj hr
                refine g_ret Try.func7 _ (.cons (resTmp rfl (Wk.refl _)) .nil) ?_
                rfl
            ·
              refine r_skip rfl rfl rfl ?_
              refine r_skip rfl rfl rfl ?_
              refine r_skip rfl rfl rfl ?_
              refine r_skip rfl rfl rfl ?_
              refine r_d rfl rfl rfl (s_pickF rfl rfl rfl) ?_
              refine r_d rfl rfl rfl (s_move rfl rfl) ?_
              refine r_skip rfl rfl rfl ?_
              refine r_skip rfl rfl rfl ?_
              refine r_skip rfl rfl rfl ?_
              refine r_skip rfl rfl rfl ?_
              refine r_skip rfl rfl rfl ?_
              refine r_skip rfl rfl rfl ?_
              refine r_skip rfl rfl rfl ?_
              refine r_skip rfl rfl rfl ?_
              refine r_d rfl rfl rfl (s_pickF rfl rfl rfl) ?_
              refine r_d rfl rfl rfl (s_move rfl rfl) ?_
              refine r_skip rfl rfl rfl ?_
              refine r_skip rfl rfl rfl ?_
              refine r_skip rfl rfl rfl ?_
              refine r_skip rfl rfl rfl ?_
              refine r_skip rfl rfl rfl ?_
              refine r_skip rfl rfl rfl ?_
              refine r_d rfl rfl rfl (s_pickF rfl rfl rfl) ?_
              refine r_d rfl rfl rfl (s_assign rfl rfl) ?_
              refine r_end ?_
              obtain rfl := Option.some.inj hr
              refine g_ret Try.func7 _ (.cons (resTmp rfl (Wk.refl _)) .nil) ?_
              rfl
          ·
            refine r_skip rfl rfl rfl ?_
            refine r_skip rfl rfl rfl ?_
            refine r_skip rfl rfl rfl ?_
            refine r_skip rfl rfl rfl ?_
            refine r_d rfl rfl rfl (s_pickF rfl rfl rfl) ?_
            refine r_d rfl rfl rfl (s_move rfl rfl) ?_
            refine r_skip rfl rfl rfl ?_
            refine r_skip rfl rfl rfl ?_
            refine r_skip rfl rfl rfl ?_
            refine r_skip rfl rfl rfl ?_
            refine r_d rfl rfl rfl (s_pickF rfl rfl rfl) ?_
            refine r_d rfl rfl rfl (s_move rfl rfl) ?_
            refine r_skip rfl rfl rfl ?_
            refine r_skip rfl rfl rfl ?_
            refine r_skip rfl rfl rfl ?_
            refine r_skip rfl rfl rfl ?_
            refine r_skip rfl rfl rfl ?_
            refine r_skip rfl rfl rfl ?_
            refine r_skip rfl rfl rfl ?_
            refine r_skip rfl rfl rfl ?_
            refine r_d rfl rfl rfl (s_pickF rfl rfl rfl) ?_
            refine r_d rfl rfl rfl (s_move rfl rfl) ?_
            refine r_skip rfl rfl rfl ?_
            refine r_skip rfl rfl rfl ?_
            refine r_skip rfl rfl rfl ?_
            refine r_skip rfl rfl rfl ?_
            refine r_skip rfl rfl rfl ?_
            refine r_skip rfl rfl rfl ?_
            refine r_d rfl rfl rfl (s_pickF rfl rfl rfl) ?_
            refine r_d rfl rfl rfl (s_assign rfl rfl) ?_
            refine r_end ?_
            obtain rfl := Option.some.inj hr
            refine g_ret Try.func7 _ (.cons (resTmp rfl (Wk.refl _)) .nil) ?_
            rfl
        ·
          refine r_skip rfl rfl rfl ?_
          refine r_skip rfl rfl rfl ?_
          refine r_skip rfl rfl rfl ?_
          refine r_d rfl rfl rfl (s_pickF rfl rfl rfl) ?_
          refine r_d rfl rfl rfl (s_move rfl rfl) ?_
          refine r_skip rfl rfl rfl ?_
          refine r_skip rfl rfl rfl ?_
          refine r_skip rfl rfl rfl ?_
          refine r_skip rfl rfl rfl ?_
          refine r_d rfl rfl rfl (s_pickF rfl rfl rfl) ?_
          refine r_d rfl rfl rfl (s_move rfl rfl) ?_
          refine r_skip rfl rfl rfl ?_
          refine r_skip rfl rfl rfl ?_
          refine r_skip rfl rfl rfl ?_
          refine r_skip rfl rfl rfl ?_
          refine r_d rfl rfl rfl (s_pickF rfl rfl rfl) ?_
          refine r_d rfl rfl rfl (s_move rfl rfl) ?_
          refine r_skip rfl rfl rfl ?_
          refine r_skip rfl rfl rfl ?_
          refine r_skip rfl rfl rfl ?_
          refine r_skip rfl rfl rfl ?_
          refine r_skip rfl rfl rfl ?_
          refine r_skip rfl rfl rfl ?_
          refine r_skip rfl rfl rfl ?_
          refine r_skip rfl rfl rfl ?_
          refine r_d rfl rfl rfl (s_pickF rfl rfl rfl) ?_
          refine r_d rfl rfl rfl (s_move rfl rfl) ?_
          refine r_skip rfl rfl rfl ?_
          refine r_skip rfl rfl rfl ?_
          refine r_skip rfl rfl rfl ?_
          refine r_skip rfl rfl rfl ?_
          refine r_skip rfl rfl rfl ?_
          refine r_skip rfl rfl rfl ?_
          refine r_d rfl rfl rfl (s_pickF rfl rfl rfl) ?_
          refine r_d rfl rfl rfl (s_assign rfl rfl) ?_
          refine r_end ?_
          obtain rfl := Option.some.inj hr
          refine g_ret Try.func7 _ (.cons (resTmp rfl (Wk.refl _)) .nil) ?_
          rfl
      ·
        refine r_skip rfl rfl rfl ?_
        refine r_skip rfl rfl rfl ?_
        refine r_d rfl rfl rfl (s_pickF rfl rfl rfl) ?_
        refine r_d rfl rfl rfl (s_move rfl rfl) ?_
        refine r_skip rfl rfl rfl ?_
        refine r_skip rfl rfl rfl ?_
        refine r_skip rfl rfl rfl ?_
        refine r_d rfl rfl rfl (s_pickF rfl rfl rfl) ?_
        refine r_d rfl rfl rfl (s_move rfl rfl) ?_
        refine r_skip rfl rfl rfl ?_
        refine r_skip rfl rfl rfl ?_
        refine r_skip rfl rfl rfl ?_
        refine r_skip rfl rfl rfl ?_
        refine r_d rfl rfl rfl (s_pickF rfl rfl rfl) ?_
        refine r_d rfl rfl rfl (s_move rfl rfl) ?_
        refine r_skip rfl rfl rfl ?_
        refine r_skip rfl rfl rfl ?_
        refine r_skip rfl rfl rfl ?_
        refine r_skip rfl rfl rfl ?_
        refine r_d rfl rfl rfl (s_pickF rfl rfl rfl) ?_
        refine r_d rfl rfl rfl (s_move rfl rfl) ?_
        refine r_skip rfl rfl rfl ?_
        refine r_skip rfl rfl rfl ?_
        refine r_skip rfl rfl rfl ?_
        refine r_skip rfl rfl rfl ?_
        refine r_skip rfl rfl rfl ?_
        refine r_skip rfl rfl rfl ?_
        refine r_skip rfl rfl rfl ?_
        refine r_skip rfl rfl rfl ?_
        refine r_d rfl rfl rfl (s_pickF rfl rfl rfl) ?_
        refine r_d rfl rfl rfl (s_move rfl rfl) ?_
        refine r_skip rfl rfl rfl ?_
        refine r_skip rfl rfl rfl ?_
        refine r_skip rfl rfl rfl ?_
        refine r_skip rfl rfl rfl ?_
        refine r_skip rfl rfl rfl ?_
        refine r_skip rfl rfl rfl ?_
        refine r_d rfl rfl rfl (s_pickF rfl rfl rfl) ?_
        refine r_d rfl rfl rfl (s_assign rfl rfl) ?_
        refine r_end ?_
        obtain rfl := Option.some.inj hr
        refine g_ret Try.func7 _ (.cons (resTmp rfl (Wk.refl _)) .nil) ?_
        rfl
    ·
      refine r_skip rfl rfl rfl ?_
      refine r_skip rfl rfl rfl ?_
      refine r_d rfl rfl rfl (s_pickF rfl rfl rfl) ?_
      refine r_d rfl rfl rfl (s_move rfl rfl) ?_
      refine r_skip rfl rfl rfl ?_
      refine r_skip rfl rfl rfl ?_
      refine r_d rfl rfl rfl (s_pickF rfl rfl rfl) ?_
      refine r_d rfl rfl rfl (s_move rfl rfl) ?_
      refine r_skip rfl rfl rfl ?_
      refine r_skip rfl rfl rfl ?_
      refine r_skip rfl rfl rfl ?_
      refine r_d rfl rfl rfl (s_pickF rfl rfl rfl) ?_
      refine r_d rfl rfl rfl (s_move rfl rfl) ?_
      refine r_skip rfl rfl rfl ?_
      refine r_skip rfl rfl rfl ?_
      refine r_skip rfl rfl rfl ?_
      refine r_skip rfl rfl rfl ?_
      refine r_d rfl rfl rfl (s_pickF rfl rfl rfl) ?_
      refine r_d rfl rfl rfl (s_move rfl rfl) ?_
      refine r_skip rfl rfl rfl ?_
      refine r_skip rfl rfl rfl ?_
      refine r_skip rfl rfl rfl ?_
      refine r_skip rfl rfl rfl ?_
      refine r_d rfl rfl rfl (s_pickF rfl rfl rfl) ?_
      refine r_d rfl rfl rfl (s_move rfl rfl) ?_
      refine r_skip rfl rfl rfl ?_
      refine r_skip rfl rfl rfl ?_
      refine r_skip rfl rfl rfl ?_
      refine r_skip rfl rfl rfl ?_
      refine r_skip rfl rfl rfl ?_
      refine r_skip rfl rfl rfl ?_
      refine r_skip rfl rfl rfl ?_
      refine r_skip rfl rfl rfl ?_
      refine r_d rfl rfl rfl (s_pickF rfl rfl rfl) ?_
      refine r_d rfl rfl rfl (s_move rfl rfl) ?_
      refine r_skip rfl rfl rfl ?_
      refine r_skip rfl rfl rfl ?_
      refine r_skip rfl rfl rfl ?_
      refine r_skip rfl rfl rfl ?_
      refine r_skip rfl rfl rfl ?_
      refine r_skip rfl rfl rfl ?_
      refine r_d rfl rfl rfl (s_pickF rfl rfl rfl) ?_
      refine r_d rfl rfl rfl (s_assign rfl rfl) ?_
      refine r_end ?_
      obtain rfl := Option.some.inj hr
      refine g_ret Try.func7 _ (.cons (resTmp rfl (Wk.refl _)) .nil) ?_
      rfl
  ·
    refine r_skip rfl rfl rfl ?_
    refine r_d rfl rfl rfl (s_pickF rfl rfl rfl) ?_
    refine r_d rfl rfl rfl (s_move rfl rfl) ?_
    refine r_skip rfl rfl rfl ?_
    refine r_skip rfl rfl rfl ?_
    refine r_d rfl rfl rfl (s_pickF rfl rfl rfl) ?_
    refine r_d rfl rfl rfl (s_move rfl rfl) ?_
    refine r_skip rfl rfl rfl ?_
    refine r_skip rfl rfl rfl ?_
    refine r_d rfl rfl rfl (s_pickF rfl rfl rfl) ?_
    refine r_d rfl rfl rfl (s_move rfl rfl) ?_
    refine r_skip rfl rfl rfl ?_
    refine r_skip rfl rfl rfl ?_
    refine r_skip rfl rfl rfl ?_
    refine r_d rfl rfl rfl (s_pickF rfl rfl rfl) ?_
    refine r_d rfl rfl rfl (s_move rfl rfl) ?_
    refine r_skip rfl rfl rfl ?_
    refine r_skip rfl rfl rfl ?_
    refine r_skip rfl rfl rfl ?_
    refine r_skip rfl rfl rfl ?_
    refine r_d rfl rfl rfl (s_pickF rfl rfl rfl) ?_
    refine r_d rfl rfl rfl (s_move rfl rfl) ?_
    refine r_skip rfl rfl rfl ?_
    refine r_skip rfl rfl rfl ?_
    refine r_skip rfl rfl rfl ?_
    refine r_skip rfl rfl rfl ?_
    refine r_d rfl rfl rfl (s_pickF rfl rfl rfl) ?_
    refine r_d rfl rfl rfl (s_move rfl rfl) ?_
    refine r_skip rfl rfl rfl ?_
    refine r_skip rfl rfl rfl ?_
    refine r_skip rfl rfl rfl ?_
    refine r_skip rfl rfl rfl ?_
    refine r_skip rfl rfl rfl ?_
    refine r_skip rfl rfl rfl ?_
    refine r_skip rfl rfl rfl ?_
    refine r_skip rfl rfl rfl ?_
    refine r_d rfl rfl rfl (s_pickF rfl rfl rfl) ?_
    refine r_d rfl rfl rfl (s_move rfl rfl) ?_
    refine r_skip rfl rfl rfl ?_
    refine r_skip rfl rfl rfl ?_
    refine r_skip rfl rfl rfl ?_
    refine r_skip rfl rfl rfl ?_
    refine r_skip rfl rfl rfl ?_
    refine r_skip rfl rfl rfl ?_
    refine r_d rfl rfl rfl (s_pickF rfl rfl rfl) ?_
    refine r_d rfl rfl rfl (s_assign rfl rfl) ?_
    refine r_end ?_
    obtain rfl := Option.some.inj hr
    refine g_ret Try.func7 _ (.cons (resTmp rfl (Wk.refl _)) .nil) ?_
    rfl

noncomputable def lf_constraintlaw04_left_L0 (k : (Int) → Option (Int)) (rec : T → Int → Int → Option (Int)) (depth_a2 : Int) : List T → Int → Option (Int)
  | [], n_3 =>
  (k n_3)
  | q_6 :: rest, n_3 =>
  ((rec q_6 n_3 (wr (depth_a2 - (1 : Int)))).bind fun r_7 =>
  (bif (decide (r_7 < (0 : Int))) then
  some ((-1))
  else
  (lf_constraintlaw04_left_L0 k rec depth_a2 rest r_7)))
noncomputable def lf_constraintlaw04_left : Nat → T → Int → Int → Option (Int)
  | 0, _, _, _ => none
  | fuel + 1, t_a0, n_a1, depth_a2 =>
    (fun (rec : T → Int → Int → Option (Int)) =>
      (bif (decide (depth_a2 < (1 : Int))) then
      some ((-1))
      else
      (bif (decide ((wr (n_a1 - (1 : Int))) < (0 : Int))) then
      some ((-1))
      else
      (lf_constraintlaw04_left_L0 (fun n_5 =>
      some (n_5)) rec depth_a2 t_a0.ar (wr (n_a1 - (1 : Int))))))) (lf_constraintlaw04_left fuel)

set_option maxHeartbeats 1000000 in
theorem lgs_constraintlaw04_left (fuel : Nat) (rec : T → Int → Int → Option (Int)) (IHR : ∀ (t_a0 : T) (n_a1 : Int) (depth_a2 : Int) (res : Int), rec t_a0 n_a1 depth_a2 = some res → Gives Try.prog 35 [encT t_a0, .int .i64 n_a1, .int .i64 depth_a2] (.int .i64 res)) (t_a0 : T) (n_a1 : Int) (depth_a2 : Int) (res : Int)
    (hr : (bif (decide (depth_a2 < (1 : Int))) then
some ((-1))
else
(bif (decide ((wr (n_a1 - (1 : Int))) < (0 : Int))) then
some ((-1))
else
(lf_constraintlaw04_left_L0 (fun n_5 =>
some (n_5)) rec depth_a2 t_a0.ar (wr (n_a1 - (1 : Int)))))) = some res) : Gives Try.prog 35 [encT t_a0, .int .i64 n_a1, .int .i64 depth_a2] (.int .i64 res) := by
  refine spec_env [(0, encT t_a0), (1, .int .i64 n_a1), (2, .int .i64 depth_a2)] Try.func35 rfl rfl fun K hK => ?_
  refine g_seq ?_
  refine g_run (by kernel_rfl) [(0, .d), (1, .d)] rfl ?_
  refine r_d rfl rfl rfl (s_box rfl rfl rfl) ?_
  refine r_d rfl rfl rfl (s_assign rfl rfl) ?_
  refine r_end ?_
  refine g_seq ?_
  refine g_run (by kernel_rfl) [(0, .d), (1, .d), (2, .d)] rfl ?_
  refine r_d rfl rfl rfl (s_move rfl rfl) ?_
  refine r_d rfl rfl rfl (s_arW rfl rfl rfl rfl) ?_
  refine r_d rfl rfl rfl (s_assign rfl rfl) ?_
  refine r_end ?_
  refine g_seq ?_
  refine g_seq ?_
  refine g_run (by kernel_rfl) [(0, .d), (1, .d), (2, .d), (3, .d), (4, .d), (5, .d)] rfl ?_
  refine r_d rfl rfl rfl (s_move rfl rfl) ?_
  refine r_d rfl rfl rfl (s_cmp rfl rfl rfl rfl) ?_
  refine r_d rfl rfl rfl (s_move rfl rfl) ?_
  refine r_sB 12 rfl hr (fun h12_0 hr => ?_) (fun h12_0 hr => ?_)
  ·
    refine r_skip rfl rfl rfl ?_
    refine r_skip rfl rfl rfl ?_
    refine r_d rfl rfl rfl (s_pickT rfl rfl rfl) ?_
    refine r_end ?_
    refine g_condT rfl ?_
    refine g_seq ?_
    refine g_run (by kernel_rfl) [(0, .d)] rfl ?_
    refine r_d rfl rfl rfl (s_assign rfl rfl) ?_
    refine r_end ?_
    obtain rfl := Option.some.inj hr
    refine g_ret Try.func35 _ (.cons (resTmp rfl (Wk.refl _)) .nil) ?_
    rfl
  ·
    refine r_d rfl rfl rfl (s_move rfl rfl) ?_
    refine r_d rfl rfl rfl (s_cmp rfl rfl rfl rfl) ?_
    refine r_d rfl rfl rfl (s_pickF rfl rfl rfl) ?_
    refine r_end ?_
    refine g_sB 15 rfl hr (fun h15_1 hr => ?_) (fun h15_1 hr => ?_)
    ·
      refine g_condT rfl ?_
      refine g_seq ?_
      refine g_run (by kernel_rfl) [(0, .d)] rfl ?_
      refine r_d rfl rfl rfl (s_assign rfl rfl) ?_
      refine r_end ?_
      obtain rfl := Option.some.inj hr
      refine g_ret Try.func35 _ (.cons (resTmp rfl (Wk.refl _)) .nil) ?_
      rfl
    ·
      refine g_condF rfl ?_
      refine g_skip ?_
      refine g_seq ?_
      refine g_seq ?_
      refine g_run (by kernel_rfl) [(0, .d), (1, .d), (2, .d), (3, .d)] rfl ?_
      refine r_d rfl rfl rfl (s_fieldAddr rfl fl_api_Term_3 rfl (fsT_get3 _) (fsT_off3 _) rfl) ?_
      refine r_d rfl rfl rfl (s_load rfl rfl (by exact ty_L_api_Term) rfl) ?_
      refine r_d rfl rfl rfl (m_len (f := encT) t_a0.ar rfl el_L_api_Term rfl (asl rfl)) ?_
      refine r_d rfl rfl rfl (s_move rfl rfl) ?_
      refine r_end ?_
      obtain ⟨kk0, hkk0, hr⟩ := exK (fun k => lf_constraintlaw04_left_L0 k rec depth_a2 t_a0.ar (wr (n_a1 - (1 : Int)))) hr
      refine g_len 17 rfl (asl rfl) fun hla0 => ?_
      simp only [List.length_map] at hla0
      refine g_blockJ (fun env σ => ∃ (n_5 : Int), env = [(1, .int .i64 n_5)] ∧ σ = [] ∧ kk0 n_5 = some res) ?_ (fun HK0 => ?_)
      ·
        rintro _ _ ⟨n_5, rfl, rfl, hr⟩
        rw [hkk0] at hr
        refine g_seq ?_
        refine g_run (by kernel_rfl) [(0, .d), (1, .d)] rfl ?_
        refine r_d rfl rfl rfl (s_move rfl rfl) ?_
        refine r_d rfl rfl rfl (s_assign rfl rfl) ?_
        refine r_end ?_
        obtain rfl := Option.some.inj hr
        refine g_ret Try.func35 _ (.cons (resTmp rfl (Wk.refl _)) .nil) ?_
        rfl
      ·
        refine g_sub [(2, .int .i64 depth_a2), (3, .ptr (encT t_a0)), (18, .int .i64 (t_a0.ar.length : Int)), (1, .int .i64 (wr (n_a1 - (1 : Int)))), (19, .int .i64 ((0 : Nat) : Int))] (Sub.cons' rfl (Sub.cons' rfl (Sub.cons' rfl (Sub.cons' rfl (Sub.cons' rfl (Sub.nil _)))))) ?_
        refine g_loop (fun n env σ => ∃ (n_3 : Int) (i_4 : Nat), (n = t_a0.ar.length - i_4) ∧ (env = [(2, .int .i64 depth_a2), (3, .ptr (encT t_a0)), (18, .int .i64 (t_a0.ar.length : Int)), (1, .int .i64 n_3), (19, .int .i64 (i_4 : Int))]) ∧ (σ = []) ∧ (i_4 ≤ t_a0.ar.length) ∧ (lf_constraintlaw04_left_L0 kk0 rec depth_a2 (t_a0.ar.drop i_4) n_3 = some res)) _ ⟨(wr (n_a1 - (1 : Int))), 0, rfl, rfl, rfl, Nat.zero_le _, hr⟩ ?_
        rintro n _ _ ⟨n_3, i_4, rfl, rfl, rfl, hi0, hr⟩ IH0
        rcases listStep t_a0.ar i_4 hi0 with ⟨ht0, hd0, he0⟩ | ⟨q_6, ht0, hd0, hq0, hlt0⟩
        ·
          rw [hd0, lf_constraintlaw04_left_L0] at hr
          refine g_seq ?_
          refine g_run (by kernel_rfl) [(0, .d)] rfl ?_
          refine r_d rfl rfl rfl (s_cmp rfl rfl rfl rfl) ?_
          refine r_end ?_
          refine g_seq ?_
          refine g_known 20 false rfl ht0 ?_
          refine g_condF rfl ?_
          refine g_exit rfl ?_
          refine g_sub [(1, .int .i64 n_3)] (Sub.cons' rfl (Sub.nil _)) ?_
          exact HK0 _ _ ⟨n_3, rfl, rfl, hr⟩
        ·
          rw [hd0, lf_constraintlaw04_left_L0] at hr
          refine g_seq ?_
          refine g_run (by kernel_rfl) [(0, .d)] rfl ?_
          refine r_d rfl rfl rfl (s_cmp rfl rfl rfl rfl) ?_
          refine r_end ?_
          refine g_seq ?_
          refine g_known 20 true rfl ht0 ?_
          refine g_condT rfl ?_
          refine g_skip ?_
          refine g_seq ?_
          refine g_block ?_
          refine g_seq ?_
          refine g_run (by kernel_rfl) [(0, .d), (1, .d)] rfl ?_
          refine r_d rfl rfl rfl (s_move rfl rfl) ?_
          refine r_d rfl rfl rfl (s_assign rfl rfl) ?_
          refine r_end ?_
          refine g_seq ?_
          refine g_run (by kernel_rfl) [(0, .d), (1, .d), (2, .d), (3, .d), (4, .d), (5, .d), (6, .d), (7, .d), (8, .d), (9, .d)] rfl ?_
          refine r_d rfl rfl rfl (s_fieldAddr rfl fl_api_Term_3 rfl (fsT_get3 _) (fsT_off3 _) rfl) ?_
          refine r_d rfl rfl rfl (s_load rfl rfl (by exact ty_L_api_Term) rfl) ?_
          refine r_d rfl rfl rfl (s_move rfl rfl) ?_
          refine r_d rfl rfl rfl (m_index (f := encT) t_a0.ar rfl el_L_api_Term rfl (asl rfl) rfl hq0 sz_encT rfl) ?_
          refine r_d rfl rfl rfl (s_load rfl rfl (by exact ty_api_Term) (sz_encT _)) ?_
          refine r_d rfl rfl rfl (s_move rfl rfl) ?_
          refine r_d rfl rfl rfl (s_move rfl rfl) ?_
          refine r_d rfl rfl rfl (s_arW rfl rfl rfl rfl) ?_
          obtain ⟨r_7, hr_7, hr⟩ := bindS hr
          refine r_d rfl rfl rfl (s_callD rfl cl_constraintlaw04_left (.cons rfl (Wk.refl _) (.cons rfl (Wk.refl _) (.cons rfl (Wk.refl _) .nil))) (IHR _ _ _ _ hr_7)) ?_
          refine r_d rfl rfl rfl (s_assign rfl rfl) ?_
          refine r_end ?_
          refine g_seq ?_
          refine g_run (by kernel_rfl) [(0, .d), (1, .d)] rfl ?_
          refine r_d rfl rfl rfl (s_move rfl rfl) ?_
          refine r_d rfl rfl rfl (s_cmp rfl rfl rfl rfl) ?_
          refine r_end ?_
          refine g_sB 32 rfl hr (fun h32_7 hr => ?_) (fun h32_7 hr => ?_)
          ·
            refine g_condT rfl ?_
            refine g_seq ?_
            refine g_run (by kernel_rfl) [(0, .d)] rfl ?_
            refine r_d rfl rfl rfl (s_assign rfl rfl) ?_
            refine r_end ?_
            obtain rfl := Option.some.inj hr
            refine g_ret Try.func35 _ (.cons (resTmp rfl (Wk.refl _)) .nil) ?_
            rfl
          ·
            refine g_condF rfl ?_
            refine g_skip ?_
            refine g_inBlock ?_
            refine g_run (by kernel_rfl) [(0, .d), (1, .d)] rfl ?_
            refine r_d rfl rfl rfl (s_ar (r := ((i_4 + 1 : Nat) : Int)) rfl rfl rfl (by simp [iar]) (by omega)) ?_
            refine r_d rfl rfl rfl (s_move rfl rfl) ?_
            refine r_end ?_
            refine g_sub [(2, .int .i64 depth_a2), (3, .ptr (encT t_a0)), (18, .int .i64 (t_a0.ar.length : Int)), (1, .int .i64 r_7), (19, .int .i64 ((i_4 + 1 : Nat) : Int))] (Sub.cons' rfl (Sub.cons' rfl (Sub.cons' rfl (Sub.cons' rfl (Sub.cons' rfl (Sub.nil _)))))) ?_
            exact IH0 _ _ _ (by omega) ⟨r_7, (i_4 + 1), rfl, rfl, rfl, (by omega), hr⟩
theorem lg_constraintlaw04_left : ∀ (fuel : Nat) (t_a0 : T) (n_a1 : Int) (depth_a2 : Int) (res : Int), lf_constraintlaw04_left fuel t_a0 n_a1 depth_a2 = some res → Gives Try.prog 35 [encT t_a0, .int .i64 n_a1, .int .i64 depth_a2] (.int .i64 res)
  | 0, _, _, _, _, h => by cases h
  | fuel + 1, t_a0, n_a1, depth_a2, res, h => lgs_constraintlaw04_left fuel (lf_constraintlaw04_left fuel) (lg_constraintlaw04_left fuel) t_a0 n_a1 depth_a2 res h

noncomputable def lf_constraintlaw04_Small (fuel : Nat) (t_a0 : T) : Option (Bool) :=
  ((lf_constraintlaw04_left fuel t_a0 1000 100).bind fun r_1 =>
  some ((decide (r_1 ≥ (0 : Int)))))

set_option maxHeartbeats 1000000 in
theorem lg_constraintlaw04_Small (fuel : Nat) (t_a0 : T) (res : Bool) (hr : lf_constraintlaw04_Small fuel t_a0 = some res) : Gives Try.prog 18 [encT t_a0] (.bool res) := by
  unfold lf_constraintlaw04_Small at hr
  refine spec_env [(0, encT t_a0)] Try.func18 rfl rfl fun K hK => ?_
  refine g_seq ?_
  refine g_run (by kernel_rfl) [(0, .d), (1, .d)] rfl ?_
  refine r_d rfl rfl rfl (s_box rfl rfl rfl) ?_
  refine r_d rfl rfl rfl (s_assign rfl rfl) ?_
  refine r_end ?_
  refine g_seq ?_
  refine g_run (by kernel_rfl) [(0, .d), (1, .d), (2, .d), (3, .d)] rfl ?_
  refine r_d rfl rfl rfl (s_load rfl rfl (by exact ty_api_Term) (sz_encT _)) ?_
  obtain ⟨r_1, hr_1, hr⟩ := bindS hr
  refine r_d rfl rfl rfl (s_callD rfl cl_constraintlaw04_left (.cons rfl (Wk.refl _) (.cons rfl (Wk.refl _) (.cons rfl (Wk.refl _) .nil))) (lg_constraintlaw04_left fuel _ _ _ _ hr_1)) ?_
  refine r_d rfl rfl rfl (s_cmp rfl rfl rfl rfl) ?_
  refine r_d rfl rfl rfl (s_assign rfl rfl) ?_
  refine r_end ?_
  obtain rfl := Option.some.inj hr
  refine g_ret Try.func18 _ (.cons (resTmp rfl (Wk.refl _)) .nil) ?_
  rfl

noncomputable def lf_constraintlaw19_Brief_L0 (k : Option (Bool)) (fuel : Nat) : List T → Option (Bool)
  | [] =>
  k
  | q_3 :: rest =>
  ((lf_constraintlaw04_Small fuel q_3).bind fun r_4 =>
  (bif (!r_4) then
  some (false)
  else
  (lf_constraintlaw19_Brief_L0 k fuel rest)))
noncomputable def lf_constraintlaw19_Brief (fuel : Nat) (a_a0 : At) : Option (Bool) :=
  (bif (decide ((a_a0.ts.length : Int) > (10 : Int))) then
  some (false)
  else
  (lf_constraintlaw19_Brief_L0 (some (true)) fuel a_a0.ts))

set_option maxHeartbeats 1000000 in
theorem lg_constraintlaw19_Brief (fuel : Nat) (a_a0 : At) (res : Bool) (hr : lf_constraintlaw19_Brief fuel a_a0 = some res) : Gives Try.prog 8 [encA a_a0] (.bool res) := by
  unfold lf_constraintlaw19_Brief at hr
  refine spec_env [(0, encA a_a0)] Try.func8 rfl rfl fun K hK => ?_
  refine g_seq ?_
  refine g_run (by kernel_rfl) [(0, .d), (1, .d)] rfl ?_
  refine r_d rfl rfl rfl (s_box rfl rfl rfl) ?_
  refine r_d rfl rfl rfl (s_assign rfl rfl) ?_
  refine r_end ?_
  refine g_seq ?_
  refine g_seq ?_
  refine g_run (by kernel_rfl) [(0, .d), (1, .d), (2, .d), (3, .d)] rfl ?_
  refine r_d rfl rfl rfl (s_fieldAddr rfl fl_api_Atom_1 rfl rfl rfl rfl) ?_
  refine r_d rfl rfl rfl (s_load rfl rfl (by exact ty_L_api_Term) rfl) ?_
  refine r_d rfl rfl rfl (m_len (f := encT) a_a0.ts rfl el_L_api_Term rfl (asl rfl)) ?_
  refine r_d rfl rfl rfl (s_cmp rfl rfl rfl rfl) ?_
  refine r_end ?_
  refine g_sB 7 rfl hr (fun h7_0 hr => ?_) (fun h7_0 hr => ?_)
  ·
    refine g_condT rfl ?_
    refine g_seq ?_
    refine g_run (by kernel_rfl) [(0, .d)] rfl ?_
    refine r_d rfl rfl rfl (s_assign rfl rfl) ?_
    refine r_end ?_
    obtain rfl := Option.some.inj hr
    refine g_ret Try.func8 _ (.cons (resTmp rfl (Wk.refl _)) .nil) ?_
    rfl
  ·
    refine g_condF rfl ?_
    refine g_skip ?_
    refine g_seq ?_
    refine g_seq ?_
    refine g_run (by kernel_rfl) [(0, .d), (1, .d), (2, .d), (3, .d)] rfl ?_
    refine r_d rfl rfl rfl (s_fieldAddr rfl fl_api_Atom_1 rfl rfl rfl rfl) ?_
    refine r_d rfl rfl rfl (s_load rfl rfl (by exact ty_L_api_Term) rfl) ?_
    refine r_d rfl rfl rfl (m_len (f := encT) a_a0.ts rfl el_L_api_Term rfl (asl rfl)) ?_
    refine r_d rfl rfl rfl (s_move rfl rfl) ?_
    refine r_end ?_
    obtain ⟨kk0, hkk0, hr⟩ := exK (fun k => lf_constraintlaw19_Brief_L0 k fuel a_a0.ts) hr
    refine g_len 5 rfl (asl rfl) fun hla0 => ?_
    simp only [List.length_map] at hla0
    refine g_blockJ (fun env σ => env = [] ∧ σ = [] ∧ kk0 = some res) ?_ (fun HK0 => ?_)
    ·
      rintro _ _ ⟨rfl, rfl, hr⟩
      rw [hkk0] at hr
      refine g_seq ?_
      refine g_run (by kernel_rfl) [(0, .d)] rfl ?_
      refine r_d rfl rfl rfl (s_assign rfl rfl) ?_
      refine r_end ?_
      obtain rfl := Option.some.inj hr
      refine g_ret Try.func8 _ (.cons (resTmp rfl (Wk.refl _)) .nil) ?_
      rfl
    ·
      refine g_sub [(1, .ptr (encA a_a0)), (10, .int .i64 (a_a0.ts.length : Int)), (11, .int .i64 ((0 : Nat) : Int))] (Sub.cons' rfl (Sub.cons' rfl (Sub.cons' rfl (Sub.nil _)))) ?_
      refine g_loop (fun n env σ => ∃ (i_2 : Nat), (n = a_a0.ts.length - i_2) ∧ (env = [(1, .ptr (encA a_a0)), (10, .int .i64 (a_a0.ts.length : Int)), (11, .int .i64 (i_2 : Int))]) ∧ (σ = []) ∧ (i_2 ≤ a_a0.ts.length) ∧ (lf_constraintlaw19_Brief_L0 kk0 fuel (a_a0.ts.drop i_2) = some res)) _ ⟨0, rfl, rfl, rfl, Nat.zero_le _, hr⟩ ?_
      rintro n _ _ ⟨i_2, rfl, rfl, rfl, hi0, hr⟩ IH0
      rcases listStep a_a0.ts i_2 hi0 with ⟨ht0, hd0, he0⟩ | ⟨q_3, ht0, hd0, hq0, hlt0⟩
      ·
        rw [hd0, lf_constraintlaw19_Brief_L0] at hr
        refine g_seq ?_
        refine g_run (by kernel_rfl) [(0, .d)] rfl ?_
        refine r_d rfl rfl rfl (s_cmp rfl rfl rfl rfl) ?_
        refine r_end ?_
        refine g_seq ?_
        refine g_known 12 false rfl ht0 ?_
        refine g_condF rfl ?_
        refine g_exit rfl ?_
        refine g_sub [] (Sub.nil _) ?_
        exact HK0 _ _ ⟨rfl, rfl, hr⟩
      ·
        rw [hd0, lf_constraintlaw19_Brief_L0] at hr
        refine g_seq ?_
        refine g_run (by kernel_rfl) [(0, .d)] rfl ?_
        refine r_d rfl rfl rfl (s_cmp rfl rfl rfl rfl) ?_
        refine r_end ?_
        refine g_seq ?_
        refine g_known 12 true rfl ht0 ?_
        refine g_condT rfl ?_
        refine g_skip ?_
        refine g_seq ?_
        refine g_block ?_
        refine g_seq ?_
        refine g_run (by kernel_rfl) [(0, .d), (1, .d)] rfl ?_
        refine r_d rfl rfl rfl (s_move rfl rfl) ?_
        refine r_d rfl rfl rfl (s_assign rfl rfl) ?_
        refine r_end ?_
        refine g_seq ?_
        refine g_run (by kernel_rfl) [(0, .d), (1, .d), (2, .d), (3, .d), (4, .d), (5, .d), (6, .d)] rfl ?_
        refine r_d rfl rfl rfl (s_fieldAddr rfl fl_api_Atom_1 rfl rfl rfl rfl) ?_
        refine r_d rfl rfl rfl (s_load rfl rfl (by exact ty_L_api_Term) rfl) ?_
        refine r_d rfl rfl rfl (s_move rfl rfl) ?_
        refine r_d rfl rfl rfl (m_index (f := encT) a_a0.ts rfl el_L_api_Term rfl (asl rfl) rfl hq0 sz_encT rfl) ?_
        refine r_d rfl rfl rfl (s_load rfl rfl (by exact ty_api_Term) (sz_encT _)) ?_
        obtain ⟨r_4, hr_4, hr⟩ := bindS hr
        refine r_d rfl rfl rfl (s_callD rfl cl_constraintlaw04_Small (.cons rfl (Wk.refl _) .nil) (lg_constraintlaw04_Small fuel _ _ hr_4)) ?_
        refine r_d rfl rfl rfl (s_not rfl rfl) ?_
        refine r_end ?_
        refine g_sB 20 rfl hr (fun h20_4 hr => ?_) (fun h20_4 hr => ?_)
        ·
          refine g_condT rfl ?_
          refine g_seq ?_
          refine g_run (by kernel_rfl) [(0, .d)] rfl ?_
          refine r_d rfl rfl rfl (s_assign rfl rfl) ?_
          refine r_end ?_
          obtain rfl := Option.some.inj hr
          refine g_ret Try.func8 _ (.cons (resTmp rfl (Wk.refl _)) .nil) ?_
          rfl
        ·
          refine g_condF rfl ?_
          refine g_skip ?_
          refine g_inBlock ?_
          refine g_run (by kernel_rfl) [(0, .d), (1, .d)] rfl ?_
          refine r_d rfl rfl rfl (s_ar (r := ((i_2 + 1 : Nat) : Int)) rfl rfl rfl (by simp [iar]) (by omega)) ?_
          refine r_d rfl rfl rfl (s_move rfl rfl) ?_
          refine r_end ?_
          refine g_sub [(1, .ptr (encA a_a0)), (10, .int .i64 (a_a0.ts.length : Int)), (11, .int .i64 ((i_2 + 1 : Nat) : Int))] (Sub.cons' rfl (Sub.cons' rfl (Sub.cons' rfl (Sub.nil _)))) ?_
          exact IH0 _ _ _ (by omega) ⟨(i_2 + 1), rfl, rfl, rfl, (by omega), hr⟩

noncomputable def lf_constraintref41_find_L0 (k : Option (S_api_Rank × Bool)) (arity_a2 : Int) (name_a1 : ByteArray) : List S_api_Rank → Option (S_api_Rank × Bool)
  | [] =>
  k
  | q_3 :: rest =>
  (bif (q_3.f0_Name.toList == name_a1.toList) then
  (bif ((q_3.f2_Factors.length : Int) == arity_a2) then
  some (q_3, true)
  else
  (lf_constraintref41_find_L0 k arity_a2 name_a1 rest))
  else
  (lf_constraintref41_find_L0 k arity_a2 name_a1 rest))
noncomputable def lf_constraintref41_find (ranks_a0 : (List S_api_Rank)) (name_a1 : ByteArray) (arity_a2 : Int) : Option (S_api_Rank × Bool) :=
  (lf_constraintref41_find_L0 (some ((⟨⟨#[]⟩, 0, []⟩ : S_api_Rank), false)) arity_a2 name_a1 ranks_a0)

set_option maxHeartbeats 1000000 in
theorem lg_constraintref41_find (ranks_a0 : (List S_api_Rank)) (name_a1 : ByteArray) (arity_a2 : Int) (res : S_api_Rank × Bool) (hr : lf_constraintref41_find ranks_a0 name_a1 arity_a2 = some res) : Gives Try.prog 24 [.lst (ranks_a0.map enc_S_api_Rank), .str name_a1, .int .i64 arity_a2] (.tup [enc_S_api_Rank res.1, .bool res.2]) := by
  unfold lf_constraintref41_find at hr
  refine spec_env [(0, .lst (ranks_a0.map enc_S_api_Rank)), (1, .str name_a1), (2, .int .i64 arity_a2)] Try.func24 rfl rfl fun K hK => ?_
  refine g_seq ?_
  refine g_run (by kernel_rfl) [(0, .w), (1, .d)] rfl ?_
  refine r_w rfl rfl rfl (s_alloc rfl zv_api_Rank) ?_
  rintro _ _ ⟨b6_0, rfl, rfl⟩
  refine r_d rfl rfl rfl (s_assign rfl rfl) ?_
  refine r_end ?_
  refine g_seq ?_
  refine g_seq ?_
  refine g_run (by kernel_rfl) [(0, .d)] rfl ?_
  refine r_d rfl rfl rfl (s_assign rfl rfl) ?_
  refine r_end ?_
  obtain ⟨kk0, hkk0, hr⟩ := exK (fun k => lf_constraintref41_find_L0 k arity_a2 name_a1 ranks_a0) hr
  refine g_len 0 rfl (asl rfl) fun hla0 => ?_
  simp only [List.length_map] at hla0
  refine g_blockJ (fun env σ => env = [(6, .ref b6_0 0 [])] ∧ σ = [.cell b6_0 (.agg [.str ⟨#[]⟩, .int .i64 0, .lst ([].map (D.int .i64))])] ∧ kk0 = some res) ?_ (fun HK0 => ?_)
  ·
    rintro _ _ ⟨rfl, rfl, hr⟩
    rw [hkk0] at hr
    refine g_seq ?_
    refine g_run (by kernel_rfl) [(0, .d), (1, .w), (2, .d)] rfl ?_
    refine r_d rfl rfl rfl (s_build rfl bt_api_Rank .nil (.nil _)) ?_
    refine r_w01 rfl rfl rfl (t_store0 _ rfl rfl rfl (Wk.refl _) (pf0 _) (by exact ty_api_Rank) rfl rfl rfl) ?_
    refine r_d rfl rfl rfl (s_assign rfl rfl) ?_
    refine r_end ?_
    obtain rfl := Option.some.inj hr
    refine g_ret Try.func24 _ (.cons (resRef rfl (.head _) (by exact ty_api_Rank) rfl (Wk.refl _)) (.cons (resTmp rfl (Wk.refl _)) .nil)) ?_
    rfl
  ·
    refine g_sub [(0, .lst (ranks_a0.map enc_S_api_Rank)), (1, .str name_a1), (2, .int .i64 arity_a2), (6, .ref b6_0 0 []), (8, .int .i64 ((0 : Nat) : Int))] (Sub.cons' rfl (Sub.cons' rfl (Sub.cons' rfl (Sub.cons' rfl (Sub.cons' rfl (Sub.nil _)))))) ?_
    refine g_loop (fun n env σ => ∃ (i_2 : Nat), (n = ranks_a0.length - i_2) ∧ (env = [(0, .lst (ranks_a0.map enc_S_api_Rank)), (1, .str name_a1), (2, .int .i64 arity_a2), (6, .ref b6_0 0 []), (8, .int .i64 (i_2 : Int))]) ∧ (σ = [.cell b6_0 (.agg [.str ⟨#[]⟩, .int .i64 0, .lst ([].map (D.int .i64))])]) ∧ (i_2 ≤ ranks_a0.length) ∧ (lf_constraintref41_find_L0 kk0 arity_a2 name_a1 (ranks_a0.drop i_2) = some res)) _ ⟨0, rfl, rfl, rfl, Nat.zero_le _, hr⟩ ?_
    rintro n _ _ ⟨i_2, rfl, rfl, rfl, hi0, hr⟩ IH0
    rcases listStep ranks_a0 i_2 hi0 with ⟨ht0, hd0, he0⟩ | ⟨q_3, ht0, hd0, hq0, hlt0⟩
    ·
      rw [hd0, lf_constraintref41_find_L0] at hr
      refine g_seq ?_
      refine g_seq ?_
      refine g_run (by kernel_rfl) [(0, .d), (1, .d), (2, .d), (3, .d)] rfl ?_
      refine r_d rfl rfl rfl (s_move rfl rfl) ?_
      refine r_d rfl rfl rfl (s_move rfl rfl) ?_
      refine r_d rfl rfl rfl (m_len (f := enc_S_api_Rank) ranks_a0 rfl el_L_api_Rank rfl (asl rfl)) ?_
      refine r_d rfl rfl rfl (s_cmp rfl rfl rfl rfl) ?_
      refine r_end ?_
      refine g_known 12 false rfl ht0 ?_
      refine g_condF rfl ?_
      refine g_exit rfl ?_
      refine g_sub [(6, .ref b6_0 0 [])] (Sub.cons' rfl (Sub.nil _)) ?_
      exact HK0 _ _ ⟨rfl, rfl, hr⟩
    ·
      rw [hd0, lf_constraintref41_find_L0] at hr
      refine g_seq ?_
      refine g_seq ?_
      refine g_run (by kernel_rfl) [(0, .d), (1, .d), (2, .d), (3, .d)] rfl ?_
      refine r_d rfl rfl rfl (s_move rfl rfl) ?_
      refine r_d rfl rfl rfl (s_move rfl rfl) ?_
      refine r_d rfl rfl rfl (m_len (f := enc_S_api_Rank) ranks_a0 rfl el_L_api_Rank rfl (asl rfl)) ?_
      refine r_d rfl rfl rfl (s_cmp rfl rfl rfl rfl) ?_
      refine r_end ?_
      refine g_known 12 true rfl ht0 ?_
      refine g_condT rfl ?_
      refine g_skip ?_
      refine g_seq ?_
      refine g_block ?_
      refine g_seq ?_
      refine g_run (by kernel_rfl) [(0, .d), (1, .d), (2, .d), (3, .d), (4, .d), (5, .d), (6, .d), (7, .d), (8, .d), (9, .d), (10, .d), (11, .d), (12, .d), (13, .d), (14, .d), (15, .d), (16, .d)] rfl ?_
      refine r_d rfl rfl rfl (s_move rfl rfl) ?_
      refine r_d rfl rfl rfl (s_move rfl rfl) ?_
      refine r_d rfl rfl rfl (m_index (f := enc_S_api_Rank) ranks_a0 rfl el_L_api_Rank rfl (asl rfl) rfl hq0 sz_S_api_Rank rfl) ?_
      refine r_d rfl rfl rfl (s_fieldAddr rfl fl_api_Rank_0 rfl rfl rfl rfl) ?_
      refine r_d rfl rfl rfl (s_load rfl rfl (by exact ty_string) rfl) ?_
      refine r_d rfl rfl rfl (s_move rfl rfl) ?_
      refine r_d rfl rfl rfl (s_cmpS rfl rfl rfl rfl) ?_
      refine r_d rfl rfl rfl (s_move rfl rfl) ?_
      refine r_sB 22 rfl hr (fun h22_3 hr => ?_) (fun h22_3 hr => ?_)
      ·
        refine r_d rfl rfl rfl (s_move rfl rfl) ?_
        refine r_d rfl rfl rfl (s_move rfl rfl) ?_
        refine r_d rfl rfl rfl (m_index (f := enc_S_api_Rank) ranks_a0 rfl el_L_api_Rank rfl (asl rfl) rfl hq0 sz_S_api_Rank rfl) ?_
        refine r_d rfl rfl rfl (s_fieldAddr rfl fl_api_Rank_2 rfl rfl rfl rfl) ?_
        refine r_d rfl rfl rfl (s_load rfl rfl (by exact ty_L_int) rfl) ?_
        refine r_d rfl rfl rfl (m_len (f := (D.int .i64)) q_3.f2_Factors rfl el_L_int rfl (asl rfl)) ?_
        refine r_d rfl rfl rfl (s_move rfl rfl) ?_
        refine r_d rfl rfl rfl (s_cmp rfl rfl rfl rfl) ?_
        refine r_d rfl rfl rfl (s_pickT rfl rfl rfl) ?_
        refine r_end ?_
        refine g_sB 31 rfl hr (fun h31_4 hr => ?_) (fun h31_4 hr => ?_)
        ·
          refine g_condT rfl ?_
          refine g_seq ?_
          refine g_run (by kernel_rfl) [(0, .d), (1, .d), (2, .d), (3, .d), (4, .w), (5, .d)] rfl ?_
          refine r_d rfl rfl rfl (s_move rfl rfl) ?_
          refine r_d rfl rfl rfl (s_move rfl rfl) ?_
          refine r_d rfl rfl rfl (m_index (f := enc_S_api_Rank) ranks_a0 rfl el_L_api_Rank rfl (asl rfl) rfl hq0 sz_S_api_Rank rfl) ?_
          refine r_d rfl rfl rfl (s_load rfl rfl (by exact ty_api_Rank) (sz_S_api_Rank _)) ?_
          refine r_w01 rfl rfl rfl (t_store0 _ rfl rfl rfl (Wk.refl _) (pf0 _) (by exact ty_api_Rank) (sz_S_api_Rank _) rfl rfl) ?_
          refine r_d rfl rfl rfl (s_assign rfl rfl) ?_
          refine r_end ?_
          obtain rfl := Option.some.inj hr
          refine g_ret Try.func24 _ (.cons (resRef rfl (.head _) (by exact ty_api_Rank) (sz_S_api_Rank _) (Wk.refl _)) (.cons (resTmp rfl (Wk.refl _)) .nil)) ?_
          rfl
        ·
          refine g_condF rfl ?_
          refine g_skip ?_
          refine g_inBlock ?_
          refine g_run (by kernel_rfl) [(0, .d), (1, .d), (2, .d)] rfl ?_
          refine r_d rfl rfl rfl (s_move rfl rfl) ?_
          refine r_d rfl rfl rfl (s_ar (r := ((i_2 + 1 : Nat) : Int)) rfl rfl rfl (by simp [iar]) (by omega)) ?_
          refine r_d rfl rfl rfl (s_assign rfl rfl) ?_
          refine r_end ?_
          refine g_sub [(0, .lst (ranks_a0.map enc_S_api_Rank)), (1, .str name_a1), (2, .int .i64 arity_a2), (6, .ref b6_0 0 []), (8, .int .i64 ((i_2 + 1 : Nat) : Int))] (Sub.cons' rfl (Sub.cons' rfl (Sub.cons' rfl (Sub.cons' rfl (Sub.cons' rfl (Sub.nil _)))))) ?_
          exact IH0 _ _ _ (by omega) ⟨(i_2 + 1), rfl, rfl, rfl, (by omega), hr⟩
      ·
        refine r_skip rfl rfl rfl ?_
        refine r_skip rfl rfl rfl ?_
        refine r_skip rfl rfl rfl ?_
        refine r_skip rfl rfl rfl ?_
        refine r_skip rfl rfl rfl ?_
        refine r_skip rfl rfl rfl ?_
        refine r_skip rfl rfl rfl ?_
        refine r_skip rfl rfl rfl ?_
        refine r_d rfl rfl rfl (s_pickF rfl rfl rfl) ?_
        refine r_end ?_
        refine g_condF rfl ?_
        refine g_skip ?_
        refine g_inBlock ?_
        refine g_run (by kernel_rfl) [(0, .d), (1, .d), (2, .d)] rfl ?_
        refine r_d rfl rfl rfl (s_move rfl rfl) ?_
        refine r_d rfl rfl rfl (s_ar (r := ((i_2 + 1 : Nat) : Int)) rfl rfl rfl (by simp [iar]) (by omega)) ?_
        refine r_d rfl rfl rfl (s_assign rfl rfl) ?_
        refine r_end ?_
        refine g_sub [(0, .lst (ranks_a0.map enc_S_api_Rank)), (1, .str name_a1), (2, .int .i64 arity_a2), (6, .ref b6_0 0 []), (8, .int .i64 ((i_2 + 1 : Nat) : Int))] (Sub.cons' rfl (Sub.cons' rfl (Sub.cons' rfl (Sub.cons' rfl (Sub.cons' rfl (Sub.nil _)))))) ?_
        exact IH0 _ _ _ (by omega) ⟨(i_2 + 1), rfl, rfl, rfl, (by omega), hr⟩

noncomputable def lf_constraintref03_has_L0 (k : Option (Bool)) (n_a1 : Int) : List Int → Option (Bool)
  | [] =>
  k
  | q_2 :: rest =>
  (bif (q_2 == n_a1) then
  some (true)
  else
  (lf_constraintref03_has_L0 k n_a1 rest))
noncomputable def lf_constraintref03_has (l_a0 : (List Int)) (n_a1 : Int) : Option (Bool) :=
  (lf_constraintref03_has_L0 (some (false)) n_a1 l_a0)

set_option maxHeartbeats 1000000 in
theorem lg_constraintref03_has (l_a0 : (List Int)) (n_a1 : Int) (res : Bool) (hr : lf_constraintref03_has l_a0 n_a1 = some res) : Gives Try.prog 72 [.lst (l_a0.map (D.int .i64)), .int .i64 n_a1] (.bool res) := by
  unfold lf_constraintref03_has at hr
  refine spec_env [(0, .lst (l_a0.map (D.int .i64))), (1, .int .i64 n_a1)] Try.func72 rfl rfl fun K hK => ?_
  refine g_seq ?_
  refine g_run (by kernel_rfl) [(0, .d)] rfl ?_
  refine r_d rfl rfl rfl (s_assign rfl rfl) ?_
  refine r_end ?_
  refine g_seq ?_
  refine g_seq ?_
  refine g_run (by kernel_rfl) [(0, .d)] rfl ?_
  refine r_d rfl rfl rfl (s_assign rfl rfl) ?_
  refine r_end ?_
  obtain ⟨kk0, hkk0, hr⟩ := exK (fun k => lf_constraintref03_has_L0 k n_a1 l_a0) hr
  refine g_len 0 rfl (asl rfl) fun hla0 => ?_
  simp only [List.length_map] at hla0
  refine g_blockJ (fun env σ => env = [] ∧ σ = [] ∧ kk0 = some res) ?_ (fun HK0 => ?_)
  ·
    rintro _ _ ⟨rfl, rfl, hr⟩
    rw [hkk0] at hr
    refine g_seq ?_
    refine g_run (by kernel_rfl) [(0, .d)] rfl ?_
    refine r_d rfl rfl rfl (s_assign rfl rfl) ?_
    refine r_end ?_
    obtain rfl := Option.some.inj hr
    refine g_ret Try.func72 _ (.cons (resTmp rfl (Wk.refl _)) .nil) ?_
    rfl
  ·
    refine g_sub [(0, .lst (l_a0.map (D.int .i64))), (1, .int .i64 n_a1), (5, .int .i64 ((0 : Nat) : Int))] (Sub.cons' rfl (Sub.cons' rfl (Sub.cons' rfl (Sub.nil _)))) ?_
    refine g_loop (fun n env σ => ∃ (i_1 : Nat), (n = l_a0.length - i_1) ∧ (env = [(0, .lst (l_a0.map (D.int .i64))), (1, .int .i64 n_a1), (5, .int .i64 (i_1 : Int))]) ∧ (σ = []) ∧ (i_1 ≤ l_a0.length) ∧ (lf_constraintref03_has_L0 kk0 n_a1 (l_a0.drop i_1) = some res)) _ ⟨0, rfl, rfl, rfl, Nat.zero_le _, hr⟩ ?_
    rintro n _ _ ⟨i_1, rfl, rfl, rfl, hi0, hr⟩ IH0
    rcases listStep l_a0 i_1 hi0 with ⟨ht0, hd0, he0⟩ | ⟨q_2, ht0, hd0, hq0, hlt0⟩
    ·
      rw [hd0, lf_constraintref03_has_L0] at hr
      refine g_seq ?_
      refine g_seq ?_
      refine g_run (by kernel_rfl) [(0, .d), (1, .d), (2, .d), (3, .d)] rfl ?_
      refine r_d rfl rfl rfl (s_move rfl rfl) ?_
      refine r_d rfl rfl rfl (s_move rfl rfl) ?_
      refine r_d rfl rfl rfl (m_len (f := (D.int .i64)) l_a0 rfl el_L_int rfl (asl rfl)) ?_
      refine r_d rfl rfl rfl (s_cmp rfl rfl rfl rfl) ?_
      refine r_end ?_
      refine g_known 9 false rfl ht0 ?_
      refine g_condF rfl ?_
      refine g_exit rfl ?_
      refine g_sub [] (Sub.nil _) ?_
      exact HK0 _ _ ⟨rfl, rfl, hr⟩
    ·
      rw [hd0, lf_constraintref03_has_L0] at hr
      refine g_seq ?_
      refine g_seq ?_
      refine g_run (by kernel_rfl) [(0, .d), (1, .d), (2, .d), (3, .d)] rfl ?_
      refine r_d rfl rfl rfl (s_move rfl rfl) ?_
      refine r_d rfl rfl rfl (s_move rfl rfl) ?_
      refine r_d rfl rfl rfl (m_len (f := (D.int .i64)) l_a0 rfl el_L_int rfl (asl rfl)) ?_
      refine r_d rfl rfl rfl (s_cmp rfl rfl rfl rfl) ?_
      refine r_end ?_
      refine g_known 9 true rfl ht0 ?_
      refine g_condT rfl ?_
      refine g_skip ?_
      refine g_seq ?_
      refine g_block ?_
      refine g_seq ?_
      refine g_run (by kernel_rfl) [(0, .d), (1, .d), (2, .d), (3, .d), (4, .d), (5, .d)] rfl ?_
      refine r_d rfl rfl rfl (s_move rfl rfl) ?_
      refine r_d rfl rfl rfl (s_move rfl rfl) ?_
      refine r_d rfl rfl rfl (m_index (f := (D.int .i64)) l_a0 rfl el_L_int rfl (asl rfl) rfl hq0 (fun _ => rfl) rfl) ?_
      refine r_d rfl rfl rfl (s_load rfl rfl (by exact ty_int) rfl) ?_
      refine r_d rfl rfl rfl (s_move rfl rfl) ?_
      refine r_d rfl rfl rfl (s_cmp rfl rfl rfl rfl) ?_
      refine r_end ?_
      refine g_sB 17 rfl hr (fun h17_2 hr => ?_) (fun h17_2 hr => ?_)
      ·
        refine g_condT rfl ?_
        refine g_seq ?_
        refine g_run (by kernel_rfl) [(0, .d)] rfl ?_
        refine r_d rfl rfl rfl (s_assign rfl rfl) ?_
        refine r_end ?_
        obtain rfl := Option.some.inj hr
        refine g_ret Try.func72 _ (.cons (resTmp rfl (Wk.refl _)) .nil) ?_
        rfl
      ·
        refine g_condF rfl ?_
        refine g_skip ?_
        refine g_inBlock ?_
        refine g_run (by kernel_rfl) [(0, .d), (1, .d), (2, .d)] rfl ?_
        refine r_d rfl rfl rfl (s_move rfl rfl) ?_
        refine r_d rfl rfl rfl (s_ar (r := ((i_1 + 1 : Nat) : Int)) rfl rfl rfl (by simp [iar]) (by omega)) ?_
        refine r_d rfl rfl rfl (s_assign rfl rfl) ?_
        refine r_end ?_
        refine g_sub [(0, .lst (l_a0.map (D.int .i64))), (1, .int .i64 n_a1), (5, .int .i64 ((i_1 + 1 : Nat) : Int))] (Sub.cons' rfl (Sub.cons' rfl (Sub.cons' rfl (Sub.nil _)))) ?_
        exact IH0 _ _ _ (by omega) ⟨(i_1 + 1), rfl, rfl, rfl, (by omega), hr⟩

noncomputable def lf_constraintref03_args (t_a0 : T) : Option ((List T)) :=
  (bif (t_a0.k == (2 : Int)) then
  some (t_a0.ar)
  else
  some ([]))

set_option maxHeartbeats 1000000 in
theorem lg_constraintref03_args (t_a0 : T) (res : (List T)) (hr : lf_constraintref03_args t_a0 = some res) : Gives Try.prog 63 [encT t_a0] (.lst (res.map encT)) := by
  unfold lf_constraintref03_args at hr
  refine spec_env [(0, encT t_a0)] Try.func63 rfl rfl fun K hK => ?_
  refine g_seq ?_
  refine g_run (by kernel_rfl) [(0, .d), (1, .d)] rfl ?_
  refine r_d rfl rfl rfl (s_box rfl rfl rfl) ?_
  refine r_d rfl rfl rfl (s_assign rfl rfl) ?_
  refine r_end ?_
  refine g_seq ?_
  refine g_seq ?_
  refine g_run (by kernel_rfl) [(0, .d), (1, .d), (2, .d)] rfl ?_
  refine r_d rfl rfl rfl (s_fieldAddr rfl fl_api_Term_0 rfl (fsT_get0 _) (fsT_off0 _) rfl) ?_
  refine r_d rfl rfl rfl (s_load rfl rfl (by exact ty_int) rfl) ?_
  refine r_d rfl rfl rfl (s_cmp rfl rfl rfl rfl) ?_
  refine r_end ?_
  refine g_sB 5 rfl hr (fun h5_0 hr => ?_) (fun h5_0 hr => ?_)
  ·
    refine g_condT rfl ?_
    refine g_seq ?_
    refine g_run (by kernel_rfl) [(0, .d), (1, .d), (2, .d)] rfl ?_
    refine r_d rfl rfl rfl (s_fieldAddr rfl fl_api_Term_3 rfl (fsT_get3 _) (fsT_off3 _) rfl) ?_
    refine r_d rfl rfl rfl (s_load rfl rfl (by exact ty_L_api_Term) rfl) ?_
    refine r_d rfl rfl rfl (s_assign rfl rfl) ?_
    refine r_end ?_
    obtain rfl := Option.some.inj hr
    refine g_ret Try.func63 _ (.cons (resTmp rfl (Wk.refl _)) .nil) ?_
    rfl
  ·
    refine g_condF rfl ?_
    refine g_skip ?_
    refine g_seq ?_
    refine g_run (by kernel_rfl) [(0, .d)] rfl ?_
    refine r_d rfl rfl rfl (s_assign rfl rfl) ?_
    refine r_end ?_
    obtain rfl := Option.some.inj hr
    refine g_ret Try.func63 _ (.cons (resTmp rfl (Wk.full _)) .nil) ?_
    rfl

noncomputable def lf_constraintref03_vars_s1_L0 (k : ((List Int)) → Option ((List Int))) (rec : (List Int) → T → Option ((List Int))) : List T → (List Int) → Option ((List Int))
  | [], l_6 =>
  (k l_6)
  | q_10 :: rest, l_6 =>
  ((rec l_6 q_10).bind fun r_11 =>
  (lf_constraintref03_vars_s1_L0 k rec rest r_11))

noncomputable def lf_constraintref03_vars_s1_J0 (k : ((List Int)) → Option ((List Int))) (l_a0 : (List Int)) (t_a1 : T) : Option ((List Int)) :=
  (bif (t_a1.k == (1 : Int)) then
  ((lf_constraintref03_has l_a0 t_a1.i).bind fun r_14 =>
  (bif (!r_14) then
  ((appO 8 l_a0 [t_a1.i]).bind fun l_16 =>
  (k l_16))
  else
  (k l_a0)))
  else
  (k l_a0))
noncomputable def lf_constraintref03_vars_s1 : Nat → (List Int) → T → Option ((List Int))
  | 0, _, _ => none
  | fuel + 1, l_a0, t_a1 =>
    (fun (rec : (List Int) → T → Option ((List Int))) =>
      (lf_constraintref03_vars_s1_J0 (fun l_3 =>
      ((lf_constraintref03_args t_a1).bind fun r_4 =>
      (lf_constraintref03_vars_s1_L0 (fun l_9 =>
      some (l_9)) rec r_4 l_3))) l_a0 t_a1)) (lf_constraintref03_vars_s1 fuel)

set_option maxHeartbeats 1000000 in
theorem lgs_constraintref03_vars_s1 (fuel : Nat) (rec : (List Int) → T → Option ((List Int))) (IHR : ∀ (l_a0 : (List Int)) (t_a1 : T) (u_o0 : Value) (res : (List Int)), rec l_a0 t_a1 = some res → Spec Try.prog 62 [.own u_o0 (l_a0.map (D.int .i64)), encT t_a1] [.row u_o0 l_a0.length 3 1] (fun d σ => ∃ (u_o0' : Value), d = .own u_o0' (res.map (D.int .i64)) ∧ σ = [.row u_o0' res.length 3 1])) (l_a0 : (List Int)) (t_a1 : T) (u_o0 : Value) (res : (List Int))
    (hr : (lf_constraintref03_vars_s1_J0 (fun l_3 =>
((lf_constraintref03_args t_a1).bind fun r_4 =>
(lf_constraintref03_vars_s1_L0 (fun l_9 =>
some (l_9)) rec r_4 l_3))) l_a0 t_a1) = some res) : Spec Try.prog 62 [.own u_o0 (l_a0.map (D.int .i64)), encT t_a1] [.row u_o0 l_a0.length 3 1] (fun d σ => ∃ (u_o0' : Value), d = .own u_o0' (res.map (D.int .i64)) ∧ σ = [.row u_o0' res.length 3 1]) := by
  refine spec_env [(0, .own u_o0 (l_a0.map (D.int .i64))), (1, encT t_a1)] Try.func62 rfl rfl fun K hK => ?_
  refine g_seq ?_
  refine g_run (by kernel_rfl) [(0, .d), (1, .w)] rfl ?_
  refine r_d rfl rfl rfl (s_box rfl rfl rfl) ?_
  refine r_w rfl rfl rfl (s_nilOwn 3 1 (.inl rfl)) ?_
  rintro _ _ ⟨u4_0, rfl, rfl⟩
  refine r_end ?_
  obtain ⟨kkJ0, hkkJ0, hr⟩ := exK (fun k => lf_constraintref03_vars_s1_J0 k l_a0 t_a1) hr
  refine g_seqJ (fun env σ => ∃ (l_3 : (List Int)) (u_2 : Value), env = [(0, .own u_2 (l_3.map (D.int .i64))), (3, .ptr (encT t_a1))] ∧ σ = [.row u_2 l_3.length 3 1] ∧ kkJ0 l_3 = some res) ?_ (fun HKJ0 => ?_)
  ·
    rintro _ _ ⟨l_3, u_2, rfl, rfl, hr⟩
    rw [hkkJ0] at hr
    refine g_seq ?_
    refine g_run (by kernel_rfl) [(0, .d), (1, .d), (2, .d)] rfl ?_
    refine r_d rfl rfl rfl (s_load rfl rfl (by exact ty_api_Term) (sz_encT _)) ?_
    obtain ⟨r_4, hr_4, hr⟩ := bindS hr
    refine r_d rfl rfl rfl (s_callD rfl cl_constraintref03_args (.cons rfl (Wk.refl _) .nil) (lg_constraintref03_args _ _ hr_4)) ?_
    refine r_d rfl rfl rfl (s_assign rfl rfl) ?_
    refine r_end ?_
    refine g_seq ?_
    refine g_seq ?_
    refine g_run (by kernel_rfl) [(0, .d)] rfl ?_
    refine r_d rfl rfl rfl (s_assign rfl rfl) ?_
    refine r_end ?_
    obtain ⟨kk0, hkk0, hr⟩ := exK (fun k => lf_constraintref03_vars_s1_L0 k rec r_4 l_3) hr
    refine g_len 23 rfl (asl rfl) fun hla0 => ?_
    simp only [List.length_map] at hla0
    refine g_blockJ (fun env σ => ∃ (l_9 : (List Int)) (u_8 : Value), env = [(0, .own u_8 (l_9.map (D.int .i64)))] ∧ σ = [.row u_8 l_9.length 3 1] ∧ kk0 l_9 = some res) ?_ (fun HK0 => ?_)
    ·
      rintro _ _ ⟨l_9, u_8, rfl, rfl, hr⟩
      rw [hkk0] at hr
      refine g_seq ?_
      refine g_run (by kernel_rfl) [(0, .d), (1, .d)] rfl ?_
      refine r_d rfl rfl rfl (s_move rfl rfl) ?_
      refine r_d rfl rfl rfl (s_assign rfl rfl) ?_
      refine r_end ?_
      obtain rfl := Option.some.inj hr
      refine g_ret Try.func62 _ (.cons (resTmp rfl (Wk.refl _)) .nil) ?_
      exact ⟨u_8, rfl, rfl⟩
    ·
      refine g_sub [(5, .lst (r_4.map encT)), (0, .own u_2 (l_3.map (D.int .i64))), (6, .int .i64 ((0 : Nat) : Int))] (Sub.cons' rfl (Sub.cons' rfl (Sub.cons' rfl (Sub.nil _)))) ?_
      refine g_loop (fun n env σ => ∃ (l_6 : (List Int)) (i_7 : Nat) (u_5 : Value), (n = r_4.length - i_7) ∧ (env = [(5, .lst (r_4.map encT)), (0, .own u_5 (l_6.map (D.int .i64))), (6, .int .i64 (i_7 : Int))]) ∧ (σ = [.row u_5 l_6.length 3 1]) ∧ (i_7 ≤ r_4.length) ∧ (lf_constraintref03_vars_s1_L0 kk0 rec (r_4.drop i_7) l_6 = some res)) _ ⟨l_3, 0, u_2, rfl, rfl, rfl, Nat.zero_le _, hr⟩ ?_
      rintro n _ _ ⟨l_6, i_7, u_5, rfl, rfl, rfl, hi0, hr⟩ IH0
      rcases listStep r_4 i_7 hi0 with ⟨ht0, hd0, he0⟩ | ⟨q_10, ht0, hd0, hq0, hlt0⟩
      ·
        rw [hd0, lf_constraintref03_vars_s1_L0] at hr
        refine g_seq ?_
        refine g_seq ?_
        refine g_run (by kernel_rfl) [(0, .d), (1, .d), (2, .d), (3, .d)] rfl ?_
        refine r_d rfl rfl rfl (s_move rfl rfl) ?_
        refine r_d rfl rfl rfl (s_move rfl rfl) ?_
        refine r_d rfl rfl rfl (m_len (f := encT) r_4 rfl el_L_api_Term rfl (asl rfl)) ?_
        refine r_d rfl rfl rfl (s_cmp rfl rfl rfl rfl) ?_
        refine r_end ?_
        refine g_known 27 false rfl ht0 ?_
        refine g_condF rfl ?_
        refine g_exit rfl ?_
        refine g_sub [(0, .own u_5 (l_6.map (D.int .i64)))] (Sub.cons' rfl (Sub.nil _)) ?_
        exact HK0 _ _ ⟨l_6, u_5, rfl, rfl, hr⟩
      ·
        rw [hd0, lf_constraintref03_vars_s1_L0] at hr
        refine g_seq ?_
        refine g_seq ?_
        refine g_run (by kernel_rfl) [(0, .d), (1, .d), (2, .d), (3, .d)] rfl ?_
        refine r_d rfl rfl rfl (s_move rfl rfl) ?_
        refine r_d rfl rfl rfl (s_move rfl rfl) ?_
        refine r_d rfl rfl rfl (m_len (f := encT) r_4 rfl el_L_api_Term rfl (asl rfl)) ?_
        refine r_d rfl rfl rfl (s_cmp rfl rfl rfl rfl) ?_
        refine r_end ?_
        refine g_known 27 true rfl ht0 ?_
        refine g_condT rfl ?_
        refine g_skip ?_
        refine g_seq ?_
        refine g_block ?_
        refine g_run (by kernel_rfl) [(0, .d), (1, .d), (2, .d), (3, .d), (4, .d), (5, .w), (6, .d)] rfl ?_
        refine r_d rfl rfl rfl (s_move rfl rfl) ?_
        refine r_d rfl rfl rfl (s_move rfl rfl) ?_
        refine r_d rfl rfl rfl (s_move rfl rfl) ?_
        refine r_d rfl rfl rfl (m_index (f := encT) r_4 rfl el_L_api_Term rfl (asl rfl) rfl hq0 sz_encT rfl) ?_
        refine r_d rfl rfl rfl (s_load rfl rfl (by exact ty_api_Term) (sz_encT _)) ?_
        obtain ⟨r_11, hr_11, hr⟩ := bindS hr
        refine r_w rfl rfl rfl (s_call _ rfl cl_constraintref03_vars (.cons rfl (Wk.refl _) (.cons rfl (Wk.refl _) .nil)) (by exact (pf0 _)) (IHR _ _ _ _ hr_11)) ?_
        rintro _ _ ⟨_, ⟨u35_11, rfl, rfl⟩, rfl⟩
        refine r_st ((.row u35_11 r_11.length 3 1) :: _) rfl ?_
        refine r_d rfl rfl rfl (s_assign rfl rfl) ?_
        refine r_end ?_
        refine g_inBlock ?_
        refine g_run (by kernel_rfl) [(0, .d), (1, .d), (2, .d)] rfl ?_
        refine r_d rfl rfl rfl (s_move rfl rfl) ?_
        refine r_d rfl rfl rfl (s_ar (r := ((i_7 + 1 : Nat) : Int)) rfl rfl rfl (by simp [iar]) (by omega)) ?_
        refine r_d rfl rfl rfl (s_assign rfl rfl) ?_
        refine r_end ?_
        refine g_sub [(5, .lst (r_4.map encT)), (0, .own u35_11 (r_11.map (D.int .i64))), (6, .int .i64 ((i_7 + 1 : Nat) : Int))] (Sub.cons' rfl (Sub.cons' rfl (Sub.cons' rfl (Sub.nil _)))) ?_
        exact IH0 _ _ _ (by omega) ⟨r_11, (i_7 + 1), u35_11, rfl, rfl, rfl, (by omega), hr⟩
  ·
    unfold lf_constraintref03_vars_s1_J0 at hr
    refine g_seq ?_
    refine g_run (by kernel_rfl) [(0, .d), (1, .d), (2, .d), (3, .d), (4, .d), (5, .d), (6, .d), (7, .d), (8, .d), (9, .d)] rfl ?_
    refine r_d rfl rfl rfl (s_fieldAddr rfl fl_api_Term_0 rfl (fsT_get0 _) (fsT_off0 _) rfl) ?_
    refine r_d rfl rfl rfl (s_load rfl rfl (by exact ty_int) rfl) ?_
    refine r_d rfl rfl rfl (s_cmp rfl rfl rfl rfl) ?_
    refine r_d rfl rfl rfl (s_move rfl rfl) ?_
    refine r_sB 10 rfl hr (fun h10_12 hr => ?_) (fun h10_12 hr => ?_)
    ·
      refine r_d rfl rfl rfl (s_move rfl rfl) ?_
      refine r_d rfl rfl rfl (s_fieldAddr rfl fl_api_Term_1 rfl (fsT_get1 _) (fsT_off1 _) rfl) ?_
      refine r_d rfl rfl rfl (s_load rfl rfl (by exact ty_int) rfl) ?_
      obtain ⟨r_14, hr_14, hr⟩ := bindS hr
      refine r_d rfl rfl rfl (s_callD rfl cl_constraintref03_has (.cons rfl (Wk.own _ _) (.cons rfl (Wk.refl _) .nil)) (lg_constraintref03_has _ _ _ hr_14)) ?_
      refine r_d rfl rfl rfl (s_not rfl rfl) ?_
      refine r_d rfl rfl rfl (s_pickT rfl rfl rfl) ?_
      refine r_end ?_
      refine g_sB 16 rfl hr (fun h16_14 hr => ?_) (fun h16_14 hr => ?_)
      ·
        refine g_condT rfl ?_
        refine g_run (by kernel_rfl) [(0, .d), (1, .d), (2, .d), (3, .d), (4, .w), (5, .d)] rfl ?_
        refine r_d rfl rfl rfl (s_move rfl rfl) ?_
        refine r_d rfl rfl rfl (s_fieldAddr rfl fl_api_Term_1 rfl (fsT_get1 _) (fsT_off1 _) rfl) ?_
        refine r_d rfl rfl rfl (s_load rfl rfl (by exact ty_int) rfl) ?_
        refine r_d rfl rfl rfl (m_lit (f := (D.int .i64)) [.tmp 19] [t_a1.i] rfl el_L_int rfl rfl (by decide) (by decide) (.cons rfl (Wk.refl _) .nil) (fun _ => rfl) (fun _ => rfl)) ?_
        obtain ⟨l_16, hl_16, hr⟩ := bindS hr
        refine r_w rfl rfl rfl (m_appOwn (f := (D.int .i64)) l_a0 [t_a1.i] rfl el_L_int rfl rfl (asl rfl) (pf1 _ _ _) rfl (fun _ => rfl) hl_16) ?_
        rintro _ _ ⟨u21_16, rfl, rfl⟩
        refine r_d rfl rfl rfl (s_assign rfl rfl) ?_
        refine r_end ?_
        refine g_sub [(0, .own u21_16 (l_16.map (D.int .i64))), (3, .ptr (encT t_a1))] (Sub.cons' rfl (Sub.cons' rfl (Sub.nil _))) ?_
        refine g_perm [_] _ (pf0 _) ?_
        exact HKJ0 _ _ ⟨l_16, u21_16, rfl, rfl, hr⟩
      ·
        refine g_condF rfl ?_
        refine g_skip ?_
        refine g_sub [(0, .own u_o0 (l_a0.map (D.int .i64))), (3, .ptr (encT t_a1))] (Sub.cons' rfl (Sub.cons' rfl (Sub.nil _))) ?_
        refine g_perm [_] _ (pf1 _ _ _) ?_
        exact HKJ0 _ _ ⟨l_a0, u_o0, rfl, rfl, hr⟩
    ·
      refine r_skip rfl rfl rfl ?_
      refine r_skip rfl rfl rfl ?_
      refine r_skip rfl rfl rfl ?_
      refine r_skip rfl rfl rfl ?_
      refine r_skip rfl rfl rfl ?_
      refine r_d rfl rfl rfl (s_pickF rfl rfl rfl) ?_
      refine r_end ?_
      refine g_condF rfl ?_
      refine g_skip ?_
      refine g_sub [(0, .own u_o0 (l_a0.map (D.int .i64))), (3, .ptr (encT t_a1))] (Sub.cons' rfl (Sub.cons' rfl (Sub.nil _))) ?_
      refine g_perm [_] _ (pf1 _ _ _) ?_
      exact HKJ0 _ _ ⟨l_a0, u_o0, rfl, rfl, hr⟩
theorem lg_constraintref03_vars_s1 : ∀ (fuel : Nat) (l_a0 : (List Int)) (t_a1 : T) (u_o0 : Value) (res : (List Int)), lf_constraintref03_vars_s1 fuel l_a0 t_a1 = some res → Spec Try.prog 62 [.own u_o0 (l_a0.map (D.int .i64)), encT t_a1] [.row u_o0 l_a0.length 3 1] (fun d σ => ∃ (u_o0' : Value), d = .own u_o0' (res.map (D.int .i64)) ∧ σ = [.row u_o0' res.length 3 1])
  | 0, _, _, _, _, h => by cases h
  | fuel + 1, l_a0, t_a1, u_o0, res, h => lgs_constraintref03_vars_s1 fuel (lf_constraintref03_vars_s1 fuel) (lg_constraintref03_vars_s1 fuel) l_a0 t_a1 u_o0 res h

noncomputable def lf_constraintref03_VarsOf_L0 (k : ((List Int)) → Option ((List Int))) (fuel : Nat) : List T → (List Int) → Option ((List Int))
  | [], out_4 =>
  (k out_4)
  | q_8 :: rest, out_4 =>
  ((lf_constraintref03_vars_s1 fuel out_4 q_8).bind fun r_9 =>
  (lf_constraintref03_VarsOf_L0 k fuel rest r_9))
noncomputable def lf_constraintref03_VarsOf (fuel : Nat) (l_a0 : (List T)) : Option ((List Int)) :=
  (lf_constraintref03_VarsOf_L0 (fun out_7 =>
  some (out_7)) fuel l_a0 [])

set_option maxHeartbeats 1000000 in
theorem lg_constraintref03_VarsOf (fuel : Nat) (l_a0 : (List T)) (res : (List Int)) (hr : lf_constraintref03_VarsOf fuel l_a0 = some res) : Gives Try.prog 47 [.lst (l_a0.map encT)] (.lst (res.map (D.int .i64))) := by
  unfold lf_constraintref03_VarsOf at hr
  refine spec_env [(0, .lst (l_a0.map encT))] Try.func47 rfl rfl fun K hK => ?_
  refine g_seq ?_
  refine g_run (by kernel_rfl) [(0, .w)] rfl ?_
  refine r_w rfl rfl rfl (s_nilOwn 3 1 (.inl rfl)) ?_
  rintro _ _ ⟨u2_0, rfl, rfl⟩
  refine r_end ?_
  refine g_seq ?_
  refine g_run (by kernel_rfl) [(0, .w)] rfl ?_
  refine r_w rfl rfl rfl (s_nilOwn 3 1 (.inl rfl)) ?_
  rintro _ _ ⟨u3_1, rfl, rfl⟩
  refine r_end ?_
  refine g_seq ?_
  refine g_seq ?_
  refine g_run (by kernel_rfl) [(0, .d)] rfl ?_
  refine r_d rfl rfl rfl (s_assign rfl rfl) ?_
  refine r_end ?_
  obtain ⟨kk0, hkk0, hr⟩ := exK (fun k => lf_constraintref03_VarsOf_L0 k fuel l_a0 []) hr
  refine g_len 0 rfl (asl rfl) fun hla0 => ?_
  simp only [List.length_map] at hla0
  refine g_blockJ (fun env σ => ∃ (out_7 : (List Int)) (u_6 : Value), env = [(3, .own u_6 (out_7.map (D.int .i64)))] ∧ σ = [.row u_6 out_7.length 3 1] ∧ kk0 out_7 = some res) ?_ (fun HK0 => ?_)
  ·
    rintro _ _ ⟨out_7, u_6, rfl, rfl, hr⟩
    rw [hkk0] at hr
    refine g_seq ?_
    refine g_run (by kernel_rfl) [(0, .d), (1, .d)] rfl ?_
    refine r_d rfl rfl rfl (s_move rfl rfl) ?_
    refine r_d rfl rfl rfl (s_assign rfl rfl) ?_
    refine r_end ?_
    obtain rfl := Option.some.inj hr
    refine g_ret Try.func47 _ (.cons (resTmp rfl (Wk.own _ _)) .nil) ?_
    rfl
  ·
    refine g_sub [(0, .lst (l_a0.map encT)), (3, .own u3_1 ([].map (D.int .i64))), (4, .int .i64 ((0 : Nat) : Int))] (Sub.cons' rfl (Sub.cons' rfl (Sub.cons' rfl (Sub.nil _)))) ?_
    refine g_perm [_] _ (pf0 _) ?_
    refine g_loop (fun n env σ => ∃ (out_4 : (List Int)) (i_5 : Nat) (u_3 : Value), (n = l_a0.length - i_5) ∧ (env = [(0, .lst (l_a0.map encT)), (3, .own u_3 (out_4.map (D.int .i64))), (4, .int .i64 (i_5 : Int))]) ∧ (σ = [.row u_3 out_4.length 3 1]) ∧ (i_5 ≤ l_a0.length) ∧ (lf_constraintref03_VarsOf_L0 kk0 fuel (l_a0.drop i_5) out_4 = some res)) _ ⟨[], 0, u3_1, rfl, rfl, rfl, Nat.zero_le _, hr⟩ ?_
    rintro n _ _ ⟨out_4, i_5, u_3, rfl, rfl, rfl, hi0, hr⟩ IH0
    rcases listStep l_a0 i_5 hi0 with ⟨ht0, hd0, he0⟩ | ⟨q_8, ht0, hd0, hq0, hlt0⟩
    ·
      rw [hd0, lf_constraintref03_VarsOf_L0] at hr
      refine g_seq ?_
      refine g_seq ?_
      refine g_run (by kernel_rfl) [(0, .d), (1, .d), (2, .d), (3, .d)] rfl ?_
      refine r_d rfl rfl rfl (s_move rfl rfl) ?_
      refine r_d rfl rfl rfl (s_move rfl rfl) ?_
      refine r_d rfl rfl rfl (m_len (f := encT) l_a0 rfl el_L_api_Term rfl (asl rfl)) ?_
      refine r_d rfl rfl rfl (s_cmp rfl rfl rfl rfl) ?_
      refine r_end ?_
      refine g_known 8 false rfl ht0 ?_
      refine g_condF rfl ?_
      refine g_exit rfl ?_
      refine g_sub [(3, .own u_3 (out_4.map (D.int .i64)))] (Sub.cons' rfl (Sub.nil _)) ?_
      exact HK0 _ _ ⟨out_4, u_3, rfl, rfl, hr⟩
    ·
      rw [hd0, lf_constraintref03_VarsOf_L0] at hr
      refine g_seq ?_
      refine g_seq ?_
      refine g_run (by kernel_rfl) [(0, .d), (1, .d), (2, .d), (3, .d)] rfl ?_
      refine r_d rfl rfl rfl (s_move rfl rfl) ?_
      refine r_d rfl rfl rfl (s_move rfl rfl) ?_
      refine r_d rfl rfl rfl (m_len (f := encT) l_a0 rfl el_L_api_Term rfl (asl rfl)) ?_
      refine r_d rfl rfl rfl (s_cmp rfl rfl rfl rfl) ?_
      refine r_end ?_
      refine g_known 8 true rfl ht0 ?_
      refine g_condT rfl ?_
      refine g_skip ?_
      refine g_seq ?_
      refine g_block ?_
      refine g_run (by kernel_rfl) [(0, .d), (1, .d), (2, .d), (3, .d), (4, .d), (5, .w), (6, .d)] rfl ?_
      refine r_d rfl rfl rfl (s_move rfl rfl) ?_
      refine r_d rfl rfl rfl (s_move rfl rfl) ?_
      refine r_d rfl rfl rfl (s_move rfl rfl) ?_
      refine r_d rfl rfl rfl (m_index (f := encT) l_a0 rfl el_L_api_Term rfl (asl rfl) rfl hq0 sz_encT rfl) ?_
      refine r_d rfl rfl rfl (s_load rfl rfl (by exact ty_api_Term) (sz_encT _)) ?_
      obtain ⟨r_9, hr_9, hr⟩ := bindS hr
      refine r_w rfl rfl rfl (s_call _ rfl cl_constraintref03_vars (.cons rfl (Wk.refl _) (.cons rfl (Wk.refl _) .nil)) (by exact (pf0 _)) (lg_constraintref03_vars_s1 fuel _ _ _ _ hr_9)) ?_
      rintro _ _ ⟨_, ⟨u16_9, rfl, rfl⟩, rfl⟩
      refine r_st ((.row u16_9 r_9.length 3 1) :: _) rfl ?_
      refine r_d rfl rfl rfl (s_assign rfl rfl) ?_
      refine r_end ?_
      refine g_inBlock ?_
      refine g_run (by kernel_rfl) [(0, .d), (1, .d), (2, .d)] rfl ?_
      refine r_d rfl rfl rfl (s_move rfl rfl) ?_
      refine r_d rfl rfl rfl (s_ar (r := ((i_5 + 1 : Nat) : Int)) rfl rfl rfl (by simp [iar]) (by omega)) ?_
      refine r_d rfl rfl rfl (s_assign rfl rfl) ?_
      refine r_end ?_
      refine g_sub [(0, .lst (l_a0.map encT)), (3, .own u16_9 (r_9.map (D.int .i64))), (4, .int .i64 ((i_5 + 1 : Nat) : Int))] (Sub.cons' rfl (Sub.cons' rfl (Sub.cons' rfl (Sub.nil _)))) ?_
      exact IH0 _ _ _ (by omega) ⟨r_9, (i_5 + 1), u16_9, rfl, rfl, rfl, (by omega), hr⟩

noncomputable def lf_constraintref03_AtomVars (fuel : Nat) (a_a0 : At) : Option ((List Int)) :=
  ((lf_constraintref03_VarsOf fuel a_a0.ts).bind fun r_1 =>
  some (r_1))

set_option maxHeartbeats 1000000 in
theorem lg_constraintref03_AtomVars (fuel : Nat) (a_a0 : At) (res : (List Int)) (hr : lf_constraintref03_AtomVars fuel a_a0 = some res) : Gives Try.prog 26 [encA a_a0] (.lst (res.map (D.int .i64))) := by
  unfold lf_constraintref03_AtomVars at hr
  refine spec_env [(0, encA a_a0)] Try.func26 rfl rfl fun K hK => ?_
  refine g_seq ?_
  refine g_run (by kernel_rfl) [(0, .d), (1, .d)] rfl ?_
  refine r_d rfl rfl rfl (s_box rfl rfl rfl) ?_
  refine r_d rfl rfl rfl (s_assign rfl rfl) ?_
  refine r_end ?_
  refine g_seq ?_
  refine g_run (by kernel_rfl) [(0, .d), (1, .d), (2, .d), (3, .d)] rfl ?_
  refine r_d rfl rfl rfl (s_fieldAddr rfl fl_api_Atom_1 rfl rfl rfl rfl) ?_
  refine r_d rfl rfl rfl (s_load rfl rfl (by exact ty_L_api_Term) rfl) ?_
  obtain ⟨r_1, hr_1, hr⟩ := bindS hr
  refine r_d rfl rfl rfl (s_callD rfl cl_constraintref03_VarsOf (.cons rfl (Wk.refl _) .nil) (lg_constraintref03_VarsOf fuel _ _ hr_1)) ?_
  refine r_d rfl rfl rfl (s_assign rfl rfl) ?_
  refine r_end ?_
  obtain rfl := Option.some.inj hr
  refine g_ret Try.func26 _ (.cons (resTmp rfl (Wk.refl _)) .nil) ?_
  rfl

noncomputable def lf_constraintref41_right_L0 (k : Option (Bool)) : List Int → Option (Bool)
  | [] =>
  k
  | q_5 :: rest =>
  (bif (decide (q_5 < (0 : Int))) then
  some (false)
  else
  (bif (decide (q_5 > (1048576 : Int))) then
  some (false)
  else
  (lf_constraintref41_right_L0 k rest)))
noncomputable def lf_constraintref41_right (x_a0 : S_api_Rank) : Option (Bool) :=
  (bif (decide (x_a0.f1_Const < (0 : Int))) then
  some (false)
  else
  (bif (decide (x_a0.f1_Const > (1048576 : Int))) then
  some (false)
  else
  (bif (decide ((x_a0.f2_Factors.length : Int) > (6 : Int))) then
  some (false)
  else
  (lf_constraintref41_right_L0 (some (true)) x_a0.f2_Factors))))

set_option maxHeartbeats 1000000 in
theorem lg_constraintref41_right (x_a0 : S_api_Rank) (res : Bool) (hr : lf_constraintref41_right x_a0 = some res) : Gives Try.prog 27 [enc_S_api_Rank x_a0] (.bool res) := by
  unfold lf_constraintref41_right at hr
  refine spec_env [(0, enc_S_api_Rank x_a0)] Try.func27 rfl rfl fun K hK => ?_
  refine g_seq ?_
  refine g_run (by kernel_rfl) [(0, .d), (1, .d)] rfl ?_
  refine r_d rfl rfl rfl (s_box rfl rfl rfl) ?_
  refine r_d rfl rfl rfl (s_assign rfl rfl) ?_
  refine r_end ?_
  refine g_seq ?_
  refine g_seq ?_
  refine g_run (by kernel_rfl) [(0, .d), (1, .d), (2, .d), (3, .d), (4, .d), (5, .d), (6, .d), (7, .d), (8, .d), (9, .d), (10, .d), (11, .d), (12, .d), (13, .d)] rfl ?_
  refine r_d rfl rfl rfl (s_fieldAddr rfl fl_api_Rank_1 rfl rfl rfl rfl) ?_
  refine r_d rfl rfl rfl (s_load rfl rfl (by exact ty_int) rfl) ?_
  refine r_d rfl rfl rfl (s_cmp rfl rfl rfl rfl) ?_
  refine r_d rfl rfl rfl (s_move rfl rfl) ?_
  refine r_sB 7 rfl hr (fun h7_0 hr => ?_) (fun h7_0 hr => ?_)
  ·
    refine r_skip rfl rfl rfl ?_
    refine r_skip rfl rfl rfl ?_
    refine r_skip rfl rfl rfl ?_
    refine r_d rfl rfl rfl (s_pickT rfl rfl rfl) ?_
    refine r_d rfl rfl rfl (s_move rfl rfl) ?_
    refine r_skip rfl rfl rfl ?_
    refine r_skip rfl rfl rfl ?_
    refine r_skip rfl rfl rfl ?_
    refine r_skip rfl rfl rfl ?_
    refine r_d rfl rfl rfl (s_pickT rfl rfl rfl) ?_
    refine r_end ?_
    refine g_condT rfl ?_
    refine g_seq ?_
    refine g_run (by kernel_rfl) [(0, .d)] rfl ?_
    refine r_d rfl rfl rfl (s_assign rfl rfl) ?_
    refine r_end ?_
    obtain rfl := Option.some.inj hr
    refine g_ret Try.func27 _ (.cons (resTmp rfl (Wk.refl _)) .nil) ?_
    rfl
  ·
    refine r_d rfl rfl rfl (s_fieldAddr rfl fl_api_Rank_1 rfl rfl rfl rfl) ?_
    refine r_d rfl rfl rfl (s_load rfl rfl (by exact ty_int) rfl) ?_
    refine r_d rfl rfl rfl (s_cmp rfl rfl rfl rfl) ?_
    refine r_d rfl rfl rfl (s_pickF rfl rfl rfl) ?_
    refine r_d rfl rfl rfl (s_move rfl rfl) ?_
    refine r_sB 12 rfl hr (fun h12_1 hr => ?_) (fun h12_1 hr => ?_)
    ·
      refine r_skip rfl rfl rfl ?_
      refine r_skip rfl rfl rfl ?_
      refine r_skip rfl rfl rfl ?_
      refine r_skip rfl rfl rfl ?_
      refine r_d rfl rfl rfl (s_pickT rfl rfl rfl) ?_
      refine r_end ?_
      refine g_condT rfl ?_
      refine g_seq ?_
      refine g_run (by kernel_rfl) [(0, .d)] rfl ?_
      refine r_d rfl rfl rfl (s_assign rfl rfl) ?_
      refine r_end ?_
      obtain rfl := Option.some.inj hr
      refine g_ret Try.func27 _ (.cons (resTmp rfl (Wk.refl _)) .nil) ?_
      rfl
    ·
      refine r_d rfl rfl rfl (s_fieldAddr rfl fl_api_Rank_2 rfl rfl rfl rfl) ?_
      refine r_d rfl rfl rfl (s_load rfl rfl (by exact ty_L_int) rfl) ?_
      refine r_d rfl rfl rfl (m_len (f := (D.int .i64)) x_a0.f2_Factors rfl el_L_int rfl (asl rfl)) ?_
      refine r_d rfl rfl rfl (s_cmp rfl rfl rfl rfl) ?_
      refine r_d rfl rfl rfl (s_pickF rfl rfl rfl) ?_
      refine r_end ?_
      refine g_sB 17 rfl hr (fun h17_2 hr => ?_) (fun h17_2 hr => ?_)
      ·
        refine g_condT rfl ?_
        refine g_seq ?_
        refine g_run (by kernel_rfl) [(0, .d)] rfl ?_
        refine r_d rfl rfl rfl (s_assign rfl rfl) ?_
        refine r_end ?_
        obtain rfl := Option.some.inj hr
        refine g_ret Try.func27 _ (.cons (resTmp rfl (Wk.refl _)) .nil) ?_
        rfl
      ·
        refine g_condF rfl ?_
        refine g_skip ?_
        refine g_seq ?_
        refine g_seq ?_
        refine g_run (by kernel_rfl) [(0, .d)] rfl ?_
        refine r_d rfl rfl rfl (s_assign rfl rfl) ?_
        refine r_end ?_
        obtain ⟨kk0, hkk0, hr⟩ := exK (fun k => lf_constraintref41_right_L0 k x_a0.f2_Factors) hr
        refine g_len 14 rfl (asl rfl) fun hla0 => ?_
        simp only [List.length_map] at hla0
        refine g_blockJ (fun env σ => env = [] ∧ σ = [] ∧ kk0 = some res) ?_ (fun HK0 => ?_)
        ·
          rintro _ _ ⟨rfl, rfl, hr⟩
          rw [hkk0] at hr
          refine g_seq ?_
          refine g_run (by kernel_rfl) [(0, .d)] rfl ?_
          refine r_d rfl rfl rfl (s_assign rfl rfl) ?_
          refine r_end ?_
          obtain rfl := Option.some.inj hr
          refine g_ret Try.func27 _ (.cons (resTmp rfl (Wk.refl _)) .nil) ?_
          rfl
        ·
          refine g_sub [(1, .ptr (enc_S_api_Rank x_a0)), (3, .int .i64 ((0 : Nat) : Int))] (Sub.cons' rfl (Sub.cons' rfl (Sub.nil _))) ?_
          refine g_loop (fun n env σ => ∃ (i_4 : Nat), (n = x_a0.f2_Factors.length - i_4) ∧ (env = [(1, .ptr (enc_S_api_Rank x_a0)), (3, .int .i64 (i_4 : Int))]) ∧ (σ = []) ∧ (i_4 ≤ x_a0.f2_Factors.length) ∧ (lf_constraintref41_right_L0 kk0 (x_a0.f2_Factors.drop i_4) = some res)) _ ⟨0, rfl, rfl, rfl, Nat.zero_le _, hr⟩ ?_
          rintro n _ _ ⟨i_4, rfl, rfl, rfl, hi0, hr⟩ IH0
          rcases listStep x_a0.f2_Factors i_4 hi0 with ⟨ht0, hd0, he0⟩ | ⟨q_5, ht0, hd0, hq0, hlt0⟩
          ·
            rw [hd0, lf_constraintref41_right_L0] at hr
            refine g_seq ?_
            refine g_seq ?_
            refine g_run (by kernel_rfl) [(0, .d), (1, .d), (2, .d), (3, .d), (4, .d)] rfl ?_
            refine r_d rfl rfl rfl (s_move rfl rfl) ?_
            refine r_d rfl rfl rfl (s_fieldAddr rfl fl_api_Rank_2 rfl rfl rfl rfl) ?_
            refine r_d rfl rfl rfl (s_load rfl rfl (by exact ty_L_int) rfl) ?_
            refine r_d rfl rfl rfl (m_len (f := (D.int .i64)) x_a0.f2_Factors rfl el_L_int rfl (asl rfl)) ?_
            refine r_d rfl rfl rfl (s_cmp rfl rfl rfl rfl) ?_
            refine r_end ?_
            refine g_known 22 false rfl ht0 ?_
            refine g_condF rfl ?_
            refine g_exit rfl ?_
            refine g_sub [] (Sub.nil _) ?_
            exact HK0 _ _ ⟨rfl, rfl, hr⟩
          ·
            rw [hd0, lf_constraintref41_right_L0] at hr
            refine g_seq ?_
            refine g_seq ?_
            refine g_run (by kernel_rfl) [(0, .d), (1, .d), (2, .d), (3, .d), (4, .d)] rfl ?_
            refine r_d rfl rfl rfl (s_move rfl rfl) ?_
            refine r_d rfl rfl rfl (s_fieldAddr rfl fl_api_Rank_2 rfl rfl rfl rfl) ?_
            refine r_d rfl rfl rfl (s_load rfl rfl (by exact ty_L_int) rfl) ?_
            refine r_d rfl rfl rfl (m_len (f := (D.int .i64)) x_a0.f2_Factors rfl el_L_int rfl (asl rfl)) ?_
            refine r_d rfl rfl rfl (s_cmp rfl rfl rfl rfl) ?_
            refine r_end ?_
            refine g_known 22 true rfl ht0 ?_
            refine g_condT rfl ?_
            refine g_skip ?_
            refine g_seq ?_
            refine g_block ?_
            refine g_seq ?_
            refine g_run (by kernel_rfl) [(0, .d), (1, .d), (2, .d), (3, .d), (4, .d), (5, .d), (6, .d), (7, .d), (8, .d), (9, .d), (10, .d), (11, .d), (12, .d), (13, .d)] rfl ?_
            refine r_d rfl rfl rfl (s_fieldAddr rfl fl_api_Rank_2 rfl rfl rfl rfl) ?_
            refine r_d rfl rfl rfl (s_load rfl rfl (by exact ty_L_int) rfl) ?_
            refine r_d rfl rfl rfl (s_move rfl rfl) ?_
            refine r_d rfl rfl rfl (m_index (f := (D.int .i64)) x_a0.f2_Factors rfl el_L_int rfl (asl rfl) rfl hq0 (fun _ => rfl) rfl) ?_
            refine r_d rfl rfl rfl (s_load rfl rfl (by exact ty_int) rfl) ?_
            refine r_d rfl rfl rfl (s_cmp rfl rfl rfl rfl) ?_
            refine r_d rfl rfl rfl (s_move rfl rfl) ?_
            refine r_sB 31 rfl hr (fun h31_5 hr => ?_) (fun h31_5 hr => ?_)
            ·
              refine r_skip rfl rfl rfl ?_
              refine r_skip rfl rfl rfl ?_
              refine r_skip rfl rfl rfl ?_
              refine r_skip rfl rfl rfl ?_
              refine r_skip rfl rfl rfl ?_
              refine r_skip rfl rfl rfl ?_
              refine r_d rfl rfl rfl (s_pickT rfl rfl rfl) ?_
              refine r_end ?_
              refine g_condT rfl ?_
              refine g_seq ?_
              refine g_run (by kernel_rfl) [(0, .d)] rfl ?_
              refine r_d rfl rfl rfl (s_assign rfl rfl) ?_
              refine r_end ?_
              obtain rfl := Option.some.inj hr
              refine g_ret Try.func27 _ (.cons (resTmp rfl (Wk.refl _)) .nil) ?_
              rfl
            ·
              refine r_d rfl rfl rfl (s_fieldAddr rfl fl_api_Rank_2 rfl rfl rfl rfl) ?_
              refine r_d rfl rfl rfl (s_load rfl rfl (by exact ty_L_int) rfl) ?_
              refine r_d rfl rfl rfl (s_move rfl rfl) ?_
              refine r_d rfl rfl rfl (m_index (f := (D.int .i64)) x_a0.f2_Factors rfl el_L_int rfl (asl rfl) rfl hq0 (fun _ => rfl) rfl) ?_
              refine r_d rfl rfl rfl (s_load rfl rfl (by exact ty_int) rfl) ?_
              refine r_d rfl rfl rfl (s_cmp rfl rfl rfl rfl) ?_
              refine r_d rfl rfl rfl (s_pickF rfl rfl rfl) ?_
              refine r_end ?_
              refine g_sB 38 rfl hr (fun h38_6 hr => ?_) (fun h38_6 hr => ?_)
              ·
                refine g_condT rfl ?_
                refine g_seq ?_
                refine g_run (by kernel_rfl) [(0, .d)] rfl ?_
                refine r_d rfl rfl rfl (s_assign rfl rfl) ?_
                refine r_end ?_
                obtain rfl := Option.some.inj hr
                refine g_ret Try.func27 _ (.cons (resTmp rfl (Wk.refl _)) .nil) ?_
                rfl
              ·
                refine g_condF rfl ?_
                refine g_skip ?_
                refine g_inBlock ?_
                refine g_run (by kernel_rfl) [(0, .d), (1, .d), (2, .d)] rfl ?_
                refine r_d rfl rfl rfl (s_move rfl rfl) ?_
                refine r_d rfl rfl rfl (s_ar (r := ((i_4 + 1 : Nat) : Int)) rfl rfl rfl (by simp [iar]) (by omega)) ?_
                refine r_d rfl rfl rfl (s_assign rfl rfl) ?_
                refine r_end ?_
                refine g_sub [(1, .ptr (enc_S_api_Rank x_a0)), (3, .int .i64 ((i_4 + 1 : Nat) : Int))] (Sub.cons' rfl (Sub.cons' rfl (Sub.nil _))) ?_
                exact IH0 _ _ _ (by omega) ⟨(i_4 + 1), rfl, rfl, rfl, (by omega), hr⟩

noncomputable def lf_constraintref41_valid_L0 (k : Option (Bool)) : List S_api_Rank → Option (Bool)
  | [] =>
  k
  | q_2 :: rest =>
  ((lf_constraintref41_right q_2).bind fun r_3 =>
  (bif (!r_3) then
  some (false)
  else
  (lf_constraintref41_valid_L0 k rest)))
noncomputable def lf_constraintref41_valid (ranks_a0 : (List S_api_Rank)) : Option (Bool) :=
  (lf_constraintref41_valid_L0 (some (true)) ranks_a0)

set_option maxHeartbeats 1000000 in
theorem lg_constraintref41_valid (ranks_a0 : (List S_api_Rank)) (res : Bool) (hr : lf_constraintref41_valid ranks_a0 = some res) : Gives Try.prog 30 [.lst (ranks_a0.map enc_S_api_Rank)] (.bool res) := by
  unfold lf_constraintref41_valid at hr
  refine spec_env [(0, .lst (ranks_a0.map enc_S_api_Rank))] Try.func30 rfl rfl fun K hK => ?_
  refine g_seq ?_
  refine g_run (by kernel_rfl) [(0, .d)] rfl ?_
  refine r_d rfl rfl rfl (s_assign rfl rfl) ?_
  refine r_end ?_
  refine g_seq ?_
  refine g_seq ?_
  refine g_run (by kernel_rfl) [(0, .d)] rfl ?_
  refine r_d rfl rfl rfl (s_assign rfl rfl) ?_
  refine r_end ?_
  obtain ⟨kk0, hkk0, hr⟩ := exK (fun k => lf_constraintref41_valid_L0 k ranks_a0) hr
  refine g_len 0 rfl (asl rfl) fun hla0 => ?_
  simp only [List.length_map] at hla0
  refine g_blockJ (fun env σ => env = [] ∧ σ = [] ∧ kk0 = some res) ?_ (fun HK0 => ?_)
  ·
    rintro _ _ ⟨rfl, rfl, hr⟩
    rw [hkk0] at hr
    refine g_seq ?_
    refine g_run (by kernel_rfl) [(0, .d)] rfl ?_
    refine r_d rfl rfl rfl (s_assign rfl rfl) ?_
    refine r_end ?_
    obtain rfl := Option.some.inj hr
    refine g_ret Try.func30 _ (.cons (resTmp rfl (Wk.refl _)) .nil) ?_
    rfl
  ·
    refine g_sub [(0, .lst (ranks_a0.map enc_S_api_Rank)), (3, .int .i64 ((0 : Nat) : Int))] (Sub.cons' rfl (Sub.cons' rfl (Sub.nil _))) ?_
    refine g_loop (fun n env σ => ∃ (i_1 : Nat), (n = ranks_a0.length - i_1) ∧ (env = [(0, .lst (ranks_a0.map enc_S_api_Rank)), (3, .int .i64 (i_1 : Int))]) ∧ (σ = []) ∧ (i_1 ≤ ranks_a0.length) ∧ (lf_constraintref41_valid_L0 kk0 (ranks_a0.drop i_1) = some res)) _ ⟨0, rfl, rfl, rfl, Nat.zero_le _, hr⟩ ?_
    rintro n _ _ ⟨i_1, rfl, rfl, rfl, hi0, hr⟩ IH0
    rcases listStep ranks_a0 i_1 hi0 with ⟨ht0, hd0, he0⟩ | ⟨q_2, ht0, hd0, hq0, hlt0⟩
    ·
      rw [hd0, lf_constraintref41_valid_L0] at hr
      refine g_seq ?_
      refine g_seq ?_
      refine g_run (by kernel_rfl) [(0, .d), (1, .d), (2, .d), (3, .d)] rfl ?_
      refine r_d rfl rfl rfl (s_move rfl rfl) ?_
      refine r_d rfl rfl rfl (s_move rfl rfl) ?_
      refine r_d rfl rfl rfl (m_len (f := enc_S_api_Rank) ranks_a0 rfl el_L_api_Rank rfl (asl rfl)) ?_
      refine r_d rfl rfl rfl (s_cmp rfl rfl rfl rfl) ?_
      refine r_end ?_
      refine g_known 7 false rfl ht0 ?_
      refine g_condF rfl ?_
      refine g_exit rfl ?_
      refine g_sub [] (Sub.nil _) ?_
      exact HK0 _ _ ⟨rfl, rfl, hr⟩
    ·
      rw [hd0, lf_constraintref41_valid_L0] at hr
      refine g_seq ?_
      refine g_seq ?_
      refine g_run (by kernel_rfl) [(0, .d), (1, .d), (2, .d), (3, .d)] rfl ?_
      refine r_d rfl rfl rfl (s_move rfl rfl) ?_
      refine r_d rfl rfl rfl (s_move rfl rfl) ?_
      refine r_d rfl rfl rfl (m_len (f := enc_S_api_Rank) ranks_a0 rfl el_L_api_Rank rfl (asl rfl)) ?_
      refine r_d rfl rfl rfl (s_cmp rfl rfl rfl rfl) ?_
      refine r_end ?_
      refine g_known 7 true rfl ht0 ?_
      refine g_condT rfl ?_
      refine g_skip ?_
      refine g_seq ?_
      refine g_block ?_
      refine g_seq ?_
      refine g_run (by kernel_rfl) [(0, .d), (1, .d), (2, .d), (3, .d), (4, .d), (5, .d)] rfl ?_
      refine r_d rfl rfl rfl (s_move rfl rfl) ?_
      refine r_d rfl rfl rfl (s_move rfl rfl) ?_
      refine r_d rfl rfl rfl (m_index (f := enc_S_api_Rank) ranks_a0 rfl el_L_api_Rank rfl (asl rfl) rfl hq0 sz_S_api_Rank rfl) ?_
      refine r_d rfl rfl rfl (s_load rfl rfl (by exact ty_api_Rank) (sz_S_api_Rank _)) ?_
      obtain ⟨r_3, hr_3, hr⟩ := bindS hr
      refine r_d rfl rfl rfl (s_callD rfl cl_constraintref41_right (.cons rfl (Wk.refl _) .nil) (lg_constraintref41_right _ _ hr_3)) ?_
      refine r_d rfl rfl rfl (s_not rfl rfl) ?_
      refine r_end ?_
      refine g_sB 15 rfl hr (fun h15_3 hr => ?_) (fun h15_3 hr => ?_)
      ·
        refine g_condT rfl ?_
        refine g_seq ?_
        refine g_run (by kernel_rfl) [(0, .d)] rfl ?_
        refine r_d rfl rfl rfl (s_assign rfl rfl) ?_
        refine r_end ?_
        obtain rfl := Option.some.inj hr
        refine g_ret Try.func30 _ (.cons (resTmp rfl (Wk.refl _)) .nil) ?_
        rfl
      ·
        refine g_condF rfl ?_
        refine g_skip ?_
        refine g_inBlock ?_
        refine g_run (by kernel_rfl) [(0, .d), (1, .d), (2, .d)] rfl ?_
        refine r_d rfl rfl rfl (s_move rfl rfl) ?_
        refine r_d rfl rfl rfl (s_ar (r := ((i_1 + 1 : Nat) : Int)) rfl rfl rfl (by simp [iar]) (by omega)) ?_
        refine r_d rfl rfl rfl (s_assign rfl rfl) ?_
        refine r_end ?_
        refine g_sub [(0, .lst (ranks_a0.map enc_S_api_Rank)), (3, .int .i64 ((i_1 + 1 : Nat) : Int))] (Sub.cons' rfl (Sub.cons' rfl (Sub.nil _))) ?_
        exact IH0 _ _ _ (by omega) ⟨(i_1 + 1), rfl, rfl, rfl, (by omega), hr⟩

noncomputable def lf_constraintlaw41_brief_L2 (k : Option (Bool)) (fuel : Nat) : List Gl → Option (Bool)
  | [] =>
  k
  | q_7 :: rest =>
  ((lf_constraintlaw19_Brief fuel (⟨⟨#[]⟩, q_7.ts⟩ : At)).bind fun r_8 =>
  (bif (!r_8) then
  some (false)
  else
  (lf_constraintlaw41_brief_L2 k fuel rest)))

noncomputable def lf_constraintlaw41_brief_L1 (k : Option (Bool)) (fuel : Nat) : List At → Option (Bool)
  | [] =>
  k
  | q_10 :: rest =>
  ((lf_constraintlaw19_Brief fuel q_10).bind fun r_11 =>
  (bif (!r_11) then
  some (false)
  else
  (lf_constraintlaw41_brief_L1 k fuel rest)))

noncomputable def lf_constraintlaw41_brief_L0 (k : Option (Bool)) (fuel : Nat) : List At → Option (Bool)
  | [] =>
  k
  | q_13 :: rest =>
  ((lf_constraintlaw19_Brief fuel q_13).bind fun r_14 =>
  (bif (!r_14) then
  some (false)
  else
  (lf_constraintlaw41_brief_L0 k fuel rest)))
noncomputable def lf_constraintlaw41_brief (fuel : Nat) (r_a0 : S_api_Rule) : Option (Bool) :=
  (bif (decide ((r_a0.f1_Keep.length : Int) > (20 : Int))) then
  some (false)
  else
  (bif (decide ((r_a0.f2_Remove.length : Int) > (20 : Int))) then
  some (false)
  else
  (bif (decide ((r_a0.f4_Body.length : Int) > (20 : Int))) then
  some (false)
  else
  (lf_constraintlaw41_brief_L0 ((lf_constraintlaw41_brief_L1 ((lf_constraintlaw41_brief_L2 (some (true)) fuel r_a0.f4_Body)) fuel r_a0.f2_Remove)) fuel r_a0.f1_Keep))))

set_option maxHeartbeats 1000000 in
theorem lg_constraintlaw41_brief (fuel : Nat) (r_a0 : S_api_Rule) (res : Bool) (hr : lf_constraintlaw41_brief fuel r_a0 = some res) : Gives Try.prog 13 [enc_S_api_Rule r_a0] (.bool res) := by
  unfold lf_constraintlaw41_brief at hr
  refine spec_env [(0, enc_S_api_Rule r_a0)] Try.func13 rfl rfl fun K hK => ?_
  refine g_seq ?_
  refine g_run (by kernel_rfl) [(0, .d), (1, .d)] rfl ?_
  refine r_d rfl rfl rfl (s_box rfl rfl rfl) ?_
  refine r_d rfl rfl rfl (s_assign rfl rfl) ?_
  refine r_end ?_
  refine g_seq ?_
  refine g_seq ?_
  refine g_run (by kernel_rfl) [(0, .d), (1, .d), (2, .d), (3, .d), (4, .d), (5, .d), (6, .d), (7, .d), (8, .d), (9, .d), (10, .d), (11, .d), (12, .d), (13, .d), (14, .d), (15, .d)] rfl ?_
  refine r_d rfl rfl rfl (s_fieldAddr rfl fl_api_Rule_1 rfl rfl rfl rfl) ?_
  refine r_d rfl rfl rfl (s_load rfl rfl (by exact ty_L_api_Atom) rfl) ?_
  refine r_d rfl rfl rfl (m_len (f := encA) r_a0.f1_Keep rfl el_L_api_Atom rfl (asl rfl)) ?_
  refine r_d rfl rfl rfl (s_cmp rfl rfl rfl rfl) ?_
  refine r_d rfl rfl rfl (s_move rfl rfl) ?_
  refine r_sB 10 rfl hr (fun h10_0 hr => ?_) (fun h10_0 hr => ?_)
  ·
    refine r_skip rfl rfl rfl ?_
    refine r_skip rfl rfl rfl ?_
    refine r_skip rfl rfl rfl ?_
    refine r_skip rfl rfl rfl ?_
    refine r_d rfl rfl rfl (s_pickT rfl rfl rfl) ?_
    refine r_d rfl rfl rfl (s_move rfl rfl) ?_
    refine r_skip rfl rfl rfl ?_
    refine r_skip rfl rfl rfl ?_
    refine r_skip rfl rfl rfl ?_
    refine r_skip rfl rfl rfl ?_
    refine r_d rfl rfl rfl (s_pickT rfl rfl rfl) ?_
    refine r_end ?_
    refine g_condT rfl ?_
    refine g_seq ?_
    refine g_run (by kernel_rfl) [(0, .d)] rfl ?_
    refine r_d rfl rfl rfl (s_assign rfl rfl) ?_
    refine r_end ?_
    obtain rfl := Option.some.inj hr
    refine g_ret Try.func13 _ (.cons (resTmp rfl (Wk.refl _)) .nil) ?_
    rfl
  ·
    refine r_d rfl rfl rfl (s_fieldAddr rfl fl_api_Rule_2 rfl rfl rfl rfl) ?_
    refine r_d rfl rfl rfl (s_load rfl rfl (by exact ty_L_api_Atom) rfl) ?_
    refine r_d rfl rfl rfl (m_len (f := encA) r_a0.f2_Remove rfl el_L_api_Atom rfl (asl rfl)) ?_
    refine r_d rfl rfl rfl (s_cmp rfl rfl rfl rfl) ?_
    refine r_d rfl rfl rfl (s_pickF rfl rfl rfl) ?_
    refine r_d rfl rfl rfl (s_move rfl rfl) ?_
    refine r_sB 16 rfl hr (fun h16_1 hr => ?_) (fun h16_1 hr => ?_)
    ·
      refine r_skip rfl rfl rfl ?_
      refine r_skip rfl rfl rfl ?_
      refine r_skip rfl rfl rfl ?_
      refine r_skip rfl rfl rfl ?_
      refine r_d rfl rfl rfl (s_pickT rfl rfl rfl) ?_
      refine r_end ?_
      refine g_condT rfl ?_
      refine g_seq ?_
      refine g_run (by kernel_rfl) [(0, .d)] rfl ?_
      refine r_d rfl rfl rfl (s_assign rfl rfl) ?_
      refine r_end ?_
      obtain rfl := Option.some.inj hr
      refine g_ret Try.func13 _ (.cons (resTmp rfl (Wk.refl _)) .nil) ?_
      rfl
    ·
      refine r_d rfl rfl rfl (s_fieldAddr rfl fl_api_Rule_4 rfl rfl rfl rfl) ?_
      refine r_d rfl rfl rfl (s_load rfl rfl (by exact ty_L_api_Goal) rfl) ?_
      refine r_d rfl rfl rfl (m_len (f := encG) r_a0.f4_Body rfl el_L_api_Goal rfl (asl rfl)) ?_
      refine r_d rfl rfl rfl (s_cmp rfl rfl rfl rfl) ?_
      refine r_d rfl rfl rfl (s_pickF rfl rfl rfl) ?_
      refine r_end ?_
      refine g_sB 21 rfl hr (fun h21_2 hr => ?_) (fun h21_2 hr => ?_)
      ·
        refine g_condT rfl ?_
        refine g_seq ?_
        refine g_run (by kernel_rfl) [(0, .d)] rfl ?_
        refine r_d rfl rfl rfl (s_assign rfl rfl) ?_
        refine r_end ?_
        obtain rfl := Option.some.inj hr
        refine g_ret Try.func13 _ (.cons (resTmp rfl (Wk.refl _)) .nil) ?_
        rfl
      ·
        refine g_condF rfl ?_
        refine g_skip ?_
        refine g_seq ?_
        refine g_seq ?_
        refine g_run (by kernel_rfl) [(0, .d), (1, .d), (2, .d), (3, .d)] rfl ?_
        refine r_d rfl rfl rfl (s_fieldAddr rfl fl_api_Rule_1 rfl rfl rfl rfl) ?_
        refine r_d rfl rfl rfl (s_load rfl rfl (by exact ty_L_api_Atom) rfl) ?_
        refine r_d rfl rfl rfl (m_len (f := encA) r_a0.f1_Keep rfl el_L_api_Atom rfl (asl rfl)) ?_
        refine r_d rfl rfl rfl (s_move rfl rfl) ?_
        refine r_end ?_
        obtain ⟨kk0, hkk0, hr⟩ := exK (fun k => lf_constraintlaw41_brief_L0 k fuel r_a0.f1_Keep) hr
        refine g_len 7 rfl (asl rfl) fun hla0 => ?_
        simp only [List.length_map] at hla0
        refine g_blockJ (fun env σ => env = [(1, .ptr (enc_S_api_Rule r_a0))] ∧ σ = [] ∧ kk0 = some res) ?_ (fun HK0 => ?_)
        ·
          rintro _ _ ⟨rfl, rfl, hr⟩
          rw [hkk0] at hr
          refine g_seq ?_
          refine g_seq ?_
          refine g_run (by kernel_rfl) [(0, .d), (1, .d), (2, .d), (3, .d)] rfl ?_
          refine r_d rfl rfl rfl (s_fieldAddr rfl fl_api_Rule_2 rfl rfl rfl rfl) ?_
          refine r_d rfl rfl rfl (s_load rfl rfl (by exact ty_L_api_Atom) rfl) ?_
          refine r_d rfl rfl rfl (m_len (f := encA) r_a0.f2_Remove rfl el_L_api_Atom rfl (asl rfl)) ?_
          refine r_d rfl rfl rfl (s_move rfl rfl) ?_
          refine r_end ?_
          obtain ⟨kk1, hkk1, hr⟩ := exK (fun k => lf_constraintlaw41_brief_L1 k fuel r_a0.f2_Remove) hr
          refine g_len 37 rfl (asl rfl) fun hla1 => ?_
          simp only [List.length_map] at hla1
          refine g_blockJ (fun env σ => env = [(1, .ptr (enc_S_api_Rule r_a0))] ∧ σ = [] ∧ kk1 = some res) ?_ (fun HK1 => ?_)
          ·
            rintro _ _ ⟨rfl, rfl, hr⟩
            rw [hkk1] at hr
            refine g_seq ?_
            refine g_seq ?_
            refine g_run (by kernel_rfl) [(0, .d), (1, .d), (2, .d), (3, .d)] rfl ?_
            refine r_d rfl rfl rfl (s_fieldAddr rfl fl_api_Rule_4 rfl rfl rfl rfl) ?_
            refine r_d rfl rfl rfl (s_load rfl rfl (by exact ty_L_api_Goal) rfl) ?_
            refine r_d rfl rfl rfl (m_len (f := encG) r_a0.f4_Body rfl el_L_api_Goal rfl (asl rfl)) ?_
            refine r_d rfl rfl rfl (s_move rfl rfl) ?_
            refine r_end ?_
            obtain ⟨kk2, hkk2, hr⟩ := exK (fun k => lf_constraintlaw41_brief_L2 k fuel r_a0.f4_Body) hr
            refine g_len 51 rfl (asl rfl) fun hla2 => ?_
            simp only [List.length_map] at hla2
            refine g_blockJ (fun env σ => env = [] ∧ σ = [] ∧ kk2 = some res) ?_ (fun HK2 => ?_)
            ·
              rintro _ _ ⟨rfl, rfl, hr⟩
              rw [hkk2] at hr
              refine g_seq ?_
              refine g_run (by kernel_rfl) [(0, .d)] rfl ?_
              refine r_d rfl rfl rfl (s_assign rfl rfl) ?_
              refine r_end ?_
              obtain rfl := Option.some.inj hr
              refine g_ret Try.func13 _ (.cons (resTmp rfl (Wk.refl _)) .nil) ?_
              rfl
            ·
              refine g_sub [(1, .ptr (enc_S_api_Rule r_a0)), (52, .int .i64 (r_a0.f4_Body.length : Int)), (53, .int .i64 ((0 : Nat) : Int))] (Sub.cons' rfl (Sub.cons' rfl (Sub.cons' rfl (Sub.nil _)))) ?_
              refine g_loop (fun n env σ => ∃ (i_6 : Nat), (n = r_a0.f4_Body.length - i_6) ∧ (env = [(1, .ptr (enc_S_api_Rule r_a0)), (52, .int .i64 (r_a0.f4_Body.length : Int)), (53, .int .i64 (i_6 : Int))]) ∧ (σ = []) ∧ (i_6 ≤ r_a0.f4_Body.length) ∧ (lf_constraintlaw41_brief_L2 kk2 fuel (r_a0.f4_Body.drop i_6) = some res)) _ ⟨0, rfl, rfl, rfl, Nat.zero_le _, hr⟩ ?_
              rintro n _ _ ⟨i_6, rfl, rfl, rfl, hi2, hr⟩ IH2
              rcases listStep r_a0.f4_Body i_6 hi2 with ⟨ht2, hd2, he2⟩ | ⟨q_7, ht2, hd2, hq2, hlt2⟩
              ·
                rw [hd2, lf_constraintlaw41_brief_L2] at hr
                refine g_seq ?_
                refine g_run (by kernel_rfl) [(0, .d)] rfl ?_
                refine r_d rfl rfl rfl (s_cmp rfl rfl rfl rfl) ?_
                refine r_end ?_
                refine g_seq ?_
                refine g_known 54 false rfl ht2 ?_
                refine g_condF rfl ?_
                refine g_exit rfl ?_
                refine g_sub [] (Sub.nil _) ?_
                exact HK2 _ _ ⟨rfl, rfl, hr⟩
              ·
                rw [hd2, lf_constraintlaw41_brief_L2] at hr
                refine g_seq ?_
                refine g_run (by kernel_rfl) [(0, .d)] rfl ?_
                refine r_d rfl rfl rfl (s_cmp rfl rfl rfl rfl) ?_
                refine r_end ?_
                refine g_seq ?_
                refine g_known 54 true rfl ht2 ?_
                refine g_condT rfl ?_
                refine g_skip ?_
                refine g_seq ?_
                refine g_block ?_
                refine g_seq ?_
                refine g_run (by kernel_rfl) [(0, .d), (1, .d)] rfl ?_
                refine r_d rfl rfl rfl (s_move rfl rfl) ?_
                refine r_d rfl rfl rfl (s_assign rfl rfl) ?_
                refine r_end ?_
                refine g_seq ?_
                refine g_run (by kernel_rfl) [(0, .d), (1, .d), (2, .d), (3, .d), (4, .d), (5, .d), (6, .d), (7, .d), (8, .d)] rfl ?_
                refine r_d rfl rfl rfl (s_fieldAddr rfl fl_api_Rule_4 rfl rfl rfl rfl) ?_
                refine r_d rfl rfl rfl (s_load rfl rfl (by exact ty_L_api_Goal) rfl) ?_
                refine r_d rfl rfl rfl (s_move rfl rfl) ?_
                refine r_d rfl rfl rfl (m_index (f := encG) r_a0.f4_Body rfl el_L_api_Goal rfl (asl rfl) rfl hq2 sz_encG rfl) ?_
                refine r_d rfl rfl rfl (s_fieldAddr rfl fl_api_Goal_2 rfl rfl rfl rfl) ?_
                refine r_d rfl rfl rfl (s_load rfl rfl (by exact ty_L_api_Term) rfl) ?_
                refine r_d rfl rfl rfl (s_build rfl bt_api_Atom (.cons rfl (Wk.refl _) .nil) (.cons rfl rfl rfl (.nil _))) ?_
                obtain ⟨r_8, hr_8, hr⟩ := bindS hr
                refine r_d rfl rfl rfl (s_callD rfl cl_constraintlaw19_Brief (.cons rfl (Wk.refl _) .nil) (lg_constraintlaw19_Brief fuel _ _ hr_8)) ?_
                refine r_d rfl rfl rfl (s_not rfl rfl) ?_
                refine r_end ?_
                refine g_sB 64 rfl hr (fun h64_8 hr => ?_) (fun h64_8 hr => ?_)
                ·
                  refine g_condT rfl ?_
                  refine g_seq ?_
                  refine g_run (by kernel_rfl) [(0, .d)] rfl ?_
                  refine r_d rfl rfl rfl (s_assign rfl rfl) ?_
                  refine r_end ?_
                  obtain rfl := Option.some.inj hr
                  refine g_ret Try.func13 _ (.cons (resTmp rfl (Wk.refl _)) .nil) ?_
                  rfl
                ·
                  refine g_condF rfl ?_
                  refine g_skip ?_
                  refine g_inBlock ?_
                  refine g_run (by kernel_rfl) [(0, .d), (1, .d)] rfl ?_
                  refine r_d rfl rfl rfl (s_ar (r := ((i_6 + 1 : Nat) : Int)) rfl rfl rfl (by simp [iar]) (by omega)) ?_
                  refine r_d rfl rfl rfl (s_move rfl rfl) ?_
                  refine r_end ?_
                  refine g_sub [(1, .ptr (enc_S_api_Rule r_a0)), (52, .int .i64 (r_a0.f4_Body.length : Int)), (53, .int .i64 ((i_6 + 1 : Nat) : Int))] (Sub.cons' rfl (Sub.cons' rfl (Sub.cons' rfl (Sub.nil _)))) ?_
                  exact IH2 _ _ _ (by omega) ⟨(i_6 + 1), rfl, rfl, rfl, (by omega), hr⟩
          ·
            refine g_sub [(1, .ptr (enc_S_api_Rule r_a0)), (38, .int .i64 (r_a0.f2_Remove.length : Int)), (39, .int .i64 ((0 : Nat) : Int))] (Sub.cons' rfl (Sub.cons' rfl (Sub.cons' rfl (Sub.nil _)))) ?_
            refine g_loop (fun n env σ => ∃ (i_5 : Nat), (n = r_a0.f2_Remove.length - i_5) ∧ (env = [(1, .ptr (enc_S_api_Rule r_a0)), (38, .int .i64 (r_a0.f2_Remove.length : Int)), (39, .int .i64 (i_5 : Int))]) ∧ (σ = []) ∧ (i_5 ≤ r_a0.f2_Remove.length) ∧ (lf_constraintlaw41_brief_L1 kk1 fuel (r_a0.f2_Remove.drop i_5) = some res)) _ ⟨0, rfl, rfl, rfl, Nat.zero_le _, hr⟩ ?_
            rintro n _ _ ⟨i_5, rfl, rfl, rfl, hi1, hr⟩ IH1
            rcases listStep r_a0.f2_Remove i_5 hi1 with ⟨ht1, hd1, he1⟩ | ⟨q_10, ht1, hd1, hq1, hlt1⟩
            ·
              rw [hd1, lf_constraintlaw41_brief_L1] at hr
              refine g_seq ?_
              refine g_run (by kernel_rfl) [(0, .d)] rfl ?_
              refine r_d rfl rfl rfl (s_cmp rfl rfl rfl rfl) ?_
              refine r_end ?_
              refine g_seq ?_
              refine g_known 40 false rfl ht1 ?_
              refine g_condF rfl ?_
              refine g_exit rfl ?_
              refine g_sub [(1, .ptr (enc_S_api_Rule r_a0))] (Sub.cons' rfl (Sub.nil _)) ?_
              exact HK1 _ _ ⟨rfl, rfl, hr⟩
            ·
              rw [hd1, lf_constraintlaw41_brief_L1] at hr
              refine g_seq ?_
              refine g_run (by kernel_rfl) [(0, .d)] rfl ?_
              refine r_d rfl rfl rfl (s_cmp rfl rfl rfl rfl) ?_
              refine r_end ?_
              refine g_seq ?_
              refine g_known 40 true rfl ht1 ?_
              refine g_condT rfl ?_
              refine g_skip ?_
              refine g_seq ?_
              refine g_block ?_
              refine g_seq ?_
              refine g_run (by kernel_rfl) [(0, .d), (1, .d)] rfl ?_
              refine r_d rfl rfl rfl (s_move rfl rfl) ?_
              refine r_d rfl rfl rfl (s_assign rfl rfl) ?_
              refine r_end ?_
              refine g_seq ?_
              refine g_run (by kernel_rfl) [(0, .d), (1, .d), (2, .d), (3, .d), (4, .d), (5, .d), (6, .d)] rfl ?_
              refine r_d rfl rfl rfl (s_fieldAddr rfl fl_api_Rule_2 rfl rfl rfl rfl) ?_
              refine r_d rfl rfl rfl (s_load rfl rfl (by exact ty_L_api_Atom) rfl) ?_
              refine r_d rfl rfl rfl (s_move rfl rfl) ?_
              refine r_d rfl rfl rfl (m_index (f := encA) r_a0.f2_Remove rfl el_L_api_Atom rfl (asl rfl) rfl hq1 sz_encA rfl) ?_
              refine r_d rfl rfl rfl (s_load rfl rfl (by exact ty_api_Atom) (sz_encA _)) ?_
              obtain ⟨r_11, hr_11, hr⟩ := bindS hr
              refine r_d rfl rfl rfl (s_callD rfl cl_constraintlaw19_Brief (.cons rfl (Wk.refl _) .nil) (lg_constraintlaw19_Brief fuel _ _ hr_11)) ?_
              refine r_d rfl rfl rfl (s_not rfl rfl) ?_
              refine r_end ?_
              refine g_sB 48 rfl hr (fun h48_11 hr => ?_) (fun h48_11 hr => ?_)
              ·
                refine g_condT rfl ?_
                refine g_seq ?_
                refine g_run (by kernel_rfl) [(0, .d)] rfl ?_
                refine r_d rfl rfl rfl (s_assign rfl rfl) ?_
                refine r_end ?_
                obtain rfl := Option.some.inj hr
                refine g_ret Try.func13 _ (.cons (resTmp rfl (Wk.refl _)) .nil) ?_
                rfl
              ·
                refine g_condF rfl ?_
                refine g_skip ?_
                refine g_inBlock ?_
                refine g_run (by kernel_rfl) [(0, .d), (1, .d)] rfl ?_
                refine r_d rfl rfl rfl (s_ar (r := ((i_5 + 1 : Nat) : Int)) rfl rfl rfl (by simp [iar]) (by omega)) ?_
                refine r_d rfl rfl rfl (s_move rfl rfl) ?_
                refine r_end ?_
                refine g_sub [(1, .ptr (enc_S_api_Rule r_a0)), (38, .int .i64 (r_a0.f2_Remove.length : Int)), (39, .int .i64 ((i_5 + 1 : Nat) : Int))] (Sub.cons' rfl (Sub.cons' rfl (Sub.cons' rfl (Sub.nil _)))) ?_
                exact IH1 _ _ _ (by omega) ⟨(i_5 + 1), rfl, rfl, rfl, (by omega), hr⟩
        ·
          refine g_sub [(1, .ptr (enc_S_api_Rule r_a0)), (24, .int .i64 (r_a0.f1_Keep.length : Int)), (25, .int .i64 ((0 : Nat) : Int))] (Sub.cons' rfl (Sub.cons' rfl (Sub.cons' rfl (Sub.nil _)))) ?_
          refine g_loop (fun n env σ => ∃ (i_4 : Nat), (n = r_a0.f1_Keep.length - i_4) ∧ (env = [(1, .ptr (enc_S_api_Rule r_a0)), (24, .int .i64 (r_a0.f1_Keep.length : Int)), (25, .int .i64 (i_4 : Int))]) ∧ (σ = []) ∧ (i_4 ≤ r_a0.f1_Keep.length) ∧ (lf_constraintlaw41_brief_L0 kk0 fuel (r_a0.f1_Keep.drop i_4) = some res)) _ ⟨0, rfl, rfl, rfl, Nat.zero_le _, hr⟩ ?_
          rintro n _ _ ⟨i_4, rfl, rfl, rfl, hi0, hr⟩ IH0
          rcases listStep r_a0.f1_Keep i_4 hi0 with ⟨ht0, hd0, he0⟩ | ⟨q_13, ht0, hd0, hq0, hlt0⟩
          ·
            rw [hd0, lf_constraintlaw41_brief_L0] at hr
            refine g_seq ?_
            refine g_run (by kernel_rfl) [(0, .d)] rfl ?_
            refine r_d rfl rfl rfl (s_cmp rfl rfl rfl rfl) ?_
            refine r_end ?_
            refine g_seq ?_
            refine g_known 26 false rfl ht0 ?_
            refine g_condF rfl ?_
            refine g_exit rfl ?_
            refine g_sub [(1, .ptr (enc_S_api_Rule r_a0))] (Sub.cons' rfl (Sub.nil _)) ?_
            exact HK0 _ _ ⟨rfl, rfl, hr⟩
          ·
            rw [hd0, lf_constraintlaw41_brief_L0] at hr
            refine g_seq ?_
            refine g_run (by kernel_rfl) [(0, .d)] rfl ?_
            refine r_d rfl rfl rfl (s_cmp rfl rfl rfl rfl) ?_
            refine r_end ?_
            refine g_seq ?_
            refine g_known 26 true rfl ht0 ?_
            refine g_condT rfl ?_
            refine g_skip ?_
            refine g_seq ?_
            refine g_block ?_
            refine g_seq ?_
            refine g_run (by kernel_rfl) [(0, .d), (1, .d)] rfl ?_
            refine r_d rfl rfl rfl (s_move rfl rfl) ?_
            refine r_d rfl rfl rfl (s_assign rfl rfl) ?_
            refine r_end ?_
            refine g_seq ?_
            refine g_run (by kernel_rfl) [(0, .d), (1, .d), (2, .d), (3, .d), (4, .d), (5, .d), (6, .d)] rfl ?_
            refine r_d rfl rfl rfl (s_fieldAddr rfl fl_api_Rule_1 rfl rfl rfl rfl) ?_
            refine r_d rfl rfl rfl (s_load rfl rfl (by exact ty_L_api_Atom) rfl) ?_
            refine r_d rfl rfl rfl (s_move rfl rfl) ?_
            refine r_d rfl rfl rfl (m_index (f := encA) r_a0.f1_Keep rfl el_L_api_Atom rfl (asl rfl) rfl hq0 sz_encA rfl) ?_
            refine r_d rfl rfl rfl (s_load rfl rfl (by exact ty_api_Atom) (sz_encA _)) ?_
            obtain ⟨r_14, hr_14, hr⟩ := bindS hr
            refine r_d rfl rfl rfl (s_callD rfl cl_constraintlaw19_Brief (.cons rfl (Wk.refl _) .nil) (lg_constraintlaw19_Brief fuel _ _ hr_14)) ?_
            refine r_d rfl rfl rfl (s_not rfl rfl) ?_
            refine r_end ?_
            refine g_sB 34 rfl hr (fun h34_14 hr => ?_) (fun h34_14 hr => ?_)
            ·
              refine g_condT rfl ?_
              refine g_seq ?_
              refine g_run (by kernel_rfl) [(0, .d)] rfl ?_
              refine r_d rfl rfl rfl (s_assign rfl rfl) ?_
              refine r_end ?_
              obtain rfl := Option.some.inj hr
              refine g_ret Try.func13 _ (.cons (resTmp rfl (Wk.refl _)) .nil) ?_
              rfl
            ·
              refine g_condF rfl ?_
              refine g_skip ?_
              refine g_inBlock ?_
              refine g_run (by kernel_rfl) [(0, .d), (1, .d)] rfl ?_
              refine r_d rfl rfl rfl (s_ar (r := ((i_4 + 1 : Nat) : Int)) rfl rfl rfl (by simp [iar]) (by omega)) ?_
              refine r_d rfl rfl rfl (s_move rfl rfl) ?_
              refine r_end ?_
              refine g_sub [(1, .ptr (enc_S_api_Rule r_a0)), (24, .int .i64 (r_a0.f1_Keep.length : Int)), (25, .int .i64 ((i_4 + 1 : Nat) : Int))] (Sub.cons' rfl (Sub.cons' rfl (Sub.cons' rfl (Sub.nil _)))) ?_
              exact IH0 _ _ _ (by omega) ⟨(i_4 + 1), rfl, rfl, rfl, (by omega), hr⟩

noncomputable def lf_constraintref41_in_L0 (k : Option (Bool)) (n_a1 : Int) : List Int → Option (Bool)
  | [] =>
  k
  | q_2 :: rest =>
  (bif (q_2 == n_a1) then
  some (true)
  else
  (lf_constraintref41_in_L0 k n_a1 rest))
noncomputable def lf_constraintref41_in (l_a0 : (List Int)) (n_a1 : Int) : Option (Bool) :=
  (lf_constraintref41_in_L0 (some (false)) n_a1 l_a0)

set_option maxHeartbeats 1000000 in
theorem lg_constraintref41_in (l_a0 : (List Int)) (n_a1 : Int) (res : Bool) (hr : lf_constraintref41_in l_a0 n_a1 = some res) : Gives Try.prog 33 [.lst (l_a0.map (D.int .i64)), .int .i64 n_a1] (.bool res) := by
  unfold lf_constraintref41_in at hr
  refine spec_env [(0, .lst (l_a0.map (D.int .i64))), (1, .int .i64 n_a1)] Try.func33 rfl rfl fun K hK => ?_
  refine g_seq ?_
  refine g_run (by kernel_rfl) [(0, .d)] rfl ?_
  refine r_d rfl rfl rfl (s_assign rfl rfl) ?_
  refine r_end ?_
  refine g_seq ?_
  refine g_seq ?_
  refine g_run (by kernel_rfl) [(0, .d)] rfl ?_
  refine r_d rfl rfl rfl (s_assign rfl rfl) ?_
  refine r_end ?_
  obtain ⟨kk0, hkk0, hr⟩ := exK (fun k => lf_constraintref41_in_L0 k n_a1 l_a0) hr
  refine g_len 0 rfl (asl rfl) fun hla0 => ?_
  simp only [List.length_map] at hla0
  refine g_blockJ (fun env σ => env = [] ∧ σ = [] ∧ kk0 = some res) ?_ (fun HK0 => ?_)
  ·
    rintro _ _ ⟨rfl, rfl, hr⟩
    rw [hkk0] at hr
    refine g_seq ?_
    refine g_run (by kernel_rfl) [(0, .d)] rfl ?_
    refine r_d rfl rfl rfl (s_assign rfl rfl) ?_
    refine r_end ?_
    obtain rfl := Option.some.inj hr
    refine g_ret Try.func33 _ (.cons (resTmp rfl (Wk.refl _)) .nil) ?_
    rfl
  ·
    refine g_sub [(0, .lst (l_a0.map (D.int .i64))), (1, .int .i64 n_a1), (5, .int .i64 ((0 : Nat) : Int))] (Sub.cons' rfl (Sub.cons' rfl (Sub.cons' rfl (Sub.nil _)))) ?_
    refine g_loop (fun n env σ => ∃ (i_1 : Nat), (n = l_a0.length - i_1) ∧ (env = [(0, .lst (l_a0.map (D.int .i64))), (1, .int .i64 n_a1), (5, .int .i64 (i_1 : Int))]) ∧ (σ = []) ∧ (i_1 ≤ l_a0.length) ∧ (lf_constraintref41_in_L0 kk0 n_a1 (l_a0.drop i_1) = some res)) _ ⟨0, rfl, rfl, rfl, Nat.zero_le _, hr⟩ ?_
    rintro n _ _ ⟨i_1, rfl, rfl, rfl, hi0, hr⟩ IH0
    rcases listStep l_a0 i_1 hi0 with ⟨ht0, hd0, he0⟩ | ⟨q_2, ht0, hd0, hq0, hlt0⟩
    ·
      rw [hd0, lf_constraintref41_in_L0] at hr
      refine g_seq ?_
      refine g_seq ?_
      refine g_run (by kernel_rfl) [(0, .d), (1, .d), (2, .d), (3, .d)] rfl ?_
      refine r_d rfl rfl rfl (s_move rfl rfl) ?_
      refine r_d rfl rfl rfl (s_move rfl rfl) ?_
      refine r_d rfl rfl rfl (m_len (f := (D.int .i64)) l_a0 rfl el_L_int rfl (asl rfl)) ?_
      refine r_d rfl rfl rfl (s_cmp rfl rfl rfl rfl) ?_
      refine r_end ?_
      refine g_known 9 false rfl ht0 ?_
      refine g_condF rfl ?_
      refine g_exit rfl ?_
      refine g_sub [] (Sub.nil _) ?_
      exact HK0 _ _ ⟨rfl, rfl, hr⟩
    ·
      rw [hd0, lf_constraintref41_in_L0] at hr
      refine g_seq ?_
      refine g_seq ?_
      refine g_run (by kernel_rfl) [(0, .d), (1, .d), (2, .d), (3, .d)] rfl ?_
      refine r_d rfl rfl rfl (s_move rfl rfl) ?_
      refine r_d rfl rfl rfl (s_move rfl rfl) ?_
      refine r_d rfl rfl rfl (m_len (f := (D.int .i64)) l_a0 rfl el_L_int rfl (asl rfl)) ?_
      refine r_d rfl rfl rfl (s_cmp rfl rfl rfl rfl) ?_
      refine r_end ?_
      refine g_known 9 true rfl ht0 ?_
      refine g_condT rfl ?_
      refine g_skip ?_
      refine g_seq ?_
      refine g_block ?_
      refine g_seq ?_
      refine g_run (by kernel_rfl) [(0, .d), (1, .d), (2, .d), (3, .d), (4, .d), (5, .d)] rfl ?_
      refine r_d rfl rfl rfl (s_move rfl rfl) ?_
      refine r_d rfl rfl rfl (s_move rfl rfl) ?_
      refine r_d rfl rfl rfl (m_index (f := (D.int .i64)) l_a0 rfl el_L_int rfl (asl rfl) rfl hq0 (fun _ => rfl) rfl) ?_
      refine r_d rfl rfl rfl (s_load rfl rfl (by exact ty_int) rfl) ?_
      refine r_d rfl rfl rfl (s_move rfl rfl) ?_
      refine r_d rfl rfl rfl (s_cmp rfl rfl rfl rfl) ?_
      refine r_end ?_
      refine g_sB 17 rfl hr (fun h17_2 hr => ?_) (fun h17_2 hr => ?_)
      ·
        refine g_condT rfl ?_
        refine g_seq ?_
        refine g_run (by kernel_rfl) [(0, .d)] rfl ?_
        refine r_d rfl rfl rfl (s_assign rfl rfl) ?_
        refine r_end ?_
        obtain rfl := Option.some.inj hr
        refine g_ret Try.func33 _ (.cons (resTmp rfl (Wk.refl _)) .nil) ?_
        rfl
      ·
        refine g_condF rfl ?_
        refine g_skip ?_
        refine g_inBlock ?_
        refine g_run (by kernel_rfl) [(0, .d), (1, .d), (2, .d)] rfl ?_
        refine r_d rfl rfl rfl (s_move rfl rfl) ?_
        refine r_d rfl rfl rfl (s_ar (r := ((i_1 + 1 : Nat) : Int)) rfl rfl rfl (by simp [iar]) (by omega)) ?_
        refine r_d rfl rfl rfl (s_assign rfl rfl) ?_
        refine r_end ?_
        refine g_sub [(0, .lst (l_a0.map (D.int .i64))), (1, .int .i64 n_a1), (5, .int .i64 ((i_1 + 1 : Nat) : Int))] (Sub.cons' rfl (Sub.cons' rfl (Sub.cons' rfl (Sub.nil _)))) ?_
        exact IH0 _ _ _ (by omega) ⟨(i_1 + 1), rfl, rfl, rfl, (by omega), hr⟩

noncomputable def lf_Pconstraintref41_form_add_s1_L0 (k : (Int) → ((List Int)) → ((List Int)) → Option (Int × (List Int) × (List Int))) (rec : T → Int → (List Int) → Int → (List Int) → (List Int) → Option (Int × (List Int) × (List Int))) (factor_a2 : Int) (ones_a3 : (List Int)) : List T → Int → (List Int) → (List Int) → Option (Int × (List Int) × (List Int))
  | [], f_5, f_6, f_7 =>
  (k f_5 f_6 f_7)
  | q_13 :: rest, f_5, f_6, f_7 =>
  ((rec q_13 factor_a2 ones_a3 f_5 f_6 f_7).bind fun r_14 =>
  (lf_Pconstraintref41_form_add_s1_L0 k rec factor_a2 ones_a3 rest r_14.1 r_14.2.1 r_14.2.2))

noncomputable def lf_Pconstraintref41_form_add_s1_L1 (k : (Int) → ((List Int)) → ((List Int)) → Option (Int × (List Int) × (List Int))) (rec : T → Int → (List Int) → Int → (List Int) → (List Int) → Option (Int × (List Int) × (List Int))) (factor_a2 : Int) (ones_a3 : (List Int)) : List T → Int → (List Int) → (List Int) → Option (Int × (List Int) × (List Int))
  | [], f_22, f_23, f_24 =>
  (k f_22 f_23 f_24)
  | q_30 :: rest, f_22, f_23, f_24 =>
  ((rec q_30 factor_a2 ones_a3 f_22 f_23 f_24).bind fun r_31 =>
  (lf_Pconstraintref41_form_add_s1_L1 k rec factor_a2 ones_a3 rest r_31.1 r_31.2.1 r_31.2.2))

noncomputable def lf_Pconstraintref41_form_add_s1_L2 (k : Option (Int × (List Int) × (List Int))) (c_0_0 : Int) (c_0_1 : (List Int)) (c_0_2 : (List Int)) (factor_a2 : Int) (t_a1 : T) : List Int → Nat → Option (Int × (List Int) × (List Int))
  | [], i_36 =>
  k
  | q_43 :: rest, i_36 =>
  (bif (q_43 == t_a1.i) then
  ((getI c_0_2 (i_36 : Int)).bind fun q_45 =>
  some (c_0_0, c_0_1, (c_0_2.set (i_36 : Int).toNat (wr (q_45 + factor_a2)))))
  else
  (lf_Pconstraintref41_form_add_s1_L2 k c_0_0 c_0_1 c_0_2 factor_a2 t_a1 rest (i_36 + 1)))
noncomputable def lf_Pconstraintref41_form_add_s1 : Nat → T → Int → (List Int) → Int → (List Int) → (List Int) → Option (Int × (List Int) × (List Int))
  | 0, _, _, _, _, _, _ => none
  | fuel + 1, t_a1, factor_a2, ones_a3, c_0_0, c_0_1, c_0_2 =>
    (fun (rec : T → Int → (List Int) → Int → (List Int) → (List Int) → Option (Int × (List Int) × (List Int))) =>
      (bif (t_a1.k != (1 : Int)) then
      (lf_Pconstraintref41_form_add_s1_L0 (fun f_10 f_11 f_12 =>
      some (f_10, f_11, f_12)) rec factor_a2 ones_a3 t_a1.ar (wr (c_0_0 + factor_a2)) c_0_1 c_0_2)
      else
      ((lf_constraintref41_in ones_a3 t_a1.i).bind fun r_17 =>
      (bif r_17 then
      (lf_Pconstraintref41_form_add_s1_L1 (fun f_27 f_28 f_29 =>
      some (f_27, f_28, f_29)) rec factor_a2 ones_a3 t_a1.ar (wr (c_0_0 + factor_a2)) c_0_1 c_0_2)
      else
      (lf_Pconstraintref41_form_add_s1_L2 (((appO 8 c_0_1 [t_a1.i]).bind fun l_39 =>
      ((appO 8 c_0_2 [factor_a2]).bind fun l_41 =>
      some (c_0_0, l_39, l_41)))) c_0_0 c_0_1 c_0_2 factor_a2 t_a1 c_0_1 0))))) (lf_Pconstraintref41_form_add_s1 fuel)

set_option maxHeartbeats 1000000 in
theorem lgs_Pconstraintref41_form_add_s1 (fuel : Nat) (rec : T → Int → (List Int) → Int → (List Int) → (List Int) → Option (Int × (List Int) × (List Int))) (IHR : ∀ (t_a1 : T) (factor_a2 : Int) (ones_a3 : (List Int)) (c_0_0 : Int) (c_0_1 : (List Int)) (c_0_2 : (List Int)) (b_o0 : Nat) (u_o1 : Value) (u_o2 : Value) (res : Int × (List Int) × (List Int)), rec t_a1 factor_a2 ones_a3 c_0_0 c_0_1 c_0_2 = some res → Spec Try.prog 51 [.ref b_o0 0 [], encT t_a1, .int .i64 factor_a2, .lst (ones_a3.map (D.int .i64))] [.cell b_o0 (.agg [.int .i64 c_0_0, .own u_o1 (c_0_1.map (D.int .i64)), .vec u_o2 c_0_2.length]), .row u_o1 c_0_1.length 3 1, .vec u_o2 (c_0_2.map (D.int .i64)) 3 1] (fun d σ => ∃ (u_o1' : Value) (u_o2' : Value), d = .tup [] ∧ σ = [.cell b_o0 (.agg [.int .i64 res.1, .own u_o1' (res.2.1.map (D.int .i64)), .vec u_o2' res.2.2.length]), .row u_o1' res.2.1.length 3 1, .vec u_o2' (res.2.2.map (D.int .i64)) 3 1])) (t_a1 : T) (factor_a2 : Int) (ones_a3 : (List Int)) (c_0_0 : Int) (c_0_1 : (List Int)) (c_0_2 : (List Int)) (b_o0 : Nat) (u_o1 : Value) (u_o2 : Value) (res : Int × (List Int) × (List Int))
    (hr : (bif (t_a1.k != (1 : Int)) then
(lf_Pconstraintref41_form_add_s1_L0 (fun f_10 f_11 f_12 =>
some (f_10, f_11, f_12)) rec factor_a2 ones_a3 t_a1.ar (wr (c_0_0 + factor_a2)) c_0_1 c_0_2)
else
((lf_constraintref41_in ones_a3 t_a1.i).bind fun r_17 =>
(bif r_17 then
(lf_Pconstraintref41_form_add_s1_L1 (fun f_27 f_28 f_29 =>
some (f_27, f_28, f_29)) rec factor_a2 ones_a3 t_a1.ar (wr (c_0_0 + factor_a2)) c_0_1 c_0_2)
else
(lf_Pconstraintref41_form_add_s1_L2 (((appO 8 c_0_1 [t_a1.i]).bind fun l_39 =>
((appO 8 c_0_2 [factor_a2]).bind fun l_41 =>
some (c_0_0, l_39, l_41)))) c_0_0 c_0_1 c_0_2 factor_a2 t_a1 c_0_1 0)))) = some res) : Spec Try.prog 51 [.ref b_o0 0 [], encT t_a1, .int .i64 factor_a2, .lst (ones_a3.map (D.int .i64))] [.cell b_o0 (.agg [.int .i64 c_0_0, .own u_o1 (c_0_1.map (D.int .i64)), .vec u_o2 c_0_2.length]), .row u_o1 c_0_1.length 3 1, .vec u_o2 (c_0_2.map (D.int .i64)) 3 1] (fun d σ => ∃ (u_o1' : Value) (u_o2' : Value), d = .tup [] ∧ σ = [.cell b_o0 (.agg [.int .i64 res.1, .own u_o1' (res.2.1.map (D.int .i64)), .vec u_o2' res.2.2.length]), .row u_o1' res.2.1.length 3 1, .vec u_o2' (res.2.2.map (D.int .i64)) 3 1]) := by
  refine spec_env [(0, .ref b_o0 0 []), (1, encT t_a1), (2, .int .i64 factor_a2), (3, .lst (ones_a3.map (D.int .i64)))] Try.func51 rfl rfl fun K hK => ?_
  refine g_seq ?_
  refine g_run (by kernel_rfl) [(0, .d)] rfl ?_
  refine r_d rfl rfl rfl (s_box rfl rfl rfl) ?_
  refine r_end ?_
  refine g_seq ?_
  refine g_seq ?_
  refine g_run (by kernel_rfl) [(0, .d), (1, .d), (2, .d), (3, .d), (4, .d), (5, .d), (6, .d), (7, .d), (8, .d)] rfl ?_
  refine r_d rfl rfl rfl (s_fieldAddr rfl fl_api_Term_0 rfl (fsT_get0 _) (fsT_off0 _) rfl) ?_
  refine r_d rfl rfl rfl (s_load rfl rfl (by exact ty_int) rfl) ?_
  refine r_d rfl rfl rfl (s_cmp rfl rfl rfl rfl) ?_
  refine r_d rfl rfl rfl (s_move rfl rfl) ?_
  refine r_sB 13 rfl hr (fun h13_0 hr => ?_) (fun h13_0 hr => ?_)
  ·
    refine r_skip rfl rfl rfl ?_
    refine r_skip rfl rfl rfl ?_
    refine r_skip rfl rfl rfl ?_
    refine r_skip rfl rfl rfl ?_
    refine r_d rfl rfl rfl (s_pickT rfl rfl rfl) ?_
    refine r_end ?_
    refine g_condT rfl ?_
    refine g_seq ?_
    refine g_run (by kernel_rfl) [(0, .d), (1, .d), (2, .d), (3, .r), (4, .d), (5, .d), (6, .d), (7, .d), (8, .w)] rfl ?_
    refine r_d rfl rfl rfl (s_move rfl rfl) ?_
    refine r_d rfl rfl rfl (s_nilCheckR rfl rfl) ?_
    refine r_d rfl rfl rfl (s_fieldRef rfl fl_constraintref41_form_0 rfl) ?_
    refine r_r rfl rfl rfl (t_loadRef rfl rfl (.head _) rfl rfl (by exact ty_int) rfl) ?_
    refine r_d rfl rfl rfl (s_move rfl rfl) ?_
    refine r_d rfl rfl rfl (s_arW rfl rfl rfl rfl) ?_
    refine r_d rfl rfl rfl (s_nilCheckR rfl rfl) ?_
    refine r_d rfl rfl rfl (s_fieldRef rfl fl_constraintref41_form_0 rfl) ?_
    refine r_w01 rfl rfl rfl (t_store _ rfl rfl rfl (Wk.refl _) (pf0 _) rfl rfl (by exact ty_int) rfl rfl rfl) ?_
    refine r_end ?_
    refine g_seq ?_
    refine g_seq ?_
    refine g_run (by kernel_rfl) [(0, .d)] rfl ?_
    refine r_d rfl rfl rfl (s_assign rfl rfl) ?_
    refine r_end ?_
    obtain ⟨kk0, hkk0, hr⟩ := exK (fun k => lf_Pconstraintref41_form_add_s1_L0 k rec factor_a2 ones_a3 t_a1.ar (wr (c_0_0 + factor_a2)) c_0_1 c_0_2) hr
    refine g_lenS 1 [3] (l := t_a1.ar.map encT) rfl (subT3 _) (asl rfl) fun hla0 => ?_
    simp only [List.length_map] at hla0
    refine g_blockJ (fun env σ => ∃ (f_10 : Int) (f_11 : (List Int)) (f_12 : (List Int)) (u_8 : Value) (u_9 : Value), env = [] ∧ σ = [.cell b_o0 (.agg [.int .i64 f_10, .own u_8 (f_11.map (D.int .i64)), .vec u_9 f_12.length]), .row u_8 f_11.length 3 1, .vec u_9 (f_12.map (D.int .i64)) 3 1] ∧ kk0 f_10 f_11 f_12 = some res) ?_ (fun HK0 => ?_)
    ·
      rintro _ _ ⟨f_10, f_11, f_12, u_8, u_9, rfl, rfl, hr⟩
      rw [hkk0] at hr
      obtain rfl := Option.some.inj hr
      refine g_ret Try.func51 _ .nil ?_
      exact ⟨u_8, u_9, rfl, rfl⟩
    ·
      refine g_sub [(0, .ref b_o0 0 []), (2, .int .i64 factor_a2), (3, .lst (ones_a3.map (D.int .i64))), (5, .ptr (encT t_a1)), (8, .int .i64 ((0 : Nat) : Int))] (Sub.cons' rfl (Sub.cons' rfl (Sub.cons' rfl (Sub.cons' rfl (Sub.cons' rfl (Sub.nil _)))))) ?_
      refine g_loop (fun n env σ => ∃ (i_4 : Nat) (f_5 : Int) (f_6 : (List Int)) (f_7 : (List Int)) (u_2 : Value) (u_3 : Value), (n = t_a1.ar.length - i_4) ∧ (env = [(0, .ref b_o0 0 []), (2, .int .i64 factor_a2), (3, .lst (ones_a3.map (D.int .i64))), (5, .ptr (encT t_a1)), (8, .int .i64 (i_4 : Int))]) ∧ (σ = [.cell b_o0 (.agg [.int .i64 f_5, .own u_2 (f_6.map (D.int .i64)), .vec u_3 f_7.length]), .row u_2 f_6.length 3 1, .vec u_3 (f_7.map (D.int .i64)) 3 1]) ∧ (i_4 ≤ t_a1.ar.length) ∧ (lf_Pconstraintref41_form_add_s1_L0 kk0 rec factor_a2 ones_a3 (t_a1.ar.drop i_4) f_5 f_6 f_7 = some res)) _ ⟨0, (wr (c_0_0 + factor_a2)), c_0_1, c_0_2, u_o1, u_o2, rfl, rfl, rfl, Nat.zero_le _, hr⟩ ?_
      rintro n _ _ ⟨i_4, f_5, f_6, f_7, u_2, u_3, rfl, rfl, rfl, hi0, hr⟩ IH0
      rcases listStep t_a1.ar i_4 hi0 with ⟨ht0, hd0, he0⟩ | ⟨q_13, ht0, hd0, hq0, hlt0⟩
      ·
        rw [hd0, lf_Pconstraintref41_form_add_s1_L0] at hr
        refine g_seq ?_
        refine g_seq ?_
        refine g_run (by kernel_rfl) [(0, .d), (1, .d), (2, .d), (3, .d), (4, .d)] rfl ?_
        refine r_d rfl rfl rfl (s_move rfl rfl) ?_
        refine r_d rfl rfl rfl (s_fieldAddr rfl fl_api_Term_3 rfl (fsT_get3 _) (fsT_off3 _) rfl) ?_
        refine r_d rfl rfl rfl (s_load rfl rfl (by exact ty_L_api_Term) rfl) ?_
        refine r_d rfl rfl rfl (m_len (f := encT) t_a1.ar rfl el_L_api_Term rfl (asl rfl)) ?_
        refine r_d rfl rfl rfl (s_cmp rfl rfl rfl rfl) ?_
        refine r_end ?_
        refine g_known 31 false rfl ht0 ?_
        refine g_condF rfl ?_
        refine g_exit rfl ?_
        refine g_sub [] (Sub.nil _) ?_
        exact HK0 _ _ ⟨f_5, f_6, f_7, u_2, u_3, rfl, rfl, hr⟩
      ·
        rw [hd0, lf_Pconstraintref41_form_add_s1_L0] at hr
        refine g_seq ?_
        refine g_seq ?_
        refine g_run (by kernel_rfl) [(0, .d), (1, .d), (2, .d), (3, .d), (4, .d)] rfl ?_
        refine r_d rfl rfl rfl (s_move rfl rfl) ?_
        refine r_d rfl rfl rfl (s_fieldAddr rfl fl_api_Term_3 rfl (fsT_get3 _) (fsT_off3 _) rfl) ?_
        refine r_d rfl rfl rfl (s_load rfl rfl (by exact ty_L_api_Term) rfl) ?_
        refine r_d rfl rfl rfl (m_len (f := encT) t_a1.ar rfl el_L_api_Term rfl (asl rfl)) ?_
        refine r_d rfl rfl rfl (s_cmp rfl rfl rfl rfl) ?_
        refine r_end ?_
        refine g_known 31 true rfl ht0 ?_
        refine g_condT rfl ?_
        refine g_skip ?_
        refine g_seq ?_
        refine g_block ?_
        refine g_run (by kernel_rfl) [(0, .d), (1, .d), (2, .d), (3, .d), (4, .d), (5, .d), (6, .d), (7, .d), (8, .w)] rfl ?_
        refine r_d rfl rfl rfl (s_move rfl rfl) ?_
        refine r_d rfl rfl rfl (s_fieldAddr rfl fl_api_Term_3 rfl (fsT_get3 _) (fsT_off3 _) rfl) ?_
        refine r_d rfl rfl rfl (s_load rfl rfl (by exact ty_L_api_Term) rfl) ?_
        refine r_d rfl rfl rfl (s_move rfl rfl) ?_
        refine r_d rfl rfl rfl (m_index (f := encT) t_a1.ar rfl el_L_api_Term rfl (asl rfl) rfl hq0 sz_encT rfl) ?_
        refine r_d rfl rfl rfl (s_load rfl rfl (by exact ty_api_Term) (sz_encT _)) ?_
        refine r_d rfl rfl rfl (s_move rfl rfl) ?_
        refine r_d rfl rfl rfl (s_move rfl rfl) ?_
        obtain ⟨r_14, hr_14, hr⟩ := bindS hr
        refine r_w rfl rfl rfl (s_call _ rfl cl_Pconstraintref41_form_add (.cons rfl (Wk.refl _) (.cons rfl (Wk.refl _) (.cons rfl (Wk.refl _) (.cons rfl (Wk.refl _) .nil)))) (by exact (((pf2 _ _ _ _).trans (pf2 _ _ _ _)).trans (pf2 _ _ _ _))) (IHR _ _ _ _ _ _ _ _ _ _ hr_14)) ?_
        rintro _ _ ⟨_, ⟨u42_14, u42_15, rfl, rfl⟩, rfl⟩
        refine r_st ((.cell b_o0 (.agg [.int .i64 r_14.1, .own u42_14 (r_14.2.1.map (D.int .i64)), .vec u42_15 r_14.2.2.length])) :: (.row u42_14 r_14.2.1.length 3 1) :: (.vec u42_15 (r_14.2.2.map (D.int .i64)) 3 1) :: _) rfl ?_
        refine r_end ?_
        refine g_inBlock ?_
        refine g_run (by kernel_rfl) [(0, .d), (1, .d), (2, .d)] rfl ?_
        refine r_d rfl rfl rfl (s_move rfl rfl) ?_
        refine r_d rfl rfl rfl (s_ar (r := ((i_4 + 1 : Nat) : Int)) rfl rfl rfl (by simp [iar]) (by omega)) ?_
        refine r_d rfl rfl rfl (s_assign rfl rfl) ?_
        refine r_end ?_
        refine g_sub [(0, .ref b_o0 0 []), (2, .int .i64 factor_a2), (3, .lst (ones_a3.map (D.int .i64))), (5, .ptr (encT t_a1)), (8, .int .i64 ((i_4 + 1 : Nat) : Int))] (Sub.cons' rfl (Sub.cons' rfl (Sub.cons' rfl (Sub.cons' rfl (Sub.cons' rfl (Sub.nil _)))))) ?_
        exact IH0 _ _ _ (by omega) ⟨(i_4 + 1), r_14.1, r_14.2.1, r_14.2.2, u42_14, u42_15, rfl, rfl, rfl, (by omega), hr⟩
  ·
    refine r_d rfl rfl rfl (s_move rfl rfl) ?_
    refine r_d rfl rfl rfl (s_fieldAddr rfl fl_api_Term_1 rfl (fsT_get1 _) (fsT_off1 _) rfl) ?_
    refine r_d rfl rfl rfl (s_load rfl rfl (by exact ty_int) rfl) ?_
    obtain ⟨r_17, hr_17, hr⟩ := bindS hr
    refine r_d rfl rfl rfl (s_callD rfl cl_constraintref41_in (.cons rfl (Wk.refl _) (.cons rfl (Wk.refl _) .nil)) (lg_constraintref41_in _ _ _ hr_17)) ?_
    refine r_d rfl rfl rfl (s_pickF rfl rfl rfl) ?_
    refine r_end ?_
    refine g_sB 18 rfl hr (fun h18_17 hr => ?_) (fun h18_17 hr => ?_)
    ·
      refine g_condT rfl ?_
      refine g_seq ?_
      refine g_run (by kernel_rfl) [(0, .d), (1, .d), (2, .d), (3, .r), (4, .d), (5, .d), (6, .d), (7, .d), (8, .w)] rfl ?_
      refine r_d rfl rfl rfl (s_move rfl rfl) ?_
      refine r_d rfl rfl rfl (s_nilCheckR rfl rfl) ?_
      refine r_d rfl rfl rfl (s_fieldRef rfl fl_constraintref41_form_0 rfl) ?_
      refine r_r rfl rfl rfl (t_loadRef rfl rfl (.head _) rfl rfl (by exact ty_int) rfl) ?_
      refine r_d rfl rfl rfl (s_move rfl rfl) ?_
      refine r_d rfl rfl rfl (s_arW rfl rfl rfl rfl) ?_
      refine r_d rfl rfl rfl (s_nilCheckR rfl rfl) ?_
      refine r_d rfl rfl rfl (s_fieldRef rfl fl_constraintref41_form_0 rfl) ?_
      refine r_w01 rfl rfl rfl (t_store _ rfl rfl rfl (Wk.refl _) (pf0 _) rfl rfl (by exact ty_int) rfl rfl rfl) ?_
      refine r_end ?_
      refine g_seq ?_
      refine g_seq ?_
      refine g_run (by kernel_rfl) [(0, .d)] rfl ?_
      refine r_d rfl rfl rfl (s_assign rfl rfl) ?_
      refine r_end ?_
      obtain ⟨kk1, hkk1, hr⟩ := exK (fun k => lf_Pconstraintref41_form_add_s1_L1 k rec factor_a2 ones_a3 t_a1.ar (wr (c_0_0 + factor_a2)) c_0_1 c_0_2) hr
      refine g_lenS 1 [3] (l := t_a1.ar.map encT) rfl (subT3 _) (asl rfl) fun hla1 => ?_
      simp only [List.length_map] at hla1
      refine g_blockJ (fun env σ => ∃ (f_27 : Int) (f_28 : (List Int)) (f_29 : (List Int)) (u_25 : Value) (u_26 : Value), env = [] ∧ σ = [.cell b_o0 (.agg [.int .i64 f_27, .own u_25 (f_28.map (D.int .i64)), .vec u_26 f_29.length]), .row u_25 f_28.length 3 1, .vec u_26 (f_29.map (D.int .i64)) 3 1] ∧ kk1 f_27 f_28 f_29 = some res) ?_ (fun HK1 => ?_)
      ·
        rintro _ _ ⟨f_27, f_28, f_29, u_25, u_26, rfl, rfl, hr⟩
        rw [hkk1] at hr
        obtain rfl := Option.some.inj hr
        refine g_ret Try.func51 _ .nil ?_
        exact ⟨u_25, u_26, rfl, rfl⟩
      ·
        refine g_sub [(0, .ref b_o0 0 []), (2, .int .i64 factor_a2), (3, .lst (ones_a3.map (D.int .i64))), (5, .ptr (encT t_a1)), (8, .int .i64 ((0 : Nat) : Int))] (Sub.cons' rfl (Sub.cons' rfl (Sub.cons' rfl (Sub.cons' rfl (Sub.cons' rfl (Sub.nil _)))))) ?_
        refine g_loop (fun n env σ => ∃ (i_21 : Nat) (f_22 : Int) (f_23 : (List Int)) (f_24 : (List Int)) (u_19 : Value) (u_20 : Value), (n = t_a1.ar.length - i_21) ∧ (env = [(0, .ref b_o0 0 []), (2, .int .i64 factor_a2), (3, .lst (ones_a3.map (D.int .i64))), (5, .ptr (encT t_a1)), (8, .int .i64 (i_21 : Int))]) ∧ (σ = [.cell b_o0 (.agg [.int .i64 f_22, .own u_19 (f_23.map (D.int .i64)), .vec u_20 f_24.length]), .row u_19 f_23.length 3 1, .vec u_20 (f_24.map (D.int .i64)) 3 1]) ∧ (i_21 ≤ t_a1.ar.length) ∧ (lf_Pconstraintref41_form_add_s1_L1 kk1 rec factor_a2 ones_a3 (t_a1.ar.drop i_21) f_22 f_23 f_24 = some res)) _ ⟨0, (wr (c_0_0 + factor_a2)), c_0_1, c_0_2, u_o1, u_o2, rfl, rfl, rfl, Nat.zero_le _, hr⟩ ?_
        rintro n _ _ ⟨i_21, f_22, f_23, f_24, u_19, u_20, rfl, rfl, rfl, hi1, hr⟩ IH1
        rcases listStep t_a1.ar i_21 hi1 with ⟨ht1, hd1, he1⟩ | ⟨q_30, ht1, hd1, hq1, hlt1⟩
        ·
          rw [hd1, lf_Pconstraintref41_form_add_s1_L1] at hr
          refine g_seq ?_
          refine g_seq ?_
          refine g_run (by kernel_rfl) [(0, .d), (1, .d), (2, .d), (3, .d), (4, .d)] rfl ?_
          refine r_d rfl rfl rfl (s_move rfl rfl) ?_
          refine r_d rfl rfl rfl (s_fieldAddr rfl fl_api_Term_3 rfl (fsT_get3 _) (fsT_off3 _) rfl) ?_
          refine r_d rfl rfl rfl (s_load rfl rfl (by exact ty_L_api_Term) rfl) ?_
          refine r_d rfl rfl rfl (m_len (f := encT) t_a1.ar rfl el_L_api_Term rfl (asl rfl)) ?_
          refine r_d rfl rfl rfl (s_cmp rfl rfl rfl rfl) ?_
          refine r_end ?_
          refine g_known 31 false rfl ht1 ?_
          refine g_condF rfl ?_
          refine g_exit rfl ?_
          refine g_sub [] (Sub.nil _) ?_
          exact HK1 _ _ ⟨f_22, f_23, f_24, u_19, u_20, rfl, rfl, hr⟩
        ·
          rw [hd1, lf_Pconstraintref41_form_add_s1_L1] at hr
          refine g_seq ?_
          refine g_seq ?_
          refine g_run (by kernel_rfl) [(0, .d), (1, .d), (2, .d), (3, .d), (4, .d)] rfl ?_
          refine r_d rfl rfl rfl (s_move rfl rfl) ?_
          refine r_d rfl rfl rfl (s_fieldAddr rfl fl_api_Term_3 rfl (fsT_get3 _) (fsT_off3 _) rfl) ?_
          refine r_d rfl rfl rfl (s_load rfl rfl (by exact ty_L_api_Term) rfl) ?_
          refine r_d rfl rfl rfl (m_len (f := encT) t_a1.ar rfl el_L_api_Term rfl (asl rfl)) ?_
          refine r_d rfl rfl rfl (s_cmp rfl rfl rfl rfl) ?_
          refine r_end ?_
          refine g_known 31 true rfl ht1 ?_
          refine g_condT rfl ?_
          refine g_skip ?_
          refine g_seq ?_
          refine g_block ?_
          refine g_run (by kernel_rfl) [(0, .d), (1, .d), (2, .d), (3, .d), (4, .d), (5, .d), (6, .d), (7, .d), (8, .w)] rfl ?_
          refine r_d rfl rfl rfl (s_move rfl rfl) ?_
          refine r_d rfl rfl rfl (s_fieldAddr rfl fl_api_Term_3 rfl (fsT_get3 _) (fsT_off3 _) rfl) ?_
          refine r_d rfl rfl rfl (s_load rfl rfl (by exact ty_L_api_Term) rfl) ?_
          refine r_d rfl rfl rfl (s_move rfl rfl) ?_
          refine r_d rfl rfl rfl (m_index (f := encT) t_a1.ar rfl el_L_api_Term rfl (asl rfl) rfl hq1 sz_encT rfl) ?_
          refine r_d rfl rfl rfl (s_load rfl rfl (by exact ty_api_Term) (sz_encT _)) ?_
          refine r_d rfl rfl rfl (s_move rfl rfl) ?_
          refine r_d rfl rfl rfl (s_move rfl rfl) ?_
          obtain ⟨r_31, hr_31, hr⟩ := bindS hr
          refine r_w rfl rfl rfl (s_call _ rfl cl_Pconstraintref41_form_add (.cons rfl (Wk.refl _) (.cons rfl (Wk.refl _) (.cons rfl (Wk.refl _) (.cons rfl (Wk.refl _) .nil)))) (by exact (((pf2 _ _ _ _).trans (pf2 _ _ _ _)).trans (pf2 _ _ _ _))) (IHR _ _ _ _ _ _ _ _ _ _ hr_31)) ?_
          rintro _ _ ⟨_, ⟨u42_31, u42_32, rfl, rfl⟩, rfl⟩
          refine r_st ((.cell b_o0 (.agg [.int .i64 r_31.1, .own u42_31 (r_31.2.1.map (D.int .i64)), .vec u42_32 r_31.2.2.length])) :: (.row u42_31 r_31.2.1.length 3 1) :: (.vec u42_32 (r_31.2.2.map (D.int .i64)) 3 1) :: _) rfl ?_
          refine r_end ?_
          refine g_inBlock ?_
          refine g_run (by kernel_rfl) [(0, .d), (1, .d), (2, .d)] rfl ?_
          refine r_d rfl rfl rfl (s_move rfl rfl) ?_
          refine r_d rfl rfl rfl (s_ar (r := ((i_21 + 1 : Nat) : Int)) rfl rfl rfl (by simp [iar]) (by omega)) ?_
          refine r_d rfl rfl rfl (s_assign rfl rfl) ?_
          refine r_end ?_
          refine g_sub [(0, .ref b_o0 0 []), (2, .int .i64 factor_a2), (3, .lst (ones_a3.map (D.int .i64))), (5, .ptr (encT t_a1)), (8, .int .i64 ((i_21 + 1 : Nat) : Int))] (Sub.cons' rfl (Sub.cons' rfl (Sub.cons' rfl (Sub.cons' rfl (Sub.cons' rfl (Sub.nil _)))))) ?_
          exact IH1 _ _ _ (by omega) ⟨(i_21 + 1), r_31.1, r_31.2.1, r_31.2.2, u42_31, u42_32, rfl, rfl, rfl, (by omega), hr⟩
    ·
      refine g_condF rfl ?_
      refine g_skip ?_
      refine g_seq ?_
      refine g_seq ?_
      refine g_run (by kernel_rfl) [(0, .d)] rfl ?_
      refine r_d rfl rfl rfl (s_assign rfl rfl) ?_
      refine r_end ?_
      obtain ⟨kk2, hkk2, hr⟩ := exK (fun k => lf_Pconstraintref41_form_add_s1_L2 k c_0_0 c_0_1 c_0_2 factor_a2 t_a1 c_0_1 0) hr
      refine g_lenC [1] (l := c_0_1.map (D.int .i64)) (.head _) (by first | rfl | simp [subD, fsT_eq]) (asl rfl) fun hla2 => ?_
      simp only [List.length_map] at hla2
      refine g_blockJ (fun env σ => ∃ (u_37 : Value) (u_38 : Value), env = [(0, .ref b_o0 0 []), (2, .int .i64 factor_a2), (5, .ptr (encT t_a1))] ∧ σ = [.cell b_o0 (.agg [.int .i64 c_0_0, .own u_37 (c_0_1.map (D.int .i64)), .vec u_38 c_0_2.length]), .row u_37 c_0_1.length 3 1, .vec u_38 (c_0_2.map (D.int .i64)) 3 1] ∧ kk2 = some res) ?_ (fun HK2 => ?_)
      ·
        rintro _ _ ⟨u_37, u_38, rfl, rfl, hr⟩
        rw [hkk2] at hr
        refine g_seq ?_
        refine g_any (by kernel_rfl) (by kernel_rfl) [(0, .d), (1, .d), (2, .d), (3, .d), (4, .r), (5, .d), (6, .d), (7, .d), (8, .w), (9, .d), (10, .d), (11, .w)] (by kernel_rfl) ?_
        refine r_d rfl rfl rfl (s_move rfl rfl) ?_
        refine r_d rfl rfl rfl (s_move rfl rfl) ?_
        refine r_d rfl rfl rfl (s_nilCheckR rfl rfl) ?_
        refine r_d rfl rfl rfl (s_fieldRef rfl fl_constraintref41_form_1 rfl) ?_
        refine r_r rfl rfl rfl (t_loadRef rfl rfl (.head _) rfl rfl (by exact ty_L_int) rfl) ?_
        refine r_d rfl rfl rfl (s_fieldAddr rfl fl_api_Term_1 rfl (fsT_get1 _) (fsT_off1 _) rfl) ?_
        refine r_d rfl rfl rfl (s_load rfl rfl (by exact ty_int) rfl) ?_
        refine r_d rfl rfl rfl (m_lit (f := (D.int .i64)) [.tmp 78] [t_a1.i] rfl el_L_int rfl rfl (by decide) (by decide) (.cons rfl (Wk.refl _) .nil) (fun _ => rfl) (fun _ => rfl)) ?_
        obtain ⟨l_39, hl_39, hr⟩ := bindS hr
        refine r_w rfl rfl rfl (m_appOwn (f := (D.int .i64)) c_0_1 [t_a1.i] rfl el_L_int rfl rfl (asl rfl) (pf1 _ _ _) rfl (fun _ => rfl) hl_39) ?_
        rintro _ _ ⟨u80_39, rfl, rfl⟩
        refine r_d rfl rfl rfl (s_nilCheckR rfl rfl) ?_
        refine r_d rfl rfl rfl (s_fieldRef rfl fl_constraintref41_form_1 rfl) ?_
        refine r_w01 rfl rfl rfl (t_store _ rfl rfl rfl (Wk.refl _) (pf1 _ _ _) rfl rfl (by exact ty_L_int) rfl rfl rfl) ?_
        refine r_end ?_
        refine g_run (by kernel_rfl) [(0, .d), (1, .d), (2, .d), (3, .d), (4, .r), (5, .d), (6, .d), (7, .w), (8, .d), (9, .d), (10, .w)] rfl ?_
        refine r_d rfl rfl rfl (s_move rfl rfl) ?_
        refine r_d rfl rfl rfl (s_move rfl rfl) ?_
        refine r_d rfl rfl rfl (s_nilCheckR rfl rfl) ?_
        refine r_d rfl rfl rfl (s_fieldRef rfl fl_constraintref41_form_2 rfl) ?_
        refine r_r rfl rfl rfl (t_loadRef rfl rfl (.head _) rfl rfl (by exact ty_L_int) rfl) ?_
        refine r_d rfl rfl rfl (s_move rfl rfl) ?_
        refine r_d rfl rfl rfl (m_lit (f := (D.int .i64)) [.tmp 88] [factor_a2] rfl el_L_int rfl rfl (by decide) (by decide) (.cons rfl (Wk.refl _) .nil) (fun _ => rfl) (fun _ => rfl)) ?_
        obtain ⟨l_41, hl_41, hr⟩ := bindS hr
        refine r_w rfl rfl rfl (m_appVec (f := (D.int .i64)) c_0_2 [factor_a2] rfl el_L_int rfl rfl (asl rfl) (pf2 _ _ _ _) (fun _ => rfl) hl_41) ?_
        rintro _ _ ⟨u90_41, rfl, rfl⟩
        refine r_d rfl rfl rfl (s_nilCheckR rfl rfl) ?_
        refine r_d rfl rfl rfl (s_fieldRef rfl fl_constraintref41_form_2 rfl) ?_
        refine r_w01 rfl rfl rfl (t_store _ rfl rfl rfl (Wk.refl _) (pf1 _ _ _) rfl rfl (by exact ty_L_int) rfl rfl rfl) ?_
        refine r_end ?_
        refine g_perm [_, _, _] _ (((pf1 _ _ _).trans (pf2 _ _ _ _)).trans (pf2 _ _ _ _)) ?_
        obtain rfl := Option.some.inj hr
        refine g_end Try.func51 _ .nil ?_
        exact ⟨u80_39, u90_41, rfl, rfl⟩
      ·
        refine g_sub [(0, .ref b_o0 0 []), (2, .int .i64 factor_a2), (5, .ptr (encT t_a1)), (9, .int .i64 ((0 : Nat) : Int))] (Sub.cons' rfl (Sub.cons' rfl (Sub.cons' rfl (Sub.cons' rfl (Sub.nil _))))) ?_
        refine g_loop (fun n env σ => ∃ (i_36 : Nat) (u_34 : Value) (u_35 : Value), (n = c_0_1.length - i_36) ∧ (env = [(0, .ref b_o0 0 []), (2, .int .i64 factor_a2), (5, .ptr (encT t_a1)), (9, .int .i64 (i_36 : Int))]) ∧ (σ = [.cell b_o0 (.agg [.int .i64 c_0_0, .own u_34 (c_0_1.map (D.int .i64)), .vec u_35 c_0_2.length]), .row u_34 c_0_1.length 3 1, .vec u_35 (c_0_2.map (D.int .i64)) 3 1]) ∧ (i_36 ≤ c_0_1.length) ∧ (lf_Pconstraintref41_form_add_s1_L2 kk2 c_0_0 c_0_1 c_0_2 factor_a2 t_a1 (c_0_1.drop i_36) i_36 = some res)) _ ⟨0, u_o1, u_o2, rfl, rfl, rfl, Nat.zero_le _, hr⟩ ?_
        rintro n _ _ ⟨i_36, u_34, u_35, rfl, rfl, rfl, hi2, hr⟩ IH2
        rcases listStep c_0_1 i_36 hi2 with ⟨ht2, hd2, he2⟩ | ⟨q_43, ht2, hd2, hq2, hlt2⟩
        ·
          rw [hd2, lf_Pconstraintref41_form_add_s1_L2] at hr
          refine g_seq ?_
          refine g_seq ?_
          refine g_run (by kernel_rfl) [(0, .d), (1, .d), (2, .d), (3, .d), (4, .r), (5, .d), (6, .d)] rfl ?_
          refine r_d rfl rfl rfl (s_move rfl rfl) ?_
          refine r_d rfl rfl rfl (s_move rfl rfl) ?_
          refine r_d rfl rfl rfl (s_nilCheckR rfl rfl) ?_
          refine r_d rfl rfl rfl (s_fieldRef rfl fl_constraintref41_form_1 rfl) ?_
          refine r_r rfl rfl rfl (t_loadRef rfl rfl (.head _) rfl rfl (by exact ty_L_int) rfl) ?_
          refine r_d rfl rfl rfl (m_len (f := (D.int .i64)) c_0_1 rfl el_L_int rfl (asl rfl)) ?_
          refine r_d rfl rfl rfl (s_cmp rfl rfl rfl rfl) ?_
          refine r_end ?_
          refine g_known 49 false rfl ht2 ?_
          refine g_condF rfl ?_
          refine g_exit rfl ?_
          refine g_sub [(0, .ref b_o0 0 []), (2, .int .i64 factor_a2), (5, .ptr (encT t_a1))] (Sub.cons' rfl (Sub.cons' rfl (Sub.cons' rfl (Sub.nil _)))) ?_
          exact HK2 _ _ ⟨u_34, u_35, rfl, rfl, hr⟩
        ·
          rw [hd2, lf_Pconstraintref41_form_add_s1_L2] at hr
          refine g_seq ?_
          refine g_seq ?_
          refine g_run (by kernel_rfl) [(0, .d), (1, .d), (2, .d), (3, .d), (4, .r), (5, .d), (6, .d)] rfl ?_
          refine r_d rfl rfl rfl (s_move rfl rfl) ?_
          refine r_d rfl rfl rfl (s_move rfl rfl) ?_
          refine r_d rfl rfl rfl (s_nilCheckR rfl rfl) ?_
          refine r_d rfl rfl rfl (s_fieldRef rfl fl_constraintref41_form_1 rfl) ?_
          refine r_r rfl rfl rfl (t_loadRef rfl rfl (.head _) rfl rfl (by exact ty_L_int) rfl) ?_
          refine r_d rfl rfl rfl (m_len (f := (D.int .i64)) c_0_1 rfl el_L_int rfl (asl rfl)) ?_
          refine r_d rfl rfl rfl (s_cmp rfl rfl rfl rfl) ?_
          refine r_end ?_
          refine g_known 49 true rfl ht2 ?_
          refine g_condT rfl ?_
          refine g_skip ?_
          refine g_seq ?_
          refine g_block ?_
          refine g_seq ?_
          refine g_any (by kernel_rfl) (by kernel_rfl) [(0, .d), (1, .d), (2, .d), (3, .r), (4, .d), (5, .d), (6, .d), (7, .d), (8, .d), (9, .d)] (by kernel_rfl) ?_
          refine r_d rfl rfl rfl (s_move rfl rfl) ?_
          refine r_d rfl rfl rfl (s_nilCheckR rfl rfl) ?_
          refine r_d rfl rfl rfl (s_fieldRef rfl fl_constraintref41_form_1 rfl) ?_
          refine r_r rfl rfl rfl (t_loadRef rfl rfl (.head _) rfl rfl (by exact ty_L_int) rfl) ?_
          refine r_d rfl rfl rfl (s_move rfl rfl) ?_
          refine r_d rfl rfl rfl (m_index (f := (D.int .i64)) c_0_1 rfl el_L_int rfl (asl rfl) rfl hq2 (fun _ => rfl) rfl) ?_
          refine r_d rfl rfl rfl (s_load rfl rfl (by exact ty_int) rfl) ?_
          refine r_d rfl rfl rfl (s_fieldAddr rfl fl_api_Term_1 rfl (fsT_get1 _) (fsT_off1 _) rfl) ?_
          refine r_d rfl rfl rfl (s_load rfl rfl (by exact ty_int) rfl) ?_
          refine r_d rfl rfl rfl (s_cmp rfl rfl rfl rfl) ?_
          refine r_end ?_
          refine g_sB 61 rfl hr (fun h61_43 hr => ?_) (fun h61_43 hr => ?_)
          ·
            refine g_condT rfl ?_
            refine g_seq ?_
            refine g_run (by kernel_rfl) [(0, .d), (1, .d), (2, .d), (3, .r), (4, .d), (5, .r), (6, .r), (7, .d), (8, .d), (9, .r), (10, .w)] rfl ?_
            refine r_d rfl rfl rfl (s_move rfl rfl) ?_
            refine r_d rfl rfl rfl (s_nilCheckR rfl rfl) ?_
            refine r_d rfl rfl rfl (s_fieldRef rfl fl_constraintref41_form_2 rfl) ?_
            refine r_r rfl rfl rfl (t_loadRef rfl rfl (.head _) rfl rfl (by exact ty_L_int) rfl) ?_
            refine r_d rfl rfl rfl (s_move rfl rfl) ?_
            obtain ⟨q_45, hq_45, hr⟩ := bindS hr
            have hq_45_n := (getI_some hq_45).2
            refine r_r rfl rfl rfl (m_indexVec (f := (D.int .i64)) c_0_2 rfl el_L_int rfl rfl hq_45 (.tail _ (.tail _ (.head _)))) ?_
            refine r_r rfl rfl rfl (t_loadV rfl rfl (.tail _ (.tail _ (.head _))) (getm hq_45_n) rfl rfl (by exact ty_int) rfl) ?_
            refine r_d rfl rfl rfl (s_move rfl rfl) ?_
            refine r_d rfl rfl rfl (s_arW rfl rfl rfl rfl) ?_
            have hq_45_n := (getI_some hq_45).2
            refine r_r rfl rfl rfl (m_indexVec (f := (D.int .i64)) c_0_2 rfl el_L_int rfl rfl hq_45 (.tail _ (.tail _ (.head _)))) ?_
            refine r_w01 rfl rfl rfl (t_storeV _ rfl rfl rfl (Wk.refl _) (pf2 _ _ _ _) (getm hq_45_n) rfl rfl rfl (by exact ty_int) rfl rfl rfl) ?_
            refine r_st [.vec u_35 ((c_0_2.set (i_36 : Int).toNat (wr (q_45 + factor_a2))).map (D.int .i64)) 3 1, .cell b_o0 (.agg [.int .i64 c_0_0, .own u_34 (c_0_1.map (D.int .i64)), .vec u_35 (c_0_2.set (i_36 : Int).toNat (wr (q_45 + factor_a2))).length]), .row u_34 c_0_1.length 3 1] (by simp [List.map_set, setD_nil]) ?_
            refine r_end ?_
            refine g_perm [_, _, _] _ (((pf0 _).trans (pf2 _ _ _ _)).trans (pf2 _ _ _ _)) ?_
            obtain rfl := Option.some.inj hr
            refine g_ret Try.func51 _ .nil ?_
            exact ⟨u_34, u_35, rfl, rfl⟩
          ·
            refine g_condF rfl ?_
            refine g_skip ?_
            refine g_inBlock ?_
            refine g_run (by kernel_rfl) [(0, .d), (1, .d), (2, .d)] rfl ?_
            refine r_d rfl rfl rfl (s_move rfl rfl) ?_
            refine r_d rfl rfl rfl (s_ar (r := ((i_36 + 1 : Nat) : Int)) rfl rfl rfl (by simp [iar]) (by omega)) ?_
            refine r_d rfl rfl rfl (s_assign rfl rfl) ?_
            refine r_end ?_
            refine g_sub [(0, .ref b_o0 0 []), (2, .int .i64 factor_a2), (5, .ptr (encT t_a1)), (9, .int .i64 ((i_36 + 1 : Nat) : Int))] (Sub.cons' rfl (Sub.cons' rfl (Sub.cons' rfl (Sub.cons' rfl (Sub.nil _))))) ?_
            exact IH2 _ _ _ (by omega) ⟨(i_36 + 1), u_34, u_35, rfl, rfl, rfl, (by omega), hr⟩
theorem lg_Pconstraintref41_form_add_s1 : ∀ (fuel : Nat) (t_a1 : T) (factor_a2 : Int) (ones_a3 : (List Int)) (c_0_0 : Int) (c_0_1 : (List Int)) (c_0_2 : (List Int)) (b_o0 : Nat) (u_o1 : Value) (u_o2 : Value) (res : Int × (List Int) × (List Int)), lf_Pconstraintref41_form_add_s1 fuel t_a1 factor_a2 ones_a3 c_0_0 c_0_1 c_0_2 = some res → Spec Try.prog 51 [.ref b_o0 0 [], encT t_a1, .int .i64 factor_a2, .lst (ones_a3.map (D.int .i64))] [.cell b_o0 (.agg [.int .i64 c_0_0, .own u_o1 (c_0_1.map (D.int .i64)), .vec u_o2 c_0_2.length]), .row u_o1 c_0_1.length 3 1, .vec u_o2 (c_0_2.map (D.int .i64)) 3 1] (fun d σ => ∃ (u_o1' : Value) (u_o2' : Value), d = .tup [] ∧ σ = [.cell b_o0 (.agg [.int .i64 res.1, .own u_o1' (res.2.1.map (D.int .i64)), .vec u_o2' res.2.2.length]), .row u_o1' res.2.1.length 3 1, .vec u_o2' (res.2.2.map (D.int .i64)) 3 1])
  | 0, _, _, _, _, _, _, _, _, _, _, h => by cases h
  | fuel + 1, t_a1, factor_a2, ones_a3, c_0_0, c_0_1, c_0_2, b_o0, u_o1, u_o2, res, h => lgs_Pconstraintref41_form_add_s1 fuel (lf_Pconstraintref41_form_add_s1 fuel) (lg_Pconstraintref41_form_add_s1 fuel) t_a1 factor_a2 ones_a3 c_0_0 c_0_1 c_0_2 b_o0 u_o1 u_o2 res h

noncomputable def lf_Pconstraintref41_form_put_s1_L0 (k : (Int) → ((List Int)) → ((List Int)) → Option (Bool × Int × (List Int) × (List Int))) (fuel : Nat) (ones_a4 : (List Int)) (r_1 : S_api_Rank × Bool) (sign_a3 : Int) : List T → Nat → Int → (List Int) → (List Int) → Option (Bool × Int × (List Int) × (List Int))
  | [], i_10, f_11, f_12, f_13 =>
  (k f_11 f_12 f_13)
  | q_19 :: rest, i_10, f_11, f_12, f_13 =>
  ((getI r_1.1.f2_Factors (i_10 : Int)).bind fun q_20 =>
  ((lf_Pconstraintref41_form_add_s1 fuel q_19 (wr (sign_a3 * q_20)) ones_a4 f_11 f_12 f_13).bind fun r_21 =>
  (lf_Pconstraintref41_form_put_s1_L0 k fuel ones_a4 r_1 sign_a3 rest (i_10 + 1) r_21.1 r_21.2.1 r_21.2.2)))
noncomputable def lf_Pconstraintref41_form_put_s1 (fuel : Nat) (ranks_a1 : (List S_api_Rank)) (a_a2 : At) (sign_a3 : Int) (ones_a4 : (List Int)) (c_0_0 : Int) (c_0_1 : (List Int)) (c_0_2 : (List Int)) : Option (Bool × Int × (List Int) × (List Int)) :=
  ((lf_constraintref41_find ranks_a1 a_a2.n (a_a2.ts.length : Int)).bind fun r_1 =>
  (bif (!r_1.2) then
  some (false, c_0_0, c_0_1, c_0_2)
  else
  ((lf_constraintref41_right r_1.1).bind fun r_4 =>
  (bif (!r_4) then
  some (false, c_0_0, c_0_1, c_0_2)
  else
  ((x_rightA a_a2).bind fun r_6 =>
  (bif (!r_6) then
  some (false, c_0_0, c_0_1, c_0_2)
  else
  (lf_Pconstraintref41_form_put_s1_L0 (fun f_16 f_17 f_18 =>
  some (true, f_16, f_17, f_18)) fuel ones_a4 r_1 sign_a3 a_a2.ts 0 (wr (c_0_0 + (wr (sign_a3 * r_1.1.f1_Const)))) c_0_1 c_0_2)))))))

set_option maxHeartbeats 1000000 in
theorem lg_Pconstraintref41_form_put_s1 (fuel : Nat) (ranks_a1 : (List S_api_Rank)) (a_a2 : At) (sign_a3 : Int) (ones_a4 : (List Int)) (c_0_0 : Int) (c_0_1 : (List Int)) (c_0_2 : (List Int)) (b_o0 : Nat) (u_o1 : Value) (u_o2 : Value) (res : Bool × Int × (List Int) × (List Int)) (hr : lf_Pconstraintref41_form_put_s1 fuel ranks_a1 a_a2 sign_a3 ones_a4 c_0_0 c_0_1 c_0_2 = some res) : Spec Try.prog 34 [.ref b_o0 0 [], .lst (ranks_a1.map enc_S_api_Rank), encA a_a2, .int .i64 sign_a3, .lst (ones_a4.map (D.int .i64))] [.cell b_o0 (.agg [.int .i64 c_0_0, .own u_o1 (c_0_1.map (D.int .i64)), .vec u_o2 c_0_2.length]), .row u_o1 c_0_1.length 3 1, .vec u_o2 (c_0_2.map (D.int .i64)) 3 1] (fun d σ => ∃ (u_o1' : Value) (u_o2' : Value), d = .bool res.1 ∧ σ = [.cell b_o0 (.agg [.int .i64 res.2.1, .own u_o1' (res.2.2.1.map (D.int .i64)), .vec u_o2' res.2.2.2.length]), .row u_o1' res.2.2.1.length 3 1, .vec u_o2' (res.2.2.2.map (D.int .i64)) 3 1]) := by
  unfold lf_Pconstraintref41_form_put_s1 at hr
  refine spec_env [(0, .ref b_o0 0 []), (1, .lst (ranks_a1.map enc_S_api_Rank)), (2, encA a_a2), (3, .int .i64 sign_a3), (4, .lst (ones_a4.map (D.int .i64)))] Try.func34 rfl rfl fun K hK => ?_
  refine g_seq ?_
  refine g_run (by kernel_rfl) [(0, .d), (1, .d)] rfl ?_
  refine r_d rfl rfl rfl (s_box rfl rfl rfl) ?_
  refine r_d rfl rfl rfl (s_assign rfl rfl) ?_
  refine r_end ?_
  refine g_seq ?_
  refine g_run (by kernel_rfl) [(0, .d), (1, .d), (2, .d), (3, .d), (4, .d), (5, .d), (6, .d), (7, .d), (8, .d), (9, .d), (10, .w), (11, .w), (12, .d)] rfl ?_
  refine r_d rfl rfl rfl (s_move rfl rfl) ?_
  refine r_d rfl rfl rfl (s_fieldAddr rfl fl_api_Atom_0 rfl rfl rfl rfl) ?_
  refine r_d rfl rfl rfl (s_load rfl rfl (by exact ty_string) rfl) ?_
  refine r_d rfl rfl rfl (s_fieldAddr rfl fl_api_Atom_1 rfl rfl rfl rfl) ?_
  refine r_d rfl rfl rfl (s_load rfl rfl (by exact ty_L_api_Term) rfl) ?_
  refine r_d rfl rfl rfl (m_len (f := encT) a_a2.ts rfl el_L_api_Term rfl (asl rfl)) ?_
  obtain ⟨r_1, hr_1, hr⟩ := bindS hr
  refine r_d rfl rfl rfl (s_callD rfl cl_constraintref41_find (.cons rfl (Wk.refl _) (.cons rfl (Wk.refl _) (.cons rfl (Wk.refl _) .nil))) (lg_constraintref41_find _ _ _ _ hr_1)) ?_
  refine r_d rfl rfl rfl (s_move rfl rfl) ?_
  refine r_d rfl rfl rfl (s_extract rfl rfl rfl) ?_
  refine r_d rfl rfl rfl (s_extract rfl rfl rfl) ?_
  refine r_w rfl rfl rfl (s_alloc rfl zv_api_Rank) ?_
  rintro _ _ ⟨b11_1, rfl, rfl⟩
  refine r_w01 rfl rfl rfl (t_store0 _ rfl rfl rfl (Wk.refl _) (pf0 _) (by exact ty_api_Rank) (sz_S_api_Rank _) rfl rfl) ?_
  refine r_d rfl rfl rfl (s_assign rfl rfl) ?_
  refine r_end ?_
  refine g_freeze 11 b11_1 rfl (pf0 _) ?_
  refine g_seq ?_
  refine g_seq ?_
  refine g_run (by kernel_rfl) [(0, .d), (1, .d), (2, .d), (3, .d), (4, .d), (5, .d), (6, .d), (7, .d), (8, .d), (9, .d), (10, .d), (11, .d)] rfl ?_
  refine r_d rfl rfl rfl (s_move rfl rfl) ?_
  refine r_d rfl rfl rfl (s_not rfl rfl) ?_
  refine r_d rfl rfl rfl (s_move rfl rfl) ?_
  refine r_sB 26 rfl hr (fun h26_2 hr => ?_) (fun h26_2 hr => ?_)
  ·
    refine r_skip rfl rfl rfl ?_
    refine r_skip rfl rfl rfl ?_
    refine r_skip rfl rfl rfl ?_
    refine r_d rfl rfl rfl (s_pickT rfl rfl rfl) ?_
    refine r_d rfl rfl rfl (s_move rfl rfl) ?_
    refine r_skip rfl rfl rfl ?_
    refine r_skip rfl rfl rfl ?_
    refine r_skip rfl rfl rfl ?_
    refine r_d rfl rfl rfl (s_pickT rfl rfl rfl) ?_
    refine r_end ?_
    refine g_condT rfl ?_
    refine g_seq ?_
    refine g_run (by kernel_rfl) [(0, .d)] rfl ?_
    refine r_d rfl rfl rfl (s_assign rfl rfl) ?_
    refine r_end ?_
    obtain rfl := Option.some.inj hr
    refine g_ret Try.func34 _ (.cons (resTmp rfl (Wk.refl _)) .nil) ?_
    exact ⟨u_o1, u_o2, rfl, rfl⟩
  ·
    refine r_d rfl rfl rfl (s_load rfl rfl (by exact ty_api_Rank) (sz_S_api_Rank _)) ?_
    obtain ⟨r_4, hr_4, hr⟩ := bindS hr
    refine r_d rfl rfl rfl (s_callD rfl cl_constraintref41_right (.cons rfl (Wk.refl _) .nil) (lg_constraintref41_right _ _ hr_4)) ?_
    refine r_d rfl rfl rfl (s_not rfl rfl) ?_
    refine r_d rfl rfl rfl (s_pickF rfl rfl rfl) ?_
    refine r_d rfl rfl rfl (s_move rfl rfl) ?_
    refine r_sB 31 rfl hr (fun h31_4 hr => ?_) (fun h31_4 hr => ?_)
    ·
      refine r_skip rfl rfl rfl ?_
      refine r_skip rfl rfl rfl ?_
      refine r_skip rfl rfl rfl ?_
      refine r_d rfl rfl rfl (s_pickT rfl rfl rfl) ?_
      refine r_end ?_
      refine g_condT rfl ?_
      refine g_seq ?_
      refine g_run (by kernel_rfl) [(0, .d)] rfl ?_
      refine r_d rfl rfl rfl (s_assign rfl rfl) ?_
      refine r_end ?_
      obtain rfl := Option.some.inj hr
      refine g_ret Try.func34 _ (.cons (resTmp rfl (Wk.refl _)) .nil) ?_
      exact ⟨u_o1, u_o2, rfl, rfl⟩
    ·
      refine r_d rfl rfl rfl (s_load rfl rfl (by exact ty_api_Atom) (sz_encA _)) ?_
      obtain ⟨r_6, hr_6, hr⟩ := bindS hr
      refine r_d rfl rfl rfl (s_callD rfl cl_constraintref03_RightAtom (.cons rfl (Wk.refl _) .nil) (lx_constraintref03_RightAtom _ _ hr_6)) ?_
      refine r_d rfl rfl rfl (s_not rfl rfl) ?_
      refine r_d rfl rfl rfl (s_pickF rfl rfl rfl) ?_
      refine r_end ?_
      refine g_sB 35 rfl hr (fun h35_6 hr => ?_) (fun h35_6 hr => ?_)
      ·
        refine g_condT rfl ?_
        refine g_seq ?_
        refine g_run (by kernel_rfl) [(0, .d)] rfl ?_
        refine r_d rfl rfl rfl (s_assign rfl rfl) ?_
        refine r_end ?_
        obtain rfl := Option.some.inj hr
        refine g_ret Try.func34 _ (.cons (resTmp rfl (Wk.refl _)) .nil) ?_
        exact ⟨u_o1, u_o2, rfl, rfl⟩
      ·
        refine g_condF rfl ?_
        refine g_skip ?_
        refine g_seq ?_
        refine g_any (by kernel_rfl) (by kernel_rfl) [(0, .d), (1, .d), (2, .d), (3, .r), (4, .d), (5, .d), (6, .d), (7, .d), (8, .d), (9, .d), (10, .d), (11, .w)] (by kernel_rfl) ?_
        refine r_d rfl rfl rfl (s_move rfl rfl) ?_
        refine r_d rfl rfl rfl (s_nilCheckR rfl rfl) ?_
        refine r_d rfl rfl rfl (s_fieldRef rfl fl_constraintref41_form_0 rfl) ?_
        refine r_r rfl rfl rfl (t_loadRef rfl rfl (.head _) rfl rfl (by exact ty_int) rfl) ?_
        refine r_d rfl rfl rfl (s_move rfl rfl) ?_
        refine r_d rfl rfl rfl (s_fieldAddr rfl fl_api_Rank_1 rfl rfl rfl rfl) ?_
        refine r_d rfl rfl rfl (s_load rfl rfl (by exact ty_int) rfl) ?_
        refine r_d rfl rfl rfl (s_arW rfl rfl rfl rfl) ?_
        refine r_d rfl rfl rfl (s_arW rfl rfl rfl rfl) ?_
        refine r_d rfl rfl rfl (s_nilCheckR rfl rfl) ?_
        refine r_d rfl rfl rfl (s_fieldRef rfl fl_constraintref41_form_0 rfl) ?_
        refine r_w01 rfl rfl rfl (t_store _ rfl rfl rfl (Wk.refl _) (pf0 _) rfl rfl (by exact ty_int) rfl rfl rfl) ?_
        refine r_end ?_
        refine g_seq ?_
        refine g_seq ?_
        refine g_run (by kernel_rfl) [(0, .d)] rfl ?_
        refine r_d rfl rfl rfl (s_assign rfl rfl) ?_
        refine r_end ?_
        obtain ⟨kk0, hkk0, hr⟩ := exK (fun k => lf_Pconstraintref41_form_put_s1_L0 k fuel ones_a4 r_1 sign_a3 a_a2.ts 0 (wr (c_0_0 + (wr (sign_a3 * r_1.1.f1_Const)))) c_0_1 c_0_2) hr
        refine g_len 19 rfl (asl rfl) fun hla0 => ?_
        simp only [List.length_map] at hla0
        refine g_blockJ (fun env σ => ∃ (f_16 : Int) (f_17 : (List Int)) (f_18 : (List Int)) (u_14 : Value) (u_15 : Value), env = [] ∧ σ = [.cell b_o0 (.agg [.int .i64 f_16, .own u_14 (f_17.map (D.int .i64)), .vec u_15 f_18.length]), .row u_14 f_17.length 3 1, .vec u_15 (f_18.map (D.int .i64)) 3 1] ∧ kk0 f_16 f_17 f_18 = some res) ?_ (fun HK0 => ?_)
        ·
          rintro _ _ ⟨f_16, f_17, f_18, u_14, u_15, rfl, rfl, hr⟩
          rw [hkk0] at hr
          refine g_seq ?_
          refine g_run (by kernel_rfl) [(0, .d)] rfl ?_
          refine r_d rfl rfl rfl (s_assign rfl rfl) ?_
          refine r_end ?_
          obtain rfl := Option.some.inj hr
          refine g_ret Try.func34 _ (.cons (resTmp rfl (Wk.refl _)) .nil) ?_
          exact ⟨u_14, u_15, rfl, rfl⟩
        ·
          refine g_sub [(0, .ref b_o0 0 []), (3, .int .i64 sign_a3), (4, .lst (ones_a4.map (D.int .i64))), (7, .ptr (encA a_a2)), (11, .ptr (enc_S_api_Rank r_1.1)), (13, .int .i64 ((0 : Nat) : Int))] (Sub.cons' rfl (Sub.cons' rfl (Sub.cons' rfl (Sub.cons' rfl (Sub.cons' rfl (Sub.cons' rfl (Sub.nil _))))))) ?_
          refine g_loop (fun n env σ => ∃ (i_10 : Nat) (f_11 : Int) (f_12 : (List Int)) (f_13 : (List Int)) (u_8 : Value) (u_9 : Value), (n = a_a2.ts.length - i_10) ∧ (env = [(0, .ref b_o0 0 []), (3, .int .i64 sign_a3), (4, .lst (ones_a4.map (D.int .i64))), (7, .ptr (encA a_a2)), (11, .ptr (enc_S_api_Rank r_1.1)), (13, .int .i64 (i_10 : Int))]) ∧ (σ = [.cell b_o0 (.agg [.int .i64 f_11, .own u_8 (f_12.map (D.int .i64)), .vec u_9 f_13.length]), .row u_8 f_12.length 3 1, .vec u_9 (f_13.map (D.int .i64)) 3 1]) ∧ (i_10 ≤ a_a2.ts.length) ∧ (lf_Pconstraintref41_form_put_s1_L0 kk0 fuel ones_a4 r_1 sign_a3 (a_a2.ts.drop i_10) i_10 f_11 f_12 f_13 = some res)) _ ⟨0, (wr (c_0_0 + (wr (sign_a3 * r_1.1.f1_Const)))), c_0_1, c_0_2, u_o1, u_o2, rfl, rfl, rfl, Nat.zero_le _, hr⟩ ?_
          rintro n _ _ ⟨i_10, f_11, f_12, f_13, u_8, u_9, rfl, rfl, rfl, hi0, hr⟩ IH0
          rcases listStep a_a2.ts i_10 hi0 with ⟨ht0, hd0, he0⟩ | ⟨q_19, ht0, hd0, hq0, hlt0⟩
          ·
            rw [hd0, lf_Pconstraintref41_form_put_s1_L0] at hr
            refine g_seq ?_
            refine g_seq ?_
            refine g_run (by kernel_rfl) [(0, .d), (1, .d), (2, .d), (3, .d), (4, .d)] rfl ?_
            refine r_d rfl rfl rfl (s_move rfl rfl) ?_
            refine r_d rfl rfl rfl (s_fieldAddr rfl fl_api_Atom_1 rfl rfl rfl rfl) ?_
            refine r_d rfl rfl rfl (s_load rfl rfl (by exact ty_L_api_Term) rfl) ?_
            refine r_d rfl rfl rfl (m_len (f := encT) a_a2.ts rfl el_L_api_Term rfl (asl rfl)) ?_
            refine r_d rfl rfl rfl (s_cmp rfl rfl rfl rfl) ?_
            refine r_end ?_
            refine g_known 51 false rfl ht0 ?_
            refine g_condF rfl ?_
            refine g_exit rfl ?_
            refine g_sub [] (Sub.nil _) ?_
            exact HK0 _ _ ⟨f_11, f_12, f_13, u_8, u_9, rfl, rfl, hr⟩
          ·
            rw [hd0, lf_Pconstraintref41_form_put_s1_L0] at hr
            refine g_seq ?_
            refine g_seq ?_
            refine g_run (by kernel_rfl) [(0, .d), (1, .d), (2, .d), (3, .d), (4, .d)] rfl ?_
            refine r_d rfl rfl rfl (s_move rfl rfl) ?_
            refine r_d rfl rfl rfl (s_fieldAddr rfl fl_api_Atom_1 rfl rfl rfl rfl) ?_
            refine r_d rfl rfl rfl (s_load rfl rfl (by exact ty_L_api_Term) rfl) ?_
            refine r_d rfl rfl rfl (m_len (f := encT) a_a2.ts rfl el_L_api_Term rfl (asl rfl)) ?_
            refine r_d rfl rfl rfl (s_cmp rfl rfl rfl rfl) ?_
            refine r_end ?_
            refine g_known 51 true rfl ht0 ?_
            refine g_condT rfl ?_
            refine g_skip ?_
            refine g_seq ?_
            refine g_block ?_
            refine g_any (by kernel_rfl) (by kernel_rfl) [(0, .d), (1, .d), (2, .d), (3, .d), (4, .d), (5, .d), (6, .d), (7, .d), (8, .d), (9, .d), (10, .d), (11, .d), (12, .d), (13, .d), (14, .w)] (by kernel_rfl) ?_
            refine r_d rfl rfl rfl (s_move rfl rfl) ?_
            refine r_d rfl rfl rfl (s_fieldAddr rfl fl_api_Atom_1 rfl rfl rfl rfl) ?_
            refine r_d rfl rfl rfl (s_load rfl rfl (by exact ty_L_api_Term) rfl) ?_
            refine r_d rfl rfl rfl (s_move rfl rfl) ?_
            refine r_d rfl rfl rfl (m_index (f := encT) a_a2.ts rfl el_L_api_Term rfl (asl rfl) rfl hq0 sz_encT rfl) ?_
            refine r_d rfl rfl rfl (s_load rfl rfl (by exact ty_api_Term) (sz_encT _)) ?_
            refine r_d rfl rfl rfl (s_move rfl rfl) ?_
            refine r_d rfl rfl rfl (s_fieldAddr rfl fl_api_Rank_2 rfl rfl rfl rfl) ?_
            refine r_d rfl rfl rfl (s_load rfl rfl (by exact ty_L_int) rfl) ?_
            refine r_d rfl rfl rfl (s_move rfl rfl) ?_
            obtain ⟨q_20, hq_20, hr⟩ := bindS hr
            refine r_d rfl rfl rfl (m_index (f := (D.int .i64)) r_1.1.f2_Factors rfl el_L_int rfl (asl rfl) rfl hq_20 (fun _ => rfl) rfl) ?_
            refine r_d rfl rfl rfl (s_load rfl rfl (by exact ty_int) rfl) ?_
            refine r_d rfl rfl rfl (s_arW rfl rfl rfl rfl) ?_
            refine r_d rfl rfl rfl (s_move rfl rfl) ?_
            obtain ⟨r_21, hr_21, hr⟩ := bindS hr
            refine r_w rfl rfl rfl (s_call _ rfl cl_Pconstraintref41_form_add (.cons rfl (Wk.refl _) (.cons rfl (Wk.refl _) (.cons rfl (Wk.refl _) (.cons rfl (Wk.refl _) .nil)))) (by exact (((pf2 _ _ _ _).trans (pf2 _ _ _ _)).trans (pf2 _ _ _ _))) (lg_Pconstraintref41_form_add_s1 fuel _ _ _ _ _ _ _ _ _ _ hr_21)) ?_
            rintro _ _ ⟨_, ⟨u68_21, u68_22, rfl, rfl⟩, rfl⟩
            refine r_st ((.cell b_o0 (.agg [.int .i64 r_21.1, .own u68_21 (r_21.2.1.map (D.int .i64)), .vec u68_22 r_21.2.2.length])) :: (.row u68_21 r_21.2.1.length 3 1) :: (.vec u68_22 (r_21.2.2.map (D.int .i64)) 3 1) :: _) rfl ?_
            refine r_end ?_
            refine g_inBlock ?_
            refine g_run (by kernel_rfl) [(0, .d), (1, .d), (2, .d)] rfl ?_
            refine r_d rfl rfl rfl (s_move rfl rfl) ?_
            refine r_d rfl rfl rfl (s_ar (r := ((i_10 + 1 : Nat) : Int)) rfl rfl rfl (by simp [iar]) (by omega)) ?_
            refine r_d rfl rfl rfl (s_assign rfl rfl) ?_
            refine r_end ?_
            refine g_sub [(0, .ref b_o0 0 []), (3, .int .i64 sign_a3), (4, .lst (ones_a4.map (D.int .i64))), (7, .ptr (encA a_a2)), (11, .ptr (enc_S_api_Rank r_1.1)), (13, .int .i64 ((i_10 + 1 : Nat) : Int))] (Sub.cons' rfl (Sub.cons' rfl (Sub.cons' rfl (Sub.cons' rfl (Sub.cons' rfl (Sub.cons' rfl (Sub.nil _))))))) ?_
            exact IH0 _ _ _ (by omega) ⟨(i_10 + 1), r_21.1, r_21.2.1, r_21.2.2, u68_21, u68_22, rfl, rfl, rfl, (by omega), hr⟩

noncomputable def lf_constraintref41_Decreases_L6 (k : (Int) → Option (Bool)) : List Int → Int → Option (Bool)
  | [], n_59 =>
  (k n_59)
  | q_62 :: rest, n_59 =>
  (bif (decide (q_62 < (0 : Int))) then
  some (false)
  else
  (lf_constraintref41_Decreases_L6 k rest (wr (n_59 + q_62))))

noncomputable def lf_constraintref41_Decreases_L7 (k : Option (Bool)) (head_19 : (List Int)) (ones_27 : (List Int)) : List Int → Option (Bool)
  | [] =>
  k
  | q_81 :: rest =>
  ((lf_constraintref41_in head_19 q_81).bind fun r_82 =>
  (bif (!r_82) then
  ((lf_constraintref41_in ones_27 q_81).bind fun r_84 =>
  (bif (!r_84) then
  some (false)
  else
  (lf_constraintref41_Decreases_L7 k head_19 ones_27 rest)))
  else
  (lf_constraintref41_Decreases_L7 k head_19 ones_27 rest)))

noncomputable def lf_constraintref41_Decreases_L5 (k : (Int) → ((List Int)) → ((List Int)) → Option (Bool)) (fuel : Nat) (head_19 : (List Int)) (ones_27 : (List Int)) (ranks_a0 : (List S_api_Rank)) : List Gl → Int → (List Int) → (List Int) → Option (Bool)
  | [], f_49, f_50, f_51 =>
  (k f_49 f_50 f_51)
  | q_64 :: rest, f_49, f_50, f_51 =>
  (bif (q_64.op != (0 : Int)) then
  (lf_constraintref41_Decreases_L5 k fuel head_19 ones_27 ranks_a0 rest f_49 f_50 f_51)
  else
  ((lf_Pconstraintref41_form_put_s1 fuel ranks_a0 (⟨q_64.n, q_64.ts⟩ : At) (-1) ones_27 f_49 f_50 f_51).bind fun r_67 =>
  (bif (!r_67.1) then
  some (false)
  else
  ((lf_constraintref03_AtomVars fuel (⟨q_64.n, q_64.ts⟩ : At)).bind fun r_71 =>
  (lf_constraintref41_Decreases_L7 ((lf_constraintref41_Decreases_L5 k fuel head_19 ones_27 ranks_a0 rest r_67.2.1 r_67.2.2.1 r_67.2.2.2)) head_19 ones_27 r_71)))))

noncomputable def lf_constraintref41_Decreases_L4 (k : (Int) → ((List Int)) → ((List Int)) → Option (Bool)) (fuel : Nat) (ones_27 : (List Int)) (ranks_a0 : (List S_api_Rank)) : List At → Int → (List Int) → (List Int) → Option (Bool)
  | [], t128_34, t128_35, t128_36 =>
  (k t128_34 t128_35 t128_36)
  | q_86 :: rest, t128_34, t128_35, t128_36 =>
  ((lf_Pconstraintref41_form_put_s1 fuel ranks_a0 q_86 1 ones_27 t128_34 t128_35 t128_36).bind fun r_87 =>
  (bif (!r_87.1) then
  some (false)
  else
  (lf_constraintref41_Decreases_L4 k fuel ones_27 ranks_a0 rest r_87.2.1 r_87.2.2.1 r_87.2.2.2)))

noncomputable def lf_constraintref41_Decreases_L3 (k : ((List Int)) → Option (Bool)) (head_19 : (List Int)) : List Gl → (List Int) → Option (Bool)
  | [], ones_23 =>
  (k ones_23)
  | q_91 :: rest, ones_23 =>
  (bif (q_91.op == (4 : Int)) then
  (bif (decide ((q_91.ts.length : Int) > (0 : Int))) then
  ((getI q_91.ts 0).bind fun q_95 =>
  (bif (q_95.k == (1 : Int)) then
  ((lf_constraintref41_in head_19 q_95.i).bind fun r_97 =>
  (bif (!r_97) then
  ((appO 8 ones_23 [q_95.i]).bind fun l_99 =>
  (lf_constraintref41_Decreases_L3 k head_19 rest l_99))
  else
  (lf_constraintref41_Decreases_L3 k head_19 rest ones_23)))
  else
  (lf_constraintref41_Decreases_L3 k head_19 rest ones_23)))
  else
  (lf_constraintref41_Decreases_L3 k head_19 rest ones_23))
  else
  (lf_constraintref41_Decreases_L3 k head_19 rest ones_23))

noncomputable def lf_constraintref41_Decreases_L2 (k : ((List Int)) → Option (Bool)) (fuel : Nat) : List At → (List Int) → Option (Bool)
  | [], head_16 =>
  (k head_16)
  | q_101 :: rest, head_16 =>
  ((lf_constraintref03_AtomVars fuel q_101).bind fun r_102 =>
  ((appO 8 head_16 r_102).bind fun l_103 =>
  (lf_constraintref41_Decreases_L2 k fuel rest l_103)))

noncomputable def lf_constraintref41_Decreases_L1 (k : ((List Int)) → Option (Bool)) (fuel : Nat) : List At → (List Int) → Option (Bool)
  | [], head_9 =>
  (k head_9)
  | q_105 :: rest, head_9 =>
  ((lf_constraintref03_AtomVars fuel q_105).bind fun r_106 =>
  ((appO 8 head_9 r_106).bind fun l_107 =>
  (lf_constraintref41_Decreases_L1 k fuel rest l_107)))

noncomputable def lf_constraintref41_Decreases_L0 (k : (Int) → Option (Bool)) : List Gl → Int → Option (Bool)
  | [], calls_1 =>
  (k calls_1)
  | q_109 :: rest, calls_1 =>
  (bif (q_109.op == (3 : Int)) then
  some (false)
  else
  (bif (q_109.op == (0 : Int)) then
  (lf_constraintref41_Decreases_L0 k rest (wr (calls_1 + (1 : Int))))
  else
  (lf_constraintref41_Decreases_L0 k rest calls_1)))
noncomputable def lf_constraintref41_Decreases (fuel : Nat) (ranks_a0 : (List S_api_Rank)) (r_a1 : S_api_Rule) : Option (Bool) :=
  (lf_constraintref41_Decreases_L0 (fun calls_3 =>
  (bif ((r_a1.f2_Remove.length : Int) == (0 : Int)) then
  some ((calls_3 == (0 : Int)))
  else
  (lf_constraintref41_Decreases_L1 (fun head_12 =>
  (lf_constraintref41_Decreases_L2 (fun head_19 =>
  (lf_constraintref41_Decreases_L3 (fun ones_27 =>
  (lf_constraintref41_Decreases_L4 (fun t128_41 t128_42 t128_43 =>
  (lf_constraintref41_Decreases_L5 (fun f_54 f_55 f_56 =>
  (lf_constraintref41_Decreases_L6 (fun n_61 =>
  some ((decide (n_61 ≥ (1 : Int))))) f_56 f_54)) fuel head_19 ones_27 ranks_a0 r_a1.f4_Body t128_41 t128_42 t128_43)) fuel ones_27 ranks_a0 r_a1.f2_Remove 0 [] [])) head_19 r_a1.f4_Body [])) fuel r_a1.f2_Remove head_12)) fuel r_a1.f1_Keep []))) r_a1.f4_Body 0)

end Go.Proofs.Ytnlncgjlhnodgaa

