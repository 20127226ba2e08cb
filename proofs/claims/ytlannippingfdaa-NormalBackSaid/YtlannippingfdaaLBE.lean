/-
  Texts of the seat, merged.
-/
import Derived.Test.YtlannippingfdaaLBA
import Derived.Test.YtlannippingfdaaLBB
import Derived.Test.YtlannippingfdaaLBC
import Derived.Test.YtlannippingfdaaLBD
import Derived.Test.YtlannippingfdaaChecked
import Derived.WalkKit
import Derived.Lib.Hide
import Derived.Lib.AppendStr
import Derived.Deep.AppendLies
import Derived.Deep.AppendSrc
import Derived.Deep.Draws
import Derived.Deep.QuietTactic
import Derived.BigQuiet
import Derived.Deep.RegionWith
import Derived.Maps.AppendAt
import Derived.WalkSpells
import Derived.Deep.Slices
import Derived.Deep.Fields
import Derived.ChangeArms
import Derived.Orders
import Derived.RangeFuncNested
import Derived.RangeFuncBound
import Derived.RangeFuncCalls
import Derived.RangeFuncLeaves
import Derived.Shelf.Abstract
import Derived.OwnWalkIn
import Derived.TacticsInMore
import Derived.LoopNIn
import Derived.LoopIn
import Derived.Lib.OthersKept
import Derived.Lib.TrimU
import Derived.Lib.IndexAny
import Derived.Deep.LoopGhost
import Derived.Lib.Bytealg
import Derived.RangeFuncBox
import Derived.RangeFuncWrites
import Derived.Maps.OwnIn
import Derived.Maps.Views
import Derived.Laws.OwnMore
import Derived.Maps.OwnSet
import Derived.Test.YtlannippingfdaaRows
import Derived.ProofKit
import Derived.OpenShut
import Derived.Carry
import Derived.OrdersIn
import Derived.Great.BuildSlice
import Derived.ArgAppend
import Derived.Laws.MakeOwn
import Derived.Laws.Cover3
import Derived.Laws.CopyRow
import Derived.MapKept
import Derived.Maps.RangeRun
import Derived.DeepKeys5
import Derived.WideKeyRuns
set_option linter.unusedVariables false
set_option linter.unusedSimpArgs false
set_option linter.unnecessarySimpa false
set_option linter.all false

namespace Go.Proofs.Ytlannippingfdaa
set_option maxRecDepth 100000
open Go.RowKit

set_option maxHeartbeats 1000000 in
theorem lg_constraintref03_GreatRules (l_a0 : (List S_api_Rule)) (most_a1 : Int) (res : Bool) (hr : lf_constraintref03_GreatRules l_a0 most_a1 = some res) : Gives Try.prog 16 [.lst (l_a0.map enc_S_api_Rule), .int .i64 most_a1] (.bool res) := by
  unfold lf_constraintref03_GreatRules at hr
  refine spec_env [(0, .lst (l_a0.map enc_S_api_Rule)), (1, .int .i64 most_a1)] Try.func16 rfl rfl fun K hK => ?_
  refine g_seq ?_
  refine g_run (by kernel_rfl) [(0, .d)] rfl ?_
  refine r_d rfl rfl rfl (s_assign rfl rfl) ?_
  refine r_end ?_
  refine g_seq ?_
  refine g_seq ?_
  refine g_run (by kernel_rfl) [(0, .d)] rfl ?_
  refine r_d rfl rfl rfl (s_assign rfl rfl) ?_
  refine r_end ?_
  obtain ⟨kk0, hkk0, hr⟩ := exK (fun k => lf_constraintref03_GreatRules_L0 k l_a0 most_a1 l_a0) hr
  refine g_len 0 rfl (asl rfl) fun hla0 => ?_
  simp only [List.length_map] at hla0
  refine g_blockJ (fun env σ => env = [] ∧ σ = [] ∧ kk0 = some res) ?_ (fun HK0 => ?_)
  ·
   rintro _ _ ⟨rfl, rfl, hr⟩
   rw [hkk0] at hr
   refine g_seq ?_
   refine g_run (by kernel_rfl) [(0, .d)] rfl ?_
   refine r_d rfl rfl rfl (s_assign rfl rfl) ?_
   refine r_end ?_
   obtain rfl := Option.some.inj hr
   refine g_ret Try.func16 _ (.cons (resTmp rfl (Wk.refl _)) .nil) ?_
   rfl
  ·
   refine g_sub [(0, .lst (l_a0.map enc_S_api_Rule)), (1, .int .i64 most_a1), (5, .int .i64 ((0 : Nat) : Int))] (Sub.cons' rfl (Sub.cons' rfl (Sub.cons' rfl (Sub.nil _)))) ?_
   refine g_loop (fun n env σ => ∃ (i_1 : Nat), (n = l_a0.length - i_1) ∧ (env = [(0, .lst (l_a0.map enc_S_api_Rule)), (1, .int .i64 most_a1), (5, .int .i64 (i_1 : Int))]) ∧ (σ = []) ∧ (i_1 ≤ l_a0.length) ∧ (lf_constraintref03_GreatRules_L0 kk0 l_a0 most_a1 (l_a0.drop i_1) = some res)) _ ⟨0, rfl, rfl, rfl, Nat.zero_le _, hr⟩ ?_
   rintro n _ _ ⟨i_1, rfl, rfl, rfl, hi0, hr⟩ IH0
   rcases listStep l_a0 i_1 hi0 with ⟨ht0, hd0, he0⟩ | ⟨q_2, ht0, hd0, hq0, hlt0⟩
   ·
    rw [hd0, lf_constraintref03_GreatRules_L0] at hr
    refine g_seq ?_
    refine g_seq ?_
    refine g_run (by kernel_rfl) [(0, .d), (1, .d), (2, .d), (3, .d)] rfl ?_
    refine r_d rfl rfl rfl (s_move rfl rfl) ?_
    refine r_d rfl rfl rfl (s_move rfl rfl) ?_
    refine r_d rfl rfl rfl (m_len (f := enc_S_api_Rule) l_a0 rfl el_L_api_Rule rfl (asl rfl)) ?_
    refine r_d rfl rfl rfl (s_cmp rfl rfl rfl rfl) ?_
    refine r_end ?_
    refine g_known 10 false rfl ht0 ?_
    refine g_condF rfl ?_
    refine g_exit rfl ?_
    refine g_sub [] (Sub.nil _) ?_
    exact HK0 _ _ ⟨rfl, rfl, hr⟩
   ·
    rw [hd0, lf_constraintref03_GreatRules_L0] at hr
    refine g_seq ?_
    refine g_seq ?_
    refine g_run (by kernel_rfl) [(0, .d), (1, .d), (2, .d), (3, .d)] rfl ?_
    refine r_d rfl rfl rfl (s_move rfl rfl) ?_
    refine r_d rfl rfl rfl (s_move rfl rfl) ?_
    refine r_d rfl rfl rfl (m_len (f := enc_S_api_Rule) l_a0 rfl el_L_api_Rule rfl (asl rfl)) ?_
    refine r_d rfl rfl rfl (s_cmp rfl rfl rfl rfl) ?_
    refine r_end ?_
    refine g_known 10 true rfl ht0 ?_
    refine g_condT rfl ?_
    refine g_skip ?_
    refine g_seq ?_
    refine g_block ?_
    refine g_seq ?_
    refine g_run (by kernel_rfl) [(0, .d), (1, .d), (2, .d), (3, .d), (4, .w), (5, .w)] rfl ?_
    refine r_d rfl rfl rfl (s_move rfl rfl) ?_
    refine r_d rfl rfl rfl (s_move rfl rfl) ?_
    refine r_d rfl rfl rfl (m_index (f := enc_S_api_Rule) l_a0 rfl el_L_api_Rule rfl (asl rfl) rfl hq0 sz_S_api_Rule rfl) ?_
    refine r_d rfl rfl rfl (s_load rfl rfl (by exact ty_api_Rule) (sz_S_api_Rule _)) ?_
    refine r_w rfl rfl rfl (s_alloc rfl zv_api_Rule) ?_
    rintro _ _ ⟨b6_2, rfl, rfl⟩
    refine r_w01 rfl rfl rfl (t_store0 _ rfl rfl rfl (Wk.refl _) (pf0 _) (by exact ty_api_Rule) (sz_S_api_Rule _) rfl rfl) ?_
    refine r_end ?_
    refine g_freeze 6 b6_2 rfl (pf0 _) ?_
    refine g_seq ?_
    refine g_run (by kernel_rfl) [(0, .d), (1, .d), (2, .d), (3, .d), (4, .d), (5, .d), (6, .d), (7, .d), (8, .d), (9, .d), (10, .d), (11, .d), (12, .d), (13, .d), (14, .d), (15, .d), (16, .d), (17, .d), (18, .d), (19, .d), (20, .d), (21, .d), (22, .d), (23, .d), (24, .d), (25, .d), (26, .d), (27, .d), (28, .d), (29, .d), (30, .d), (31, .d), (32, .d), (33, .d), (34, .d), (35, .d), (36, .d), (37, .d), (38, .d), (39, .d), (40, .d), (41, .d), (42, .d), (43, .d)] rfl ?_
    refine r_d rfl rfl rfl (s_move rfl rfl) ?_
    refine r_d rfl rfl rfl (m_len (f := enc_S_api_Rule) l_a0 rfl el_L_api_Rule rfl (asl rfl)) ?_
    refine r_d rfl rfl rfl (s_move rfl rfl) ?_
    refine r_d rfl rfl rfl (s_cmp rfl rfl rfl rfl) ?_
    refine r_d rfl rfl rfl (s_move rfl rfl) ?_
    refine r_sB 21 rfl hr (fun h21_3 hr => ?_) (fun h21_3 hr => ?_)
    ·
     refine r_skip rfl rfl rfl ?_
     refine r_skip rfl rfl rfl ?_
     refine r_skip rfl rfl rfl ?_
     refine r_skip rfl rfl rfl ?_
     refine r_skip rfl rfl rfl ?_
     refine r_skip rfl rfl rfl ?_
     refine r_skip rfl rfl rfl ?_
     refine r_skip rfl rfl rfl ?_
     refine r_skip rfl rfl rfl ?_
     refine r_skip rfl rfl rfl ?_
     refine r_skip rfl rfl rfl ?_
     refine r_skip rfl rfl rfl ?_
     refine r_skip rfl rfl rfl ?_
     refine r_skip rfl rfl rfl ?_
     refine r_d rfl rfl rfl (s_pickT rfl rfl rfl) ?_
     refine r_d rfl rfl rfl (s_move rfl rfl) ?_
     refine r_skip rfl rfl rfl ?_
     refine r_skip rfl rfl rfl ?_
     refine r_skip rfl rfl rfl ?_
     refine r_skip rfl rfl rfl ?_
     refine r_d rfl rfl rfl (s_pickT rfl rfl rfl) ?_
     refine r_d rfl rfl rfl (s_move rfl rfl) ?_
     refine r_skip rfl rfl rfl ?_
     refine r_skip rfl rfl rfl ?_
     refine r_skip rfl rfl rfl ?_
     refine r_skip rfl rfl rfl ?_
     refine r_d rfl rfl rfl (s_pickT rfl rfl rfl) ?_
     refine r_d rfl rfl rfl (s_move rfl rfl) ?_
     refine r_skip rfl rfl rfl ?_
     refine r_skip rfl rfl rfl ?_
     refine r_skip rfl rfl rfl ?_
     refine r_skip rfl rfl rfl ?_
     refine r_d rfl rfl rfl (s_pickT rfl rfl rfl) ?_
     refine r_d rfl rfl rfl (s_move rfl rfl) ?_
     refine r_skip rfl rfl rfl ?_
     refine r_skip rfl rfl rfl ?_
     refine r_skip rfl rfl rfl ?_
     refine r_skip rfl rfl rfl ?_
     refine r_d rfl rfl rfl (s_pickT rfl rfl rfl) ?_
     refine r_end ?_
     refine g_condT rfl ?_
     refine g_seq ?_
     refine g_run (by kernel_rfl) [(0, .d)] rfl ?_
     refine r_d rfl rfl rfl (s_assign rfl rfl) ?_
     refine r_end ?_
     obtain rfl := Option.some.inj hr
     refine g_ret Try.func16 _ (.cons (resTmp rfl (Wk.refl _)) .nil) ?_
     rfl
    ·
     refine r_d rfl rfl rfl (s_fieldAddr rfl fl_api_Rule_0 rfl rfl rfl rfl) ?_
     refine r_d rfl rfl rfl (s_load rfl rfl (by exact ty_string) rfl) ?_
     refine r_d rfl rfl rfl (s_lenS rfl Try.underlying9 rfl) ?_
     refine r_d rfl rfl rfl (s_quoC rfl rfl rfl (by decide)) ?_
     refine r_d rfl rfl rfl (s_fieldAddr rfl fl_api_Rule_1 rfl rfl rfl rfl) ?_
     refine r_d rfl rfl rfl (s_load rfl rfl (by exact ty_L_api_Atom) rfl) ?_
     refine r_d rfl rfl rfl (m_len (f := encA) q_2.f1_Keep rfl el_L_api_Atom rfl (asl rfl)) ?_
     refine r_d rfl rfl rfl (s_arW rfl rfl rfl rfl) ?_
     refine r_d rfl rfl rfl (s_fieldAddr rfl fl_api_Rule_2 rfl rfl rfl rfl) ?_
     refine r_d rfl rfl rfl (s_load rfl rfl (by exact ty_L_api_Atom) rfl) ?_
     refine r_d rfl rfl rfl (m_len (f := encA) q_2.f2_Remove rfl el_L_api_Atom rfl (asl rfl)) ?_
     refine r_d rfl rfl rfl (s_arW rfl rfl rfl rfl) ?_
     refine r_d rfl rfl rfl (s_move rfl rfl) ?_
     refine r_d rfl rfl rfl (s_cmp rfl rfl rfl rfl) ?_
     refine r_d rfl rfl rfl (s_pickF rfl rfl rfl) ?_
     refine r_d rfl rfl rfl (s_move rfl rfl) ?_
     refine r_sB 37 rfl hr (fun h37_4 hr => ?_) (fun h37_4 hr => ?_)
     ·
      refine r_skip rfl rfl rfl ?_
      refine r_skip rfl rfl rfl ?_
      refine r_skip rfl rfl rfl ?_
      refine r_skip rfl rfl rfl ?_
      refine r_d rfl rfl rfl (s_pickT rfl rfl rfl) ?_
      refine r_d rfl rfl rfl (s_move rfl rfl) ?_
      refine r_skip rfl rfl rfl ?_
      refine r_skip rfl rfl rfl ?_
      refine r_skip rfl rfl rfl ?_
      refine r_skip rfl rfl rfl ?_
      refine r_d rfl rfl rfl (s_pickT rfl rfl rfl) ?_
      refine r_d rfl rfl rfl (s_move rfl rfl) ?_
      refine r_skip rfl rfl rfl ?_
      refine r_skip rfl rfl rfl ?_
      refine r_skip rfl rfl rfl ?_
      refine r_skip rfl rfl rfl ?_
      refine r_d rfl rfl rfl (s_pickT rfl rfl rfl) ?_
      refine r_d rfl rfl rfl (s_move rfl rfl) ?_
      refine r_skip rfl rfl rfl ?_
      refine r_skip rfl rfl rfl ?_
      refine r_skip rfl rfl rfl ?_
      refine r_skip rfl rfl rfl ?_
      refine r_d rfl rfl rfl (s_pickT rfl rfl rfl) ?_
      refine r_end ?_
      refine g_condT rfl ?_
      refine g_seq ?_
      refine g_run (by kernel_rfl) [(0, .d)] rfl ?_
      refine r_d rfl rfl rfl (s_assign rfl rfl) ?_
      refine r_end ?_
      obtain rfl := Option.some.inj hr
      refine g_ret Try.func16 _ (.cons (resTmp rfl (Wk.refl _)) .nil) ?_
      rfl
     ·
      refine r_d rfl rfl rfl (s_fieldAddr rfl fl_api_Rule_1 rfl rfl rfl rfl) ?_
      refine r_d rfl rfl rfl (s_load rfl rfl (by exact ty_L_api_Atom) rfl) ?_
      refine r_d rfl rfl rfl (s_move rfl rfl) ?_
      obtain ⟨r_6, hr_6, hr⟩ := bindS hr
      refine r_d rfl rfl rfl (s_callD rfl cl_constraintref03_GreatAtoms (.cons rfl (Wk.refl _) (.cons rfl (Wk.refl _) .nil)) (lg_constraintref03_GreatAtoms _ _ _ hr_6)) ?_
      refine r_d rfl rfl rfl (s_pickF rfl rfl rfl) ?_
      refine r_d rfl rfl rfl (s_move rfl rfl) ?_
      refine r_sB 43 rfl hr (fun h43_6 hr => ?_) (fun h43_6 hr => ?_)
      ·
       refine r_skip rfl rfl rfl ?_
       refine r_skip rfl rfl rfl ?_
       refine r_skip rfl rfl rfl ?_
       refine r_skip rfl rfl rfl ?_
       refine r_d rfl rfl rfl (s_pickT rfl rfl rfl) ?_
       refine r_d rfl rfl rfl (s_move rfl rfl) ?_
       refine r_skip rfl rfl rfl ?_
       refine r_skip rfl rfl rfl ?_
       refine r_skip rfl rfl rfl ?_
       refine r_skip rfl rfl rfl ?_
       refine r_d rfl rfl rfl (s_pickT rfl rfl rfl) ?_
       refine r_d rfl rfl rfl (s_move rfl rfl) ?_
       refine r_skip rfl rfl rfl ?_
       refine r_skip rfl rfl rfl ?_
       refine r_skip rfl rfl rfl ?_
       refine r_skip rfl rfl rfl ?_
       refine r_d rfl rfl rfl (s_pickT rfl rfl rfl) ?_
       refine r_end ?_
       refine g_condT rfl ?_
       refine g_seq ?_
       refine g_run (by kernel_rfl) [(0, .d)] rfl ?_
       refine r_d rfl rfl rfl (s_assign rfl rfl) ?_
       refine r_end ?_
       obtain rfl := Option.some.inj hr
       refine g_ret Try.func16 _ (.cons (resTmp rfl (Wk.refl _)) .nil) ?_
       rfl
      ·
       refine r_d rfl rfl rfl (s_fieldAddr rfl fl_api_Rule_2 rfl rfl rfl rfl) ?_
       refine r_d rfl rfl rfl (s_load rfl rfl (by exact ty_L_api_Atom) rfl) ?_
       refine r_d rfl rfl rfl (s_move rfl rfl) ?_
       obtain ⟨r_8, hr_8, hr⟩ := bindS hr
       refine r_d rfl rfl rfl (s_callD rfl cl_constraintref03_GreatAtoms (.cons rfl (Wk.refl _) (.cons rfl (Wk.refl _) .nil)) (lg_constraintref03_GreatAtoms _ _ _ hr_8)) ?_
       refine r_d rfl rfl rfl (s_pickF rfl rfl rfl) ?_
       refine r_d rfl rfl rfl (s_move rfl rfl) ?_
       refine r_sB 49 rfl hr (fun h49_8 hr => ?_) (fun h49_8 hr => ?_)
       ·
        refine r_skip rfl rfl rfl ?_
        refine r_skip rfl rfl rfl ?_
        refine r_skip rfl rfl rfl ?_
        refine r_skip rfl rfl rfl ?_
        refine r_d rfl rfl rfl (s_pickT rfl rfl rfl) ?_
        refine r_d rfl rfl rfl (s_move rfl rfl) ?_
        refine r_skip rfl rfl rfl ?_
        refine r_skip rfl rfl rfl ?_
        refine r_skip rfl rfl rfl ?_
        refine r_skip rfl rfl rfl ?_
        refine r_d rfl rfl rfl (s_pickT rfl rfl rfl) ?_
        refine r_end ?_
        refine g_condT rfl ?_
        refine g_seq ?_
        refine g_run (by kernel_rfl) [(0, .d)] rfl ?_
        refine r_d rfl rfl rfl (s_assign rfl rfl) ?_
        refine r_end ?_
        obtain rfl := Option.some.inj hr
        refine g_ret Try.func16 _ (.cons (resTmp rfl (Wk.refl _)) .nil) ?_
        rfl
       ·
        refine r_d rfl rfl rfl (s_fieldAddr rfl fl_api_Rule_3 rfl rfl rfl rfl) ?_
        refine r_d rfl rfl rfl (s_load rfl rfl (by exact ty_L_api_Goal) rfl) ?_
        refine r_d rfl rfl rfl (s_move rfl rfl) ?_
        obtain ⟨r_10, hr_10, hr⟩ := bindS hr
        refine r_d rfl rfl rfl (s_callD rfl cl_constraintref03_GreatGoals (.cons rfl (Wk.refl _) (.cons rfl (Wk.refl _) .nil)) (lg_constraintref03_GreatGoals _ _ _ hr_10)) ?_
        refine r_d rfl rfl rfl (s_pickF rfl rfl rfl) ?_
        refine r_d rfl rfl rfl (s_move rfl rfl) ?_
        refine r_sB 55 rfl hr (fun h55_10 hr => ?_) (fun h55_10 hr => ?_)
        ·
         refine r_skip rfl rfl rfl ?_
         refine r_skip rfl rfl rfl ?_
         refine r_skip rfl rfl rfl ?_
         refine r_skip rfl rfl rfl ?_
         refine r_d rfl rfl rfl (s_pickT rfl rfl rfl) ?_
         refine r_end ?_
         refine g_condT rfl ?_
         refine g_seq ?_
         refine g_run (by kernel_rfl) [(0, .d)] rfl ?_
         refine r_d rfl rfl rfl (s_assign rfl rfl) ?_
         refine r_end ?_
         obtain rfl := Option.some.inj hr
         refine g_ret Try.func16 _ (.cons (resTmp rfl (Wk.refl _)) .nil) ?_
         rfl
        ·
         refine r_d rfl rfl rfl (s_fieldAddr rfl fl_api_Rule_4 rfl rfl rfl rfl) ?_
         refine r_d rfl rfl rfl (s_load rfl rfl (by exact ty_L_api_Goal) rfl) ?_
         refine r_d rfl rfl rfl (s_move rfl rfl) ?_
         obtain ⟨r_12, hr_12, hr⟩ := bindS hr
         refine r_d rfl rfl rfl (s_callD rfl cl_constraintref03_GreatGoals (.cons rfl (Wk.refl _) (.cons rfl (Wk.refl _) .nil)) (lg_constraintref03_GreatGoals _ _ _ hr_12)) ?_
         refine r_d rfl rfl rfl (s_pickF rfl rfl rfl) ?_
         refine r_end ?_
         refine g_sB 60 rfl hr (fun h60_12 hr => ?_) (fun h60_12 hr => ?_)
         ·
          refine g_condT rfl ?_
          refine g_seq ?_
          refine g_run (by kernel_rfl) [(0, .d)] rfl ?_
          refine r_d rfl rfl rfl (s_assign rfl rfl) ?_
          refine r_end ?_
          obtain rfl := Option.some.inj hr
          refine g_ret Try.func16 _ (.cons (resTmp rfl (Wk.refl _)) .nil) ?_
          rfl
         ·
          refine g_condF rfl ?_
          refine g_skip ?_
          refine g_inBlock ?_
          refine g_run (by kernel_rfl) [(0, .d), (1, .d), (2, .d)] rfl ?_
          refine r_d rfl rfl rfl (s_move rfl rfl) ?_
          refine r_d rfl rfl rfl (s_ar (r := ((i_1 + 1 : Nat) : Int)) rfl rfl rfl (by simp [iar]) (by omega)) ?_
          refine r_d rfl rfl rfl (s_assign rfl rfl) ?_
          refine r_end ?_
          refine g_sub [(0, .lst (l_a0.map enc_S_api_Rule)), (1, .int .i64 most_a1), (5, .int .i64 ((i_1 + 1 : Nat) : Int))] (Sub.cons' rfl (Sub.cons' rfl (Sub.cons' rfl (Sub.nil _)))) ?_
          exact IH0 _ _ _ (by omega) ⟨(i_1 + 1), rfl, rfl, rfl, (by omega), hr⟩

noncomputable def lf_constraintlaw17_large (r_a0 : S_api_Rule) : Option (Bool) :=
  ((lf_constraintref03_GreatRules [r_a0] 120).bind fun r_1 =>
  some (r_1))

set_option maxHeartbeats 1000000 in
theorem lg_constraintlaw17_large (r_a0 : S_api_Rule) (res : Bool) (hr : lf_constraintlaw17_large r_a0 = some res) : Gives Try.prog 5 [enc_S_api_Rule r_a0] (.bool res) := by
  unfold lf_constraintlaw17_large at hr
  refine spec_env [(0, enc_S_api_Rule r_a0)] Try.func5 rfl rfl fun K hK => ?_
  refine g_seq ?_
  refine g_run (by kernel_rfl) [(0, .d), (1, .d)] rfl ?_
  refine r_d rfl rfl rfl (s_box rfl rfl rfl) ?_
  refine r_d rfl rfl rfl (s_assign rfl rfl) ?_
  refine r_end ?_
  refine g_seq ?_
  refine g_run (by kernel_rfl) [(0, .d), (1, .d), (2, .d), (3, .d)] rfl ?_
  refine r_d rfl rfl rfl (s_load rfl rfl (by exact ty_api_Rule) (sz_S_api_Rule _)) ?_
  refine r_d rfl rfl rfl (m_lit (f := enc_S_api_Rule) [.tmp 3] [r_a0] rfl el_L_api_Rule rfl rfl (by decide) (by decide) (.cons rfl (Wk.refl _) .nil) sz_S_api_Rule (fun _ => rfl)) ?_
  obtain ⟨r_1, hr_1, hr⟩ := bindS hr
  refine r_d rfl rfl rfl (by exact s_callD rfl cl_constraintref03_GreatRules (.cons rfl (Wk.full _) (.cons rfl (Wk.refl _) .nil)) (lg_constraintref03_GreatRules _ _ _ hr_1)) ?_
  refine r_d rfl rfl rfl (s_assign rfl rfl) ?_
  refine r_end ?_
  obtain rfl := Option.some.inj hr
  refine g_ret Try.func5 _ (.cons (resTmp rfl (Wk.refl _)) .nil) ?_
  rfl

end Go.Proofs.Ytlannippingfdaa

