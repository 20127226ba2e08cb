/-
  Texts of the seat, merged.
-/
import Derived.Test.YtdoljfkjdfaakaaGreatLPA
import Derived.Test.YtdoljfkjdfaakaaGreatLPB
import Derived.Test.YtdoljfkjdfaakaaGreatLPC
import Derived.Test.YtdoljfkjdfaakaaGreatLPD
import Derived.Test.YtdoljfkjdfaakaaGreatChecked
import Derived.WalkKit
import Derived.Lib.Hide
import Derived.Lib.AppendStr
import Derived.Deep.AppendLies
import Derived.Deep.AppendSrc
import Derived.Deep.Draws
import Derived.Deep.QuietTactic
import Derived.BigQuiet
import Derived.Deep.RegionWith
import Derived.Maps.AppendAt
import Derived.WalkSpells
import Derived.Orders
import Derived.Deep.Slices
import Derived.Deep.Fields
import Derived.ChangeArms
import Derived.Lib.OthersKept
import Derived.Lib.TrimU
import Derived.Lib.IndexAny
import Derived.Deep.LoopGhost
import Derived.Lib.Bytealg
import Derived.RangeFuncBox
import Derived.RangeFuncNested
import Derived.RangeFuncBound
import Derived.RangeFuncCalls
import Derived.RangeFuncLeaves
import Derived.Shelf.Abstract
import Derived.OwnWalkIn
import Derived.TacticsInMore
import Derived.LoopNIn
import Derived.LoopIn
import Derived.RangeFuncWrites
import Derived.Maps.OwnIn
import Derived.Maps.Views
import Derived.Laws.OwnMore
import Derived.Maps.OwnSet
import Derived.Laws.IdiomStrings
import Derived.Test.YtdoljfkjdfaakaaGreatRows
import Derived.ProofKit
import Derived.OpenShut
import Derived.Carry
import Derived.OrdersIn
import Derived.Great.BuildSlice
import Derived.ArgAppend
import Derived.Laws.MakeOwn
import Derived.Laws.Cover3
import Derived.Laws.CopyRow
import Derived.MapKept
import Derived.Maps.RangeRun
import Derived.DeepKeys5
import Derived.WideKeyRuns
set_option linter.unusedVariables false
set_option linter.unusedSimpArgs false
set_option linter.unnecessarySimpa false
set_option linter.all false

namespace Go.Proofs.YtdoljfkjdfaakaaGreat
set_option maxRecDepth 100000
open Go.RowKit

set_option maxHeartbeats 1000000 in
theorem lgo_Pconstraintref52_writer_term_s1 (rec : (List T) → S_constraintref52_writer → Option (S_constraintref52_writer)) (IHR : ∀ (l_a1 : (List T)) (c_0 : S_constraintref52_writer) (b_o0 : Nat) (res : S_constraintref52_writer), rec l_a1 c_0 = some res → Spec Tryz.prog 158 [.ref b_o0 0 [], .lst (l_a1.map encT)] [.cell b_o0 (enc_S_constraintref52_writer c_0)] (fun d σ => d = .tup [] ∧ σ = [.cell b_o0 (enc_S_constraintref52_writer res)])) (t_a1 : T) (c_0 : S_constraintref52_writer) (b_o0 : Nat) (res : S_constraintref52_writer) (hr : lfo_Pconstraintref52_writer_term_s1 rec t_a1 c_0 = some res) : Spec Tryz.prog 73 [.ref b_o0 0 [], encT t_a1] [.cell b_o0 (enc_S_constraintref52_writer c_0)] (fun d σ => d = .tup [] ∧ σ = [.cell b_o0 (enc_S_constraintref52_writer res)]) := by
  unfold lfo_Pconstraintref52_writer_term_s1 at hr
  refine spec_env [(0, .ref b_o0 0 []), (1, encT t_a1)] Tryz.func73 rfl rfl fun K hK => ?_
  refine g_seq ?_
  refine g_run (by kernel_rfl) [(0, .d)] rfl ?_
  refine r_d rfl rfl rfl (s_box rfl rfl rfl) ?_
  refine r_end ?_
  refine g_seq ?_
  refine g_seq ?_
  refine g_run (by kernel_rfl) [(0, .d), (1, .d), (2, .d)] rfl ?_
  refine r_d rfl rfl rfl (s_load rfl rfl (by exact ty_api_Term) (sz_encT _)) ?_
  obtain ⟨r_1, hr_1, hr⟩ := bindS hr
  refine r_d rfl rfl rfl (s_callD rfl cl_constraintref03_Right (.cons rfl (Wk.refl _) .nil) (lx_constraintref03_Right _ _ hr_1)) ?_
  refine r_d rfl rfl rfl (s_not rfl rfl) ?_
  refine r_end ?_
  refine g_sB 6 rfl hr (fun h6_1 hr => ?_) (fun h6_1 hr => ?_)
  ·
   refine g_condT rfl ?_
   refine g_seq ?_
   refine g_run (by kernel_rfl) [(0, .d), (1, .d), (2, .d), (3, .w)] rfl ?_
   refine r_d rfl rfl rfl (s_move rfl rfl) ?_
   refine r_d rfl rfl rfl (s_nilCheckR rfl rfl) ?_
   refine r_d rfl rfl rfl (s_fieldRef rfl fl_constraintref52_writer_1 rfl) ?_
   refine r_w01 rfl rfl rfl (t_store _ rfl rfl rfl (Wk.refl _) (pf0 _) rfl rfl (by exact ty_bool) rfl rfl rfl) ?_
   refine r_end ?_
   obtain rfl := Option.some.inj hr
   refine g_ret Tryz.func73 _ .nil ?_
   exact ⟨rfl, rfl⟩
  ·
   refine g_condF rfl ?_
   refine g_skip ?_
   refine g_seq ?_
   refine g_run (by kernel_rfl) [(0, .d), (1, .d), (2, .d), (3, .w)] rfl ?_
   refine r_d rfl rfl rfl (s_move rfl rfl) ?_
   refine r_d rfl rfl rfl (s_fieldAddr rfl fl_api_Term_0 rfl (fsT_get0 _) (fsT_off0 _) rfl) ?_
   refine r_d rfl rfl rfl (s_load rfl rfl (by exact ty_int) rfl) ?_
   obtain ⟨r_3, hr_3, hr⟩ := bindS hr
   refine r_w rfl rfl rfl (s_call _ rfl cl_Pconstraintref52_writer_num (.cons rfl (Wk.refl _) (.cons rfl (Wk.refl _) (.cons rfl (Wk.refl _) (.cons rfl (Wk.refl _) .nil)))) (by exact (pf0 _)) (lg_Pconstraintref52_writer_num_s1 _ _ _ _ _ _ hr_3)) ?_
   rintro _ _ ⟨_, ⟨rfl, rfl⟩, rfl⟩
   refine r_st ((.cell b_o0 (enc_S_constraintref52_writer r_3)) :: _) rfl ?_
   refine r_end ?_
   refine g_seq ?_
   refine g_seq ?_
   refine g_run (by kernel_rfl) [(0, .d), (1, .d), (2, .d)] rfl ?_
   refine r_d rfl rfl rfl (s_fieldAddr rfl fl_api_Term_0 rfl (fsT_get0 _) (fsT_off0 _) rfl) ?_
   refine r_d rfl rfl rfl (s_load rfl rfl (by exact ty_int) rfl) ?_
   refine r_d rfl rfl rfl (s_cmp rfl rfl rfl rfl) ?_
   refine r_end ?_
   refine g_sB 16 rfl hr (fun h16_3 hr => ?_) (fun h16_3 hr => ?_)
   ·
    refine g_condT rfl ?_
    refine g_seq ?_
    refine g_run (by kernel_rfl) [(0, .d), (1, .d), (2, .d), (3, .w)] rfl ?_
    refine r_d rfl rfl rfl (s_move rfl rfl) ?_
    refine r_d rfl rfl rfl (s_fieldAddr rfl fl_api_Term_1 rfl (fsT_get1 _) (fsT_off1 _) rfl) ?_
    refine r_d rfl rfl rfl (s_load rfl rfl (by exact ty_int) rfl) ?_
    obtain ⟨r_5, hr_5, hr⟩ := bindS hr
    refine r_w rfl rfl rfl (s_call _ rfl cl_Pconstraintref52_writer_num (.cons rfl (Wk.refl _) (.cons rfl (Wk.refl _) (.cons rfl (Wk.refl _) (.cons rfl (Wk.refl _) .nil)))) (by exact (pf0 _)) (lg_Pconstraintref52_writer_num_s1 _ _ _ _ _ _ hr_5)) ?_
    rintro _ _ ⟨_, ⟨rfl, rfl⟩, rfl⟩
    refine r_st ((.cell b_o0 (enc_S_constraintref52_writer r_5)) :: _) rfl ?_
    refine r_end ?_
    obtain rfl := Option.some.inj hr
    refine g_ret Tryz.func73 _ .nil ?_
    exact ⟨rfl, rfl⟩
   ·
    refine g_condF rfl ?_
    refine g_skip ?_
    refine g_seq ?_
    refine g_run (by kernel_rfl) [(0, .d), (1, .d), (2, .d), (3, .w)] rfl ?_
    refine r_d rfl rfl rfl (s_move rfl rfl) ?_
    refine r_d rfl rfl rfl (s_fieldAddr rfl fl_api_Term_2 rfl (fsT_get2 _) (fsT_off2 _) rfl) ?_
    refine r_d rfl rfl rfl (s_load rfl rfl (by exact ty_string) rfl) ?_
    obtain ⟨r_6, hr_6, hr⟩ := bindS hr
    refine r_w rfl rfl rfl (s_call _ rfl cl_Pconstraintref52_writer_text (.cons rfl (Wk.refl _) (.cons rfl (Wk.refl _) .nil)) (by exact (pf0 _)) (lg_Pconstraintref52_writer_text_s1 _ _ _ _ hr_6)) ?_
    rintro _ _ ⟨_, ⟨rfl, rfl⟩, rfl⟩
    refine r_st ((.cell b_o0 (enc_S_constraintref52_writer r_6)) :: _) rfl ?_
    refine r_end ?_
    refine g_run (by kernel_rfl) [(0, .d), (1, .d), (2, .d), (3, .w)] rfl ?_
    refine r_d rfl rfl rfl (s_move rfl rfl) ?_
    refine r_d rfl rfl rfl (s_fieldAddr rfl fl_api_Term_3 rfl (fsT_get3 _) (fsT_off3 _) rfl) ?_
    refine r_d rfl rfl rfl (s_load rfl rfl (by exact ty_L_api_Term) rfl) ?_
    obtain ⟨r_7, hr_7, hr⟩ := bindS hr
    refine r_w rfl rfl rfl (s_call _ rfl cl_Pconstraintref52_writer_terms (.cons rfl (Wk.refl _) (.cons rfl (Wk.refl _) .nil)) (by exact (pf0 _)) (IHR _ _ _ _ hr_7)) ?_
    rintro _ _ ⟨_, ⟨rfl, rfl⟩, rfl⟩
    refine r_st ((.cell b_o0 (enc_S_constraintref52_writer r_7)) :: _) rfl ?_
    refine r_end ?_
    obtain rfl := Option.some.inj hr
    refine g_end Tryz.func73 _ .nil ?_
    exact ⟨rfl, rfl⟩

noncomputable def lf_Pconstraintref52_writer_terms_s1_L0 (k : (S_constraintref52_writer) → Option (S_constraintref52_writer)) (rec : (List T) → S_constraintref52_writer → Option (S_constraintref52_writer)) : List T → S_constraintref52_writer → Option (S_constraintref52_writer)
  | [], w_3 =>
  (k w_3)
  | q_5 :: rest, w_3 =>
  (bif (!w_3.f1_bad) then
  ((lfo_Pconstraintref52_writer_term_s1 rec q_5 w_3).bind fun r_7 =>
  (lf_Pconstraintref52_writer_terms_s1_L0 k rec rest r_7))
  else
  (k w_3))
noncomputable def lf_Pconstraintref52_writer_terms_s1 : Nat → (List T) → S_constraintref52_writer → Option (S_constraintref52_writer)
  | 0, _, _ => none
  | fuel + 1, l_a1, c_0 =>
    (fun (rec : (List T) → S_constraintref52_writer → Option (S_constraintref52_writer)) =>
      ((lf_Pconstraintref52_writer_num_s1 (l_a1.length : Int) 0 6 c_0).bind fun r_1 =>
      (lf_Pconstraintref52_writer_terms_s1_L0 (fun w_4 =>
      some (w_4)) rec l_a1 r_1))) (lf_Pconstraintref52_writer_terms_s1 fuel)

set_option maxHeartbeats 1000000 in
theorem lgs_Pconstraintref52_writer_terms_s1 (fuel : Nat) (rec : (List T) → S_constraintref52_writer → Option (S_constraintref52_writer)) (IHR : ∀ (l_a1 : (List T)) (c_0 : S_constraintref52_writer) (b_o0 : Nat) (res : S_constraintref52_writer), rec l_a1 c_0 = some res → Spec Tryz.prog 158 [.ref b_o0 0 [], .lst (l_a1.map encT)] [.cell b_o0 (enc_S_constraintref52_writer c_0)] (fun d σ => d = .tup [] ∧ σ = [.cell b_o0 (enc_S_constraintref52_writer res)])) (l_a1 : (List T)) (c_0 : S_constraintref52_writer) (b_o0 : Nat) (res : S_constraintref52_writer)
    (hr : ((lf_Pconstraintref52_writer_num_s1 (l_a1.length : Int) 0 6 c_0).bind fun r_1 =>
(lf_Pconstraintref52_writer_terms_s1_L0 (fun w_4 =>
some (w_4)) rec l_a1 r_1)) = some res) : Spec Tryz.prog 158 [.ref b_o0 0 [], .lst (l_a1.map encT)] [.cell b_o0 (enc_S_constraintref52_writer c_0)] (fun d σ => d = .tup [] ∧ σ = [.cell b_o0 (enc_S_constraintref52_writer res)]) := by
  refine spec_env [(0, .ref b_o0 0 []), (1, .lst (l_a1.map encT))] Tryz.func158 rfl rfl fun K hK => ?_
  refine g_seq ?_
  refine g_run (by kernel_rfl) [(0, .d), (1, .d), (2, .d), (3, .w)] rfl ?_
  refine r_d rfl rfl rfl (s_move rfl rfl) ?_
  refine r_d rfl rfl rfl (s_move rfl rfl) ?_
  refine r_d rfl rfl rfl (m_len (f := encT) l_a1 rfl el_L_api_Term rfl (asl rfl)) ?_
  obtain ⟨r_1, hr_1, hr⟩ := bindS hr
  refine r_w rfl rfl rfl (s_call _ rfl cl_Pconstraintref52_writer_num (.cons rfl (Wk.refl _) (.cons rfl (Wk.refl _) (.cons rfl (Wk.refl _) (.cons rfl (Wk.refl _) .nil)))) (by exact (pf0 _)) (lg_Pconstraintref52_writer_num_s1 _ _ _ _ _ _ hr_1)) ?_
  rintro _ _ ⟨_, ⟨rfl, rfl⟩, rfl⟩
  refine r_st ((.cell b_o0 (enc_S_constraintref52_writer r_1)) :: _) rfl ?_
  refine r_end ?_
  refine g_seq ?_
  refine g_run (by kernel_rfl) [(0, .d)] rfl ?_
  refine r_d rfl rfl rfl (s_assign rfl rfl) ?_
  refine r_end ?_
  obtain ⟨kk0, hkk0, hr⟩ := exK (fun k => lf_Pconstraintref52_writer_terms_s1_L0 k rec l_a1 r_1) hr
  refine g_len 1 rfl (asl rfl) fun hla0 => ?_
  simp only [List.length_map] at hla0
  refine g_blockJ (fun env σ => ∃ (w_4 : S_constraintref52_writer), env = [] ∧ σ = [.cell b_o0 (enc_S_constraintref52_writer w_4)] ∧ kk0 w_4 = some res) ?_ (fun HK0 => ?_)
  ·
   rintro _ _ ⟨w_4, rfl, rfl, hr⟩
   rw [hkk0] at hr
   obtain rfl := Option.some.inj hr
   refine g_end Tryz.func158 _ .nil ?_
   exact ⟨rfl, rfl⟩
  ·
   refine g_sub [(0, .ref b_o0 0 []), (1, .lst (l_a1.map encT)), (4, .int .i64 ((0 : Nat) : Int))] (Sub.cons' rfl (Sub.cons' rfl (Sub.cons' rfl (Sub.nil _)))) ?_
   refine g_loop (fun n env σ => ∃ (i_2 : Nat) (w_3 : S_constraintref52_writer), (n = l_a1.length - i_2) ∧ (env = [(0, .ref b_o0 0 []), (1, .lst (l_a1.map encT)), (4, .int .i64 (i_2 : Int))]) ∧ (σ = [.cell b_o0 (enc_S_constraintref52_writer w_3)]) ∧ (i_2 ≤ l_a1.length) ∧ (lf_Pconstraintref52_writer_terms_s1_L0 kk0 rec (l_a1.drop i_2) w_3 = some res)) _ ⟨0, r_1, rfl, rfl, rfl, Nat.zero_le _, hr⟩ ?_
   rintro n _ _ ⟨i_2, w_3, rfl, rfl, rfl, hi0, hr⟩ IH0
   rcases listStep l_a1 i_2 hi0 with ⟨ht0, hd0, he0⟩ | ⟨q_5, ht0, hd0, hq0, hlt0⟩
   ·
    rw [hd0, lf_Pconstraintref52_writer_terms_s1_L0] at hr
    refine g_seq ?_
    refine g_seq ?_
    refine g_run (by kernel_rfl) [(0, .d), (1, .d), (2, .d), (3, .d), (4, .d), (5, .d), (6, .d), (7, .d), (8, .r), (9, .d), (10, .d)] rfl ?_
    refine r_d rfl rfl rfl (s_move rfl rfl) ?_
    refine r_d rfl rfl rfl (s_move rfl rfl) ?_
    refine r_d rfl rfl rfl (m_len (f := encT) l_a1 rfl el_L_api_Term rfl (asl rfl)) ?_
    refine r_d rfl rfl rfl (s_cmp rfl rfl rfl rfl) ?_
    refine r_d rfl rfl rfl (s_move rfl rfl) ?_
    refine r_known 13 false rfl ht0 ?_
    refine r_skip rfl rfl rfl ?_
    refine r_skip rfl rfl rfl ?_
    refine r_skip rfl rfl rfl ?_
    refine r_skip rfl rfl rfl ?_
    refine r_skip rfl rfl rfl ?_
    refine r_d rfl rfl rfl (s_pickF rfl rfl rfl) ?_
    refine r_end ?_
    refine g_condF rfl ?_
    refine g_exit rfl ?_
    refine g_sub [] (Sub.nil _) ?_
    exact HK0 _ _ ⟨w_3, rfl, rfl, hr⟩
   ·
    rw [hd0, lf_Pconstraintref52_writer_terms_s1_L0] at hr
    refine g_seq ?_
    refine g_seq ?_
    refine g_run (by kernel_rfl) [(0, .d), (1, .d), (2, .d), (3, .d), (4, .d), (5, .d), (6, .d), (7, .d), (8, .r), (9, .d), (10, .d)] rfl ?_
    refine r_d rfl rfl rfl (s_move rfl rfl) ?_
    refine r_d rfl rfl rfl (s_move rfl rfl) ?_
    refine r_d rfl rfl rfl (m_len (f := encT) l_a1 rfl el_L_api_Term rfl (asl rfl)) ?_
    refine r_d rfl rfl rfl (s_cmp rfl rfl rfl rfl) ?_
    refine r_d rfl rfl rfl (s_move rfl rfl) ?_
    refine r_known 13 true rfl ht0 ?_
    refine r_d rfl rfl rfl (s_move rfl rfl) ?_
    refine r_d rfl rfl rfl (s_nilCheckR rfl rfl) ?_
    refine r_d rfl rfl rfl (s_fieldRef rfl fl_constraintref52_writer_1 rfl) ?_
    refine r_r rfl rfl rfl (t_loadRef rfl rfl (.head _) rfl rfl (by exact ty_bool) rfl) ?_
    refine r_d rfl rfl rfl (s_not rfl rfl) ?_
    refine r_d rfl rfl rfl (s_pickT rfl rfl rfl) ?_
    refine r_end ?_
    refine g_sB 19 rfl hr (fun h19_5 hr => ?_) (fun h19_5 hr => ?_)
    ·
     refine g_condT rfl ?_
     refine g_skip ?_
     refine g_seq ?_
     refine g_block ?_
     refine g_run (by kernel_rfl) [(0, .d), (1, .d), (2, .d), (3, .d), (4, .d), (5, .w)] rfl ?_
     refine r_d rfl rfl rfl (s_move rfl rfl) ?_
     refine r_d rfl rfl rfl (s_move rfl rfl) ?_
     refine r_d rfl rfl rfl (s_move rfl rfl) ?_
     refine r_d rfl rfl rfl (m_index (f := encT) l_a1 rfl el_L_api_Term rfl (asl rfl) rfl hq0 sz_encT rfl) ?_
     refine r_d rfl rfl rfl (s_load rfl rfl (by exact ty_api_Term) (sz_encT _)) ?_
     obtain ⟨r_7, hr_7, hr⟩ := bindS hr
     refine r_w rfl rfl rfl (s_call _ rfl cl_Pconstraintref52_writer_term (.cons rfl (Wk.refl _) (.cons rfl (Wk.refl _) .nil)) (by exact (pf0 _)) (lgo_Pconstraintref52_writer_term_s1 rec IHR _ _ _ _ hr_7)) ?_
     rintro _ _ ⟨_, ⟨rfl, rfl⟩, rfl⟩
     refine r_st ((.cell b_o0 (enc_S_constraintref52_writer r_7)) :: _) rfl ?_
     refine r_end ?_
     refine g_inBlock ?_
     refine g_run (by kernel_rfl) [(0, .d), (1, .d), (2, .d)] rfl ?_
     refine r_d rfl rfl rfl (s_move rfl rfl) ?_
     refine r_d rfl rfl rfl (s_ar (r := ((i_2 + 1 : Nat) : Int)) rfl rfl rfl (by simp [iar]) (by omega)) ?_
     refine r_d rfl rfl rfl (s_assign rfl rfl) ?_
     refine r_end ?_
     refine g_sub [(0, .ref b_o0 0 []), (1, .lst (l_a1.map encT)), (4, .int .i64 ((i_2 + 1 : Nat) : Int))] (Sub.cons' rfl (Sub.cons' rfl (Sub.cons' rfl (Sub.nil _)))) ?_
     exact IH0 _ _ _ (by omega) ⟨(i_2 + 1), r_7, rfl, rfl, rfl, (by omega), hr⟩
    ·
     refine g_condF rfl ?_
     refine g_exit rfl ?_
     refine g_sub [] (Sub.nil _) ?_
     exact HK0 _ _ ⟨w_3, rfl, rfl, hr⟩
theorem lg_Pconstraintref52_writer_terms_s1 : ∀ (fuel : Nat) (l_a1 : (List T)) (c_0 : S_constraintref52_writer) (b_o0 : Nat) (res : S_constraintref52_writer), lf_Pconstraintref52_writer_terms_s1 fuel l_a1 c_0 = some res → Spec Tryz.prog 158 [.ref b_o0 0 [], .lst (l_a1.map encT)] [.cell b_o0 (enc_S_constraintref52_writer c_0)] (fun d σ => d = .tup [] ∧ σ = [.cell b_o0 (enc_S_constraintref52_writer res)])
  | 0, _, _, _, _, h => by cases h
  | fuel + 1, l_a1, c_0, b_o0, res, h => lgs_Pconstraintref52_writer_terms_s1 fuel (lf_Pconstraintref52_writer_terms_s1 fuel) (lg_Pconstraintref52_writer_terms_s1 fuel) l_a1 c_0 b_o0 res h

noncomputable def lf_Pconstraintref52_writer_atom_s1 (fuel : Nat) (a_a1 : At) (c_0 : S_constraintref52_writer) : Option (S_constraintref52_writer) :=
  ((x_rightA a_a1).bind fun r_1 =>
  (bif (!r_1) then
  some ((⟨c_0.f0_b, true⟩ : S_constraintref52_writer))
  else
  ((lf_Pconstraintref52_writer_text_s1 a_a1.n c_0).bind fun r_3 =>
  ((lf_Pconstraintref52_writer_terms_s1 fuel a_a1.ts r_3).bind fun r_4 =>
  some (r_4)))))

set_option maxHeartbeats 1000000 in
theorem lg_Pconstraintref52_writer_atom_s1 (fuel : Nat) (a_a1 : At) (c_0 : S_constraintref52_writer) (b_o0 : Nat) (res : S_constraintref52_writer) (hr : lf_Pconstraintref52_writer_atom_s1 fuel a_a1 c_0 = some res) : Spec Tryz.prog 72 [.ref b_o0 0 [], encA a_a1] [.cell b_o0 (enc_S_constraintref52_writer c_0)] (fun d σ => d = .tup [] ∧ σ = [.cell b_o0 (enc_S_constraintref52_writer res)]) := by
  unfold lf_Pconstraintref52_writer_atom_s1 at hr
  refine spec_env [(0, .ref b_o0 0 []), (1, encA a_a1)] Tryz.func72 rfl rfl fun K hK => ?_
  refine g_seq ?_
  refine g_run (by kernel_rfl) [(0, .d)] rfl ?_
  refine r_d rfl rfl rfl (s_box rfl rfl rfl) ?_
  refine r_end ?_
  refine g_seq ?_
  refine g_seq ?_
  refine g_run (by kernel_rfl) [(0, .d), (1, .d), (2, .d)] rfl ?_
  refine r_d rfl rfl rfl (s_load rfl rfl (by exact ty_api_Atom) (sz_encA _)) ?_
  obtain ⟨r_1, hr_1, hr⟩ := bindS hr
  refine r_d rfl rfl rfl (s_callD rfl cl_constraintref03_RightAtom (.cons rfl (Wk.refl _) .nil) (lx_constraintref03_RightAtom _ _ hr_1)) ?_
  refine r_d rfl rfl rfl (s_not rfl rfl) ?_
  refine r_end ?_
  refine g_sB 6 rfl hr (fun h6_1 hr => ?_) (fun h6_1 hr => ?_)
  ·
   refine g_condT rfl ?_
   refine g_seq ?_
   refine g_run (by kernel_rfl) [(0, .d), (1, .d), (2, .d), (3, .w)] rfl ?_
   refine r_d rfl rfl rfl (s_move rfl rfl) ?_
   refine r_d rfl rfl rfl (s_nilCheckR rfl rfl) ?_
   refine r_d rfl rfl rfl (s_fieldRef rfl fl_constraintref52_writer_1 rfl) ?_
   refine r_w01 rfl rfl rfl (t_store _ rfl rfl rfl (Wk.refl _) (pf0 _) rfl rfl (by exact ty_bool) rfl rfl rfl) ?_
   refine r_end ?_
   obtain rfl := Option.some.inj hr
   refine g_ret Tryz.func72 _ .nil ?_
   exact ⟨rfl, rfl⟩
  ·
   refine g_condF rfl ?_
   refine g_skip ?_
   refine g_seq ?_
   refine g_run (by kernel_rfl) [(0, .d), (1, .d), (2, .d), (3, .w)] rfl ?_
   refine r_d rfl rfl rfl (s_move rfl rfl) ?_
   refine r_d rfl rfl rfl (s_fieldAddr rfl fl_api_Atom_0 rfl rfl rfl rfl) ?_
   refine r_d rfl rfl rfl (s_load rfl rfl (by exact ty_string) rfl) ?_
   obtain ⟨r_3, hr_3, hr⟩ := bindS hr
   refine r_w rfl rfl rfl (s_call _ rfl cl_Pconstraintref52_writer_text (.cons rfl (Wk.refl _) (.cons rfl (Wk.refl _) .nil)) (by exact (pf0 _)) (lg_Pconstraintref52_writer_text_s1 _ _ _ _ hr_3)) ?_
   rintro _ _ ⟨_, ⟨rfl, rfl⟩, rfl⟩
   refine r_st ((.cell b_o0 (enc_S_constraintref52_writer r_3)) :: _) rfl ?_
   refine r_end ?_
   refine g_run (by kernel_rfl) [(0, .d), (1, .d), (2, .d), (3, .w)] rfl ?_
   refine r_d rfl rfl rfl (s_move rfl rfl) ?_
   refine r_d rfl rfl rfl (s_fieldAddr rfl fl_api_Atom_1 rfl rfl rfl rfl) ?_
   refine r_d rfl rfl rfl (s_load rfl rfl (by exact ty_L_api_Term) rfl) ?_
   obtain ⟨r_4, hr_4, hr⟩ := bindS hr
   refine r_w rfl rfl rfl (s_call _ rfl cl_Pconstraintref52_writer_terms (.cons rfl (Wk.refl _) (.cons rfl (Wk.refl _) .nil)) (by exact (pf0 _)) (lg_Pconstraintref52_writer_terms_s1 fuel _ _ _ _ hr_4)) ?_
   rintro _ _ ⟨_, ⟨rfl, rfl⟩, rfl⟩
   refine r_st ((.cell b_o0 (enc_S_constraintref52_writer r_4)) :: _) rfl ?_
   refine r_end ?_
   obtain rfl := Option.some.inj hr
   refine g_end Tryz.func72 _ .nil ?_
   exact ⟨rfl, rfl⟩

noncomputable def lf_Pconstraintref52_writer_atoms_s1_L0 (k : (S_constraintref52_writer) → Option (S_constraintref52_writer)) (fuel : Nat) : List At → S_constraintref52_writer → Option (S_constraintref52_writer)
  | [], w_3 =>
  (k w_3)
  | q_5 :: rest, w_3 =>
  (bif (!w_3.f1_bad) then
  ((lf_Pconstraintref52_writer_atom_s1 fuel q_5 w_3).bind fun r_7 =>
  (lf_Pconstraintref52_writer_atoms_s1_L0 k fuel rest r_7))
  else
  (k w_3))
noncomputable def lf_Pconstraintref52_writer_atoms_s1 (fuel : Nat) (l_a1 : (List At)) (c_0 : S_constraintref52_writer) : Option (S_constraintref52_writer) :=
  ((lf_Pconstraintref52_writer_num_s1 (l_a1.length : Int) 0 4 c_0).bind fun r_1 =>
  (lf_Pconstraintref52_writer_atoms_s1_L0 (fun w_4 =>
  some (w_4)) fuel l_a1 r_1))

set_option maxHeartbeats 1000000 in
theorem lg_Pconstraintref52_writer_atoms_s1 (fuel : Nat) (l_a1 : (List At)) (c_0 : S_constraintref52_writer) (b_o0 : Nat) (res : S_constraintref52_writer) (hr : lf_Pconstraintref52_writer_atoms_s1 fuel l_a1 c_0 = some res) : Spec Tryz.prog 43 [.ref b_o0 0 [], .lst (l_a1.map encA)] [.cell b_o0 (enc_S_constraintref52_writer c_0)] (fun d σ => d = .tup [] ∧ σ = [.cell b_o0 (enc_S_constraintref52_writer res)]) := by
  unfold lf_Pconstraintref52_writer_atoms_s1 at hr
  refine spec_env [(0, .ref b_o0 0 []), (1, .lst (l_a1.map encA))] Tryz.func43 rfl rfl fun K hK => ?_
  refine g_seq ?_
  refine g_run (by kernel_rfl) [(0, .d), (1, .d), (2, .d), (3, .w)] rfl ?_
  refine r_d rfl rfl rfl (s_move rfl rfl) ?_
  refine r_d rfl rfl rfl (s_move rfl rfl) ?_
  refine r_d rfl rfl rfl (m_len (f := encA) l_a1 rfl el_L_api_Atom rfl (asl rfl)) ?_
  obtain ⟨r_1, hr_1, hr⟩ := bindS hr
  refine r_w rfl rfl rfl (s_call _ rfl cl_Pconstraintref52_writer_num (.cons rfl (Wk.refl _) (.cons rfl (Wk.refl _) (.cons rfl (Wk.refl _) (.cons rfl (Wk.refl _) .nil)))) (by exact (pf0 _)) (lg_Pconstraintref52_writer_num_s1 _ _ _ _ _ _ hr_1)) ?_
  rintro _ _ ⟨_, ⟨rfl, rfl⟩, rfl⟩
  refine r_st ((.cell b_o0 (enc_S_constraintref52_writer r_1)) :: _) rfl ?_
  refine r_end ?_
  refine g_seq ?_
  refine g_run (by kernel_rfl) [(0, .d)] rfl ?_
  refine r_d rfl rfl rfl (s_assign rfl rfl) ?_
  refine r_end ?_
  obtain ⟨kk0, hkk0, hr⟩ := exK (fun k => lf_Pconstraintref52_writer_atoms_s1_L0 k fuel l_a1 r_1) hr
  refine g_len 1 rfl (asl rfl) fun hla0 => ?_
  simp only [List.length_map] at hla0
  refine g_blockJ (fun env σ => ∃ (w_4 : S_constraintref52_writer), env = [] ∧ σ = [.cell b_o0 (enc_S_constraintref52_writer w_4)] ∧ kk0 w_4 = some res) ?_ (fun HK0 => ?_)
  ·
   rintro _ _ ⟨w_4, rfl, rfl, hr⟩
   rw [hkk0] at hr
   obtain rfl := Option.some.inj hr
   refine g_end Tryz.func43 _ .nil ?_
   exact ⟨rfl, rfl⟩
  ·
   refine g_sub [(0, .ref b_o0 0 []), (1, .lst (l_a1.map encA)), (4, .int .i64 ((0 : Nat) : Int))] (Sub.cons' rfl (Sub.cons' rfl (Sub.cons' rfl (Sub.nil _)))) ?_
   refine g_loop (fun n env σ => ∃ (i_2 : Nat) (w_3 : S_constraintref52_writer), (n = l_a1.length - i_2) ∧ (env = [(0, .ref b_o0 0 []), (1, .lst (l_a1.map encA)), (4, .int .i64 (i_2 : Int))]) ∧ (σ = [.cell b_o0 (enc_S_constraintref52_writer w_3)]) ∧ (i_2 ≤ l_a1.length) ∧ (lf_Pconstraintref52_writer_atoms_s1_L0 kk0 fuel (l_a1.drop i_2) w_3 = some res)) _ ⟨0, r_1, rfl, rfl, rfl, Nat.zero_le _, hr⟩ ?_
   rintro n _ _ ⟨i_2, w_3, rfl, rfl, rfl, hi0, hr⟩ IH0
   rcases listStep l_a1 i_2 hi0 with ⟨ht0, hd0, he0⟩ | ⟨q_5, ht0, hd0, hq0, hlt0⟩
   ·
    rw [hd0, lf_Pconstraintref52_writer_atoms_s1_L0] at hr
    refine g_seq ?_
    refine g_seq ?_
    refine g_run (by kernel_rfl) [(0, .d), (1, .d), (2, .d), (3, .d), (4, .d), (5, .d), (6, .d), (7, .d), (8, .r), (9, .d), (10, .d)] rfl ?_
    refine r_d rfl rfl rfl (s_move rfl rfl) ?_
    refine r_d rfl rfl rfl (s_move rfl rfl) ?_
    refine r_d rfl rfl rfl (m_len (f := encA) l_a1 rfl el_L_api_Atom rfl (asl rfl)) ?_
    refine r_d rfl rfl rfl (s_cmp rfl rfl rfl rfl) ?_
    refine r_d rfl rfl rfl (s_move rfl rfl) ?_
    refine r_known 13 false rfl ht0 ?_
    refine r_skip rfl rfl rfl ?_
    refine r_skip rfl rfl rfl ?_
    refine r_skip rfl rfl rfl ?_
    refine r_skip rfl rfl rfl ?_
    refine r_skip rfl rfl rfl ?_
    refine r_d rfl rfl rfl (s_pickF rfl rfl rfl) ?_
    refine r_end ?_
    refine g_condF rfl ?_
    refine g_exit rfl ?_
    refine g_sub [] (Sub.nil _) ?_
    exact HK0 _ _ ⟨w_3, rfl, rfl, hr⟩
   ·
    rw [hd0, lf_Pconstraintref52_writer_atoms_s1_L0] at hr
    refine g_seq ?_
    refine g_seq ?_
    refine g_run (by kernel_rfl) [(0, .d), (1, .d), (2, .d), (3, .d), (4, .d), (5, .d), (6, .d), (7, .d), (8, .r), (9, .d), (10, .d)] rfl ?_
    refine r_d rfl rfl rfl (s_move rfl rfl) ?_
    refine r_d rfl rfl rfl (s_move rfl rfl) ?_
    refine r_d rfl rfl rfl (m_len (f := encA) l_a1 rfl el_L_api_Atom rfl (asl rfl)) ?_
    refine r_d rfl rfl rfl (s_cmp rfl rfl rfl rfl) ?_
    refine r_d rfl rfl rfl (s_move rfl rfl) ?_
    refine r_known 13 true rfl ht0 ?_
    refine r_d rfl rfl rfl (s_move rfl rfl) ?_
    refine r_d rfl rfl rfl (s_nilCheckR rfl rfl) ?_
    refine r_d rfl rfl rfl (s_fieldRef rfl fl_constraintref52_writer_1 rfl) ?_
    refine r_r rfl rfl rfl (t_loadRef rfl rfl (.head _) rfl rfl (by exact ty_bool) rfl) ?_
    refine r_d rfl rfl rfl (s_not rfl rfl) ?_
    refine r_d rfl rfl rfl (s_pickT rfl rfl rfl) ?_
    refine r_end ?_
    refine g_sB 19 rfl hr (fun h19_5 hr => ?_) (fun h19_5 hr => ?_)
    ·
     refine g_condT rfl ?_
     refine g_skip ?_
     refine g_seq ?_
     refine g_block ?_
     refine g_run (by kernel_rfl) [(0, .d), (1, .d), (2, .d), (3, .d), (4, .d), (5, .w)] rfl ?_
     refine r_d rfl rfl rfl (s_move rfl rfl) ?_
     refine r_d rfl rfl rfl (s_move rfl rfl) ?_
     refine r_d rfl rfl rfl (s_move rfl rfl) ?_
     refine r_d rfl rfl rfl (m_index (f := encA) l_a1 rfl el_L_api_Atom rfl (asl rfl) rfl hq0 sz_encA rfl) ?_
     refine r_d rfl rfl rfl (s_load rfl rfl (by exact ty_api_Atom) (sz_encA _)) ?_
     obtain ⟨r_7, hr_7, hr⟩ := bindS hr
     refine r_w rfl rfl rfl (s_call _ rfl cl_Pconstraintref52_writer_atom (.cons rfl (Wk.refl _) (.cons rfl (Wk.refl _) .nil)) (by exact (pf0 _)) (lg_Pconstraintref52_writer_atom_s1 fuel _ _ _ _ hr_7)) ?_
     rintro _ _ ⟨_, ⟨rfl, rfl⟩, rfl⟩
     refine r_st ((.cell b_o0 (enc_S_constraintref52_writer r_7)) :: _) rfl ?_
     refine r_end ?_
     refine g_inBlock ?_
     refine g_run (by kernel_rfl) [(0, .d), (1, .d), (2, .d)] rfl ?_
     refine r_d rfl rfl rfl (s_move rfl rfl) ?_
     refine r_d rfl rfl rfl (s_ar (r := ((i_2 + 1 : Nat) : Int)) rfl rfl rfl (by simp [iar]) (by omega)) ?_
     refine r_d rfl rfl rfl (s_assign rfl rfl) ?_
     refine r_end ?_
     refine g_sub [(0, .ref b_o0 0 []), (1, .lst (l_a1.map encA)), (4, .int .i64 ((i_2 + 1 : Nat) : Int))] (Sub.cons' rfl (Sub.cons' rfl (Sub.cons' rfl (Sub.nil _)))) ?_
     exact IH0 _ _ _ (by omega) ⟨(i_2 + 1), r_7, rfl, rfl, rfl, (by omega), hr⟩
    ·
     refine g_condF rfl ?_
     refine g_exit rfl ?_
     refine g_sub [] (Sub.nil _) ?_
     exact HK0 _ _ ⟨w_3, rfl, rfl, hr⟩

noncomputable def lf_Pconstraintref52_writer_goal_s1 (fuel : Nat) (g_a1 : Gl) (c_0 : S_constraintref52_writer) : Option (S_constraintref52_writer) :=
  ((x_rightG g_a1).bind fun r_1 =>
  (bif (!r_1) then
  some ((⟨c_0.f0_b, true⟩ : S_constraintref52_writer))
  else
  ((lf_Pconstraintref52_writer_num_s1 g_a1.op 0 12 c_0).bind fun r_3 =>
  ((lf_Pconstraintref52_writer_text_s1 g_a1.n r_3).bind fun r_4 =>
  ((lf_Pconstraintref52_writer_terms_s1 fuel g_a1.ts r_4).bind fun r_5 =>
  some (r_5))))))

set_option maxHeartbeats 1000000 in
theorem lg_Pconstraintref52_writer_goal_s1 (fuel : Nat) (g_a1 : Gl) (c_0 : S_constraintref52_writer) (b_o0 : Nat) (res : S_constraintref52_writer) (hr : lf_Pconstraintref52_writer_goal_s1 fuel g_a1 c_0 = some res) : Spec Tryz.prog 138 [.ref b_o0 0 [], encG g_a1] [.cell b_o0 (enc_S_constraintref52_writer c_0)] (fun d σ => d = .tup [] ∧ σ = [.cell b_o0 (enc_S_constraintref52_writer res)]) := by
  unfold lf_Pconstraintref52_writer_goal_s1 at hr
  refine spec_env [(0, .ref b_o0 0 []), (1, encG g_a1)] Tryz.func138 rfl rfl fun K hK => ?_
  refine g_seq ?_
  refine g_run (by kernel_rfl) [(0, .d)] rfl ?_
  refine r_d rfl rfl rfl (s_box rfl rfl rfl) ?_
  refine r_end ?_
  refine g_seq ?_
  refine g_seq ?_
  refine g_run (by kernel_rfl) [(0, .d), (1, .d), (2, .d)] rfl ?_
  refine r_d rfl rfl rfl (s_load rfl rfl (by exact ty_api_Goal) (sz_encG _)) ?_
  obtain ⟨r_1, hr_1, hr⟩ := bindS hr
  refine r_d rfl rfl rfl (s_callD rfl cl_constraintref03_RightGoal (.cons rfl (Wk.refl _) .nil) (lx_constraintref03_RightGoal _ _ hr_1)) ?_
  refine r_d rfl rfl rfl (s_not rfl rfl) ?_
  refine r_end ?_
  refine g_sB 6 rfl hr (fun h6_1 hr => ?_) (fun h6_1 hr => ?_)
  ·
   refine g_condT rfl ?_
   refine g_seq ?_
   refine g_run (by kernel_rfl) [(0, .d), (1, .d), (2, .d), (3, .w)] rfl ?_
   refine r_d rfl rfl rfl (s_move rfl rfl) ?_
   refine r_d rfl rfl rfl (s_nilCheckR rfl rfl) ?_
   refine r_d rfl rfl rfl (s_fieldRef rfl fl_constraintref52_writer_1 rfl) ?_
   refine r_w01 rfl rfl rfl (t_store _ rfl rfl rfl (Wk.refl _) (pf0 _) rfl rfl (by exact ty_bool) rfl rfl rfl) ?_
   refine r_end ?_
   obtain rfl := Option.some.inj hr
   refine g_ret Tryz.func138 _ .nil ?_
   exact ⟨rfl, rfl⟩
  ·
   refine g_condF rfl ?_
   refine g_skip ?_
   refine g_seq ?_
   refine g_run (by kernel_rfl) [(0, .d), (1, .d), (2, .d), (3, .w)] rfl ?_
   refine r_d rfl rfl rfl (s_move rfl rfl) ?_
   refine r_d rfl rfl rfl (s_fieldAddr rfl fl_api_Goal_0 rfl rfl rfl rfl) ?_
   refine r_d rfl rfl rfl (s_load rfl rfl (by exact ty_int) rfl) ?_
   obtain ⟨r_3, hr_3, hr⟩ := bindS hr
   refine r_w rfl rfl rfl (s_call _ rfl cl_Pconstraintref52_writer_num (.cons rfl (Wk.refl _) (.cons rfl (Wk.refl _) (.cons rfl (Wk.refl _) (.cons rfl (Wk.refl _) .nil)))) (by exact (pf0 _)) (lg_Pconstraintref52_writer_num_s1 _ _ _ _ _ _ hr_3)) ?_
   rintro _ _ ⟨_, ⟨rfl, rfl⟩, rfl⟩
   refine r_st ((.cell b_o0 (enc_S_constraintref52_writer r_3)) :: _) rfl ?_
   refine r_end ?_
   refine g_seq ?_
   refine g_run (by kernel_rfl) [(0, .d), (1, .d), (2, .d), (3, .w)] rfl ?_
   refine r_d rfl rfl rfl (s_move rfl rfl) ?_
   refine r_d rfl rfl rfl (s_fieldAddr rfl fl_api_Goal_1 rfl rfl rfl rfl) ?_
   refine r_d rfl rfl rfl (s_load rfl rfl (by exact ty_string) rfl) ?_
   obtain ⟨r_4, hr_4, hr⟩ := bindS hr
   refine r_w rfl rfl rfl (s_call _ rfl cl_Pconstraintref52_writer_text (.cons rfl (Wk.refl _) (.cons rfl (Wk.refl _) .nil)) (by exact (pf0 _)) (lg_Pconstraintref52_writer_text_s1 _ _ _ _ hr_4)) ?_
   rintro _ _ ⟨_, ⟨rfl, rfl⟩, rfl⟩
   refine r_st ((.cell b_o0 (enc_S_constraintref52_writer r_4)) :: _) rfl ?_
   refine r_end ?_
   refine g_run (by kernel_rfl) [(0, .d), (1, .d), (2, .d), (3, .w)] rfl ?_
   refine r_d rfl rfl rfl (s_move rfl rfl) ?_
   refine r_d rfl rfl rfl (s_fieldAddr rfl fl_api_Goal_2 rfl rfl rfl rfl) ?_
   refine r_d rfl rfl rfl (s_load rfl rfl (by exact ty_L_api_Term) rfl) ?_
   obtain ⟨r_5, hr_5, hr⟩ := bindS hr
   refine r_w rfl rfl rfl (s_call _ rfl cl_Pconstraintref52_writer_terms (.cons rfl (Wk.refl _) (.cons rfl (Wk.refl _) .nil)) (by exact (pf0 _)) (lg_Pconstraintref52_writer_terms_s1 fuel _ _ _ _ hr_5)) ?_
   rintro _ _ ⟨_, ⟨rfl, rfl⟩, rfl⟩
   refine r_st ((.cell b_o0 (enc_S_constraintref52_writer r_5)) :: _) rfl ?_
   refine r_end ?_
   obtain rfl := Option.some.inj hr
   refine g_end Tryz.func138 _ .nil ?_
   exact ⟨rfl, rfl⟩

noncomputable def lf_Pconstraintref52_writer_goals_s1_L0 (k : (S_constraintref52_writer) → Option (S_constraintref52_writer)) (fuel : Nat) : List Gl → S_constraintref52_writer → Option (S_constraintref52_writer)
  | [], w_3 =>
  (k w_3)
  | q_5 :: rest, w_3 =>
  (bif (!w_3.f1_bad) then
  ((lf_Pconstraintref52_writer_goal_s1 fuel q_5 w_3).bind fun r_7 =>
  (lf_Pconstraintref52_writer_goals_s1_L0 k fuel rest r_7))
  else
  (k w_3))
noncomputable def lf_Pconstraintref52_writer_goals_s1 (fuel : Nat) (l_a1 : (List Gl)) (c_0 : S_constraintref52_writer) : Option (S_constraintref52_writer) :=
  ((lf_Pconstraintref52_writer_num_s1 (l_a1.length : Int) 0 12 c_0).bind fun r_1 =>
  (lf_Pconstraintref52_writer_goals_s1_L0 (fun w_4 =>
  some (w_4)) fuel l_a1 r_1))

set_option maxHeartbeats 1000000 in
theorem lg_Pconstraintref52_writer_goals_s1 (fuel : Nat) (l_a1 : (List Gl)) (c_0 : S_constraintref52_writer) (b_o0 : Nat) (res : S_constraintref52_writer) (hr : lf_Pconstraintref52_writer_goals_s1 fuel l_a1 c_0 = some res) : Spec Tryz.prog 44 [.ref b_o0 0 [], .lst (l_a1.map encG)] [.cell b_o0 (enc_S_constraintref52_writer c_0)] (fun d σ => d = .tup [] ∧ σ = [.cell b_o0 (enc_S_constraintref52_writer res)]) := by
  unfold lf_Pconstraintref52_writer_goals_s1 at hr
  refine spec_env [(0, .ref b_o0 0 []), (1, .lst (l_a1.map encG))] Tryz.func44 rfl rfl fun K hK => ?_
  refine g_seq ?_
  refine g_run (by kernel_rfl) [(0, .d), (1, .d), (2, .d), (3, .w)] rfl ?_
  refine r_d rfl rfl rfl (s_move rfl rfl) ?_
  refine r_d rfl rfl rfl (s_move rfl rfl) ?_
  refine r_d rfl rfl rfl (m_len (f := encG) l_a1 rfl el_L_api_Goal rfl (asl rfl)) ?_
  obtain ⟨r_1, hr_1, hr⟩ := bindS hr
  refine r_w rfl rfl rfl (s_call _ rfl cl_Pconstraintref52_writer_num (.cons rfl (Wk.refl _) (.cons rfl (Wk.refl _) (.cons rfl (Wk.refl _) (.cons rfl (Wk.refl _) .nil)))) (by exact (pf0 _)) (lg_Pconstraintref52_writer_num_s1 _ _ _ _ _ _ hr_1)) ?_
  rintro _ _ ⟨_, ⟨rfl, rfl⟩, rfl⟩
  refine r_st ((.cell b_o0 (enc_S_constraintref52_writer r_1)) :: _) rfl ?_
  refine r_end ?_
  refine g_seq ?_
  refine g_run (by kernel_rfl) [(0, .d)] rfl ?_
  refine r_d rfl rfl rfl (s_assign rfl rfl) ?_
  refine r_end ?_
  obtain ⟨kk0, hkk0, hr⟩ := exK (fun k => lf_Pconstraintref52_writer_goals_s1_L0 k fuel l_a1 r_1) hr
  refine g_len 1 rfl (asl rfl) fun hla0 => ?_
  simp only [List.length_map] at hla0
  refine g_blockJ (fun env σ => ∃ (w_4 : S_constraintref52_writer), env = [] ∧ σ = [.cell b_o0 (enc_S_constraintref52_writer w_4)] ∧ kk0 w_4 = some res) ?_ (fun HK0 => ?_)
  ·
   rintro _ _ ⟨w_4, rfl, rfl, hr⟩
   rw [hkk0] at hr
   obtain rfl := Option.some.inj hr
   refine g_end Tryz.func44 _ .nil ?_
   exact ⟨rfl, rfl⟩
  ·
   refine g_sub [(0, .ref b_o0 0 []), (1, .lst (l_a1.map encG)), (4, .int .i64 ((0 : Nat) : Int))] (Sub.cons' rfl (Sub.cons' rfl (Sub.cons' rfl (Sub.nil _)))) ?_
   refine g_loop (fun n env σ => ∃ (i_2 : Nat) (w_3 : S_constraintref52_writer), (n = l_a1.length - i_2) ∧ (env = [(0, .ref b_o0 0 []), (1, .lst (l_a1.map encG)), (4, .int .i64 (i_2 : Int))]) ∧ (σ = [.cell b_o0 (enc_S_constraintref52_writer w_3)]) ∧ (i_2 ≤ l_a1.length) ∧ (lf_Pconstraintref52_writer_goals_s1_L0 kk0 fuel (l_a1.drop i_2) w_3 = some res)) _ ⟨0, r_1, rfl, rfl, rfl, Nat.zero_le _, hr⟩ ?_
   rintro n _ _ ⟨i_2, w_3, rfl, rfl, rfl, hi0, hr⟩ IH0
   rcases listStep l_a1 i_2 hi0 with ⟨ht0, hd0, he0⟩ | ⟨q_5, ht0, hd0, hq0, hlt0⟩
   ·
    rw [hd0, lf_Pconstraintref52_writer_goals_s1_L0] at hr
    refine g_seq ?_
    refine g_seq ?_
    refine g_run (by kernel_rfl) [(0, .d), (1, .d), (2, .d), (3, .d), (4, .d), (5, .d), (6, .d), (7, .d), (8, .r), (9, .d), (10, .d)] rfl ?_
    refine r_d rfl rfl rfl (s_move rfl rfl) ?_
    refine r_d rfl rfl rfl (s_move rfl rfl) ?_
    refine r_d rfl rfl rfl (m_len (f := encG) l_a1 rfl el_L_api_Goal rfl (asl rfl)) ?_
    refine r_d rfl rfl rfl (s_cmp rfl rfl rfl rfl) ?_
    refine r_d rfl rfl rfl (s_move rfl rfl) ?_
    refine r_known 13 false rfl ht0 ?_
    refine r_skip rfl rfl rfl ?_
    refine r_skip rfl rfl rfl ?_
    refine r_skip rfl rfl rfl ?_
    refine r_skip rfl rfl rfl ?_
    refine r_skip rfl rfl rfl ?_
    refine r_d rfl rfl rfl (s_pickF rfl rfl rfl) ?_
    refine r_end ?_
    refine g_condF rfl ?_
    refine g_exit rfl ?_
    refine g_sub [] (Sub.nil _) ?_
    exact HK0 _ _ ⟨w_3, rfl, rfl, hr⟩
   ·
    rw [hd0, lf_Pconstraintref52_writer_goals_s1_L0] at hr
    refine g_seq ?_
    refine g_seq ?_
    refine g_run (by kernel_rfl) [(0, .d), (1, .d), (2, .d), (3, .d), (4, .d), (5, .d), (6, .d), (7, .d), (8, .r), (9, .d), (10, .d)] rfl ?_
    refine r_d rfl rfl rfl (s_move rfl rfl) ?_
    refine r_d rfl rfl rfl (s_move rfl rfl) ?_
    refine r_d rfl rfl rfl (m_len (f := encG) l_a1 rfl el_L_api_Goal rfl (asl rfl)) ?_
    refine r_d rfl rfl rfl (s_cmp rfl rfl rfl rfl) ?_
    refine r_d rfl rfl rfl (s_move rfl rfl) ?_
    refine r_known 13 true rfl ht0 ?_
    refine r_d rfl rfl rfl (s_move rfl rfl) ?_
    refine r_d rfl rfl rfl (s_nilCheckR rfl rfl) ?_
    refine r_d rfl rfl rfl (s_fieldRef rfl fl_constraintref52_writer_1 rfl) ?_
    refine r_r rfl rfl rfl (t_loadRef rfl rfl (.head _) rfl rfl (by exact ty_bool) rfl) ?_
    refine r_d rfl rfl rfl (s_not rfl rfl) ?_
    refine r_d rfl rfl rfl (s_pickT rfl rfl rfl) ?_
    refine r_end ?_
    refine g_sB 19 rfl hr (fun h19_5 hr => ?_) (fun h19_5 hr => ?_)
    ·
     refine g_condT rfl ?_
     refine g_skip ?_
     refine g_seq ?_
     refine g_block ?_
     refine g_run (by kernel_rfl) [(0, .d), (1, .d), (2, .d), (3, .d), (4, .d), (5, .w)] rfl ?_
     refine r_d rfl rfl rfl (s_move rfl rfl) ?_
     refine r_d rfl rfl rfl (s_move rfl rfl) ?_
     refine r_d rfl rfl rfl (s_move rfl rfl) ?_
     refine r_d rfl rfl rfl (m_index (f := encG) l_a1 rfl el_L_api_Goal rfl (asl rfl) rfl hq0 sz_encG rfl) ?_
     refine r_d rfl rfl rfl (s_load rfl rfl (by exact ty_api_Goal) (sz_encG _)) ?_
     obtain ⟨r_7, hr_7, hr⟩ := bindS hr
     refine r_w rfl rfl rfl (s_call _ rfl cl_Pconstraintref52_writer_goal (.cons rfl (Wk.refl _) (.cons rfl (Wk.refl _) .nil)) (by exact (pf0 _)) (lg_Pconstraintref52_writer_goal_s1 fuel _ _ _ _ hr_7)) ?_
     rintro _ _ ⟨_, ⟨rfl, rfl⟩, rfl⟩
     refine r_st ((.cell b_o0 (enc_S_constraintref52_writer r_7)) :: _) rfl ?_
     refine r_end ?_
     refine g_inBlock ?_
     refine g_run (by kernel_rfl) [(0, .d), (1, .d), (2, .d)] rfl ?_
     refine r_d rfl rfl rfl (s_move rfl rfl) ?_
     refine r_d rfl rfl rfl (s_ar (r := ((i_2 + 1 : Nat) : Int)) rfl rfl rfl (by simp [iar]) (by omega)) ?_
     refine r_d rfl rfl rfl (s_assign rfl rfl) ?_
     refine r_end ?_
     refine g_sub [(0, .ref b_o0 0 []), (1, .lst (l_a1.map encG)), (4, .int .i64 ((i_2 + 1 : Nat) : Int))] (Sub.cons' rfl (Sub.cons' rfl (Sub.cons' rfl (Sub.nil _)))) ?_
     exact IH0 _ _ _ (by omega) ⟨(i_2 + 1), r_7, rfl, rfl, rfl, (by omega), hr⟩
    ·
     refine g_condF rfl ?_
     refine g_exit rfl ?_
     refine g_sub [] (Sub.nil _) ?_
     exact HK0 _ _ ⟨w_3, rfl, rfl, hr⟩

noncomputable def lf_Pconstraintref52_writer_bytes_s1 (c_0 : S_constraintref52_writer) : Option ((List Int)) :=
  (bif c_0.f1_bad then
  some ([])
  else
  some (c_0.f0_b))

set_option maxHeartbeats 1000000 in
theorem lg_Pconstraintref52_writer_bytes_s1 (c_0 : S_constraintref52_writer) (b_o0 : Nat) (res : (List Int)) (hr : lf_Pconstraintref52_writer_bytes_s1 c_0 = some res) : Spec Tryz.prog 45 [.ref b_o0 0 []] [.cell b_o0 (enc_S_constraintref52_writer c_0)] (fun d σ => d = .lst (res.map (D.int .u8)) ∧ σ = [.cell b_o0 (enc_S_constraintref52_writer c_0)]) := by
  unfold lf_Pconstraintref52_writer_bytes_s1 at hr
  refine spec_env [(0, .ref b_o0 0 [])] Tryz.func45 rfl rfl fun K hK => ?_
  refine g_seq ?_
  refine g_run (by kernel_rfl) [(0, .d)] rfl ?_
  refine r_d rfl rfl rfl (s_assign rfl rfl) ?_
  refine r_end ?_
  refine g_seq ?_
  refine g_seq ?_
  refine g_run (by kernel_rfl) [(0, .d), (1, .d), (2, .d), (3, .r)] rfl ?_
  refine r_d rfl rfl rfl (s_move rfl rfl) ?_
  refine r_d rfl rfl rfl (s_nilCheckR rfl rfl) ?_
  refine r_d rfl rfl rfl (s_fieldRef rfl fl_constraintref52_writer_1 rfl) ?_
  refine r_r rfl rfl rfl (t_loadRef rfl rfl (.head _) rfl rfl (by exact ty_bool) rfl) ?_
  refine r_end ?_
  refine g_sB 6 rfl hr (fun h6_0 hr => ?_) (fun h6_0 hr => ?_)
  ·
   refine g_condT rfl ?_
   refine g_seq ?_
   refine g_run (by kernel_rfl) [(0, .d)] rfl ?_
   refine r_d rfl rfl rfl (s_assign rfl rfl) ?_
   refine r_end ?_
   obtain rfl := Option.some.inj hr
   refine g_ret Tryz.func45 _ (.cons (resTmp rfl (Wk.full _)) .nil) ?_
   exact ⟨rfl, rfl⟩
  ·
   refine g_condF rfl ?_
   refine g_skip ?_
   refine g_seq ?_
   refine g_run (by kernel_rfl) [(0, .d), (1, .d), (2, .d), (3, .r), (4, .d)] rfl ?_
   refine r_d rfl rfl rfl (s_move rfl rfl) ?_
   refine r_d rfl rfl rfl (s_nilCheckR rfl rfl) ?_
   refine r_d rfl rfl rfl (s_fieldRef rfl fl_constraintref52_writer_0 rfl) ?_
   refine r_r rfl rfl rfl (t_loadRef rfl rfl (.head _) rfl rfl (by exact ty_L_uint8) rfl) ?_
   refine r_d rfl rfl rfl (s_assign rfl rfl) ?_
   refine r_end ?_
   obtain rfl := Option.some.inj hr
   refine g_ret Tryz.func45 _ (.cons (resTmp rfl (Wk.refl _)) .nil) ?_
   exact ⟨rfl, rfl⟩

noncomputable def lf_constraintref52_Program_L1 (k : (S_constraintref52_writer) → Option ((List Int))) (fuel : Nat) : List S_api_Rule → S_constraintref52_writer → Option ((List Int))
  | [], w_9 =>
  (k w_9)
  | q_12 :: rest, w_9 =>
  (bif (!w_9.f1_bad) then
  ((lf_Pconstraintref52_writer_text_s1 q_12.f0_Name w_9).bind fun r_14 =>
  ((lf_Pconstraintref52_writer_atoms_s1 fuel q_12.f1_Keep r_14).bind fun r_15 =>
  ((lf_Pconstraintref52_writer_atoms_s1 fuel q_12.f2_Remove r_15).bind fun r_16 =>
  ((lf_Pconstraintref52_writer_goals_s1 fuel q_12.f3_Guard r_16).bind fun r_17 =>
  ((lf_Pconstraintref52_writer_goals_s1 fuel q_12.f4_Body r_17).bind fun r_18 =>
  ((lf_Pconstraintref52_writer_num_s1 q_12.f5_Vars 0 1048576 r_18).bind fun r_19 =>
  (lf_constraintref52_Program_L1 k fuel rest r_19)))))))
  else
  (k w_9))

noncomputable def lf_constraintref52_Program_L0 (k : (S_constraintref52_writer) → Option ((List Int))) : List S_api_Decl → S_constraintref52_writer → Option ((List Int))
  | [], t7_5 =>
  (k t7_5)
  | q_20 :: rest, t7_5 =>
  (bif (!t7_5.f1_bad) then
  ((lf_Pconstraintref52_writer_text_s1 q_20.f0_Name t7_5).bind fun r_22 =>
  ((lf_Pconstraintref52_writer_num_s1 q_20.f1_Arity 0 6 r_22).bind fun r_23 =>
  (lf_constraintref52_Program_L0 k rest r_23)))
  else
  (k t7_5))
noncomputable def lf_constraintref52_Program (fuel : Nat) (p_a0 : S_api_Program) : Option ((List Int)) :=
  ((lf_Pconstraintref52_writer_num_s1 1 1 1 (⟨[], false⟩ : S_constraintref52_writer)).bind fun r_2 =>
  ((lf_Pconstraintref52_writer_num_s1 (p_a0.f0_Decls.length : Int) 0 30 r_2).bind fun r_3 =>
  (lf_constraintref52_Program_L0 (fun t7_6 =>
  ((lf_Pconstraintref52_writer_num_s1 (p_a0.f1_Rules.length : Int) 0 40 t7_6).bind fun r_7 =>
  (lf_constraintref52_Program_L1 (fun w_10 =>
  ((lf_Pconstraintref52_writer_bytes_s1 w_10).bind fun r_11 =>
  some (r_11))) fuel p_a0.f1_Rules r_7))) p_a0.f0_Decls r_3)))

set_option maxHeartbeats 1000000 in
theorem lg_constraintref52_Program (fuel : Nat) (p_a0 : S_api_Program) (res : (List Int)) (hr : lf_constraintref52_Program fuel p_a0 = some res) : Gives Tryz.prog 13 [enc_S_api_Program p_a0] (.lst (res.map (D.int .u8))) := by
  unfold lf_constraintref52_Program at hr
  refine spec_env [(0, enc_S_api_Program p_a0)] Tryz.func13 rfl rfl fun K hK => ?_
  refine g_seq ?_
  refine g_run (by kernel_rfl) [(0, .d), (1, .d)] rfl ?_
  refine r_d rfl rfl rfl (s_box rfl rfl rfl) ?_
  refine r_d rfl rfl rfl (s_assign rfl rfl) ?_
  refine r_end ?_
  refine g_seq ?_
  refine g_run (by kernel_rfl) [(0, .d), (1, .w), (2, .d)] rfl ?_
  refine r_d rfl rfl rfl (s_build rfl bt_constraintref52_writer .nil (.nil _)) ?_
  refine r_w rfl rfl rfl (s_boxRef rfl rfl rfl) ?_
  rintro _ _ ⟨b7_0, rfl, rfl⟩
  refine r_d rfl rfl rfl (s_assign rfl rfl) ?_
  refine r_end ?_
  refine g_seq ?_
  refine g_run (by kernel_rfl) [(0, .d), (1, .w)] rfl ?_
  refine r_d rfl rfl rfl (s_move rfl rfl) ?_
  obtain ⟨r_2, hr_2, hr⟩ := bindS hr
  refine r_w rfl rfl rfl (s_call _ rfl cl_Pconstraintref52_writer_num (.cons rfl (Wk.refl _) (.cons rfl (Wk.refl _) (.cons rfl (Wk.refl _) (.cons rfl (Wk.refl _) .nil)))) (by exact (pf0 _)) (lg_Pconstraintref52_writer_num_s1 _ _ _ _ _ _ hr_2)) ?_
  rintro _ _ ⟨_, ⟨rfl, rfl⟩, rfl⟩
  refine r_st ((.cell b7_0 (enc_S_constraintref52_writer r_2)) :: _) rfl ?_
  refine r_end ?_
  refine g_seq ?_
  refine g_run (by kernel_rfl) [(0, .d), (1, .d), (2, .d), (3, .d), (4, .w)] rfl ?_
  refine r_d rfl rfl rfl (s_move rfl rfl) ?_
  refine r_d rfl rfl rfl (s_fieldAddr rfl fl_api_Program_0 rfl rfl rfl rfl) ?_
  refine r_d rfl rfl rfl (s_load rfl rfl (by exact ty_L_api_Decl) rfl) ?_
  refine r_d rfl rfl rfl (m_len (f := enc_S_api_Decl) p_a0.f0_Decls rfl el_L_api_Decl rfl (asl rfl)) ?_
  obtain ⟨r_3, hr_3, hr⟩ := bindS hr
  refine r_w rfl rfl rfl (s_call _ rfl cl_Pconstraintref52_writer_num (.cons rfl (Wk.refl _) (.cons rfl (Wk.refl _) (.cons rfl (Wk.refl _) (.cons rfl (Wk.refl _) .nil)))) (by exact (pf0 _)) (lg_Pconstraintref52_writer_num_s1 _ _ _ _ _ _ hr_3)) ?_
  rintro _ _ ⟨_, ⟨rfl, rfl⟩, rfl⟩
  refine r_st ((.cell b7_0 (enc_S_constraintref52_writer r_3)) :: _) rfl ?_
  refine r_end ?_
  refine g_seq ?_
  refine g_seq ?_
  refine g_run (by kernel_rfl) [(0, .d)] rfl ?_
  refine r_d rfl rfl rfl (s_assign rfl rfl) ?_
  refine r_end ?_
  obtain ⟨kk0, hkk0, hr⟩ := exK (fun k => lf_constraintref52_Program_L0 k p_a0.f0_Decls r_3) hr
  refine g_len 12 rfl (asl rfl) fun hla0 => ?_
  simp only [List.length_map] at hla0
  refine g_blockJ (fun env σ => ∃ (t7_6 : S_constraintref52_writer), env = [(1, .ptr (enc_S_api_Program p_a0)), (3, .ref b7_0 0 [])] ∧ σ = [.cell b7_0 (enc_S_constraintref52_writer t7_6)] ∧ kk0 t7_6 = some res) ?_ (fun HK0 => ?_)
  ·
   rintro _ _ ⟨t7_6, rfl, rfl, hr⟩
   rw [hkk0] at hr
   refine g_seq ?_
   refine g_run (by kernel_rfl) [(0, .d), (1, .d), (2, .d), (3, .d), (4, .w)] rfl ?_
   refine r_d rfl rfl rfl (s_move rfl rfl) ?_
   refine r_d rfl rfl rfl (s_fieldAddr rfl fl_api_Program_1 rfl rfl rfl rfl) ?_
   refine r_d rfl rfl rfl (s_load rfl rfl (by exact ty_L_api_Rule) rfl) ?_
   refine r_d rfl rfl rfl (m_len (f := enc_S_api_Rule) p_a0.f1_Rules rfl el_L_api_Rule rfl (asl rfl)) ?_
   obtain ⟨r_7, hr_7, hr⟩ := bindS hr
   refine r_w rfl rfl rfl (s_call _ rfl cl_Pconstraintref52_writer_num (.cons rfl (Wk.refl _) (.cons rfl (Wk.refl _) (.cons rfl (Wk.refl _) (.cons rfl (Wk.refl _) .nil)))) (by exact (pf0 _)) (lg_Pconstraintref52_writer_num_s1 _ _ _ _ _ _ hr_7)) ?_
   rintro _ _ ⟨_, ⟨rfl, rfl⟩, rfl⟩
   refine r_st ((.cell b7_0 (enc_S_constraintref52_writer r_7)) :: _) rfl ?_
   refine r_end ?_
   refine g_seq ?_
   refine g_seq ?_
   refine g_run (by kernel_rfl) [(0, .d)] rfl ?_
   refine r_d rfl rfl rfl (s_assign rfl rfl) ?_
   refine r_end ?_
   obtain ⟨kk1, hkk1, hr⟩ := exK (fun k => lf_constraintref52_Program_L1 k fuel p_a0.f1_Rules r_7) hr
   refine g_len 47 rfl (asl rfl) fun hla1 => ?_
   simp only [List.length_map] at hla1
   refine g_blockJ (fun env σ => ∃ (w_10 : S_constraintref52_writer), env = [(3, .ref b7_0 0 [])] ∧ σ = [.cell b7_0 (enc_S_constraintref52_writer w_10)] ∧ kk1 w_10 = some res) ?_ (fun HK1 => ?_)
   ·
    rintro _ _ ⟨w_10, rfl, rfl, hr⟩
    rw [hkk1] at hr
    refine g_seq ?_
    refine g_run (by kernel_rfl) [(0, .d), (1, .w), (2, .d)] rfl ?_
    refine r_d rfl rfl rfl (s_move rfl rfl) ?_
    obtain ⟨r_11, hr_11, hr⟩ := bindS hr
    refine r_w rfl rfl rfl (s_call _ rfl cl_Pconstraintref52_writer_bytes (.cons rfl (Wk.refl _) .nil) (by exact (pf0 _)) (lg_Pconstraintref52_writer_bytes_s1 _ _ _ hr_11)) ?_
    rintro _ _ ⟨_, ⟨rfl, rfl⟩, rfl⟩
    refine r_st ((.cell b7_0 (enc_S_constraintref52_writer w_10)) :: _) rfl ?_
    refine r_d rfl rfl rfl (s_assign rfl rfl) ?_
    refine r_end ?_
    obtain rfl := Option.some.inj hr
    refine g_ret Tryz.func13 _ (.cons (resTmp rfl (Wk.refl _)) .nil) ?_
    rfl
   ·
    refine g_sub [(1, .ptr (enc_S_api_Program p_a0)), (3, .ref b7_0 0 []), (5, .int .i64 ((0 : Nat) : Int))] (Sub.cons' rfl (Sub.cons' rfl (Sub.cons' rfl (Sub.nil _)))) ?_
    refine g_loop (fun n env σ => ∃ (i_8 : Nat) (w_9 : S_constraintref52_writer), (n = p_a0.f1_Rules.length - i_8) ∧ (env = [(1, .ptr (enc_S_api_Program p_a0)), (3, .ref b7_0 0 []), (5, .int .i64 (i_8 : Int))]) ∧ (σ = [.cell b7_0 (enc_S_constraintref52_writer w_9)]) ∧ (i_8 ≤ p_a0.f1_Rules.length) ∧ (lf_constraintref52_Program_L1 kk1 fuel (p_a0.f1_Rules.drop i_8) w_9 = some res)) _ ⟨0, r_7, rfl, rfl, rfl, Nat.zero_le _, hr⟩ ?_
    rintro n _ _ ⟨i_8, w_9, rfl, rfl, rfl, hi1, hr⟩ IH1
    rcases listStep p_a0.f1_Rules i_8 hi1 with ⟨ht1, hd1, he1⟩ | ⟨q_12, ht1, hd1, hq1, hlt1⟩
    ·
     rw [hd1, lf_constraintref52_Program_L1] at hr
     refine g_seq ?_
     refine g_seq ?_
     refine g_run (by kernel_rfl) [(0, .d), (1, .d), (2, .d), (3, .d), (4, .d), (5, .d), (6, .d), (7, .d), (8, .d), (9, .r), (10, .d), (11, .d)] rfl ?_
     refine r_d rfl rfl rfl (s_move rfl rfl) ?_
     refine r_d rfl rfl rfl (s_fieldAddr rfl fl_api_Program_1 rfl rfl rfl rfl) ?_
     refine r_d rfl rfl rfl (s_load rfl rfl (by exact ty_L_api_Rule) rfl) ?_
     refine r_d rfl rfl rfl (m_len (f := enc_S_api_Rule) p_a0.f1_Rules rfl el_L_api_Rule rfl (asl rfl)) ?_
     refine r_d rfl rfl rfl (s_cmp rfl rfl rfl rfl) ?_
     refine r_d rfl rfl rfl (s_move rfl rfl) ?_
     refine r_known 55 false rfl ht1 ?_
     refine r_skip rfl rfl rfl ?_
     refine r_skip rfl rfl rfl ?_
     refine r_skip rfl rfl rfl ?_
     refine r_skip rfl rfl rfl ?_
     refine r_skip rfl rfl rfl ?_
     refine r_d rfl rfl rfl (s_pickF rfl rfl rfl) ?_
     refine r_end ?_
     refine g_condF rfl ?_
     refine g_exit rfl ?_
     refine g_sub [(3, .ref b7_0 0 [])] (Sub.cons' rfl (Sub.nil _)) ?_
     exact HK1 _ _ ⟨w_9, rfl, rfl, hr⟩
    ·
     rw [hd1, lf_constraintref52_Program_L1] at hr
     refine g_seq ?_
     refine g_seq ?_
     refine g_run (by kernel_rfl) [(0, .d), (1, .d), (2, .d), (3, .d), (4, .d), (5, .d), (6, .d), (7, .d), (8, .d), (9, .r), (10, .d), (11, .d)] rfl ?_
     refine r_d rfl rfl rfl (s_move rfl rfl) ?_
     refine r_d rfl rfl rfl (s_fieldAddr rfl fl_api_Program_1 rfl rfl rfl rfl) ?_
     refine r_d rfl rfl rfl (s_load rfl rfl (by exact ty_L_api_Rule) rfl) ?_
     refine r_d rfl rfl rfl (m_len (f := enc_S_api_Rule) p_a0.f1_Rules rfl el_L_api_Rule rfl (asl rfl)) ?_
     refine r_d rfl rfl rfl (s_cmp rfl rfl rfl rfl) ?_
     refine r_d rfl rfl rfl (s_move rfl rfl) ?_
     refine r_known 55 true rfl ht1 ?_
     refine r_d rfl rfl rfl (s_move rfl rfl) ?_
     refine r_d rfl rfl rfl (s_nilCheckR rfl rfl) ?_
     refine r_d rfl rfl rfl (s_fieldRef rfl fl_constraintref52_writer_1 rfl) ?_
     refine r_r rfl rfl rfl (t_loadRef rfl rfl (.head _) rfl rfl (by exact ty_bool) rfl) ?_
     refine r_d rfl rfl rfl (s_not rfl rfl) ?_
     refine r_d rfl rfl rfl (s_pickT rfl rfl rfl) ?_
     refine r_end ?_
     refine g_sB 61 rfl hr (fun h61_12 hr => ?_) (fun h61_12 hr => ?_)
     ·
      refine g_condT rfl ?_
      refine g_skip ?_
      refine g_seq ?_
      refine g_block ?_
      refine g_seq ?_
      refine g_run (by kernel_rfl) [(0, .d), (1, .d), (2, .d), (3, .d), (4, .d), (5, .d), (6, .d), (7, .w)] rfl ?_
      refine r_d rfl rfl rfl (s_move rfl rfl) ?_
      refine r_d rfl rfl rfl (s_fieldAddr rfl fl_api_Program_1 rfl rfl rfl rfl) ?_
      refine r_d rfl rfl rfl (s_load rfl rfl (by exact ty_L_api_Rule) rfl) ?_
      refine r_d rfl rfl rfl (s_move rfl rfl) ?_
      refine r_d rfl rfl rfl (m_index (f := enc_S_api_Rule) p_a0.f1_Rules rfl el_L_api_Rule rfl (asl rfl) rfl hq1 sz_S_api_Rule rfl) ?_
      refine r_d rfl rfl rfl (s_fieldAddr rfl fl_api_Rule_0 rfl rfl rfl rfl) ?_
      refine r_d rfl rfl rfl (s_load rfl rfl (by exact ty_string) rfl) ?_
      obtain ⟨r_14, hr_14, hr⟩ := bindS hr
      refine r_w rfl rfl rfl (s_call _ rfl cl_Pconstraintref52_writer_text (.cons rfl (Wk.refl _) (.cons rfl (Wk.refl _) .nil)) (by exact (pf0 _)) (lg_Pconstraintref52_writer_text_s1 _ _ _ _ hr_14)) ?_
      rintro _ _ ⟨_, ⟨rfl, rfl⟩, rfl⟩
      refine r_st ((.cell b7_0 (enc_S_constraintref52_writer r_14)) :: _) rfl ?_
      refine r_end ?_
      refine g_seq ?_
      refine g_run (by kernel_rfl) [(0, .d), (1, .d), (2, .d), (3, .d), (4, .d), (5, .d), (6, .d), (7, .w)] rfl ?_
      refine r_d rfl rfl rfl (s_move rfl rfl) ?_
      refine r_d rfl rfl rfl (s_fieldAddr rfl fl_api_Program_1 rfl rfl rfl rfl) ?_
      refine r_d rfl rfl rfl (s_load rfl rfl (by exact ty_L_api_Rule) rfl) ?_
      refine r_d rfl rfl rfl (s_move rfl rfl) ?_
      refine r_d rfl rfl rfl (m_index (f := enc_S_api_Rule) p_a0.f1_Rules rfl el_L_api_Rule rfl (asl rfl) rfl hq1 sz_S_api_Rule rfl) ?_
      refine r_d rfl rfl rfl (s_fieldAddr rfl fl_api_Rule_1 rfl rfl rfl rfl) ?_
      refine r_d rfl rfl rfl (s_load rfl rfl (by exact ty_L_api_Atom) rfl) ?_
      obtain ⟨r_15, hr_15, hr⟩ := bindS hr
      refine r_w rfl rfl rfl (s_call _ rfl cl_Pconstraintref52_writer_atoms (.cons rfl (Wk.refl _) (.cons rfl (Wk.refl _) .nil)) (by exact (pf0 _)) (lg_Pconstraintref52_writer_atoms_s1 fuel _ _ _ _ hr_15)) ?_
      rintro _ _ ⟨_, ⟨rfl, rfl⟩, rfl⟩
      refine r_st ((.cell b7_0 (enc_S_constraintref52_writer r_15)) :: _) rfl ?_
      refine r_end ?_
      refine g_seq ?_
      refine g_run (by kernel_rfl) [(0, .d), (1, .d), (2, .d), (3, .d), (4, .d), (5, .d), (6, .d), (7, .w)] rfl ?_
      refine r_d rfl rfl rfl (s_move rfl rfl) ?_
      refine r_d rfl rfl rfl (s_fieldAddr rfl fl_api_Program_1 rfl rfl rfl rfl) ?_
      refine r_d rfl rfl rfl (s_load rfl rfl (by exact ty_L_api_Rule) rfl) ?_
      refine r_d rfl rfl rfl (s_move rfl rfl) ?_
      refine r_d rfl rfl rfl (m_index (f := enc_S_api_Rule) p_a0.f1_Rules rfl el_L_api_Rule rfl (asl rfl) rfl hq1 sz_S_api_Rule rfl) ?_
      refine r_d rfl rfl rfl (s_fieldAddr rfl fl_api_Rule_2 rfl rfl rfl rfl) ?_
      refine r_d rfl rfl rfl (s_load rfl rfl (by exact ty_L_api_Atom) rfl) ?_
      obtain ⟨r_16, hr_16, hr⟩ := bindS hr
      refine r_w rfl rfl rfl (s_call _ rfl cl_Pconstraintref52_writer_atoms (.cons rfl (Wk.refl _) (.cons rfl (Wk.refl _) .nil)) (by exact (pf0 _)) (lg_Pconstraintref52_writer_atoms_s1 fuel _ _ _ _ hr_16)) ?_
      rintro _ _ ⟨_, ⟨rfl, rfl⟩, rfl⟩
      refine r_st ((.cell b7_0 (enc_S_constraintref52_writer r_16)) :: _) rfl ?_
      refine r_end ?_
      refine g_seq ?_
      refine g_run (by kernel_rfl) [(0, .d), (1, .d), (2, .d), (3, .d), (4, .d), (5, .d), (6, .d), (7, .w)] rfl ?_
      refine r_d rfl rfl rfl (s_move rfl rfl) ?_
      refine r_d rfl rfl rfl (s_fieldAddr rfl fl_api_Program_1 rfl rfl rfl rfl) ?_
      refine r_d rfl rfl rfl (s_load rfl rfl (by exact ty_L_api_Rule) rfl) ?_
      refine r_d rfl rfl rfl (s_move rfl rfl) ?_
      refine r_d rfl rfl rfl (m_index (f := enc_S_api_Rule) p_a0.f1_Rules rfl el_L_api_Rule rfl (asl rfl) rfl hq1 sz_S_api_Rule rfl) ?_
      refine r_d rfl rfl rfl (s_fieldAddr rfl fl_api_Rule_3 rfl rfl rfl rfl) ?_
      refine r_d rfl rfl rfl (s_load rfl rfl (by exact ty_L_api_Goal) rfl) ?_
      obtain ⟨r_17, hr_17, hr⟩ := bindS hr
      refine r_w rfl rfl rfl (s_call _ rfl cl_Pconstraintref52_writer_goals (.cons rfl (Wk.refl _) (.cons rfl (Wk.refl _) .nil)) (by exact (pf0 _)) (lg_Pconstraintref52_writer_goals_s1 fuel _ _ _ _ hr_17)) ?_
      rintro _ _ ⟨_, ⟨rfl, rfl⟩, rfl⟩
      refine r_st ((.cell b7_0 (enc_S_constraintref52_writer r_17)) :: _) rfl ?_
      refine r_end ?_
      refine g_seq ?_
      refine g_run (by kernel_rfl) [(0, .d), (1, .d), (2, .d), (3, .d), (4, .d), (5, .d), (6, .d), (7, .w)] rfl ?_
      refine r_d rfl rfl rfl (s_move rfl rfl) ?_
      refine r_d rfl rfl rfl (s_fieldAddr rfl fl_api_Program_1 rfl rfl rfl rfl) ?_
      refine r_d rfl rfl rfl (s_load rfl rfl (by exact ty_L_api_Rule) rfl) ?_
      refine r_d rfl rfl rfl (s_move rfl rfl) ?_
      refine r_d rfl rfl rfl (m_index (f := enc_S_api_Rule) p_a0.f1_Rules rfl el_L_api_Rule rfl (asl rfl) rfl hq1 sz_S_api_Rule rfl) ?_
      refine r_d rfl rfl rfl (s_fieldAddr rfl fl_api_Rule_4 rfl rfl rfl rfl) ?_
      refine r_d rfl rfl rfl (s_load rfl rfl (by exact ty_L_api_Goal) rfl) ?_
      obtain ⟨r_18, hr_18, hr⟩ := bindS hr
      refine r_w rfl rfl rfl (s_call _ rfl cl_Pconstraintref52_writer_goals (.cons rfl (Wk.refl _) (.cons rfl (Wk.refl _) .nil)) (by exact (pf0 _)) (lg_Pconstraintref52_writer_goals_s1 fuel _ _ _ _ hr_18)) ?_
      rintro _ _ ⟨_, ⟨rfl, rfl⟩, rfl⟩
      refine r_st ((.cell b7_0 (enc_S_constraintref52_writer r_18)) :: _) rfl ?_
      refine r_end ?_
      refine g_run (by kernel_rfl) [(0, .d), (1, .d), (2, .d), (3, .d), (4, .d), (5, .d), (6, .d), (7, .w)] rfl ?_
      refine r_d rfl rfl rfl (s_move rfl rfl) ?_
      refine r_d rfl rfl rfl (s_fieldAddr rfl fl_api_Program_1 rfl rfl rfl rfl) ?_
      refine r_d rfl rfl rfl (s_load rfl rfl (by exact ty_L_api_Rule) rfl) ?_
      refine r_d rfl rfl rfl (s_move rfl rfl) ?_
      refine r_d rfl rfl rfl (m_index (f := enc_S_api_Rule) p_a0.f1_Rules rfl el_L_api_Rule rfl (asl rfl) rfl hq1 sz_S_api_Rule rfl) ?_
      refine r_d rfl rfl rfl (s_fieldAddr rfl fl_api_Rule_5 rfl rfl rfl rfl) ?_
      refine r_d rfl rfl rfl (s_load rfl rfl (by exact ty_int) rfl) ?_
      obtain ⟨r_19, hr_19, hr⟩ := bindS hr
      refine r_w rfl rfl rfl (s_call _ rfl cl_Pconstraintref52_writer_num (.cons rfl (Wk.refl _) (.cons rfl (Wk.refl _) (.cons rfl (Wk.refl _) (.cons rfl (Wk.refl _) .nil)))) (by exact (pf0 _)) (lg_Pconstraintref52_writer_num_s1 _ _ _ _ _ _ hr_19)) ?_
      rintro _ _ ⟨_, ⟨rfl, rfl⟩, rfl⟩
      refine r_st ((.cell b7_0 (enc_S_constraintref52_writer r_19)) :: _) rfl ?_
      refine r_end ?_
      refine g_inBlock ?_
      refine g_run (by kernel_rfl) [(0, .d), (1, .d), (2, .d)] rfl ?_
      refine r_d rfl rfl rfl (s_move rfl rfl) ?_
      refine r_d rfl rfl rfl (s_ar (r := ((i_8 + 1 : Nat) : Int)) rfl rfl rfl (by simp [iar]) (by omega)) ?_
      refine r_d rfl rfl rfl (s_assign rfl rfl) ?_
      refine r_end ?_
      refine g_sub [(1, .ptr (enc_S_api_Program p_a0)), (3, .ref b7_0 0 []), (5, .int .i64 ((i_8 + 1 : Nat) : Int))] (Sub.cons' rfl (Sub.cons' rfl (Sub.cons' rfl (Sub.nil _)))) ?_
      exact IH1 _ _ _ (by omega) ⟨(i_8 + 1), r_19, rfl, rfl, rfl, (by omega), hr⟩
     ·
      refine g_condF rfl ?_
      refine g_exit rfl ?_
      refine g_sub [(3, .ref b7_0 0 [])] (Sub.cons' rfl (Sub.nil _)) ?_
      exact HK1 _ _ ⟨w_9, rfl, rfl, hr⟩
  ·
   refine g_sub [(1, .ptr (enc_S_api_Program p_a0)), (3, .ref b7_0 0 []), (4, .int .i64 ((0 : Nat) : Int))] (Sub.cons' rfl (Sub.cons' rfl (Sub.cons' rfl (Sub.nil _)))) ?_
   refine g_loop (fun n env σ => ∃ (i_4 : Nat) (t7_5 : S_constraintref52_writer), (n = p_a0.f0_Decls.length - i_4) ∧ (env = [(1, .ptr (enc_S_api_Program p_a0)), (3, .ref b7_0 0 []), (4, .int .i64 (i_4 : Int))]) ∧ (σ = [.cell b7_0 (enc_S_constraintref52_writer t7_5)]) ∧ (i_4 ≤ p_a0.f0_Decls.length) ∧ (lf_constraintref52_Program_L0 kk0 (p_a0.f0_Decls.drop i_4) t7_5 = some res)) _ ⟨0, r_3, rfl, rfl, rfl, Nat.zero_le _, hr⟩ ?_
   rintro n _ _ ⟨i_4, t7_5, rfl, rfl, rfl, hi0, hr⟩ IH0
   rcases listStep p_a0.f0_Decls i_4 hi0 with ⟨ht0, hd0, he0⟩ | ⟨q_20, ht0, hd0, hq0, hlt0⟩
   ·
    rw [hd0, lf_constraintref52_Program_L0] at hr
    refine g_seq ?_
    refine g_seq ?_
    refine g_run (by kernel_rfl) [(0, .d), (1, .d), (2, .d), (3, .d), (4, .d), (5, .d), (6, .d), (7, .d), (8, .d), (9, .r), (10, .d), (11, .d)] rfl ?_
    refine r_d rfl rfl rfl (s_move rfl rfl) ?_
    refine r_d rfl rfl rfl (s_fieldAddr rfl fl_api_Program_0 rfl rfl rfl rfl) ?_
    refine r_d rfl rfl rfl (s_load rfl rfl (by exact ty_L_api_Decl) rfl) ?_
    refine r_d rfl rfl rfl (m_len (f := enc_S_api_Decl) p_a0.f0_Decls rfl el_L_api_Decl rfl (asl rfl)) ?_
    refine r_d rfl rfl rfl (s_cmp rfl rfl rfl rfl) ?_
    refine r_d rfl rfl rfl (s_move rfl rfl) ?_
    refine r_known 20 false rfl ht0 ?_
    refine r_skip rfl rfl rfl ?_
    refine r_skip rfl rfl rfl ?_
    refine r_skip rfl rfl rfl ?_
    refine r_skip rfl rfl rfl ?_
    refine r_skip rfl rfl rfl ?_
    refine r_d rfl rfl rfl (s_pickF rfl rfl rfl) ?_
    refine r_end ?_
    refine g_condF rfl ?_
    refine g_exit rfl ?_
    refine g_sub [(1, .ptr (enc_S_api_Program p_a0)), (3, .ref b7_0 0 [])] (Sub.cons' rfl (Sub.cons' rfl (Sub.nil _))) ?_
    exact HK0 _ _ ⟨t7_5, rfl, rfl, hr⟩
   ·
    rw [hd0, lf_constraintref52_Program_L0] at hr
    refine g_seq ?_
    refine g_seq ?_
    refine g_run (by kernel_rfl) [(0, .d), (1, .d), (2, .d), (3, .d), (4, .d), (5, .d), (6, .d), (7, .d), (8, .d), (9, .r), (10, .d), (11, .d)] rfl ?_
    refine r_d rfl rfl rfl (s_move rfl rfl) ?_
    refine r_d rfl rfl rfl (s_fieldAddr rfl fl_api_Program_0 rfl rfl rfl rfl) ?_
    refine r_d rfl rfl rfl (s_load rfl rfl (by exact ty_L_api_Decl) rfl) ?_
    refine r_d rfl rfl rfl (m_len (f := enc_S_api_Decl) p_a0.f0_Decls rfl el_L_api_Decl rfl (asl rfl)) ?_
    refine r_d rfl rfl rfl (s_cmp rfl rfl rfl rfl) ?_
    refine r_d rfl rfl rfl (s_move rfl rfl) ?_
    refine r_known 20 true rfl ht0 ?_
    refine r_d rfl rfl rfl (s_move rfl rfl) ?_
    refine r_d rfl rfl rfl (s_nilCheckR rfl rfl) ?_
    refine r_d rfl rfl rfl (s_fieldRef rfl fl_constraintref52_writer_1 rfl) ?_
    refine r_r rfl rfl rfl (t_loadRef rfl rfl (.head _) rfl rfl (by exact ty_bool) rfl) ?_
    refine r_d rfl rfl rfl (s_not rfl rfl) ?_
    refine r_d rfl rfl rfl (s_pickT rfl rfl rfl) ?_
    refine r_end ?_
    refine g_sB 26 rfl hr (fun h26_20 hr => ?_) (fun h26_20 hr => ?_)
    ·
     refine g_condT rfl ?_
     refine g_skip ?_
     refine g_seq ?_
     refine g_block ?_
     refine g_seq ?_
     refine g_run (by kernel_rfl) [(0, .d), (1, .d), (2, .d), (3, .d), (4, .d), (5, .d), (6, .d), (7, .w)] rfl ?_
     refine r_d rfl rfl rfl (s_move rfl rfl) ?_
     refine r_d rfl rfl rfl (s_fieldAddr rfl fl_api_Program_0 rfl rfl rfl rfl) ?_
     refine r_d rfl rfl rfl (s_load rfl rfl (by exact ty_L_api_Decl) rfl) ?_
     refine r_d rfl rfl rfl (s_move rfl rfl) ?_
     refine r_d rfl rfl rfl (m_index (f := enc_S_api_Decl) p_a0.f0_Decls rfl el_L_api_Decl rfl (asl rfl) rfl hq0 sz_S_api_Decl rfl) ?_
     refine r_d rfl rfl rfl (s_fieldAddr rfl fl_api_Decl_0 rfl rfl rfl rfl) ?_
     refine r_d rfl rfl rfl (s_load rfl rfl (by exact ty_string) rfl) ?_
     obtain ⟨r_22, hr_22, hr⟩ := bindS hr
     refine r_w rfl rfl rfl (s_call _ rfl cl_Pconstraintref52_writer_text (.cons rfl (Wk.refl _) (.cons rfl (Wk.refl _) .nil)) (by exact (pf0 _)) (lg_Pconstraintref52_writer_text_s1 _ _ _ _ hr_22)) ?_
     rintro _ _ ⟨_, ⟨rfl, rfl⟩, rfl⟩
     refine r_st ((.cell b7_0 (enc_S_constraintref52_writer r_22)) :: _) rfl ?_
     refine r_end ?_
     refine g_run (by kernel_rfl) [(0, .d), (1, .d), (2, .d), (3, .d), (4, .d), (5, .d), (6, .d), (7, .w)] rfl ?_
     refine r_d rfl rfl rfl (s_move rfl rfl) ?_
     refine r_d rfl rfl rfl (s_fieldAddr rfl fl_api_Program_0 rfl rfl rfl rfl) ?_
     refine r_d rfl rfl rfl (s_load rfl rfl (by exact ty_L_api_Decl) rfl) ?_
     refine r_d rfl rfl rfl (s_move rfl rfl) ?_
     refine r_d rfl rfl rfl (m_index (f := enc_S_api_Decl) p_a0.f0_Decls rfl el_L_api_Decl rfl (asl rfl) rfl hq0 sz_S_api_Decl rfl) ?_
     refine r_d rfl rfl rfl (s_fieldAddr rfl fl_api_Decl_1 rfl rfl rfl rfl) ?_
     refine r_d rfl rfl rfl (s_load rfl rfl (by exact ty_int) rfl) ?_
     obtain ⟨r_23, hr_23, hr⟩ := bindS hr
     refine r_w rfl rfl rfl (s_call _ rfl cl_Pconstraintref52_writer_num (.cons rfl (Wk.refl _) (.cons rfl (Wk.refl _) (.cons rfl (Wk.refl _) (.cons rfl (Wk.refl _) .nil)))) (by exact (pf0 _)) (lg_Pconstraintref52_writer_num_s1 _ _ _ _ _ _ hr_23)) ?_
     rintro _ _ ⟨_, ⟨rfl, rfl⟩, rfl⟩
     refine r_st ((.cell b7_0 (enc_S_constraintref52_writer r_23)) :: _) rfl ?_
     refine r_end ?_
     refine g_inBlock ?_
     refine g_run (by kernel_rfl) [(0, .d), (1, .d), (2, .d)] rfl ?_
     refine r_d rfl rfl rfl (s_move rfl rfl) ?_
     refine r_d rfl rfl rfl (s_ar (r := ((i_4 + 1 : Nat) : Int)) rfl rfl rfl (by simp [iar]) (by omega)) ?_
     refine r_d rfl rfl rfl (s_assign rfl rfl) ?_
     refine r_end ?_
     refine g_sub [(1, .ptr (enc_S_api_Program p_a0)), (3, .ref b7_0 0 []), (4, .int .i64 ((i_4 + 1 : Nat) : Int))] (Sub.cons' rfl (Sub.cons' rfl (Sub.cons' rfl (Sub.nil _)))) ?_
     exact IH0 _ _ _ (by omega) ⟨(i_4 + 1), r_23, rfl, rfl, rfl, (by omega), hr⟩
    ·
     refine g_condF rfl ?_
     refine g_exit rfl ?_
     refine g_sub [(1, .ptr (enc_S_api_Program p_a0)), (3, .ref b7_0 0 [])] (Sub.cons' rfl (Sub.cons' rfl (Sub.nil _))) ?_
     exact HK0 _ _ ⟨t7_5, rfl, rfl, hr⟩

end Go.Proofs.YtdoljfkjdfaakaaGreat

