/-
  Texts of the seat, merged.
-/
import Derived.Test.YtnldggbcfcibaaaLGA
import Derived.Test.YtnldggbcfcibaaaLGB
import Derived.Test.YtnldggbcfcibaaaLGC
import Derived.Test.YtnldggbcfcibaaaLGD
import Derived.Test.YtnldggbcfcibaaaChecked
import Derived.WalkKit
import Derived.Lib.Hide
import Derived.Lib.AppendStr
import Derived.Deep.AppendLies
import Derived.Deep.AppendSrc
import Derived.Deep.Draws
import Derived.Deep.QuietTactic
import Derived.BigQuiet
import Derived.Deep.RegionWith
import Derived.Maps.AppendAt
import Derived.WalkSpells
import Derived.Orders
import Derived.Deep.Slices
import Derived.Deep.Fields
import Derived.ChangeArms
import Derived.Lib.OthersKept
import Derived.Lib.TrimU
import Derived.Lib.IndexAny
import Derived.Deep.LoopGhost
import Derived.Lib.Bytealg
import Derived.RangeFuncBox
import Derived.RangeFuncNested
import Derived.RangeFuncBound
import Derived.RangeFuncCalls
import Derived.RangeFuncLeaves
import Derived.Shelf.Abstract
import Derived.OwnWalkIn
import Derived.TacticsInMore
import Derived.LoopNIn
import Derived.LoopIn
import Derived.RangeFuncWrites
import Derived.Maps.OwnIn
import Derived.Maps.Views
import Derived.Laws.OwnMore
import Derived.Maps.OwnSet
import Derived.Test.YtnldggbcfcibaaaRows
import Derived.ProofKit
import Derived.OpenShut
import Derived.Carry
import Derived.OrdersIn
import Derived.Great.BuildSlice
import Derived.ArgAppend
import Derived.Laws.MakeOwn
import Derived.Laws.Cover3
import Derived.Laws.CopyRow
import Derived.MapKept
import Derived.Maps.RangeRun
import Derived.DeepKeys5
import Derived.WideKeyRuns
import Derived.RangeFuncOwn
set_option linter.unusedVariables false
set_option linter.unusedSimpArgs false
set_option linter.unnecessarySimpa false
set_option linter.all false

namespace Go.Proofs.Ytnldggbcfcibaaa
set_option maxRecDepth 100000
open Go.RowKit

set_option maxHeartbeats 1000000 in
theorem lg_constraintref31_Never (fuel : Nat) (p_a0 : S_api_Program) (name_a1 : ByteArray) (arity_a2 : Int) (res : Bool) (hr : lf_constraintref31_Never fuel p_a0 name_a1 arity_a2 = some res) : Gives Try.prog 12 [enc_S_api_Program p_a0, .str name_a1, .int .i64 arity_a2] (.bool res) := by
  unfold lf_constraintref31_Never at hr
  refine spec_env [(0, enc_S_api_Program p_a0), (1, .str name_a1), (2, .int .i64 arity_a2)] Try.func12 rfl rfl fun K hK => ?_
  refine g_seq ?_
  refine g_run (by kernel_rfl) [(0, .d), (1, .d)] rfl ?_
  refine r_d rfl rfl rfl (s_box rfl rfl rfl) ?_
  refine r_d rfl rfl rfl (s_assign rfl rfl) ?_
  refine r_end ?_
  refine g_seq ?_
  refine g_run (by kernel_rfl) [(0, .d), (1, .d), (2, .d), (3, .d), (4, .d)] rfl ?_
  refine r_d rfl rfl rfl (s_load rfl rfl (by exact ty_api_Program) (sz_S_api_Program _)) ?_
  refine r_d rfl rfl rfl (s_move rfl rfl) ?_
  refine r_d rfl rfl rfl (s_move rfl rfl) ?_
  obtain ⟨r_1, hr_1, hr⟩ := bindS hr
  refine r_d rfl rfl rfl (s_callD rfl cl_constraintref16_Of (.cons rfl (Wk.refl _) (.cons rfl (Wk.refl _) (.cons rfl (Wk.refl _) .nil))) (lg_constraintref16_Of _ _ _ _ hr_1)) ?_
  refine r_d rfl rfl rfl (s_assign rfl rfl) ?_
  refine r_end ?_
  refine g_seq ?_
  refine g_seq ?_
  refine g_run (by kernel_rfl) [(0, .d)] rfl ?_
  refine r_d rfl rfl rfl (s_assign rfl rfl) ?_
  refine r_end ?_
  obtain ⟨kk0, hkk0, hr⟩ := exK (fun k => lf_constraintref31_Never_L0 k fuel p_a0 r_1) hr
  refine g_len 12 rfl (asl rfl) fun hla0 => ?_
  simp only [List.length_map] at hla0
  refine g_blockJ (fun env σ => env = [] ∧ σ = [] ∧ kk0 = some res) ?_ (fun HK0 => ?_)
  ·
   rintro _ _ ⟨rfl, rfl, hr⟩
   rw [hkk0] at hr
   refine g_seq ?_
   refine g_run (by kernel_rfl) [(0, .d)] rfl ?_
   refine r_d rfl rfl rfl (s_assign rfl rfl) ?_
   refine r_end ?_
   obtain rfl := Option.some.inj hr
   refine g_ret Try.func12 _ (.cons (resTmp rfl (Wk.refl _)) .nil) ?_
   rfl
  ·
   refine g_sub [(3, .ptr (enc_S_api_Program p_a0)), (7, .lst (r_1.map enc_S_api_Occ)), (8, .int .i64 ((0 : Nat) : Int))] (Sub.cons' rfl (Sub.cons' rfl (Sub.cons' rfl (Sub.nil _)))) ?_
   refine g_loop (fun n env σ => ∃ (i_2 : Nat), (n = r_1.length - i_2) ∧ (env = [(3, .ptr (enc_S_api_Program p_a0)), (7, .lst (r_1.map enc_S_api_Occ)), (8, .int .i64 (i_2 : Int))]) ∧ (σ = []) ∧ (i_2 ≤ r_1.length) ∧ (lf_constraintref31_Never_L0 kk0 fuel p_a0 (r_1.drop i_2) = some res)) _ ⟨0, rfl, rfl, rfl, Nat.zero_le _, hr⟩ ?_
   rintro n _ _ ⟨i_2, rfl, rfl, rfl, hi0, hr⟩ IH0
   rcases listStep r_1 i_2 hi0 with ⟨ht0, hd0, he0⟩ | ⟨q_3, ht0, hd0, hq0, hlt0⟩
   ·
    rw [hd0, lf_constraintref31_Never_L0] at hr
    refine g_seq ?_
    refine g_seq ?_
    refine g_run (by kernel_rfl) [(0, .d), (1, .d), (2, .d), (3, .d)] rfl ?_
    refine r_d rfl rfl rfl (s_move rfl rfl) ?_
    refine r_d rfl rfl rfl (s_move rfl rfl) ?_
    refine r_d rfl rfl rfl (m_len (f := enc_S_api_Occ) r_1 rfl el_L_api_Occ rfl (asl rfl)) ?_
    refine r_d rfl rfl rfl (s_cmp rfl rfl rfl rfl) ?_
    refine r_end ?_
    refine g_known 16 false rfl ht0 ?_
    refine g_condF rfl ?_
    refine g_exit rfl ?_
    refine g_sub [] (Sub.nil _) ?_
    exact HK0 _ _ ⟨rfl, rfl, hr⟩
   ·
    rw [hd0, lf_constraintref31_Never_L0] at hr
    refine g_seq ?_
    refine g_seq ?_
    refine g_run (by kernel_rfl) [(0, .d), (1, .d), (2, .d), (3, .d)] rfl ?_
    refine r_d rfl rfl rfl (s_move rfl rfl) ?_
    refine r_d rfl rfl rfl (s_move rfl rfl) ?_
    refine r_d rfl rfl rfl (m_len (f := enc_S_api_Occ) r_1 rfl el_L_api_Occ rfl (asl rfl)) ?_
    refine r_d rfl rfl rfl (s_cmp rfl rfl rfl rfl) ?_
    refine r_end ?_
    refine g_known 16 true rfl ht0 ?_
    refine g_condT rfl ?_
    refine g_skip ?_
    refine g_seq ?_
    refine g_block ?_
    refine g_seq ?_
    refine g_seq ?_
    refine g_any (by kernel_rfl) (by kernel_rfl) [(0, .d), (1, .d), (2, .d), (3, .d), (4, .d), (5, .d)] (by kernel_rfl) ?_
    refine r_d rfl rfl rfl (s_load rfl rfl (by exact ty_api_Program) (sz_S_api_Program _)) ?_
    refine r_d rfl rfl rfl (s_move rfl rfl) ?_
    refine r_d rfl rfl rfl (s_move rfl rfl) ?_
    refine r_d rfl rfl rfl (m_index (f := enc_S_api_Occ) r_1 rfl el_L_api_Occ rfl (asl rfl) rfl hq0 sz_S_api_Occ rfl) ?_
    refine r_d rfl rfl rfl (s_load rfl rfl (by exact ty_api_Occ) (sz_S_api_Occ _)) ?_
    obtain ⟨r_4, hr_4, hr⟩ := bindS hr
    refine r_d rfl rfl rfl (s_callD rfl cl_constraintref31_certain (.cons rfl (Wk.refl _) (.cons rfl (Wk.refl _) .nil)) (lg_constraintref31_certain _ _ _ hr_4)) ?_
    refine r_end ?_
    refine g_sB 24 rfl hr (fun h24_4 hr => ?_) (fun h24_4 hr => ?_)
    ·
     refine g_condT rfl ?_
     refine g_seq ?_
     refine g_run (by kernel_rfl) [(0, .d)] rfl ?_
     refine r_d rfl rfl rfl (s_assign rfl rfl) ?_
     refine r_end ?_
     obtain rfl := Option.some.inj hr
     refine g_ret Try.func12 _ (.cons (resTmp rfl (Wk.refl _)) .nil) ?_
     rfl
    ·
     refine g_condF rfl ?_
     refine g_skip ?_
     refine g_seq ?_
     refine g_any (by kernel_rfl) (by kernel_rfl) [(0, .d), (1, .d), (2, .d), (3, .d), (4, .d), (5, .d), (6, .d), (7, .d), (8, .d), (9, .d), (10, .d), (11, .d), (12, .d), (13, .d), (14, .d), (15, .d), (16, .d), (17, .d)] (by kernel_rfl) ?_
     refine r_d rfl rfl rfl (s_move rfl rfl) ?_
     refine r_d rfl rfl rfl (s_move rfl rfl) ?_
     refine r_d rfl rfl rfl (m_index (f := enc_S_api_Occ) r_1 rfl el_L_api_Occ rfl (asl rfl) rfl hq0 sz_S_api_Occ rfl) ?_
     refine r_d rfl rfl rfl (s_fieldAddr rfl fl_api_Occ_2 rfl rfl rfl rfl) ?_
     refine r_d rfl rfl rfl (s_load rfl rfl (by exact ty_bool) rfl) ?_
     refine r_d rfl rfl rfl (s_move rfl rfl) ?_
     refine r_sB 30 rfl hr (fun h30_5 hr => ?_) (fun h30_5 hr => ?_)
     ·
      refine r_d rfl rfl rfl (s_fieldAddr rfl fl_api_Program_1 rfl rfl rfl rfl) ?_
      refine r_d rfl rfl rfl (s_load rfl rfl (by exact ty_L_api_Rule) rfl) ?_
      refine r_d rfl rfl rfl (s_move rfl rfl) ?_
      refine r_d rfl rfl rfl (s_move rfl rfl) ?_
      refine r_d rfl rfl rfl (m_index (f := enc_S_api_Occ) r_1 rfl el_L_api_Occ rfl (asl rfl) rfl hq0 sz_S_api_Occ rfl) ?_
      refine r_d rfl rfl rfl (s_fieldAddr rfl fl_api_Occ_0 rfl rfl rfl rfl) ?_
      refine r_d rfl rfl rfl (s_load rfl rfl (by exact ty_int) rfl) ?_
      obtain ⟨q_7, hq_7, hr⟩ := bindS hr
      refine r_d rfl rfl rfl (m_index (f := enc_S_api_Rule) p_a0.f1_Rules rfl el_L_api_Rule rfl (asl rfl) rfl hq_7 sz_S_api_Rule rfl) ?_
      refine r_d rfl rfl rfl (s_load rfl rfl (by exact ty_api_Rule) (sz_S_api_Rule _)) ?_
      obtain ⟨r_8, hr_8, hr⟩ := bindS hr
      refine r_d rfl rfl rfl (s_callD rfl cl_constraintref31_Inert (.cons rfl (Wk.refl _) .nil) (lg_constraintref31_Inert fuel _ _ hr_8)) ?_
      refine r_d rfl rfl rfl (s_not rfl rfl) ?_
      refine r_d rfl rfl rfl (s_pickT rfl rfl rfl) ?_
      refine r_end ?_
      refine g_sB 42 rfl hr (fun h42_8 hr => ?_) (fun h42_8 hr => ?_)
      ·
       refine g_condT rfl ?_
       refine g_seq ?_
       refine g_run (by kernel_rfl) [(0, .d)] rfl ?_
       refine r_d rfl rfl rfl (s_assign rfl rfl) ?_
       refine r_end ?_
       obtain rfl := Option.some.inj hr
       refine g_ret Try.func12 _ (.cons (resTmp rfl (Wk.refl _)) .nil) ?_
       rfl
      ·
       refine g_condF rfl ?_
       refine g_skip ?_
       refine g_inBlock ?_
       refine g_run (by kernel_rfl) [(0, .d), (1, .d), (2, .d)] rfl ?_
       refine r_d rfl rfl rfl (s_move rfl rfl) ?_
       refine r_d rfl rfl rfl (s_ar (r := ((i_2 + 1 : Nat) : Int)) rfl rfl rfl (by simp [iar]) (by omega)) ?_
       refine r_d rfl rfl rfl (s_assign rfl rfl) ?_
       refine r_end ?_
       refine g_sub [(3, .ptr (enc_S_api_Program p_a0)), (7, .lst (r_1.map enc_S_api_Occ)), (8, .int .i64 ((i_2 + 1 : Nat) : Int))] (Sub.cons' rfl (Sub.cons' rfl (Sub.cons' rfl (Sub.nil _)))) ?_
       exact IH0 _ _ _ (by omega) ⟨(i_2 + 1), rfl, rfl, rfl, (by omega), hr⟩
     ·
      refine r_skip rfl rfl rfl ?_
      refine r_skip rfl rfl rfl ?_
      refine r_skip rfl rfl rfl ?_
      refine r_skip rfl rfl rfl ?_
      refine r_skip rfl rfl rfl ?_
      refine r_skip rfl rfl rfl ?_
      refine r_skip rfl rfl rfl ?_
      refine r_skip rfl rfl rfl ?_
      refine r_skip rfl rfl rfl ?_
      refine r_skip rfl rfl rfl ?_
      refine r_skip rfl rfl rfl ?_
      refine r_d rfl rfl rfl (s_pickF rfl rfl rfl) ?_
      refine r_end ?_
      refine g_condF rfl ?_
      refine g_skip ?_
      refine g_inBlock ?_
      refine g_run (by kernel_rfl) [(0, .d), (1, .d), (2, .d)] rfl ?_
      refine r_d rfl rfl rfl (s_move rfl rfl) ?_
      refine r_d rfl rfl rfl (s_ar (r := ((i_2 + 1 : Nat) : Int)) rfl rfl rfl (by simp [iar]) (by omega)) ?_
      refine r_d rfl rfl rfl (s_assign rfl rfl) ?_
      refine r_end ?_
      refine g_sub [(3, .ptr (enc_S_api_Program p_a0)), (7, .lst (r_1.map enc_S_api_Occ)), (8, .int .i64 ((i_2 + 1 : Nat) : Int))] (Sub.cons' rfl (Sub.cons' rfl (Sub.cons' rfl (Sub.nil _)))) ?_
      exact IH0 _ _ _ (by omega) ⟨(i_2 + 1), rfl, rfl, rfl, (by omega), hr⟩

noncomputable def lf_constraintref31_Late_L0 (k : Option (Int)) (fuel : Nat) (p_a0 : S_api_Program) : List S_api_Occ → Nat → Option (Int)
  | [], i_2 =>
  k
  | q_3 :: rest, i_2 =>
  (bif q_3.f2_Kept then
  ((getI p_a0.f1_Rules q_3.f0_Rule).bind fun q_5 =>
  ((lf_constraintref31_Inert fuel q_5).bind fun r_6 =>
  (bif (!r_6) then
  some ((i_2 : Int))
  else
  (lf_constraintref31_Late_L0 k fuel p_a0 rest (i_2 + 1)))))
  else
  (lf_constraintref31_Late_L0 k fuel p_a0 rest (i_2 + 1)))
noncomputable def lf_constraintref31_Late (fuel : Nat) (p_a0 : S_api_Program) (name_a1 : ByteArray) (arity_a2 : Int) : Option (Int) :=
  ((lf_constraintref16_Of p_a0 name_a1 arity_a2).bind fun r_1 =>
  (lf_constraintref31_Late_L0 (some ((r_1.length : Int))) fuel p_a0 r_1 0))

set_option maxHeartbeats 1000000 in
theorem lg_constraintref31_Late (fuel : Nat) (p_a0 : S_api_Program) (name_a1 : ByteArray) (arity_a2 : Int) (res : Int) (hr : lf_constraintref31_Late fuel p_a0 name_a1 arity_a2 = some res) : Gives Try.prog 14 [enc_S_api_Program p_a0, .str name_a1, .int .i64 arity_a2] (.int .i64 res) := by
  unfold lf_constraintref31_Late at hr
  refine spec_env [(0, enc_S_api_Program p_a0), (1, .str name_a1), (2, .int .i64 arity_a2)] Try.func14 rfl rfl fun K hK => ?_
  refine g_seq ?_
  refine g_run (by kernel_rfl) [(0, .d), (1, .d)] rfl ?_
  refine r_d rfl rfl rfl (s_box rfl rfl rfl) ?_
  refine r_d rfl rfl rfl (s_assign rfl rfl) ?_
  refine r_end ?_
  refine g_seq ?_
  refine g_run (by kernel_rfl) [(0, .d), (1, .d), (2, .d), (3, .d), (4, .d)] rfl ?_
  refine r_d rfl rfl rfl (s_load rfl rfl (by exact ty_api_Program) (sz_S_api_Program _)) ?_
  refine r_d rfl rfl rfl (s_move rfl rfl) ?_
  refine r_d rfl rfl rfl (s_move rfl rfl) ?_
  obtain ⟨r_1, hr_1, hr⟩ := bindS hr
  refine r_d rfl rfl rfl (s_callD rfl cl_constraintref16_Of (.cons rfl (Wk.refl _) (.cons rfl (Wk.refl _) (.cons rfl (Wk.refl _) .nil))) (lg_constraintref16_Of _ _ _ _ hr_1)) ?_
  refine r_d rfl rfl rfl (s_assign rfl rfl) ?_
  refine r_end ?_
  refine g_seq ?_
  refine g_seq ?_
  refine g_run (by kernel_rfl) [(0, .d)] rfl ?_
  refine r_d rfl rfl rfl (s_assign rfl rfl) ?_
  refine r_end ?_
  obtain ⟨kk0, hkk0, hr⟩ := exK (fun k => lf_constraintref31_Late_L0 k fuel p_a0 r_1 0) hr
  refine g_len 12 rfl (asl rfl) fun hla0 => ?_
  simp only [List.length_map] at hla0
  refine g_blockJ (fun env σ => env = [(7, .lst (r_1.map enc_S_api_Occ))] ∧ σ = [] ∧ kk0 = some res) ?_ (fun HK0 => ?_)
  ·
   rintro _ _ ⟨rfl, rfl, hr⟩
   rw [hkk0] at hr
   refine g_seq ?_
   refine g_run (by kernel_rfl) [(0, .d), (1, .d), (2, .d)] rfl ?_
   refine r_d rfl rfl rfl (s_move rfl rfl) ?_
   refine r_d rfl rfl rfl (m_len (f := enc_S_api_Occ) r_1 rfl el_L_api_Occ rfl (asl rfl)) ?_
   refine r_d rfl rfl rfl (s_assign rfl rfl) ?_
   refine r_end ?_
   obtain rfl := Option.some.inj hr
   refine g_ret Try.func14 _ (.cons (resTmp rfl (Wk.refl _)) .nil) ?_
   rfl
  ·
   refine g_sub [(3, .ptr (enc_S_api_Program p_a0)), (7, .lst (r_1.map enc_S_api_Occ)), (8, .int .i64 ((0 : Nat) : Int))] (Sub.cons' rfl (Sub.cons' rfl (Sub.cons' rfl (Sub.nil _)))) ?_
   refine g_loop (fun n env σ => ∃ (i_2 : Nat), (n = r_1.length - i_2) ∧ (env = [(3, .ptr (enc_S_api_Program p_a0)), (7, .lst (r_1.map enc_S_api_Occ)), (8, .int .i64 (i_2 : Int))]) ∧ (σ = []) ∧ (i_2 ≤ r_1.length) ∧ (lf_constraintref31_Late_L0 kk0 fuel p_a0 (r_1.drop i_2) i_2 = some res)) _ ⟨0, rfl, rfl, rfl, Nat.zero_le _, hr⟩ ?_
   rintro n _ _ ⟨i_2, rfl, rfl, rfl, hi0, hr⟩ IH0
   rcases listStep r_1 i_2 hi0 with ⟨ht0, hd0, he0⟩ | ⟨q_3, ht0, hd0, hq0, hlt0⟩
   ·
    rw [hd0, lf_constraintref31_Late_L0] at hr
    refine g_seq ?_
    refine g_seq ?_
    refine g_run (by kernel_rfl) [(0, .d), (1, .d), (2, .d), (3, .d)] rfl ?_
    refine r_d rfl rfl rfl (s_move rfl rfl) ?_
    refine r_d rfl rfl rfl (s_move rfl rfl) ?_
    refine r_d rfl rfl rfl (m_len (f := enc_S_api_Occ) r_1 rfl el_L_api_Occ rfl (asl rfl)) ?_
    refine r_d rfl rfl rfl (s_cmp rfl rfl rfl rfl) ?_
    refine r_end ?_
    refine g_known 16 false rfl ht0 ?_
    refine g_condF rfl ?_
    refine g_exit rfl ?_
    refine g_sub [(7, .lst (r_1.map enc_S_api_Occ))] (Sub.cons' rfl (Sub.nil _)) ?_
    exact HK0 _ _ ⟨rfl, rfl, hr⟩
   ·
    rw [hd0, lf_constraintref31_Late_L0] at hr
    refine g_seq ?_
    refine g_seq ?_
    refine g_run (by kernel_rfl) [(0, .d), (1, .d), (2, .d), (3, .d)] rfl ?_
    refine r_d rfl rfl rfl (s_move rfl rfl) ?_
    refine r_d rfl rfl rfl (s_move rfl rfl) ?_
    refine r_d rfl rfl rfl (m_len (f := enc_S_api_Occ) r_1 rfl el_L_api_Occ rfl (asl rfl)) ?_
    refine r_d rfl rfl rfl (s_cmp rfl rfl rfl rfl) ?_
    refine r_end ?_
    refine g_known 16 true rfl ht0 ?_
    refine g_condT rfl ?_
    refine g_skip ?_
    refine g_seq ?_
    refine g_block ?_
    refine g_seq ?_
    refine g_any (by kernel_rfl) (by kernel_rfl) [(0, .d), (1, .d), (2, .d), (3, .d), (4, .d), (5, .d), (6, .d), (7, .d), (8, .d), (9, .d), (10, .d), (11, .d), (12, .d), (13, .d), (14, .d), (15, .d), (16, .d), (17, .d)] (by kernel_rfl) ?_
    refine r_d rfl rfl rfl (s_move rfl rfl) ?_
    refine r_d rfl rfl rfl (s_move rfl rfl) ?_
    refine r_d rfl rfl rfl (m_index (f := enc_S_api_Occ) r_1 rfl el_L_api_Occ rfl (asl rfl) rfl hq0 sz_S_api_Occ rfl) ?_
    refine r_d rfl rfl rfl (s_fieldAddr rfl fl_api_Occ_2 rfl rfl rfl rfl) ?_
    refine r_d rfl rfl rfl (s_load rfl rfl (by exact ty_bool) rfl) ?_
    refine r_d rfl rfl rfl (s_move rfl rfl) ?_
    refine r_sB 24 rfl hr (fun h24_3 hr => ?_) (fun h24_3 hr => ?_)
    ·
     refine r_d rfl rfl rfl (s_fieldAddr rfl fl_api_Program_1 rfl rfl rfl rfl) ?_
     refine r_d rfl rfl rfl (s_load rfl rfl (by exact ty_L_api_Rule) rfl) ?_
     refine r_d rfl rfl rfl (s_move rfl rfl) ?_
     refine r_d rfl rfl rfl (s_move rfl rfl) ?_
     refine r_d rfl rfl rfl (m_index (f := enc_S_api_Occ) r_1 rfl el_L_api_Occ rfl (asl rfl) rfl hq0 sz_S_api_Occ rfl) ?_
     refine r_d rfl rfl rfl (s_fieldAddr rfl fl_api_Occ_0 rfl rfl rfl rfl) ?_
     refine r_d rfl rfl rfl (s_load rfl rfl (by exact ty_int) rfl) ?_
     obtain ⟨q_5, hq_5, hr⟩ := bindS hr
     refine r_d rfl rfl rfl (m_index (f := enc_S_api_Rule) p_a0.f1_Rules rfl el_L_api_Rule rfl (asl rfl) rfl hq_5 sz_S_api_Rule rfl) ?_
     refine r_d rfl rfl rfl (s_load rfl rfl (by exact ty_api_Rule) (sz_S_api_Rule _)) ?_
     obtain ⟨r_6, hr_6, hr⟩ := bindS hr
     refine r_d rfl rfl rfl (s_callD rfl cl_constraintref31_Inert (.cons rfl (Wk.refl _) .nil) (lg_constraintref31_Inert fuel _ _ hr_6)) ?_
     refine r_d rfl rfl rfl (s_not rfl rfl) ?_
     refine r_d rfl rfl rfl (s_pickT rfl rfl rfl) ?_
     refine r_end ?_
     refine g_sB 36 rfl hr (fun h36_6 hr => ?_) (fun h36_6 hr => ?_)
     ·
      refine g_condT rfl ?_
      refine g_seq ?_
      refine g_run (by kernel_rfl) [(0, .d), (1, .d)] rfl ?_
      refine r_d rfl rfl rfl (s_move rfl rfl) ?_
      refine r_d rfl rfl rfl (s_assign rfl rfl) ?_
      refine r_end ?_
      obtain rfl := Option.some.inj hr
      refine g_ret Try.func14 _ (.cons (resTmp rfl (Wk.refl _)) .nil) ?_
      rfl
     ·
      refine g_condF rfl ?_
      refine g_skip ?_
      refine g_inBlock ?_
      refine g_run (by kernel_rfl) [(0, .d), (1, .d), (2, .d)] rfl ?_
      refine r_d rfl rfl rfl (s_move rfl rfl) ?_
      refine r_d rfl rfl rfl (s_ar (r := ((i_2 + 1 : Nat) : Int)) rfl rfl rfl (by simp [iar]) (by omega)) ?_
      refine r_d rfl rfl rfl (s_assign rfl rfl) ?_
      refine r_end ?_
      refine g_sub [(3, .ptr (enc_S_api_Program p_a0)), (7, .lst (r_1.map enc_S_api_Occ)), (8, .int .i64 ((i_2 + 1 : Nat) : Int))] (Sub.cons' rfl (Sub.cons' rfl (Sub.cons' rfl (Sub.nil _)))) ?_
      exact IH0 _ _ _ (by omega) ⟨(i_2 + 1), rfl, rfl, rfl, (by omega), hr⟩
    ·
     refine r_skip rfl rfl rfl ?_
     refine r_skip rfl rfl rfl ?_
     refine r_skip rfl rfl rfl ?_
     refine r_skip rfl rfl rfl ?_
     refine r_skip rfl rfl rfl ?_
     refine r_skip rfl rfl rfl ?_
     refine r_skip rfl rfl rfl ?_
     refine r_skip rfl rfl rfl ?_
     refine r_skip rfl rfl rfl ?_
     refine r_skip rfl rfl rfl ?_
     refine r_skip rfl rfl rfl ?_
     refine r_d rfl rfl rfl (s_pickF rfl rfl rfl) ?_
     refine r_end ?_
     refine g_condF rfl ?_
     refine g_skip ?_
     refine g_inBlock ?_
     refine g_run (by kernel_rfl) [(0, .d), (1, .d), (2, .d)] rfl ?_
     refine r_d rfl rfl rfl (s_move rfl rfl) ?_
     refine r_d rfl rfl rfl (s_ar (r := ((i_2 + 1 : Nat) : Int)) rfl rfl rfl (by simp [iar]) (by omega)) ?_
     refine r_d rfl rfl rfl (s_assign rfl rfl) ?_
     refine r_end ?_
     refine g_sub [(3, .ptr (enc_S_api_Program p_a0)), (7, .lst (r_1.map enc_S_api_Occ)), (8, .int .i64 ((i_2 + 1 : Nat) : Int))] (Sub.cons' rfl (Sub.cons' rfl (Sub.cons' rfl (Sub.nil _)))) ?_
     exact IH0 _ _ _ (by omega) ⟨(i_2 + 1), rfl, rfl, rfl, (by omega), hr⟩

noncomputable def lf_constraintlaw31_StoredFacts_L1 (k : Option (Bool)) (fuel : Nat) (p_a0 : S_api_Program) : List At → Option (Bool)
  | [] =>
  k
  | q_20 :: rest =>
  ((lf_stored_Never p_a0 q_20.n (q_20.ts.length : Int)).bind fun r_21 =>
  ((lf_constraintref31_Never fuel p_a0 q_20.n (q_20.ts.length : Int)).bind fun r_22 =>
  (bif (r_21 != r_22) then
  some (false)
  else
  ((lf_stored_Late p_a0 q_20.n (q_20.ts.length : Int)).bind fun r_24 =>
  ((lf_constraintref31_Late fuel p_a0 q_20.n (q_20.ts.length : Int)).bind fun r_25 =>
  (bif (r_24 != r_25) then
  some (false)
  else
  (lf_constraintlaw31_StoredFacts_L1 k fuel p_a0 rest)))))))

noncomputable def lf_constraintlaw31_StoredFacts_L0 (k : Option (Bool)) (fuel : Nat) (p_a0 : S_api_Program) : List S_api_Rule → Option (Bool)
  | [] =>
  k
  | q_14 :: rest =>
  ((lf_stored_Inert q_14).bind fun r_15 =>
  ((lf_constraintref31_Inert fuel q_14).bind fun r_16 =>
  (bif (r_15 != r_16) then
  some (false)
  else
  ((lf_constraintref16_Heads q_14).bind fun r_18 =>
  (lf_constraintlaw31_StoredFacts_L1 ((lf_constraintlaw31_StoredFacts_L0 k fuel p_a0 rest)) fuel p_a0 r_18)))))
noncomputable def lf_constraintlaw31_StoredFacts (fuel : Nat) (p_a0 : S_api_Program) (name_a1 : ByteArray) (arity_a2 : Int) : Option (Bool) :=
  ((lf_constraintlaw31_large p_a0).bind fun r_1 =>
  (bif r_1 then
  (lf_constraintlaw31_exampleHolds.bind fun r_3 =>
  some (r_3))
  else
  (bif (decide ((name_a1.size : Int) > (100 : Int))) then
  (lf_constraintlaw31_exampleHolds.bind fun r_5 =>
  some (r_5))
  else
  (lf_constraintlaw31_StoredFacts_L0 (((lf_stored_Never p_a0 name_a1 arity_a2).bind fun r_7 =>
  ((lf_constraintref31_Never fuel p_a0 name_a1 arity_a2).bind fun r_8 =>
  (bif (r_7 == r_8) then
  ((lf_stored_Late p_a0 name_a1 arity_a2).bind fun r_10 =>
  ((lf_constraintref31_Late fuel p_a0 name_a1 arity_a2).bind fun r_11 =>
  (bif (r_10 == r_11) then
  (lf_constraintlaw31_exampleHolds.bind fun r_13 =>
  some (r_13))
  else
  some (false))))
  else
  some (false))))) fuel p_a0 p_a0.f1_Rules))))

set_option maxHeartbeats 1000000 in
theorem lg_constraintlaw31_StoredFacts (fuel : Nat) (p_a0 : S_api_Program) (name_a1 : ByteArray) (arity_a2 : Int) (res : Bool) (hr : lf_constraintlaw31_StoredFacts fuel p_a0 name_a1 arity_a2 = some res) : Gives Try.prog 3 [enc_S_api_Program p_a0, .str name_a1, .int .i64 arity_a2] (.bool res) := by
  unfold lf_constraintlaw31_StoredFacts at hr
  refine spec_env [(0, enc_S_api_Program p_a0), (1, .str name_a1), (2, .int .i64 arity_a2)] Try.func3 rfl rfl fun K hK => ?_
  refine g_seq ?_
  refine g_run (by kernel_rfl) [(0, .d), (1, .d)] rfl ?_
  refine r_d rfl rfl rfl (s_box rfl rfl rfl) ?_
  refine r_d rfl rfl rfl (s_assign rfl rfl) ?_
  refine r_end ?_
  refine g_seq ?_
  refine g_seq ?_
  refine g_run (by kernel_rfl) [(0, .d), (1, .d), (2, .d), (3, .d), (4, .d), (5, .d), (6, .d)] rfl ?_
  refine r_d rfl rfl rfl (s_load rfl rfl (by exact ty_api_Program) (sz_S_api_Program _)) ?_
  obtain ⟨r_1, hr_1, hr⟩ := bindS hr
  refine r_d rfl rfl rfl (s_callD rfl cl_constraintlaw31_large (.cons rfl (Wk.refl _) .nil) (lg_constraintlaw31_large _ _ hr_1)) ?_
  refine r_d rfl rfl rfl (s_move rfl rfl) ?_
  refine r_sB 12 rfl hr (fun h12_1 hr => ?_) (fun h12_1 hr => ?_)
  ·
   refine r_skip rfl rfl rfl ?_
   refine r_skip rfl rfl rfl ?_
   refine r_skip rfl rfl rfl ?_
   refine r_d rfl rfl rfl (s_pickT rfl rfl rfl) ?_
   refine r_end ?_
   refine g_condT rfl ?_
   refine g_seq ?_
   refine g_run (by kernel_rfl) [(0, .d), (1, .d)] rfl ?_
   obtain ⟨r_3, hr_3, hr⟩ := bindS hr
   refine r_d rfl rfl rfl (s_callD rfl cl_constraintlaw31_exampleHolds .nil (lg_constraintlaw31_exampleHolds _ hr_3)) ?_
   refine r_d rfl rfl rfl (s_assign rfl rfl) ?_
   refine r_end ?_
   obtain rfl := Option.some.inj hr
   refine g_ret Try.func3 _ (.cons (resTmp rfl (Wk.refl _)) .nil) ?_
   rfl
  ·
   refine r_d rfl rfl rfl (s_move rfl rfl) ?_
   refine r_d rfl rfl rfl (s_lenS rfl Try.underlying9 rfl) ?_
   refine r_d rfl rfl rfl (s_cmp rfl rfl rfl rfl) ?_
   refine r_d rfl rfl rfl (s_pickF rfl rfl rfl) ?_
   refine r_end ?_
   refine g_sB 16 rfl hr (fun h16_3 hr => ?_) (fun h16_3 hr => ?_)
   ·
    refine g_condT rfl ?_
    refine g_seq ?_
    refine g_run (by kernel_rfl) [(0, .d), (1, .d)] rfl ?_
    obtain ⟨r_5, hr_5, hr⟩ := bindS hr
    refine r_d rfl rfl rfl (s_callD rfl cl_constraintlaw31_exampleHolds .nil (lg_constraintlaw31_exampleHolds _ hr_5)) ?_
    refine r_d rfl rfl rfl (s_assign rfl rfl) ?_
    refine r_end ?_
    obtain rfl := Option.some.inj hr
    refine g_ret Try.func3 _ (.cons (resTmp rfl (Wk.refl _)) .nil) ?_
    rfl
   ·
    refine g_condF rfl ?_
    refine g_skip ?_
    refine g_seq ?_
    refine g_seq ?_
    refine g_run (by kernel_rfl) [(0, .d)] rfl ?_
    refine r_d rfl rfl rfl (s_assign rfl rfl) ?_
    refine r_end ?_
    obtain ⟨kk0, hkk0, hr⟩ := exK (fun k => lf_constraintlaw31_StoredFacts_L0 k fuel p_a0 p_a0.f1_Rules) hr
    refine g_lenS 0 [1] (l := p_a0.f1_Rules.map enc_S_api_Rule) rfl rfl (asl rfl) fun hla0 => ?_
    simp only [List.length_map] at hla0
    refine g_blockJ (fun env σ => env = [(1, .str name_a1), (2, .int .i64 arity_a2), (3, .ptr (enc_S_api_Program p_a0))] ∧ σ = [] ∧ kk0 = some res) ?_ (fun HK0 => ?_)
    ·
     rintro _ _ ⟨rfl, rfl, hr⟩
     rw [hkk0] at hr
     refine g_seq ?_
     refine g_any (by kernel_rfl) (by kernel_rfl) [(0, .d), (1, .d), (2, .d), (3, .d), (4, .d), (5, .d), (6, .d), (7, .d), (8, .d), (9, .d), (10, .d), (11, .d), (12, .d), (13, .d), (14, .d), (15, .d), (16, .d), (17, .d), (18, .d), (19, .d), (20, .d), (21, .d), (22, .d), (23, .d)] (by kernel_rfl) ?_
     refine r_d rfl rfl rfl (s_load rfl rfl (by exact ty_api_Program) (sz_S_api_Program _)) ?_
     refine r_d rfl rfl rfl (s_move rfl rfl) ?_
     refine r_d rfl rfl rfl (s_move rfl rfl) ?_
     obtain ⟨r_7, hr_7, hr⟩ := bindS hr
     refine r_d rfl rfl rfl (s_callD rfl cl_stored_Never (.cons rfl (Wk.refl _) (.cons rfl (Wk.refl _) (.cons rfl (Wk.refl _) .nil))) (lg_stored_Never _ _ _ _ hr_7)) ?_
     refine r_d rfl rfl rfl (s_load rfl rfl (by exact ty_api_Program) (sz_S_api_Program _)) ?_
     refine r_d rfl rfl rfl (s_move rfl rfl) ?_
     refine r_d rfl rfl rfl (s_move rfl rfl) ?_
     obtain ⟨r_8, hr_8, hr⟩ := bindS hr
     refine r_d rfl rfl rfl (s_callD rfl cl_constraintref31_Never (.cons rfl (Wk.refl _) (.cons rfl (Wk.refl _) (.cons rfl (Wk.refl _) .nil))) (lg_constraintref31_Never fuel _ _ _ _ hr_8)) ?_
     refine r_d rfl rfl rfl (s_cmpB rfl Try.underlying4 rfl rfl) ?_
     refine r_d rfl rfl rfl (s_move rfl rfl) ?_
     refine r_sB 115 rfl hr (fun h115_8 hr => ?_) (fun h115_8 hr => ?_)
     ·
      refine r_d rfl rfl rfl (s_load rfl rfl (by exact ty_api_Program) (sz_S_api_Program _)) ?_
      refine r_d rfl rfl rfl (s_move rfl rfl) ?_
      refine r_d rfl rfl rfl (s_move rfl rfl) ?_
      obtain ⟨r_10, hr_10, hr⟩ := bindS hr
      refine r_d rfl rfl rfl (s_callD rfl cl_stored_Late (.cons rfl (Wk.refl _) (.cons rfl (Wk.refl _) (.cons rfl (Wk.refl _) .nil))) (lg_stored_Late _ _ _ _ hr_10)) ?_
      refine r_d rfl rfl rfl (s_load rfl rfl (by exact ty_api_Program) (sz_S_api_Program _)) ?_
      refine r_d rfl rfl rfl (s_move rfl rfl) ?_
      refine r_d rfl rfl rfl (s_move rfl rfl) ?_
      obtain ⟨r_11, hr_11, hr⟩ := bindS hr
      refine r_d rfl rfl rfl (s_callD rfl cl_constraintref31_Late (.cons rfl (Wk.refl _) (.cons rfl (Wk.refl _) (.cons rfl (Wk.refl _) .nil))) (lg_constraintref31_Late fuel _ _ _ _ hr_11)) ?_
      refine r_d rfl rfl rfl (s_cmp rfl rfl rfl rfl) ?_
      refine r_d rfl rfl rfl (s_pickT rfl rfl rfl) ?_
      refine r_d rfl rfl rfl (s_move rfl rfl) ?_
      refine r_sB 126 rfl hr (fun h126_11 hr => ?_) (fun h126_11 hr => ?_)
      ·
       obtain ⟨r_13, hr_13, hr⟩ := bindS hr
       refine r_d rfl rfl rfl (s_callD rfl cl_constraintlaw31_exampleHolds .nil (lg_constraintlaw31_exampleHolds _ hr_13)) ?_
       refine r_d rfl rfl rfl (s_pickT rfl rfl rfl) ?_
       refine r_d rfl rfl rfl (s_assign rfl rfl) ?_
       refine r_end ?_
       obtain rfl := Option.some.inj hr
       refine g_ret Try.func3 _ (.cons (resTmp rfl (Wk.refl _)) .nil) ?_
       rfl
      ·
       refine r_skip rfl rfl rfl ?_
       refine r_d rfl rfl rfl (s_pickF rfl rfl rfl) ?_
       refine r_d rfl rfl rfl (s_assign rfl rfl) ?_
       refine r_end ?_
       obtain rfl := Option.some.inj hr
       refine g_ret Try.func3 _ (.cons (resTmp rfl (Wk.refl _)) .nil) ?_
       rfl
     ·
      refine r_skip rfl rfl rfl ?_
      refine r_skip rfl rfl rfl ?_
      refine r_skip rfl rfl rfl ?_
      refine r_skip rfl rfl rfl ?_
      refine r_skip rfl rfl rfl ?_
      refine r_skip rfl rfl rfl ?_
      refine r_skip rfl rfl rfl ?_
      refine r_skip rfl rfl rfl ?_
      refine r_skip rfl rfl rfl ?_
      refine r_d rfl rfl rfl (s_pickF rfl rfl rfl) ?_
      refine r_d rfl rfl rfl (s_move rfl rfl) ?_
      refine r_skip rfl rfl rfl ?_
      refine r_d rfl rfl rfl (s_pickF rfl rfl rfl) ?_
      refine r_d rfl rfl rfl (s_assign rfl rfl) ?_
      refine r_end ?_
      obtain rfl := Option.some.inj hr
      refine g_ret Try.func3 _ (.cons (resTmp rfl (Wk.refl _)) .nil) ?_
      rfl
    ·
     refine g_sub [(1, .str name_a1), (2, .int .i64 arity_a2), (3, .ptr (enc_S_api_Program p_a0)), (7, .int .i64 ((0 : Nat) : Int))] (Sub.cons' rfl (Sub.cons' rfl (Sub.cons' rfl (Sub.cons' rfl (Sub.nil _))))) ?_
     refine g_loop (fun n env σ => ∃ (i_6 : Nat), (n = p_a0.f1_Rules.length - i_6) ∧ (env = [(1, .str name_a1), (2, .int .i64 arity_a2), (3, .ptr (enc_S_api_Program p_a0)), (7, .int .i64 (i_6 : Int))]) ∧ (σ = []) ∧ (i_6 ≤ p_a0.f1_Rules.length) ∧ (lf_constraintlaw31_StoredFacts_L0 kk0 fuel p_a0 (p_a0.f1_Rules.drop i_6) = some res)) _ ⟨0, rfl, rfl, rfl, Nat.zero_le _, hr⟩ ?_
     rintro n _ _ ⟨i_6, rfl, rfl, rfl, hi0, hr⟩ IH0
     rcases listStep p_a0.f1_Rules i_6 hi0 with ⟨ht0, hd0, he0⟩ | ⟨q_14, ht0, hd0, hq0, hlt0⟩
     ·
      rw [hd0, lf_constraintlaw31_StoredFacts_L0] at hr
      refine g_seq ?_
      refine g_seq ?_
      refine g_run (by kernel_rfl) [(0, .d), (1, .d), (2, .d), (3, .d), (4, .d)] rfl ?_
      refine r_d rfl rfl rfl (s_move rfl rfl) ?_
      refine r_d rfl rfl rfl (s_fieldAddr rfl fl_api_Program_1 rfl rfl rfl rfl) ?_
      refine r_d rfl rfl rfl (s_load rfl rfl (by exact ty_L_api_Rule) rfl) ?_
      refine r_d rfl rfl rfl (m_len (f := enc_S_api_Rule) p_a0.f1_Rules rfl el_L_api_Rule rfl (asl rfl)) ?_
      refine r_d rfl rfl rfl (s_cmp rfl rfl rfl rfl) ?_
      refine r_end ?_
      refine g_known 22 false rfl ht0 ?_
      refine g_condF rfl ?_
      refine g_exit rfl ?_
      refine g_sub [(1, .str name_a1), (2, .int .i64 arity_a2), (3, .ptr (enc_S_api_Program p_a0))] (Sub.cons' rfl (Sub.cons' rfl (Sub.cons' rfl (Sub.nil _)))) ?_
      exact HK0 _ _ ⟨rfl, rfl, hr⟩
     ·
      rw [hd0, lf_constraintlaw31_StoredFacts_L0] at hr
      refine g_seq ?_
      refine g_seq ?_
      refine g_run (by kernel_rfl) [(0, .d), (1, .d), (2, .d), (3, .d), (4, .d)] rfl ?_
      refine r_d rfl rfl rfl (s_move rfl rfl) ?_
      refine r_d rfl rfl rfl (s_fieldAddr rfl fl_api_Program_1 rfl rfl rfl rfl) ?_
      refine r_d rfl rfl rfl (s_load rfl rfl (by exact ty_L_api_Rule) rfl) ?_
      refine r_d rfl rfl rfl (m_len (f := enc_S_api_Rule) p_a0.f1_Rules rfl el_L_api_Rule rfl (asl rfl)) ?_
      refine r_d rfl rfl rfl (s_cmp rfl rfl rfl rfl) ?_
      refine r_end ?_
      refine g_known 22 true rfl ht0 ?_
      refine g_condT rfl ?_
      refine g_skip ?_
      refine g_seq ?_
      refine g_block ?_
      refine g_seq ?_
      refine g_seq ?_
      refine g_any (by kernel_rfl) (by kernel_rfl) [(0, .d), (1, .d), (2, .d), (3, .d), (4, .d), (5, .d), (6, .d), (7, .d), (8, .d), (9, .d), (10, .d), (11, .d), (12, .d)] (by kernel_rfl) ?_
      refine r_d rfl rfl rfl (s_fieldAddr rfl fl_api_Program_1 rfl rfl rfl rfl) ?_
      refine r_d rfl rfl rfl (s_load rfl rfl (by exact ty_L_api_Rule) rfl) ?_
      refine r_d rfl rfl rfl (s_move rfl rfl) ?_
      refine r_d rfl rfl rfl (m_index (f := enc_S_api_Rule) p_a0.f1_Rules rfl el_L_api_Rule rfl (asl rfl) rfl hq0 sz_S_api_Rule rfl) ?_
      refine r_d rfl rfl rfl (s_load rfl rfl (by exact ty_api_Rule) (sz_S_api_Rule _)) ?_
      obtain ⟨r_15, hr_15, hr⟩ := bindS hr
      refine r_d rfl rfl rfl (s_callD rfl cl_stored_Inert (.cons rfl (Wk.refl _) .nil) (lg_stored_Inert _ _ hr_15)) ?_
      refine r_d rfl rfl rfl (s_fieldAddr rfl fl_api_Program_1 rfl rfl rfl rfl) ?_
      refine r_d rfl rfl rfl (s_load rfl rfl (by exact ty_L_api_Rule) rfl) ?_
      refine r_d rfl rfl rfl (s_move rfl rfl) ?_
      refine r_d rfl rfl rfl (m_index (f := enc_S_api_Rule) p_a0.f1_Rules rfl el_L_api_Rule rfl (asl rfl) rfl hq0 sz_S_api_Rule rfl) ?_
      refine r_d rfl rfl rfl (s_load rfl rfl (by exact ty_api_Rule) (sz_S_api_Rule _)) ?_
      obtain ⟨r_16, hr_16, hr⟩ := bindS hr
      refine r_d rfl rfl rfl (s_callD rfl cl_constraintref31_Inert (.cons rfl (Wk.refl _) .nil) (lg_constraintref31_Inert fuel _ _ hr_16)) ?_
      refine r_d rfl rfl rfl (s_neqB rfl Try.underlying4 rfl rfl) ?_
      refine r_end ?_
      refine g_sB 37 rfl hr (fun h37_16 hr => ?_) (fun h37_16 hr => ?_)
      ·
       refine g_condT rfl ?_
       refine g_seq ?_
       refine g_run (by kernel_rfl) [(0, .d)] rfl ?_
       refine r_d rfl rfl rfl (s_assign rfl rfl) ?_
       refine r_end ?_
       obtain rfl := Option.some.inj hr
       refine g_ret Try.func3 _ (.cons (resTmp rfl (Wk.refl _)) .nil) ?_
       rfl
      ·
       refine g_condF rfl ?_
       refine g_skip ?_
       refine g_seq ?_
       refine g_run (by kernel_rfl) [(0, .d), (1, .d), (2, .d), (3, .d), (4, .d), (5, .d), (6, .d)] rfl ?_
       refine r_d rfl rfl rfl (s_fieldAddr rfl fl_api_Program_1 rfl rfl rfl rfl) ?_
       refine r_d rfl rfl rfl (s_load rfl rfl (by exact ty_L_api_Rule) rfl) ?_
       refine r_d rfl rfl rfl (s_move rfl rfl) ?_
       refine r_d rfl rfl rfl (m_index (f := enc_S_api_Rule) p_a0.f1_Rules rfl el_L_api_Rule rfl (asl rfl) rfl hq0 sz_S_api_Rule rfl) ?_
       refine r_d rfl rfl rfl (s_load rfl rfl (by exact ty_api_Rule) (sz_S_api_Rule _)) ?_
       obtain ⟨r_18, hr_18, hr⟩ := bindS hr
       refine r_d rfl rfl rfl (s_callD rfl cl_constraintref16_Heads (.cons rfl (Wk.refl _) .nil) (lg_constraintref16_Heads _ _ hr_18)) ?_
       refine r_d rfl rfl rfl (s_assign rfl rfl) ?_
       refine r_end ?_
       refine g_seq ?_
       refine g_run (by kernel_rfl) [(0, .d)] rfl ?_
       refine r_d rfl rfl rfl (s_assign rfl rfl) ?_
       refine r_end ?_
       obtain ⟨kk1, hkk1, hr⟩ := exK (fun k => lf_constraintlaw31_StoredFacts_L1 k fuel p_a0 r_18) hr
       refine g_len 43 rfl (asl rfl) fun hla1 => ?_
       simp only [List.length_map] at hla1
       refine g_blockJ (fun env σ => env = [(1, .str name_a1), (2, .int .i64 arity_a2), (3, .ptr (enc_S_api_Program p_a0)), (7, .int .i64 (i_6 : Int))] ∧ σ = [] ∧ kk1 = some res) ?_ (fun HK1 => ?_)
       ·
        rintro _ _ ⟨rfl, rfl, hr⟩
        rw [hkk1] at hr
        refine g_inBlock ?_
        refine g_run (by kernel_rfl) [(0, .d), (1, .d), (2, .d)] rfl ?_
        refine r_d rfl rfl rfl (s_move rfl rfl) ?_
        refine r_d rfl rfl rfl (s_ar (r := ((i_6 + 1 : Nat) : Int)) rfl rfl rfl (by simp [iar]) (by omega)) ?_
        refine r_d rfl rfl rfl (s_assign rfl rfl) ?_
        refine r_end ?_
        refine g_sub [(1, .str name_a1), (2, .int .i64 arity_a2), (3, .ptr (enc_S_api_Program p_a0)), (7, .int .i64 ((i_6 + 1 : Nat) : Int))] (Sub.cons' rfl (Sub.cons' rfl (Sub.cons' rfl (Sub.cons' rfl (Sub.nil _))))) ?_
        exact IH0 _ _ _ (by omega) ⟨(i_6 + 1), rfl, rfl, rfl, (by omega), hr⟩
       ·
        refine g_sub [(1, .str name_a1), (2, .int .i64 arity_a2), (3, .ptr (enc_S_api_Program p_a0)), (7, .int .i64 ((i_6 : Nat) : Int)), (8, .lst (r_18.map encA)), (9, .int .i64 ((0 : Nat) : Int))] (Sub.cons' rfl (Sub.cons' rfl (Sub.cons' rfl (Sub.cons' rfl (Sub.cons' rfl (Sub.cons' rfl (Sub.nil _))))))) ?_
        refine g_loop (fun n env σ => ∃ (k_19 : Nat), (n = r_18.length - k_19) ∧ (env = [(1, .str name_a1), (2, .int .i64 arity_a2), (3, .ptr (enc_S_api_Program p_a0)), (7, .int .i64 (i_6 : Int)), (8, .lst (r_18.map encA)), (9, .int .i64 (k_19 : Int))]) ∧ (σ = []) ∧ (k_19 ≤ r_18.length) ∧ (lf_constraintlaw31_StoredFacts_L1 kk1 fuel p_a0 (r_18.drop k_19) = some res)) _ ⟨0, rfl, rfl, rfl, Nat.zero_le _, hr⟩ ?_
        rintro n _ _ ⟨k_19, rfl, rfl, rfl, hi1, hr⟩ IH1
        rcases listStep r_18 k_19 hi1 with ⟨ht1, hd1, he1⟩ | ⟨q_20, ht1, hd1, hq1, hlt1⟩
        ·
         rw [hd1, lf_constraintlaw31_StoredFacts_L1] at hr
         refine g_seq ?_
         refine g_seq ?_
         refine g_run (by kernel_rfl) [(0, .d), (1, .d), (2, .d), (3, .d)] rfl ?_
         refine r_d rfl rfl rfl (s_move rfl rfl) ?_
         refine r_d rfl rfl rfl (s_move rfl rfl) ?_
         refine r_d rfl rfl rfl (m_len (f := encA) r_18 rfl el_L_api_Atom rfl (asl rfl)) ?_
         refine r_d rfl rfl rfl (s_cmp rfl rfl rfl rfl) ?_
         refine r_end ?_
         refine g_known 47 false rfl ht1 ?_
         refine g_condF rfl ?_
         refine g_exit rfl ?_
         refine g_sub [(1, .str name_a1), (2, .int .i64 arity_a2), (3, .ptr (enc_S_api_Program p_a0)), (7, .int .i64 (i_6 : Int))] (Sub.cons' rfl (Sub.cons' rfl (Sub.cons' rfl (Sub.cons' rfl (Sub.nil _))))) ?_
         exact HK1 _ _ ⟨rfl, rfl, hr⟩
        ·
         rw [hd1, lf_constraintlaw31_StoredFacts_L1] at hr
         refine g_seq ?_
         refine g_seq ?_
         refine g_run (by kernel_rfl) [(0, .d), (1, .d), (2, .d), (3, .d)] rfl ?_
         refine r_d rfl rfl rfl (s_move rfl rfl) ?_
         refine r_d rfl rfl rfl (s_move rfl rfl) ?_
         refine r_d rfl rfl rfl (m_len (f := encA) r_18 rfl el_L_api_Atom rfl (asl rfl)) ?_
         refine r_d rfl rfl rfl (s_cmp rfl rfl rfl rfl) ?_
         refine r_end ?_
         refine g_known 47 true rfl ht1 ?_
         refine g_condT rfl ?_
         refine g_skip ?_
         refine g_seq ?_
         refine g_block ?_
         refine g_seq ?_
         refine g_any (by kernel_rfl) (by kernel_rfl) [(0, .d), (1, .d), (2, .d), (3, .d), (4, .d), (5, .d), (6, .d), (7, .d), (8, .d), (9, .d), (10, .d), (11, .d), (12, .d), (13, .d), (14, .d), (15, .d), (16, .d), (17, .d), (18, .d), (19, .d), (20, .d), (21, .d), (22, .d), (23, .d), (24, .d), (25, .d), (26, .d), (27, .d), (28, .d), (29, .d), (30, .d), (31, .d), (32, .d), (33, .d), (34, .d), (35, .d), (36, .d), (37, .d), (38, .d), (39, .d), (40, .d), (41, .d), (42, .d), (43, .d), (44, .d), (45, .d), (46, .d), (47, .d), (48, .d), (49, .d), (50, .d), (51, .d), (52, .d), (53, .d), (54, .d), (55, .d)] (by kernel_rfl) ?_
         refine r_d rfl rfl rfl (s_load rfl rfl (by exact ty_api_Program) (sz_S_api_Program _)) ?_
         refine r_d rfl rfl rfl (s_move rfl rfl) ?_
         refine r_d rfl rfl rfl (s_move rfl rfl) ?_
         refine r_d rfl rfl rfl (m_index (f := encA) r_18 rfl el_L_api_Atom rfl (asl rfl) rfl hq1 sz_encA rfl) ?_
         refine r_d rfl rfl rfl (s_fieldAddr rfl fl_api_Atom_0 rfl rfl rfl rfl) ?_
         refine r_d rfl rfl rfl (s_load rfl rfl (by exact ty_string) rfl) ?_
         refine r_d rfl rfl rfl (s_move rfl rfl) ?_
         refine r_d rfl rfl rfl (s_move rfl rfl) ?_
         refine r_d rfl rfl rfl (m_index (f := encA) r_18 rfl el_L_api_Atom rfl (asl rfl) rfl hq1 sz_encA rfl) ?_
         refine r_d rfl rfl rfl (s_fieldAddr rfl fl_api_Atom_1 rfl rfl rfl rfl) ?_
         refine r_d rfl rfl rfl (s_load rfl rfl (by exact ty_L_api_Term) rfl) ?_
         refine r_d rfl rfl rfl (m_len (f := encT) q_20.ts rfl el_L_api_Term rfl (asl rfl)) ?_
         obtain ⟨r_21, hr_21, hr⟩ := bindS hr
         refine r_d rfl rfl rfl (s_callD rfl cl_stored_Never (.cons rfl (Wk.refl _) (.cons rfl (Wk.refl _) (.cons rfl (Wk.refl _) .nil))) (lg_stored_Never _ _ _ _ hr_21)) ?_
         refine r_d rfl rfl rfl (s_load rfl rfl (by exact ty_api_Program) (sz_S_api_Program _)) ?_
         refine r_d rfl rfl rfl (s_move rfl rfl) ?_
         refine r_d rfl rfl rfl (s_move rfl rfl) ?_
         refine r_d rfl rfl rfl (m_index (f := encA) r_18 rfl el_L_api_Atom rfl (asl rfl) rfl hq1 sz_encA rfl) ?_
         refine r_d rfl rfl rfl (s_fieldAddr rfl fl_api_Atom_0 rfl rfl rfl rfl) ?_
         refine r_d rfl rfl rfl (s_load rfl rfl (by exact ty_string) rfl) ?_
         refine r_d rfl rfl rfl (s_move rfl rfl) ?_
         refine r_d rfl rfl rfl (s_move rfl rfl) ?_
         refine r_d rfl rfl rfl (m_index (f := encA) r_18 rfl el_L_api_Atom rfl (asl rfl) rfl hq1 sz_encA rfl) ?_
         refine r_d rfl rfl rfl (s_fieldAddr rfl fl_api_Atom_1 rfl rfl rfl rfl) ?_
         refine r_d rfl rfl rfl (s_load rfl rfl (by exact ty_L_api_Term) rfl) ?_
         refine r_d rfl rfl rfl (m_len (f := encT) q_20.ts rfl el_L_api_Term rfl (asl rfl)) ?_
         obtain ⟨r_22, hr_22, hr⟩ := bindS hr
         refine r_d rfl rfl rfl (s_callD rfl cl_constraintref31_Never (.cons rfl (Wk.refl _) (.cons rfl (Wk.refl _) (.cons rfl (Wk.refl _) .nil))) (lg_constraintref31_Never fuel _ _ _ _ hr_22)) ?_
         refine r_d rfl rfl rfl (s_neqB rfl Try.underlying4 rfl rfl) ?_
         refine r_d rfl rfl rfl (s_move rfl rfl) ?_
         refine r_sB 77 rfl hr (fun h77_22 hr => ?_) (fun h77_22 hr => ?_)
         ·
          refine r_skip rfl rfl rfl ?_
          refine r_skip rfl rfl rfl ?_
          refine r_skip rfl rfl rfl ?_
          refine r_skip rfl rfl rfl ?_
          refine r_skip rfl rfl rfl ?_
          refine r_skip rfl rfl rfl ?_
          refine r_skip rfl rfl rfl ?_
          refine r_skip rfl rfl rfl ?_
          refine r_skip rfl rfl rfl ?_
          refine r_skip rfl rfl rfl ?_
          refine r_skip rfl rfl rfl ?_
          refine r_skip rfl rfl rfl ?_
          refine r_skip rfl rfl rfl ?_
          refine r_skip rfl rfl rfl ?_
          refine r_skip rfl rfl rfl ?_
          refine r_skip rfl rfl rfl ?_
          refine r_skip rfl rfl rfl ?_
          refine r_skip rfl rfl rfl ?_
          refine r_skip rfl rfl rfl ?_
          refine r_skip rfl rfl rfl ?_
          refine r_skip rfl rfl rfl ?_
          refine r_skip rfl rfl rfl ?_
          refine r_skip rfl rfl rfl ?_
          refine r_skip rfl rfl rfl ?_
          refine r_skip rfl rfl rfl ?_
          refine r_skip rfl rfl rfl ?_
          refine r_skip rfl rfl rfl ?_
          refine r_d rfl rfl rfl (s_pickT rfl rfl rfl) ?_
          refine r_end ?_
          refine g_condT rfl ?_
          refine g_seq ?_
          refine g_run (by kernel_rfl) [(0, .d)] rfl ?_
          refine r_d rfl rfl rfl (s_assign rfl rfl) ?_
          refine r_end ?_
          obtain rfl := Option.some.inj hr
          refine g_ret Try.func3 _ (.cons (resTmp rfl (Wk.refl _)) .nil) ?_
          rfl
         ·
          refine r_d rfl rfl rfl (s_load rfl rfl (by exact ty_api_Program) (sz_S_api_Program _)) ?_
          refine r_d rfl rfl rfl (s_move rfl rfl) ?_
          refine r_d rfl rfl rfl (s_move rfl rfl) ?_
          refine r_d rfl rfl rfl (m_index (f := encA) r_18 rfl el_L_api_Atom rfl (asl rfl) rfl hq1 sz_encA rfl) ?_
          refine r_d rfl rfl rfl (s_fieldAddr rfl fl_api_Atom_0 rfl rfl rfl rfl) ?_
          refine r_d rfl rfl rfl (s_load rfl rfl (by exact ty_string) rfl) ?_
          refine r_d rfl rfl rfl (s_move rfl rfl) ?_
          refine r_d rfl rfl rfl (s_move rfl rfl) ?_
          refine r_d rfl rfl rfl (m_index (f := encA) r_18 rfl el_L_api_Atom rfl (asl rfl) rfl hq1 sz_encA rfl) ?_
          refine r_d rfl rfl rfl (s_fieldAddr rfl fl_api_Atom_1 rfl rfl rfl rfl) ?_
          refine r_d rfl rfl rfl (s_load rfl rfl (by exact ty_L_api_Term) rfl) ?_
          refine r_d rfl rfl rfl (m_len (f := encT) q_20.ts rfl el_L_api_Term rfl (asl rfl)) ?_
          obtain ⟨r_24, hr_24, hr⟩ := bindS hr
          refine r_d rfl rfl rfl (s_callD rfl cl_stored_Late (.cons rfl (Wk.refl _) (.cons rfl (Wk.refl _) (.cons rfl (Wk.refl _) .nil))) (lg_stored_Late _ _ _ _ hr_24)) ?_
          refine r_d rfl rfl rfl (s_load rfl rfl (by exact ty_api_Program) (sz_S_api_Program _)) ?_
          refine r_d rfl rfl rfl (s_move rfl rfl) ?_
          refine r_d rfl rfl rfl (s_move rfl rfl) ?_
          refine r_d rfl rfl rfl (m_index (f := encA) r_18 rfl el_L_api_Atom rfl (asl rfl) rfl hq1 sz_encA rfl) ?_
          refine r_d rfl rfl rfl (s_fieldAddr rfl fl_api_Atom_0 rfl rfl rfl rfl) ?_
          refine r_d rfl rfl rfl (s_load rfl rfl (by exact ty_string) rfl) ?_
          refine r_d rfl rfl rfl (s_move rfl rfl) ?_
          refine r_d rfl rfl rfl (s_move rfl rfl) ?_
          refine r_d rfl rfl rfl (m_index (f := encA) r_18 rfl el_L_api_Atom rfl (asl rfl) rfl hq1 sz_encA rfl) ?_
          refine r_d rfl rfl rfl (s_fieldAddr rfl fl_api_Atom_1 rfl rfl rfl rfl) ?_
          refine r_d rfl rfl rfl (s_load rfl rfl (by exact ty_L_api_Term) rfl) ?_
          refine r_d rfl rfl rfl (m_len (f := encT) q_20.ts rfl el_L_api_Term rfl (asl rfl)) ?_
          obtain ⟨r_25, hr_25, hr⟩ := bindS hr
          refine r_d rfl rfl rfl (s_callD rfl cl_constraintref31_Late (.cons rfl (Wk.refl _) (.cons rfl (Wk.refl _) (.cons rfl (Wk.refl _) .nil))) (lg_constraintref31_Late fuel _ _ _ _ hr_25)) ?_
          refine r_d rfl rfl rfl (s_cmp rfl rfl rfl rfl) ?_
          refine r_d rfl rfl rfl (s_pickF rfl rfl rfl) ?_
          refine r_end ?_
          refine g_sB 105 rfl hr (fun h105_25 hr => ?_) (fun h105_25 hr => ?_)
          ·
           refine g_condT rfl ?_
           refine g_seq ?_
           refine g_run (by kernel_rfl) [(0, .d)] rfl ?_
           refine r_d rfl rfl rfl (s_assign rfl rfl) ?_
           refine r_end ?_
           obtain rfl := Option.some.inj hr
           refine g_ret Try.func3 _ (.cons (resTmp rfl (Wk.refl _)) .nil) ?_
           rfl
          ·
           refine g_condF rfl ?_
           refine g_skip ?_
           refine g_inBlock ?_
           refine g_run (by kernel_rfl) [(0, .d), (1, .d), (2, .d)] rfl ?_
           refine r_d rfl rfl rfl (s_move rfl rfl) ?_
           refine r_d rfl rfl rfl (s_ar (r := ((k_19 + 1 : Nat) : Int)) rfl rfl rfl (by simp [iar]) (by omega)) ?_
           refine r_d rfl rfl rfl (s_assign rfl rfl) ?_
           refine r_end ?_
           refine g_sub [(1, .str name_a1), (2, .int .i64 arity_a2), (3, .ptr (enc_S_api_Program p_a0)), (7, .int .i64 ((i_6 : Nat) : Int)), (8, .lst (r_18.map encA)), (9, .int .i64 ((k_19 + 1 : Nat) : Int))] (Sub.cons' rfl (Sub.cons' rfl (Sub.cons' rfl (Sub.cons' rfl (Sub.cons' rfl (Sub.cons' rfl (Sub.nil _))))))) ?_
           exact IH1 _ _ _ (by omega) ⟨(k_19 + 1), rfl, rfl, rfl, (by omega), hr⟩

noncomputable def lf_constraintlaw31_StoredOrder_L1 (k : Option (Bool)) (p_a0 : S_api_Program) (r_13 : Int) : List S_api_Occ → Nat → Option (Bool)
  | [], k_19 =>
  (bif (decide ((k_19 : Int) ≤ r_13)) then
  k
  else
  k)
  | q_20 :: rest, k_19 =>
  (bif (decide ((k_19 : Int) ≤ r_13)) then
  (bif q_20.f2_Kept then
  ((getI p_a0.f1_Rules q_20.f0_Rule).bind fun q_24 =>
  ((lf_stored_Inert q_24).bind fun r_25 =>
  (bif ((!r_25) != ((k_19 : Int) == r_13)) then
  some (false)
  else
  (lf_constraintlaw31_StoredOrder_L1 k p_a0 r_13 rest (k_19 + 1)))))
  else
  (bif (false != ((k_19 : Int) == r_13)) then
  some (false)
  else
  (lf_constraintlaw31_StoredOrder_L1 k p_a0 r_13 rest (k_19 + 1))))
  else
  k)

noncomputable def lf_constraintlaw31_StoredOrder_L2 (k : Option (Bool)) (p_a0 : S_api_Program) (r_13 : Int) : List S_api_Occ → Nat → Option (Bool)
  | [], k_28 =>
  (bif (decide ((k_28 : Int) ≤ r_13)) then
  k
  else
  k)
  | q_29 :: rest, k_28 =>
  (bif (decide ((k_28 : Int) ≤ r_13)) then
  (bif q_29.f2_Kept then
  ((getI p_a0.f1_Rules q_29.f0_Rule).bind fun q_33 =>
  ((lf_stored_Inert q_33).bind fun r_34 =>
  (bif ((!r_34) != ((k_28 : Int) == r_13)) then
  some (false)
  else
  (lf_constraintlaw31_StoredOrder_L2 k p_a0 r_13 rest (k_28 + 1)))))
  else
  (bif (false != ((k_28 : Int) == r_13)) then
  some (false)
  else
  (lf_constraintlaw31_StoredOrder_L2 k p_a0 r_13 rest (k_28 + 1))))
  else
  k)

noncomputable def lf_constraintlaw31_StoredOrder_L0 (k : Option (Bool)) (p_a0 : S_api_Program) : List S_api_Occ → Option (Bool)
  | [] =>
  k
  | q_7 :: rest =>
  ((getI p_a0.f1_Rules q_7.f0_Rule).bind fun q_8 =>
  ((lf_constraintref16_Heads q_8).bind fun r_9 =>
  ((getI r_9 q_7.f1_Head).bind fun q_10 =>
  ((lf_constraintref16_Of p_a0 q_10.n (q_10.ts.length : Int)).bind fun r_12 =>
  ((lf_stored_Late p_a0 q_10.n (q_10.ts.length : Int)).bind fun r_13 =>
  (bif (decide (r_13 < (0 : Int))) then
  some (false)
  else
  (bif (decide (r_13 > (r_12.length : Int))) then
  some (false)
  else
  (bif (r_13 == (0 : Int)) then
  ((lf_stored_Never p_a0 q_10.n (q_10.ts.length : Int)).bind fun r_17 =>
  (bif r_17 then
  some (false)
  else
  (lf_constraintlaw31_StoredOrder_L1 ((lf_constraintlaw31_StoredOrder_L0 k p_a0 rest)) p_a0 r_13 r_12 0)))
  else
  (lf_constraintlaw31_StoredOrder_L2 ((lf_constraintlaw31_StoredOrder_L0 k p_a0 rest)) p_a0 r_13 r_12 0)))))))))
noncomputable def lf_constraintlaw31_StoredOrder (p_a0 : S_api_Program) : Option (Bool) :=
  ((lf_constraintlaw31_large p_a0).bind fun r_1 =>
  (bif r_1 then
  (lf_constraintlaw31_exampleHolds.bind fun r_3 =>
  some (r_3))
  else
  ((lf_constraintref16_All p_a0).bind fun r_4 =>
  (lf_constraintlaw31_StoredOrder_L0 ((lf_constraintlaw31_exampleHolds.bind fun r_6 =>
  some (r_6))) p_a0 r_4))))

set_option maxHeartbeats 1000000 in
theorem lg_constraintlaw31_StoredOrder (p_a0 : S_api_Program) (res : Bool) (hr : lf_constraintlaw31_StoredOrder p_a0 = some res) : Gives Try.prog 4 [enc_S_api_Program p_a0] (.bool res) := by
  unfold lf_constraintlaw31_StoredOrder at hr
  refine spec_env [(0, enc_S_api_Program p_a0)] Try.func4 rfl rfl fun K hK => ?_
  refine g_seq ?_
  refine g_run (by kernel_rfl) [(0, .d), (1, .d)] rfl ?_
  refine r_d rfl rfl rfl (s_box rfl rfl rfl) ?_
  refine r_d rfl rfl rfl (s_assign rfl rfl) ?_
  refine r_end ?_
  refine g_seq ?_
  refine g_seq ?_
  refine g_run (by kernel_rfl) [(0, .d), (1, .d)] rfl ?_
  refine r_d rfl rfl rfl (s_load rfl rfl (by exact ty_api_Program) (sz_S_api_Program _)) ?_
  obtain ⟨r_1, hr_1, hr⟩ := bindS hr
  refine r_d rfl rfl rfl (s_callD rfl cl_constraintlaw31_large (.cons rfl (Wk.refl _) .nil) (lg_constraintlaw31_large _ _ hr_1)) ?_
  refine r_end ?_
  refine g_sB 11 rfl hr (fun h11_1 hr => ?_) (fun h11_1 hr => ?_)
  ·
   refine g_condT rfl ?_
   refine g_seq ?_
   refine g_run (by kernel_rfl) [(0, .d), (1, .d)] rfl ?_
   obtain ⟨r_3, hr_3, hr⟩ := bindS hr
   refine r_d rfl rfl rfl (s_callD rfl cl_constraintlaw31_exampleHolds .nil (lg_constraintlaw31_exampleHolds _ hr_3)) ?_
   refine r_d rfl rfl rfl (s_assign rfl rfl) ?_
   refine r_end ?_
   obtain rfl := Option.some.inj hr
   refine g_ret Try.func4 _ (.cons (resTmp rfl (Wk.refl _)) .nil) ?_
   rfl
  ·
   refine g_condF rfl ?_
   refine g_skip ?_
   refine g_seq ?_
   refine g_run (by kernel_rfl) [(0, .d), (1, .d), (2, .d)] rfl ?_
   refine r_d rfl rfl rfl (s_load rfl rfl (by exact ty_api_Program) (sz_S_api_Program _)) ?_
   obtain ⟨r_4, hr_4, hr⟩ := bindS hr
   refine r_d rfl rfl rfl (s_callD rfl cl_constraintref16_All (.cons rfl (Wk.refl _) .nil) (lg_constraintref16_All _ _ hr_4)) ?_
   refine r_d rfl rfl rfl (s_assign rfl rfl) ?_
   refine r_end ?_
   refine g_seq ?_
   refine g_seq ?_
   refine g_run (by kernel_rfl) [(0, .d)] rfl ?_
   refine r_d rfl rfl rfl (s_assign rfl rfl) ?_
   refine r_end ?_
   obtain ⟨kk0, hkk0, hr⟩ := exK (fun k => lf_constraintlaw31_StoredOrder_L0 k p_a0 r_4) hr
   refine g_len 14 rfl (asl rfl) fun hla0 => ?_
   simp only [List.length_map] at hla0
   refine g_blockJ (fun env σ => env = [] ∧ σ = [] ∧ kk0 = some res) ?_ (fun HK0 => ?_)
   ·
    rintro _ _ ⟨rfl, rfl, hr⟩
    rw [hkk0] at hr
    refine g_seq ?_
    refine g_run (by kernel_rfl) [(0, .d), (1, .d)] rfl ?_
    obtain ⟨r_6, hr_6, hr⟩ := bindS hr
    refine r_d rfl rfl rfl (s_callD rfl cl_constraintlaw31_exampleHolds .nil (lg_constraintlaw31_exampleHolds _ hr_6)) ?_
    refine r_d rfl rfl rfl (s_assign rfl rfl) ?_
    refine r_end ?_
    obtain rfl := Option.some.inj hr
    refine g_ret Try.func4 _ (.cons (resTmp rfl (Wk.refl _)) .nil) ?_
    rfl
   ·
    refine g_sub [(1, .ptr (enc_S_api_Program p_a0)), (3, .lst (r_4.map enc_S_api_Occ)), (4, .int .i64 ((0 : Nat) : Int))] (Sub.cons' rfl (Sub.cons' rfl (Sub.cons' rfl (Sub.nil _)))) ?_
    refine g_loop (fun n env σ => ∃ (i_5 : Nat), (n = r_4.length - i_5) ∧ (env = [(1, .ptr (enc_S_api_Program p_a0)), (3, .lst (r_4.map enc_S_api_Occ)), (4, .int .i64 (i_5 : Int))]) ∧ (σ = []) ∧ (i_5 ≤ r_4.length) ∧ (lf_constraintlaw31_StoredOrder_L0 kk0 p_a0 (r_4.drop i_5) = some res)) _ ⟨0, rfl, rfl, rfl, Nat.zero_le _, hr⟩ ?_
    rintro n _ _ ⟨i_5, rfl, rfl, rfl, hi0, hr⟩ IH0
    rcases listStep r_4 i_5 hi0 with ⟨ht0, hd0, he0⟩ | ⟨q_7, ht0, hd0, hq0, hlt0⟩
    ·
     rw [hd0, lf_constraintlaw31_StoredOrder_L0] at hr
     refine g_seq ?_
     refine g_seq ?_
     refine g_run (by kernel_rfl) [(0, .d), (1, .d), (2, .d), (3, .d)] rfl ?_
     refine r_d rfl rfl rfl (s_move rfl rfl) ?_
     refine r_d rfl rfl rfl (s_move rfl rfl) ?_
     refine r_d rfl rfl rfl (m_len (f := enc_S_api_Occ) r_4 rfl el_L_api_Occ rfl (asl rfl)) ?_
     refine r_d rfl rfl rfl (s_cmp rfl rfl rfl rfl) ?_
     refine r_end ?_
     refine g_known 18 false rfl ht0 ?_
     refine g_condF rfl ?_
     refine g_exit rfl ?_
     refine g_sub [] (Sub.nil _) ?_
     exact HK0 _ _ ⟨rfl, rfl, hr⟩
    ·
     rw [hd0, lf_constraintlaw31_StoredOrder_L0] at hr
     refine g_seq ?_
     refine g_seq ?_
     refine g_run (by kernel_rfl) [(0, .d), (1, .d), (2, .d), (3, .d)] rfl ?_
     refine r_d rfl rfl rfl (s_move rfl rfl) ?_
     refine r_d rfl rfl rfl (s_move rfl rfl) ?_
     refine r_d rfl rfl rfl (m_len (f := enc_S_api_Occ) r_4 rfl el_L_api_Occ rfl (asl rfl)) ?_
     refine r_d rfl rfl rfl (s_cmp rfl rfl rfl rfl) ?_
     refine r_end ?_
     refine g_known 18 true rfl ht0 ?_
     refine g_condT rfl ?_
     refine g_skip ?_
     refine g_seq ?_
     refine g_block ?_
     refine g_seq ?_
     refine g_any (by kernel_rfl) (by kernel_rfl) [(0, .d), (1, .d), (2, .d), (3, .d), (4, .d), (5, .d), (6, .d), (7, .d), (8, .d), (9, .d), (10, .d), (11, .d), (12, .d), (13, .d), (14, .d), (15, .d), (16, .d), (17, .w), (18, .w)] (by kernel_rfl) ?_
     refine r_d rfl rfl rfl (s_fieldAddr rfl fl_api_Program_1 rfl rfl rfl rfl) ?_
     refine r_d rfl rfl rfl (s_load rfl rfl (by exact ty_L_api_Rule) rfl) ?_
     refine r_d rfl rfl rfl (s_move rfl rfl) ?_
     refine r_d rfl rfl rfl (s_move rfl rfl) ?_
     refine r_d rfl rfl rfl (m_index (f := enc_S_api_Occ) r_4 rfl el_L_api_Occ rfl (asl rfl) rfl hq0 sz_S_api_Occ rfl) ?_
     refine r_d rfl rfl rfl (s_fieldAddr rfl fl_api_Occ_0 rfl rfl rfl rfl) ?_
     refine r_d rfl rfl rfl (s_load rfl rfl (by exact ty_int) rfl) ?_
     obtain ⟨q_8, hq_8, hr⟩ := bindS hr
     refine r_d rfl rfl rfl (m_index (f := enc_S_api_Rule) p_a0.f1_Rules rfl el_L_api_Rule rfl (asl rfl) rfl hq_8 sz_S_api_Rule rfl) ?_
     refine r_d rfl rfl rfl (s_load rfl rfl (by exact ty_api_Rule) (sz_S_api_Rule _)) ?_
     obtain ⟨r_9, hr_9, hr⟩ := bindS hr
     refine r_d rfl rfl rfl (s_callD rfl cl_constraintref16_Heads (.cons rfl (Wk.refl _) .nil) (lg_constraintref16_Heads _ _ hr_9)) ?_
     refine r_d rfl rfl rfl (s_move rfl rfl) ?_
     refine r_d rfl rfl rfl (s_move rfl rfl) ?_
     refine r_d rfl rfl rfl (m_index (f := enc_S_api_Occ) r_4 rfl el_L_api_Occ rfl (asl rfl) rfl hq0 sz_S_api_Occ rfl) ?_
     refine r_d rfl rfl rfl (s_fieldAddr rfl fl_api_Occ_1 rfl rfl rfl rfl) ?_
     refine r_d rfl rfl rfl (s_load rfl rfl (by exact ty_int) rfl) ?_
     obtain ⟨q_10, hq_10, hr⟩ := bindS hr
     refine r_d rfl rfl rfl (m_index (f := encA) r_9 rfl el_L_api_Atom rfl (asl rfl) rfl hq_10 sz_encA rfl) ?_
     refine r_d rfl rfl rfl (s_load rfl rfl (by exact ty_api_Atom) (sz_encA _)) ?_
     refine r_w rfl rfl rfl (s_alloc rfl zv_api_Atom) ?_
     rintro _ _ ⟨b5_10, rfl, rfl⟩
     refine r_w01 rfl rfl rfl (t_store0 _ rfl rfl rfl (Wk.refl _) (pf0 _) (by exact ty_api_Atom) (sz_encA _) rfl rfl) ?_
     refine r_end ?_
     refine g_freeze 5 b5_10 rfl (pf0 _) ?_
     refine g_seq ?_
     refine g_run (by kernel_rfl) [(0, .d), (1, .d), (2, .d), (3, .d), (4, .d), (5, .d), (6, .d), (7, .d)] rfl ?_
     refine r_d rfl rfl rfl (s_load rfl rfl (by exact ty_api_Program) (sz_S_api_Program _)) ?_
     refine r_d rfl rfl rfl (s_fieldAddr rfl fl_api_Atom_0 rfl rfl rfl rfl) ?_
     refine r_d rfl rfl rfl (s_load rfl rfl (by exact ty_string) rfl) ?_
     refine r_d rfl rfl rfl (s_fieldAddr rfl fl_api_Atom_1 rfl rfl rfl rfl) ?_
     refine r_d rfl rfl rfl (s_load rfl rfl (by exact ty_L_api_Term) rfl) ?_
     refine r_d rfl rfl rfl (m_len (f := encT) q_10.ts rfl el_L_api_Term rfl (asl rfl)) ?_
     obtain ⟨r_12, hr_12, hr⟩ := bindS hr
     refine r_d rfl rfl rfl (s_callD rfl cl_constraintref16_Of (.cons rfl (Wk.refl _) (.cons rfl (Wk.refl _) (.cons rfl (Wk.refl _) .nil))) (lg_constraintref16_Of _ _ _ _ hr_12)) ?_
     refine r_d rfl rfl rfl (s_assign rfl rfl) ?_
     refine r_end ?_
     refine g_seq ?_
     refine g_run (by kernel_rfl) [(0, .d), (1, .d), (2, .d), (3, .d), (4, .d), (5, .d), (6, .d), (7, .d)] rfl ?_
     refine r_d rfl rfl rfl (s_load rfl rfl (by exact ty_api_Program) (sz_S_api_Program _)) ?_
     refine r_d rfl rfl rfl (s_fieldAddr rfl fl_api_Atom_0 rfl rfl rfl rfl) ?_
     refine r_d rfl rfl rfl (s_load rfl rfl (by exact ty_string) rfl) ?_
     refine r_d rfl rfl rfl (s_fieldAddr rfl fl_api_Atom_1 rfl rfl rfl rfl) ?_
     refine r_d rfl rfl rfl (s_load rfl rfl (by exact ty_L_api_Term) rfl) ?_
     refine r_d rfl rfl rfl (m_len (f := encT) q_10.ts rfl el_L_api_Term rfl (asl rfl)) ?_
     obtain ⟨r_13, hr_13, hr⟩ := bindS hr
     refine r_d rfl rfl rfl (s_callD rfl cl_stored_Late (.cons rfl (Wk.refl _) (.cons rfl (Wk.refl _) (.cons rfl (Wk.refl _) .nil))) (lg_stored_Late _ _ _ _ hr_13)) ?_
     refine r_d rfl rfl rfl (s_assign rfl rfl) ?_
     refine r_end ?_
     refine g_seq ?_
     refine g_seq ?_
     refine g_run (by kernel_rfl) [(0, .d), (1, .d), (2, .d), (3, .d), (4, .d), (5, .d), (6, .d), (7, .d), (8, .d), (9, .d), (10, .d), (11, .d), (12, .d), (13, .d), (14, .d), (15, .d), (16, .d), (17, .d), (18, .d), (19, .d), (20, .d)] rfl ?_
     refine r_d rfl rfl rfl (s_move rfl rfl) ?_
     refine r_d rfl rfl rfl (s_cmp rfl rfl rfl rfl) ?_
     refine r_d rfl rfl rfl (s_move rfl rfl) ?_
     refine r_sB 54 rfl hr (fun h54_13 hr => ?_) (fun h54_13 hr => ?_)
     ·
      refine r_skip rfl rfl rfl ?_
      refine r_skip rfl rfl rfl ?_
      refine r_skip rfl rfl rfl ?_
      refine r_skip rfl rfl rfl ?_
      refine r_d rfl rfl rfl (s_pickT rfl rfl rfl) ?_
      refine r_d rfl rfl rfl (s_move rfl rfl) ?_
      refine r_skip rfl rfl rfl ?_
      refine r_skip rfl rfl rfl ?_
      refine r_skip rfl rfl rfl ?_
      refine r_skip rfl rfl rfl ?_
      refine r_skip rfl rfl rfl ?_
      refine r_skip rfl rfl rfl ?_
      refine r_skip rfl rfl rfl ?_
      refine r_skip rfl rfl rfl ?_
      refine r_skip rfl rfl rfl ?_
      refine r_skip rfl rfl rfl ?_
      refine r_skip rfl rfl rfl ?_
      refine r_d rfl rfl rfl (s_pickT rfl rfl rfl) ?_
      refine r_end ?_
      refine g_condT rfl ?_
      refine g_seq ?_
      refine g_run (by kernel_rfl) [(0, .d)] rfl ?_
      refine r_d rfl rfl rfl (s_assign rfl rfl) ?_
      refine r_end ?_
      obtain rfl := Option.some.inj hr
      refine g_ret Try.func4 _ (.cons (resTmp rfl (Wk.refl _)) .nil) ?_
      rfl
     ·
      refine r_d rfl rfl rfl (s_move rfl rfl) ?_
      refine r_d rfl rfl rfl (s_move rfl rfl) ?_
      refine r_d rfl rfl rfl (m_len (f := enc_S_api_Occ) r_12 rfl el_L_api_Occ rfl (asl rfl)) ?_
      refine r_d rfl rfl rfl (s_cmp rfl rfl rfl rfl) ?_
      refine r_d rfl rfl rfl (s_pickF rfl rfl rfl) ?_
      refine r_d rfl rfl rfl (s_move rfl rfl) ?_
      refine r_sB 60 rfl hr (fun h60_14 hr => ?_) (fun h60_14 hr => ?_)
      ·
       refine r_skip rfl rfl rfl ?_
       refine r_skip rfl rfl rfl ?_
       refine r_skip rfl rfl rfl ?_
       refine r_skip rfl rfl rfl ?_
       refine r_skip rfl rfl rfl ?_
       refine r_skip rfl rfl rfl ?_
       refine r_skip rfl rfl rfl ?_
       refine r_skip rfl rfl rfl ?_
       refine r_skip rfl rfl rfl ?_
       refine r_skip rfl rfl rfl ?_
       refine r_skip rfl rfl rfl ?_
       refine r_d rfl rfl rfl (s_pickT rfl rfl rfl) ?_
       refine r_end ?_
       refine g_condT rfl ?_
       refine g_seq ?_
       refine g_run (by kernel_rfl) [(0, .d)] rfl ?_
       refine r_d rfl rfl rfl (s_assign rfl rfl) ?_
       refine r_end ?_
       obtain rfl := Option.some.inj hr
       refine g_ret Try.func4 _ (.cons (resTmp rfl (Wk.refl _)) .nil) ?_
       rfl
      ·
       refine r_d rfl rfl rfl (s_move rfl rfl) ?_
       refine r_d rfl rfl rfl (s_cmp rfl rfl rfl rfl) ?_
       refine r_d rfl rfl rfl (s_move rfl rfl) ?_
       refine r_sB 63 rfl hr (fun h63_15 hr => ?_) (fun h63_15 hr => ?_)
       ·
        refine r_d rfl rfl rfl (s_load rfl rfl (by exact ty_api_Program) (sz_S_api_Program _)) ?_
        refine r_d rfl rfl rfl (s_fieldAddr rfl fl_api_Atom_0 rfl rfl rfl rfl) ?_
        refine r_d rfl rfl rfl (s_load rfl rfl (by exact ty_string) rfl) ?_
        refine r_d rfl rfl rfl (s_fieldAddr rfl fl_api_Atom_1 rfl rfl rfl rfl) ?_
        refine r_d rfl rfl rfl (s_load rfl rfl (by exact ty_L_api_Term) rfl) ?_
        refine r_d rfl rfl rfl (m_len (f := encT) q_10.ts rfl el_L_api_Term rfl (asl rfl)) ?_
        obtain ⟨r_17, hr_17, hr⟩ := bindS hr
        refine r_d rfl rfl rfl (s_callD rfl cl_stored_Never (.cons rfl (Wk.refl _) (.cons rfl (Wk.refl _) (.cons rfl (Wk.refl _) .nil))) (lg_stored_Never _ _ _ _ hr_17)) ?_
        refine r_d rfl rfl rfl (s_pickT rfl rfl rfl) ?_
        refine r_d rfl rfl rfl (s_pickF rfl rfl rfl) ?_
        refine r_end ?_
        refine g_sB 72 rfl hr (fun h72_17 hr => ?_) (fun h72_17 hr => ?_)
        ·
         refine g_condT rfl ?_
         refine g_seq ?_
         refine g_run (by kernel_rfl) [(0, .d)] rfl ?_
         refine r_d rfl rfl rfl (s_assign rfl rfl) ?_
         refine r_end ?_
         obtain rfl := Option.some.inj hr
         refine g_ret Try.func4 _ (.cons (resTmp rfl (Wk.refl _)) .nil) ?_
         rfl
        ·
         refine g_condF rfl ?_
         refine g_skip ?_
         refine g_seq ?_
         refine g_run (by kernel_rfl) [(0, .d)] rfl ?_
         refine r_d rfl rfl rfl (s_assign rfl rfl) ?_
         refine r_end ?_
         obtain ⟨kk1, hkk1, hr⟩ := exK (fun k => lf_constraintlaw31_StoredOrder_L1 k p_a0 r_13 r_12 0) hr
         refine g_len 44 rfl (asl rfl) fun hla1 => ?_
         simp only [List.length_map] at hla1
         refine g_blockJ (fun env σ => env = [(1, .ptr (enc_S_api_Program p_a0)), (3, .lst (r_4.map enc_S_api_Occ)), (4, .int .i64 (i_5 : Int))] ∧ σ = [] ∧ kk1 = some res) ?_ (fun HK1 => ?_)
         ·
          rintro _ _ ⟨rfl, rfl, hr⟩
          rw [hkk1] at hr
          refine g_inBlock ?_
          refine g_run (by kernel_rfl) [(0, .d), (1, .d), (2, .d)] rfl ?_
          refine r_d rfl rfl rfl (s_move rfl rfl) ?_
          refine r_d rfl rfl rfl (s_ar (r := ((i_5 + 1 : Nat) : Int)) rfl rfl rfl (by simp [iar]) (by omega)) ?_
          refine r_d rfl rfl rfl (s_assign rfl rfl) ?_
          refine r_end ?_
          refine g_sub [(1, .ptr (enc_S_api_Program p_a0)), (3, .lst (r_4.map enc_S_api_Occ)), (4, .int .i64 ((i_5 + 1 : Nat) : Int))] (Sub.cons' rfl (Sub.cons' rfl (Sub.cons' rfl (Sub.nil _)))) ?_
          exact IH0 _ _ _ (by omega) ⟨(i_5 + 1), rfl, rfl, rfl, (by omega), hr⟩
         ·
          refine g_sub [(1, .ptr (enc_S_api_Program p_a0)), (3, .lst (r_4.map enc_S_api_Occ)), (4, .int .i64 ((i_5 : Nat) : Int)), (6, .lst (r_12.map enc_S_api_Occ)), (7, .int .i64 r_13), (8, .int .i64 ((0 : Nat) : Int))] (Sub.cons' rfl (Sub.cons' rfl (Sub.cons' rfl (Sub.cons' rfl (Sub.cons' rfl (Sub.cons' rfl (Sub.nil _))))))) ?_
          refine g_loop (fun n env σ => ∃ (k_19 : Nat), (n = r_12.length - k_19) ∧ (env = [(1, .ptr (enc_S_api_Program p_a0)), (3, .lst (r_4.map enc_S_api_Occ)), (4, .int .i64 (i_5 : Int)), (6, .lst (r_12.map enc_S_api_Occ)), (7, .int .i64 r_13), (8, .int .i64 (k_19 : Int))]) ∧ (σ = []) ∧ (k_19 ≤ r_12.length) ∧ (lf_constraintlaw31_StoredOrder_L1 kk1 p_a0 r_13 (r_12.drop k_19) k_19 = some res)) _ ⟨0, rfl, rfl, rfl, Nat.zero_le _, hr⟩ ?_
          rintro n _ _ ⟨k_19, rfl, rfl, rfl, hi1, hr⟩ IH1
          rcases listStep r_12 k_19 hi1 with ⟨ht1, hd1, he1⟩ | ⟨q_20, ht1, hd1, hq1, hlt1⟩
          ·
           rw [hd1, lf_constraintlaw31_StoredOrder_L1] at hr
           refine g_seq ?_
           refine g_seq ?_
           refine g_run (by kernel_rfl) [(0, .d), (1, .d), (2, .d), (3, .d), (4, .d), (5, .d), (6, .d), (7, .d), (8, .d)] rfl ?_
           refine r_d rfl rfl rfl (s_move rfl rfl) ?_
           refine r_d rfl rfl rfl (s_move rfl rfl) ?_
           refine r_d rfl rfl rfl (s_cmp rfl rfl rfl rfl) ?_
           refine r_d rfl rfl rfl (s_move rfl rfl) ?_
           refine r_sB 76 rfl hr (fun h76_20 hr => ?_) (fun h76_20 hr => ?_)
           ·
            refine r_d rfl rfl rfl (s_move rfl rfl) ?_
            refine r_d rfl rfl rfl (s_move rfl rfl) ?_
            refine r_d rfl rfl rfl (m_len (f := enc_S_api_Occ) r_12 rfl el_L_api_Occ rfl (asl rfl)) ?_
            refine r_d rfl rfl rfl (s_cmp rfl rfl rfl rfl) ?_
            refine r_d rfl rfl rfl (s_pickT rfl rfl rfl) ?_
            refine r_end ?_
            refine g_known 81 false rfl ht1 ?_
            refine g_condF rfl ?_
            refine g_exit rfl ?_
            refine g_sub [(1, .ptr (enc_S_api_Program p_a0)), (3, .lst (r_4.map enc_S_api_Occ)), (4, .int .i64 (i_5 : Int))] (Sub.cons' rfl (Sub.cons' rfl (Sub.cons' rfl (Sub.nil _)))) ?_
            exact HK1 _ _ ⟨rfl, rfl, hr⟩
           ·
            refine r_skip rfl rfl rfl ?_
            refine r_skip rfl rfl rfl ?_
            refine r_skip rfl rfl rfl ?_
            refine r_skip rfl rfl rfl ?_
            refine r_d rfl rfl rfl (s_pickF rfl rfl rfl) ?_
            refine r_end ?_
            refine g_condF rfl ?_
            refine g_exit rfl ?_
            refine g_sub [(1, .ptr (enc_S_api_Program p_a0)), (3, .lst (r_4.map enc_S_api_Occ)), (4, .int .i64 (i_5 : Int))] (Sub.cons' rfl (Sub.cons' rfl (Sub.cons' rfl (Sub.nil _)))) ?_
            exact HK1 _ _ ⟨rfl, rfl, hr⟩
          ·
           rw [hd1, lf_constraintlaw31_StoredOrder_L1] at hr
           refine g_seq ?_
           refine g_seq ?_
           refine g_run (by kernel_rfl) [(0, .d), (1, .d), (2, .d), (3, .d), (4, .d), (5, .d), (6, .d), (7, .d), (8, .d)] rfl ?_
           refine r_d rfl rfl rfl (s_move rfl rfl) ?_
           refine r_d rfl rfl rfl (s_move rfl rfl) ?_
           refine r_d rfl rfl rfl (s_cmp rfl rfl rfl rfl) ?_
           refine r_d rfl rfl rfl (s_move rfl rfl) ?_
           refine r_sB 76 rfl hr (fun h76_21 hr => ?_) (fun h76_21 hr => ?_)
           ·
            refine r_d rfl rfl rfl (s_move rfl rfl) ?_
            refine r_d rfl rfl rfl (s_move rfl rfl) ?_
            refine r_d rfl rfl rfl (m_len (f := enc_S_api_Occ) r_12 rfl el_L_api_Occ rfl (asl rfl)) ?_
            refine r_d rfl rfl rfl (s_cmp rfl rfl rfl rfl) ?_
            refine r_d rfl rfl rfl (s_pickT rfl rfl rfl) ?_
            refine r_end ?_
            refine g_known 81 true rfl ht1 ?_
            refine g_condT rfl ?_
            refine g_skip ?_
            refine g_seq ?_
            refine g_block ?_
            refine g_seq ?_
            refine g_any (by kernel_rfl) (by kernel_rfl) [(0, .d), (1, .d), (2, .d), (3, .d), (4, .d), (5, .d), (6, .d), (7, .d), (8, .d), (9, .d), (10, .d), (11, .d), (12, .d), (13, .d), (14, .d), (15, .d), (16, .d), (17, .d), (18, .d)] (by kernel_rfl) ?_
            refine r_d rfl rfl rfl (s_move rfl rfl) ?_
            refine r_d rfl rfl rfl (s_move rfl rfl) ?_
            refine r_d rfl rfl rfl (m_index (f := enc_S_api_Occ) r_12 rfl el_L_api_Occ rfl (asl rfl) rfl hq1 sz_S_api_Occ rfl) ?_
            refine r_d rfl rfl rfl (s_fieldAddr rfl fl_api_Occ_2 rfl rfl rfl rfl) ?_
            refine r_d rfl rfl rfl (s_load rfl rfl (by exact ty_bool) rfl) ?_
            refine r_d rfl rfl rfl (s_move rfl rfl) ?_
            refine r_sB 89 rfl hr (fun h89_22 hr => ?_) (fun h89_22 hr => ?_)
            ·
             refine r_d rfl rfl rfl (s_fieldAddr rfl fl_api_Program_1 rfl rfl rfl rfl) ?_
             refine r_d rfl rfl rfl (s_load rfl rfl (by exact ty_L_api_Rule) rfl) ?_
             refine r_d rfl rfl rfl (s_move rfl rfl) ?_
             refine r_d rfl rfl rfl (s_move rfl rfl) ?_
             refine r_d rfl rfl rfl (m_index (f := enc_S_api_Occ) r_12 rfl el_L_api_Occ rfl (asl rfl) rfl hq1 sz_S_api_Occ rfl) ?_
             refine r_d rfl rfl rfl (s_fieldAddr rfl fl_api_Occ_0 rfl rfl rfl rfl) ?_
             refine r_d rfl rfl rfl (s_load rfl rfl (by exact ty_int) rfl) ?_
             obtain ⟨q_24, hq_24, hr⟩ := bindS hr
             refine r_d rfl rfl rfl (m_index (f := enc_S_api_Rule) p_a0.f1_Rules rfl el_L_api_Rule rfl (asl rfl) rfl hq_24 sz_S_api_Rule rfl) ?_
             refine r_d rfl rfl rfl (s_load rfl rfl (by exact ty_api_Rule) (sz_S_api_Rule _)) ?_
             obtain ⟨r_25, hr_25, hr⟩ := bindS hr
             refine r_d rfl rfl rfl (s_callD rfl cl_stored_Inert (.cons rfl (Wk.refl _) .nil) (lg_stored_Inert _ _ hr_25)) ?_
             refine r_d rfl rfl rfl (s_not rfl rfl) ?_
             refine r_d rfl rfl rfl (s_pickT rfl rfl rfl) ?_
             refine r_d rfl rfl rfl (s_assign rfl rfl) ?_
             refine r_end ?_
             refine g_seq ?_
             refine g_run (by kernel_rfl) [(0, .d), (1, .d), (2, .d), (3, .d), (4, .d)] rfl ?_
             refine r_d rfl rfl rfl (s_move rfl rfl) ?_
             refine r_d rfl rfl rfl (s_move rfl rfl) ?_
             refine r_d rfl rfl rfl (s_move rfl rfl) ?_
             refine r_d rfl rfl rfl (s_cmp rfl rfl rfl rfl) ?_
             refine r_d rfl rfl rfl (s_neqB rfl Try.underlying4 rfl rfl) ?_
             refine r_end ?_
             refine g_sB 106 rfl hr (fun h106_25 hr => ?_) (fun h106_25 hr => ?_)
             ·
              refine g_condT rfl ?_
              refine g_seq ?_
              refine g_run (by kernel_rfl) [(0, .d)] rfl ?_
              refine r_d rfl rfl rfl (s_assign rfl rfl) ?_
              refine r_end ?_
              obtain rfl := Option.some.inj hr
              refine g_ret Try.func4 _ (.cons (resTmp rfl (Wk.refl _)) .nil) ?_
              rfl
             ·
              refine g_condF rfl ?_
              refine g_skip ?_
              refine g_inBlock ?_
              refine g_run (by kernel_rfl) [(0, .d), (1, .d), (2, .d)] rfl ?_
              refine r_d rfl rfl rfl (s_move rfl rfl) ?_
              refine r_d rfl rfl rfl (s_ar (r := ((k_19 + 1 : Nat) : Int)) rfl rfl rfl (by simp [iar]) (by omega)) ?_
              refine r_d rfl rfl rfl (s_assign rfl rfl) ?_
              refine r_end ?_
              refine g_sub [(1, .ptr (enc_S_api_Program p_a0)), (3, .lst (r_4.map enc_S_api_Occ)), (4, .int .i64 ((i_5 : Nat) : Int)), (6, .lst (r_12.map enc_S_api_Occ)), (7, .int .i64 r_13), (8, .int .i64 ((k_19 + 1 : Nat) : Int))] (Sub.cons' rfl (Sub.cons' rfl (Sub.cons' rfl (Sub.cons' rfl (Sub.cons' rfl (Sub.cons' rfl (Sub.nil _))))))) ?_
              exact IH1 _ _ _ (by omega) ⟨(k_19 + 1), rfl, rfl, rfl, (by omega), hr⟩
            ·
             refine r_skip rfl rfl rfl ?_
             refine r_skip rfl rfl rfl ?_
             refine r_skip rfl rfl rfl ?_
             refine r_skip rfl rfl rfl ?_
             refine r_skip rfl rfl rfl ?_
             refine r_skip rfl rfl rfl ?_
             refine r_skip rfl rfl rfl ?_
             refine r_skip rfl rfl rfl ?_
             refine r_skip rfl rfl rfl ?_
             refine r_skip rfl rfl rfl ?_
             refine r_skip rfl rfl rfl ?_
             refine r_d rfl rfl rfl (s_pickF rfl rfl rfl) ?_
             refine r_d rfl rfl rfl (s_assign rfl rfl) ?_
             refine r_end ?_
             refine g_seq ?_
             refine g_run (by kernel_rfl) [(0, .d), (1, .d), (2, .d), (3, .d), (4, .d)] rfl ?_
             refine r_d rfl rfl rfl (s_move rfl rfl) ?_
             refine r_d rfl rfl rfl (s_move rfl rfl) ?_
             refine r_d rfl rfl rfl (s_move rfl rfl) ?_
             refine r_d rfl rfl rfl (s_cmp rfl rfl rfl rfl) ?_
             refine r_d rfl rfl rfl (s_neqB rfl Try.underlying4 rfl rfl) ?_
             refine r_end ?_
             refine g_sB 106 rfl hr (fun h106_26 hr => ?_) (fun h106_26 hr => ?_)
             ·
              refine g_condT rfl ?_
              refine g_seq ?_
              refine g_run (by kernel_rfl) [(0, .d)] rfl ?_
              refine r_d rfl rfl rfl (s_assign rfl rfl) ?_
              refine r_end ?_
              obtain rfl := Option.some.inj hr
              refine g_ret Try.func4 _ (.cons (resTmp rfl (Wk.refl _)) .nil) ?_
              rfl
             ·
              refine g_condF rfl ?_
              refine g_skip ?_
              refine g_inBlock ?_
              refine g_run (by kernel_rfl) [(0, .d), (1, .d), (2, .d)] rfl ?_
              refine r_d rfl rfl rfl (s_move rfl rfl) ?_
              refine r_d rfl rfl rfl (s_ar (r := ((k_19 + 1 : Nat) : Int)) rfl rfl rfl (by simp [iar]) (by omega)) ?_
              refine r_d rfl rfl rfl (s_assign rfl rfl) ?_
              refine r_end ?_
              refine g_sub [(1, .ptr (enc_S_api_Program p_a0)), (3, .lst (r_4.map enc_S_api_Occ)), (4, .int .i64 ((i_5 : Nat) : Int)), (6, .lst (r_12.map enc_S_api_Occ)), (7, .int .i64 r_13), (8, .int .i64 ((k_19 + 1 : Nat) : Int))] (Sub.cons' rfl (Sub.cons' rfl (Sub.cons' rfl (Sub.cons' rfl (Sub.cons' rfl (Sub.cons' rfl (Sub.nil _))))))) ?_
              exact IH1 _ _ _ (by omega) ⟨(k_19 + 1), rfl, rfl, rfl, (by omega), hr⟩
           ·
            refine r_skip rfl rfl rfl ?_
            refine r_skip rfl rfl rfl ?_
            refine r_skip rfl rfl rfl ?_
            refine r_skip rfl rfl rfl ?_
            refine r_d rfl rfl rfl (s_pickF rfl rfl rfl) ?_
            refine r_end ?_
            refine g_condF rfl ?_
            refine g_exit rfl ?_
            refine g_sub [(1, .ptr (enc_S_api_Program p_a0)), (3, .lst (r_4.map enc_S_api_Occ)), (4, .int .i64 (i_5 : Int))] (Sub.cons' rfl (Sub.cons' rfl (Sub.cons' rfl (Sub.nil _)))) ?_
            exact HK1 _ _ ⟨rfl, rfl, hr⟩
       ·
        refine r_skip rfl rfl rfl ?_
        refine r_skip rfl rfl rfl ?_
        refine r_skip rfl rfl rfl ?_
        refine r_skip rfl rfl rfl ?_
        refine r_skip rfl rfl rfl ?_
        refine r_skip rfl rfl rfl ?_
        refine r_skip rfl rfl rfl ?_
        refine r_d rfl rfl rfl (s_pickF rfl rfl rfl) ?_
        refine r_d rfl rfl rfl (s_pickF rfl rfl rfl) ?_
        refine r_end ?_
        refine g_condF rfl ?_
        refine g_skip ?_
        refine g_seq ?_
        refine g_run (by kernel_rfl) [(0, .d)] rfl ?_
        refine r_d rfl rfl rfl (s_assign rfl rfl) ?_
        refine r_end ?_
        obtain ⟨kk2, hkk2, hr⟩ := exK (fun k => lf_constraintlaw31_StoredOrder_L2 k p_a0 r_13 r_12 0) hr
        refine g_len 44 rfl (asl rfl) fun hla2 => ?_
        simp only [List.length_map] at hla2
        refine g_blockJ (fun env σ => env = [(1, .ptr (enc_S_api_Program p_a0)), (3, .lst (r_4.map enc_S_api_Occ)), (4, .int .i64 (i_5 : Int))] ∧ σ = [] ∧ kk2 = some res) ?_ (fun HK2 => ?_)
        ·
         rintro _ _ ⟨rfl, rfl, hr⟩
         rw [hkk2] at hr
         refine g_inBlock ?_
         refine g_run (by kernel_rfl) [(0, .d), (1, .d), (2, .d)] rfl ?_
         refine r_d rfl rfl rfl (s_move rfl rfl) ?_
         refine r_d rfl rfl rfl (s_ar (r := ((i_5 + 1 : Nat) : Int)) rfl rfl rfl (by simp [iar]) (by omega)) ?_
         refine r_d rfl rfl rfl (s_assign rfl rfl) ?_
         refine r_end ?_
         refine g_sub [(1, .ptr (enc_S_api_Program p_a0)), (3, .lst (r_4.map enc_S_api_Occ)), (4, .int .i64 ((i_5 + 1 : Nat) : Int))] (Sub.cons' rfl (Sub.cons' rfl (Sub.cons' rfl (Sub.nil _)))) ?_
         exact IH0 _ _ _ (by omega) ⟨(i_5 + 1), rfl, rfl, rfl, (by omega), hr⟩
        ·
         refine g_sub [(1, .ptr (enc_S_api_Program p_a0)), (3, .lst (r_4.map enc_S_api_Occ)), (4, .int .i64 ((i_5 : Nat) : Int)), (6, .lst (r_12.map enc_S_api_Occ)), (7, .int .i64 r_13), (8, .int .i64 ((0 : Nat) : Int))] (Sub.cons' rfl (Sub.cons' rfl (Sub.cons' rfl (Sub.cons' rfl (Sub.cons' rfl (Sub.cons' rfl (Sub.nil _))))))) ?_
         refine g_loop (fun n env σ => ∃ (k_28 : Nat), (n = r_12.length - k_28) ∧ (env = [(1, .ptr (enc_S_api_Program p_a0)), (3, .lst (r_4.map enc_S_api_Occ)), (4, .int .i64 (i_5 : Int)), (6, .lst (r_12.map enc_S_api_Occ)), (7, .int .i64 r_13), (8, .int .i64 (k_28 : Int))]) ∧ (σ = []) ∧ (k_28 ≤ r_12.length) ∧ (lf_constraintlaw31_StoredOrder_L2 kk2 p_a0 r_13 (r_12.drop k_28) k_28 = some res)) _ ⟨0, rfl, rfl, rfl, Nat.zero_le _, hr⟩ ?_
         rintro n _ _ ⟨k_28, rfl, rfl, rfl, hi2, hr⟩ IH2
         rcases listStep r_12 k_28 hi2 with ⟨ht2, hd2, he2⟩ | ⟨q_29, ht2, hd2, hq2, hlt2⟩
         ·
          rw [hd2, lf_constraintlaw31_StoredOrder_L2] at hr
          refine g_seq ?_
          refine g_seq ?_
          refine g_run (by kernel_rfl) [(0, .d), (1, .d), (2, .d), (3, .d), (4, .d), (5, .d), (6, .d), (7, .d), (8, .d)] rfl ?_
          refine r_d rfl rfl rfl (s_move rfl rfl) ?_
          refine r_d rfl rfl rfl (s_move rfl rfl) ?_
          refine r_d rfl rfl rfl (s_cmp rfl rfl rfl rfl) ?_
          refine r_d rfl rfl rfl (s_move rfl rfl) ?_
          refine r_sB 76 rfl hr (fun h76_29 hr => ?_) (fun h76_29 hr => ?_)
          ·
           refine r_d rfl rfl rfl (s_move rfl rfl) ?_
           refine r_d rfl rfl rfl (s_move rfl rfl) ?_
           refine r_d rfl rfl rfl (m_len (f := enc_S_api_Occ) r_12 rfl el_L_api_Occ rfl (asl rfl)) ?_
           refine r_d rfl rfl rfl (s_cmp rfl rfl rfl rfl) ?_
           refine r_d rfl rfl rfl (s_pickT rfl rfl rfl) ?_
           refine r_end ?_
           refine g_known 81 false rfl ht2 ?_
           refine g_condF rfl ?_
           refine g_exit rfl ?_
           refine g_sub [(1, .ptr (enc_S_api_Program p_a0)), (3, .lst (r_4.map enc_S_api_Occ)), (4, .int .i64 (i_5 : Int))] (Sub.cons' rfl (Sub.cons' rfl (Sub.cons' rfl (Sub.nil _)))) ?_
           exact HK2 _ _ ⟨rfl, rfl, hr⟩
          ·
           refine r_skip rfl rfl rfl ?_
           refine r_skip rfl rfl rfl ?_
           refine r_skip rfl rfl rfl ?_
           refine r_skip rfl rfl rfl ?_
           refine r_d rfl rfl rfl (s_pickF rfl rfl rfl) ?_
           refine r_end ?_
           refine g_condF rfl ?_
           refine g_exit rfl ?_
           refine g_sub [(1, .ptr (enc_S_api_Program p_a0)), (3, .lst (r_4.map enc_S_api_Occ)), (4, .int .i64 (i_5 : Int))] (Sub.cons' rfl (Sub.cons' rfl (Sub.cons' rfl (Sub.nil _)))) ?_
           exact HK2 _ _ ⟨rfl, rfl, hr⟩
         ·
          rw [hd2, lf_constraintlaw31_StoredOrder_L2] at hr
          refine g_seq ?_
          refine g_seq ?_
          refine g_run (by kernel_rfl) [(0, .d), (1, .d), (2, .d), (3, .d), (4, .d), (5, .d), (6, .d), (7, .d), (8, .d)] rfl ?_
          refine r_d rfl rfl rfl (s_move rfl rfl) ?_
          refine r_d rfl rfl rfl (s_move rfl rfl) ?_
          refine r_d rfl rfl rfl (s_cmp rfl rfl rfl rfl) ?_
          refine r_d rfl rfl rfl (s_move rfl rfl) ?_
          refine r_sB 76 rfl hr (fun h76_30 hr => ?_) (fun h76_30 hr => ?_)
          ·
           refine r_d rfl rfl rfl (s_move rfl rfl) ?_
           refine r_d rfl rfl rfl (s_move rfl rfl) ?_
           refine r_d rfl rfl rfl (m_len (f := enc_S_api_Occ) r_12 rfl el_L_api_Occ rfl (asl rfl)) ?_
           refine r_d rfl rfl rfl (s_cmp rfl rfl rfl rfl) ?_
           refine r_d rfl rfl rfl (s_pickT rfl rfl rfl) ?_
           refine r_end ?_
           refine g_known 81 true rfl ht2 ?_
           refine g_condT rfl ?_
           refine g_skip ?_
           refine g_seq ?_
           refine g_block ?_
           refine g_seq ?_
           refine g_any (by kernel_rfl) (by kernel_rfl) [(0, .d), (1, .d), (2, .d), (3, .d), (4, .d), (5, .d), (6, .d), (7, .d), (8, .d), (9, .d), (10, .d), (11, .d), (12, .d), (13, .d), (14, .d), (15, .d), (16, .d), (17, .d), (18, .d)] (by kernel_rfl) ?_
           refine r_d rfl rfl rfl (s_move rfl rfl) ?_
           refine r_d rfl rfl rfl (s_move rfl rfl) ?_
           refine r_d rfl rfl rfl (m_index (f := enc_S_api_Occ) r_12 rfl el_L_api_Occ rfl (asl rfl) rfl hq2 sz_S_api_Occ rfl) ?_
           refine r_d rfl rfl rfl (s_fieldAddr rfl fl_api_Occ_2 rfl rfl rfl rfl) ?_
           refine r_d rfl rfl rfl (s_load rfl rfl (by exact ty_bool) rfl) ?_
           refine r_d rfl rfl rfl (s_move rfl rfl) ?_
           refine r_sB 89 rfl hr (fun h89_31 hr => ?_) (fun h89_31 hr => ?_)
           ·
            refine r_d rfl rfl rfl (s_fieldAddr rfl fl_api_Program_1 rfl rfl rfl rfl) ?_
            refine r_d rfl rfl rfl (s_load rfl rfl (by exact ty_L_api_Rule) rfl) ?_
            refine r_d rfl rfl rfl (s_move rfl rfl) ?_
            refine r_d rfl rfl rfl (s_move rfl rfl) ?_
            refine r_d rfl rfl rfl (m_index (f := enc_S_api_Occ) r_12 rfl el_L_api_Occ rfl (asl rfl) rfl hq2 sz_S_api_Occ rfl) ?_
            refine r_d rfl rfl rfl (s_fieldAddr rfl fl_api_Occ_0 rfl rfl rfl rfl) ?_
            refine r_d rfl rfl rfl (s_load rfl rfl (by exact ty_int) rfl) ?_
            obtain ⟨q_33, hq_33, hr⟩ := bindS hr
            refine r_d rfl rfl rfl (m_index (f := enc_S_api_Rule) p_a0.f1_Rules rfl el_L_api_Rule rfl (asl rfl) rfl hq_33 sz_S_api_Rule rfl) ?_
            refine r_d rfl rfl rfl (s_load rfl rfl (by exact ty_api_Rule) (sz_S_api_Rule _)) ?_
            obtain ⟨r_34, hr_34, hr⟩ := bindS hr
            refine r_d rfl rfl rfl (s_callD rfl cl_stored_Inert (.cons rfl (Wk.refl _) .nil) (lg_stored_Inert _ _ hr_34)) ?_
            refine r_d rfl rfl rfl (s_not rfl rfl) ?_
            refine r_d rfl rfl rfl (s_pickT rfl rfl rfl) ?_
            refine r_d rfl rfl rfl (s_assign rfl rfl) ?_
            refine r_end ?_
            refine g_seq ?_
            refine g_run (by kernel_rfl) [(0, .d), (1, .d), (2, .d), (3, .d), (4, .d)] rfl ?_
            refine r_d rfl rfl rfl (s_move rfl rfl) ?_
            refine r_d rfl rfl rfl (s_move rfl rfl) ?_
            refine r_d rfl rfl rfl (s_move rfl rfl) ?_
            refine r_d rfl rfl rfl (s_cmp rfl rfl rfl rfl) ?_
            refine r_d rfl rfl rfl (s_neqB rfl Try.underlying4 rfl rfl) ?_
            refine r_end ?_
            refine g_sB 106 rfl hr (fun h106_34 hr => ?_) (fun h106_34 hr => ?_)
            ·
             refine g_condT rfl ?_
             refine g_seq ?_
             refine g_run (by kernel_rfl) [(0, .d)] rfl ?_
             refine r_d rfl rfl rfl (s_assign rfl rfl) ?_
             refine r_end ?_
             obtain rfl := Option.some.inj hr
             refine g_ret Try.func4 _ (.cons (resTmp rfl (Wk.refl _)) .nil) ?_
             rfl
            ·
             refine g_condF rfl ?_
             refine g_skip ?_
             refine g_inBlock ?_
             refine g_run (by kernel_rfl) [(0, .d), (1, .d), (2, .d)] rfl ?_
             refine r_d rfl rfl rfl (s_move rfl rfl) ?_
             refine r_d rfl rfl rfl (s_ar (r := ((k_28 + 1 : Nat) : Int)) rfl rfl rfl (by simp [iar]) (by omega)) ?_
             refine r_d rfl rfl rfl (s_assign rfl rfl) ?_
             refine r_end ?_
             refine g_sub [(1, .ptr (enc_S_api_Program p_a0)), (3, .lst (r_4.map enc_S_api_Occ)), (4, .int .i64 ((i_5 : Nat) : Int)), (6, .lst (r_12.map enc_S_api_Occ)), (7, .int .i64 r_13), (8, .int .i64 ((k_28 + 1 : Nat) : Int))] (Sub.cons' rfl (Sub.cons' rfl (Sub.cons' rfl (Sub.cons' rfl (Sub.cons' rfl (Sub.cons' rfl (Sub.nil _))))))) ?_
             exact IH2 _ _ _ (by omega) ⟨(k_28 + 1), rfl, rfl, rfl, (by omega), hr⟩
           ·
            refine r_skip rfl rfl rfl ?_
            refine r_skip rfl rfl rfl ?_
            refine r_skip rfl rfl rfl ?_
            refine r_skip rfl rfl rfl ?_
            refine r_skip rfl rfl rfl ?_
            refine r_skip rfl rfl rfl ?_
            refine r_skip rfl rfl rfl ?_
            refine r_skip rfl rfl rfl ?_
            refine r_skip rfl rfl rfl ?_
            refine r_skip rfl rfl rfl ?_
            refine r_skip rfl rfl rfl ?_
            refine r_d rfl rfl rfl (s_pickF rfl rfl rfl) ?_
            refine r_d rfl rfl rfl (s_assign rfl rfl) ?_
            refine r_end ?_
            refine g_seq ?_
            refine g_run (by kernel_rfl) [(0, .d), (1, .d), (2, .d), (3, .d), (4, .d)] rfl ?_
            refine r_d rfl rfl rfl (s_move rfl rfl) ?_
            refine r_d rfl rfl rfl (s_move rfl rfl) ?_
            refine r_d rfl rfl rfl (s_move rfl rfl) ?_
            refine r_d rfl rfl rfl (s_cmp rfl rfl rfl rfl) ?_
            refine r_d rfl rfl rfl (s_neqB rfl Try.underlying4 rfl rfl) ?_
            refine r_end ?_
            refine g_sB 106 rfl hr (fun h106_35 hr => ?_) (fun h106_35 hr => ?_)
            ·
             refine g_condT rfl ?_
             refine g_seq ?_
             refine g_run (by kernel_rfl) [(0, .d)] rfl ?_
             refine r_d rfl rfl rfl (s_assign rfl rfl) ?_
             refine r_end ?_
             obtain rfl := Option.some.inj hr
             refine g_ret Try.func4 _ (.cons (resTmp rfl (Wk.refl _)) .nil) ?_
             rfl
            ·
             refine g_condF rfl ?_
             refine g_skip ?_
             refine g_inBlock ?_
             refine g_run (by kernel_rfl) [(0, .d), (1, .d), (2, .d)] rfl ?_
             refine r_d rfl rfl rfl (s_move rfl rfl) ?_
             refine r_d rfl rfl rfl (s_ar (r := ((k_28 + 1 : Nat) : Int)) rfl rfl rfl (by simp [iar]) (by omega)) ?_
             refine r_d rfl rfl rfl (s_assign rfl rfl) ?_
             refine r_end ?_
             refine g_sub [(1, .ptr (enc_S_api_Program p_a0)), (3, .lst (r_4.map enc_S_api_Occ)), (4, .int .i64 ((i_5 : Nat) : Int)), (6, .lst (r_12.map enc_S_api_Occ)), (7, .int .i64 r_13), (8, .int .i64 ((k_28 + 1 : Nat) : Int))] (Sub.cons' rfl (Sub.cons' rfl (Sub.cons' rfl (Sub.cons' rfl (Sub.cons' rfl (Sub.cons' rfl (Sub.nil _))))))) ?_
             exact IH2 _ _ _ (by omega) ⟨(k_28 + 1), rfl, rfl, rfl, (by omega), hr⟩
          ·
           refine r_skip rfl rfl rfl ?_
           refine r_skip rfl rfl rfl ?_
           refine r_skip rfl rfl rfl ?_
           refine r_skip rfl rfl rfl ?_
           refine r_d rfl rfl rfl (s_pickF rfl rfl rfl) ?_
           refine r_end ?_
           refine g_condF rfl ?_
           refine g_exit rfl ?_
           refine g_sub [(1, .ptr (enc_S_api_Program p_a0)), (3, .lst (r_4.map enc_S_api_Occ)), (4, .int .i64 (i_5 : Int))] (Sub.cons' rfl (Sub.cons' rfl (Sub.cons' rfl (Sub.nil _)))) ?_
           exact HK2 _ _ ⟨rfl, rfl, hr⟩

noncomputable def lf_constraintlaw31_StoredMore_L1 (k : Option (Bool)) (more_20 : (List S_api_Decl)) (more_21 : (List S_api_Rule)) (p_a0 : S_api_Program) : List At → Option (Bool)
  | [] =>
  k
  | q_47 :: rest =>
  ((lf_stored_Late p_a0 q_47.n (q_47.ts.length : Int)).bind fun r_48 =>
  ((lf_stored_Never p_a0 q_47.n (q_47.ts.length : Int)).bind fun r_49 =>
  (bif r_49 then
  ((lf_stored_Never (⟨more_20, more_21⟩ : S_api_Program) q_47.n (q_47.ts.length : Int)).bind fun r_51 =>
  (bif (!r_51) then
  some (false)
  else
  ((lf_constraintref16_Of p_a0 q_47.n (q_47.ts.length : Int)).bind fun r_53 =>
  (bif (decide (r_48 < (r_53.length : Int))) then
  ((lf_stored_Late (⟨more_20, more_21⟩ : S_api_Program) q_47.n (q_47.ts.length : Int)).bind fun r_55 =>
  (bif (r_55 != r_48) then
  some (false)
  else
  (lf_constraintlaw31_StoredMore_L1 k more_20 more_21 p_a0 rest)))
  else
  (lf_constraintlaw31_StoredMore_L1 k more_20 more_21 p_a0 rest)))))
  else
  ((lf_constraintref16_Of p_a0 q_47.n (q_47.ts.length : Int)).bind fun r_57 =>
  (bif (decide (r_48 < (r_57.length : Int))) then
  ((lf_stored_Late (⟨more_20, more_21⟩ : S_api_Program) q_47.n (q_47.ts.length : Int)).bind fun r_59 =>
  (bif (r_59 != r_48) then
  some (false)
  else
  (lf_constraintlaw31_StoredMore_L1 k more_20 more_21 p_a0 rest)))
  else
  (lf_constraintlaw31_StoredMore_L1 k more_20 more_21 p_a0 rest))))))

noncomputable def lf_constraintlaw31_StoredMore_L0 (k : ((List S_api_Decl)) → ((List S_api_Rule)) → Option (Bool)) (p_a0 : S_api_Program) : List S_api_Rule → (List S_api_Decl) → (List S_api_Rule) → (List S_api_Decl) → (List S_api_Rule) → Option (Bool)
  | [], more_20, more_21, first_22, first_23 =>
  (k first_22 first_23)
  | q_40 :: rest, more_20, more_21, first_22, first_23 =>
  ((lf_constraintref16_Heads q_40).bind fun r_41 =>
  (lf_constraintlaw31_StoredMore_L1 ((lf_constraintlaw31_StoredMore_L0 k p_a0 rest more_20 more_21 first_22 first_23)) more_20 more_21 p_a0 r_41))
noncomputable def lf_constraintlaw31_StoredMore (p_a0 : S_api_Program) (r_a1 : S_api_Rule) : Option (Bool) :=
  ((lf_constraintlaw31_large p_a0).bind fun r_1 =>
  (bif r_1 then
  (lf_constraintlaw31_exampleHolds.bind fun r_3 =>
  some (r_3))
  else
  ((lf_constraintref03_GreatRules [r_a1] 60).bind fun r_4 =>
  (bif r_4 then
  (lf_constraintlaw31_exampleHolds.bind fun r_6 =>
  some (r_6))
  else
  ((appO 120 [] p_a0.f1_Rules).bind fun l_9 =>
  ((appO 120 l_9 [r_a1]).bind fun l_11 =>
  ((appO 120 [] [r_a1]).bind fun l_13 =>
  ((appO 120 l_13 p_a0.f1_Rules).bind fun l_15 =>
  (lf_constraintlaw31_StoredMore_L0 (fun first_25 first_26 =>
  (bif ((r_a1.f1_Keep.length : Int) == (1 : Int)) then
  (bif ((r_a1.f2_Remove.length : Int) == (0 : Int)) then
  ((lf_stored_Inert r_a1).bind fun r_29 =>
  (bif (!r_29) then
  ((getI r_a1.f1_Keep 0).bind fun q_31 =>
  ((lf_stored_Never (⟨first_25, first_26⟩ : S_api_Program) q_31.n (q_31.ts.length : Int)).bind fun r_32 =>
  (bif r_32 then
  some (false)
  else
  ((lf_stored_Late (⟨first_25, first_26⟩ : S_api_Program) q_31.n (q_31.ts.length : Int)).bind fun r_34 =>
  (bif (r_34 != (0 : Int)) then
  some (false)
  else
  (lf_constraintlaw31_exampleHolds.bind fun r_36 =>
  some (r_36)))))))
  else
  (lf_constraintlaw31_exampleHolds.bind fun r_37 =>
  some (r_37))))
  else
  (lf_constraintlaw31_exampleHolds.bind fun r_38 =>
  some (r_38)))
  else
  (lf_constraintlaw31_exampleHolds.bind fun r_39 =>
  some (r_39)))) p_a0 p_a0.f1_Rules [] l_11 [] l_15)))))))))

set_option maxHeartbeats 1000000 in
theorem lg_constraintlaw31_StoredMore (p_a0 : S_api_Program) (r_a1 : S_api_Rule) (res : Bool) (hr : lf_constraintlaw31_StoredMore p_a0 r_a1 = some res) : Gives Try.prog 5 [enc_S_api_Program p_a0, enc_S_api_Rule r_a1] (.bool res) := by
  unfold lf_constraintlaw31_StoredMore at hr
  refine spec_env [(0, enc_S_api_Program p_a0), (1, enc_S_api_Rule r_a1)] Try.func5 rfl rfl fun K hK => ?_
  refine g_seq ?_
  refine g_run (by kernel_rfl) [(0, .d), (1, .d), (2, .d)] rfl ?_
  refine r_d rfl rfl rfl (s_box rfl rfl rfl) ?_
  refine r_d rfl rfl rfl (s_box rfl rfl rfl) ?_
  refine r_d rfl rfl rfl (s_assign rfl rfl) ?_
  refine r_end ?_
  refine g_seq ?_
  refine g_seq ?_
  refine g_run (by kernel_rfl) [(0, .d), (1, .d), (2, .d), (3, .d), (4, .d), (5, .d), (6, .d)] rfl ?_
  refine r_d rfl rfl rfl (s_load rfl rfl (by exact ty_api_Program) (sz_S_api_Program _)) ?_
  obtain ⟨r_1, hr_1, hr⟩ := bindS hr
  refine r_d rfl rfl rfl (s_callD rfl cl_constraintlaw31_large (.cons rfl (Wk.refl _) .nil) (lg_constraintlaw31_large _ _ hr_1)) ?_
  refine r_d rfl rfl rfl (s_move rfl rfl) ?_
  refine r_sB 15 rfl hr (fun h15_1 hr => ?_) (fun h15_1 hr => ?_)
  ·
   refine r_skip rfl rfl rfl ?_
   refine r_skip rfl rfl rfl ?_
   refine r_skip rfl rfl rfl ?_
   refine r_d rfl rfl rfl (s_pickT rfl rfl rfl) ?_
   refine r_end ?_
   refine g_condT rfl ?_
   refine g_seq ?_
   refine g_run (by kernel_rfl) [(0, .d), (1, .d)] rfl ?_
   obtain ⟨r_3, hr_3, hr⟩ := bindS hr
   refine r_d rfl rfl rfl (s_callD rfl cl_constraintlaw31_exampleHolds .nil (lg_constraintlaw31_exampleHolds _ hr_3)) ?_
   refine r_d rfl rfl rfl (s_assign rfl rfl) ?_
   refine r_end ?_
   obtain rfl := Option.some.inj hr
   refine g_ret Try.func5 _ (.cons (resTmp rfl (Wk.refl _)) .nil) ?_
   rfl
  ·
   refine r_d rfl rfl rfl (s_load rfl rfl (by exact ty_api_Rule) (sz_S_api_Rule _)) ?_
   refine r_d rfl rfl rfl (m_lit (f := enc_S_api_Rule) [.tmp 16] [r_a1] rfl el_L_api_Rule rfl rfl (by decide) (by decide) (.cons rfl (Wk.refl _) .nil) sz_S_api_Rule (fun _ => rfl)) ?_
   obtain ⟨r_4, hr_4, hr⟩ := bindS hr
   refine r_d rfl rfl rfl (by exact s_callD rfl cl_constraintref03_GreatRules (.cons rfl (Wk.full _) (.cons rfl (Wk.refl _) .nil)) (lg_constraintref03_GreatRules _ _ _ hr_4)) ?_
   refine r_d rfl rfl rfl (s_pickF rfl rfl rfl) ?_
   refine r_end ?_
   refine g_sB 19 rfl hr (fun h19_4 hr => ?_) (fun h19_4 hr => ?_)
   ·
    refine g_condT rfl ?_
    refine g_seq ?_
    refine g_run (by kernel_rfl) [(0, .d), (1, .d)] rfl ?_
    obtain ⟨r_6, hr_6, hr⟩ := bindS hr
    refine r_d rfl rfl rfl (s_callD rfl cl_constraintlaw31_exampleHolds .nil (lg_constraintlaw31_exampleHolds _ hr_6)) ?_
    refine r_d rfl rfl rfl (s_assign rfl rfl) ?_
    refine r_end ?_
    obtain rfl := Option.some.inj hr
    refine g_ret Try.func5 _ (.cons (resTmp rfl (Wk.refl _)) .nil) ?_
    rfl
   ·
    refine g_condF rfl ?_
    refine g_skip ?_
    refine g_seq ?_
    refine g_nilRow 32 6 ?_
    refine g_nilRow 32 6 ?_
    refine g_run (by kernel_rfl) [(0, .w), (1, .w)] rfl ?_
    refine r_w rfl rfl rfl (s_alloc rfl (ZeroV.agg bo_api_Program_1)) ?_
    rintro _ _ ⟨b5_6, rfl, rfl⟩
    refine r_w rfl rfl rfl (s_alloc rfl (ZeroV.agg bo_api_Program_1)) ?_
    rintro _ _ ⟨b6_7, rfl, rfl⟩
    refine r_end ?_
    refine g_seq ?_
    refine g_any (by kernel_rfl) (by kernel_rfl) [(0, .d), (1, .r), (2, .d), (3, .d), (5, .d), (6, .d), (4, .w), (7, .w), (8, .d), (9, .w)] (by kernel_rfl) ?_
    refine r_d rfl rfl rfl (s_fieldRef rfl fl_api_Program_1 rfl) ?_
    refine r_r rfl rfl rfl (t_loadRef rfl rfl (.tail _ (.head _)) rfl rfl (by exact ty_L_api_Rule) rfl) ?_
    refine r_d rfl rfl rfl (s_fieldAddr rfl fl_api_Program_1 rfl rfl rfl rfl) ?_
    refine r_d rfl rfl rfl (s_load rfl rfl (by exact ty_L_api_Rule) rfl) ?_
    refine r_d rfl rfl rfl (s_load rfl rfl (by exact ty_api_Rule) (sz_S_api_Rule _)) ?_
    refine r_d rfl rfl rfl (m_lit (f := enc_S_api_Rule) [.tmp 26] [r_a1] rfl el_L_api_Rule rfl rfl (by decide) (by decide) (.cons rfl (Wk.refl _) .nil) sz_S_api_Rule (fun _ => rfl)) ?_
    obtain ⟨l_9, hl_9, hr⟩ := bindS hr
    refine r_w rfl rfl rfl (m_appOwn (f := enc_S_api_Rule) [] p_a0.f1_Rules rfl el_L_api_Rule rfl rfl (asl rfl) (pf3 _ _ _ _ _) rfl sz_S_api_Rule hl_9) ?_
    rintro _ _ ⟨u25_9, rfl, rfl⟩
    obtain ⟨l_11, hl_11, hr⟩ := bindS hr
    refine r_w rfl rfl rfl (m_appOwn (f := enc_S_api_Rule) l_9 [r_a1] rfl el_L_api_Rule rfl rfl (asl rfl) (pf0 _) rfl sz_S_api_Rule hl_11) ?_
    rintro _ _ ⟨u28_11, rfl, rfl⟩
    refine r_d rfl rfl rfl (s_fieldRef rfl fl_api_Program_1 rfl) ?_
    refine r_w01 rfl rfl rfl (t_store _ rfl rfl rfl (Wk.refl _) (pf2 _ _ _ _) rfl rfl (by exact ty_L_api_Rule) rfl rfl rfl) ?_
    refine r_end ?_
    refine g_seq ?_
    refine g_any (by kernel_rfl) (by kernel_rfl) [(0, .d), (1, .r), (2, .d), (3, .d), (5, .d), (6, .d), (4, .w), (7, .w), (8, .d), (9, .w)] (by kernel_rfl) ?_
    refine r_d rfl rfl rfl (s_fieldRef rfl fl_api_Program_1 rfl) ?_
    refine r_r rfl rfl rfl (t_loadRef rfl rfl (.tail _ (.tail _ (.head _))) rfl rfl (by exact ty_L_api_Rule) rfl) ?_
    refine r_d rfl rfl rfl (s_load rfl rfl (by exact ty_api_Rule) (sz_S_api_Rule _)) ?_
    refine r_d rfl rfl rfl (m_lit (f := enc_S_api_Rule) [.tmp 32] [r_a1] rfl el_L_api_Rule rfl rfl (by decide) (by decide) (.cons rfl (Wk.refl _) .nil) sz_S_api_Rule (fun _ => rfl)) ?_
    refine r_d rfl rfl rfl (s_fieldAddr rfl fl_api_Program_1 rfl rfl rfl rfl) ?_
    refine r_d rfl rfl rfl (s_load rfl rfl (by exact ty_L_api_Rule) rfl) ?_
    obtain ⟨l_13, hl_13, hr⟩ := bindS hr
    refine r_w rfl rfl rfl (m_appOwn (f := enc_S_api_Rule) [] [r_a1] rfl el_L_api_Rule rfl rfl (asl rfl) (pf3 _ _ _ _ _) rfl sz_S_api_Rule hl_13) ?_
    rintro _ _ ⟨u34_13, rfl, rfl⟩
    obtain ⟨l_15, hl_15, hr⟩ := bindS hr
    refine r_w rfl rfl rfl (m_appOwn (f := enc_S_api_Rule) l_13 p_a0.f1_Rules rfl el_L_api_Rule rfl rfl (asl rfl) (pf0 _) rfl sz_S_api_Rule hl_15) ?_
    rintro _ _ ⟨u37_15, rfl, rfl⟩
    refine r_d rfl rfl rfl (s_fieldRef rfl fl_api_Program_1 rfl) ?_
    refine r_w01 rfl rfl rfl (t_store _ rfl rfl rfl (Wk.refl _) (pf3 _ _ _ _ _) rfl rfl (by exact ty_L_api_Rule) rfl rfl rfl) ?_
    refine r_end ?_
    refine g_seq ?_
    refine g_seq ?_
    refine g_run (by kernel_rfl) [(0, .d)] rfl ?_
    refine r_d rfl rfl rfl (s_assign rfl rfl) ?_
    refine r_end ?_
    obtain ⟨kk0, hkk0, hr⟩ := exK (fun k => lf_constraintlaw31_StoredMore_L0 k p_a0 p_a0.f1_Rules [] l_11 [] l_15) hr
    refine g_len 24 rfl (asl rfl) fun hla0 => ?_
    simp only [List.length_map] at hla0
    refine g_blockJ (fun env σ => ∃ (first_25 : (List S_api_Decl)) (first_26 : (List S_api_Rule)) (u_24 : Value), env = [(3, .ptr (enc_S_api_Rule r_a1)), (6, .ref b6_7 0 [])] ∧ σ = [.cell b6_7 (.agg [.lst (first_25.map enc_S_api_Decl), .own u_24 (first_26.map enc_S_api_Rule)]), .row u_24 first_26.length 32 6] ∧ kk0 first_25 first_26 = some res) ?_ (fun HK0 => ?_)
    ·
     rintro _ _ ⟨first_25, first_26, u_24, rfl, rfl, hr⟩
     rw [hkk0] at hr
     refine g_seq ?_
     refine g_seq ?_
     refine g_any (by kernel_rfl) (by kernel_rfl) [(0, .d), (1, .d), (2, .d), (3, .d), (4, .d), (5, .d), (6, .d), (7, .d), (8, .d), (9, .d), (10, .d), (11, .d), (12, .d), (13, .d), (14, .d), (15, .d), (16, .r), (17, .d), (18, .d), (19, .d), (20, .d), (21, .d), (22, .d), (23, .d), (24, .d), (25, .d), (26, .d), (27, .d), (28, .d), (29, .d), (30, .r), (31, .d), (32, .d), (33, .d), (34, .d), (35, .d), (36, .d), (37, .d), (38, .d), (39, .d), (40, .d), (41, .d), (42, .d), (43, .d), (44, .d), (45, .d)] (by kernel_rfl) ?_
     refine r_d rfl rfl rfl (s_fieldAddr rfl fl_api_Rule_1 rfl rfl rfl rfl) ?_
     refine r_d rfl rfl rfl (s_load rfl rfl (by exact ty_L_api_Atom) rfl) ?_
     refine r_d rfl rfl rfl (m_len (f := encA) r_a1.f1_Keep rfl el_L_api_Atom rfl (asl rfl)) ?_
     refine r_d rfl rfl rfl (s_cmp rfl rfl rfl rfl) ?_
     refine r_d rfl rfl rfl (s_move rfl rfl) ?_
     refine r_sB 105 rfl hr (fun h105_26 hr => ?_) (fun h105_26 hr => ?_)
     ·
      refine r_d rfl rfl rfl (s_fieldAddr rfl fl_api_Rule_2 rfl rfl rfl rfl) ?_
      refine r_d rfl rfl rfl (s_load rfl rfl (by exact ty_L_api_Atom) rfl) ?_
      refine r_d rfl rfl rfl (m_len (f := encA) r_a1.f2_Remove rfl el_L_api_Atom rfl (asl rfl)) ?_
      refine r_d rfl rfl rfl (s_cmp rfl rfl rfl rfl) ?_
      refine r_d rfl rfl rfl (s_pickT rfl rfl rfl) ?_
      refine r_d rfl rfl rfl (s_move rfl rfl) ?_
      refine r_sB 111 rfl hr (fun h111_27 hr => ?_) (fun h111_27 hr => ?_)
      ·
       refine r_d rfl rfl rfl (s_load rfl rfl (by exact ty_api_Rule) (sz_S_api_Rule _)) ?_
       obtain ⟨r_29, hr_29, hr⟩ := bindS hr
       refine r_d rfl rfl rfl (s_callD rfl cl_stored_Inert (.cons rfl (Wk.refl _) .nil) (lg_stored_Inert _ _ hr_29)) ?_
       refine r_d rfl rfl rfl (s_not rfl rfl) ?_
       refine r_d rfl rfl rfl (s_pickT rfl rfl rfl) ?_
       refine r_d rfl rfl rfl (s_move rfl rfl) ?_
       refine r_sB 116 rfl hr (fun h116_29 hr => ?_) (fun h116_29 hr => ?_)
       ·
        refine r_r rfl rfl rfl (t_loadRef rfl rfl (.head _) rfl rfl (by exact ty_api_Program) rfl) ?_
        refine r_d rfl rfl rfl (s_fieldAddr rfl fl_api_Rule_1 rfl rfl rfl rfl) ?_
        refine r_d rfl rfl rfl (s_load rfl rfl (by exact ty_L_api_Atom) rfl) ?_
        obtain ⟨q_31, hq_31, hr⟩ := bindS hr
        refine r_d rfl rfl rfl (m_index (f := encA) r_a1.f1_Keep rfl el_L_api_Atom rfl (asl rfl) rfl hq_31 sz_encA rfl) ?_
        refine r_d rfl rfl rfl (s_fieldAddr rfl fl_api_Atom_0 rfl rfl rfl rfl) ?_
        refine r_d rfl rfl rfl (s_load rfl rfl (by exact ty_string) rfl) ?_
        refine r_d rfl rfl rfl (s_fieldAddr rfl fl_api_Rule_1 rfl rfl rfl rfl) ?_
        refine r_d rfl rfl rfl (s_load rfl rfl (by exact ty_L_api_Atom) rfl) ?_
        refine r_d rfl rfl rfl (m_index (f := encA) r_a1.f1_Keep rfl el_L_api_Atom rfl (asl rfl) rfl hq_31 sz_encA rfl) ?_
        refine r_d rfl rfl rfl (s_fieldAddr rfl fl_api_Atom_1 rfl rfl rfl rfl) ?_
        refine r_d rfl rfl rfl (s_load rfl rfl (by exact ty_L_api_Term) rfl) ?_
        refine r_d rfl rfl rfl (m_len (f := encT) q_31.ts rfl el_L_api_Term rfl (asl rfl)) ?_
        obtain ⟨r_32, hr_32, hr⟩ := bindS hr
        refine r_d rfl rfl rfl (s_callD rfl cl_stored_Never (by exact (.cons rfl (Wk.agg (.cons (Wk.refl _) (.cons (Wk.own _ _) .nil))) (.cons rfl (Wk.refl _) (.cons rfl (Wk.refl _) .nil)))) (lg_stored_Never _ _ _ _ hr_32)) ?_
        refine r_d rfl rfl rfl (s_move rfl rfl) ?_
        refine r_sB 130 rfl hr (fun h130_32 hr => ?_) (fun h130_32 hr => ?_)
        ·
         refine r_skip rfl rfl rfl ?_
         refine r_skip rfl rfl rfl ?_
         refine r_skip rfl rfl rfl ?_
         refine r_skip rfl rfl rfl ?_
         refine r_skip rfl rfl rfl ?_
         refine r_skip rfl rfl rfl ?_
         refine r_skip rfl rfl rfl ?_
         refine r_skip rfl rfl rfl ?_
         refine r_skip rfl rfl rfl ?_
         refine r_skip rfl rfl rfl ?_
         refine r_skip rfl rfl rfl ?_
         refine r_skip rfl rfl rfl ?_
         refine r_skip rfl rfl rfl ?_
         refine r_skip rfl rfl rfl ?_
         refine r_d rfl rfl rfl (s_pickT rfl rfl rfl) ?_
         refine r_d rfl rfl rfl (s_pickT rfl rfl rfl) ?_
         refine r_end ?_
         refine g_condT rfl ?_
         refine g_seq ?_
         refine g_run (by kernel_rfl) [(0, .d)] rfl ?_
         refine r_d rfl rfl rfl (s_assign rfl rfl) ?_
         refine r_end ?_
         obtain rfl := Option.some.inj hr
         refine g_ret Try.func5 _ (.cons (resTmp rfl (Wk.refl _)) .nil) ?_
         rfl
        ·
         refine r_r rfl rfl rfl (t_loadRef rfl rfl (.head _) rfl rfl (by exact ty_api_Program) rfl) ?_
         refine r_d rfl rfl rfl (s_fieldAddr rfl fl_api_Rule_1 rfl rfl rfl rfl) ?_
         refine r_d rfl rfl rfl (s_load rfl rfl (by exact ty_L_api_Atom) rfl) ?_
         refine r_d rfl rfl rfl (m_index (f := encA) r_a1.f1_Keep rfl el_L_api_Atom rfl (asl rfl) rfl hq_31 sz_encA rfl) ?_
         refine r_d rfl rfl rfl (s_fieldAddr rfl fl_api_Atom_0 rfl rfl rfl rfl) ?_
         refine r_d rfl rfl rfl (s_load rfl rfl (by exact ty_string) rfl) ?_
         refine r_d rfl rfl rfl (s_fieldAddr rfl fl_api_Rule_1 rfl rfl rfl rfl) ?_
         refine r_d rfl rfl rfl (s_load rfl rfl (by exact ty_L_api_Atom) rfl) ?_
         refine r_d rfl rfl rfl (m_index (f := encA) r_a1.f1_Keep rfl el_L_api_Atom rfl (asl rfl) rfl hq_31 sz_encA rfl) ?_
         refine r_d rfl rfl rfl (s_fieldAddr rfl fl_api_Atom_1 rfl rfl rfl rfl) ?_
         refine r_d rfl rfl rfl (s_load rfl rfl (by exact ty_L_api_Term) rfl) ?_
         refine r_d rfl rfl rfl (m_len (f := encT) q_31.ts rfl el_L_api_Term rfl (asl rfl)) ?_
         obtain ⟨r_34, hr_34, hr⟩ := bindS hr
         refine r_d rfl rfl rfl (s_callD rfl cl_stored_Late (by exact (.cons rfl (Wk.agg (.cons (Wk.refl _) (.cons (Wk.own _ _) .nil))) (.cons rfl (Wk.refl _) (.cons rfl (Wk.refl _) .nil)))) (lg_stored_Late _ _ _ _ hr_34)) ?_
         refine r_d rfl rfl rfl (s_cmp rfl rfl rfl rfl) ?_
         refine r_d rfl rfl rfl (s_pickF rfl rfl rfl) ?_
         refine r_d rfl rfl rfl (s_pickT rfl rfl rfl) ?_
         refine r_end ?_
         refine g_sB 146 rfl hr (fun h146_34 hr => ?_) (fun h146_34 hr => ?_)
         ·
          refine g_condT rfl ?_
          refine g_seq ?_
          refine g_run (by kernel_rfl) [(0, .d)] rfl ?_
          refine r_d rfl rfl rfl (s_assign rfl rfl) ?_
          refine r_end ?_
          obtain rfl := Option.some.inj hr
          refine g_ret Try.func5 _ (.cons (resTmp rfl (Wk.refl _)) .nil) ?_
          rfl
         ·
          refine g_condF rfl ?_
          refine g_skip ?_
          refine g_seq ?_
          refine g_run (by kernel_rfl) [(0, .d), (1, .d)] rfl ?_
          obtain ⟨r_36, hr_36, hr⟩ := bindS hr
          refine r_d rfl rfl rfl (s_callD rfl cl_constraintlaw31_exampleHolds .nil (lg_constraintlaw31_exampleHolds _ hr_36)) ?_
          refine r_d rfl rfl rfl (s_assign rfl rfl) ?_
          refine r_end ?_
          obtain rfl := Option.some.inj hr
          refine g_ret Try.func5 _ (.cons (resTmp rfl (Wk.refl _)) .nil) ?_
          rfl
       ·
        refine r_skip rfl rfl rfl ?_
        refine r_skip rfl rfl rfl ?_
        refine r_skip rfl rfl rfl ?_
        refine r_skip rfl rfl rfl ?_
        refine r_skip rfl rfl rfl ?_
        refine r_skip rfl rfl rfl ?_
        refine r_skip rfl rfl rfl ?_
        refine r_skip rfl rfl rfl ?_
        refine r_skip rfl rfl rfl ?_
        refine r_skip rfl rfl rfl ?_
        refine r_skip rfl rfl rfl ?_
        refine r_skip rfl rfl rfl ?_
        refine r_skip rfl rfl rfl ?_
        refine r_skip rfl rfl rfl ?_
        refine r_skip rfl rfl rfl ?_
        refine r_skip rfl rfl rfl ?_
        refine r_skip rfl rfl rfl ?_
        refine r_skip rfl rfl rfl ?_
        refine r_skip rfl rfl rfl ?_
        refine r_skip rfl rfl rfl ?_
        refine r_skip rfl rfl rfl ?_
        refine r_skip rfl rfl rfl ?_
        refine r_skip rfl rfl rfl ?_
        refine r_skip rfl rfl rfl ?_
        refine r_skip rfl rfl rfl ?_
        refine r_skip rfl rfl rfl ?_
        refine r_skip rfl rfl rfl ?_
        refine r_skip rfl rfl rfl ?_
        refine r_skip rfl rfl rfl ?_
        refine r_d rfl rfl rfl (s_pickF rfl rfl rfl) ?_
        refine r_end ?_
        refine g_condF rfl ?_
        refine g_skip ?_
        refine g_seq ?_
        refine g_run (by kernel_rfl) [(0, .d), (1, .d)] rfl ?_
        obtain ⟨r_37, hr_37, hr⟩ := bindS hr
        refine r_d rfl rfl rfl (s_callD rfl cl_constraintlaw31_exampleHolds .nil (lg_constraintlaw31_exampleHolds _ hr_37)) ?_
        refine r_d rfl rfl rfl (s_assign rfl rfl) ?_
        refine r_end ?_
        obtain rfl := Option.some.inj hr
        refine g_ret Try.func5 _ (.cons (resTmp rfl (Wk.refl _)) .nil) ?_
        rfl
      ·
       refine r_skip rfl rfl rfl ?_
       refine r_skip rfl rfl rfl ?_
       refine r_skip rfl rfl rfl ?_
       refine r_d rfl rfl rfl (s_pickF rfl rfl rfl) ?_
       refine r_d rfl rfl rfl (s_move rfl rfl) ?_
       refine r_skip rfl rfl rfl ?_
       refine r_skip rfl rfl rfl ?_
       refine r_skip rfl rfl rfl ?_
       refine r_skip rfl rfl rfl ?_
       refine r_skip rfl rfl rfl ?_
       refine r_skip rfl rfl rfl ?_
       refine r_skip rfl rfl rfl ?_
       refine r_skip rfl rfl rfl ?_
       refine r_skip rfl rfl rfl ?_
       refine r_skip rfl rfl rfl ?_
       refine r_skip rfl rfl rfl ?_
       refine r_skip rfl rfl rfl ?_
       refine r_skip rfl rfl rfl ?_
       refine r_skip rfl rfl rfl ?_
       refine r_skip rfl rfl rfl ?_
       refine r_skip rfl rfl rfl ?_
       refine r_skip rfl rfl rfl ?_
       refine r_skip rfl rfl rfl ?_
       refine r_skip rfl rfl rfl ?_
       refine r_skip rfl rfl rfl ?_
       refine r_skip rfl rfl rfl ?_
       refine r_skip rfl rfl rfl ?_
       refine r_skip rfl rfl rfl ?_
       refine r_skip rfl rfl rfl ?_
       refine r_skip rfl rfl rfl ?_
       refine r_skip rfl rfl rfl ?_
       refine r_skip rfl rfl rfl ?_
       refine r_skip rfl rfl rfl ?_
       refine r_skip rfl rfl rfl ?_
       refine r_d rfl rfl rfl (s_pickF rfl rfl rfl) ?_
       refine r_end ?_
       refine g_condF rfl ?_
       refine g_skip ?_
       refine g_seq ?_
       refine g_run (by kernel_rfl) [(0, .d), (1, .d)] rfl ?_
       obtain ⟨r_38, hr_38, hr⟩ := bindS hr
       refine r_d rfl rfl rfl (s_callD rfl cl_constraintlaw31_exampleHolds .nil (lg_constraintlaw31_exampleHolds _ hr_38)) ?_
       refine r_d rfl rfl rfl (s_assign rfl rfl) ?_
       refine r_end ?_
       obtain rfl := Option.some.inj hr
       refine g_ret Try.func5 _ (.cons (resTmp rfl (Wk.refl _)) .nil) ?_
       rfl
     ·
      refine r_skip rfl rfl rfl ?_
      refine r_skip rfl rfl rfl ?_
      refine r_skip rfl rfl rfl ?_
      refine r_skip rfl rfl rfl ?_
      refine r_d rfl rfl rfl (s_pickF rfl rfl rfl) ?_
      refine r_d rfl rfl rfl (s_move rfl rfl) ?_
      refine r_skip rfl rfl rfl ?_
      refine r_skip rfl rfl rfl ?_
      refine r_skip rfl rfl rfl ?_
      refine r_d rfl rfl rfl (s_pickF rfl rfl rfl) ?_
      refine r_d rfl rfl rfl (s_move rfl rfl) ?_
      refine r_skip rfl rfl rfl ?_
      refine r_skip rfl rfl rfl ?_
      refine r_skip rfl rfl rfl ?_
      refine r_skip rfl rfl rfl ?_
      refine r_skip rfl rfl rfl ?_
      refine r_skip rfl rfl rfl ?_
      refine r_skip rfl rfl rfl ?_
      refine r_skip rfl rfl rfl ?_
      refine r_skip rfl rfl rfl ?_
      refine r_skip rfl rfl rfl ?_
      refine r_skip rfl rfl rfl ?_
      refine r_skip rfl rfl rfl ?_
      refine r_skip rfl rfl rfl ?_
      refine r_skip rfl rfl rfl ?_
      refine r_skip rfl rfl rfl ?_
      refine r_skip rfl rfl rfl ?_
      refine r_skip rfl rfl rfl ?_
      refine r_skip rfl rfl rfl ?_
      refine r_skip rfl rfl rfl ?_
      refine r_skip rfl rfl rfl ?_
      refine r_skip rfl rfl rfl ?_
      refine r_skip rfl rfl rfl ?_
      refine r_skip rfl rfl rfl ?_
      refine r_skip rfl rfl rfl ?_
      refine r_skip rfl rfl rfl ?_
      refine r_skip rfl rfl rfl ?_
      refine r_skip rfl rfl rfl ?_
      refine r_skip rfl rfl rfl ?_
      refine r_skip rfl rfl rfl ?_
      refine r_d rfl rfl rfl (s_pickF rfl rfl rfl) ?_
      refine r_end ?_
      refine g_condF rfl ?_
      refine g_skip ?_
      refine g_seq ?_
      refine g_run (by kernel_rfl) [(0, .d), (1, .d)] rfl ?_
      obtain ⟨r_39, hr_39, hr⟩ := bindS hr
      refine r_d rfl rfl rfl (s_callD rfl cl_constraintlaw31_exampleHolds .nil (lg_constraintlaw31_exampleHolds _ hr_39)) ?_
      refine r_d rfl rfl rfl (s_assign rfl rfl) ?_
      refine r_end ?_
      obtain rfl := Option.some.inj hr
      refine g_ret Try.func5 _ (.cons (resTmp rfl (Wk.refl _)) .nil) ?_
      rfl
    ·
     refine g_sub [(2, .ptr (enc_S_api_Program p_a0)), (3, .ptr (enc_S_api_Rule r_a1)), (5, .ref b5_6 0 []), (6, .ref b6_7 0 []), (7, .int .i64 ((0 : Nat) : Int))] (Sub.cons' rfl (Sub.cons' rfl (Sub.cons' rfl (Sub.cons' rfl (Sub.cons' rfl (Sub.nil _)))))) ?_
     refine g_perm [_, _, _, _] _ ((((pf1 _ _ _).trans (pf1 _ _ _)).trans (pf3 _ _ _ _ _)).trans (pf3 _ _ _ _ _)) ?_
     refine g_loop (fun n env σ => ∃ (i_19 : Nat) (more_20 : (List S_api_Decl)) (more_21 : (List S_api_Rule)) (first_22 : (List S_api_Decl)) (first_23 : (List S_api_Rule)) (u_17 : Value) (u_18 : Value), (n = p_a0.f1_Rules.length - i_19) ∧ (env = [(2, .ptr (enc_S_api_Program p_a0)), (3, .ptr (enc_S_api_Rule r_a1)), (5, .ref b5_6 0 []), (6, .ref b6_7 0 []), (7, .int .i64 (i_19 : Int))]) ∧ (σ = [.cell b5_6 (.agg [.lst (more_20.map enc_S_api_Decl), .own u_17 (more_21.map enc_S_api_Rule)]), .row u_17 more_21.length 32 6, .cell b6_7 (.agg [.lst (first_22.map enc_S_api_Decl), .own u_18 (first_23.map enc_S_api_Rule)]), .row u_18 first_23.length 32 6]) ∧ (i_19 ≤ p_a0.f1_Rules.length) ∧ (lf_constraintlaw31_StoredMore_L0 kk0 p_a0 (p_a0.f1_Rules.drop i_19) more_20 more_21 first_22 first_23 = some res)) _ ⟨0, [], l_11, [], l_15, u28_11, u37_15, rfl, rfl, rfl, Nat.zero_le _, hr⟩ ?_
     rintro n _ _ ⟨i_19, more_20, more_21, first_22, first_23, u_17, u_18, rfl, rfl, rfl, hi0, hr⟩ IH0
     rcases listStep p_a0.f1_Rules i_19 hi0 with ⟨ht0, hd0, he0⟩ | ⟨q_40, ht0, hd0, hq0, hlt0⟩
     ·
      rw [hd0, lf_constraintlaw31_StoredMore_L0] at hr
      refine g_seq ?_
      refine g_seq ?_
      refine g_run (by kernel_rfl) [(0, .d), (1, .d), (2, .d), (3, .d), (4, .d)] rfl ?_
      refine r_d rfl rfl rfl (s_move rfl rfl) ?_
      refine r_d rfl rfl rfl (s_fieldAddr rfl fl_api_Program_1 rfl rfl rfl rfl) ?_
      refine r_d rfl rfl rfl (s_load rfl rfl (by exact ty_L_api_Rule) rfl) ?_
      refine r_d rfl rfl rfl (m_len (f := enc_S_api_Rule) p_a0.f1_Rules rfl el_L_api_Rule rfl (asl rfl)) ?_
      refine r_d rfl rfl rfl (s_cmp rfl rfl rfl rfl) ?_
      refine r_end ?_
      refine g_known 43 false rfl ht0 ?_
      refine g_condF rfl ?_
      refine g_exit rfl ?_
      refine g_sub [(3, .ptr (enc_S_api_Rule r_a1)), (6, .ref b6_7 0 [])] (Sub.cons' rfl (Sub.cons' rfl (Sub.nil _))) ?_
      refine g_perm [_, _] _ ((pf3 _ _ _ _ _).trans (pf3 _ _ _ _ _)) ?_
      exact HK0 _ _ ⟨first_22, first_23, u_18, rfl, rfl, hr⟩
     ·
      rw [hd0, lf_constraintlaw31_StoredMore_L0] at hr
      refine g_seq ?_
      refine g_seq ?_
      refine g_run (by kernel_rfl) [(0, .d), (1, .d), (2, .d), (3, .d), (4, .d)] rfl ?_
      refine r_d rfl rfl rfl (s_move rfl rfl) ?_
      refine r_d rfl rfl rfl (s_fieldAddr rfl fl_api_Program_1 rfl rfl rfl rfl) ?_
      refine r_d rfl rfl rfl (s_load rfl rfl (by exact ty_L_api_Rule) rfl) ?_
      refine r_d rfl rfl rfl (m_len (f := enc_S_api_Rule) p_a0.f1_Rules rfl el_L_api_Rule rfl (asl rfl)) ?_
      refine r_d rfl rfl rfl (s_cmp rfl rfl rfl rfl) ?_
      refine r_end ?_
      refine g_known 43 true rfl ht0 ?_
      refine g_condT rfl ?_
      refine g_skip ?_
      refine g_seq ?_
      refine g_block ?_
      refine g_seq ?_
      refine g_run (by kernel_rfl) [(0, .d), (1, .d), (2, .d), (3, .d), (4, .d), (5, .d), (6, .d)] rfl ?_
      refine r_d rfl rfl rfl (s_fieldAddr rfl fl_api_Program_1 rfl rfl rfl rfl) ?_
      refine r_d rfl rfl rfl (s_load rfl rfl (by exact ty_L_api_Rule) rfl) ?_
      refine r_d rfl rfl rfl (s_move rfl rfl) ?_
      refine r_d rfl rfl rfl (m_index (f := enc_S_api_Rule) p_a0.f1_Rules rfl el_L_api_Rule rfl (asl rfl) rfl hq0 sz_S_api_Rule rfl) ?_
      refine r_d rfl rfl rfl (s_load rfl rfl (by exact ty_api_Rule) (sz_S_api_Rule _)) ?_
      obtain ⟨r_41, hr_41, hr⟩ := bindS hr
      refine r_d rfl rfl rfl (s_callD rfl cl_constraintref16_Heads (.cons rfl (Wk.refl _) .nil) (lg_constraintref16_Heads _ _ hr_41)) ?_
      refine r_d rfl rfl rfl (s_assign rfl rfl) ?_
      refine r_end ?_
      refine g_seq ?_
      refine g_run (by kernel_rfl) [(0, .d)] rfl ?_
      refine r_d rfl rfl rfl (s_assign rfl rfl) ?_
      refine r_end ?_
      obtain ⟨kk1, hkk1, hr⟩ := exK (fun k => lf_constraintlaw31_StoredMore_L1 k more_20 more_21 p_a0 r_41) hr
      refine g_len 51 rfl (asl rfl) fun hla1 => ?_
      simp only [List.length_map] at hla1
      refine g_blockJ (fun env σ => ∃ (u_45 : Value) (u_46 : Value), env = [(2, .ptr (enc_S_api_Program p_a0)), (3, .ptr (enc_S_api_Rule r_a1)), (5, .ref b5_6 0 []), (6, .ref b6_7 0 []), (7, .int .i64 (i_19 : Int))] ∧ σ = [.cell b5_6 (.agg [.lst (more_20.map enc_S_api_Decl), .own u_45 (more_21.map enc_S_api_Rule)]), .row u_45 more_21.length 32 6, .cell b6_7 (.agg [.lst (first_22.map enc_S_api_Decl), .own u_46 (first_23.map enc_S_api_Rule)]), .row u_46 first_23.length 32 6] ∧ kk1 = some res) ?_ (fun HK1 => ?_)
      ·
       rintro _ _ ⟨u_45, u_46, rfl, rfl, hr⟩
       rw [hkk1] at hr
       refine g_inBlock ?_
       refine g_run (by kernel_rfl) [(0, .d), (1, .d), (2, .d)] rfl ?_
       refine r_d rfl rfl rfl (s_move rfl rfl) ?_
       refine r_d rfl rfl rfl (s_ar (r := ((i_19 + 1 : Nat) : Int)) rfl rfl rfl (by simp [iar]) (by omega)) ?_
       refine r_d rfl rfl rfl (s_assign rfl rfl) ?_
       refine r_end ?_
       refine g_sub [(2, .ptr (enc_S_api_Program p_a0)), (3, .ptr (enc_S_api_Rule r_a1)), (5, .ref b5_6 0 []), (6, .ref b6_7 0 []), (7, .int .i64 ((i_19 + 1 : Nat) : Int))] (Sub.cons' rfl (Sub.cons' rfl (Sub.cons' rfl (Sub.cons' rfl (Sub.cons' rfl (Sub.nil _)))))) ?_
       exact IH0 _ _ _ (by omega) ⟨(i_19 + 1), more_20, more_21, first_22, first_23, u_45, u_46, rfl, rfl, rfl, (by omega), hr⟩
      ·
       refine g_sub [(2, .ptr (enc_S_api_Program p_a0)), (3, .ptr (enc_S_api_Rule r_a1)), (5, .ref b5_6 0 []), (6, .ref b6_7 0 []), (7, .int .i64 ((i_19 : Nat) : Int)), (8, .lst (r_41.map encA)), (9, .int .i64 ((0 : Nat) : Int))] (Sub.cons' rfl (Sub.cons' rfl (Sub.cons' rfl (Sub.cons' rfl (Sub.cons' rfl (Sub.cons' rfl (Sub.cons' rfl (Sub.nil _)))))))) ?_
       refine g_loop (fun n env σ => ∃ (k_44 : Nat) (u_42 : Value) (u_43 : Value), (n = r_41.length - k_44) ∧ (env = [(2, .ptr (enc_S_api_Program p_a0)), (3, .ptr (enc_S_api_Rule r_a1)), (5, .ref b5_6 0 []), (6, .ref b6_7 0 []), (7, .int .i64 (i_19 : Int)), (8, .lst (r_41.map encA)), (9, .int .i64 (k_44 : Int))]) ∧ (σ = [.cell b5_6 (.agg [.lst (more_20.map enc_S_api_Decl), .own u_42 (more_21.map enc_S_api_Rule)]), .row u_42 more_21.length 32 6, .cell b6_7 (.agg [.lst (first_22.map enc_S_api_Decl), .own u_43 (first_23.map enc_S_api_Rule)]), .row u_43 first_23.length 32 6]) ∧ (k_44 ≤ r_41.length) ∧ (lf_constraintlaw31_StoredMore_L1 kk1 more_20 more_21 p_a0 (r_41.drop k_44) = some res)) _ ⟨0, u_17, u_18, rfl, rfl, rfl, Nat.zero_le _, hr⟩ ?_
       rintro n _ _ ⟨k_44, u_42, u_43, rfl, rfl, rfl, hi1, hr⟩ IH1
       rcases listStep r_41 k_44 hi1 with ⟨ht1, hd1, he1⟩ | ⟨q_47, ht1, hd1, hq1, hlt1⟩
       ·
        rw [hd1, lf_constraintlaw31_StoredMore_L1] at hr
        refine g_seq ?_
        refine g_seq ?_
        refine g_run (by kernel_rfl) [(0, .d), (1, .d), (2, .d), (3, .d)] rfl ?_
        refine r_d rfl rfl rfl (s_move rfl rfl) ?_
        refine r_d rfl rfl rfl (s_move rfl rfl) ?_
        refine r_d rfl rfl rfl (m_len (f := encA) r_41 rfl el_L_api_Atom rfl (asl rfl)) ?_
        refine r_d rfl rfl rfl (s_cmp rfl rfl rfl rfl) ?_
        refine r_end ?_
        refine g_known 55 false rfl ht1 ?_
        refine g_condF rfl ?_
        refine g_exit rfl ?_
        refine g_sub [(2, .ptr (enc_S_api_Program p_a0)), (3, .ptr (enc_S_api_Rule r_a1)), (5, .ref b5_6 0 []), (6, .ref b6_7 0 []), (7, .int .i64 (i_19 : Int))] (Sub.cons' rfl (Sub.cons' rfl (Sub.cons' rfl (Sub.cons' rfl (Sub.cons' rfl (Sub.nil _)))))) ?_
        exact HK1 _ _ ⟨u_42, u_43, rfl, rfl, hr⟩
       ·
        rw [hd1, lf_constraintlaw31_StoredMore_L1] at hr
        refine g_seq ?_
        refine g_seq ?_
        refine g_run (by kernel_rfl) [(0, .d), (1, .d), (2, .d), (3, .d)] rfl ?_
        refine r_d rfl rfl rfl (s_move rfl rfl) ?_
        refine r_d rfl rfl rfl (s_move rfl rfl) ?_
        refine r_d rfl rfl rfl (m_len (f := encA) r_41 rfl el_L_api_Atom rfl (asl rfl)) ?_
        refine r_d rfl rfl rfl (s_cmp rfl rfl rfl rfl) ?_
        refine r_end ?_
        refine g_known 55 true rfl ht1 ?_
        refine g_condT rfl ?_
        refine g_skip ?_
        refine g_seq ?_
        refine g_block ?_
        refine g_seq ?_
        refine g_any (by kernel_rfl) (by kernel_rfl) [(0, .d), (1, .d), (2, .d), (3, .d), (4, .d), (5, .d), (6, .d), (7, .d), (8, .d), (9, .d), (10, .d), (11, .d), (12, .d)] (by kernel_rfl) ?_
        refine r_d rfl rfl rfl (s_move rfl rfl) ?_
        refine r_d rfl rfl rfl (s_move rfl rfl) ?_
        refine r_d rfl rfl rfl (m_index (f := encA) r_41 rfl el_L_api_Atom rfl (asl rfl) rfl hq1 sz_encA rfl) ?_
        refine r_d rfl rfl rfl (s_fieldAddr rfl fl_api_Atom_0 rfl rfl rfl rfl) ?_
        refine r_d rfl rfl rfl (s_load rfl rfl (by exact ty_string) rfl) ?_
        refine r_d rfl rfl rfl (s_move rfl rfl) ?_
        refine r_d rfl rfl rfl (s_move rfl rfl) ?_
        refine r_d rfl rfl rfl (m_index (f := encA) r_41 rfl el_L_api_Atom rfl (asl rfl) rfl hq1 sz_encA rfl) ?_
        refine r_d rfl rfl rfl (s_fieldAddr rfl fl_api_Atom_1 rfl rfl rfl rfl) ?_
        refine r_d rfl rfl rfl (s_load rfl rfl (by exact ty_L_api_Term) rfl) ?_
        refine r_d rfl rfl rfl (m_len (f := encT) q_47.ts rfl el_L_api_Term rfl (asl rfl)) ?_
        refine r_d rfl rfl rfl (s_assign rfl rfl) ?_
        refine r_d rfl rfl rfl (s_assign rfl rfl) ?_
        refine r_end ?_
        refine g_seq ?_
        refine g_run (by kernel_rfl) [(0, .d), (1, .d), (2, .d), (3, .d), (4, .d)] rfl ?_
        refine r_d rfl rfl rfl (s_load rfl rfl (by exact ty_api_Program) (sz_S_api_Program _)) ?_
        refine r_d rfl rfl rfl (s_move rfl rfl) ?_
        refine r_d rfl rfl rfl (s_move rfl rfl) ?_
        obtain ⟨r_48, hr_48, hr⟩ := bindS hr
        refine r_d rfl rfl rfl (s_callD rfl cl_stored_Late (.cons rfl (Wk.refl _) (.cons rfl (Wk.refl _) (.cons rfl (Wk.refl _) .nil))) (lg_stored_Late _ _ _ _ hr_48)) ?_
        refine r_d rfl rfl rfl (s_assign rfl rfl) ?_
        refine r_end ?_
        refine g_seq ?_
        refine g_run (by kernel_rfl) [(0, .d), (1, .d), (2, .d), (3, .d), (4, .d), (5, .r), (6, .d), (7, .d), (8, .d), (9, .d), (10, .d), (11, .d), (12, .d), (13, .d), (14, .d), (15, .d), (16, .d), (17, .d), (18, .d), (19, .d), (20, .r), (21, .d), (22, .d), (23, .d), (24, .d), (25, .d), (26, .d), (27, .d)] rfl ?_
        refine r_d rfl rfl rfl (s_load rfl rfl (by exact ty_api_Program) (sz_S_api_Program _)) ?_
        refine r_d rfl rfl rfl (s_move rfl rfl) ?_
        refine r_d rfl rfl rfl (s_move rfl rfl) ?_
        obtain ⟨r_49, hr_49, hr⟩ := bindS hr
        refine r_d rfl rfl rfl (s_callD rfl cl_stored_Never (.cons rfl (Wk.refl _) (.cons rfl (Wk.refl _) (.cons rfl (Wk.refl _) .nil))) (lg_stored_Never _ _ _ _ hr_49)) ?_
        refine r_d rfl rfl rfl (s_move rfl rfl) ?_
        refine r_sB 77 rfl hr (fun h77_49 hr => ?_) (fun h77_49 hr => ?_)
        ·
         refine r_r rfl rfl rfl (t_loadRef rfl rfl (.head _) rfl rfl (by exact ty_api_Program) rfl) ?_
         refine r_d rfl rfl rfl (s_move rfl rfl) ?_
         refine r_d rfl rfl rfl (s_move rfl rfl) ?_
         obtain ⟨r_51, hr_51, hr⟩ := bindS hr
         refine r_d rfl rfl rfl (s_callD rfl cl_stored_Never (by exact (.cons rfl (Wk.agg (.cons (Wk.refl _) (.cons (Wk.own _ _) .nil))) (.cons rfl (Wk.refl _) (.cons rfl (Wk.refl _) .nil)))) (lg_stored_Never _ _ _ _ hr_51)) ?_
         refine r_d rfl rfl rfl (s_not rfl rfl) ?_
         refine r_d rfl rfl rfl (s_pickT rfl rfl rfl) ?_
         refine r_d rfl rfl rfl (s_move rfl rfl) ?_
         refine r_sB 84 rfl hr (fun h84_51 hr => ?_) (fun h84_51 hr => ?_)
         ·
          refine r_skip rfl rfl rfl ?_
          refine r_skip rfl rfl rfl ?_
          refine r_skip rfl rfl rfl ?_
          refine r_skip rfl rfl rfl ?_
          refine r_skip rfl rfl rfl ?_
          refine r_skip rfl rfl rfl ?_
          refine r_skip rfl rfl rfl ?_
          refine r_skip rfl rfl rfl ?_
          refine r_skip rfl rfl rfl ?_
          refine r_skip rfl rfl rfl ?_
          refine r_skip rfl rfl rfl ?_
          refine r_skip rfl rfl rfl ?_
          refine r_skip rfl rfl rfl ?_
          refine r_skip rfl rfl rfl ?_
          refine r_skip rfl rfl rfl ?_
          refine r_d rfl rfl rfl (s_pickT rfl rfl rfl) ?_
          refine r_end ?_
          refine g_condT rfl ?_
          refine g_seq ?_
          refine g_run (by kernel_rfl) [(0, .d)] rfl ?_
          refine r_d rfl rfl rfl (s_assign rfl rfl) ?_
          refine r_end ?_
          obtain rfl := Option.some.inj hr
          refine g_ret Try.func5 _ (.cons (resTmp rfl (Wk.refl _)) .nil) ?_
          rfl
         ·
          refine r_d rfl rfl rfl (s_move rfl rfl) ?_
          refine r_d rfl rfl rfl (s_load rfl rfl (by exact ty_api_Program) (sz_S_api_Program _)) ?_
          refine r_d rfl rfl rfl (s_move rfl rfl) ?_
          refine r_d rfl rfl rfl (s_move rfl rfl) ?_
          obtain ⟨r_53, hr_53, hr⟩ := bindS hr
          refine r_d rfl rfl rfl (s_callD rfl cl_constraintref16_Of (.cons rfl (Wk.refl _) (.cons rfl (Wk.refl _) (.cons rfl (Wk.refl _) .nil))) (lg_constraintref16_Of _ _ _ _ hr_53)) ?_
          refine r_d rfl rfl rfl (m_len (f := enc_S_api_Occ) r_53 rfl el_L_api_Occ rfl (asl rfl)) ?_
          refine r_d rfl rfl rfl (s_cmp rfl rfl rfl rfl) ?_
          refine r_d rfl rfl rfl (s_move rfl rfl) ?_
          refine r_sB 92 rfl hr (fun h92_53 hr => ?_) (fun h92_53 hr => ?_)
          ·
           refine r_r rfl rfl rfl (t_loadRef rfl rfl (.head _) rfl rfl (by exact ty_api_Program) rfl) ?_
           refine r_d rfl rfl rfl (s_move rfl rfl) ?_
           refine r_d rfl rfl rfl (s_move rfl rfl) ?_
           obtain ⟨r_55, hr_55, hr⟩ := bindS hr
           refine r_d rfl rfl rfl (s_callD rfl cl_stored_Late (by exact (.cons rfl (Wk.agg (.cons (Wk.refl _) (.cons (Wk.own _ _) .nil))) (.cons rfl (Wk.refl _) (.cons rfl (Wk.refl _) .nil)))) (lg_stored_Late _ _ _ _ hr_55)) ?_
           refine r_d rfl rfl rfl (s_move rfl rfl) ?_
           refine r_d rfl rfl rfl (s_cmp rfl rfl rfl rfl) ?_
           refine r_d rfl rfl rfl (s_pickT rfl rfl rfl) ?_
           refine r_d rfl rfl rfl (s_pickF rfl rfl rfl) ?_
           refine r_end ?_
           refine g_sB 100 rfl hr (fun h100_55 hr => ?_) (fun h100_55 hr => ?_)
           ·
            refine g_condT rfl ?_
            refine g_seq ?_
            refine g_run (by kernel_rfl) [(0, .d)] rfl ?_
            refine r_d rfl rfl rfl (s_assign rfl rfl) ?_
            refine r_end ?_
            obtain rfl := Option.some.inj hr
            refine g_ret Try.func5 _ (.cons (resTmp rfl (Wk.refl _)) .nil) ?_
            rfl
           ·
            refine g_condF rfl ?_
            refine g_skip ?_
            refine g_inBlock ?_
            refine g_run (by kernel_rfl) [(0, .d), (1, .d), (2, .d)] rfl ?_
            refine r_d rfl rfl rfl (s_move rfl rfl) ?_
            refine r_d rfl rfl rfl (s_ar (r := ((k_44 + 1 : Nat) : Int)) rfl rfl rfl (by simp [iar]) (by omega)) ?_
            refine r_d rfl rfl rfl (s_assign rfl rfl) ?_
            refine r_end ?_
            refine g_sub [(2, .ptr (enc_S_api_Program p_a0)), (3, .ptr (enc_S_api_Rule r_a1)), (5, .ref b5_6 0 []), (6, .ref b6_7 0 []), (7, .int .i64 ((i_19 : Nat) : Int)), (8, .lst (r_41.map encA)), (9, .int .i64 ((k_44 + 1 : Nat) : Int))] (Sub.cons' rfl (Sub.cons' rfl (Sub.cons' rfl (Sub.cons' rfl (Sub.cons' rfl (Sub.cons' rfl (Sub.cons' rfl (Sub.nil _)))))))) ?_
            exact IH1 _ _ _ (by omega) ⟨(k_44 + 1), u_42, u_43, rfl, rfl, rfl, (by omega), hr⟩
          ·
           refine r_skip rfl rfl rfl ?_
           refine r_skip rfl rfl rfl ?_
           refine r_skip rfl rfl rfl ?_
           refine r_skip rfl rfl rfl ?_
           refine r_skip rfl rfl rfl ?_
           refine r_skip rfl rfl rfl ?_
           refine r_d rfl rfl rfl (s_pickF rfl rfl rfl) ?_
           refine r_d rfl rfl rfl (s_pickF rfl rfl rfl) ?_
           refine r_end ?_
           refine g_condF rfl ?_
           refine g_skip ?_
           refine g_inBlock ?_
           refine g_run (by kernel_rfl) [(0, .d), (1, .d), (2, .d)] rfl ?_
           refine r_d rfl rfl rfl (s_move rfl rfl) ?_
           refine r_d rfl rfl rfl (s_ar (r := ((k_44 + 1 : Nat) : Int)) rfl rfl rfl (by simp [iar]) (by omega)) ?_
           refine r_d rfl rfl rfl (s_assign rfl rfl) ?_
           refine r_end ?_
           refine g_sub [(2, .ptr (enc_S_api_Program p_a0)), (3, .ptr (enc_S_api_Rule r_a1)), (5, .ref b5_6 0 []), (6, .ref b6_7 0 []), (7, .int .i64 ((i_19 : Nat) : Int)), (8, .lst (r_41.map encA)), (9, .int .i64 ((k_44 + 1 : Nat) : Int))] (Sub.cons' rfl (Sub.cons' rfl (Sub.cons' rfl (Sub.cons' rfl (Sub.cons' rfl (Sub.cons' rfl (Sub.cons' rfl (Sub.nil _)))))))) ?_
           exact IH1 _ _ _ (by omega) ⟨(k_44 + 1), u_42, u_43, rfl, rfl, rfl, (by omega), hr⟩
        ·
         refine r_skip rfl rfl rfl ?_
         refine r_skip rfl rfl rfl ?_
         refine r_skip rfl rfl rfl ?_
         refine r_skip rfl rfl rfl ?_
         refine r_skip rfl rfl rfl ?_
         refine r_d rfl rfl rfl (s_pickF rfl rfl rfl) ?_
         refine r_d rfl rfl rfl (s_move rfl rfl) ?_
         refine r_d rfl rfl rfl (s_move rfl rfl) ?_
         refine r_d rfl rfl rfl (s_load rfl rfl (by exact ty_api_Program) (sz_S_api_Program _)) ?_
         refine r_d rfl rfl rfl (s_move rfl rfl) ?_
         refine r_d rfl rfl rfl (s_move rfl rfl) ?_
         obtain ⟨r_57, hr_57, hr⟩ := bindS hr
         refine r_d rfl rfl rfl (s_callD rfl cl_constraintref16_Of (.cons rfl (Wk.refl _) (.cons rfl (Wk.refl _) (.cons rfl (Wk.refl _) .nil))) (lg_constraintref16_Of _ _ _ _ hr_57)) ?_
         refine r_d rfl rfl rfl (m_len (f := enc_S_api_Occ) r_57 rfl el_L_api_Occ rfl (asl rfl)) ?_
         refine r_d rfl rfl rfl (s_cmp rfl rfl rfl rfl) ?_
         refine r_d rfl rfl rfl (s_move rfl rfl) ?_
         refine r_sB 92 rfl hr (fun h92_57 hr => ?_) (fun h92_57 hr => ?_)
         ·
          refine r_r rfl rfl rfl (t_loadRef rfl rfl (.head _) rfl rfl (by exact ty_api_Program) rfl) ?_
          refine r_d rfl rfl rfl (s_move rfl rfl) ?_
          refine r_d rfl rfl rfl (s_move rfl rfl) ?_
          obtain ⟨r_59, hr_59, hr⟩ := bindS hr
          refine r_d rfl rfl rfl (s_callD rfl cl_stored_Late (by exact (.cons rfl (Wk.agg (.cons (Wk.refl _) (.cons (Wk.own _ _) .nil))) (.cons rfl (Wk.refl _) (.cons rfl (Wk.refl _) .nil)))) (lg_stored_Late _ _ _ _ hr_59)) ?_
          refine r_d rfl rfl rfl (s_move rfl rfl) ?_
          refine r_d rfl rfl rfl (s_cmp rfl rfl rfl rfl) ?_
          refine r_d rfl rfl rfl (s_pickT rfl rfl rfl) ?_
          refine r_d rfl rfl rfl (s_pickF rfl rfl rfl) ?_
          refine r_end ?_
          refine g_sB 100 rfl hr (fun h100_59 hr => ?_) (fun h100_59 hr => ?_)
          ·
           refine g_condT rfl ?_
           refine g_seq ?_
           refine g_run (by kernel_rfl) [(0, .d)] rfl ?_
           refine r_d rfl rfl rfl (s_assign rfl rfl) ?_
           refine r_end ?_
           obtain rfl := Option.some.inj hr
           refine g_ret Try.func5 _ (.cons (resTmp rfl (Wk.refl _)) .nil) ?_
           rfl
          ·
           refine g_condF rfl ?_
           refine g_skip ?_
           refine g_inBlock ?_
           refine g_run (by kernel_rfl) [(0, .d), (1, .d), (2, .d)] rfl ?_
           refine r_d rfl rfl rfl (s_move rfl rfl) ?_
           refine r_d rfl rfl rfl (s_ar (r := ((k_44 + 1 : Nat) : Int)) rfl rfl rfl (by simp [iar]) (by omega)) ?_
           refine r_d rfl rfl rfl (s_assign rfl rfl) ?_
           refine r_end ?_
           refine g_sub [(2, .ptr (enc_S_api_Program p_a0)), (3, .ptr (enc_S_api_Rule r_a1)), (5, .ref b5_6 0 []), (6, .ref b6_7 0 []), (7, .int .i64 ((i_19 : Nat) : Int)), (8, .lst (r_41.map encA)), (9, .int .i64 ((k_44 + 1 : Nat) : Int))] (Sub.cons' rfl (Sub.cons' rfl (Sub.cons' rfl (Sub.cons' rfl (Sub.cons' rfl (Sub.cons' rfl (Sub.cons' rfl (Sub.nil _)))))))) ?_
           exact IH1 _ _ _ (by omega) ⟨(k_44 + 1), u_42, u_43, rfl, rfl, rfl, (by omega), hr⟩
         ·
          refine r_skip rfl rfl rfl ?_
          refine r_skip rfl rfl rfl ?_
          refine r_skip rfl rfl rfl ?_
          refine r_skip rfl rfl rfl ?_
          refine r_skip rfl rfl rfl ?_
          refine r_skip rfl rfl rfl ?_
          refine r_d rfl rfl rfl (s_pickF rfl rfl rfl) ?_
          refine r_d rfl rfl rfl (s_pickF rfl rfl rfl) ?_
          refine r_end ?_
          refine g_condF rfl ?_
          refine g_skip ?_
          refine g_inBlock ?_
          refine g_run (by kernel_rfl) [(0, .d), (1, .d), (2, .d)] rfl ?_
          refine r_d rfl rfl rfl (s_move rfl rfl) ?_
          refine r_d rfl rfl rfl (s_ar (r := ((k_44 + 1 : Nat) : Int)) rfl rfl rfl (by simp [iar]) (by omega)) ?_
          refine r_d rfl rfl rfl (s_assign rfl rfl) ?_
          refine r_end ?_
          refine g_sub [(2, .ptr (enc_S_api_Program p_a0)), (3, .ptr (enc_S_api_Rule r_a1)), (5, .ref b5_6 0 []), (6, .ref b6_7 0 []), (7, .int .i64 ((i_19 : Nat) : Int)), (8, .lst (r_41.map encA)), (9, .int .i64 ((k_44 + 1 : Nat) : Int))] (Sub.cons' rfl (Sub.cons' rfl (Sub.cons' rfl (Sub.cons' rfl (Sub.cons' rfl (Sub.cons' rfl (Sub.cons' rfl (Sub.nil _)))))))) ?_
          exact IH1 _ _ _ (by omega) ⟨(k_44 + 1), u_42, u_43, rfl, rfl, rfl, (by omega), hr⟩

end Go.Proofs.Ytnldggbcfcibaaa

