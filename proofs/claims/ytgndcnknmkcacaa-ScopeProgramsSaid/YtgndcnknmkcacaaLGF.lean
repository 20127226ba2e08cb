/-
  Texts of the seat, merged.
-/
import Derived.Test.YtgndcnknmkcacaaLGA
import Derived.Test.YtgndcnknmkcacaaLGB
import Derived.Test.YtgndcnknmkcacaaLGC
import Derived.Test.YtgndcnknmkcacaaLGD
import Derived.Test.YtgndcnknmkcacaaLGE
import Derived.Test.YtgndcnknmkcacaaChecked
import Derived.WalkKit
import Derived.Lib.Hide
import Derived.Lib.AppendStr
import Derived.Deep.AppendLies
import Derived.Deep.AppendSrc
import Derived.Deep.Draws
import Derived.Deep.QuietTactic
import Derived.BigQuiet
import Derived.Deep.RegionWith
import Derived.Maps.AppendAt
import Derived.WalkSpells
import Derived.Orders
import Derived.Deep.Slices
import Derived.Deep.Fields
import Derived.ChangeArms
import Derived.Lib.OthersKept
import Derived.Lib.TrimU
import Derived.Lib.IndexAny
import Derived.Deep.LoopGhost
import Derived.Lib.Bytealg
import Derived.RangeFuncBox
import Derived.RangeFuncNested
import Derived.RangeFuncBound
import Derived.RangeFuncCalls
import Derived.RangeFuncLeaves
import Derived.Shelf.Abstract
import Derived.OwnWalkIn
import Derived.TacticsInMore
import Derived.LoopNIn
import Derived.LoopIn
import Derived.RangeFuncWrites
import Derived.Maps.OwnIn
import Derived.Maps.Views
import Derived.Laws.OwnMore
import Derived.Maps.OwnSet
import Derived.Test.YtgndcnknmkcacaaRows
import Derived.ProofKit
import Derived.OpenShut
import Derived.Carry
import Derived.Great.BuildSlice
import Derived.ArgAppend
import Derived.Laws.MakeOwn
import Derived.Laws.Cover3
import Derived.Laws.CopyRow
import Derived.MapKept
import Derived.Maps.RangeRun
import Derived.DeepKeys5
import Derived.WideKeyRuns
import Derived.Tactics
import Derived.Tactics2
import Derived.Defers
import Derived.Recover
import Derived.Laws.Pointers
set_option linter.unusedVariables false
set_option linter.unusedSimpArgs false
set_option linter.unnecessarySimpa false
set_option linter.all false

namespace Go.Proofs.Ytgndcnknmkcacaa
set_option maxRecDepth 100000
open Go.RowKit

set_option maxHeartbeats 1000000 in
theorem lg_scope_CheckQuery_1 (t0_a0 : (List Gl)) (t1_a1 : Int) (t2_a2 : (List S_api_Decl)) (res : Int ⊕ (Unit)) (hr : lf_scope_CheckQuery_1 t0_a0 t1_a1 t2_a2 = some res) : SpecX Try.prog 46 [.ptr (.lst (t0_a0.map encG)), .ptr (.int .i64 t1_a1), .ptr (.lst (t2_a2.map enc_S_api_Decl))] [] (fun d _ => ∃ r : Unit, res = .inr r ∧ d = .tup []) (fun d => ∃ c, res = .inl c ∧ d = .ifc 83 (.agg [.int .i64 c])) := by
  unfold lf_scope_CheckQuery_1 at hr
  refine spec_envX [(0, .ptr (.lst (t0_a0.map encG))), (1, .ptr (.int .i64 t1_a1)), (2, .ptr (.lst (t2_a2.map enc_S_api_Decl)))] Try.func46 rfl rfl fun K hK hX => ?_
  obtain ⟨kkJ0, hkkJ0, hr⟩ := exK (fun k => lf_scope_CheckQuery_1_J0 k t0_a0 t1_a1) hr
  refine g_seqJ (fun env σ => env = [(0, .ptr (.lst (t0_a0.map encG))), (1, .ptr (.int .i64 t1_a1)), (2, .ptr (.lst (t2_a2.map enc_S_api_Decl)))] ∧ σ = [] ∧ kkJ0 = some res) ?_ (fun HKJ0 => ?_)
  ·
   rintro _ _ ⟨rfl, rfl, hr⟩
   rw [hkkJ0] at hr
   refine g_seq ?_
   refine g_seq ?_
   refine g_run (by kernel_rfl) [(0, .d), (1, .d), (2, .d)] rfl ?_
   refine r_d rfl rfl rfl (s_load rfl rfl (by exact ty_L_api_Goal) rfl) ?_
   refine r_d rfl rfl rfl (m_len (f := encG) t0_a0 rfl el_L_api_Goal rfl (asl rfl)) ?_
   refine r_d rfl rfl rfl (s_move rfl rfl) ?_
   refine r_end ?_
   obtain ⟨kk0, hkk0, hr⟩ := exK (fun k => lf_scope_CheckQuery_1_L0 k t0_a0) hr
   refine g_len 21 rfl (asl rfl) fun hla0 => ?_
   simp only [List.length_map] at hla0
   refine g_blockJ (fun env σ => env = [(0, .ptr (.lst (t0_a0.map encG))), (1, .ptr (.int .i64 t1_a1)), (2, .ptr (.lst (t2_a2.map enc_S_api_Decl)))] ∧ σ = [] ∧ kk0 = some res) ?_ (fun HK0 => ?_)
   ·
    rintro _ _ ⟨rfl, rfl, hr⟩
    rw [hkk0] at hr
    refine g_seq ?_
    refine g_run (by kernel_rfl) [(0, .d), (1, .d), (2, .d)] rfl ?_
    refine r_d rfl rfl rfl (s_load rfl rfl (by exact ty_L_api_Decl) rfl) ?_
    refine r_d rfl rfl rfl (s_load rfl rfl (by exact ty_L_api_Goal) rfl) ?_
    rcases bindXS hr with ⟨c_r_2, hr_2, rfl⟩ | ⟨r_2, hr_2, hr⟩
    ·
     refine r_die rfl rfl (s_callX _ rfl cl_scope_calls (.cons rfl (Wk.refl _) (.cons rfl (Wk.refl _) .nil)) (by exact (List.Perm.refl _)) (specX_inl (lg_scope_calls _ _ _ hr_2))) (hX _ ⟨_, rfl, rfl⟩)
    ·
     refine r_d rfl rfl rfl (s_callD rfl cl_scope_calls (.cons rfl (Wk.refl _) (.cons rfl (Wk.refl _) .nil)) (specX_inr (lg_scope_calls _ _ _ hr_2))) ?_
     refine r_end ?_
     refine g_seq ?_
     refine g_seq ?_
     refine g_run (by kernel_rfl) [(0, .d), (1, .d), (2, .d)] rfl ?_
     refine r_d rfl rfl rfl (s_load rfl rfl (by exact ty_L_api_Goal) rfl) ?_
     refine r_d rfl rfl rfl (m_len (f := encG) t0_a0 rfl el_L_api_Goal rfl (asl rfl)) ?_
     refine r_d rfl rfl rfl (s_move rfl rfl) ?_
     refine r_end ?_
     obtain ⟨kk1, hkk1, hr⟩ := exK (fun k => lf_scope_CheckQuery_1_L1 k t0_a0) hr
     refine g_len 32 rfl (asl rfl) fun hla1 => ?_
     simp only [List.length_map] at hla1
     refine g_blockJ (fun env σ => env = [(0, .ptr (.lst (t0_a0.map encG))), (1, .ptr (.int .i64 t1_a1))] ∧ σ = [] ∧ kk1 = some res) ?_ (fun HK1 => ?_)
     ·
      rintro _ _ ⟨rfl, rfl, hr⟩
      rw [hkk1] at hr
      refine g_seq ?_
      refine g_run (by kernel_rfl) [(0, .d), (1, .d), (2, .d), (3, .d), (4, .d)] rfl ?_
      refine r_d rfl rfl rfl (s_load rfl rfl (by exact ty_L_api_Goal) rfl) ?_
      refine r_d rfl rfl rfl (m_lit (f := (fun l => D.lst (l.map encG))) [.tmp 46] [t0_a0] rfl el_L_L_api_Goal rfl rfl (by decide) (by decide) (.cons rfl (Wk.refl _) .nil) (fun _ => rfl) (fun _ => rfl)) ?_
      obtain ⟨r_4, hr_4, hr⟩ := bindS hr
      refine r_d rfl rfl rfl (by exact s_callD rfl cl_scope_goalVars (.cons rfl (Wk.full _) .nil) (lg_scope_goalVars _ _ hr_4)) ?_
      refine r_d rfl rfl rfl (m_len (f := (D.int .i64)) r_4 rfl el_L_int rfl (asl rfl)) ?_
      refine r_d rfl rfl rfl (s_move rfl rfl) ?_
      refine r_end ?_
      obtain ⟨kk2, hkk2, hr⟩ := exK (fun k => lf_scope_CheckQuery_1_L2 k t1_a1 r_4) hr
      refine g_len 48 rfl (asl rfl) fun hla2 => ?_
      simp only [List.length_map] at hla2
      refine g_blockJ (fun env σ => env = [] ∧ σ = [] ∧ kk2 = some res) ?_ (fun HK2 => ?_)
      ·
       rintro _ _ ⟨rfl, rfl, hr⟩
       rw [hkk2] at hr
       obtain rfl := Option.some.inj hr
       refine g_end Try.func46 _ .nil ?_
       exact ⟨_, rfl, rfl⟩
      ·
       refine g_sub [(1, .ptr (.int .i64 t1_a1)), (48, .lst (r_4.map (D.int .i64))), (49, .int .i64 (r_4.length : Int)), (50, .int .i64 ((0 : Nat) : Int))] (Sub.cons' rfl (Sub.cons' rfl (Sub.cons' rfl (Sub.cons' rfl (Sub.nil _))))) ?_
       refine g_loop (fun n env σ => ∃ (i_5 : Nat), (n = r_4.length - i_5) ∧ (env = [(1, .ptr (.int .i64 t1_a1)), (48, .lst (r_4.map (D.int .i64))), (49, .int .i64 (r_4.length : Int)), (50, .int .i64 (i_5 : Int))]) ∧ (σ = []) ∧ (i_5 ≤ r_4.length) ∧ (lf_scope_CheckQuery_1_L2 kk2 t1_a1 (r_4.drop i_5) = some res)) _ ⟨0, rfl, rfl, rfl, Nat.zero_le _, hr⟩ ?_
       rintro n _ _ ⟨i_5, rfl, rfl, rfl, hi2, hr⟩ IH2
       rcases listStep r_4 i_5 hi2 with ⟨ht2, hd2, he2⟩ | ⟨q_6, ht2, hd2, hq2, hlt2⟩
       ·
        rw [hd2, lf_scope_CheckQuery_1_L2] at hr
        refine g_seq ?_
        refine g_run (by kernel_rfl) [(0, .d)] rfl ?_
        refine r_d rfl rfl rfl (s_cmp rfl rfl rfl rfl) ?_
        refine r_end ?_
        refine g_seq ?_
        refine g_known 51 false rfl ht2 ?_
        refine g_condF rfl ?_
        refine g_exit rfl ?_
        refine g_sub [] (Sub.nil _) ?_
        exact HK2 _ _ ⟨rfl, rfl, hr⟩
       ·
        rw [hd2, lf_scope_CheckQuery_1_L2] at hr
        refine g_seq ?_
        refine g_run (by kernel_rfl) [(0, .d)] rfl ?_
        refine r_d rfl rfl rfl (s_cmp rfl rfl rfl rfl) ?_
        refine r_end ?_
        refine g_seq ?_
        refine g_known 51 true rfl ht2 ?_
        refine g_condT rfl ?_
        refine g_skip ?_
        refine g_seq ?_
        refine g_block ?_
        refine g_seq ?_
        refine g_run (by kernel_rfl) [(0, .d), (1, .d), (2, .d)] rfl ?_
        refine r_d rfl rfl rfl (m_index (f := (D.int .i64)) r_4 rfl el_L_int rfl (asl rfl) rfl hq2 (fun _ => rfl) rfl) ?_
        refine r_d rfl rfl rfl (s_load rfl rfl (by exact ty_int) rfl) ?_
        refine r_d rfl rfl rfl (s_assign rfl rfl) ?_
        refine r_end ?_
        refine g_run (by kernel_rfl) [(0, .d), (1, .d), (2, .d), (3, .d)] rfl ?_
        refine r_d rfl rfl rfl (s_move rfl rfl) ?_
        refine r_d rfl rfl rfl (s_load rfl rfl (by exact ty_int) rfl) ?_
        refine r_d rfl rfl rfl (s_cmp rfl rfl rfl rfl) ?_
        rcases bindXS hr with ⟨c_r_7, hr_7, rfl⟩ | ⟨r_7, hr_7, hr⟩
        ·
         refine r_die rfl rfl (s_callX _ rfl cl_scope_need (.cons rfl (Wk.refl _) (.cons rfl (Wk.refl _) .nil)) (by exact (List.Perm.refl _)) (specX_inl (lg_scope_need _ _ _ hr_7))) (hX _ ⟨_, rfl, rfl⟩)
        ·
         refine r_d rfl rfl rfl (s_callD rfl cl_scope_need (.cons rfl (Wk.refl _) (.cons rfl (Wk.refl _) .nil)) (specX_inr (lg_scope_need _ _ _ hr_7))) ?_
         refine r_end ?_
         refine g_inBlock ?_
         refine g_run (by kernel_rfl) [(0, .d), (1, .d)] rfl ?_
         refine r_d rfl rfl rfl (s_ar (r := ((i_5 + 1 : Nat) : Int)) rfl rfl rfl (by simp [iar]) (by omega)) ?_
         refine r_d rfl rfl rfl (s_move rfl rfl) ?_
         refine r_end ?_
         refine g_sub [(1, .ptr (.int .i64 t1_a1)), (48, .lst (r_4.map (D.int .i64))), (49, .int .i64 (r_4.length : Int)), (50, .int .i64 ((i_5 + 1 : Nat) : Int))] (Sub.cons' rfl (Sub.cons' rfl (Sub.cons' rfl (Sub.cons' rfl (Sub.nil _))))) ?_
         exact IH2 _ _ _ (by omega) ⟨(i_5 + 1), rfl, rfl, rfl, (by omega), hr⟩
     ·
      refine g_sub [(0, .ptr (.lst (t0_a0.map encG))), (1, .ptr (.int .i64 t1_a1)), (34, .lst (t0_a0.map encG)), (35, .int .i64 (t0_a0.length : Int)), (36, .int .i64 ((0 : Nat) : Int))] (Sub.cons' rfl (Sub.cons' rfl (Sub.cons' rfl (Sub.cons' rfl (Sub.cons' rfl (Sub.nil _)))))) ?_
      refine g_loop (fun n env σ => ∃ (i_3 : Nat), (n = t0_a0.length - i_3) ∧ (env = [(0, .ptr (.lst (t0_a0.map encG))), (1, .ptr (.int .i64 t1_a1)), (34, .lst (t0_a0.map encG)), (35, .int .i64 (t0_a0.length : Int)), (36, .int .i64 (i_3 : Int))]) ∧ (σ = []) ∧ (i_3 ≤ t0_a0.length) ∧ (lf_scope_CheckQuery_1_L1 kk1 (t0_a0.drop i_3) = some res)) _ ⟨0, rfl, rfl, rfl, Nat.zero_le _, hr⟩ ?_
      rintro n _ _ ⟨i_3, rfl, rfl, rfl, hi1, hr⟩ IH1
      rcases listStep t0_a0 i_3 hi1 with ⟨ht1, hd1, he1⟩ | ⟨q_8, ht1, hd1, hq1, hlt1⟩
      ·
       rw [hd1, lf_scope_CheckQuery_1_L1] at hr
       refine g_seq ?_
       refine g_run (by kernel_rfl) [(0, .d)] rfl ?_
       refine r_d rfl rfl rfl (s_cmp rfl rfl rfl rfl) ?_
       refine r_end ?_
       refine g_seq ?_
       refine g_known 37 false rfl ht1 ?_
       refine g_condF rfl ?_
       refine g_exit rfl ?_
       refine g_sub [(0, .ptr (.lst (t0_a0.map encG))), (1, .ptr (.int .i64 t1_a1))] (Sub.cons' rfl (Sub.cons' rfl (Sub.nil _))) ?_
       exact HK1 _ _ ⟨rfl, rfl, hr⟩
      ·
       rw [hd1, lf_scope_CheckQuery_1_L1] at hr
       refine g_seq ?_
       refine g_run (by kernel_rfl) [(0, .d)] rfl ?_
       refine r_d rfl rfl rfl (s_cmp rfl rfl rfl rfl) ?_
       refine r_end ?_
       refine g_seq ?_
       refine g_known 37 true rfl ht1 ?_
       refine g_condT rfl ?_
       refine g_skip ?_
       refine g_seq ?_
       refine g_block ?_
       refine g_seq ?_
       refine g_run (by kernel_rfl) [(0, .d), (1, .d), (2, .w), (3, .w)] rfl ?_
       refine r_d rfl rfl rfl (m_index (f := encG) t0_a0 rfl el_L_api_Goal rfl (asl rfl) rfl hq1 sz_encG rfl) ?_
       refine r_d rfl rfl rfl (s_load rfl rfl (by exact ty_api_Goal) (sz_encG _)) ?_
       refine r_w rfl rfl rfl (s_alloc rfl zv_api_Goal) ?_
       rintro _ _ ⟨b6_8, rfl, rfl⟩
       refine r_w01 rfl rfl rfl (t_store0 _ rfl rfl rfl (Wk.refl _) (pf0 _) (by exact ty_api_Goal) (sz_encG _) rfl rfl) ?_
       refine r_end ?_
       refine g_freeze 6 b6_8 rfl (pf0 _) ?_
       refine g_run (by kernel_rfl) [(0, .d), (1, .d), (2, .d), (3, .d), (4, .d)] rfl ?_
       refine r_d rfl rfl rfl (s_fieldAddr rfl fl_api_Goal_0 rfl rfl rfl rfl) ?_
       refine r_d rfl rfl rfl (s_load rfl rfl (by exact ty_int) rfl) ?_
       obtain ⟨r_10, hr_10, hr⟩ := bindS hr
       refine r_d rfl rfl rfl (s_callD rfl cl_scope_test (.cons rfl (Wk.refl _) .nil) (lg_scope_test _ _ hr_10)) ?_
       refine r_d rfl rfl rfl (s_not rfl rfl) ?_
       rcases bindXS hr with ⟨c_r_11, hr_11, rfl⟩ | ⟨r_11, hr_11, hr⟩
       ·
        refine r_die rfl rfl (s_callX _ rfl cl_scope_need (.cons rfl (Wk.refl _) (.cons rfl (Wk.refl _) .nil)) (by exact (List.Perm.refl _)) (specX_inl (lg_scope_need _ _ _ hr_11))) (hX _ ⟨_, rfl, rfl⟩)
       ·
        refine r_d rfl rfl rfl (s_callD rfl cl_scope_need (.cons rfl (Wk.refl _) (.cons rfl (Wk.refl _) .nil)) (specX_inr (lg_scope_need _ _ _ hr_11))) ?_
        refine r_end ?_
        refine g_inBlock ?_
        refine g_run (by kernel_rfl) [(0, .d), (1, .d)] rfl ?_
        refine r_d rfl rfl rfl (s_ar (r := ((i_3 + 1 : Nat) : Int)) rfl rfl rfl (by simp [iar]) (by omega)) ?_
        refine r_d rfl rfl rfl (s_move rfl rfl) ?_
        refine r_end ?_
        refine g_sub [(0, .ptr (.lst (t0_a0.map encG))), (1, .ptr (.int .i64 t1_a1)), (34, .lst (t0_a0.map encG)), (35, .int .i64 (t0_a0.length : Int)), (36, .int .i64 ((i_3 + 1 : Nat) : Int))] (Sub.cons' rfl (Sub.cons' rfl (Sub.cons' rfl (Sub.cons' rfl (Sub.cons' rfl (Sub.nil _)))))) ?_
        exact IH1 _ _ _ (by omega) ⟨(i_3 + 1), rfl, rfl, rfl, (by omega), hr⟩
   ·
    refine g_sub [(0, .ptr (.lst (t0_a0.map encG))), (1, .ptr (.int .i64 t1_a1)), (2, .ptr (.lst (t2_a2.map enc_S_api_Decl))), (21, .lst (t0_a0.map encG)), (22, .int .i64 (t0_a0.length : Int)), (23, .int .i64 ((0 : Nat) : Int))] (Sub.cons' rfl (Sub.cons' rfl (Sub.cons' rfl (Sub.cons' rfl (Sub.cons' rfl (Sub.cons' rfl (Sub.nil _))))))) ?_
    refine g_loop (fun n env σ => ∃ (i_1 : Nat), (n = t0_a0.length - i_1) ∧ (env = [(0, .ptr (.lst (t0_a0.map encG))), (1, .ptr (.int .i64 t1_a1)), (2, .ptr (.lst (t2_a2.map enc_S_api_Decl))), (21, .lst (t0_a0.map encG)), (22, .int .i64 (t0_a0.length : Int)), (23, .int .i64 (i_1 : Int))]) ∧ (σ = []) ∧ (i_1 ≤ t0_a0.length) ∧ (lf_scope_CheckQuery_1_L0 kk0 (t0_a0.drop i_1) = some res)) _ ⟨0, rfl, rfl, rfl, Nat.zero_le _, hr⟩ ?_
    rintro n _ _ ⟨i_1, rfl, rfl, rfl, hi0, hr⟩ IH0
    rcases listStep t0_a0 i_1 hi0 with ⟨ht0, hd0, he0⟩ | ⟨q_12, ht0, hd0, hq0, hlt0⟩
    ·
     rw [hd0, lf_scope_CheckQuery_1_L0] at hr
     refine g_seq ?_
     refine g_run (by kernel_rfl) [(0, .d)] rfl ?_
     refine r_d rfl rfl rfl (s_cmp rfl rfl rfl rfl) ?_
     refine r_end ?_
     refine g_seq ?_
     refine g_known 24 false rfl ht0 ?_
     refine g_condF rfl ?_
     refine g_exit rfl ?_
     refine g_sub [(0, .ptr (.lst (t0_a0.map encG))), (1, .ptr (.int .i64 t1_a1)), (2, .ptr (.lst (t2_a2.map enc_S_api_Decl)))] (Sub.cons' rfl (Sub.cons' rfl (Sub.cons' rfl (Sub.nil _)))) ?_
     exact HK0 _ _ ⟨rfl, rfl, hr⟩
    ·
     rw [hd0, lf_scope_CheckQuery_1_L0] at hr
     refine g_seq ?_
     refine g_run (by kernel_rfl) [(0, .d)] rfl ?_
     refine r_d rfl rfl rfl (s_cmp rfl rfl rfl rfl) ?_
     refine r_end ?_
     refine g_seq ?_
     refine g_known 24 true rfl ht0 ?_
     refine g_condT rfl ?_
     refine g_skip ?_
     refine g_seq ?_
     refine g_block ?_
     refine g_seq ?_
     refine g_run (by kernel_rfl) [(0, .d), (1, .d), (2, .w), (3, .w)] rfl ?_
     refine r_d rfl rfl rfl (m_index (f := encG) t0_a0 rfl el_L_api_Goal rfl (asl rfl) rfl hq0 sz_encG rfl) ?_
     refine r_d rfl rfl rfl (s_load rfl rfl (by exact ty_api_Goal) (sz_encG _)) ?_
     refine r_w rfl rfl rfl (s_alloc rfl zv_api_Goal) ?_
     rintro _ _ ⟨b4_12, rfl, rfl⟩
     refine r_w01 rfl rfl rfl (t_store0 _ rfl rfl rfl (Wk.refl _) (pf0 _) (by exact ty_api_Goal) (sz_encG _) rfl rfl) ?_
     refine r_end ?_
     refine g_freeze 4 b4_12 rfl (pf0 _) ?_
     refine g_run (by kernel_rfl) [(0, .d), (1, .d), (2, .d)] rfl ?_
     refine r_d rfl rfl rfl (s_load rfl rfl (by exact ty_api_Goal) (sz_encG _)) ?_
     obtain ⟨r_14, hr_14, hr⟩ := bindS hr
     refine r_d rfl rfl rfl (s_callD rfl cl_term_RightGoal (.cons rfl (Wk.refl _) .nil) (lx_term_RightGoal _ _ hr_14)) ?_
     rcases bindXS hr with ⟨c_r_15, hr_15, rfl⟩ | ⟨r_15, hr_15, hr⟩
     ·
      refine r_die rfl rfl (s_callX _ rfl cl_scope_need (.cons rfl (Wk.refl _) (.cons rfl (Wk.refl _) .nil)) (by exact (List.Perm.refl _)) (specX_inl (lg_scope_need _ _ _ hr_15))) (hX _ ⟨_, rfl, rfl⟩)
     ·
      refine r_d rfl rfl rfl (s_callD rfl cl_scope_need (.cons rfl (Wk.refl _) (.cons rfl (Wk.refl _) .nil)) (specX_inr (lg_scope_need _ _ _ hr_15))) ?_
      refine r_end ?_
      refine g_inBlock ?_
      refine g_run (by kernel_rfl) [(0, .d), (1, .d)] rfl ?_
      refine r_d rfl rfl rfl (s_ar (r := ((i_1 + 1 : Nat) : Int)) rfl rfl rfl (by simp [iar]) (by omega)) ?_
      refine r_d rfl rfl rfl (s_move rfl rfl) ?_
      refine r_end ?_
      refine g_sub [(0, .ptr (.lst (t0_a0.map encG))), (1, .ptr (.int .i64 t1_a1)), (2, .ptr (.lst (t2_a2.map enc_S_api_Decl))), (21, .lst (t0_a0.map encG)), (22, .int .i64 (t0_a0.length : Int)), (23, .int .i64 ((i_1 + 1 : Nat) : Int))] (Sub.cons' rfl (Sub.cons' rfl (Sub.cons' rfl (Sub.cons' rfl (Sub.cons' rfl (Sub.cons' rfl (Sub.nil _))))))) ?_
      exact IH0 _ _ _ (by omega) ⟨(i_1 + 1), rfl, rfl, rfl, (by omega), hr⟩
  ·
   unfold lf_scope_CheckQuery_1_J0 at hr
   refine g_run (by kernel_rfl) [(0, .d), (1, .d), (2, .d), (3, .d), (4, .d), (5, .d), (6, .d), (7, .d), (8, .d), (9, .d), (10, .d), (11, .d)] rfl ?_
   refine r_d rfl rfl rfl (s_load rfl rfl (by exact ty_L_api_Goal) rfl) ?_
   refine r_d rfl rfl rfl (m_len (f := encG) t0_a0 rfl el_L_api_Goal rfl (asl rfl)) ?_
   refine r_d rfl rfl rfl (s_cmp rfl rfl rfl rfl) ?_
   refine r_d rfl rfl rfl (s_move rfl rfl) ?_
   refine r_sB 12 rfl hr (fun h12_15 hr => ?_) (fun h12_15 hr => ?_)
   ·
    refine r_d rfl rfl rfl (s_load rfl rfl (by exact ty_int) rfl) ?_
    refine r_d rfl rfl rfl (s_cmp rfl rfl rfl rfl) ?_
    refine r_d rfl rfl rfl (s_pickT rfl rfl rfl) ?_
    refine r_d rfl rfl rfl (s_move rfl rfl) ?_
    refine r_sB 16 rfl hr (fun h16_16 hr => ?_) (fun h16_16 hr => ?_)
    ·
     refine r_d rfl rfl rfl (s_load rfl rfl (by exact ty_int) rfl) ?_
     refine r_d rfl rfl rfl (s_cmp rfl rfl rfl rfl) ?_
     refine r_d rfl rfl rfl (s_pickT rfl rfl rfl) ?_
     rcases bindXS hr with ⟨c_r_18, hr_18, rfl⟩ | ⟨r_18, hr_18, hr⟩
     ·
      refine r_die rfl rfl (s_callX _ rfl cl_scope_need (.cons rfl (Wk.refl _) (.cons rfl (Wk.refl _) .nil)) (by exact (List.Perm.refl _)) (specX_inl (lg_scope_need _ _ _ hr_18))) (hX _ ⟨_, rfl, rfl⟩)
     ·
      refine r_d rfl rfl rfl (s_callD rfl cl_scope_need (.cons rfl (Wk.refl _) (.cons rfl (Wk.refl _) .nil)) (specX_inr (lg_scope_need _ _ _ hr_18))) ?_
      refine r_end ?_
      refine g_sub [(0, .ptr (.lst (t0_a0.map encG))), (1, .ptr (.int .i64 t1_a1)), (2, .ptr (.lst (t2_a2.map enc_S_api_Decl)))] (Sub.cons' rfl (Sub.cons' rfl (Sub.cons' rfl (Sub.nil _)))) ?_
      exact HKJ0 _ _ ⟨rfl, rfl, hr⟩
    ·
     refine r_skip rfl rfl rfl ?_
     refine r_skip rfl rfl rfl ?_
     refine r_d rfl rfl rfl (s_pickF rfl rfl rfl) ?_
     rcases bindXS hr with ⟨c_r_19, hr_19, rfl⟩ | ⟨r_19, hr_19, hr⟩
     ·
      refine r_die rfl rfl (s_callX _ rfl cl_scope_need (.cons rfl (Wk.refl _) (.cons rfl (Wk.refl _) .nil)) (by exact (List.Perm.refl _)) (specX_inl (lg_scope_need _ _ _ hr_19))) (hX _ ⟨_, rfl, rfl⟩)
     ·
      refine r_d rfl rfl rfl (s_callD rfl cl_scope_need (.cons rfl (Wk.refl _) (.cons rfl (Wk.refl _) .nil)) (specX_inr (lg_scope_need _ _ _ hr_19))) ?_
      refine r_end ?_
      refine g_sub [(0, .ptr (.lst (t0_a0.map encG))), (1, .ptr (.int .i64 t1_a1)), (2, .ptr (.lst (t2_a2.map enc_S_api_Decl)))] (Sub.cons' rfl (Sub.cons' rfl (Sub.cons' rfl (Sub.nil _)))) ?_
      exact HKJ0 _ _ ⟨rfl, rfl, hr⟩
   ·
    refine r_skip rfl rfl rfl ?_
    refine r_skip rfl rfl rfl ?_
    refine r_d rfl rfl rfl (s_pickF rfl rfl rfl) ?_
    refine r_d rfl rfl rfl (s_move rfl rfl) ?_
    refine r_skip rfl rfl rfl ?_
    refine r_skip rfl rfl rfl ?_
    refine r_d rfl rfl rfl (s_pickF rfl rfl rfl) ?_
    rcases bindXS hr with ⟨c_r_20, hr_20, rfl⟩ | ⟨r_20, hr_20, hr⟩
    ·
     refine r_die rfl rfl (s_callX _ rfl cl_scope_need (.cons rfl (Wk.refl _) (.cons rfl (Wk.refl _) .nil)) (by exact (List.Perm.refl _)) (specX_inl (lg_scope_need _ _ _ hr_20))) (hX _ ⟨_, rfl, rfl⟩)
    ·
     refine r_d rfl rfl rfl (s_callD rfl cl_scope_need (.cons rfl (Wk.refl _) (.cons rfl (Wk.refl _) .nil)) (specX_inr (lg_scope_need _ _ _ hr_20))) ?_
     refine r_end ?_
     refine g_sub [(0, .ptr (.lst (t0_a0.map encG))), (1, .ptr (.int .i64 t1_a1)), (2, .ptr (.lst (t2_a2.map enc_S_api_Decl)))] (Sub.cons' rfl (Sub.cons' rfl (Sub.cons' rfl (Sub.nil _)))) ?_
     exact HKJ0 _ _ ⟨rfl, rfl, hr⟩

noncomputable def lf_scope_CheckQuery (decls_a0 : (List S_api_Decl)) (l_a1 : (List Gl)) (vars_a2 : Int) : Option (Int) :=
  ((lf_scope_CheckQuery_1 l_a1 vars_a2 decls_a0).bind fun r_1 =>
  some ((caughtV r_1)))

set_option maxHeartbeats 1000000 in
theorem lg_scope_CheckQuery (decls_a0 : (List S_api_Decl)) (l_a1 : (List Gl)) (vars_a2 : Int) (res : Int) (hr : lf_scope_CheckQuery decls_a0 l_a1 vars_a2 = some res) : Gives Try.prog 16 [.lst (decls_a0.map enc_S_api_Decl), .lst (l_a1.map encG), .int .i64 vars_a2] (.int .i64 res) := by
  unfold lf_scope_CheckQuery at hr
  refine spec_env [(0, .lst (decls_a0.map enc_S_api_Decl)), (1, .lst (l_a1.map encG)), (2, .int .i64 vars_a2)] Try.func16 rfl rfl fun K hK => ?_
  refine g_seq ?_
  refine g_run (by kernel_rfl) [(0, .d), (1, .d), (2, .d), (3, .d)] rfl ?_
  refine r_d rfl rfl rfl (s_box rfl rfl rfl) ?_
  refine r_d rfl rfl rfl (s_box rfl rfl rfl) ?_
  refine r_d rfl rfl rfl (s_box rfl rfl rfl) ?_
  refine r_d rfl rfl rfl (s_assign rfl rfl) ?_
  refine r_end ?_
  refine g_seq ?_
  refine g_run (by kernel_rfl) [(0, .d), (1, .d), (2, .d)] rfl ?_
  refine r_d rfl rfl rfl (s_makeFunc rfl rfl rfl) ?_
  obtain ⟨r_1, hr_1, hr⟩ := bindS hr
  refine r_d rfl rfl rfl (s_callD rfl cl_scope_caught (.cons rfl (Wk.refl _) .nil) (caught_gives rfl cl_scope_CheckQuery_1 (lg_scope_CheckQuery_1 _ _ _ _ hr_1))) ?_
  refine r_d rfl rfl rfl (s_assign rfl rfl) ?_
  refine r_end ?_
  obtain rfl := Option.some.inj hr
  refine g_ret Try.func16 _ (.cons (resTmp rfl (Wk.refl _)) .nil) ?_
  rfl

noncomputable def lf_constraintlaw15_live : Option (Bool) :=
  (lf_constraintlaw15_rule.bind fun r_1 =>
  ((lf_scope_Check (⟨[(⟨⟨#[112]⟩, 1⟩ : S_api_Decl)], [r_1]⟩ : S_api_Program)).bind fun r_2 =>
  ((lf_scope_Check (⟨[], [r_1]⟩ : S_api_Program)).bind fun r_3 =>
  (bif (r_2.1 == (0 : Int)) then
  (bif (r_2.2 == (0 : Int)) then
  (bif (r_3.1 == (0 : Int)) then
  (bif (r_3.2 == (7 : Int)) then
  ((lf_scope_Locals r_1).bind fun r_8 =>
  ((lf_constraintref03_SameInts r_8 [1]).bind fun r_9 =>
  (bif r_9 then
  ((lf_scope_Declared [(⟨⟨#[112]⟩, 1⟩ : S_api_Decl)] ⟨#[112]⟩ 1).bind fun r_11 =>
  (bif r_11 then
  ((lf_scope_CheckQuery [(⟨⟨#[112]⟩, 1⟩ : S_api_Decl)] [(⟨0, ⟨#[112]⟩, []⟩ : Gl)] 0).bind fun r_13 =>
  some ((r_13 == (9 : Int))))
  else
  some (false)))
  else
  some (false))))
  else
  some (false))
  else
  some (false))
  else
  some (false))
  else
  some (false)))))

set_option maxHeartbeats 1000000 in
theorem lg_constraintlaw15_live (res : Bool) (hr : lf_constraintlaw15_live = some res) : Gives Try.prog 12 [] (.bool res) := by
  unfold lf_constraintlaw15_live at hr
  refine spec_env [] Try.func12 rfl rfl fun K hK => ?_
  refine g_seq ?_
  refine g_run (by kernel_rfl) [(0, .d)] rfl ?_
  refine r_d rfl rfl rfl (s_assign rfl rfl) ?_
  refine r_end ?_
  refine g_seq ?_
  refine g_run (by kernel_rfl) [(0, .d), (1, .d), (2, .d)] rfl ?_
  refine r_d rfl rfl rfl (s_build rfl bt_api_Decl (.cons rfl (Wk.refl _) (.cons rfl (Wk.refl _) .nil)) (.cons rfl rfl rfl (.cons rfl rfl rfl (.nil _)))) ?_
  refine r_d rfl rfl rfl (m_lit (f := enc_S_api_Decl) [.tmp 6] [(⟨⟨#[112]⟩, 1⟩ : S_api_Decl)] rfl el_L_api_Decl rfl rfl (by decide) (by decide) (.cons rfl (Wk.refl _) .nil) sz_S_api_Decl (fun _ => rfl)) ?_
  refine r_d rfl rfl rfl (s_assign rfl rfl) ?_
  refine r_end ?_
  refine g_seq ?_
  refine g_run (by kernel_rfl) [(0, .d), (1, .d), (2, .d), (3, .d), (4, .d), (5, .d), (6, .d), (7, .d), (8, .d), (9, .d)] rfl ?_
  refine r_d rfl rfl rfl (s_move rfl rfl) ?_
  obtain ⟨r_1, hr_1, hr⟩ := bindS hr
  refine r_d rfl rfl rfl (s_callD rfl cl_constraintlaw15_rule .nil (lg_constraintlaw15_rule _ hr_1)) ?_
  refine r_d rfl rfl rfl (m_lit (f := enc_S_api_Rule) [.tmp 10] [r_1] rfl el_L_api_Rule rfl rfl (by decide) (by decide) (.cons rfl (Wk.refl _) .nil) sz_S_api_Rule (fun _ => rfl)) ?_
  refine r_d rfl rfl rfl (s_build rfl bt_api_Program (.cons rfl (Wk.full _) (.cons rfl (Wk.full _) .nil)) (.cons rfl rfl rfl (.cons rfl rfl rfl (.nil _)))) ?_
  obtain ⟨r_2, hr_2, hr⟩ := bindS hr
  refine r_d rfl rfl rfl (s_callD rfl cl_scope_Check (.cons rfl (Wk.refl _) .nil) (lg_scope_Check _ _ hr_2)) ?_
  refine r_d rfl rfl rfl (s_move rfl rfl) ?_
  refine r_d rfl rfl rfl (s_extract rfl rfl rfl) ?_
  refine r_d rfl rfl rfl (s_extract rfl rfl rfl) ?_
  refine r_d rfl rfl rfl (s_assign rfl rfl) ?_
  refine r_d rfl rfl rfl (s_assign rfl rfl) ?_
  refine r_end ?_
  refine g_seq ?_
  refine g_run (by kernel_rfl) [(0, .d), (1, .d), (2, .d), (3, .d), (4, .d), (5, .d), (6, .d), (7, .d), (8, .d)] rfl ?_
  refine r_d rfl rfl rfl (s_callD rfl cl_constraintlaw15_rule .nil (lg_constraintlaw15_rule _ hr_1)) ?_
  refine r_d rfl rfl rfl (m_lit (f := enc_S_api_Rule) [.tmp 17] [r_1] rfl el_L_api_Rule rfl rfl (by decide) (by decide) (.cons rfl (Wk.refl _) .nil) sz_S_api_Rule (fun _ => rfl)) ?_
  refine r_d rfl rfl rfl (s_build rfl bt_api_Program (.cons rfl (Wk.full _) .nil) (.cons rfl rfl rfl (.nil _))) ?_
  obtain ⟨r_3, hr_3, hr⟩ := bindS hr
  refine r_d rfl rfl rfl (s_callD rfl cl_scope_Check (.cons rfl (Wk.refl _) .nil) (lg_scope_Check _ _ hr_3)) ?_
  refine r_d rfl rfl rfl (s_move rfl rfl) ?_
  refine r_d rfl rfl rfl (s_extract rfl rfl rfl) ?_
  refine r_d rfl rfl rfl (s_extract rfl rfl rfl) ?_
  refine r_d rfl rfl rfl (s_assign rfl rfl) ?_
  refine r_d rfl rfl rfl (s_assign rfl rfl) ?_
  refine r_end ?_
  refine g_seq ?_
  refine g_run (by kernel_rfl) [(0, .d), (1, .d), (2, .d), (3, .d), (4, .d), (5, .d), (6, .d), (7, .d), (8, .d), (9, .d), (10, .d), (11, .d), (12, .d), (13, .d), (14, .d), (15, .d), (16, .d), (17, .d), (18, .d), (19, .d), (20, .d), (21, .d), (22, .d), (23, .d), (24, .d), (25, .d), (26, .d), (27, .d), (28, .d), (29, .d), (30, .d), (31, .d)] rfl ?_
  refine r_d rfl rfl rfl (s_move rfl rfl) ?_
  refine r_d rfl rfl rfl (s_cmp rfl rfl rfl rfl) ?_
  refine r_d rfl rfl rfl (s_move rfl rfl) ?_
  refine r_sB 25 rfl hr (fun h25_3 hr => ?_) (fun h25_3 hr => ?_)
  ·
   refine r_d rfl rfl rfl (s_move rfl rfl) ?_
   refine r_d rfl rfl rfl (s_cmp rfl rfl rfl rfl) ?_
   refine r_d rfl rfl rfl (s_pickT rfl rfl rfl) ?_
   refine r_d rfl rfl rfl (s_move rfl rfl) ?_
   refine r_sB 29 rfl hr (fun h29_4 hr => ?_) (fun h29_4 hr => ?_)
   ·
    refine r_d rfl rfl rfl (s_move rfl rfl) ?_
    refine r_d rfl rfl rfl (s_cmp rfl rfl rfl rfl) ?_
    refine r_d rfl rfl rfl (s_pickT rfl rfl rfl) ?_
    refine r_d rfl rfl rfl (s_move rfl rfl) ?_
    refine r_sB 33 rfl hr (fun h33_5 hr => ?_) (fun h33_5 hr => ?_)
    ·
     refine r_d rfl rfl rfl (s_move rfl rfl) ?_
     refine r_d rfl rfl rfl (s_cmp rfl rfl rfl rfl) ?_
     refine r_d rfl rfl rfl (s_pickT rfl rfl rfl) ?_
     refine r_d rfl rfl rfl (s_move rfl rfl) ?_
     refine r_sB 37 rfl hr (fun h37_6 hr => ?_) (fun h37_6 hr => ?_)
     ·
      refine r_d rfl rfl rfl (s_callD rfl cl_constraintlaw15_rule .nil (lg_constraintlaw15_rule _ hr_1)) ?_
      obtain ⟨r_8, hr_8, hr⟩ := bindS hr
      refine r_d rfl rfl rfl (s_callD rfl cl_scope_Locals (.cons rfl (Wk.refl _) .nil) (lg_scope_Locals _ _ hr_8)) ?_
      refine r_d rfl rfl rfl (m_lit (f := (D.int .i64)) [.const (.int .i64 (1))] [1] rfl el_L_int rfl rfl (by decide) (by decide) (.cons rfl (Wk.refl _) .nil) (fun _ => rfl) (fun _ => rfl)) ?_
      obtain ⟨r_9, hr_9, hr⟩ := bindS hr
      refine r_d rfl rfl rfl (by exact s_callD rfl cl_constraintref03_SameInts (.cons rfl (Wk.refl _) (.cons rfl (Wk.full _) .nil)) (lg_constraintref03_SameInts _ _ _ hr_9)) ?_
      refine r_d rfl rfl rfl (s_pickT rfl rfl rfl) ?_
      refine r_d rfl rfl rfl (s_move rfl rfl) ?_
      refine r_sB 43 rfl hr (fun h43_9 hr => ?_) (fun h43_9 hr => ?_)
      ·
       refine r_d rfl rfl rfl (s_move rfl rfl) ?_
       obtain ⟨r_11, hr_11, hr⟩ := bindS hr
       refine r_d rfl rfl rfl (by exact s_callD rfl cl_scope_Declared (.cons rfl (Wk.full _) (.cons rfl (Wk.refl _) (.cons rfl (Wk.refl _) .nil))) (lg_scope_Declared _ _ _ _ hr_11)) ?_
       refine r_d rfl rfl rfl (s_pickT rfl rfl rfl) ?_
       refine r_d rfl rfl rfl (s_move rfl rfl) ?_
       refine r_sB 47 rfl hr (fun h47_11 hr => ?_) (fun h47_11 hr => ?_)
       ·
        refine r_d rfl rfl rfl (s_move rfl rfl) ?_
        refine r_d rfl rfl rfl (s_build rfl bt_api_Goal (.cons rfl (Wk.refl _) .nil) (.cons rfl rfl rfl (.nil _))) ?_
        refine r_d rfl rfl rfl (m_lit (f := encG) [.tmp 49] [(⟨0, ⟨#[112]⟩, []⟩ : Gl)] rfl el_L_api_Goal rfl rfl (by decide) (by decide) (.cons rfl (Wk.refl _) .nil) sz_encG (fun _ => rfl)) ?_
        obtain ⟨r_13, hr_13, hr⟩ := bindS hr
        refine r_d rfl rfl rfl (by exact s_callD rfl cl_scope_CheckQuery (.cons rfl (Wk.full _) (.cons rfl (Wk.full _) (.cons rfl (Wk.refl _) .nil))) (lg_scope_CheckQuery _ _ _ _ hr_13)) ?_
        refine r_d rfl rfl rfl (s_cmp rfl rfl rfl rfl) ?_
        refine r_d rfl rfl rfl (s_pickT rfl rfl rfl) ?_
        refine r_d rfl rfl rfl (s_assign rfl rfl) ?_
        refine r_end ?_
        obtain rfl := Option.some.inj hr
        refine g_ret Try.func12 _ (.cons (resTmp rfl (Wk.refl _)) .nil) ?_
        rfl
       ·
        refine r_skip rfl rfl rfl ?_
        refine r_skip rfl rfl rfl ?_
        refine r_skip rfl rfl rfl ?_
        refine r_skip rfl rfl rfl ?_
        refine r_skip rfl rfl rfl ?_
        refine r_d rfl rfl rfl (s_pickF rfl rfl rfl) ?_
        refine r_d rfl rfl rfl (s_assign rfl rfl) ?_
        refine r_end ?_
        obtain rfl := Option.some.inj hr
        refine g_ret Try.func12 _ (.cons (resTmp rfl (Wk.refl _)) .nil) ?_
        rfl
      ·
       refine r_skip rfl rfl rfl ?_
       refine r_skip rfl rfl rfl ?_
       refine r_d rfl rfl rfl (s_pickF rfl rfl rfl) ?_
       refine r_d rfl rfl rfl (s_move rfl rfl) ?_
       refine r_skip rfl rfl rfl ?_
       refine r_skip rfl rfl rfl ?_
       refine r_skip rfl rfl rfl ?_
       refine r_skip rfl rfl rfl ?_
       refine r_skip rfl rfl rfl ?_
       refine r_d rfl rfl rfl (s_pickF rfl rfl rfl) ?_
       refine r_d rfl rfl rfl (s_assign rfl rfl) ?_
       refine r_end ?_
       obtain rfl := Option.some.inj hr
       refine g_ret Try.func12 _ (.cons (resTmp rfl (Wk.refl _)) .nil) ?_
       rfl
     ·
      refine r_skip rfl rfl rfl ?_
      refine r_skip rfl rfl rfl ?_
      refine r_skip rfl rfl rfl ?_
      refine r_skip rfl rfl rfl ?_
      refine r_d rfl rfl rfl (s_pickF rfl rfl rfl) ?_
      refine r_d rfl rfl rfl (s_move rfl rfl) ?_
      refine r_skip rfl rfl rfl ?_
      refine r_skip rfl rfl rfl ?_
      refine r_d rfl rfl rfl (s_pickF rfl rfl rfl) ?_
      refine r_d rfl rfl rfl (s_move rfl rfl) ?_
      refine r_skip rfl rfl rfl ?_
      refine r_skip rfl rfl rfl ?_
      refine r_skip rfl rfl rfl ?_
      refine r_skip rfl rfl rfl ?_
      refine r_skip rfl rfl rfl ?_
      refine r_d rfl rfl rfl (s_pickF rfl rfl rfl) ?_
      refine r_d rfl rfl rfl (s_assign rfl rfl) ?_
      refine r_end ?_
      obtain rfl := Option.some.inj hr
      refine g_ret Try.func12 _ (.cons (resTmp rfl (Wk.refl _)) .nil) ?_
      rfl
    ·
     refine r_skip rfl rfl rfl ?_
     refine r_skip rfl rfl rfl ?_
     refine r_d rfl rfl rfl (s_pickF rfl rfl rfl) ?_
     refine r_d rfl rfl rfl (s_move rfl rfl) ?_
     refine r_skip rfl rfl rfl ?_
     refine r_skip rfl rfl rfl ?_
     refine r_skip rfl rfl rfl ?_
     refine r_skip rfl rfl rfl ?_
     refine r_d rfl rfl rfl (s_pickF rfl rfl rfl) ?_
     refine r_d rfl rfl rfl (s_move rfl rfl) ?_
     refine r_skip rfl rfl rfl ?_
     refine r_skip rfl rfl rfl ?_
     refine r_d rfl rfl rfl (s_pickF rfl rfl rfl) ?_
     refine r_d rfl rfl rfl (s_move rfl rfl) ?_
     refine r_skip rfl rfl rfl ?_
     refine r_skip rfl rfl rfl ?_
     refine r_skip rfl rfl rfl ?_
     refine r_skip rfl rfl rfl ?_
     refine r_skip rfl rfl rfl ?_
     refine r_d rfl rfl rfl (s_pickF rfl rfl rfl) ?_
     refine r_d rfl rfl rfl (s_assign rfl rfl) ?_
     refine r_end ?_
     obtain rfl := Option.some.inj hr
     refine g_ret Try.func12 _ (.cons (resTmp rfl (Wk.refl _)) .nil) ?_
     rfl
   ·
    refine r_skip rfl rfl rfl ?_
    refine r_skip rfl rfl rfl ?_
    refine r_d rfl rfl rfl (s_pickF rfl rfl rfl) ?_
    refine r_d rfl rfl rfl (s_move rfl rfl) ?_
    refine r_skip rfl rfl rfl ?_
    refine r_skip rfl rfl rfl ?_
    refine r_d rfl rfl rfl (s_pickF rfl rfl rfl) ?_
    refine r_d rfl rfl rfl (s_move rfl rfl) ?_
    refine r_skip rfl rfl rfl ?_
    refine r_skip rfl rfl rfl ?_
    refine r_skip rfl rfl rfl ?_
    refine r_skip rfl rfl rfl ?_
    refine r_d rfl rfl rfl (s_pickF rfl rfl rfl) ?_
    refine r_d rfl rfl rfl (s_move rfl rfl) ?_
    refine r_skip rfl rfl rfl ?_
    refine r_skip rfl rfl rfl ?_
    refine r_d rfl rfl rfl (s_pickF rfl rfl rfl) ?_
    refine r_d rfl rfl rfl (s_move rfl rfl) ?_
    refine r_skip rfl rfl rfl ?_
    refine r_skip rfl rfl rfl ?_
    refine r_skip rfl rfl rfl ?_
    refine r_skip rfl rfl rfl ?_
    refine r_skip rfl rfl rfl ?_
    refine r_d rfl rfl rfl (s_pickF rfl rfl rfl) ?_
    refine r_d rfl rfl rfl (s_assign rfl rfl) ?_
    refine r_end ?_
    obtain rfl := Option.some.inj hr
    refine g_ret Try.func12 _ (.cons (resTmp rfl (Wk.refl _)) .nil) ?_
    rfl
  ·
   refine r_skip rfl rfl rfl ?_
   refine r_skip rfl rfl rfl ?_
   refine r_d rfl rfl rfl (s_pickF rfl rfl rfl) ?_
   refine r_d rfl rfl rfl (s_move rfl rfl) ?_
   refine r_skip rfl rfl rfl ?_
   refine r_skip rfl rfl rfl ?_
   refine r_d rfl rfl rfl (s_pickF rfl rfl rfl) ?_
   refine r_d rfl rfl rfl (s_move rfl rfl) ?_
   refine r_skip rfl rfl rfl ?_
   refine r_skip rfl rfl rfl ?_
   refine r_d rfl rfl rfl (s_pickF rfl rfl rfl) ?_
   refine r_d rfl rfl rfl (s_move rfl rfl) ?_
   refine r_skip rfl rfl rfl ?_
   refine r_skip rfl rfl rfl ?_
   refine r_skip rfl rfl rfl ?_
   refine r_skip rfl rfl rfl ?_
   refine r_d rfl rfl rfl (s_pickF rfl rfl rfl) ?_
   refine r_d rfl rfl rfl (s_move rfl rfl) ?_
   refine r_skip rfl rfl rfl ?_
   refine r_skip rfl rfl rfl ?_
   refine r_d rfl rfl rfl (s_pickF rfl rfl rfl) ?_
   refine r_d rfl rfl rfl (s_move rfl rfl) ?_
   refine r_skip rfl rfl rfl ?_
   refine r_skip rfl rfl rfl ?_
   refine r_skip rfl rfl rfl ?_
   refine r_skip rfl rfl rfl ?_
   refine r_skip rfl rfl rfl ?_
   refine r_d rfl rfl rfl (s_pickF rfl rfl rfl) ?_
   refine r_d rfl rfl rfl (s_assign rfl rfl) ?_
   refine r_end ?_
   obtain rfl := Option.some.inj hr
   refine g_ret Try.func12 _ (.cons (resTmp rfl (Wk.refl _)) .nil) ?_
   rfl

noncomputable def lf_constraintlaw15_ScopePrograms (fuel : Nat) (p_a0 : S_api_Program) : Option (Bool) :=
  ((lf_constraintref15_Great p_a0 300).bind fun r_1 =>
  (bif r_1 then
  some (true)
  else
  ((lf_scope_Check p_a0).bind fun r_3 =>
  ((lf_constraintref15_Check fuel p_a0).bind fun r_4 =>
  (bif (r_3.1 == r_4.1) then
  (bif (r_3.2 == r_4.2) then
  (lf_constraintlaw15_live.bind fun r_7 =>
  some (r_7))
  else
  some (false))
  else
  some (false))))))

set_option maxHeartbeats 1000000 in
theorem lg_constraintlaw15_ScopePrograms (fuel : Nat) (p_a0 : S_api_Program) (res : Bool) (hr : lf_constraintlaw15_ScopePrograms fuel p_a0 = some res) : Gives Try.prog 3 [enc_S_api_Program p_a0] (.bool res) := by
  unfold lf_constraintlaw15_ScopePrograms at hr
  refine spec_env [(0, enc_S_api_Program p_a0)] Try.func3 rfl rfl fun K hK => ?_
  refine g_seq ?_
  refine g_run (by kernel_rfl) [(0, .d), (1, .d)] rfl ?_
  refine r_d rfl rfl rfl (s_box rfl rfl rfl) ?_
  refine r_d rfl rfl rfl (s_assign rfl rfl) ?_
  refine r_end ?_
  refine g_seq ?_
  refine g_seq ?_
  refine g_run (by kernel_rfl) [(0, .d), (1, .d)] rfl ?_
  refine r_d rfl rfl rfl (s_load rfl rfl (by exact ty_api_Program) (sz_S_api_Program _)) ?_
  obtain ⟨r_1, hr_1, hr⟩ := bindS hr
  refine r_d rfl rfl rfl (s_callD rfl cl_constraintref15_Great (.cons rfl (Wk.refl _) (.cons rfl (Wk.refl _) .nil)) (lg_constraintref15_Great _ _ _ hr_1)) ?_
  refine r_end ?_
  refine g_sB 8 rfl hr (fun h8_1 hr => ?_) (fun h8_1 hr => ?_)
  ·
   refine g_condT rfl ?_
   refine g_seq ?_
   refine g_run (by kernel_rfl) [(0, .d)] rfl ?_
   refine r_d rfl rfl rfl (s_assign rfl rfl) ?_
   refine r_end ?_
   obtain rfl := Option.some.inj hr
   refine g_ret Try.func3 _ (.cons (resTmp rfl (Wk.refl _)) .nil) ?_
   rfl
  ·
   refine g_condF rfl ?_
   refine g_skip ?_
   refine g_seq ?_
   refine g_run (by kernel_rfl) [(0, .d), (1, .d), (2, .d), (3, .d), (4, .d), (5, .d), (6, .d)] rfl ?_
   refine r_d rfl rfl rfl (s_load rfl rfl (by exact ty_api_Program) (sz_S_api_Program _)) ?_
   obtain ⟨r_3, hr_3, hr⟩ := bindS hr
   refine r_d rfl rfl rfl (s_callD rfl cl_scope_Check (.cons rfl (Wk.refl _) .nil) (lg_scope_Check _ _ hr_3)) ?_
   refine r_d rfl rfl rfl (s_move rfl rfl) ?_
   refine r_d rfl rfl rfl (s_extract rfl rfl rfl) ?_
   refine r_d rfl rfl rfl (s_extract rfl rfl rfl) ?_
   refine r_d rfl rfl rfl (s_assign rfl rfl) ?_
   refine r_d rfl rfl rfl (s_assign rfl rfl) ?_
   refine r_end ?_
   refine g_seq ?_
   refine g_run (by kernel_rfl) [(0, .d), (1, .d), (2, .d), (3, .d), (4, .d), (5, .d), (6, .d)] rfl ?_
   refine r_d rfl rfl rfl (s_load rfl rfl (by exact ty_api_Program) (sz_S_api_Program _)) ?_
   obtain ⟨r_4, hr_4, hr⟩ := bindS hr
   refine r_d rfl rfl rfl (s_callD rfl cl_constraintref15_Check (.cons rfl (Wk.refl _) .nil) (lg_constraintref15_Check fuel _ _ hr_4)) ?_
   refine r_d rfl rfl rfl (s_move rfl rfl) ?_
   refine r_d rfl rfl rfl (s_extract rfl rfl rfl) ?_
   refine r_d rfl rfl rfl (s_extract rfl rfl rfl) ?_
   refine r_d rfl rfl rfl (s_assign rfl rfl) ?_
   refine r_d rfl rfl rfl (s_assign rfl rfl) ?_
   refine r_end ?_
   refine g_seq ?_
   refine g_run (by kernel_rfl) [(0, .d), (1, .d), (2, .d), (3, .d), (4, .d), (5, .d), (6, .d), (7, .d), (8, .d), (9, .d), (10, .d), (11, .d)] rfl ?_
   refine r_d rfl rfl rfl (s_move rfl rfl) ?_
   refine r_d rfl rfl rfl (s_move rfl rfl) ?_
   refine r_d rfl rfl rfl (s_cmp rfl rfl rfl rfl) ?_
   refine r_d rfl rfl rfl (s_move rfl rfl) ?_
   refine r_sB 22 rfl hr (fun h22_4 hr => ?_) (fun h22_4 hr => ?_)
   ·
    refine r_d rfl rfl rfl (s_move rfl rfl) ?_
    refine r_d rfl rfl rfl (s_move rfl rfl) ?_
    refine r_d rfl rfl rfl (s_cmp rfl rfl rfl rfl) ?_
    refine r_d rfl rfl rfl (s_pickT rfl rfl rfl) ?_
    refine r_d rfl rfl rfl (s_move rfl rfl) ?_
    refine r_sB 27 rfl hr (fun h27_5 hr => ?_) (fun h27_5 hr => ?_)
    ·
     obtain ⟨r_7, hr_7, hr⟩ := bindS hr
     refine r_d rfl rfl rfl (s_callD rfl cl_constraintlaw15_live .nil (lg_constraintlaw15_live _ hr_7)) ?_
     refine r_d rfl rfl rfl (s_pickT rfl rfl rfl) ?_
     refine r_d rfl rfl rfl (s_assign rfl rfl) ?_
     refine r_end ?_
     obtain rfl := Option.some.inj hr
     refine g_ret Try.func3 _ (.cons (resTmp rfl (Wk.refl _)) .nil) ?_
     rfl
    ·
     refine r_skip rfl rfl rfl ?_
     refine r_d rfl rfl rfl (s_pickF rfl rfl rfl) ?_
     refine r_d rfl rfl rfl (s_assign rfl rfl) ?_
     refine r_end ?_
     obtain rfl := Option.some.inj hr
     refine g_ret Try.func3 _ (.cons (resTmp rfl (Wk.refl _)) .nil) ?_
     rfl
   ·
    refine r_skip rfl rfl rfl ?_
    refine r_skip rfl rfl rfl ?_
    refine r_skip rfl rfl rfl ?_
    refine r_d rfl rfl rfl (s_pickF rfl rfl rfl) ?_
    refine r_d rfl rfl rfl (s_move rfl rfl) ?_
    refine r_skip rfl rfl rfl ?_
    refine r_d rfl rfl rfl (s_pickF rfl rfl rfl) ?_
    refine r_d rfl rfl rfl (s_assign rfl rfl) ?_
    refine r_end ?_
    obtain rfl := Option.some.inj hr
    refine g_ret Try.func3 _ (.cons (resTmp rfl (Wk.refl _)) .nil) ?_
    rfl

noncomputable def lf_constraintlaw15_ScopeRules (fuel : Nat) (decls_a0 : (List S_api_Decl)) (r_a1 : S_api_Rule) : Option (Bool) :=
  ((lf_constraintref15_Great (⟨decls_a0, [r_a1]⟩ : S_api_Program) 400).bind fun r_1 =>
  (bif r_1 then
  some (true)
  else
  ((lf_scope_CheckRule decls_a0 r_a1).bind fun r_3 =>
  ((lf_constraintref15_CheckRule fuel decls_a0 r_a1).bind fun r_4 =>
  (bif (r_3 == r_4) then
  (lf_constraintlaw15_live.bind fun r_6 =>
  some (r_6))
  else
  some (false))))))

set_option maxHeartbeats 1000000 in
theorem lg_constraintlaw15_ScopeRules (fuel : Nat) (decls_a0 : (List S_api_Decl)) (r_a1 : S_api_Rule) (res : Bool) (hr : lf_constraintlaw15_ScopeRules fuel decls_a0 r_a1 = some res) : Gives Try.prog 4 [.lst (decls_a0.map enc_S_api_Decl), enc_S_api_Rule r_a1] (.bool res) := by
  unfold lf_constraintlaw15_ScopeRules at hr
  refine spec_env [(0, .lst (decls_a0.map enc_S_api_Decl)), (1, enc_S_api_Rule r_a1)] Try.func4 rfl rfl fun K hK => ?_
  refine g_seq ?_
  refine g_run (by kernel_rfl) [(0, .d), (1, .d)] rfl ?_
  refine r_d rfl rfl rfl (s_box rfl rfl rfl) ?_
  refine r_d rfl rfl rfl (s_assign rfl rfl) ?_
  refine r_end ?_
  refine g_seq ?_
  refine g_seq ?_
  refine g_run (by kernel_rfl) [(0, .d), (1, .d), (2, .d), (3, .d), (4, .d)] rfl ?_
  refine r_d rfl rfl rfl (s_move rfl rfl) ?_
  refine r_d rfl rfl rfl (s_load rfl rfl (by exact ty_api_Rule) (sz_S_api_Rule _)) ?_
  refine r_d rfl rfl rfl (m_lit (f := enc_S_api_Rule) [.tmp 6] [r_a1] rfl el_L_api_Rule rfl rfl (by decide) (by decide) (.cons rfl (Wk.refl _) .nil) sz_S_api_Rule (fun _ => rfl)) ?_
  refine r_d rfl rfl rfl (s_build rfl bt_api_Program (.cons rfl (Wk.refl _) (.cons rfl (Wk.full _) .nil)) (.cons rfl rfl rfl (.cons rfl rfl rfl (.nil _)))) ?_
  obtain ⟨r_1, hr_1, hr⟩ := bindS hr
  refine r_d rfl rfl rfl (s_callD rfl cl_constraintref15_Great (.cons rfl (Wk.refl _) (.cons rfl (Wk.refl _) .nil)) (lg_constraintref15_Great _ _ _ hr_1)) ?_
  refine r_end ?_
  refine g_sB 9 rfl hr (fun h9_1 hr => ?_) (fun h9_1 hr => ?_)
  ·
   refine g_condT rfl ?_
   refine g_seq ?_
   refine g_run (by kernel_rfl) [(0, .d)] rfl ?_
   refine r_d rfl rfl rfl (s_assign rfl rfl) ?_
   refine r_end ?_
   obtain rfl := Option.some.inj hr
   refine g_ret Try.func4 _ (.cons (resTmp rfl (Wk.refl _)) .nil) ?_
   rfl
  ·
   refine g_condF rfl ?_
   refine g_skip ?_
   refine g_seq ?_
   refine g_any (by kernel_rfl) (by kernel_rfl) [(0, .d), (1, .d), (2, .d), (3, .d), (4, .d), (5, .d), (6, .d), (7, .d), (8, .d), (9, .d), (10, .d)] (by kernel_rfl) ?_
   refine r_d rfl rfl rfl (s_move rfl rfl) ?_
   refine r_d rfl rfl rfl (s_load rfl rfl (by exact ty_api_Rule) (sz_S_api_Rule _)) ?_
   obtain ⟨r_3, hr_3, hr⟩ := bindS hr
   refine r_d rfl rfl rfl (s_callD rfl cl_scope_CheckRule (.cons rfl (Wk.refl _) (.cons rfl (Wk.refl _) .nil)) (lg_scope_CheckRule _ _ _ hr_3)) ?_
   refine r_d rfl rfl rfl (s_move rfl rfl) ?_
   refine r_d rfl rfl rfl (s_load rfl rfl (by exact ty_api_Rule) (sz_S_api_Rule _)) ?_
   obtain ⟨r_4, hr_4, hr⟩ := bindS hr
   refine r_d rfl rfl rfl (s_callD rfl cl_constraintref15_CheckRule (.cons rfl (Wk.refl _) (.cons rfl (Wk.refl _) .nil)) (lg_constraintref15_CheckRule fuel _ _ _ hr_4)) ?_
   refine r_d rfl rfl rfl (s_cmp rfl rfl rfl rfl) ?_
   refine r_d rfl rfl rfl (s_move rfl rfl) ?_
   refine r_sB 17 rfl hr (fun h17_4 hr => ?_) (fun h17_4 hr => ?_)
   ·
    obtain ⟨r_6, hr_6, hr⟩ := bindS hr
    refine r_d rfl rfl rfl (s_callD rfl cl_constraintlaw15_live .nil (lg_constraintlaw15_live _ hr_6)) ?_
    refine r_d rfl rfl rfl (s_pickT rfl rfl rfl) ?_
    refine r_d rfl rfl rfl (s_assign rfl rfl) ?_
    refine r_end ?_
    obtain rfl := Option.some.inj hr
    refine g_ret Try.func4 _ (.cons (resTmp rfl (Wk.refl _)) .nil) ?_
    rfl
   ·
    refine r_skip rfl rfl rfl ?_
    refine r_d rfl rfl rfl (s_pickF rfl rfl rfl) ?_
    refine r_d rfl rfl rfl (s_assign rfl rfl) ?_
    refine r_end ?_
    obtain rfl := Option.some.inj hr
    refine g_ret Try.func4 _ (.cons (resTmp rfl (Wk.refl _)) .nil) ?_
    rfl

noncomputable def lf_constraintref15_CheckQuery_L3 (k : Option (Int)) (vars_a2 : Int) : List Int → Option (Int)
  | [] =>
  k
  | q_12 :: rest =>
  (bif (decide (q_12 ≥ vars_a2)) then
  some (17)
  else
  (lf_constraintref15_CheckQuery_L3 k vars_a2 rest))

noncomputable def lf_constraintref15_CheckQuery_L2 (k : Option (Int)) (fuel : Nat) (vars_a2 : Int) : List Gl → Option (Int)
  | [] =>
  k
  | q_9 :: rest =>
  ((lf_constraintref03_GoalVars fuel q_9).bind fun r_10 =>
  (lf_constraintref15_CheckQuery_L3 ((lf_constraintref15_CheckQuery_L2 k fuel vars_a2 rest)) vars_a2 r_10))

noncomputable def lf_constraintref15_CheckQuery_L1 (k : Option (Int)) : List Gl → Option (Int)
  | [] =>
  k
  | q_14 :: rest =>
  ((lf_constraintref15_Test q_14.op).bind fun r_15 =>
  (bif r_15 then
  some (10)
  else
  (lf_constraintref15_CheckQuery_L1 k rest)))

noncomputable def lf_constraintref15_CheckQuery_L0 (k : Option (Int)) : List Gl → Option (Int)
  | [] =>
  k
  | q_17 :: rest =>
  ((x_rightG q_17).bind fun r_18 =>
  (bif (!r_18) then
  some (2)
  else
  (lf_constraintref15_CheckQuery_L0 k rest)))
noncomputable def lf_constraintref15_CheckQuery (fuel : Nat) (decls_a0 : (List S_api_Decl)) (l_a1 : (List Gl)) (vars_a2 : Int) : Option (Int) :=
  (bif (decide ((l_a1.length : Int) > (40 : Int))) then
  some (6)
  else
  (bif (decide (vars_a2 < (0 : Int))) then
  some (6)
  else
  (bif (decide (vars_a2 > (100 : Int))) then
  some (6)
  else
  (lf_constraintref15_CheckQuery_L0 (((lf_constraintref15_calls decls_a0 l_a1).bind fun r_5 =>
  (bif (r_5 != (0 : Int)) then
  some (r_5)
  else
  (lf_constraintref15_CheckQuery_L1 ((lf_constraintref15_CheckQuery_L2 (some (0)) fuel vars_a2 l_a1)) l_a1)))) l_a1))))

set_option maxHeartbeats 1000000 in
theorem lg_constraintref15_CheckQuery (fuel : Nat) (decls_a0 : (List S_api_Decl)) (l_a1 : (List Gl)) (vars_a2 : Int) (res : Int) (hr : lf_constraintref15_CheckQuery fuel decls_a0 l_a1 vars_a2 = some res) : Gives Try.prog 17 [.lst (decls_a0.map enc_S_api_Decl), .lst (l_a1.map encG), .int .i64 vars_a2] (.int .i64 res) := by
  unfold lf_constraintref15_CheckQuery at hr
  refine spec_env [(0, .lst (decls_a0.map enc_S_api_Decl)), (1, .lst (l_a1.map encG)), (2, .int .i64 vars_a2)] Try.func17 rfl rfl fun K hK => ?_
  refine g_seq ?_
  refine g_run (by kernel_rfl) [(0, .d)] rfl ?_
  refine r_d rfl rfl rfl (s_assign rfl rfl) ?_
  refine r_end ?_
  refine g_seq ?_
  refine g_seq ?_
  refine g_run (by kernel_rfl) [(0, .d), (1, .d), (2, .d), (3, .d), (4, .d), (5, .d), (6, .d), (7, .d), (8, .d), (9, .d), (10, .d)] rfl ?_
  refine r_d rfl rfl rfl (s_move rfl rfl) ?_
  refine r_d rfl rfl rfl (m_len (f := encG) l_a1 rfl el_L_api_Goal rfl (asl rfl)) ?_
  refine r_d rfl rfl rfl (s_cmp rfl rfl rfl rfl) ?_
  refine r_d rfl rfl rfl (s_move rfl rfl) ?_
  refine r_sB 16 rfl hr (fun h16_0 hr => ?_) (fun h16_0 hr => ?_)
  ·
   refine r_skip rfl rfl rfl ?_
   refine r_skip rfl rfl rfl ?_
   refine r_d rfl rfl rfl (s_pickT rfl rfl rfl) ?_
   refine r_d rfl rfl rfl (s_move rfl rfl) ?_
   refine r_skip rfl rfl rfl ?_
   refine r_skip rfl rfl rfl ?_
   refine r_d rfl rfl rfl (s_pickT rfl rfl rfl) ?_
   refine r_end ?_
   refine g_condT rfl ?_
   refine g_seq ?_
   refine g_run (by kernel_rfl) [(0, .d)] rfl ?_
   refine r_d rfl rfl rfl (s_assign rfl rfl) ?_
   refine r_end ?_
   obtain rfl := Option.some.inj hr
   refine g_ret Try.func17 _ (.cons (resTmp rfl (Wk.refl _)) .nil) ?_
   rfl
  ·
   refine r_d rfl rfl rfl (s_move rfl rfl) ?_
   refine r_d rfl rfl rfl (s_cmp rfl rfl rfl rfl) ?_
   refine r_d rfl rfl rfl (s_pickF rfl rfl rfl) ?_
   refine r_d rfl rfl rfl (s_move rfl rfl) ?_
   refine r_sB 20 rfl hr (fun h20_1 hr => ?_) (fun h20_1 hr => ?_)
   ·
    refine r_skip rfl rfl rfl ?_
    refine r_skip rfl rfl rfl ?_
    refine r_d rfl rfl rfl (s_pickT rfl rfl rfl) ?_
    refine r_end ?_
    refine g_condT rfl ?_
    refine g_seq ?_
    refine g_run (by kernel_rfl) [(0, .d)] rfl ?_
    refine r_d rfl rfl rfl (s_assign rfl rfl) ?_
    refine r_end ?_
    obtain rfl := Option.some.inj hr
    refine g_ret Try.func17 _ (.cons (resTmp rfl (Wk.refl _)) .nil) ?_
    rfl
   ·
    refine r_d rfl rfl rfl (s_move rfl rfl) ?_
    refine r_d rfl rfl rfl (s_cmp rfl rfl rfl rfl) ?_
    refine r_d rfl rfl rfl (s_pickF rfl rfl rfl) ?_
    refine r_end ?_
    refine g_sB 23 rfl hr (fun h23_2 hr => ?_) (fun h23_2 hr => ?_)
    ·
     refine g_condT rfl ?_
     refine g_seq ?_
     refine g_run (by kernel_rfl) [(0, .d)] rfl ?_
     refine r_d rfl rfl rfl (s_assign rfl rfl) ?_
     refine r_end ?_
     obtain rfl := Option.some.inj hr
     refine g_ret Try.func17 _ (.cons (resTmp rfl (Wk.refl _)) .nil) ?_
     rfl
    ·
     refine g_condF rfl ?_
     refine g_skip ?_
     refine g_seq ?_
     refine g_seq ?_
     refine g_run (by kernel_rfl) [(0, .d)] rfl ?_
     refine r_d rfl rfl rfl (s_assign rfl rfl) ?_
     refine r_end ?_
     obtain ⟨kk0, hkk0, hr⟩ := exK (fun k => lf_constraintref15_CheckQuery_L0 k l_a1) hr
     refine g_len 1 rfl (asl rfl) fun hla0 => ?_
     simp only [List.length_map] at hla0
     refine g_blockJ (fun env σ => env = [(0, .lst (decls_a0.map enc_S_api_Decl)), (1, .lst (l_a1.map encG)), (2, .int .i64 vars_a2)] ∧ σ = [] ∧ kk0 = some res) ?_ (fun HK0 => ?_)
     ·
      rintro _ _ ⟨rfl, rfl, hr⟩
      rw [hkk0] at hr
      refine g_seq ?_
      refine g_run (by kernel_rfl) [(0, .d), (1, .d), (2, .d), (3, .d)] rfl ?_
      refine r_d rfl rfl rfl (s_move rfl rfl) ?_
      refine r_d rfl rfl rfl (s_move rfl rfl) ?_
      obtain ⟨r_5, hr_5, hr⟩ := bindS hr
      refine r_d rfl rfl rfl (s_callD rfl cl_constraintref15_calls (.cons rfl (Wk.refl _) (.cons rfl (Wk.refl _) .nil)) (lg_constraintref15_calls _ _ _ hr_5)) ?_
      refine r_d rfl rfl rfl (s_assign rfl rfl) ?_
      refine r_end ?_
      refine g_seq ?_
      refine g_seq ?_
      refine g_run (by kernel_rfl) [(0, .d), (1, .d)] rfl ?_
      refine r_d rfl rfl rfl (s_move rfl rfl) ?_
      refine r_d rfl rfl rfl (s_cmp rfl rfl rfl rfl) ?_
      refine r_end ?_
      refine g_sB 40 rfl hr (fun h40_5 hr => ?_) (fun h40_5 hr => ?_)
      ·
       refine g_condT rfl ?_
       refine g_seq ?_
       refine g_run (by kernel_rfl) [(0, .d), (1, .d)] rfl ?_
       refine r_d rfl rfl rfl (s_move rfl rfl) ?_
       refine r_d rfl rfl rfl (s_assign rfl rfl) ?_
       refine r_end ?_
       obtain rfl := Option.some.inj hr
       refine g_ret Try.func17 _ (.cons (resTmp rfl (Wk.refl _)) .nil) ?_
       rfl
      ·
       refine g_condF rfl ?_
       refine g_skip ?_
       refine g_seq ?_
       refine g_seq ?_
       refine g_run (by kernel_rfl) [(0, .d)] rfl ?_
       refine r_d rfl rfl rfl (s_assign rfl rfl) ?_
       refine r_end ?_
       obtain ⟨kk1, hkk1, hr⟩ := exK (fun k => lf_constraintref15_CheckQuery_L1 k l_a1) hr
       refine g_len 1 rfl (asl rfl) fun hla1 => ?_
       simp only [List.length_map] at hla1
       refine g_blockJ (fun env σ => env = [(1, .lst (l_a1.map encG)), (2, .int .i64 vars_a2)] ∧ σ = [] ∧ kk1 = some res) ?_ (fun HK1 => ?_)
       ·
        rintro _ _ ⟨rfl, rfl, hr⟩
        rw [hkk1] at hr
        refine g_seq ?_
        refine g_seq ?_
        refine g_run (by kernel_rfl) [(0, .d)] rfl ?_
        refine r_d rfl rfl rfl (s_assign rfl rfl) ?_
        refine r_end ?_
        obtain ⟨kk2, hkk2, hr⟩ := exK (fun k => lf_constraintref15_CheckQuery_L2 k fuel vars_a2 l_a1) hr
        refine g_len 1 rfl (asl rfl) fun hla2 => ?_
        simp only [List.length_map] at hla2
        refine g_blockJ (fun env σ => env = [] ∧ σ = [] ∧ kk2 = some res) ?_ (fun HK2 => ?_)
        ·
         rintro _ _ ⟨rfl, rfl, hr⟩
         rw [hkk2] at hr
         refine g_seq ?_
         refine g_run (by kernel_rfl) [(0, .d)] rfl ?_
         refine r_d rfl rfl rfl (s_assign rfl rfl) ?_
         refine r_end ?_
         obtain rfl := Option.some.inj hr
         refine g_ret Try.func17 _ (.cons (resTmp rfl (Wk.refl _)) .nil) ?_
         rfl
        ·
         refine g_sub [(1, .lst (l_a1.map encG)), (2, .int .i64 vars_a2), (10, .int .i64 ((0 : Nat) : Int))] (Sub.cons' rfl (Sub.cons' rfl (Sub.cons' rfl (Sub.nil _)))) ?_
         refine g_loop (fun n env σ => ∃ (i_8 : Nat), (n = l_a1.length - i_8) ∧ (env = [(1, .lst (l_a1.map encG)), (2, .int .i64 vars_a2), (10, .int .i64 (i_8 : Int))]) ∧ (σ = []) ∧ (i_8 ≤ l_a1.length) ∧ (lf_constraintref15_CheckQuery_L2 kk2 fuel vars_a2 (l_a1.drop i_8) = some res)) _ ⟨0, rfl, rfl, rfl, Nat.zero_le _, hr⟩ ?_
         rintro n _ _ ⟨i_8, rfl, rfl, rfl, hi2, hr⟩ IH2
         rcases listStep l_a1 i_8 hi2 with ⟨ht2, hd2, he2⟩ | ⟨q_9, ht2, hd2, hq2, hlt2⟩
         ·
          rw [hd2, lf_constraintref15_CheckQuery_L2] at hr
          refine g_seq ?_
          refine g_seq ?_
          refine g_run (by kernel_rfl) [(0, .d), (1, .d), (2, .d), (3, .d)] rfl ?_
          refine r_d rfl rfl rfl (s_move rfl rfl) ?_
          refine r_d rfl rfl rfl (s_move rfl rfl) ?_
          refine r_d rfl rfl rfl (m_len (f := encG) l_a1 rfl el_L_api_Goal rfl (asl rfl)) ?_
          refine r_d rfl rfl rfl (s_cmp rfl rfl rfl rfl) ?_
          refine r_end ?_
          refine g_known 57 false rfl ht2 ?_
          refine g_condF rfl ?_
          refine g_exit rfl ?_
          refine g_sub [] (Sub.nil _) ?_
          exact HK2 _ _ ⟨rfl, rfl, hr⟩
         ·
          rw [hd2, lf_constraintref15_CheckQuery_L2] at hr
          refine g_seq ?_
          refine g_seq ?_
          refine g_run (by kernel_rfl) [(0, .d), (1, .d), (2, .d), (3, .d)] rfl ?_
          refine r_d rfl rfl rfl (s_move rfl rfl) ?_
          refine r_d rfl rfl rfl (s_move rfl rfl) ?_
          refine r_d rfl rfl rfl (m_len (f := encG) l_a1 rfl el_L_api_Goal rfl (asl rfl)) ?_
          refine r_d rfl rfl rfl (s_cmp rfl rfl rfl rfl) ?_
          refine r_end ?_
          refine g_known 57 true rfl ht2 ?_
          refine g_condT rfl ?_
          refine g_skip ?_
          refine g_seq ?_
          refine g_block ?_
          refine g_seq ?_
          refine g_run (by kernel_rfl) [(0, .d), (1, .d), (2, .d), (3, .d), (4, .d), (5, .d)] rfl ?_
          refine r_d rfl rfl rfl (s_move rfl rfl) ?_
          refine r_d rfl rfl rfl (s_move rfl rfl) ?_
          refine r_d rfl rfl rfl (m_index (f := encG) l_a1 rfl el_L_api_Goal rfl (asl rfl) rfl hq2 sz_encG rfl) ?_
          refine r_d rfl rfl rfl (s_load rfl rfl (by exact ty_api_Goal) (sz_encG _)) ?_
          obtain ⟨r_10, hr_10, hr⟩ := bindS hr
          refine r_d rfl rfl rfl (s_callD rfl cl_constraintref03_GoalVars (.cons rfl (Wk.refl _) .nil) (lg_constraintref03_GoalVars fuel _ _ hr_10)) ?_
          refine r_d rfl rfl rfl (s_assign rfl rfl) ?_
          refine r_end ?_
          refine g_seq ?_
          refine g_run (by kernel_rfl) [(0, .d)] rfl ?_
          refine r_d rfl rfl rfl (s_assign rfl rfl) ?_
          refine r_end ?_
          obtain ⟨kk3, hkk3, hr⟩ := exK (fun k => lf_constraintref15_CheckQuery_L3 k vars_a2 r_10) hr
          refine g_len 64 rfl (asl rfl) fun hla3 => ?_
          simp only [List.length_map] at hla3
          refine g_blockJ (fun env σ => env = [(1, .lst (l_a1.map encG)), (2, .int .i64 vars_a2), (10, .int .i64 (i_8 : Int))] ∧ σ = [] ∧ kk3 = some res) ?_ (fun HK3 => ?_)
          ·
           rintro _ _ ⟨rfl, rfl, hr⟩
           rw [hkk3] at hr
           refine g_inBlock ?_
           refine g_run (by kernel_rfl) [(0, .d), (1, .d), (2, .d)] rfl ?_
           refine r_d rfl rfl rfl (s_move rfl rfl) ?_
           refine r_d rfl rfl rfl (s_ar (r := ((i_8 + 1 : Nat) : Int)) rfl rfl rfl (by simp [iar]) (by omega)) ?_
           refine r_d rfl rfl rfl (s_assign rfl rfl) ?_
           refine r_end ?_
           refine g_sub [(1, .lst (l_a1.map encG)), (2, .int .i64 vars_a2), (10, .int .i64 ((i_8 + 1 : Nat) : Int))] (Sub.cons' rfl (Sub.cons' rfl (Sub.cons' rfl (Sub.nil _)))) ?_
           exact IH2 _ _ _ (by omega) ⟨(i_8 + 1), rfl, rfl, rfl, (by omega), hr⟩
          ·
           refine g_sub [(1, .lst (l_a1.map encG)), (2, .int .i64 vars_a2), (10, .int .i64 ((i_8 : Nat) : Int)), (11, .lst (r_10.map (D.int .i64))), (12, .int .i64 ((0 : Nat) : Int))] (Sub.cons' rfl (Sub.cons' rfl (Sub.cons' rfl (Sub.cons' rfl (Sub.cons' rfl (Sub.nil _)))))) ?_
           refine g_loop (fun n env σ => ∃ (k_11 : Nat), (n = r_10.length - k_11) ∧ (env = [(1, .lst (l_a1.map encG)), (2, .int .i64 vars_a2), (10, .int .i64 (i_8 : Int)), (11, .lst (r_10.map (D.int .i64))), (12, .int .i64 (k_11 : Int))]) ∧ (σ = []) ∧ (k_11 ≤ r_10.length) ∧ (lf_constraintref15_CheckQuery_L3 kk3 vars_a2 (r_10.drop k_11) = some res)) _ ⟨0, rfl, rfl, rfl, Nat.zero_le _, hr⟩ ?_
           rintro n _ _ ⟨k_11, rfl, rfl, rfl, hi3, hr⟩ IH3
           rcases listStep r_10 k_11 hi3 with ⟨ht3, hd3, he3⟩ | ⟨q_12, ht3, hd3, hq3, hlt3⟩
           ·
            rw [hd3, lf_constraintref15_CheckQuery_L3] at hr
            refine g_seq ?_
            refine g_seq ?_
            refine g_run (by kernel_rfl) [(0, .d), (1, .d), (2, .d), (3, .d)] rfl ?_
            refine r_d rfl rfl rfl (s_move rfl rfl) ?_
            refine r_d rfl rfl rfl (s_move rfl rfl) ?_
            refine r_d rfl rfl rfl (m_len (f := (D.int .i64)) r_10 rfl el_L_int rfl (asl rfl)) ?_
            refine r_d rfl rfl rfl (s_cmp rfl rfl rfl rfl) ?_
            refine r_end ?_
            refine g_known 68 false rfl ht3 ?_
            refine g_condF rfl ?_
            refine g_exit rfl ?_
            refine g_sub [(1, .lst (l_a1.map encG)), (2, .int .i64 vars_a2), (10, .int .i64 (i_8 : Int))] (Sub.cons' rfl (Sub.cons' rfl (Sub.cons' rfl (Sub.nil _)))) ?_
            exact HK3 _ _ ⟨rfl, rfl, hr⟩
           ·
            rw [hd3, lf_constraintref15_CheckQuery_L3] at hr
            refine g_seq ?_
            refine g_seq ?_
            refine g_run (by kernel_rfl) [(0, .d), (1, .d), (2, .d), (3, .d)] rfl ?_
            refine r_d rfl rfl rfl (s_move rfl rfl) ?_
            refine r_d rfl rfl rfl (s_move rfl rfl) ?_
            refine r_d rfl rfl rfl (m_len (f := (D.int .i64)) r_10 rfl el_L_int rfl (asl rfl)) ?_
            refine r_d rfl rfl rfl (s_cmp rfl rfl rfl rfl) ?_
            refine r_end ?_
            refine g_known 68 true rfl ht3 ?_
            refine g_condT rfl ?_
            refine g_skip ?_
            refine g_seq ?_
            refine g_block ?_
            refine g_seq ?_
            refine g_run (by kernel_rfl) [(0, .d), (1, .d), (2, .d), (3, .d), (4, .d), (5, .d)] rfl ?_
            refine r_d rfl rfl rfl (s_move rfl rfl) ?_
            refine r_d rfl rfl rfl (s_move rfl rfl) ?_
            refine r_d rfl rfl rfl (m_index (f := (D.int .i64)) r_10 rfl el_L_int rfl (asl rfl) rfl hq3 (fun _ => rfl) rfl) ?_
            refine r_d rfl rfl rfl (s_load rfl rfl (by exact ty_int) rfl) ?_
            refine r_d rfl rfl rfl (s_move rfl rfl) ?_
            refine r_d rfl rfl rfl (s_cmp rfl rfl rfl rfl) ?_
            refine r_end ?_
            refine g_sB 76 rfl hr (fun h76_12 hr => ?_) (fun h76_12 hr => ?_)
            ·
             refine g_condT rfl ?_
             refine g_seq ?_
             refine g_run (by kernel_rfl) [(0, .d)] rfl ?_
             refine r_d rfl rfl rfl (s_assign rfl rfl) ?_
             refine r_end ?_
             obtain rfl := Option.some.inj hr
             refine g_ret Try.func17 _ (.cons (resTmp rfl (Wk.refl _)) .nil) ?_
             rfl
            ·
             refine g_condF rfl ?_
             refine g_skip ?_
             refine g_inBlock ?_
             refine g_run (by kernel_rfl) [(0, .d), (1, .d), (2, .d)] rfl ?_
             refine r_d rfl rfl rfl (s_move rfl rfl) ?_
             refine r_d rfl rfl rfl (s_ar (r := ((k_11 + 1 : Nat) : Int)) rfl rfl rfl (by simp [iar]) (by omega)) ?_
             refine r_d rfl rfl rfl (s_assign rfl rfl) ?_
             refine r_end ?_
             refine g_sub [(1, .lst (l_a1.map encG)), (2, .int .i64 vars_a2), (10, .int .i64 ((i_8 : Nat) : Int)), (11, .lst (r_10.map (D.int .i64))), (12, .int .i64 ((k_11 + 1 : Nat) : Int))] (Sub.cons' rfl (Sub.cons' rfl (Sub.cons' rfl (Sub.cons' rfl (Sub.cons' rfl (Sub.nil _)))))) ?_
             exact IH3 _ _ _ (by omega) ⟨(k_11 + 1), rfl, rfl, rfl, (by omega), hr⟩
       ·
        refine g_sub [(1, .lst (l_a1.map encG)), (2, .int .i64 vars_a2), (9, .int .i64 ((0 : Nat) : Int))] (Sub.cons' rfl (Sub.cons' rfl (Sub.cons' rfl (Sub.nil _)))) ?_
        refine g_loop (fun n env σ => ∃ (i_7 : Nat), (n = l_a1.length - i_7) ∧ (env = [(1, .lst (l_a1.map encG)), (2, .int .i64 vars_a2), (9, .int .i64 (i_7 : Int))]) ∧ (σ = []) ∧ (i_7 ≤ l_a1.length) ∧ (lf_constraintref15_CheckQuery_L1 kk1 (l_a1.drop i_7) = some res)) _ ⟨0, rfl, rfl, rfl, Nat.zero_le _, hr⟩ ?_
        rintro n _ _ ⟨i_7, rfl, rfl, rfl, hi1, hr⟩ IH1
        rcases listStep l_a1 i_7 hi1 with ⟨ht1, hd1, he1⟩ | ⟨q_14, ht1, hd1, hq1, hlt1⟩
        ·
         rw [hd1, lf_constraintref15_CheckQuery_L1] at hr
         refine g_seq ?_
         refine g_seq ?_
         refine g_run (by kernel_rfl) [(0, .d), (1, .d), (2, .d), (3, .d)] rfl ?_
         refine r_d rfl rfl rfl (s_move rfl rfl) ?_
         refine r_d rfl rfl rfl (s_move rfl rfl) ?_
         refine r_d rfl rfl rfl (m_len (f := encG) l_a1 rfl el_L_api_Goal rfl (asl rfl)) ?_
         refine r_d rfl rfl rfl (s_cmp rfl rfl rfl rfl) ?_
         refine r_end ?_
         refine g_known 45 false rfl ht1 ?_
         refine g_condF rfl ?_
         refine g_exit rfl ?_
         refine g_sub [(1, .lst (l_a1.map encG)), (2, .int .i64 vars_a2)] (Sub.cons' rfl (Sub.cons' rfl (Sub.nil _))) ?_
         exact HK1 _ _ ⟨rfl, rfl, hr⟩
        ·
         rw [hd1, lf_constraintref15_CheckQuery_L1] at hr
         refine g_seq ?_
         refine g_seq ?_
         refine g_run (by kernel_rfl) [(0, .d), (1, .d), (2, .d), (3, .d)] rfl ?_
         refine r_d rfl rfl rfl (s_move rfl rfl) ?_
         refine r_d rfl rfl rfl (s_move rfl rfl) ?_
         refine r_d rfl rfl rfl (m_len (f := encG) l_a1 rfl el_L_api_Goal rfl (asl rfl)) ?_
         refine r_d rfl rfl rfl (s_cmp rfl rfl rfl rfl) ?_
         refine r_end ?_
         refine g_known 45 true rfl ht1 ?_
         refine g_condT rfl ?_
         refine g_skip ?_
         refine g_seq ?_
         refine g_block ?_
         refine g_seq ?_
         refine g_run (by kernel_rfl) [(0, .d), (1, .d), (2, .d), (3, .d), (4, .d), (5, .d)] rfl ?_
         refine r_d rfl rfl rfl (s_move rfl rfl) ?_
         refine r_d rfl rfl rfl (s_move rfl rfl) ?_
         refine r_d rfl rfl rfl (m_index (f := encG) l_a1 rfl el_L_api_Goal rfl (asl rfl) rfl hq1 sz_encG rfl) ?_
         refine r_d rfl rfl rfl (s_fieldAddr rfl fl_api_Goal_0 rfl rfl rfl rfl) ?_
         refine r_d rfl rfl rfl (s_load rfl rfl (by exact ty_int) rfl) ?_
         obtain ⟨r_15, hr_15, hr⟩ := bindS hr
         refine r_d rfl rfl rfl (s_callD rfl cl_constraintref15_Test (.cons rfl (Wk.refl _) .nil) (lg_constraintref15_Test _ _ hr_15)) ?_
         refine r_end ?_
         refine g_sB 53 rfl hr (fun h53_15 hr => ?_) (fun h53_15 hr => ?_)
         ·
          refine g_condT rfl ?_
          refine g_seq ?_
          refine g_run (by kernel_rfl) [(0, .d)] rfl ?_
          refine r_d rfl rfl rfl (s_assign rfl rfl) ?_
          refine r_end ?_
          obtain rfl := Option.some.inj hr
          refine g_ret Try.func17 _ (.cons (resTmp rfl (Wk.refl _)) .nil) ?_
          rfl
         ·
          refine g_condF rfl ?_
          refine g_skip ?_
          refine g_inBlock ?_
          refine g_run (by kernel_rfl) [(0, .d), (1, .d), (2, .d)] rfl ?_
          refine r_d rfl rfl rfl (s_move rfl rfl) ?_
          refine r_d rfl rfl rfl (s_ar (r := ((i_7 + 1 : Nat) : Int)) rfl rfl rfl (by simp [iar]) (by omega)) ?_
          refine r_d rfl rfl rfl (s_assign rfl rfl) ?_
          refine r_end ?_
          refine g_sub [(1, .lst (l_a1.map encG)), (2, .int .i64 vars_a2), (9, .int .i64 ((i_7 + 1 : Nat) : Int))] (Sub.cons' rfl (Sub.cons' rfl (Sub.cons' rfl (Sub.nil _)))) ?_
          exact IH1 _ _ _ (by omega) ⟨(i_7 + 1), rfl, rfl, rfl, (by omega), hr⟩
     ·
      refine g_sub [(0, .lst (decls_a0.map enc_S_api_Decl)), (1, .lst (l_a1.map encG)), (2, .int .i64 vars_a2), (7, .int .i64 ((0 : Nat) : Int))] (Sub.cons' rfl (Sub.cons' rfl (Sub.cons' rfl (Sub.cons' rfl (Sub.nil _))))) ?_
      refine g_loop (fun n env σ => ∃ (i_4 : Nat), (n = l_a1.length - i_4) ∧ (env = [(0, .lst (decls_a0.map enc_S_api_Decl)), (1, .lst (l_a1.map encG)), (2, .int .i64 vars_a2), (7, .int .i64 (i_4 : Int))]) ∧ (σ = []) ∧ (i_4 ≤ l_a1.length) ∧ (lf_constraintref15_CheckQuery_L0 kk0 (l_a1.drop i_4) = some res)) _ ⟨0, rfl, rfl, rfl, Nat.zero_le _, hr⟩ ?_
      rintro n _ _ ⟨i_4, rfl, rfl, rfl, hi0, hr⟩ IH0
      rcases listStep l_a1 i_4 hi0 with ⟨ht0, hd0, he0⟩ | ⟨q_17, ht0, hd0, hq0, hlt0⟩
      ·
       rw [hd0, lf_constraintref15_CheckQuery_L0] at hr
       refine g_seq ?_
       refine g_seq ?_
       refine g_run (by kernel_rfl) [(0, .d), (1, .d), (2, .d), (3, .d)] rfl ?_
       refine r_d rfl rfl rfl (s_move rfl rfl) ?_
       refine r_d rfl rfl rfl (s_move rfl rfl) ?_
       refine r_d rfl rfl rfl (m_len (f := encG) l_a1 rfl el_L_api_Goal rfl (asl rfl)) ?_
       refine r_d rfl rfl rfl (s_cmp rfl rfl rfl rfl) ?_
       refine r_end ?_
       refine g_known 27 false rfl ht0 ?_
       refine g_condF rfl ?_
       refine g_exit rfl ?_
       refine g_sub [(0, .lst (decls_a0.map enc_S_api_Decl)), (1, .lst (l_a1.map encG)), (2, .int .i64 vars_a2)] (Sub.cons' rfl (Sub.cons' rfl (Sub.cons' rfl (Sub.nil _)))) ?_
       exact HK0 _ _ ⟨rfl, rfl, hr⟩
      ·
       rw [hd0, lf_constraintref15_CheckQuery_L0] at hr
       refine g_seq ?_
       refine g_seq ?_
       refine g_run (by kernel_rfl) [(0, .d), (1, .d), (2, .d), (3, .d)] rfl ?_
       refine r_d rfl rfl rfl (s_move rfl rfl) ?_
       refine r_d rfl rfl rfl (s_move rfl rfl) ?_
       refine r_d rfl rfl rfl (m_len (f := encG) l_a1 rfl el_L_api_Goal rfl (asl rfl)) ?_
       refine r_d rfl rfl rfl (s_cmp rfl rfl rfl rfl) ?_
       refine r_end ?_
       refine g_known 27 true rfl ht0 ?_
       refine g_condT rfl ?_
       refine g_skip ?_
       refine g_seq ?_
       refine g_block ?_
       refine g_seq ?_
       refine g_run (by kernel_rfl) [(0, .d), (1, .d), (2, .d), (3, .d), (4, .d), (5, .d)] rfl ?_
       refine r_d rfl rfl rfl (s_move rfl rfl) ?_
       refine r_d rfl rfl rfl (s_move rfl rfl) ?_
       refine r_d rfl rfl rfl (m_index (f := encG) l_a1 rfl el_L_api_Goal rfl (asl rfl) rfl hq0 sz_encG rfl) ?_
       refine r_d rfl rfl rfl (s_load rfl rfl (by exact ty_api_Goal) (sz_encG _)) ?_
       obtain ⟨r_18, hr_18, hr⟩ := bindS hr
       refine r_d rfl rfl rfl (s_callD rfl cl_constraintref03_RightGoal (.cons rfl (Wk.refl _) .nil) (lx_constraintref03_RightGoal _ _ hr_18)) ?_
       refine r_d rfl rfl rfl (s_not rfl rfl) ?_
       refine r_end ?_
       refine g_sB 35 rfl hr (fun h35_18 hr => ?_) (fun h35_18 hr => ?_)
       ·
        refine g_condT rfl ?_
        refine g_seq ?_
        refine g_run (by kernel_rfl) [(0, .d)] rfl ?_
        refine r_d rfl rfl rfl (s_assign rfl rfl) ?_
        refine r_end ?_
        obtain rfl := Option.some.inj hr
        refine g_ret Try.func17 _ (.cons (resTmp rfl (Wk.refl _)) .nil) ?_
        rfl
       ·
        refine g_condF rfl ?_
        refine g_skip ?_
        refine g_inBlock ?_
        refine g_run (by kernel_rfl) [(0, .d), (1, .d), (2, .d)] rfl ?_
        refine r_d rfl rfl rfl (s_move rfl rfl) ?_
        refine r_d rfl rfl rfl (s_ar (r := ((i_4 + 1 : Nat) : Int)) rfl rfl rfl (by simp [iar]) (by omega)) ?_
        refine r_d rfl rfl rfl (s_assign rfl rfl) ?_
        refine r_end ?_
        refine g_sub [(0, .lst (decls_a0.map enc_S_api_Decl)), (1, .lst (l_a1.map encG)), (2, .int .i64 vars_a2), (7, .int .i64 ((i_4 + 1 : Nat) : Int))] (Sub.cons' rfl (Sub.cons' rfl (Sub.cons' rfl (Sub.cons' rfl (Sub.nil _))))) ?_
        exact IH0 _ _ _ (by omega) ⟨(i_4 + 1), rfl, rfl, rfl, (by omega), hr⟩

noncomputable def lf_constraintlaw15_ScopeQueries (fuel : Nat) (decls_a0 : (List S_api_Decl)) (l_a1 : (List Gl)) (vars_a2 : Int) : Option (Bool) :=
  ((lf_constraintref15_Great (⟨decls_a0, []⟩ : S_api_Program) 400).bind fun r_1 =>
  (bif r_1 then
  some (true)
  else
  ((lf_constraintref03_GreatGoals l_a1 600).bind fun r_3 =>
  (bif r_3 then
  some (true)
  else
  ((lf_scope_CheckQuery decls_a0 l_a1 vars_a2).bind fun r_5 =>
  ((lf_constraintref15_CheckQuery fuel decls_a0 l_a1 vars_a2).bind fun r_6 =>
  (bif (r_5 == r_6) then
  (lf_constraintlaw15_live.bind fun r_8 =>
  some (r_8))
  else
  some (false))))))))

set_option maxHeartbeats 1000000 in
theorem lg_constraintlaw15_ScopeQueries (fuel : Nat) (decls_a0 : (List S_api_Decl)) (l_a1 : (List Gl)) (vars_a2 : Int) (res : Bool) (hr : lf_constraintlaw15_ScopeQueries fuel decls_a0 l_a1 vars_a2 = some res) : Gives Try.prog 5 [.lst (decls_a0.map enc_S_api_Decl), .lst (l_a1.map encG), .int .i64 vars_a2] (.bool res) := by
  unfold lf_constraintlaw15_ScopeQueries at hr
  refine spec_env [(0, .lst (decls_a0.map enc_S_api_Decl)), (1, .lst (l_a1.map encG)), (2, .int .i64 vars_a2)] Try.func5 rfl rfl fun K hK => ?_
  refine g_seq ?_
  refine g_run (by kernel_rfl) [(0, .d)] rfl ?_
  refine r_d rfl rfl rfl (s_assign rfl rfl) ?_
  refine r_end ?_
  refine g_seq ?_
  refine g_seq ?_
  refine g_run (by kernel_rfl) [(0, .d), (1, .d), (2, .d), (3, .d), (4, .d), (5, .d), (6, .d)] rfl ?_
  refine r_d rfl rfl rfl (s_move rfl rfl) ?_
  refine r_d rfl rfl rfl (s_build rfl bt_api_Program (.cons rfl (Wk.refl _) .nil) (.cons rfl rfl rfl (.nil _))) ?_
  obtain ⟨r_1, hr_1, hr⟩ := bindS hr
  refine r_d rfl rfl rfl (s_callD rfl cl_constraintref15_Great (.cons rfl (Wk.refl _) (.cons rfl (Wk.refl _) .nil)) (lg_constraintref15_Great _ _ _ hr_1)) ?_
  refine r_d rfl rfl rfl (s_move rfl rfl) ?_
  refine r_sB 10 rfl hr (fun h10_1 hr => ?_) (fun h10_1 hr => ?_)
  ·
   refine r_skip rfl rfl rfl ?_
   refine r_skip rfl rfl rfl ?_
   refine r_d rfl rfl rfl (s_pickT rfl rfl rfl) ?_
   refine r_end ?_
   refine g_condT rfl ?_
   refine g_seq ?_
   refine g_run (by kernel_rfl) [(0, .d)] rfl ?_
   refine r_d rfl rfl rfl (s_assign rfl rfl) ?_
   refine r_end ?_
   obtain rfl := Option.some.inj hr
   refine g_ret Try.func5 _ (.cons (resTmp rfl (Wk.refl _)) .nil) ?_
   rfl
  ·
   refine r_d rfl rfl rfl (s_move rfl rfl) ?_
   obtain ⟨r_3, hr_3, hr⟩ := bindS hr
   refine r_d rfl rfl rfl (s_callD rfl cl_constraintref03_GreatGoals (.cons rfl (Wk.refl _) (.cons rfl (Wk.refl _) .nil)) (lg_constraintref03_GreatGoals _ _ _ hr_3)) ?_
   refine r_d rfl rfl rfl (s_pickF rfl rfl rfl) ?_
   refine r_end ?_
   refine g_sB 13 rfl hr (fun h13_3 hr => ?_) (fun h13_3 hr => ?_)
   ·
    refine g_condT rfl ?_
    refine g_seq ?_
    refine g_run (by kernel_rfl) [(0, .d)] rfl ?_
    refine r_d rfl rfl rfl (s_assign rfl rfl) ?_
    refine r_end ?_
    obtain rfl := Option.some.inj hr
    refine g_ret Try.func5 _ (.cons (resTmp rfl (Wk.refl _)) .nil) ?_
    rfl
   ·
    refine g_condF rfl ?_
    refine g_skip ?_
    refine g_seq ?_
    refine g_run (by kernel_rfl) [(0, .d), (1, .d), (2, .d), (3, .d), (4, .d), (5, .d), (6, .d), (7, .d), (8, .d), (9, .d), (10, .d), (11, .d), (12, .d)] rfl ?_
    refine r_d rfl rfl rfl (s_move rfl rfl) ?_
    refine r_d rfl rfl rfl (s_move rfl rfl) ?_
    refine r_d rfl rfl rfl (s_move rfl rfl) ?_
    obtain ⟨r_5, hr_5, hr⟩ := bindS hr
    refine r_d rfl rfl rfl (s_callD rfl cl_scope_CheckQuery (.cons rfl (Wk.refl _) (.cons rfl (Wk.refl _) (.cons rfl (Wk.refl _) .nil))) (lg_scope_CheckQuery _ _ _ _ hr_5)) ?_
    refine r_d rfl rfl rfl (s_move rfl rfl) ?_
    refine r_d rfl rfl rfl (s_move rfl rfl) ?_
    refine r_d rfl rfl rfl (s_move rfl rfl) ?_
    obtain ⟨r_6, hr_6, hr⟩ := bindS hr
    refine r_d rfl rfl rfl (s_callD rfl cl_constraintref15_CheckQuery (.cons rfl (Wk.refl _) (.cons rfl (Wk.refl _) (.cons rfl (Wk.refl _) .nil))) (lg_constraintref15_CheckQuery fuel _ _ _ _ hr_6)) ?_
    refine r_d rfl rfl rfl (s_cmp rfl rfl rfl rfl) ?_
    refine r_d rfl rfl rfl (s_move rfl rfl) ?_
    refine r_sB 23 rfl hr (fun h23_6 hr => ?_) (fun h23_6 hr => ?_)
    ·
     obtain ⟨r_8, hr_8, hr⟩ := bindS hr
     refine r_d rfl rfl rfl (s_callD rfl cl_constraintlaw15_live .nil (lg_constraintlaw15_live _ hr_8)) ?_
     refine r_d rfl rfl rfl (s_pickT rfl rfl rfl) ?_
     refine r_d rfl rfl rfl (s_assign rfl rfl) ?_
     refine r_end ?_
     obtain rfl := Option.some.inj hr
     refine g_ret Try.func5 _ (.cons (resTmp rfl (Wk.refl _)) .nil) ?_
     rfl
    ·
     refine r_skip rfl rfl rfl ?_
     refine r_d rfl rfl rfl (s_pickF rfl rfl rfl) ?_
     refine r_d rfl rfl rfl (s_assign rfl rfl) ?_
     refine r_end ?_
     obtain rfl := Option.some.inj hr
     refine g_ret Try.func5 _ (.cons (resTmp rfl (Wk.refl _)) .nil) ?_
     rfl

noncomputable def lf_constraintref15_Locals_L1 (k : ((List Int)) → Option ((List Int))) (r_2 : (List Int)) : List Int → (List Int) → Option ((List Int))
  | [], out_13 =>
  (k out_13)
  | q_17 :: rest, out_13 =>
  ((lf_constraintref15_in r_2 q_17).bind fun r_18 =>
  (bif (!r_18) then
  ((appO 8 out_13 [q_17]).bind fun l_20 =>
  (lf_constraintref15_Locals_L1 k r_2 rest l_20))
  else
  (lf_constraintref15_Locals_L1 k r_2 rest out_13)))

noncomputable def lf_constraintref15_Locals_L0 (k : ((List T)) → Option ((List Int))) : List Gl → (List T) → Option ((List Int))
  | [], l_6 =>
  (k l_6)
  | q_22 :: rest, l_6 =>
  ((appO 56 l_6 q_22.ts).bind fun l_23 =>
  (lf_constraintref15_Locals_L0 k rest l_23))
noncomputable def lf_constraintref15_Locals (fuel : Nat) (r_a0 : S_api_Rule) : Option ((List Int)) :=
  ((lf_constraintref15_headVars fuel r_a0).bind fun r_2 =>
  ((lf_constraintref15_goals r_a0).bind fun r_4 =>
  (lf_constraintref15_Locals_L0 (fun l_9 =>
  ((lf_constraintref03_VarsOf fuel l_9).bind fun r_10 =>
  (lf_constraintref15_Locals_L1 (fun out_16 =>
  some (out_16)) r_2 r_10 []))) r_4 [])))

set_option maxHeartbeats 1000000 in
theorem lg_constraintref15_Locals (fuel : Nat) (r_a0 : S_api_Rule) (res : (List Int)) (hr : lf_constraintref15_Locals fuel r_a0 = some res) : Gives Try.prog 22 [enc_S_api_Rule r_a0] (.lst (res.map (D.int .i64))) := by
  unfold lf_constraintref15_Locals at hr
  refine spec_env [(0, enc_S_api_Rule r_a0)] Try.func22 rfl rfl fun K hK => ?_
  refine g_seq ?_
  refine g_run (by kernel_rfl) [(0, .d), (1, .w)] rfl ?_
  refine r_d rfl rfl rfl (s_box rfl rfl rfl) ?_
  refine r_w rfl rfl rfl (s_nilOwn 3 1 (.inl rfl)) ?_
  rintro _ _ ⟨u2_0, rfl, rfl⟩
  refine r_end ?_
  refine g_seq ?_
  refine g_run (by kernel_rfl) [(0, .d), (1, .d), (2, .d)] rfl ?_
  refine r_d rfl rfl rfl (s_load rfl rfl (by exact ty_api_Rule) (sz_S_api_Rule _)) ?_
  obtain ⟨r_2, hr_2, hr⟩ := bindS hr
  refine r_d rfl rfl rfl (s_callD rfl cl_constraintref15_headVars (.cons rfl (Wk.refl _) .nil) (lg_constraintref15_headVars fuel _ _ hr_2)) ?_
  refine r_d rfl rfl rfl (s_assign rfl rfl) ?_
  refine r_end ?_
  refine g_seq ?_
  refine g_run (by kernel_rfl) [(0, .w)] rfl ?_
  refine r_w rfl rfl rfl (s_nilOwn 88 4 (.inl rfl)) ?_
  rintro _ _ ⟨u4_2, rfl, rfl⟩
  refine r_end ?_
  refine g_seq ?_
  refine g_run (by kernel_rfl) [(0, .d), (1, .d), (2, .d)] rfl ?_
  refine r_d rfl rfl rfl (s_load rfl rfl (by exact ty_api_Rule) (sz_S_api_Rule _)) ?_
  obtain ⟨r_4, hr_4, hr⟩ := bindS hr
  refine r_d rfl rfl rfl (s_callD rfl cl_constraintref15_goals (.cons rfl (Wk.refl _) .nil) (lg_constraintref15_goals _ _ hr_4)) ?_
  refine r_d rfl rfl rfl (s_assign rfl rfl) ?_
  refine r_end ?_
  refine g_seq ?_
  refine g_seq ?_
  refine g_run (by kernel_rfl) [(0, .d)] rfl ?_
  refine r_d rfl rfl rfl (s_assign rfl rfl) ?_
  refine r_end ?_
  obtain ⟨kk0, hkk0, hr⟩ := exK (fun k => lf_constraintref15_Locals_L0 k r_4 []) hr
  refine g_len 13 rfl (asl rfl) fun hla0 => ?_
  simp only [List.length_map] at hla0
  refine g_blockJ (fun env σ => ∃ (l_9 : (List T)) (u_8 : Value), env = [(3, .lst (r_2.map (D.int .i64))), (4, .own u_8 (l_9.map encT))] ∧ σ = [.row u_8 l_9.length 88 4] ∧ kk0 l_9 = some res) ?_ (fun HK0 => ?_)
  ·
   rintro _ _ ⟨l_9, u_8, rfl, rfl, hr⟩
   rw [hkk0] at hr
   refine g_seq ?_
   refine g_run (by kernel_rfl) [(0, .d), (1, .d), (2, .d)] rfl ?_
   refine r_d rfl rfl rfl (s_move rfl rfl) ?_
   obtain ⟨r_10, hr_10, hr⟩ := bindS hr
   refine r_d rfl rfl rfl (s_callD rfl cl_constraintref03_VarsOf (.cons rfl (Wk.own _ _) .nil) (lg_constraintref03_VarsOf fuel _ _ hr_10)) ?_
   refine r_d rfl rfl rfl (s_assign rfl rfl) ?_
   refine r_end ?_
   refine g_seq ?_
   refine g_run (by kernel_rfl) [(0, .w)] rfl ?_
   refine r_w rfl rfl rfl (s_nilOwn 3 1 (.inl rfl)) ?_
   rintro _ _ ⟨u8_10, rfl, rfl⟩
   refine r_end ?_
   refine g_seq ?_
   refine g_seq ?_
   refine g_run (by kernel_rfl) [(0, .d)] rfl ?_
   refine r_d rfl rfl rfl (s_assign rfl rfl) ?_
   refine r_end ?_
   obtain ⟨kk1, hkk1, hr⟩ := exK (fun k => lf_constraintref15_Locals_L1 k r_2 r_10 []) hr
   refine g_len 28 rfl (asl rfl) fun hla1 => ?_
   simp only [List.length_map] at hla1
   refine g_blockJ (fun env σ => ∃ (out_16 : (List Int)) (u_15 : Value), env = [(8, .own u_15 (out_16.map (D.int .i64)))] ∧ σ = [.row u_15 out_16.length 3 1] ∧ kk1 out_16 = some res) ?_ (fun HK1 => ?_)
   ·
    rintro _ _ ⟨out_16, u_15, rfl, rfl, hr⟩
    rw [hkk1] at hr
    refine g_seq ?_
    refine g_run (by kernel_rfl) [(0, .d), (1, .d)] rfl ?_
    refine r_d rfl rfl rfl (s_move rfl rfl) ?_
    refine r_d rfl rfl rfl (s_assign rfl rfl) ?_
    refine r_end ?_
    obtain rfl := Option.some.inj hr
    refine g_ret Try.func22 _ (.cons (resTmp rfl (Wk.own _ _)) .nil) ?_
    rfl
   ·
    refine g_sub [(3, .lst (r_2.map (D.int .i64))), (7, .lst (r_10.map (D.int .i64))), (8, .own u8_10 ([].map (D.int .i64))), (9, .int .i64 ((0 : Nat) : Int))] (Sub.cons' rfl (Sub.cons' rfl (Sub.cons' rfl (Sub.cons' rfl (Sub.nil _))))) ?_
    refine g_perm [_] _ (pf0 _) ?_
    refine g_loop (fun n env σ => ∃ (out_13 : (List Int)) (i_14 : Nat) (u_12 : Value), (n = r_10.length - i_14) ∧ (env = [(3, .lst (r_2.map (D.int .i64))), (7, .lst (r_10.map (D.int .i64))), (8, .own u_12 (out_13.map (D.int .i64))), (9, .int .i64 (i_14 : Int))]) ∧ (σ = [.row u_12 out_13.length 3 1]) ∧ (i_14 ≤ r_10.length) ∧ (lf_constraintref15_Locals_L1 kk1 r_2 (r_10.drop i_14) out_13 = some res)) _ ⟨[], 0, u8_10, rfl, rfl, rfl, Nat.zero_le _, hr⟩ ?_
    rintro n _ _ ⟨out_13, i_14, u_12, rfl, rfl, rfl, hi1, hr⟩ IH1
    rcases listStep r_10 i_14 hi1 with ⟨ht1, hd1, he1⟩ | ⟨q_17, ht1, hd1, hq1, hlt1⟩
    ·
     rw [hd1, lf_constraintref15_Locals_L1] at hr
     refine g_seq ?_
     refine g_seq ?_
     refine g_run (by kernel_rfl) [(0, .d), (1, .d), (2, .d), (3, .d)] rfl ?_
     refine r_d rfl rfl rfl (s_move rfl rfl) ?_
     refine r_d rfl rfl rfl (s_move rfl rfl) ?_
     refine r_d rfl rfl rfl (m_len (f := (D.int .i64)) r_10 rfl el_L_int rfl (asl rfl)) ?_
     refine r_d rfl rfl rfl (s_cmp rfl rfl rfl rfl) ?_
     refine r_end ?_
     refine g_known 32 false rfl ht1 ?_
     refine g_condF rfl ?_
     refine g_exit rfl ?_
     refine g_sub [(8, .own u_12 (out_13.map (D.int .i64)))] (Sub.cons' rfl (Sub.nil _)) ?_
     exact HK1 _ _ ⟨out_13, u_12, rfl, rfl, hr⟩
    ·
     rw [hd1, lf_constraintref15_Locals_L1] at hr
     refine g_seq ?_
     refine g_seq ?_
     refine g_run (by kernel_rfl) [(0, .d), (1, .d), (2, .d), (3, .d)] rfl ?_
     refine r_d rfl rfl rfl (s_move rfl rfl) ?_
     refine r_d rfl rfl rfl (s_move rfl rfl) ?_
     refine r_d rfl rfl rfl (m_len (f := (D.int .i64)) r_10 rfl el_L_int rfl (asl rfl)) ?_
     refine r_d rfl rfl rfl (s_cmp rfl rfl rfl rfl) ?_
     refine r_end ?_
     refine g_known 32 true rfl ht1 ?_
     refine g_condT rfl ?_
     refine g_skip ?_
     refine g_seq ?_
     refine g_block ?_
     refine g_seq ?_
     refine g_run (by kernel_rfl) [(0, .d), (1, .d), (2, .d), (3, .d), (4, .d), (5, .d), (6, .d)] rfl ?_
     refine r_d rfl rfl rfl (s_move rfl rfl) ?_
     refine r_d rfl rfl rfl (s_move rfl rfl) ?_
     refine r_d rfl rfl rfl (s_move rfl rfl) ?_
     refine r_d rfl rfl rfl (m_index (f := (D.int .i64)) r_10 rfl el_L_int rfl (asl rfl) rfl hq1 (fun _ => rfl) rfl) ?_
     refine r_d rfl rfl rfl (s_load rfl rfl (by exact ty_int) rfl) ?_
     obtain ⟨r_18, hr_18, hr⟩ := bindS hr
     refine r_d rfl rfl rfl (s_callD rfl cl_constraintref15_in (.cons rfl (Wk.refl _) (.cons rfl (Wk.refl _) .nil)) (lg_constraintref15_in _ _ _ hr_18)) ?_
     refine r_d rfl rfl rfl (s_not rfl rfl) ?_
     refine r_end ?_
     refine g_sB 41 rfl hr (fun h41_18 hr => ?_) (fun h41_18 hr => ?_)
     ·
      refine g_condT rfl ?_
      refine g_run (by kernel_rfl) [(0, .d), (1, .d), (2, .d), (3, .d), (4, .d), (5, .d), (6, .w), (7, .d)] rfl ?_
      refine r_d rfl rfl rfl (s_move rfl rfl) ?_
      refine r_d rfl rfl rfl (s_move rfl rfl) ?_
      refine r_d rfl rfl rfl (s_move rfl rfl) ?_
      refine r_d rfl rfl rfl (m_index (f := (D.int .i64)) r_10 rfl el_L_int rfl (asl rfl) rfl hq1 (fun _ => rfl) rfl) ?_
      refine r_d rfl rfl rfl (s_load rfl rfl (by exact ty_int) rfl) ?_
      refine r_d rfl rfl rfl (m_lit (f := (D.int .i64)) [.tmp 46] [q_17] rfl el_L_int rfl rfl (by decide) (by decide) (.cons rfl (Wk.refl _) .nil) (fun _ => rfl) (fun _ => rfl)) ?_
      obtain ⟨l_20, hl_20, hr⟩ := bindS hr
      refine r_w rfl rfl rfl (m_appOwn (f := (D.int .i64)) out_13 [q_17] rfl el_L_int rfl rfl (asl rfl) (pf0 _) rfl (fun _ => rfl) hl_20) ?_
      rintro _ _ ⟨u48_20, rfl, rfl⟩
      refine r_d rfl rfl rfl (s_assign rfl rfl) ?_
      refine r_end ?_
      refine g_inBlock ?_
      refine g_run (by kernel_rfl) [(0, .d), (1, .d), (2, .d)] rfl ?_
      refine r_d rfl rfl rfl (s_move rfl rfl) ?_
      refine r_d rfl rfl rfl (s_ar (r := ((i_14 + 1 : Nat) : Int)) rfl rfl rfl (by simp [iar]) (by omega)) ?_
      refine r_d rfl rfl rfl (s_assign rfl rfl) ?_
      refine r_end ?_
      refine g_sub [(3, .lst (r_2.map (D.int .i64))), (7, .lst (r_10.map (D.int .i64))), (8, .own u48_20 (l_20.map (D.int .i64))), (9, .int .i64 ((i_14 + 1 : Nat) : Int))] (Sub.cons' rfl (Sub.cons' rfl (Sub.cons' rfl (Sub.cons' rfl (Sub.nil _))))) ?_
      exact IH1 _ _ _ (by omega) ⟨l_20, (i_14 + 1), u48_20, rfl, rfl, rfl, (by omega), hr⟩
     ·
      refine g_condF rfl ?_
      refine g_skip ?_
      refine g_inBlock ?_
      refine g_run (by kernel_rfl) [(0, .d), (1, .d), (2, .d)] rfl ?_
      refine r_d rfl rfl rfl (s_move rfl rfl) ?_
      refine r_d rfl rfl rfl (s_ar (r := ((i_14 + 1 : Nat) : Int)) rfl rfl rfl (by simp [iar]) (by omega)) ?_
      refine r_d rfl rfl rfl (s_assign rfl rfl) ?_
      refine r_end ?_
      refine g_sub [(3, .lst (r_2.map (D.int .i64))), (7, .lst (r_10.map (D.int .i64))), (8, .own u_12 (out_13.map (D.int .i64))), (9, .int .i64 ((i_14 + 1 : Nat) : Int))] (Sub.cons' rfl (Sub.cons' rfl (Sub.cons' rfl (Sub.cons' rfl (Sub.nil _))))) ?_
      exact IH1 _ _ _ (by omega) ⟨out_13, (i_14 + 1), u_12, rfl, rfl, rfl, (by omega), hr⟩
  ·
   refine g_sub [(3, .lst (r_2.map (D.int .i64))), (5, .lst (r_4.map encG)), (4, .own u4_2 ([].map encT)), (6, .int .i64 ((0 : Nat) : Int))] (Sub.cons' rfl (Sub.cons' rfl (Sub.cons' rfl (Sub.cons' rfl (Sub.nil _))))) ?_
   refine g_perm [_] _ (pf0 _) ?_
   refine g_loop (fun n env σ => ∃ (l_6 : (List T)) (i_7 : Nat) (u_5 : Value), (n = r_4.length - i_7) ∧ (env = [(3, .lst (r_2.map (D.int .i64))), (5, .lst (r_4.map encG)), (4, .own u_5 (l_6.map encT)), (6, .int .i64 (i_7 : Int))]) ∧ (σ = [.row u_5 l_6.length 88 4]) ∧ (i_7 ≤ r_4.length) ∧ (lf_constraintref15_Locals_L0 kk0 (r_4.drop i_7) l_6 = some res)) _ ⟨[], 0, u4_2, rfl, rfl, rfl, Nat.zero_le _, hr⟩ ?_
   rintro n _ _ ⟨l_6, i_7, u_5, rfl, rfl, rfl, hi0, hr⟩ IH0
   rcases listStep r_4 i_7 hi0 with ⟨ht0, hd0, he0⟩ | ⟨q_22, ht0, hd0, hq0, hlt0⟩
   ·
    rw [hd0, lf_constraintref15_Locals_L0] at hr
    refine g_seq ?_
    refine g_seq ?_
    refine g_run (by kernel_rfl) [(0, .d), (1, .d), (2, .d), (3, .d)] rfl ?_
    refine r_d rfl rfl rfl (s_move rfl rfl) ?_
    refine r_d rfl rfl rfl (s_move rfl rfl) ?_
    refine r_d rfl rfl rfl (m_len (f := encG) r_4 rfl el_L_api_Goal rfl (asl rfl)) ?_
    refine r_d rfl rfl rfl (s_cmp rfl rfl rfl rfl) ?_
    refine r_end ?_
    refine g_known 17 false rfl ht0 ?_
    refine g_condF rfl ?_
    refine g_exit rfl ?_
    refine g_sub [(3, .lst (r_2.map (D.int .i64))), (4, .own u_5 (l_6.map encT))] (Sub.cons' rfl (Sub.cons' rfl (Sub.nil _))) ?_
    exact HK0 _ _ ⟨l_6, u_5, rfl, rfl, hr⟩
   ·
    rw [hd0, lf_constraintref15_Locals_L0] at hr
    refine g_seq ?_
    refine g_seq ?_
    refine g_run (by kernel_rfl) [(0, .d), (1, .d), (2, .d), (3, .d)] rfl ?_
    refine r_d rfl rfl rfl (s_move rfl rfl) ?_
    refine r_d rfl rfl rfl (s_move rfl rfl) ?_
    refine r_d rfl rfl rfl (m_len (f := encG) r_4 rfl el_L_api_Goal rfl (asl rfl)) ?_
    refine r_d rfl rfl rfl (s_cmp rfl rfl rfl rfl) ?_
    refine r_end ?_
    refine g_known 17 true rfl ht0 ?_
    refine g_condT rfl ?_
    refine g_skip ?_
    refine g_seq ?_
    refine g_block ?_
    refine g_run (by kernel_rfl) [(0, .d), (1, .d), (2, .d), (3, .d), (4, .d), (5, .d), (6, .w), (7, .d)] rfl ?_
    refine r_d rfl rfl rfl (s_move rfl rfl) ?_
    refine r_d rfl rfl rfl (s_move rfl rfl) ?_
    refine r_d rfl rfl rfl (s_move rfl rfl) ?_
    refine r_d rfl rfl rfl (m_index (f := encG) r_4 rfl el_L_api_Goal rfl (asl rfl) rfl hq0 sz_encG rfl) ?_
    refine r_d rfl rfl rfl (s_fieldAddr rfl fl_api_Goal_2 rfl rfl rfl rfl) ?_
    refine r_d rfl rfl rfl (s_load rfl rfl (by exact ty_L_api_Term) rfl) ?_
    obtain ⟨l_23, hl_23, hr⟩ := bindS hr
    refine r_w rfl rfl rfl (m_appOwn (f := encT) l_6 q_22.ts rfl el_L_api_Term rfl rfl (asl rfl) (pf0 _) rfl sz_encT hl_23) ?_
    rintro _ _ ⟨u26_23, rfl, rfl⟩
    refine r_d rfl rfl rfl (s_assign rfl rfl) ?_
    refine r_end ?_
    refine g_inBlock ?_
    refine g_run (by kernel_rfl) [(0, .d), (1, .d), (2, .d)] rfl ?_
    refine r_d rfl rfl rfl (s_move rfl rfl) ?_
    refine r_d rfl rfl rfl (s_ar (r := ((i_7 + 1 : Nat) : Int)) rfl rfl rfl (by simp [iar]) (by omega)) ?_
    refine r_d rfl rfl rfl (s_assign rfl rfl) ?_
    refine r_end ?_
    refine g_sub [(3, .lst (r_2.map (D.int .i64))), (5, .lst (r_4.map encG)), (4, .own u26_23 (l_23.map encT)), (6, .int .i64 ((i_7 + 1 : Nat) : Int))] (Sub.cons' rfl (Sub.cons' rfl (Sub.cons' rfl (Sub.cons' rfl (Sub.nil _))))) ?_
    exact IH0 _ _ _ (by omega) ⟨l_23, (i_7 + 1), u26_23, rfl, rfl, rfl, (by omega), hr⟩

noncomputable def lf_constraintlaw15_ScopeLocals_L0 (k : Option (Bool)) (arity_a2 : Int) (decls_a0 : (List S_api_Decl)) : List At → Option (Bool)
  | [] =>
  k
  | q_15 :: rest =>
  ((lf_scope_Declared decls_a0 q_15.n arity_a2).bind fun r_16 =>
  ((lf_constraintref15_Declared decls_a0 q_15.n arity_a2).bind fun r_17 =>
  (bif (r_16 != r_17) then
  some (false)
  else
  ((lf_scope_Declared decls_a0 q_15.n (q_15.ts.length : Int)).bind fun r_19 =>
  ((lf_constraintref15_Declared decls_a0 q_15.n (q_15.ts.length : Int)).bind fun r_20 =>
  (bif (r_19 != r_20) then
  some (false)
  else
  (lf_constraintlaw15_ScopeLocals_L0 k arity_a2 decls_a0 rest)))))))
noncomputable def lf_constraintlaw15_ScopeLocals (fuel : Nat) (decls_a0 : (List S_api_Decl)) (r_a1 : S_api_Rule) (arity_a2 : Int) : Option (Bool) :=
  ((lf_constraintref15_Great (⟨decls_a0, [r_a1]⟩ : S_api_Program) 400).bind fun r_1 =>
  (bif r_1 then
  some (true)
  else
  ((appO 40 [] r_a1.f1_Keep).bind fun l_4 =>
  ((appO 40 l_4 r_a1.f2_Remove).bind fun l_6 =>
  (lf_constraintlaw15_ScopeLocals_L0 (((lf_scope_Locals r_a1).bind fun r_10 =>
  ((lf_constraintref15_Locals fuel r_a1).bind fun r_11 =>
  ((lf_constraintref03_SameInts r_10 r_11).bind fun r_12 =>
  (bif r_12 then
  (lf_constraintlaw15_live.bind fun r_14 =>
  some (r_14))
  else
  some (false)))))) arity_a2 decls_a0 l_6)))))

set_option maxHeartbeats 1000000 in
theorem lg_constraintlaw15_ScopeLocals (fuel : Nat) (decls_a0 : (List S_api_Decl)) (r_a1 : S_api_Rule) (arity_a2 : Int) (res : Bool) (hr : lf_constraintlaw15_ScopeLocals fuel decls_a0 r_a1 arity_a2 = some res) : Gives Try.prog 6 [.lst (decls_a0.map enc_S_api_Decl), enc_S_api_Rule r_a1, .int .i64 arity_a2] (.bool res) := by
  unfold lf_constraintlaw15_ScopeLocals at hr
  refine spec_env [(0, .lst (decls_a0.map enc_S_api_Decl)), (1, enc_S_api_Rule r_a1), (2, .int .i64 arity_a2)] Try.func6 rfl rfl fun K hK => ?_
  refine g_seq ?_
  refine g_run (by kernel_rfl) [(0, .d), (1, .d)] rfl ?_
  refine r_d rfl rfl rfl (s_box rfl rfl rfl) ?_
  refine r_d rfl rfl rfl (s_assign rfl rfl) ?_
  refine r_end ?_
  refine g_seq ?_
  refine g_seq ?_
  refine g_run (by kernel_rfl) [(0, .d), (1, .d), (2, .d), (3, .d), (4, .d)] rfl ?_
  refine r_d rfl rfl rfl (s_move rfl rfl) ?_
  refine r_d rfl rfl rfl (s_load rfl rfl (by exact ty_api_Rule) (sz_S_api_Rule _)) ?_
  refine r_d rfl rfl rfl (m_lit (f := enc_S_api_Rule) [.tmp 10] [r_a1] rfl el_L_api_Rule rfl rfl (by decide) (by decide) (.cons rfl (Wk.refl _) .nil) sz_S_api_Rule (fun _ => rfl)) ?_
  refine r_d rfl rfl rfl (s_build rfl bt_api_Program (.cons rfl (Wk.refl _) (.cons rfl (Wk.full _) .nil)) (.cons rfl rfl rfl (.cons rfl rfl rfl (.nil _)))) ?_
  obtain ⟨r_1, hr_1, hr⟩ := bindS hr
  refine r_d rfl rfl rfl (s_callD rfl cl_constraintref15_Great (.cons rfl (Wk.refl _) (.cons rfl (Wk.refl _) .nil)) (lg_constraintref15_Great _ _ _ hr_1)) ?_
  refine r_end ?_
  refine g_sB 13 rfl hr (fun h13_1 hr => ?_) (fun h13_1 hr => ?_)
  ·
   refine g_condT rfl ?_
   refine g_seq ?_
   refine g_run (by kernel_rfl) [(0, .d)] rfl ?_
   refine r_d rfl rfl rfl (s_assign rfl rfl) ?_
   refine r_end ?_
   obtain rfl := Option.some.inj hr
   refine g_ret Try.func6 _ (.cons (resTmp rfl (Wk.refl _)) .nil) ?_
   rfl
  ·
   refine g_condF rfl ?_
   refine g_skip ?_
   refine g_seq ?_
   refine g_any (by kernel_rfl) (by kernel_rfl) [(1, .d), (2, .d), (4, .d), (5, .d), (0, .w), (3, .w), (6, .w), (7, .d)] (by kernel_rfl) ?_
   refine r_d rfl rfl rfl (s_fieldAddr rfl fl_api_Rule_1 rfl rfl rfl rfl) ?_
   refine r_d rfl rfl rfl (s_load rfl rfl (by exact ty_L_api_Atom) rfl) ?_
   refine r_d rfl rfl rfl (s_fieldAddr rfl fl_api_Rule_2 rfl rfl rfl rfl) ?_
   refine r_d rfl rfl rfl (s_load rfl rfl (by exact ty_L_api_Atom) rfl) ?_
   refine r_w rfl rfl rfl (s_lit0Own rfl el_L_api_Atom rfl) ?_
   rintro _ _ ⟨u14_2, rfl, rfl⟩
   obtain ⟨l_4, hl_4, hr⟩ := bindS hr
   refine r_w rfl rfl rfl (m_appOwn (f := encA) [] r_a1.f1_Keep rfl el_L_api_Atom rfl rfl (asl rfl) (pf0 _) rfl sz_encA hl_4) ?_
   rintro _ _ ⟨u17_4, rfl, rfl⟩
   obtain ⟨l_6, hl_6, hr⟩ := bindS hr
   refine r_w rfl rfl rfl (m_appOwn (f := encA) l_4 r_a1.f2_Remove rfl el_L_api_Atom rfl rfl (asl rfl) (pf0 _) rfl sz_encA hl_6) ?_
   rintro _ _ ⟨u20_6, rfl, rfl⟩
   refine r_d rfl rfl rfl (s_assign rfl rfl) ?_
   refine r_end ?_
   refine g_seq ?_
   refine g_seq ?_
   refine g_run (by kernel_rfl) [(0, .d)] rfl ?_
   refine r_d rfl rfl rfl (s_assign rfl rfl) ?_
   refine r_end ?_
   obtain ⟨kk0, hkk0, hr⟩ := exK (fun k => lf_constraintlaw15_ScopeLocals_L0 k arity_a2 decls_a0 l_6) hr
   refine g_len 20 rfl (asl rfl) fun hla0 => ?_
   simp only [List.length_map] at hla0
   refine g_blockJ (fun env σ => env = [(4, .ptr (enc_S_api_Rule r_a1))] ∧ σ = [] ∧ kk0 = some res) ?_ (fun HK0 => ?_)
   ·
    rintro _ _ ⟨rfl, rfl, hr⟩
    rw [hkk0] at hr
    refine g_seq ?_
    refine g_any (by kernel_rfl) (by kernel_rfl) [(0, .d), (1, .d), (2, .d), (3, .d), (4, .d), (5, .d), (6, .d), (7, .d), (8, .d)] (by kernel_rfl) ?_
    refine r_d rfl rfl rfl (s_load rfl rfl (by exact ty_api_Rule) (sz_S_api_Rule _)) ?_
    obtain ⟨r_10, hr_10, hr⟩ := bindS hr
    refine r_d rfl rfl rfl (s_callD rfl cl_scope_Locals (.cons rfl (Wk.refl _) .nil) (lg_scope_Locals _ _ hr_10)) ?_
    refine r_d rfl rfl rfl (s_load rfl rfl (by exact ty_api_Rule) (sz_S_api_Rule _)) ?_
    obtain ⟨r_11, hr_11, hr⟩ := bindS hr
    refine r_d rfl rfl rfl (s_callD rfl cl_constraintref15_Locals (.cons rfl (Wk.refl _) .nil) (lg_constraintref15_Locals fuel _ _ hr_11)) ?_
    obtain ⟨r_12, hr_12, hr⟩ := bindS hr
    refine r_d rfl rfl rfl (s_callD rfl cl_constraintref03_SameInts (.cons rfl (Wk.refl _) (.cons rfl (Wk.refl _) .nil)) (lg_constraintref03_SameInts _ _ _ hr_12)) ?_
    refine r_d rfl rfl rfl (s_move rfl rfl) ?_
    refine r_sB 78 rfl hr (fun h78_12 hr => ?_) (fun h78_12 hr => ?_)
    ·
     obtain ⟨r_14, hr_14, hr⟩ := bindS hr
     refine r_d rfl rfl rfl (s_callD rfl cl_constraintlaw15_live .nil (lg_constraintlaw15_live _ hr_14)) ?_
     refine r_d rfl rfl rfl (s_pickT rfl rfl rfl) ?_
     refine r_d rfl rfl rfl (s_assign rfl rfl) ?_
     refine r_end ?_
     obtain rfl := Option.some.inj hr
     refine g_ret Try.func6 _ (.cons (resTmp rfl (Wk.refl _)) .nil) ?_
     rfl
    ·
     refine r_skip rfl rfl rfl ?_
     refine r_d rfl rfl rfl (s_pickF rfl rfl rfl) ?_
     refine r_d rfl rfl rfl (s_assign rfl rfl) ?_
     refine r_end ?_
     obtain rfl := Option.some.inj hr
     refine g_ret Try.func6 _ (.cons (resTmp rfl (Wk.refl _)) .nil) ?_
     rfl
   ·
    refine g_sub [(0, .lst (decls_a0.map enc_S_api_Decl)), (2, .int .i64 arity_a2), (4, .ptr (enc_S_api_Rule r_a1)), (7, .own u20_6 (l_6.map encA)), (8, .int .i64 ((0 : Nat) : Int))] (Sub.cons' rfl (Sub.cons' rfl (Sub.cons' rfl (Sub.cons' rfl (Sub.cons' rfl (Sub.nil _)))))) ?_
    refine g_loop (fun n env σ => ∃ (i_9 : Nat) (u_8 : Value), (n = l_6.length - i_9) ∧ (env = [(0, .lst (decls_a0.map enc_S_api_Decl)), (2, .int .i64 arity_a2), (4, .ptr (enc_S_api_Rule r_a1)), (7, .own u_8 (l_6.map encA)), (8, .int .i64 (i_9 : Int))]) ∧ (σ = [.row u_8 l_6.length 44 2]) ∧ (i_9 ≤ l_6.length) ∧ (lf_constraintlaw15_ScopeLocals_L0 kk0 arity_a2 decls_a0 (l_6.drop i_9) = some res)) _ ⟨0, u20_6, rfl, rfl, rfl, Nat.zero_le _, hr⟩ ?_
    rintro n _ _ ⟨i_9, u_8, rfl, rfl, rfl, hi0, hr⟩ IH0
    rcases listStep l_6 i_9 hi0 with ⟨ht0, hd0, he0⟩ | ⟨q_15, ht0, hd0, hq0, hlt0⟩
    ·
     rw [hd0, lf_constraintlaw15_ScopeLocals_L0] at hr
     refine g_seq ?_
     refine g_seq ?_
     refine g_run (by kernel_rfl) [(0, .d), (1, .d), (2, .d), (3, .d)] rfl ?_
     refine r_d rfl rfl rfl (s_move rfl rfl) ?_
     refine r_d rfl rfl rfl (s_move rfl rfl) ?_
     refine r_d rfl rfl rfl (m_len (f := encA) l_6 rfl el_L_api_Atom rfl (asl rfl)) ?_
     refine r_d rfl rfl rfl (s_cmp rfl rfl rfl rfl) ?_
     refine r_end ?_
     refine g_known 24 false rfl ht0 ?_
     refine g_condF rfl ?_
     refine g_exit rfl ?_
     refine g_sub [(4, .ptr (enc_S_api_Rule r_a1))] (Sub.cons' rfl (Sub.nil _)) ?_
     refine g_perm [] _ (pf0 _) ?_
     exact HK0 _ _ ⟨rfl, rfl, hr⟩
    ·
     rw [hd0, lf_constraintlaw15_ScopeLocals_L0] at hr
     refine g_seq ?_
     refine g_seq ?_
     refine g_run (by kernel_rfl) [(0, .d), (1, .d), (2, .d), (3, .d)] rfl ?_
     refine r_d rfl rfl rfl (s_move rfl rfl) ?_
     refine r_d rfl rfl rfl (s_move rfl rfl) ?_
     refine r_d rfl rfl rfl (m_len (f := encA) l_6 rfl el_L_api_Atom rfl (asl rfl)) ?_
     refine r_d rfl rfl rfl (s_cmp rfl rfl rfl rfl) ?_
     refine r_end ?_
     refine g_known 24 true rfl ht0 ?_
     refine g_condT rfl ?_
     refine g_skip ?_
     refine g_seq ?_
     refine g_block ?_
     refine g_seq ?_
     refine g_any (by kernel_rfl) (by kernel_rfl) [(0, .d), (1, .d), (2, .d), (3, .d), (4, .d), (5, .d), (6, .d), (7, .d), (8, .d), (9, .d), (10, .d), (11, .d), (12, .d), (13, .d), (14, .d), (15, .d), (16, .d), (17, .d), (18, .d), (19, .d), (20, .d), (21, .d), (22, .d), (23, .d), (24, .d), (25, .d), (26, .d), (27, .d), (28, .d), (29, .d), (30, .d), (31, .d), (32, .d), (33, .d), (34, .d), (35, .d), (36, .d), (37, .d), (38, .d), (39, .d), (40, .d), (41, .d), (42, .d), (43, .d), (44, .d), (45, .d)] (by kernel_rfl) ?_
     refine r_d rfl rfl rfl (s_move rfl rfl) ?_
     refine r_d rfl rfl rfl (s_move rfl rfl) ?_
     refine r_d rfl rfl rfl (s_move rfl rfl) ?_
     refine r_d rfl rfl rfl (m_index (f := encA) l_6 rfl el_L_api_Atom rfl (asl rfl) rfl hq0 sz_encA rfl) ?_
     refine r_d rfl rfl rfl (s_fieldAddr rfl fl_api_Atom_0 rfl rfl rfl rfl) ?_
     refine r_d rfl rfl rfl (s_load rfl rfl (by exact ty_string) rfl) ?_
     refine r_d rfl rfl rfl (s_move rfl rfl) ?_
     obtain ⟨r_16, hr_16, hr⟩ := bindS hr
     refine r_d rfl rfl rfl (s_callD rfl cl_scope_Declared (.cons rfl (Wk.refl _) (.cons rfl (Wk.refl _) (.cons rfl (Wk.refl _) .nil))) (lg_scope_Declared _ _ _ _ hr_16)) ?_
     refine r_d rfl rfl rfl (s_move rfl rfl) ?_
     refine r_d rfl rfl rfl (s_move rfl rfl) ?_
     refine r_d rfl rfl rfl (s_move rfl rfl) ?_
     refine r_d rfl rfl rfl (m_index (f := encA) l_6 rfl el_L_api_Atom rfl (asl rfl) rfl hq0 sz_encA rfl) ?_
     refine r_d rfl rfl rfl (s_fieldAddr rfl fl_api_Atom_0 rfl rfl rfl rfl) ?_
     refine r_d rfl rfl rfl (s_load rfl rfl (by exact ty_string) rfl) ?_
     refine r_d rfl rfl rfl (s_move rfl rfl) ?_
     obtain ⟨r_17, hr_17, hr⟩ := bindS hr
     refine r_d rfl rfl rfl (s_callD rfl cl_constraintref15_Declared (.cons rfl (Wk.refl _) (.cons rfl (Wk.refl _) (.cons rfl (Wk.refl _) .nil))) (lg_constraintref15_Declared _ _ _ _ hr_17)) ?_
     refine r_d rfl rfl rfl (s_neqB rfl Try.underlying4 rfl rfl) ?_
     refine r_d rfl rfl rfl (s_move rfl rfl) ?_
     refine r_sB 44 rfl hr (fun h44_17 hr => ?_) (fun h44_17 hr => ?_)
     ·
      refine r_skip rfl rfl rfl ?_
      refine r_skip rfl rfl rfl ?_
      refine r_skip rfl rfl rfl ?_
      refine r_skip rfl rfl rfl ?_
      refine r_skip rfl rfl rfl ?_
      refine r_skip rfl rfl rfl ?_
      refine r_skip rfl rfl rfl ?_
      refine r_skip rfl rfl rfl ?_
      refine r_skip rfl rfl rfl ?_
      refine r_skip rfl rfl rfl ?_
      refine r_skip rfl rfl rfl ?_
      refine r_skip rfl rfl rfl ?_
      refine r_skip rfl rfl rfl ?_
      refine r_skip rfl rfl rfl ?_
      refine r_skip rfl rfl rfl ?_
      refine r_skip rfl rfl rfl ?_
      refine r_skip rfl rfl rfl ?_
      refine r_skip rfl rfl rfl ?_
      refine r_skip rfl rfl rfl ?_
      refine r_skip rfl rfl rfl ?_
      refine r_skip rfl rfl rfl ?_
      refine r_skip rfl rfl rfl ?_
      refine r_skip rfl rfl rfl ?_
      refine r_skip rfl rfl rfl ?_
      refine r_skip rfl rfl rfl ?_
      refine r_skip rfl rfl rfl ?_
      refine r_skip rfl rfl rfl ?_
      refine r_d rfl rfl rfl (s_pickT rfl rfl rfl) ?_
      refine r_end ?_
      refine g_condT rfl ?_
      refine g_seq ?_
      refine g_run (by kernel_rfl) [(0, .d)] rfl ?_
      refine r_d rfl rfl rfl (s_assign rfl rfl) ?_
      refine r_end ?_
      obtain rfl := Option.some.inj hr
      refine g_ret Try.func6 _ (.cons (resTmp rfl (Wk.refl _)) .nil) ?_
      rfl
     ·
      refine r_d rfl rfl rfl (s_move rfl rfl) ?_
      refine r_d rfl rfl rfl (s_move rfl rfl) ?_
      refine r_d rfl rfl rfl (s_move rfl rfl) ?_
      refine r_d rfl rfl rfl (m_index (f := encA) l_6 rfl el_L_api_Atom rfl (asl rfl) rfl hq0 sz_encA rfl) ?_
      refine r_d rfl rfl rfl (s_fieldAddr rfl fl_api_Atom_0 rfl rfl rfl rfl) ?_
      refine r_d rfl rfl rfl (s_load rfl rfl (by exact ty_string) rfl) ?_
      refine r_d rfl rfl rfl (s_move rfl rfl) ?_
      refine r_d rfl rfl rfl (s_move rfl rfl) ?_
      refine r_d rfl rfl rfl (m_index (f := encA) l_6 rfl el_L_api_Atom rfl (asl rfl) rfl hq0 sz_encA rfl) ?_
      refine r_d rfl rfl rfl (s_fieldAddr rfl fl_api_Atom_1 rfl rfl rfl rfl) ?_
      refine r_d rfl rfl rfl (s_load rfl rfl (by exact ty_L_api_Term) rfl) ?_
      refine r_d rfl rfl rfl (m_len (f := encT) q_15.ts rfl el_L_api_Term rfl (asl rfl)) ?_
      obtain ⟨r_19, hr_19, hr⟩ := bindS hr
      refine r_d rfl rfl rfl (s_callD rfl cl_scope_Declared (.cons rfl (Wk.refl _) (.cons rfl (Wk.refl _) (.cons rfl (Wk.refl _) .nil))) (lg_scope_Declared _ _ _ _ hr_19)) ?_
      refine r_d rfl rfl rfl (s_move rfl rfl) ?_
      refine r_d rfl rfl rfl (s_move rfl rfl) ?_
      refine r_d rfl rfl rfl (s_move rfl rfl) ?_
      refine r_d rfl rfl rfl (m_index (f := encA) l_6 rfl el_L_api_Atom rfl (asl rfl) rfl hq0 sz_encA rfl) ?_
      refine r_d rfl rfl rfl (s_fieldAddr rfl fl_api_Atom_0 rfl rfl rfl rfl) ?_
      refine r_d rfl rfl rfl (s_load rfl rfl (by exact ty_string) rfl) ?_
      refine r_d rfl rfl rfl (s_move rfl rfl) ?_
      refine r_d rfl rfl rfl (s_move rfl rfl) ?_
      refine r_d rfl rfl rfl (m_index (f := encA) l_6 rfl el_L_api_Atom rfl (asl rfl) rfl hq0 sz_encA rfl) ?_
      refine r_d rfl rfl rfl (s_fieldAddr rfl fl_api_Atom_1 rfl rfl rfl rfl) ?_
      refine r_d rfl rfl rfl (s_load rfl rfl (by exact ty_L_api_Term) rfl) ?_
      refine r_d rfl rfl rfl (m_len (f := encT) q_15.ts rfl el_L_api_Term rfl (asl rfl)) ?_
      obtain ⟨r_20, hr_20, hr⟩ := bindS hr
      refine r_d rfl rfl rfl (s_callD rfl cl_constraintref15_Declared (.cons rfl (Wk.refl _) (.cons rfl (Wk.refl _) (.cons rfl (Wk.refl _) .nil))) (lg_constraintref15_Declared _ _ _ _ hr_20)) ?_
      refine r_d rfl rfl rfl (s_neqB rfl Try.underlying4 rfl rfl) ?_
      refine r_d rfl rfl rfl (s_pickF rfl rfl rfl) ?_
      refine r_end ?_
      refine g_sB 72 rfl hr (fun h72_20 hr => ?_) (fun h72_20 hr => ?_)
      ·
       refine g_condT rfl ?_
       refine g_seq ?_
       refine g_run (by kernel_rfl) [(0, .d)] rfl ?_
       refine r_d rfl rfl rfl (s_assign rfl rfl) ?_
       refine r_end ?_
       obtain rfl := Option.some.inj hr
       refine g_ret Try.func6 _ (.cons (resTmp rfl (Wk.refl _)) .nil) ?_
       rfl
      ·
       refine g_condF rfl ?_
       refine g_skip ?_
       refine g_inBlock ?_
       refine g_run (by kernel_rfl) [(0, .d), (1, .d), (2, .d)] rfl ?_
       refine r_d rfl rfl rfl (s_move rfl rfl) ?_
       refine r_d rfl rfl rfl (s_ar (r := ((i_9 + 1 : Nat) : Int)) rfl rfl rfl (by simp [iar]) (by omega)) ?_
       refine r_d rfl rfl rfl (s_assign rfl rfl) ?_
       refine r_end ?_
       refine g_sub [(0, .lst (decls_a0.map enc_S_api_Decl)), (2, .int .i64 arity_a2), (4, .ptr (enc_S_api_Rule r_a1)), (7, .own u_8 (l_6.map encA)), (8, .int .i64 ((i_9 + 1 : Nat) : Int))] (Sub.cons' rfl (Sub.cons' rfl (Sub.cons' rfl (Sub.cons' rfl (Sub.cons' rfl (Sub.nil _)))))) ?_
       exact IH0 _ _ _ (by omega) ⟨(i_9 + 1), u_8, rfl, rfl, rfl, (by omega), hr⟩

noncomputable def lf_constraintlaw15_ScopeFirst (p_a0 : S_api_Program) : Option (Bool) :=
  (lf_constraintlaw15_live.bind fun r_1 =>
  (bif (!r_1) then
  some (false)
  else
  ((lf_constraintref15_Great p_a0 300).bind fun r_3 =>
  (bif r_3 then
  some (true)
  else
  ((lf_scope_Check p_a0).bind fun r_5 =>
  (bif (r_5.2 == (0 : Int)) then
  (bif (r_5.2 != (0 : Int)) then
  some (true)
  else
  some ((r_5.1 == (0 : Int))))
  else
  (bif (r_5.1 == ((-1) : Int)) then
  (bif (r_5.2 != (0 : Int)) then
  some (true)
  else
  some ((r_5.1 == (0 : Int))))
  else
  (bif (decide (r_5.1 < (0 : Int))) then
  some (false)
  else
  (bif (decide (r_5.1 ≥ (p_a0.f1_Rules.length : Int))) then
  some (false)
  else
  ((subO p_a0.f1_Rules 0 r_5.1).bind fun l_12 =>
  ((lf_scope_Check (⟨p_a0.f0_Decls, l_12⟩ : S_api_Program)).bind fun r_13 =>
  ((subO p_a0.f1_Rules r_5.1 (wr (r_5.1 + (1 : Int)))).bind fun l_14 =>
  ((lf_scope_Check (⟨p_a0.f0_Decls, l_14⟩ : S_api_Program)).bind fun r_15 =>
  (bif (r_13.2 == (0 : Int)) then
  (bif (r_15.1 == (0 : Int)) then
  (bif (r_15.2 == r_5.2) then
  ((getI p_a0.f1_Rules r_5.1).bind fun q_19 =>
  ((lf_scope_CheckRule p_a0.f0_Decls q_19).bind fun r_20 =>
  some ((r_20 == r_5.2))))
  else
  some (false))
  else
  some (false))
  else
  some (false)))))))))))))))

set_option maxHeartbeats 1000000 in
theorem lg_constraintlaw15_ScopeFirst (p_a0 : S_api_Program) (res : Bool) (hr : lf_constraintlaw15_ScopeFirst p_a0 = some res) : Gives Try.prog 8 [enc_S_api_Program p_a0] (.bool res) := by
  unfold lf_constraintlaw15_ScopeFirst at hr
  refine spec_env [(0, enc_S_api_Program p_a0)] Try.func8 rfl rfl fun K hK => ?_
  refine g_seq ?_
  refine g_run (by kernel_rfl) [(0, .d), (1, .d)] rfl ?_
  refine r_d rfl rfl rfl (s_box rfl rfl rfl) ?_
  refine r_d rfl rfl rfl (s_assign rfl rfl) ?_
  refine r_end ?_
  refine g_seq ?_
  refine g_seq ?_
  refine g_run (by kernel_rfl) [(0, .d), (1, .d)] rfl ?_
  obtain ⟨r_1, hr_1, hr⟩ := bindS hr
  refine r_d rfl rfl rfl (s_callD rfl cl_constraintlaw15_live .nil (lg_constraintlaw15_live _ hr_1)) ?_
  refine r_d rfl rfl rfl (s_not rfl rfl) ?_
  refine r_end ?_
  refine g_sB 10 rfl hr (fun h10_1 hr => ?_) (fun h10_1 hr => ?_)
  ·
   refine g_condT rfl ?_
   refine g_seq ?_
   refine g_run (by kernel_rfl) [(0, .d)] rfl ?_
   refine r_d rfl rfl rfl (s_assign rfl rfl) ?_
   refine r_end ?_
   obtain rfl := Option.some.inj hr
   refine g_ret Try.func8 _ (.cons (resTmp rfl (Wk.refl _)) .nil) ?_
   rfl
  ·
   refine g_condF rfl ?_
   refine g_skip ?_
   refine g_seq ?_
   refine g_seq ?_
   refine g_run (by kernel_rfl) [(0, .d), (1, .d)] rfl ?_
   refine r_d rfl rfl rfl (s_load rfl rfl (by exact ty_api_Program) (sz_S_api_Program _)) ?_
   obtain ⟨r_3, hr_3, hr⟩ := bindS hr
   refine r_d rfl rfl rfl (s_callD rfl cl_constraintref15_Great (.cons rfl (Wk.refl _) (.cons rfl (Wk.refl _) .nil)) (lg_constraintref15_Great _ _ _ hr_3)) ?_
   refine r_end ?_
   refine g_sB 12 rfl hr (fun h12_3 hr => ?_) (fun h12_3 hr => ?_)
   ·
    refine g_condT rfl ?_
    refine g_seq ?_
    refine g_run (by kernel_rfl) [(0, .d)] rfl ?_
    refine r_d rfl rfl rfl (s_assign rfl rfl) ?_
    refine r_end ?_
    obtain rfl := Option.some.inj hr
    refine g_ret Try.func8 _ (.cons (resTmp rfl (Wk.refl _)) .nil) ?_
    rfl
   ·
    refine g_condF rfl ?_
    refine g_skip ?_
    refine g_seq ?_
    refine g_run (by kernel_rfl) [(0, .d), (1, .d), (2, .d), (3, .d), (4, .d), (5, .d), (6, .d)] rfl ?_
    refine r_d rfl rfl rfl (s_load rfl rfl (by exact ty_api_Program) (sz_S_api_Program _)) ?_
    obtain ⟨r_5, hr_5, hr⟩ := bindS hr
    refine r_d rfl rfl rfl (s_callD rfl cl_scope_Check (.cons rfl (Wk.refl _) .nil) (lg_scope_Check _ _ hr_5)) ?_
    refine r_d rfl rfl rfl (s_move rfl rfl) ?_
    refine r_d rfl rfl rfl (s_extract rfl rfl rfl) ?_
    refine r_d rfl rfl rfl (s_extract rfl rfl rfl) ?_
    refine r_d rfl rfl rfl (s_assign rfl rfl) ?_
    refine r_d rfl rfl rfl (s_assign rfl rfl) ?_
    refine r_end ?_
    refine g_seq ?_
    refine g_seq ?_
    refine g_run (by kernel_rfl) [(0, .d), (1, .d), (2, .d), (3, .d), (4, .d), (5, .d)] rfl ?_
    refine r_d rfl rfl rfl (s_move rfl rfl) ?_
    refine r_d rfl rfl rfl (s_cmp rfl rfl rfl rfl) ?_
    refine r_d rfl rfl rfl (s_move rfl rfl) ?_
    refine r_sB 20 rfl hr (fun h20_5 hr => ?_) (fun h20_5 hr => ?_)
    ·
     refine r_skip rfl rfl rfl ?_
     refine r_skip rfl rfl rfl ?_
     refine r_d rfl rfl rfl (s_pickT rfl rfl rfl) ?_
     refine r_end ?_
     refine g_condT rfl ?_
     refine g_seq ?_
     refine g_run (by kernel_rfl) [(0, .d), (1, .d), (2, .d), (3, .d), (4, .d), (5, .d), (6, .d)] rfl ?_
     refine r_d rfl rfl rfl (s_move rfl rfl) ?_
     refine r_d rfl rfl rfl (s_cmp rfl rfl rfl rfl) ?_
     refine r_d rfl rfl rfl (s_move rfl rfl) ?_
     refine r_sB 26 rfl hr (fun h26_6 hr => ?_) (fun h26_6 hr => ?_)
     ·
      refine r_skip rfl rfl rfl ?_
      refine r_skip rfl rfl rfl ?_
      refine r_d rfl rfl rfl (s_pickT rfl rfl rfl) ?_
      refine r_d rfl rfl rfl (s_assign rfl rfl) ?_
      refine r_end ?_
      obtain rfl := Option.some.inj hr
      refine g_ret Try.func8 _ (.cons (resTmp rfl (Wk.refl _)) .nil) ?_
      rfl
     ·
      refine r_d rfl rfl rfl (s_move rfl rfl) ?_
      refine r_d rfl rfl rfl (s_cmp rfl rfl rfl rfl) ?_
      refine r_d rfl rfl rfl (s_pickF rfl rfl rfl) ?_
      refine r_d rfl rfl rfl (s_assign rfl rfl) ?_
      refine r_end ?_
      obtain rfl := Option.some.inj hr
      refine g_ret Try.func8 _ (.cons (resTmp rfl (Wk.refl _)) .nil) ?_
      rfl
    ·
     refine r_d rfl rfl rfl (s_move rfl rfl) ?_
     refine r_d rfl rfl rfl (s_cmp rfl rfl rfl rfl) ?_
     refine r_d rfl rfl rfl (s_pickF rfl rfl rfl) ?_
     refine r_end ?_
     refine g_sB 23 rfl hr (fun h23_7 hr => ?_) (fun h23_7 hr => ?_)
     ·
      refine g_condT rfl ?_
      refine g_seq ?_
      refine g_run (by kernel_rfl) [(0, .d), (1, .d), (2, .d), (3, .d), (4, .d), (5, .d), (6, .d)] rfl ?_
      refine r_d rfl rfl rfl (s_move rfl rfl) ?_
      refine r_d rfl rfl rfl (s_cmp rfl rfl rfl rfl) ?_
      refine r_d rfl rfl rfl (s_move rfl rfl) ?_
      refine r_sB 26 rfl hr (fun h26_8 hr => ?_) (fun h26_8 hr => ?_)
      ·
       refine r_skip rfl rfl rfl ?_
       refine r_skip rfl rfl rfl ?_
       refine r_d rfl rfl rfl (s_pickT rfl rfl rfl) ?_
       refine r_d rfl rfl rfl (s_assign rfl rfl) ?_
       refine r_end ?_
       obtain rfl := Option.some.inj hr
       refine g_ret Try.func8 _ (.cons (resTmp rfl (Wk.refl _)) .nil) ?_
       rfl
      ·
       refine r_d rfl rfl rfl (s_move rfl rfl) ?_
       refine r_d rfl rfl rfl (s_cmp rfl rfl rfl rfl) ?_
       refine r_d rfl rfl rfl (s_pickF rfl rfl rfl) ?_
       refine r_d rfl rfl rfl (s_assign rfl rfl) ?_
       refine r_end ?_
       obtain rfl := Option.some.inj hr
       refine g_ret Try.func8 _ (.cons (resTmp rfl (Wk.refl _)) .nil) ?_
       rfl
     ·
      refine g_condF rfl ?_
      refine g_skip ?_
      refine g_seq ?_
      refine g_seq ?_
      refine g_run (by kernel_rfl) [(0, .d), (1, .d), (2, .d), (3, .d), (4, .d), (5, .d), (6, .d), (7, .d), (8, .d)] rfl ?_
      refine r_d rfl rfl rfl (s_move rfl rfl) ?_
      refine r_d rfl rfl rfl (s_cmp rfl rfl rfl rfl) ?_
      refine r_d rfl rfl rfl (s_move rfl rfl) ?_
      refine r_sB 32 rfl hr (fun h32_9 hr => ?_) (fun h32_9 hr => ?_)
      ·
       refine r_skip rfl rfl rfl ?_
       refine r_skip rfl rfl rfl ?_
       refine r_skip rfl rfl rfl ?_
       refine r_skip rfl rfl rfl ?_
       refine r_skip rfl rfl rfl ?_
       refine r_d rfl rfl rfl (s_pickT rfl rfl rfl) ?_
       refine r_end ?_
       refine g_condT rfl ?_
       refine g_seq ?_
       refine g_run (by kernel_rfl) [(0, .d)] rfl ?_
       refine r_d rfl rfl rfl (s_assign rfl rfl) ?_
       refine r_end ?_
       obtain rfl := Option.some.inj hr
       refine g_ret Try.func8 _ (.cons (resTmp rfl (Wk.refl _)) .nil) ?_
       rfl
      ·
       refine r_d rfl rfl rfl (s_move rfl rfl) ?_
       refine r_d rfl rfl rfl (s_fieldAddr rfl fl_api_Program_1 rfl rfl rfl rfl) ?_
       refine r_d rfl rfl rfl (s_load rfl rfl (by exact ty_L_api_Rule) rfl) ?_
       refine r_d rfl rfl rfl (m_len (f := enc_S_api_Rule) p_a0.f1_Rules rfl el_L_api_Rule rfl (asl rfl)) ?_
       refine r_d rfl rfl rfl (s_cmp rfl rfl rfl rfl) ?_
       refine r_d rfl rfl rfl (s_pickF rfl rfl rfl) ?_
       refine r_end ?_
       refine g_sB 38 rfl hr (fun h38_10 hr => ?_) (fun h38_10 hr => ?_)
       ·
        refine g_condT rfl ?_
        refine g_seq ?_
        refine g_run (by kernel_rfl) [(0, .d)] rfl ?_
        refine r_d rfl rfl rfl (s_assign rfl rfl) ?_
        refine r_end ?_
        obtain rfl := Option.some.inj hr
        refine g_ret Try.func8 _ (.cons (resTmp rfl (Wk.refl _)) .nil) ?_
        rfl
       ·
        refine g_condF rfl ?_
        refine g_skip ?_
        refine g_seq ?_
        refine g_any (by kernel_rfl) (by kernel_rfl) [(0, .d), (1, .d), (2, .d), (3, .d), (4, .d), (5, .d), (6, .d), (7, .d), (8, .d), (9, .d), (10, .d), (11, .d), (12, .d)] (by kernel_rfl) ?_
        refine r_d rfl rfl rfl (s_fieldAddr rfl fl_api_Program_0 rfl rfl rfl rfl) ?_
        refine r_d rfl rfl rfl (s_load rfl rfl (by exact ty_L_api_Decl) rfl) ?_
        refine r_d rfl rfl rfl (s_fieldAddr rfl fl_api_Program_1 rfl rfl rfl rfl) ?_
        refine r_d rfl rfl rfl (s_load rfl rfl (by exact ty_L_api_Rule) rfl) ?_
        refine r_d rfl rfl rfl (s_move rfl rfl) ?_
        obtain ⟨l_12, hl_12, hr⟩ := bindS hr
        refine r_d rfl rfl rfl (m_sub (f := enc_S_api_Rule) p_a0.f1_Rules 0 r_5.1 rfl el_L_api_Rule rfl (asl rfl) bl_none (bh_some rfl) sz_S_api_Rule hl_12) ?_
        refine r_d rfl rfl rfl (s_build rfl bt_api_Program (.cons rfl (Wk.refl _) (.cons rfl (Wk.refl _) .nil)) (.cons rfl rfl rfl (.cons rfl rfl rfl (.nil _)))) ?_
        obtain ⟨r_13, hr_13, hr⟩ := bindS hr
        refine r_d rfl rfl rfl (s_callD rfl cl_scope_Check (.cons rfl (Wk.refl _) .nil) (lg_scope_Check _ _ hr_13)) ?_
        refine r_d rfl rfl rfl (s_move rfl rfl) ?_
        refine r_d rfl rfl rfl (s_extract rfl rfl rfl) ?_
        refine r_d rfl rfl rfl (s_extract rfl rfl rfl) ?_
        refine r_d rfl rfl rfl (s_assign rfl rfl) ?_
        refine r_d rfl rfl rfl (s_assign rfl rfl) ?_
        refine r_end ?_
        refine g_seq ?_
        refine g_any (by kernel_rfl) (by kernel_rfl) [(0, .d), (1, .d), (2, .d), (3, .d), (4, .d), (5, .d), (6, .d), (7, .d), (8, .d), (9, .d), (10, .d), (11, .d), (12, .d), (13, .d), (14, .d)] (by kernel_rfl) ?_
        refine r_d rfl rfl rfl (s_fieldAddr rfl fl_api_Program_0 rfl rfl rfl rfl) ?_
        refine r_d rfl rfl rfl (s_load rfl rfl (by exact ty_L_api_Decl) rfl) ?_
        refine r_d rfl rfl rfl (s_fieldAddr rfl fl_api_Program_1 rfl rfl rfl rfl) ?_
        refine r_d rfl rfl rfl (s_load rfl rfl (by exact ty_L_api_Rule) rfl) ?_
        refine r_d rfl rfl rfl (s_move rfl rfl) ?_
        refine r_d rfl rfl rfl (s_move rfl rfl) ?_
        refine r_d rfl rfl rfl (s_arW rfl rfl rfl rfl) ?_
        obtain ⟨l_14, hl_14, hr⟩ := bindS hr
        refine r_d rfl rfl rfl (m_sub (f := enc_S_api_Rule) p_a0.f1_Rules r_5.1 (wr (r_5.1 + (1 : Int))) rfl el_L_api_Rule rfl (asl rfl) (bl_some rfl) (bh_some rfl) sz_S_api_Rule hl_14) ?_
        refine r_d rfl rfl rfl (s_build rfl bt_api_Program (.cons rfl (Wk.refl _) (.cons rfl (Wk.refl _) .nil)) (.cons rfl rfl rfl (.cons rfl rfl rfl (.nil _)))) ?_
        obtain ⟨r_15, hr_15, hr⟩ := bindS hr
        refine r_d rfl rfl rfl (s_callD rfl cl_scope_Check (.cons rfl (Wk.refl _) .nil) (lg_scope_Check _ _ hr_15)) ?_
        refine r_d rfl rfl rfl (s_move rfl rfl) ?_
        refine r_d rfl rfl rfl (s_extract rfl rfl rfl) ?_
        refine r_d rfl rfl rfl (s_extract rfl rfl rfl) ?_
        refine r_d rfl rfl rfl (s_assign rfl rfl) ?_
        refine r_d rfl rfl rfl (s_assign rfl rfl) ?_
        refine r_end ?_
        refine g_seq ?_
        refine g_any (by kernel_rfl) (by kernel_rfl) [(0, .d), (1, .d), (2, .d), (3, .d), (4, .d), (5, .d), (6, .d), (7, .d), (8, .d), (9, .d), (10, .d), (11, .d), (12, .d), (13, .d), (14, .d), (15, .d), (16, .d), (17, .d), (18, .d), (19, .d), (20, .d), (21, .d), (22, .d), (23, .d)] (by kernel_rfl) ?_
        refine r_d rfl rfl rfl (s_move rfl rfl) ?_
        refine r_d rfl rfl rfl (s_cmp rfl rfl rfl rfl) ?_
        refine r_d rfl rfl rfl (s_move rfl rfl) ?_
        refine r_sB 65 rfl hr (fun h65_15 hr => ?_) (fun h65_15 hr => ?_)
        ·
         refine r_d rfl rfl rfl (s_move rfl rfl) ?_
         refine r_d rfl rfl rfl (s_cmp rfl rfl rfl rfl) ?_
         refine r_d rfl rfl rfl (s_pickT rfl rfl rfl) ?_
         refine r_d rfl rfl rfl (s_move rfl rfl) ?_
         refine r_sB 69 rfl hr (fun h69_16 hr => ?_) (fun h69_16 hr => ?_)
         ·
          refine r_d rfl rfl rfl (s_move rfl rfl) ?_
          refine r_d rfl rfl rfl (s_move rfl rfl) ?_
          refine r_d rfl rfl rfl (s_cmp rfl rfl rfl rfl) ?_
          refine r_d rfl rfl rfl (s_pickT rfl rfl rfl) ?_
          refine r_d rfl rfl rfl (s_move rfl rfl) ?_
          refine r_sB 74 rfl hr (fun h74_17 hr => ?_) (fun h74_17 hr => ?_)
          ·
           refine r_d rfl rfl rfl (s_fieldAddr rfl fl_api_Program_0 rfl rfl rfl rfl) ?_
           refine r_d rfl rfl rfl (s_load rfl rfl (by exact ty_L_api_Decl) rfl) ?_
           refine r_d rfl rfl rfl (s_fieldAddr rfl fl_api_Program_1 rfl rfl rfl rfl) ?_
           refine r_d rfl rfl rfl (s_load rfl rfl (by exact ty_L_api_Rule) rfl) ?_
           refine r_d rfl rfl rfl (s_move rfl rfl) ?_
           obtain ⟨q_19, hq_19, hr⟩ := bindS hr
           refine r_d rfl rfl rfl (m_index (f := enc_S_api_Rule) p_a0.f1_Rules rfl el_L_api_Rule rfl (asl rfl) rfl hq_19 sz_S_api_Rule rfl) ?_
           refine r_d rfl rfl rfl (s_load rfl rfl (by exact ty_api_Rule) (sz_S_api_Rule _)) ?_
           obtain ⟨r_20, hr_20, hr⟩ := bindS hr
           refine r_d rfl rfl rfl (s_callD rfl cl_scope_CheckRule (.cons rfl (Wk.refl _) (.cons rfl (Wk.refl _) .nil)) (lg_scope_CheckRule _ _ _ hr_20)) ?_
           refine r_d rfl rfl rfl (s_move rfl rfl) ?_
           refine r_d rfl rfl rfl (s_cmp rfl rfl rfl rfl) ?_
           refine r_d rfl rfl rfl (s_pickT rfl rfl rfl) ?_
           refine r_d rfl rfl rfl (s_assign rfl rfl) ?_
           refine r_end ?_
           obtain rfl := Option.some.inj hr
           refine g_ret Try.func8 _ (.cons (resTmp rfl (Wk.refl _)) .nil) ?_
           rfl
          ·
           refine r_skip rfl rfl rfl ?_
           refine r_skip rfl rfl rfl ?_
           refine r_skip rfl rfl rfl ?_
           refine r_skip rfl rfl rfl ?_
           refine r_skip rfl rfl rfl ?_
           refine r_skip rfl rfl rfl ?_
           refine r_skip rfl rfl rfl ?_
           refine r_skip rfl rfl rfl ?_
           refine r_skip rfl rfl rfl ?_
           refine r_skip rfl rfl rfl ?_
           refine r_d rfl rfl rfl (s_pickF rfl rfl rfl) ?_
           refine r_d rfl rfl rfl (s_assign rfl rfl) ?_
           refine r_end ?_
           obtain rfl := Option.some.inj hr
           refine g_ret Try.func8 _ (.cons (resTmp rfl (Wk.refl _)) .nil) ?_
           rfl
         ·
          refine r_skip rfl rfl rfl ?_
          refine r_skip rfl rfl rfl ?_
          refine r_skip rfl rfl rfl ?_
          refine r_d rfl rfl rfl (s_pickF rfl rfl rfl) ?_
          refine r_d rfl rfl rfl (s_move rfl rfl) ?_
          refine r_skip rfl rfl rfl ?_
          refine r_skip rfl rfl rfl ?_
          refine r_skip rfl rfl rfl ?_
          refine r_skip rfl rfl rfl ?_
          refine r_skip rfl rfl rfl ?_
          refine r_skip rfl rfl rfl ?_
          refine r_skip rfl rfl rfl ?_
          refine r_skip rfl rfl rfl ?_
          refine r_skip rfl rfl rfl ?_
          refine r_skip rfl rfl rfl ?_
          refine r_d rfl rfl rfl (s_pickF rfl rfl rfl) ?_
          refine r_d rfl rfl rfl (s_assign rfl rfl) ?_
          refine r_end ?_
          obtain rfl := Option.some.inj hr
          refine g_ret Try.func8 _ (.cons (resTmp rfl (Wk.refl _)) .nil) ?_
          rfl
        ·
         refine r_skip rfl rfl rfl ?_
         refine r_skip rfl rfl rfl ?_
         refine r_d rfl rfl rfl (s_pickF rfl rfl rfl) ?_
         refine r_d rfl rfl rfl (s_move rfl rfl) ?_
         refine r_skip rfl rfl rfl ?_
         refine r_skip rfl rfl rfl ?_
         refine r_skip rfl rfl rfl ?_
         refine r_d rfl rfl rfl (s_pickF rfl rfl rfl) ?_
         refine r_d rfl rfl rfl (s_move rfl rfl) ?_
         refine r_skip rfl rfl rfl ?_
         refine r_skip rfl rfl rfl ?_
         refine r_skip rfl rfl rfl ?_
         refine r_skip rfl rfl rfl ?_
         refine r_skip rfl rfl rfl ?_
         refine r_skip rfl rfl rfl ?_
         refine r_skip rfl rfl rfl ?_
         refine r_skip rfl rfl rfl ?_
         refine r_skip rfl rfl rfl ?_
         refine r_skip rfl rfl rfl ?_
         refine r_d rfl rfl rfl (s_pickF rfl rfl rfl) ?_
         refine r_d rfl rfl rfl (s_assign rfl rfl) ?_
         refine r_end ?_
         obtain rfl := Option.some.inj hr
         refine g_ret Try.func8 _ (.cons (resTmp rfl (Wk.refl _)) .nil) ?_
         rfl

end Go.Proofs.Ytgndcnknmkcacaa

