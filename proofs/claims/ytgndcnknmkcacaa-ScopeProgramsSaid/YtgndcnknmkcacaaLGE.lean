/-
  Texts of the seat, merged.
-/
import Derived.Test.YtgndcnknmkcacaaLGA
import Derived.Test.YtgndcnknmkcacaaLGB
import Derived.Test.YtgndcnknmkcacaaLGC
import Derived.Test.YtgndcnknmkcacaaLGD
import Derived.Test.YtgndcnknmkcacaaChecked
import Derived.WalkKit
import Derived.Lib.Hide
import Derived.Lib.AppendStr
import Derived.Deep.AppendLies
import Derived.Deep.AppendSrc
import Derived.Deep.Draws
import Derived.Deep.QuietTactic
import Derived.BigQuiet
import Derived.Deep.RegionWith
import Derived.Maps.AppendAt
import Derived.WalkSpells
import Derived.Orders
import Derived.Deep.Slices
import Derived.Deep.Fields
import Derived.ChangeArms
import Derived.Lib.OthersKept
import Derived.Lib.TrimU
import Derived.Lib.IndexAny
import Derived.Deep.LoopGhost
import Derived.Lib.Bytealg
import Derived.RangeFuncBox
import Derived.RangeFuncNested
import Derived.RangeFuncBound
import Derived.RangeFuncCalls
import Derived.RangeFuncLeaves
import Derived.Shelf.Abstract
import Derived.OwnWalkIn
import Derived.TacticsInMore
import Derived.LoopNIn
import Derived.LoopIn
import Derived.RangeFuncWrites
import Derived.Maps.OwnIn
import Derived.Maps.Views
import Derived.Laws.OwnMore
import Derived.Maps.OwnSet
import Derived.Test.YtgndcnknmkcacaaRows
import Derived.ProofKit
import Derived.OpenShut
import Derived.Carry
import Derived.Great.BuildSlice
import Derived.ArgAppend
import Derived.Laws.MakeOwn
import Derived.Laws.Cover3
import Derived.Laws.CopyRow
import Derived.MapKept
import Derived.Maps.RangeRun
import Derived.DeepKeys5
import Derived.WideKeyRuns
import Derived.Tactics
import Derived.Tactics2
import Derived.Defers
import Derived.Recover
import Derived.Laws.Pointers
set_option linter.unusedVariables false
set_option linter.unusedSimpArgs false
set_option linter.unnecessarySimpa false
set_option linter.all false

namespace Go.Proofs.Ytgndcnknmkcacaa
set_option maxRecDepth 100000
open Go.RowKit

set_option maxHeartbeats 1000000 in
theorem lg_scope_Check (p_a0 : S_api_Program) (res : Int × Int) (hr : lf_scope_Check p_a0 = some res) : Gives Try.prog 10 [enc_S_api_Program p_a0] (.tup [.int .i64 res.1, .int .i64 res.2]) := by
  unfold lf_scope_Check at hr
  refine spec_env [(0, enc_S_api_Program p_a0)] Try.func10 rfl rfl fun K hK => ?_
  refine g_seq ?_
  refine g_run (by kernel_rfl) [(0, .d), (1, .d), (2, .d)] rfl ?_
  refine r_d rfl rfl rfl (s_box rfl rfl rfl) ?_
  refine r_d rfl rfl rfl (s_assign rfl rfl) ?_
  refine r_d rfl rfl rfl (s_assign rfl rfl) ?_
  refine r_end ?_
  refine g_seq ?_
  refine g_run (by kernel_rfl) [(0, .d), (1, .d), (2, .d)] rfl ?_
  refine r_d rfl rfl rfl (s_makeFunc rfl rfl rfl) ?_
  obtain ⟨r_1, hr_1, hr⟩ := bindS hr
  refine r_d rfl rfl rfl (s_callD rfl cl_scope_caught (.cons rfl (Wk.refl _) .nil) (caught_gives rfl cl_scope_Check_1 (lg_scope_Check_1 _ _ hr_1))) ?_
  refine r_d rfl rfl rfl (s_assign rfl rfl) ?_
  refine r_end ?_
  refine g_seq ?_
  refine g_seq ?_
  refine g_run (by kernel_rfl) [(0, .d), (1, .d)] rfl ?_
  refine r_d rfl rfl rfl (s_move rfl rfl) ?_
  refine r_d rfl rfl rfl (s_cmp rfl rfl rfl rfl) ?_
  refine r_end ?_
  refine g_sB 10 rfl hr (fun h10_1 hr => ?_) (fun h10_1 hr => ?_)
  ·
   refine g_condT rfl ?_
   refine g_seq ?_
   refine g_run (by kernel_rfl) [(0, .d), (1, .d), (2, .d)] rfl ?_
   refine r_d rfl rfl rfl (s_move rfl rfl) ?_
   refine r_d rfl rfl rfl (s_assign rfl rfl) ?_
   refine r_d rfl rfl rfl (s_assign rfl rfl) ?_
   refine r_end ?_
   obtain rfl := Option.some.inj hr
   refine g_ret Try.func10 _ (.cons (resTmp rfl (Wk.refl _)) (.cons (resTmp rfl (Wk.refl _)) .nil)) ?_
   rfl
  ·
   refine g_condF rfl ?_
   refine g_skip ?_
   refine g_seq ?_
   refine g_seq ?_
   refine g_run (by kernel_rfl) [(0, .d), (1, .d), (2, .d), (3, .d)] rfl ?_
   refine r_d rfl rfl rfl (s_fieldAddr rfl fl_api_Program_1 rfl rfl rfl rfl) ?_
   refine r_d rfl rfl rfl (s_load rfl rfl (by exact ty_L_api_Rule) rfl) ?_
   refine r_d rfl rfl rfl (m_len (f := enc_S_api_Rule) p_a0.f1_Rules rfl el_L_api_Rule rfl (asl rfl)) ?_
   refine r_d rfl rfl rfl (s_move rfl rfl) ?_
   refine r_end ?_
   obtain ⟨kk0, hkk0, hr⟩ := exK (fun k => lf_scope_Check_L0 k p_a0 p_a0.f1_Rules 0) hr
   refine g_len 13 rfl (asl rfl) fun hla0 => ?_
   simp only [List.length_map] at hla0
   refine g_blockJ (fun env σ => env = [] ∧ σ = [] ∧ kk0 = some res) ?_ (fun HK0 => ?_)
   ·
    rintro _ _ ⟨rfl, rfl, hr⟩
    rw [hkk0] at hr
    refine g_seq ?_
    refine g_run (by kernel_rfl) [(0, .d), (1, .d)] rfl ?_
    refine r_d rfl rfl rfl (s_assign rfl rfl) ?_
    refine r_d rfl rfl rfl (s_assign rfl rfl) ?_
    refine r_end ?_
    obtain rfl := Option.some.inj hr
    refine g_ret Try.func10 _ (.cons (resTmp rfl (Wk.refl _)) (.cons (resTmp rfl (Wk.refl _)) .nil)) ?_
    rfl
   ·
    refine g_sub [(1, .ptr (enc_S_api_Program p_a0)), (14, .int .i64 (p_a0.f1_Rules.length : Int)), (15, .int .i64 ((0 : Nat) : Int))] (Sub.cons' rfl (Sub.cons' rfl (Sub.cons' rfl (Sub.nil _)))) ?_
    refine g_loop (fun n env σ => ∃ (i_3 : Nat), (n = p_a0.f1_Rules.length - i_3) ∧ (env = [(1, .ptr (enc_S_api_Program p_a0)), (14, .int .i64 (p_a0.f1_Rules.length : Int)), (15, .int .i64 (i_3 : Int))]) ∧ (σ = []) ∧ (i_3 ≤ p_a0.f1_Rules.length) ∧ (lf_scope_Check_L0 kk0 p_a0 (p_a0.f1_Rules.drop i_3) i_3 = some res)) _ ⟨0, rfl, rfl, rfl, Nat.zero_le _, hr⟩ ?_
    rintro n _ _ ⟨i_3, rfl, rfl, rfl, hi0, hr⟩ IH0
    rcases listStep p_a0.f1_Rules i_3 hi0 with ⟨ht0, hd0, he0⟩ | ⟨q_4, ht0, hd0, hq0, hlt0⟩
    ·
     rw [hd0, lf_scope_Check_L0] at hr
     refine g_seq ?_
     refine g_run (by kernel_rfl) [(0, .d)] rfl ?_
     refine r_d rfl rfl rfl (s_cmp rfl rfl rfl rfl) ?_
     refine r_end ?_
     refine g_seq ?_
     refine g_known 16 false rfl ht0 ?_
     refine g_condF rfl ?_
     refine g_exit rfl ?_
     refine g_sub [] (Sub.nil _) ?_
     exact HK0 _ _ ⟨rfl, rfl, hr⟩
    ·
     rw [hd0, lf_scope_Check_L0] at hr
     refine g_seq ?_
     refine g_run (by kernel_rfl) [(0, .d)] rfl ?_
     refine r_d rfl rfl rfl (s_cmp rfl rfl rfl rfl) ?_
     refine r_end ?_
     refine g_seq ?_
     refine g_known 16 true rfl ht0 ?_
     refine g_condT rfl ?_
     refine g_skip ?_
     refine g_seq ?_
     refine g_block ?_
     refine g_seq ?_
     refine g_run (by kernel_rfl) [(0, .d), (1, .d)] rfl ?_
     refine r_d rfl rfl rfl (s_move rfl rfl) ?_
     refine r_d rfl rfl rfl (s_assign rfl rfl) ?_
     refine r_end ?_
     refine g_seq ?_
     refine g_any (by kernel_rfl) (by kernel_rfl) [(0, .d), (1, .d), (2, .d), (3, .d), (4, .d), (5, .d), (6, .d), (7, .d), (8, .d)] (by kernel_rfl) ?_
     refine r_d rfl rfl rfl (s_fieldAddr rfl fl_api_Program_0 rfl rfl rfl rfl) ?_
     refine r_d rfl rfl rfl (s_load rfl rfl (by exact ty_L_api_Decl) rfl) ?_
     refine r_d rfl rfl rfl (s_fieldAddr rfl fl_api_Program_1 rfl rfl rfl rfl) ?_
     refine r_d rfl rfl rfl (s_load rfl rfl (by exact ty_L_api_Rule) rfl) ?_
     refine r_d rfl rfl rfl (s_move rfl rfl) ?_
     refine r_d rfl rfl rfl (m_index (f := enc_S_api_Rule) p_a0.f1_Rules rfl el_L_api_Rule rfl (asl rfl) rfl hq0 sz_S_api_Rule rfl) ?_
     refine r_d rfl rfl rfl (s_load rfl rfl (by exact ty_api_Rule) (sz_S_api_Rule _)) ?_
     obtain ⟨r_5, hr_5, hr⟩ := bindS hr
     refine r_d rfl rfl rfl (s_callD rfl cl_scope_CheckRule (.cons rfl (Wk.refl _) (.cons rfl (Wk.refl _) .nil)) (lg_scope_CheckRule _ _ _ hr_5)) ?_
     refine r_d rfl rfl rfl (s_assign rfl rfl) ?_
     refine r_end ?_
     refine g_seq ?_
     refine g_run (by kernel_rfl) [(0, .d), (1, .d)] rfl ?_
     refine r_d rfl rfl rfl (s_move rfl rfl) ?_
     refine r_d rfl rfl rfl (s_cmp rfl rfl rfl rfl) ?_
     refine r_end ?_
     refine g_sB 27 rfl hr (fun h27_5 hr => ?_) (fun h27_5 hr => ?_)
     ·
      refine g_condT rfl ?_
      refine g_seq ?_
      refine g_run (by kernel_rfl) [(0, .d), (1, .d), (2, .d), (3, .d)] rfl ?_
      refine r_d rfl rfl rfl (s_move rfl rfl) ?_
      refine r_d rfl rfl rfl (s_move rfl rfl) ?_
      refine r_d rfl rfl rfl (s_assign rfl rfl) ?_
      refine r_d rfl rfl rfl (s_assign rfl rfl) ?_
      refine r_end ?_
      obtain rfl := Option.some.inj hr
      refine g_ret Try.func10 _ (.cons (resTmp rfl (Wk.refl _)) (.cons (resTmp rfl (Wk.refl _)) .nil)) ?_
      rfl
     ·
      refine g_condF rfl ?_
      refine g_skip ?_
      refine g_inBlock ?_
      refine g_run (by kernel_rfl) [(0, .d), (1, .d)] rfl ?_
      refine r_d rfl rfl rfl (s_ar (r := ((i_3 + 1 : Nat) : Int)) rfl rfl rfl (by simp [iar]) (by omega)) ?_
      refine r_d rfl rfl rfl (s_move rfl rfl) ?_
      refine r_end ?_
      refine g_sub [(1, .ptr (enc_S_api_Program p_a0)), (14, .int .i64 (p_a0.f1_Rules.length : Int)), (15, .int .i64 ((i_3 + 1 : Nat) : Int))] (Sub.cons' rfl (Sub.cons' rfl (Sub.cons' rfl (Sub.nil _)))) ?_
      exact IH0 _ _ _ (by omega) ⟨(i_3 + 1), rfl, rfl, rfl, (by omega), hr⟩

noncomputable def lf_constraintref15_Declared_L0 (k : Option (Bool)) (arity_a2 : Int) (name_a1 : ByteArray) : List S_api_Decl → Option (Bool)
  | [] =>
  k
  | q_2 :: rest =>
  (bif (q_2.f0_Name.toList == name_a1.toList) then
  (bif (q_2.f1_Arity == arity_a2) then
  some (true)
  else
  (lf_constraintref15_Declared_L0 k arity_a2 name_a1 rest))
  else
  (lf_constraintref15_Declared_L0 k arity_a2 name_a1 rest))
noncomputable def lf_constraintref15_Declared (decls_a0 : (List S_api_Decl)) (name_a1 : ByteArray) (arity_a2 : Int) : Option (Bool) :=
  (lf_constraintref15_Declared_L0 (some (false)) arity_a2 name_a1 decls_a0)

set_option maxHeartbeats 1000000 in
theorem lg_constraintref15_Declared (decls_a0 : (List S_api_Decl)) (name_a1 : ByteArray) (arity_a2 : Int) (res : Bool) (hr : lf_constraintref15_Declared decls_a0 name_a1 arity_a2 = some res) : Gives Try.prog 19 [.lst (decls_a0.map enc_S_api_Decl), .str name_a1, .int .i64 arity_a2] (.bool res) := by
  unfold lf_constraintref15_Declared at hr
  refine spec_env [(0, .lst (decls_a0.map enc_S_api_Decl)), (1, .str name_a1), (2, .int .i64 arity_a2)] Try.func19 rfl rfl fun K hK => ?_
  refine g_seq ?_
  refine g_run (by kernel_rfl) [(0, .d)] rfl ?_
  refine r_d rfl rfl rfl (s_assign rfl rfl) ?_
  refine r_end ?_
  refine g_seq ?_
  refine g_seq ?_
  refine g_run (by kernel_rfl) [(0, .d)] rfl ?_
  refine r_d rfl rfl rfl (s_assign rfl rfl) ?_
  refine r_end ?_
  obtain ⟨kk0, hkk0, hr⟩ := exK (fun k => lf_constraintref15_Declared_L0 k arity_a2 name_a1 decls_a0) hr
  refine g_len 0 rfl (asl rfl) fun hla0 => ?_
  simp only [List.length_map] at hla0
  refine g_blockJ (fun env σ => env = [] ∧ σ = [] ∧ kk0 = some res) ?_ (fun HK0 => ?_)
  ·
   rintro _ _ ⟨rfl, rfl, hr⟩
   rw [hkk0] at hr
   refine g_seq ?_
   refine g_run (by kernel_rfl) [(0, .d)] rfl ?_
   refine r_d rfl rfl rfl (s_assign rfl rfl) ?_
   refine r_end ?_
   obtain rfl := Option.some.inj hr
   refine g_ret Try.func19 _ (.cons (resTmp rfl (Wk.refl _)) .nil) ?_
   rfl
  ·
   refine g_sub [(0, .lst (decls_a0.map enc_S_api_Decl)), (1, .str name_a1), (2, .int .i64 arity_a2), (7, .int .i64 ((0 : Nat) : Int))] (Sub.cons' rfl (Sub.cons' rfl (Sub.cons' rfl (Sub.cons' rfl (Sub.nil _))))) ?_
   refine g_loop (fun n env σ => ∃ (i_1 : Nat), (n = decls_a0.length - i_1) ∧ (env = [(0, .lst (decls_a0.map enc_S_api_Decl)), (1, .str name_a1), (2, .int .i64 arity_a2), (7, .int .i64 (i_1 : Int))]) ∧ (σ = []) ∧ (i_1 ≤ decls_a0.length) ∧ (lf_constraintref15_Declared_L0 kk0 arity_a2 name_a1 (decls_a0.drop i_1) = some res)) _ ⟨0, rfl, rfl, rfl, Nat.zero_le _, hr⟩ ?_
   rintro n _ _ ⟨i_1, rfl, rfl, rfl, hi0, hr⟩ IH0
   rcases listStep decls_a0 i_1 hi0 with ⟨ht0, hd0, he0⟩ | ⟨q_2, ht0, hd0, hq0, hlt0⟩
   ·
    rw [hd0, lf_constraintref15_Declared_L0] at hr
    refine g_seq ?_
    refine g_seq ?_
    refine g_run (by kernel_rfl) [(0, .d), (1, .d), (2, .d), (3, .d)] rfl ?_
    refine r_d rfl rfl rfl (s_move rfl rfl) ?_
    refine r_d rfl rfl rfl (s_move rfl rfl) ?_
    refine r_d rfl rfl rfl (m_len (f := enc_S_api_Decl) decls_a0 rfl el_L_api_Decl rfl (asl rfl)) ?_
    refine r_d rfl rfl rfl (s_cmp rfl rfl rfl rfl) ?_
    refine r_end ?_
    refine g_known 11 false rfl ht0 ?_
    refine g_condF rfl ?_
    refine g_exit rfl ?_
    refine g_sub [] (Sub.nil _) ?_
    exact HK0 _ _ ⟨rfl, rfl, hr⟩
   ·
    rw [hd0, lf_constraintref15_Declared_L0] at hr
    refine g_seq ?_
    refine g_seq ?_
    refine g_run (by kernel_rfl) [(0, .d), (1, .d), (2, .d), (3, .d)] rfl ?_
    refine r_d rfl rfl rfl (s_move rfl rfl) ?_
    refine r_d rfl rfl rfl (s_move rfl rfl) ?_
    refine r_d rfl rfl rfl (m_len (f := enc_S_api_Decl) decls_a0 rfl el_L_api_Decl rfl (asl rfl)) ?_
    refine r_d rfl rfl rfl (s_cmp rfl rfl rfl rfl) ?_
    refine r_end ?_
    refine g_known 11 true rfl ht0 ?_
    refine g_condT rfl ?_
    refine g_skip ?_
    refine g_seq ?_
    refine g_block ?_
    refine g_seq ?_
    refine g_run (by kernel_rfl) [(0, .d), (1, .d), (2, .d), (3, .d), (4, .d), (5, .d), (6, .d), (7, .d), (8, .d), (9, .d), (10, .d), (11, .d), (12, .d), (13, .d), (14, .d), (15, .d)] rfl ?_
    refine r_d rfl rfl rfl (s_move rfl rfl) ?_
    refine r_d rfl rfl rfl (s_move rfl rfl) ?_
    refine r_d rfl rfl rfl (m_index (f := enc_S_api_Decl) decls_a0 rfl el_L_api_Decl rfl (asl rfl) rfl hq0 sz_S_api_Decl rfl) ?_
    refine r_d rfl rfl rfl (s_fieldAddr rfl fl_api_Decl_0 rfl rfl rfl rfl) ?_
    refine r_d rfl rfl rfl (s_load rfl rfl (by exact ty_string) rfl) ?_
    refine r_d rfl rfl rfl (s_move rfl rfl) ?_
    refine r_d rfl rfl rfl (s_cmpS rfl rfl rfl rfl) ?_
    refine r_d rfl rfl rfl (s_move rfl rfl) ?_
    refine r_sB 21 rfl hr (fun h21_2 hr => ?_) (fun h21_2 hr => ?_)
    ·
     refine r_d rfl rfl rfl (s_move rfl rfl) ?_
     refine r_d rfl rfl rfl (s_move rfl rfl) ?_
     refine r_d rfl rfl rfl (m_index (f := enc_S_api_Decl) decls_a0 rfl el_L_api_Decl rfl (asl rfl) rfl hq0 sz_S_api_Decl rfl) ?_
     refine r_d rfl rfl rfl (s_fieldAddr rfl fl_api_Decl_1 rfl rfl rfl rfl) ?_
     refine r_d rfl rfl rfl (s_load rfl rfl (by exact ty_int) rfl) ?_
     refine r_d rfl rfl rfl (s_move rfl rfl) ?_
     refine r_d rfl rfl rfl (s_cmp rfl rfl rfl rfl) ?_
     refine r_d rfl rfl rfl (s_pickT rfl rfl rfl) ?_
     refine r_end ?_
     refine g_sB 29 rfl hr (fun h29_3 hr => ?_) (fun h29_3 hr => ?_)
     ·
      refine g_condT rfl ?_
      refine g_seq ?_
      refine g_run (by kernel_rfl) [(0, .d)] rfl ?_
      refine r_d rfl rfl rfl (s_assign rfl rfl) ?_
      refine r_end ?_
      obtain rfl := Option.some.inj hr
      refine g_ret Try.func19 _ (.cons (resTmp rfl (Wk.refl _)) .nil) ?_
      rfl
     ·
      refine g_condF rfl ?_
      refine g_skip ?_
      refine g_inBlock ?_
      refine g_run (by kernel_rfl) [(0, .d), (1, .d), (2, .d)] rfl ?_
      refine r_d rfl rfl rfl (s_move rfl rfl) ?_
      refine r_d rfl rfl rfl (s_ar (r := ((i_1 + 1 : Nat) : Int)) rfl rfl rfl (by simp [iar]) (by omega)) ?_
      refine r_d rfl rfl rfl (s_assign rfl rfl) ?_
      refine r_end ?_
      refine g_sub [(0, .lst (decls_a0.map enc_S_api_Decl)), (1, .str name_a1), (2, .int .i64 arity_a2), (7, .int .i64 ((i_1 + 1 : Nat) : Int))] (Sub.cons' rfl (Sub.cons' rfl (Sub.cons' rfl (Sub.cons' rfl (Sub.nil _))))) ?_
      exact IH0 _ _ _ (by omega) ⟨(i_1 + 1), rfl, rfl, rfl, (by omega), hr⟩
    ·
     refine r_skip rfl rfl rfl ?_
     refine r_skip rfl rfl rfl ?_
     refine r_skip rfl rfl rfl ?_
     refine r_skip rfl rfl rfl ?_
     refine r_skip rfl rfl rfl ?_
     refine r_skip rfl rfl rfl ?_
     refine r_skip rfl rfl rfl ?_
     refine r_d rfl rfl rfl (s_pickF rfl rfl rfl) ?_
     refine r_end ?_
     refine g_condF rfl ?_
     refine g_skip ?_
     refine g_inBlock ?_
     refine g_run (by kernel_rfl) [(0, .d), (1, .d), (2, .d)] rfl ?_
     refine r_d rfl rfl rfl (s_move rfl rfl) ?_
     refine r_d rfl rfl rfl (s_ar (r := ((i_1 + 1 : Nat) : Int)) rfl rfl rfl (by simp [iar]) (by omega)) ?_
     refine r_d rfl rfl rfl (s_assign rfl rfl) ?_
     refine r_end ?_
     refine g_sub [(0, .lst (decls_a0.map enc_S_api_Decl)), (1, .str name_a1), (2, .int .i64 arity_a2), (7, .int .i64 ((i_1 + 1 : Nat) : Int))] (Sub.cons' rfl (Sub.cons' rfl (Sub.cons' rfl (Sub.cons' rfl (Sub.nil _))))) ?_
     exact IH0 _ _ _ (by omega) ⟨(i_1 + 1), rfl, rfl, rfl, (by omega), hr⟩

noncomputable def lf_constraintref15_heads (r_a0 : S_api_Rule) : Option ((List At)) :=
  ((appO 40 [] r_a0.f1_Keep).bind fun l_3 =>
  ((appO 40 l_3 r_a0.f2_Remove).bind fun l_5 =>
  some (l_5)))

set_option maxHeartbeats 1000000 in
theorem lg_constraintref15_heads (r_a0 : S_api_Rule) (res : (List At)) (hr : lf_constraintref15_heads r_a0 = some res) : Gives Try.prog 39 [enc_S_api_Rule r_a0] (.lst (res.map encA)) := by
  unfold lf_constraintref15_heads at hr
  refine spec_env [(0, enc_S_api_Rule r_a0)] Try.func39 rfl rfl fun K hK => ?_
  refine g_seq ?_
  refine g_run (by kernel_rfl) [(0, .d), (1, .w)] rfl ?_
  refine r_d rfl rfl rfl (s_box rfl rfl rfl) ?_
  refine r_w rfl rfl rfl (s_nilOwn 44 2 (.inl rfl)) ?_
  rintro _ _ ⟨u2_0, rfl, rfl⟩
  refine r_end ?_
  refine g_seq ?_
  refine g_any (by kernel_rfl) (by kernel_rfl) [(1, .d), (2, .d), (4, .d), (5, .d), (0, .w), (3, .w), (6, .w), (7, .d)] (by kernel_rfl) ?_
  refine r_d rfl rfl rfl (s_fieldAddr rfl fl_api_Rule_1 rfl rfl rfl rfl) ?_
  refine r_d rfl rfl rfl (s_load rfl rfl (by exact ty_L_api_Atom) rfl) ?_
  refine r_d rfl rfl rfl (s_fieldAddr rfl fl_api_Rule_2 rfl rfl rfl rfl) ?_
  refine r_d rfl rfl rfl (s_load rfl rfl (by exact ty_L_api_Atom) rfl) ?_
  refine r_w rfl rfl rfl (s_lit0Own rfl el_L_api_Atom rfl) ?_
  rintro _ _ ⟨u3_1, rfl, rfl⟩
  obtain ⟨l_3, hl_3, hr⟩ := bindS hr
  refine r_w rfl rfl rfl (m_appOwn (f := encA) [] r_a0.f1_Keep rfl el_L_api_Atom rfl rfl (asl rfl) (pf0 _) rfl sz_encA hl_3) ?_
  rintro _ _ ⟨u6_3, rfl, rfl⟩
  obtain ⟨l_5, hl_5, hr⟩ := bindS hr
  refine r_w rfl rfl rfl (m_appOwn (f := encA) l_3 r_a0.f2_Remove rfl el_L_api_Atom rfl rfl (asl rfl) (pf0 _) rfl sz_encA hl_5) ?_
  rintro _ _ ⟨u9_5, rfl, rfl⟩
  refine r_d rfl rfl rfl (s_assign rfl rfl) ?_
  refine r_end ?_
  obtain rfl := Option.some.inj hr
  refine g_ret Try.func39 _ (.cons (resTmp rfl (Wk.own _ _)) .nil) ?_
  rfl

noncomputable def lf_constraintref15_goals (r_a0 : S_api_Rule) : Option ((List Gl)) :=
  ((appO 48 [] r_a0.f3_Guard).bind fun l_3 =>
  ((appO 48 l_3 r_a0.f4_Body).bind fun l_5 =>
  some (l_5)))

set_option maxHeartbeats 1000000 in
theorem lg_constraintref15_goals (r_a0 : S_api_Rule) (res : (List Gl)) (hr : lf_constraintref15_goals r_a0 = some res) : Gives Try.prog 40 [enc_S_api_Rule r_a0] (.lst (res.map encG)) := by
  unfold lf_constraintref15_goals at hr
  refine spec_env [(0, enc_S_api_Rule r_a0)] Try.func40 rfl rfl fun K hK => ?_
  refine g_seq ?_
  refine g_run (by kernel_rfl) [(0, .d), (1, .w)] rfl ?_
  refine r_d rfl rfl rfl (s_box rfl rfl rfl) ?_
  refine r_w rfl rfl rfl (s_nilOwn 60 3 (.inl rfl)) ?_
  rintro _ _ ⟨u2_0, rfl, rfl⟩
  refine r_end ?_
  refine g_seq ?_
  refine g_any (by kernel_rfl) (by kernel_rfl) [(1, .d), (2, .d), (4, .d), (5, .d), (0, .w), (3, .w), (6, .w), (7, .d)] (by kernel_rfl) ?_
  refine r_d rfl rfl rfl (s_fieldAddr rfl fl_api_Rule_3 rfl rfl rfl rfl) ?_
  refine r_d rfl rfl rfl (s_load rfl rfl (by exact ty_L_api_Goal) rfl) ?_
  refine r_d rfl rfl rfl (s_fieldAddr rfl fl_api_Rule_4 rfl rfl rfl rfl) ?_
  refine r_d rfl rfl rfl (s_load rfl rfl (by exact ty_L_api_Goal) rfl) ?_
  refine r_w rfl rfl rfl (s_lit0Own rfl el_L_api_Goal rfl) ?_
  rintro _ _ ⟨u3_1, rfl, rfl⟩
  obtain ⟨l_3, hl_3, hr⟩ := bindS hr
  refine r_w rfl rfl rfl (m_appOwn (f := encG) [] r_a0.f3_Guard rfl el_L_api_Goal rfl rfl (asl rfl) (pf0 _) rfl sz_encG hl_3) ?_
  rintro _ _ ⟨u6_3, rfl, rfl⟩
  obtain ⟨l_5, hl_5, hr⟩ := bindS hr
  refine r_w rfl rfl rfl (m_appOwn (f := encG) l_3 r_a0.f4_Body rfl el_L_api_Goal rfl rfl (asl rfl) (pf0 _) rfl sz_encG hl_5) ?_
  rintro _ _ ⟨u9_5, rfl, rfl⟩
  refine r_d rfl rfl rfl (s_assign rfl rfl) ?_
  refine r_end ?_
  obtain rfl := Option.some.inj hr
  refine g_ret Try.func40 _ (.cons (resTmp rfl (Wk.own _ _)) .nil) ?_
  rfl

noncomputable def lf_constraintref03_has_L0 (k : Option (Bool)) (n_a1 : Int) : List Int → Option (Bool)
  | [] =>
  k
  | q_2 :: rest =>
  (bif (q_2 == n_a1) then
  some (true)
  else
  (lf_constraintref03_has_L0 k n_a1 rest))
noncomputable def lf_constraintref03_has (l_a0 : (List Int)) (n_a1 : Int) : Option (Bool) :=
  (lf_constraintref03_has_L0 (some (false)) n_a1 l_a0)

set_option maxHeartbeats 1000000 in
theorem lg_constraintref03_has (l_a0 : (List Int)) (n_a1 : Int) (res : Bool) (hr : lf_constraintref03_has l_a0 n_a1 = some res) : Gives Try.prog 83 [.lst (l_a0.map (D.int .i64)), .int .i64 n_a1] (.bool res) := by
  unfold lf_constraintref03_has at hr
  refine spec_env [(0, .lst (l_a0.map (D.int .i64))), (1, .int .i64 n_a1)] Try.func83 rfl rfl fun K hK => ?_
  refine g_seq ?_
  refine g_run (by kernel_rfl) [(0, .d)] rfl ?_
  refine r_d rfl rfl rfl (s_assign rfl rfl) ?_
  refine r_end ?_
  refine g_seq ?_
  refine g_seq ?_
  refine g_run (by kernel_rfl) [(0, .d)] rfl ?_
  refine r_d rfl rfl rfl (s_assign rfl rfl) ?_
  refine r_end ?_
  obtain ⟨kk0, hkk0, hr⟩ := exK (fun k => lf_constraintref03_has_L0 k n_a1 l_a0) hr
  refine g_len 0 rfl (asl rfl) fun hla0 => ?_
  simp only [List.length_map] at hla0
  refine g_blockJ (fun env σ => env = [] ∧ σ = [] ∧ kk0 = some res) ?_ (fun HK0 => ?_)
  ·
   rintro _ _ ⟨rfl, rfl, hr⟩
   rw [hkk0] at hr
   refine g_seq ?_
   refine g_run (by kernel_rfl) [(0, .d)] rfl ?_
   refine r_d rfl rfl rfl (s_assign rfl rfl) ?_
   refine r_end ?_
   obtain rfl := Option.some.inj hr
   refine g_ret Try.func83 _ (.cons (resTmp rfl (Wk.refl _)) .nil) ?_
   rfl
  ·
   refine g_sub [(0, .lst (l_a0.map (D.int .i64))), (1, .int .i64 n_a1), (5, .int .i64 ((0 : Nat) : Int))] (Sub.cons' rfl (Sub.cons' rfl (Sub.cons' rfl (Sub.nil _)))) ?_
   refine g_loop (fun n env σ => ∃ (i_1 : Nat), (n = l_a0.length - i_1) ∧ (env = [(0, .lst (l_a0.map (D.int .i64))), (1, .int .i64 n_a1), (5, .int .i64 (i_1 : Int))]) ∧ (σ = []) ∧ (i_1 ≤ l_a0.length) ∧ (lf_constraintref03_has_L0 kk0 n_a1 (l_a0.drop i_1) = some res)) _ ⟨0, rfl, rfl, rfl, Nat.zero_le _, hr⟩ ?_
   rintro n _ _ ⟨i_1, rfl, rfl, rfl, hi0, hr⟩ IH0
   rcases listStep l_a0 i_1 hi0 with ⟨ht0, hd0, he0⟩ | ⟨q_2, ht0, hd0, hq0, hlt0⟩
   ·
    rw [hd0, lf_constraintref03_has_L0] at hr
    refine g_seq ?_
    refine g_seq ?_
    refine g_run (by kernel_rfl) [(0, .d), (1, .d), (2, .d), (3, .d)] rfl ?_
    refine r_d rfl rfl rfl (s_move rfl rfl) ?_
    refine r_d rfl rfl rfl (s_move rfl rfl) ?_
    refine r_d rfl rfl rfl (m_len (f := (D.int .i64)) l_a0 rfl el_L_int rfl (asl rfl)) ?_
    refine r_d rfl rfl rfl (s_cmp rfl rfl rfl rfl) ?_
    refine r_end ?_
    refine g_known 9 false rfl ht0 ?_
    refine g_condF rfl ?_
    refine g_exit rfl ?_
    refine g_sub [] (Sub.nil _) ?_
    exact HK0 _ _ ⟨rfl, rfl, hr⟩
   ·
    rw [hd0, lf_constraintref03_has_L0] at hr
    refine g_seq ?_
    refine g_seq ?_
    refine g_run (by kernel_rfl) [(0, .d), (1, .d), (2, .d), (3, .d)] rfl ?_
    refine r_d rfl rfl rfl (s_move rfl rfl) ?_
    refine r_d rfl rfl rfl (s_move rfl rfl) ?_
    refine r_d rfl rfl rfl (m_len (f := (D.int .i64)) l_a0 rfl el_L_int rfl (asl rfl)) ?_
    refine r_d rfl rfl rfl (s_cmp rfl rfl rfl rfl) ?_
    refine r_end ?_
    refine g_known 9 true rfl ht0 ?_
    refine g_condT rfl ?_
    refine g_skip ?_
    refine g_seq ?_
    refine g_block ?_
    refine g_seq ?_
    refine g_run (by kernel_rfl) [(0, .d), (1, .d), (2, .d), (3, .d), (4, .d), (5, .d)] rfl ?_
    refine r_d rfl rfl rfl (s_move rfl rfl) ?_
    refine r_d rfl rfl rfl (s_move rfl rfl) ?_
    refine r_d rfl rfl rfl (m_index (f := (D.int .i64)) l_a0 rfl el_L_int rfl (asl rfl) rfl hq0 (fun _ => rfl) rfl) ?_
    refine r_d rfl rfl rfl (s_load rfl rfl (by exact ty_int) rfl) ?_
    refine r_d rfl rfl rfl (s_move rfl rfl) ?_
    refine r_d rfl rfl rfl (s_cmp rfl rfl rfl rfl) ?_
    refine r_end ?_
    refine g_sB 17 rfl hr (fun h17_2 hr => ?_) (fun h17_2 hr => ?_)
    ·
     refine g_condT rfl ?_
     refine g_seq ?_
     refine g_run (by kernel_rfl) [(0, .d)] rfl ?_
     refine r_d rfl rfl rfl (s_assign rfl rfl) ?_
     refine r_end ?_
     obtain rfl := Option.some.inj hr
     refine g_ret Try.func83 _ (.cons (resTmp rfl (Wk.refl _)) .nil) ?_
     rfl
    ·
     refine g_condF rfl ?_
     refine g_skip ?_
     refine g_inBlock ?_
     refine g_run (by kernel_rfl) [(0, .d), (1, .d), (2, .d)] rfl ?_
     refine r_d rfl rfl rfl (s_move rfl rfl) ?_
     refine r_d rfl rfl rfl (s_ar (r := ((i_1 + 1 : Nat) : Int)) rfl rfl rfl (by simp [iar]) (by omega)) ?_
     refine r_d rfl rfl rfl (s_assign rfl rfl) ?_
     refine r_end ?_
     refine g_sub [(0, .lst (l_a0.map (D.int .i64))), (1, .int .i64 n_a1), (5, .int .i64 ((i_1 + 1 : Nat) : Int))] (Sub.cons' rfl (Sub.cons' rfl (Sub.cons' rfl (Sub.nil _)))) ?_
     exact IH0 _ _ _ (by omega) ⟨(i_1 + 1), rfl, rfl, rfl, (by omega), hr⟩

noncomputable def lf_constraintref03_args (t_a0 : T) : Option ((List T)) :=
  (bif (t_a0.k == (2 : Int)) then
  some (t_a0.ar)
  else
  some ([]))

set_option maxHeartbeats 1000000 in
theorem lg_constraintref03_args (t_a0 : T) (res : (List T)) (hr : lf_constraintref03_args t_a0 = some res) : Gives Try.prog 84 [encT t_a0] (.lst (res.map encT)) := by
  unfold lf_constraintref03_args at hr
  refine spec_env [(0, encT t_a0)] Try.func84 rfl rfl fun K hK => ?_
  refine g_seq ?_
  refine g_run (by kernel_rfl) [(0, .d), (1, .d)] rfl ?_
  refine r_d rfl rfl rfl (s_box rfl rfl rfl) ?_
  refine r_d rfl rfl rfl (s_assign rfl rfl) ?_
  refine r_end ?_
  refine g_seq ?_
  refine g_seq ?_
  refine g_run (by kernel_rfl) [(0, .d), (1, .d), (2, .d)] rfl ?_
  refine r_d rfl rfl rfl (s_fieldAddr rfl fl_api_Term_0 rfl (fsT_get0 _) (fsT_off0 _) rfl) ?_
  refine r_d rfl rfl rfl (s_load rfl rfl (by exact ty_int) rfl) ?_
  refine r_d rfl rfl rfl (s_cmp rfl rfl rfl rfl) ?_
  refine r_end ?_
  refine g_sB 5 rfl hr (fun h5_0 hr => ?_) (fun h5_0 hr => ?_)
  ·
   refine g_condT rfl ?_
   refine g_seq ?_
   refine g_run (by kernel_rfl) [(0, .d), (1, .d), (2, .d)] rfl ?_
   refine r_d rfl rfl rfl (s_fieldAddr rfl fl_api_Term_3 rfl (fsT_get3 _) (fsT_off3 _) rfl) ?_
   refine r_d rfl rfl rfl (s_load rfl rfl (by exact ty_L_api_Term) rfl) ?_
   refine r_d rfl rfl rfl (s_assign rfl rfl) ?_
   refine r_end ?_
   obtain rfl := Option.some.inj hr
   refine g_ret Try.func84 _ (.cons (resTmp rfl (Wk.refl _)) .nil) ?_
   rfl
  ·
   refine g_condF rfl ?_
   refine g_skip ?_
   refine g_seq ?_
   refine g_run (by kernel_rfl) [(0, .d)] rfl ?_
   refine r_d rfl rfl rfl (s_assign rfl rfl) ?_
   refine r_end ?_
   obtain rfl := Option.some.inj hr
   refine g_ret Try.func84 _ (.cons (resTmp rfl (Wk.full _)) .nil) ?_
   rfl

noncomputable def lf_constraintref03_vars_s1_L0 (k : ((List Int)) → Option ((List Int))) (rec : (List Int) → T → Option ((List Int))) : List T → (List Int) → Option ((List Int))
  | [], l_6 =>
  (k l_6)
  | q_10 :: rest, l_6 =>
  ((rec l_6 q_10).bind fun r_11 =>
  (lf_constraintref03_vars_s1_L0 k rec rest r_11))

noncomputable def lf_constraintref03_vars_s1_J0 (k : ((List Int)) → Option ((List Int))) (l_a0 : (List Int)) (t_a1 : T) : Option ((List Int)) :=
  (bif (t_a1.k == (1 : Int)) then
  ((lf_constraintref03_has l_a0 t_a1.i).bind fun r_14 =>
  (bif (!r_14) then
  ((appO 8 l_a0 [t_a1.i]).bind fun l_16 =>
  (k l_16))
  else
  (k l_a0)))
  else
  (k l_a0))
noncomputable def lf_constraintref03_vars_s1 : Nat → (List Int) → T → Option ((List Int))
  | 0, _, _ => none
  | fuel + 1, l_a0, t_a1 =>
    (fun (rec : (List Int) → T → Option ((List Int))) =>
      (lf_constraintref03_vars_s1_J0 (fun l_3 =>
      ((lf_constraintref03_args t_a1).bind fun r_4 =>
      (lf_constraintref03_vars_s1_L0 (fun l_9 =>
      some (l_9)) rec r_4 l_3))) l_a0 t_a1)) (lf_constraintref03_vars_s1 fuel)

set_option maxHeartbeats 1000000 in
theorem lgs_constraintref03_vars_s1 (fuel : Nat) (rec : (List Int) → T → Option ((List Int))) (IHR : ∀ (l_a0 : (List Int)) (t_a1 : T) (u_o0 : Value) (res : (List Int)), rec l_a0 t_a1 = some res → Spec Try.prog 72 [.own u_o0 (l_a0.map (D.int .i64)), encT t_a1] [.row u_o0 l_a0.length 3 1] (fun d σ => ∃ (u_o0' : Value), d = .own u_o0' (res.map (D.int .i64)) ∧ σ = [.row u_o0' res.length 3 1])) (l_a0 : (List Int)) (t_a1 : T) (u_o0 : Value) (res : (List Int))
    (hr : (lf_constraintref03_vars_s1_J0 (fun l_3 =>
((lf_constraintref03_args t_a1).bind fun r_4 =>
(lf_constraintref03_vars_s1_L0 (fun l_9 =>
some (l_9)) rec r_4 l_3))) l_a0 t_a1) = some res) : Spec Try.prog 72 [.own u_o0 (l_a0.map (D.int .i64)), encT t_a1] [.row u_o0 l_a0.length 3 1] (fun d σ => ∃ (u_o0' : Value), d = .own u_o0' (res.map (D.int .i64)) ∧ σ = [.row u_o0' res.length 3 1]) := by
  refine spec_env [(0, .own u_o0 (l_a0.map (D.int .i64))), (1, encT t_a1)] Try.func72 rfl rfl fun K hK => ?_
  refine g_seq ?_
  refine g_run (by kernel_rfl) [(0, .d), (1, .w)] rfl ?_
  refine r_d rfl rfl rfl (s_box rfl rfl rfl) ?_
  refine r_w rfl rfl rfl (s_nilOwn 3 1 (.inl rfl)) ?_
  rintro _ _ ⟨u4_0, rfl, rfl⟩
  refine r_end ?_
  obtain ⟨kkJ0, hkkJ0, hr⟩ := exK (fun k => lf_constraintref03_vars_s1_J0 k l_a0 t_a1) hr
  refine g_seqJ (fun env σ => ∃ (l_3 : (List Int)) (u_2 : Value), env = [(0, .own u_2 (l_3.map (D.int .i64))), (3, .ptr (encT t_a1))] ∧ σ = [.row u_2 l_3.length 3 1] ∧ kkJ0 l_3 = some res) ?_ (fun HKJ0 => ?_)
  ·
   rintro _ _ ⟨l_3, u_2, rfl, rfl, hr⟩
   rw [hkkJ0] at hr
   refine g_seq ?_
   refine g_run (by kernel_rfl) [(0, .d), (1, .d), (2, .d)] rfl ?_
   refine r_d rfl rfl rfl (s_load rfl rfl (by exact ty_api_Term) (sz_encT _)) ?_
   obtain ⟨r_4, hr_4, hr⟩ := bindS hr
   refine r_d rfl rfl rfl (s_callD rfl cl_constraintref03_args (.cons rfl (Wk.refl _) .nil) (lg_constraintref03_args _ _ hr_4)) ?_
   refine r_d rfl rfl rfl (s_assign rfl rfl) ?_
   refine r_end ?_
   refine g_seq ?_
   refine g_seq ?_
   refine g_run (by kernel_rfl) [(0, .d)] rfl ?_
   refine r_d rfl rfl rfl (s_assign rfl rfl) ?_
   refine r_end ?_
   obtain ⟨kk0, hkk0, hr⟩ := exK (fun k => lf_constraintref03_vars_s1_L0 k rec r_4 l_3) hr
   refine g_len 23 rfl (asl rfl) fun hla0 => ?_
   simp only [List.length_map] at hla0
   refine g_blockJ (fun env σ => ∃ (l_9 : (List Int)) (u_8 : Value), env = [(0, .own u_8 (l_9.map (D.int .i64)))] ∧ σ = [.row u_8 l_9.length 3 1] ∧ kk0 l_9 = some res) ?_ (fun HK0 => ?_)
   ·
    rintro _ _ ⟨l_9, u_8, rfl, rfl, hr⟩
    rw [hkk0] at hr
    refine g_seq ?_
    refine g_run (by kernel_rfl) [(0, .d), (1, .d)] rfl ?_
    refine r_d rfl rfl rfl (s_move rfl rfl) ?_
    refine r_d rfl rfl rfl (s_assign rfl rfl) ?_
    refine r_end ?_
    obtain rfl := Option.some.inj hr
    refine g_ret Try.func72 _ (.cons (resTmp rfl (Wk.refl _)) .nil) ?_
    exact ⟨u_8, rfl, rfl⟩
   ·
    refine g_sub [(5, .lst (r_4.map encT)), (0, .own u_2 (l_3.map (D.int .i64))), (6, .int .i64 ((0 : Nat) : Int))] (Sub.cons' rfl (Sub.cons' rfl (Sub.cons' rfl (Sub.nil _)))) ?_
    refine g_loop (fun n env σ => ∃ (l_6 : (List Int)) (i_7 : Nat) (u_5 : Value), (n = r_4.length - i_7) ∧ (env = [(5, .lst (r_4.map encT)), (0, .own u_5 (l_6.map (D.int .i64))), (6, .int .i64 (i_7 : Int))]) ∧ (σ = [.row u_5 l_6.length 3 1]) ∧ (i_7 ≤ r_4.length) ∧ (lf_constraintref03_vars_s1_L0 kk0 rec (r_4.drop i_7) l_6 = some res)) _ ⟨l_3, 0, u_2, rfl, rfl, rfl, Nat.zero_le _, hr⟩ ?_
    rintro n _ _ ⟨l_6, i_7, u_5, rfl, rfl, rfl, hi0, hr⟩ IH0
    rcases listStep r_4 i_7 hi0 with ⟨ht0, hd0, he0⟩ | ⟨q_10, ht0, hd0, hq0, hlt0⟩
    ·
     rw [hd0, lf_constraintref03_vars_s1_L0] at hr
     refine g_seq ?_
     refine g_seq ?_
     refine g_run (by kernel_rfl) [(0, .d), (1, .d), (2, .d), (3, .d)] rfl ?_
     refine r_d rfl rfl rfl (s_move rfl rfl) ?_
     refine r_d rfl rfl rfl (s_move rfl rfl) ?_
     refine r_d rfl rfl rfl (m_len (f := encT) r_4 rfl el_L_api_Term rfl (asl rfl)) ?_
     refine r_d rfl rfl rfl (s_cmp rfl rfl rfl rfl) ?_
     refine r_end ?_
     refine g_known 27 false rfl ht0 ?_
     refine g_condF rfl ?_
     refine g_exit rfl ?_
     refine g_sub [(0, .own u_5 (l_6.map (D.int .i64)))] (Sub.cons' rfl (Sub.nil _)) ?_
     exact HK0 _ _ ⟨l_6, u_5, rfl, rfl, hr⟩
    ·
     rw [hd0, lf_constraintref03_vars_s1_L0] at hr
     refine g_seq ?_
     refine g_seq ?_
     refine g_run (by kernel_rfl) [(0, .d), (1, .d), (2, .d), (3, .d)] rfl ?_
     refine r_d rfl rfl rfl (s_move rfl rfl) ?_
     refine r_d rfl rfl rfl (s_move rfl rfl) ?_
     refine r_d rfl rfl rfl (m_len (f := encT) r_4 rfl el_L_api_Term rfl (asl rfl)) ?_
     refine r_d rfl rfl rfl (s_cmp rfl rfl rfl rfl) ?_
     refine r_end ?_
     refine g_known 27 true rfl ht0 ?_
     refine g_condT rfl ?_
     refine g_skip ?_
     refine g_seq ?_
     refine g_block ?_
     refine g_run (by kernel_rfl) [(0, .d), (1, .d), (2, .d), (3, .d), (4, .d), (5, .w), (6, .d)] rfl ?_
     refine r_d rfl rfl rfl (s_move rfl rfl) ?_
     refine r_d rfl rfl rfl (s_move rfl rfl) ?_
     refine r_d rfl rfl rfl (s_move rfl rfl) ?_
     refine r_d rfl rfl rfl (m_index (f := encT) r_4 rfl el_L_api_Term rfl (asl rfl) rfl hq0 sz_encT rfl) ?_
     refine r_d rfl rfl rfl (s_load rfl rfl (by exact ty_api_Term) (sz_encT _)) ?_
     obtain ⟨r_11, hr_11, hr⟩ := bindS hr
     refine r_w rfl rfl rfl (s_call _ rfl cl_constraintref03_vars (.cons rfl (Wk.refl _) (.cons rfl (Wk.refl _) .nil)) (by exact (pf0 _)) (IHR _ _ _ _ hr_11)) ?_
     rintro _ _ ⟨_, ⟨u35_11, rfl, rfl⟩, rfl⟩
     refine r_st ((.row u35_11 r_11.length 3 1) :: _) rfl ?_
     refine r_d rfl rfl rfl (s_assign rfl rfl) ?_
     refine r_end ?_
     refine g_inBlock ?_
     refine g_run (by kernel_rfl) [(0, .d), (1, .d), (2, .d)] rfl ?_
     refine r_d rfl rfl rfl (s_move rfl rfl) ?_
     refine r_d rfl rfl rfl (s_ar (r := ((i_7 + 1 : Nat) : Int)) rfl rfl rfl (by simp [iar]) (by omega)) ?_
     refine r_d rfl rfl rfl (s_assign rfl rfl) ?_
     refine r_end ?_
     refine g_sub [(5, .lst (r_4.map encT)), (0, .own u35_11 (r_11.map (D.int .i64))), (6, .int .i64 ((i_7 + 1 : Nat) : Int))] (Sub.cons' rfl (Sub.cons' rfl (Sub.cons' rfl (Sub.nil _)))) ?_
     exact IH0 _ _ _ (by omega) ⟨r_11, (i_7 + 1), u35_11, rfl, rfl, rfl, (by omega), hr⟩
  ·
   unfold lf_constraintref03_vars_s1_J0 at hr
   refine g_seq ?_
   refine g_run (by kernel_rfl) [(0, .d), (1, .d), (2, .d), (3, .d), (4, .d), (5, .d), (6, .d), (7, .d), (8, .d), (9, .d)] rfl ?_
   refine r_d rfl rfl rfl (s_fieldAddr rfl fl_api_Term_0 rfl (fsT_get0 _) (fsT_off0 _) rfl) ?_
   refine r_d rfl rfl rfl (s_load rfl rfl (by exact ty_int) rfl) ?_
   refine r_d rfl rfl rfl (s_cmp rfl rfl rfl rfl) ?_
   refine r_d rfl rfl rfl (s_move rfl rfl) ?_
   refine r_sB 10 rfl hr (fun h10_12 hr => ?_) (fun h10_12 hr => ?_)
   ·
    refine r_d rfl rfl rfl (s_move rfl rfl) ?_
    refine r_d rfl rfl rfl (s_fieldAddr rfl fl_api_Term_1 rfl (fsT_get1 _) (fsT_off1 _) rfl) ?_
    refine r_d rfl rfl rfl (s_load rfl rfl (by exact ty_int) rfl) ?_
    obtain ⟨r_14, hr_14, hr⟩ := bindS hr
    refine r_d rfl rfl rfl (s_callD rfl cl_constraintref03_has (.cons rfl (Wk.own _ _) (.cons rfl (Wk.refl _) .nil)) (lg_constraintref03_has _ _ _ hr_14)) ?_
    refine r_d rfl rfl rfl (s_not rfl rfl) ?_
    refine r_d rfl rfl rfl (s_pickT rfl rfl rfl) ?_
    refine r_end ?_
    refine g_sB 16 rfl hr (fun h16_14 hr => ?_) (fun h16_14 hr => ?_)
    ·
     refine g_condT rfl ?_
     refine g_run (by kernel_rfl) [(0, .d), (1, .d), (2, .d), (3, .d), (4, .w), (5, .d)] rfl ?_
     refine r_d rfl rfl rfl (s_move rfl rfl) ?_
     refine r_d rfl rfl rfl (s_fieldAddr rfl fl_api_Term_1 rfl (fsT_get1 _) (fsT_off1 _) rfl) ?_
     refine r_d rfl rfl rfl (s_load rfl rfl (by exact ty_int) rfl) ?_
     refine r_d rfl rfl rfl (m_lit (f := (D.int .i64)) [.tmp 19] [t_a1.i] rfl el_L_int rfl rfl (by decide) (by decide) (.cons rfl (Wk.refl _) .nil) (fun _ => rfl) (fun _ => rfl)) ?_
     obtain ⟨l_16, hl_16, hr⟩ := bindS hr
     refine r_w rfl rfl rfl (m_appOwn (f := (D.int .i64)) l_a0 [t_a1.i] rfl el_L_int rfl rfl (asl rfl) (pf1 _ _ _) rfl (fun _ => rfl) hl_16) ?_
     rintro _ _ ⟨u21_16, rfl, rfl⟩
     refine r_d rfl rfl rfl (s_assign rfl rfl) ?_
     refine r_end ?_
     refine g_sub [(0, .own u21_16 (l_16.map (D.int .i64))), (3, .ptr (encT t_a1))] (Sub.cons' rfl (Sub.cons' rfl (Sub.nil _))) ?_
     refine g_perm [_] _ (pf0 _) ?_
     exact HKJ0 _ _ ⟨l_16, u21_16, rfl, rfl, hr⟩
    ·
     refine g_condF rfl ?_
     refine g_skip ?_
     refine g_sub [(0, .own u_o0 (l_a0.map (D.int .i64))), (3, .ptr (encT t_a1))] (Sub.cons' rfl (Sub.cons' rfl (Sub.nil _))) ?_
     refine g_perm [_] _ (pf1 _ _ _) ?_
     exact HKJ0 _ _ ⟨l_a0, u_o0, rfl, rfl, hr⟩
   ·
    refine r_skip rfl rfl rfl ?_
    refine r_skip rfl rfl rfl ?_
    refine r_skip rfl rfl rfl ?_
    refine r_skip rfl rfl rfl ?_
    refine r_skip rfl rfl rfl ?_
    refine r_d rfl rfl rfl (s_pickF rfl rfl rfl) ?_
    refine r_end ?_
    refine g_condF rfl ?_
    refine g_skip ?_
    refine g_sub [(0, .own u_o0 (l_a0.map (D.int .i64))), (3, .ptr (encT t_a1))] (Sub.cons' rfl (Sub.cons' rfl (Sub.nil _))) ?_
    refine g_perm [_] _ (pf1 _ _ _) ?_
    exact HKJ0 _ _ ⟨l_a0, u_o0, rfl, rfl, hr⟩
theorem lg_constraintref03_vars_s1 : ∀ (fuel : Nat) (l_a0 : (List Int)) (t_a1 : T) (u_o0 : Value) (res : (List Int)), lf_constraintref03_vars_s1 fuel l_a0 t_a1 = some res → Spec Try.prog 72 [.own u_o0 (l_a0.map (D.int .i64)), encT t_a1] [.row u_o0 l_a0.length 3 1] (fun d σ => ∃ (u_o0' : Value), d = .own u_o0' (res.map (D.int .i64)) ∧ σ = [.row u_o0' res.length 3 1])
  | 0, _, _, _, _, h => by cases h
  | fuel + 1, l_a0, t_a1, u_o0, res, h => lgs_constraintref03_vars_s1 fuel (lf_constraintref03_vars_s1 fuel) (lg_constraintref03_vars_s1 fuel) l_a0 t_a1 u_o0 res h

noncomputable def lf_constraintref03_VarsOf_L0 (k : ((List Int)) → Option ((List Int))) (fuel : Nat) : List T → (List Int) → Option ((List Int))
  | [], out_4 =>
  (k out_4)
  | q_8 :: rest, out_4 =>
  ((lf_constraintref03_vars_s1 fuel out_4 q_8).bind fun r_9 =>
  (lf_constraintref03_VarsOf_L0 k fuel rest r_9))
noncomputable def lf_constraintref03_VarsOf (fuel : Nat) (l_a0 : (List T)) : Option ((List Int)) :=
  (lf_constraintref03_VarsOf_L0 (fun out_7 =>
  some (out_7)) fuel l_a0 [])

set_option maxHeartbeats 1000000 in
theorem lg_constraintref03_VarsOf (fuel : Nat) (l_a0 : (List T)) (res : (List Int)) (hr : lf_constraintref03_VarsOf fuel l_a0 = some res) : Gives Try.prog 52 [.lst (l_a0.map encT)] (.lst (res.map (D.int .i64))) := by
  unfold lf_constraintref03_VarsOf at hr
  refine spec_env [(0, .lst (l_a0.map encT))] Try.func52 rfl rfl fun K hK => ?_
  refine g_seq ?_
  refine g_run (by kernel_rfl) [(0, .w)] rfl ?_
  refine r_w rfl rfl rfl (s_nilOwn 3 1 (.inl rfl)) ?_
  rintro _ _ ⟨u2_0, rfl, rfl⟩
  refine r_end ?_
  refine g_seq ?_
  refine g_run (by kernel_rfl) [(0, .w)] rfl ?_
  refine r_w rfl rfl rfl (s_nilOwn 3 1 (.inl rfl)) ?_
  rintro _ _ ⟨u3_1, rfl, rfl⟩
  refine r_end ?_
  refine g_seq ?_
  refine g_seq ?_
  refine g_run (by kernel_rfl) [(0, .d)] rfl ?_
  refine r_d rfl rfl rfl (s_assign rfl rfl) ?_
  refine r_end ?_
  obtain ⟨kk0, hkk0, hr⟩ := exK (fun k => lf_constraintref03_VarsOf_L0 k fuel l_a0 []) hr
  refine g_len 0 rfl (asl rfl) fun hla0 => ?_
  simp only [List.length_map] at hla0
  refine g_blockJ (fun env σ => ∃ (out_7 : (List Int)) (u_6 : Value), env = [(3, .own u_6 (out_7.map (D.int .i64)))] ∧ σ = [.row u_6 out_7.length 3 1] ∧ kk0 out_7 = some res) ?_ (fun HK0 => ?_)
  ·
   rintro _ _ ⟨out_7, u_6, rfl, rfl, hr⟩
   rw [hkk0] at hr
   refine g_seq ?_
   refine g_run (by kernel_rfl) [(0, .d), (1, .d)] rfl ?_
   refine r_d rfl rfl rfl (s_move rfl rfl) ?_
   refine r_d rfl rfl rfl (s_assign rfl rfl) ?_
   refine r_end ?_
   obtain rfl := Option.some.inj hr
   refine g_ret Try.func52 _ (.cons (resTmp rfl (Wk.own _ _)) .nil) ?_
   rfl
  ·
   refine g_sub [(0, .lst (l_a0.map encT)), (3, .own u3_1 ([].map (D.int .i64))), (4, .int .i64 ((0 : Nat) : Int))] (Sub.cons' rfl (Sub.cons' rfl (Sub.cons' rfl (Sub.nil _)))) ?_
   refine g_perm [_] _ (pf0 _) ?_
   refine g_loop (fun n env σ => ∃ (out_4 : (List Int)) (i_5 : Nat) (u_3 : Value), (n = l_a0.length - i_5) ∧ (env = [(0, .lst (l_a0.map encT)), (3, .own u_3 (out_4.map (D.int .i64))), (4, .int .i64 (i_5 : Int))]) ∧ (σ = [.row u_3 out_4.length 3 1]) ∧ (i_5 ≤ l_a0.length) ∧ (lf_constraintref03_VarsOf_L0 kk0 fuel (l_a0.drop i_5) out_4 = some res)) _ ⟨[], 0, u3_1, rfl, rfl, rfl, Nat.zero_le _, hr⟩ ?_
   rintro n _ _ ⟨out_4, i_5, u_3, rfl, rfl, rfl, hi0, hr⟩ IH0
   rcases listStep l_a0 i_5 hi0 with ⟨ht0, hd0, he0⟩ | ⟨q_8, ht0, hd0, hq0, hlt0⟩
   ·
    rw [hd0, lf_constraintref03_VarsOf_L0] at hr
    refine g_seq ?_
    refine g_seq ?_
    refine g_run (by kernel_rfl) [(0, .d), (1, .d), (2, .d), (3, .d)] rfl ?_
    refine r_d rfl rfl rfl (s_move rfl rfl) ?_
    refine r_d rfl rfl rfl (s_move rfl rfl) ?_
    refine r_d rfl rfl rfl (m_len (f := encT) l_a0 rfl el_L_api_Term rfl (asl rfl)) ?_
    refine r_d rfl rfl rfl (s_cmp rfl rfl rfl rfl) ?_
    refine r_end ?_
    refine g_known 8 false rfl ht0 ?_
    refine g_condF rfl ?_
    refine g_exit rfl ?_
    refine g_sub [(3, .own u_3 (out_4.map (D.int .i64)))] (Sub.cons' rfl (Sub.nil _)) ?_
    exact HK0 _ _ ⟨out_4, u_3, rfl, rfl, hr⟩
   ·
    rw [hd0, lf_constraintref03_VarsOf_L0] at hr
    refine g_seq ?_
    refine g_seq ?_
    refine g_run (by kernel_rfl) [(0, .d), (1, .d), (2, .d), (3, .d)] rfl ?_
    refine r_d rfl rfl rfl (s_move rfl rfl) ?_
    refine r_d rfl rfl rfl (s_move rfl rfl) ?_
    refine r_d rfl rfl rfl (m_len (f := encT) l_a0 rfl el_L_api_Term rfl (asl rfl)) ?_
    refine r_d rfl rfl rfl (s_cmp rfl rfl rfl rfl) ?_
    refine r_end ?_
    refine g_known 8 true rfl ht0 ?_
    refine g_condT rfl ?_
    refine g_skip ?_
    refine g_seq ?_
    refine g_block ?_
    refine g_run (by kernel_rfl) [(0, .d), (1, .d), (2, .d), (3, .d), (4, .d), (5, .w), (6, .d)] rfl ?_
    refine r_d rfl rfl rfl (s_move rfl rfl) ?_
    refine r_d rfl rfl rfl (s_move rfl rfl) ?_
    refine r_d rfl rfl rfl (s_move rfl rfl) ?_
    refine r_d rfl rfl rfl (m_index (f := encT) l_a0 rfl el_L_api_Term rfl (asl rfl) rfl hq0 sz_encT rfl) ?_
    refine r_d rfl rfl rfl (s_load rfl rfl (by exact ty_api_Term) (sz_encT _)) ?_
    obtain ⟨r_9, hr_9, hr⟩ := bindS hr
    refine r_w rfl rfl rfl (s_call _ rfl cl_constraintref03_vars (.cons rfl (Wk.refl _) (.cons rfl (Wk.refl _) .nil)) (by exact (pf0 _)) (lg_constraintref03_vars_s1 fuel _ _ _ _ hr_9)) ?_
    rintro _ _ ⟨_, ⟨u16_9, rfl, rfl⟩, rfl⟩
    refine r_st ((.row u16_9 r_9.length 3 1) :: _) rfl ?_
    refine r_d rfl rfl rfl (s_assign rfl rfl) ?_
    refine r_end ?_
    refine g_inBlock ?_
    refine g_run (by kernel_rfl) [(0, .d), (1, .d), (2, .d)] rfl ?_
    refine r_d rfl rfl rfl (s_move rfl rfl) ?_
    refine r_d rfl rfl rfl (s_ar (r := ((i_5 + 1 : Nat) : Int)) rfl rfl rfl (by simp [iar]) (by omega)) ?_
    refine r_d rfl rfl rfl (s_assign rfl rfl) ?_
    refine r_end ?_
    refine g_sub [(0, .lst (l_a0.map encT)), (3, .own u16_9 (r_9.map (D.int .i64))), (4, .int .i64 ((i_5 + 1 : Nat) : Int))] (Sub.cons' rfl (Sub.cons' rfl (Sub.cons' rfl (Sub.nil _)))) ?_
    exact IH0 _ _ _ (by omega) ⟨r_9, (i_5 + 1), u16_9, rfl, rfl, rfl, (by omega), hr⟩

noncomputable def lf_constraintref15_Vars_L1 (k : ((List T)) → Option ((List Int))) : List Gl → (List T) → Option ((List Int))
  | [], l_10 =>
  (k l_10)
  | q_15 :: rest, l_10 =>
  ((appO 56 l_10 q_15.ts).bind fun l_16 =>
  (lf_constraintref15_Vars_L1 k rest l_16))

noncomputable def lf_constraintref15_Vars_L0 (k : ((List T)) → Option ((List Int))) : List At → (List T) → Option ((List Int))
  | [], l_4 =>
  (k l_4)
  | q_18 :: rest, l_4 =>
  ((appO 56 l_4 q_18.ts).bind fun l_19 =>
  (lf_constraintref15_Vars_L0 k rest l_19))
noncomputable def lf_constraintref15_Vars (fuel : Nat) (r_a0 : S_api_Rule) : Option ((List Int)) :=
  ((lf_constraintref15_heads r_a0).bind fun r_2 =>
  (lf_constraintref15_Vars_L0 (fun l_7 =>
  ((lf_constraintref15_goals r_a0).bind fun r_8 =>
  (lf_constraintref15_Vars_L1 (fun l_13 =>
  ((lf_constraintref03_VarsOf fuel l_13).bind fun r_14 =>
  some (r_14))) r_8 l_7))) r_2 []))

set_option maxHeartbeats 1000000 in
theorem lg_constraintref15_Vars (fuel : Nat) (r_a0 : S_api_Rule) (res : (List Int)) (hr : lf_constraintref15_Vars fuel r_a0 = some res) : Gives Try.prog 43 [enc_S_api_Rule r_a0] (.lst (res.map (D.int .i64))) := by
  unfold lf_constraintref15_Vars at hr
  refine spec_env [(0, enc_S_api_Rule r_a0)] Try.func43 rfl rfl fun K hK => ?_
  refine g_seq ?_
  refine g_run (by kernel_rfl) [(0, .d), (1, .d)] rfl ?_
  refine r_d rfl rfl rfl (s_box rfl rfl rfl) ?_
  refine r_d rfl rfl rfl (s_assign rfl rfl) ?_
  refine r_end ?_
  refine g_seq ?_
  refine g_run (by kernel_rfl) [(0, .w)] rfl ?_
  refine r_w rfl rfl rfl (s_nilOwn 88 4 (.inl rfl)) ?_
  rintro _ _ ⟨u3_0, rfl, rfl⟩
  refine r_end ?_
  refine g_seq ?_
  refine g_run (by kernel_rfl) [(0, .d), (1, .d), (2, .d)] rfl ?_
  refine r_d rfl rfl rfl (s_load rfl rfl (by exact ty_api_Rule) (sz_S_api_Rule _)) ?_
  obtain ⟨r_2, hr_2, hr⟩ := bindS hr
  refine r_d rfl rfl rfl (s_callD rfl cl_constraintref15_heads (.cons rfl (Wk.refl _) .nil) (lg_constraintref15_heads _ _ hr_2)) ?_
  refine r_d rfl rfl rfl (s_assign rfl rfl) ?_
  refine r_end ?_
  refine g_seq ?_
  refine g_seq ?_
  refine g_run (by kernel_rfl) [(0, .d)] rfl ?_
  refine r_d rfl rfl rfl (s_assign rfl rfl) ?_
  refine r_end ?_
  obtain ⟨kk0, hkk0, hr⟩ := exK (fun k => lf_constraintref15_Vars_L0 k r_2 []) hr
  refine g_len 9 rfl (asl rfl) fun hla0 => ?_
  simp only [List.length_map] at hla0
  refine g_blockJ (fun env σ => ∃ (l_7 : (List T)) (u_6 : Value), env = [(1, .ptr (enc_S_api_Rule r_a0)), (3, .own u_6 (l_7.map encT))] ∧ σ = [.row u_6 l_7.length 88 4] ∧ kk0 l_7 = some res) ?_ (fun HK0 => ?_)
  ·
   rintro _ _ ⟨l_7, u_6, rfl, rfl, hr⟩
   rw [hkk0] at hr
   refine g_seq ?_
   refine g_run (by kernel_rfl) [(0, .d), (1, .d), (2, .d)] rfl ?_
   refine r_d rfl rfl rfl (s_load rfl rfl (by exact ty_api_Rule) (sz_S_api_Rule _)) ?_
   obtain ⟨r_8, hr_8, hr⟩ := bindS hr
   refine r_d rfl rfl rfl (s_callD rfl cl_constraintref15_goals (.cons rfl (Wk.refl _) .nil) (lg_constraintref15_goals _ _ hr_8)) ?_
   refine r_d rfl rfl rfl (s_assign rfl rfl) ?_
   refine r_end ?_
   refine g_seq ?_
   refine g_seq ?_
   refine g_run (by kernel_rfl) [(0, .d)] rfl ?_
   refine r_d rfl rfl rfl (s_assign rfl rfl) ?_
   refine r_end ?_
   obtain ⟨kk1, hkk1, hr⟩ := exK (fun k => lf_constraintref15_Vars_L1 k r_8 l_7) hr
   refine g_len 24 rfl (asl rfl) fun hla1 => ?_
   simp only [List.length_map] at hla1
   refine g_blockJ (fun env σ => ∃ (l_13 : (List T)) (u_12 : Value), env = [(3, .own u_12 (l_13.map encT))] ∧ σ = [.row u_12 l_13.length 88 4] ∧ kk1 l_13 = some res) ?_ (fun HK1 => ?_)
   ·
    rintro _ _ ⟨l_13, u_12, rfl, rfl, hr⟩
    rw [hkk1] at hr
    refine g_seq ?_
    refine g_run (by kernel_rfl) [(0, .d), (1, .d), (2, .d)] rfl ?_
    refine r_d rfl rfl rfl (s_move rfl rfl) ?_
    obtain ⟨r_14, hr_14, hr⟩ := bindS hr
    refine r_d rfl rfl rfl (s_callD rfl cl_constraintref03_VarsOf (.cons rfl (Wk.own _ _) .nil) (lg_constraintref03_VarsOf fuel _ _ hr_14)) ?_
    refine r_d rfl rfl rfl (s_assign rfl rfl) ?_
    refine r_end ?_
    obtain rfl := Option.some.inj hr
    refine g_ret Try.func43 _ (.cons (resTmp rfl (Wk.refl _)) .nil) ?_
    rfl
   ·
    refine g_sub [(6, .lst (r_8.map encG)), (3, .own u_6 (l_7.map encT)), (7, .int .i64 ((0 : Nat) : Int))] (Sub.cons' rfl (Sub.cons' rfl (Sub.cons' rfl (Sub.nil _)))) ?_
    refine g_loop (fun n env σ => ∃ (l_10 : (List T)) (i_11 : Nat) (u_9 : Value), (n = r_8.length - i_11) ∧ (env = [(6, .lst (r_8.map encG)), (3, .own u_9 (l_10.map encT)), (7, .int .i64 (i_11 : Int))]) ∧ (σ = [.row u_9 l_10.length 88 4]) ∧ (i_11 ≤ r_8.length) ∧ (lf_constraintref15_Vars_L1 kk1 (r_8.drop i_11) l_10 = some res)) _ ⟨l_7, 0, u_6, rfl, rfl, rfl, Nat.zero_le _, hr⟩ ?_
    rintro n _ _ ⟨l_10, i_11, u_9, rfl, rfl, rfl, hi1, hr⟩ IH1
    rcases listStep r_8 i_11 hi1 with ⟨ht1, hd1, he1⟩ | ⟨q_15, ht1, hd1, hq1, hlt1⟩
    ·
     rw [hd1, lf_constraintref15_Vars_L1] at hr
     refine g_seq ?_
     refine g_seq ?_
     refine g_run (by kernel_rfl) [(0, .d), (1, .d), (2, .d), (3, .d)] rfl ?_
     refine r_d rfl rfl rfl (s_move rfl rfl) ?_
     refine r_d rfl rfl rfl (s_move rfl rfl) ?_
     refine r_d rfl rfl rfl (m_len (f := encG) r_8 rfl el_L_api_Goal rfl (asl rfl)) ?_
     refine r_d rfl rfl rfl (s_cmp rfl rfl rfl rfl) ?_
     refine r_end ?_
     refine g_known 28 false rfl ht1 ?_
     refine g_condF rfl ?_
     refine g_exit rfl ?_
     refine g_sub [(3, .own u_9 (l_10.map encT))] (Sub.cons' rfl (Sub.nil _)) ?_
     exact HK1 _ _ ⟨l_10, u_9, rfl, rfl, hr⟩
    ·
     rw [hd1, lf_constraintref15_Vars_L1] at hr
     refine g_seq ?_
     refine g_seq ?_
     refine g_run (by kernel_rfl) [(0, .d), (1, .d), (2, .d), (3, .d)] rfl ?_
     refine r_d rfl rfl rfl (s_move rfl rfl) ?_
     refine r_d rfl rfl rfl (s_move rfl rfl) ?_
     refine r_d rfl rfl rfl (m_len (f := encG) r_8 rfl el_L_api_Goal rfl (asl rfl)) ?_
     refine r_d rfl rfl rfl (s_cmp rfl rfl rfl rfl) ?_
     refine r_end ?_
     refine g_known 28 true rfl ht1 ?_
     refine g_condT rfl ?_
     refine g_skip ?_
     refine g_seq ?_
     refine g_block ?_
     refine g_run (by kernel_rfl) [(0, .d), (1, .d), (2, .d), (3, .d), (4, .d), (5, .d), (6, .w), (7, .d)] rfl ?_
     refine r_d rfl rfl rfl (s_move rfl rfl) ?_
     refine r_d rfl rfl rfl (s_move rfl rfl) ?_
     refine r_d rfl rfl rfl (s_move rfl rfl) ?_
     refine r_d rfl rfl rfl (m_index (f := encG) r_8 rfl el_L_api_Goal rfl (asl rfl) rfl hq1 sz_encG rfl) ?_
     refine r_d rfl rfl rfl (s_fieldAddr rfl fl_api_Goal_2 rfl rfl rfl rfl) ?_
     refine r_d rfl rfl rfl (s_load rfl rfl (by exact ty_L_api_Term) rfl) ?_
     obtain ⟨l_16, hl_16, hr⟩ := bindS hr
     refine r_w rfl rfl rfl (m_appOwn (f := encT) l_10 q_15.ts rfl el_L_api_Term rfl rfl (asl rfl) (pf0 _) rfl sz_encT hl_16) ?_
     rintro _ _ ⟨u37_16, rfl, rfl⟩
     refine r_d rfl rfl rfl (s_assign rfl rfl) ?_
     refine r_end ?_
     refine g_inBlock ?_
     refine g_run (by kernel_rfl) [(0, .d), (1, .d), (2, .d)] rfl ?_
     refine r_d rfl rfl rfl (s_move rfl rfl) ?_
     refine r_d rfl rfl rfl (s_ar (r := ((i_11 + 1 : Nat) : Int)) rfl rfl rfl (by simp [iar]) (by omega)) ?_
     refine r_d rfl rfl rfl (s_assign rfl rfl) ?_
     refine r_end ?_
     refine g_sub [(6, .lst (r_8.map encG)), (3, .own u37_16 (l_16.map encT)), (7, .int .i64 ((i_11 + 1 : Nat) : Int))] (Sub.cons' rfl (Sub.cons' rfl (Sub.cons' rfl (Sub.nil _)))) ?_
     exact IH1 _ _ _ (by omega) ⟨l_16, (i_11 + 1), u37_16, rfl, rfl, rfl, (by omega), hr⟩
  ·
   refine g_sub [(1, .ptr (enc_S_api_Rule r_a0)), (4, .lst (r_2.map encA)), (3, .own u3_0 ([].map encT)), (5, .int .i64 ((0 : Nat) : Int))] (Sub.cons' rfl (Sub.cons' rfl (Sub.cons' rfl (Sub.cons' rfl (Sub.nil _))))) ?_
   refine g_loop (fun n env σ => ∃ (l_4 : (List T)) (i_5 : Nat) (u_3 : Value), (n = r_2.length - i_5) ∧ (env = [(1, .ptr (enc_S_api_Rule r_a0)), (4, .lst (r_2.map encA)), (3, .own u_3 (l_4.map encT)), (5, .int .i64 (i_5 : Int))]) ∧ (σ = [.row u_3 l_4.length 88 4]) ∧ (i_5 ≤ r_2.length) ∧ (lf_constraintref15_Vars_L0 kk0 (r_2.drop i_5) l_4 = some res)) _ ⟨[], 0, u3_0, rfl, rfl, rfl, Nat.zero_le _, hr⟩ ?_
   rintro n _ _ ⟨l_4, i_5, u_3, rfl, rfl, rfl, hi0, hr⟩ IH0
   rcases listStep r_2 i_5 hi0 with ⟨ht0, hd0, he0⟩ | ⟨q_18, ht0, hd0, hq0, hlt0⟩
   ·
    rw [hd0, lf_constraintref15_Vars_L0] at hr
    refine g_seq ?_
    refine g_seq ?_
    refine g_run (by kernel_rfl) [(0, .d), (1, .d), (2, .d), (3, .d)] rfl ?_
    refine r_d rfl rfl rfl (s_move rfl rfl) ?_
    refine r_d rfl rfl rfl (s_move rfl rfl) ?_
    refine r_d rfl rfl rfl (m_len (f := encA) r_2 rfl el_L_api_Atom rfl (asl rfl)) ?_
    refine r_d rfl rfl rfl (s_cmp rfl rfl rfl rfl) ?_
    refine r_end ?_
    refine g_known 13 false rfl ht0 ?_
    refine g_condF rfl ?_
    refine g_exit rfl ?_
    refine g_sub [(1, .ptr (enc_S_api_Rule r_a0)), (3, .own u_3 (l_4.map encT))] (Sub.cons' rfl (Sub.cons' rfl (Sub.nil _))) ?_
    exact HK0 _ _ ⟨l_4, u_3, rfl, rfl, hr⟩
   ·
    rw [hd0, lf_constraintref15_Vars_L0] at hr
    refine g_seq ?_
    refine g_seq ?_
    refine g_run (by kernel_rfl) [(0, .d), (1, .d), (2, .d), (3, .d)] rfl ?_
    refine r_d rfl rfl rfl (s_move rfl rfl) ?_
    refine r_d rfl rfl rfl (s_move rfl rfl) ?_
    refine r_d rfl rfl rfl (m_len (f := encA) r_2 rfl el_L_api_Atom rfl (asl rfl)) ?_
    refine r_d rfl rfl rfl (s_cmp rfl rfl rfl rfl) ?_
    refine r_end ?_
    refine g_known 13 true rfl ht0 ?_
    refine g_condT rfl ?_
    refine g_skip ?_
    refine g_seq ?_
    refine g_block ?_
    refine g_run (by kernel_rfl) [(0, .d), (1, .d), (2, .d), (3, .d), (4, .d), (5, .d), (6, .w), (7, .d)] rfl ?_
    refine r_d rfl rfl rfl (s_move rfl rfl) ?_
    refine r_d rfl rfl rfl (s_move rfl rfl) ?_
    refine r_d rfl rfl rfl (s_move rfl rfl) ?_
    refine r_d rfl rfl rfl (m_index (f := encA) r_2 rfl el_L_api_Atom rfl (asl rfl) rfl hq0 sz_encA rfl) ?_
    refine r_d rfl rfl rfl (s_fieldAddr rfl fl_api_Atom_1 rfl rfl rfl rfl) ?_
    refine r_d rfl rfl rfl (s_load rfl rfl (by exact ty_L_api_Term) rfl) ?_
    obtain ⟨l_19, hl_19, hr⟩ := bindS hr
    refine r_w rfl rfl rfl (m_appOwn (f := encT) l_4 q_18.ts rfl el_L_api_Term rfl rfl (asl rfl) (pf0 _) rfl sz_encT hl_19) ?_
    rintro _ _ ⟨u22_19, rfl, rfl⟩
    refine r_d rfl rfl rfl (s_assign rfl rfl) ?_
    refine r_end ?_
    refine g_inBlock ?_
    refine g_run (by kernel_rfl) [(0, .d), (1, .d), (2, .d)] rfl ?_
    refine r_d rfl rfl rfl (s_move rfl rfl) ?_
    refine r_d rfl rfl rfl (s_ar (r := ((i_5 + 1 : Nat) : Int)) rfl rfl rfl (by simp [iar]) (by omega)) ?_
    refine r_d rfl rfl rfl (s_assign rfl rfl) ?_
    refine r_end ?_
    refine g_sub [(1, .ptr (enc_S_api_Rule r_a0)), (4, .lst (r_2.map encA)), (3, .own u22_19 (l_19.map encT)), (5, .int .i64 ((i_5 + 1 : Nat) : Int))] (Sub.cons' rfl (Sub.cons' rfl (Sub.cons' rfl (Sub.cons' rfl (Sub.nil _))))) ?_
    exact IH0 _ _ _ (by omega) ⟨l_19, (i_5 + 1), u22_19, rfl, rfl, rfl, (by omega), hr⟩

noncomputable def lf_constraintref15_declare_L0 (k : (Int) → Option (Int)) (name_a1 : ByteArray) : List S_api_Decl → Int → Option (Int)
  | [], e_1 =>
  (k e_1)
  | q_6 :: rest, e_1 =>
  (bif (q_6.f0_Name.toList == name_a1.toList) then
  (lf_constraintref15_declare_L0 k name_a1 rest 9)
  else
  (lf_constraintref15_declare_L0 k name_a1 rest e_1))
noncomputable def lf_constraintref15_declare (decls_a0 : (List S_api_Decl)) (name_a1 : ByteArray) (arity_a2 : Int) : Option (Int) :=
  (lf_constraintref15_declare_L0 (fun e_3 =>
  ((lf_constraintref15_Declared decls_a0 name_a1 arity_a2).bind fun r_4 =>
  (bif r_4 then
  some (0)
  else
  some (e_3)))) name_a1 decls_a0 7)

set_option maxHeartbeats 1000000 in
theorem lg_constraintref15_declare (decls_a0 : (List S_api_Decl)) (name_a1 : ByteArray) (arity_a2 : Int) (res : Int) (hr : lf_constraintref15_declare decls_a0 name_a1 arity_a2 = some res) : Gives Try.prog 70 [.lst (decls_a0.map enc_S_api_Decl), .str name_a1, .int .i64 arity_a2] (.int .i64 res) := by
  unfold lf_constraintref15_declare at hr
  refine spec_env [(0, .lst (decls_a0.map enc_S_api_Decl)), (1, .str name_a1), (2, .int .i64 arity_a2)] Try.func70 rfl rfl fun K hK => ?_
  refine g_seq ?_
  refine g_run (by kernel_rfl) [(0, .d)] rfl ?_
  refine r_d rfl rfl rfl (s_assign rfl rfl) ?_
  refine r_end ?_
  refine g_seq ?_
  refine g_run (by kernel_rfl) [(0, .d)] rfl ?_
  refine r_d rfl rfl rfl (s_assign rfl rfl) ?_
  refine r_end ?_
  refine g_seq ?_
  refine g_seq ?_
  refine g_run (by kernel_rfl) [(0, .d)] rfl ?_
  refine r_d rfl rfl rfl (s_assign rfl rfl) ?_
  refine r_end ?_
  obtain ⟨kk0, hkk0, hr⟩ := exK (fun k => lf_constraintref15_declare_L0 k name_a1 decls_a0 7) hr
  refine g_len 0 rfl (asl rfl) fun hla0 => ?_
  simp only [List.length_map] at hla0
  refine g_blockJ (fun env σ => ∃ (e_3 : Int), env = [(0, .lst (decls_a0.map enc_S_api_Decl)), (1, .str name_a1), (2, .int .i64 arity_a2), (7, .int .i64 e_3)] ∧ σ = [] ∧ kk0 e_3 = some res) ?_ (fun HK0 => ?_)
  ·
   rintro _ _ ⟨e_3, rfl, rfl, hr⟩
   rw [hkk0] at hr
   refine g_seq ?_
   refine g_seq ?_
   refine g_run (by kernel_rfl) [(0, .d), (1, .d), (2, .d), (3, .d)] rfl ?_
   refine r_d rfl rfl rfl (s_move rfl rfl) ?_
   refine r_d rfl rfl rfl (s_move rfl rfl) ?_
   refine r_d rfl rfl rfl (s_move rfl rfl) ?_
   obtain ⟨r_4, hr_4, hr⟩ := bindS hr
   refine r_d rfl rfl rfl (s_callD rfl cl_constraintref15_Declared (.cons rfl (Wk.refl _) (.cons rfl (Wk.refl _) (.cons rfl (Wk.refl _) .nil))) (lg_constraintref15_Declared _ _ _ _ hr_4)) ?_
   refine r_end ?_
   refine g_sB 25 rfl hr (fun h25_4 hr => ?_) (fun h25_4 hr => ?_)
   ·
    refine g_condT rfl ?_
    refine g_seq ?_
    refine g_run (by kernel_rfl) [(0, .d)] rfl ?_
    refine r_d rfl rfl rfl (s_assign rfl rfl) ?_
    refine r_end ?_
    obtain rfl := Option.some.inj hr
    refine g_ret Try.func70 _ (.cons (resTmp rfl (Wk.refl _)) .nil) ?_
    rfl
   ·
    refine g_condF rfl ?_
    refine g_skip ?_
    refine g_seq ?_
    refine g_run (by kernel_rfl) [(0, .d), (1, .d)] rfl ?_
    refine r_d rfl rfl rfl (s_move rfl rfl) ?_
    refine r_d rfl rfl rfl (s_assign rfl rfl) ?_
    refine r_end ?_
    obtain rfl := Option.some.inj hr
    refine g_ret Try.func70 _ (.cons (resTmp rfl (Wk.refl _)) .nil) ?_
    rfl
  ·
   refine g_sub [(0, .lst (decls_a0.map enc_S_api_Decl)), (1, .str name_a1), (2, .int .i64 arity_a2), (7, .int .i64 7), (8, .int .i64 ((0 : Nat) : Int))] (Sub.cons' rfl (Sub.cons' rfl (Sub.cons' rfl (Sub.cons' rfl (Sub.cons' rfl (Sub.nil _)))))) ?_
   refine g_loop (fun n env σ => ∃ (e_1 : Int) (i_2 : Nat), (n = decls_a0.length - i_2) ∧ (env = [(0, .lst (decls_a0.map enc_S_api_Decl)), (1, .str name_a1), (2, .int .i64 arity_a2), (7, .int .i64 e_1), (8, .int .i64 (i_2 : Int))]) ∧ (σ = []) ∧ (i_2 ≤ decls_a0.length) ∧ (lf_constraintref15_declare_L0 kk0 name_a1 (decls_a0.drop i_2) e_1 = some res)) _ ⟨7, 0, rfl, rfl, rfl, Nat.zero_le _, hr⟩ ?_
   rintro n _ _ ⟨e_1, i_2, rfl, rfl, rfl, hi0, hr⟩ IH0
   rcases listStep decls_a0 i_2 hi0 with ⟨ht0, hd0, he0⟩ | ⟨q_6, ht0, hd0, hq0, hlt0⟩
   ·
    rw [hd0, lf_constraintref15_declare_L0] at hr
    refine g_seq ?_
    refine g_seq ?_
    refine g_run (by kernel_rfl) [(0, .d), (1, .d), (2, .d), (3, .d)] rfl ?_
    refine r_d rfl rfl rfl (s_move rfl rfl) ?_
    refine r_d rfl rfl rfl (s_move rfl rfl) ?_
    refine r_d rfl rfl rfl (m_len (f := enc_S_api_Decl) decls_a0 rfl el_L_api_Decl rfl (asl rfl)) ?_
    refine r_d rfl rfl rfl (s_cmp rfl rfl rfl rfl) ?_
    refine r_end ?_
    refine g_known 12 false rfl ht0 ?_
    refine g_condF rfl ?_
    refine g_exit rfl ?_
    refine g_sub [(0, .lst (decls_a0.map enc_S_api_Decl)), (1, .str name_a1), (2, .int .i64 arity_a2), (7, .int .i64 e_1)] (Sub.cons' rfl (Sub.cons' rfl (Sub.cons' rfl (Sub.cons' rfl (Sub.nil _))))) ?_
    exact HK0 _ _ ⟨e_1, rfl, rfl, hr⟩
   ·
    rw [hd0, lf_constraintref15_declare_L0] at hr
    refine g_seq ?_
    refine g_seq ?_
    refine g_run (by kernel_rfl) [(0, .d), (1, .d), (2, .d), (3, .d)] rfl ?_
    refine r_d rfl rfl rfl (s_move rfl rfl) ?_
    refine r_d rfl rfl rfl (s_move rfl rfl) ?_
    refine r_d rfl rfl rfl (m_len (f := enc_S_api_Decl) decls_a0 rfl el_L_api_Decl rfl (asl rfl)) ?_
    refine r_d rfl rfl rfl (s_cmp rfl rfl rfl rfl) ?_
    refine r_end ?_
    refine g_known 12 true rfl ht0 ?_
    refine g_condT rfl ?_
    refine g_skip ?_
    refine g_seq ?_
    refine g_block ?_
    refine g_seq ?_
    refine g_run (by kernel_rfl) [(0, .d), (1, .d), (2, .d), (3, .d), (4, .d), (5, .d), (6, .d)] rfl ?_
    refine r_d rfl rfl rfl (s_move rfl rfl) ?_
    refine r_d rfl rfl rfl (s_move rfl rfl) ?_
    refine r_d rfl rfl rfl (m_index (f := enc_S_api_Decl) decls_a0 rfl el_L_api_Decl rfl (asl rfl) rfl hq0 sz_S_api_Decl rfl) ?_
    refine r_d rfl rfl rfl (s_fieldAddr rfl fl_api_Decl_0 rfl rfl rfl rfl) ?_
    refine r_d rfl rfl rfl (s_load rfl rfl (by exact ty_string) rfl) ?_
    refine r_d rfl rfl rfl (s_move rfl rfl) ?_
    refine r_d rfl rfl rfl (s_cmpS rfl rfl rfl rfl) ?_
    refine r_end ?_
    refine g_sB 21 rfl hr (fun h21_6 hr => ?_) (fun h21_6 hr => ?_)
    ·
     refine g_condT rfl ?_
     refine g_run (by kernel_rfl) [(0, .d)] rfl ?_
     refine r_d rfl rfl rfl (s_assign rfl rfl) ?_
     refine r_end ?_
     refine g_inBlock ?_
     refine g_run (by kernel_rfl) [(0, .d), (1, .d), (2, .d)] rfl ?_
     refine r_d rfl rfl rfl (s_move rfl rfl) ?_
     refine r_d rfl rfl rfl (s_ar (r := ((i_2 + 1 : Nat) : Int)) rfl rfl rfl (by simp [iar]) (by omega)) ?_
     refine r_d rfl rfl rfl (s_assign rfl rfl) ?_
     refine r_end ?_
     refine g_sub [(0, .lst (decls_a0.map enc_S_api_Decl)), (1, .str name_a1), (2, .int .i64 arity_a2), (7, .int .i64 9), (8, .int .i64 ((i_2 + 1 : Nat) : Int))] (Sub.cons' rfl (Sub.cons' rfl (Sub.cons' rfl (Sub.cons' rfl (Sub.cons' rfl (Sub.nil _)))))) ?_
     exact IH0 _ _ _ (by omega) ⟨9, (i_2 + 1), rfl, rfl, rfl, (by omega), hr⟩
    ·
     refine g_condF rfl ?_
     refine g_skip ?_
     refine g_inBlock ?_
     refine g_run (by kernel_rfl) [(0, .d), (1, .d), (2, .d)] rfl ?_
     refine r_d rfl rfl rfl (s_move rfl rfl) ?_
     refine r_d rfl rfl rfl (s_ar (r := ((i_2 + 1 : Nat) : Int)) rfl rfl rfl (by simp [iar]) (by omega)) ?_
     refine r_d rfl rfl rfl (s_assign rfl rfl) ?_
     refine r_end ?_
     refine g_sub [(0, .lst (decls_a0.map enc_S_api_Decl)), (1, .str name_a1), (2, .int .i64 arity_a2), (7, .int .i64 e_1), (8, .int .i64 ((i_2 + 1 : Nat) : Int))] (Sub.cons' rfl (Sub.cons' rfl (Sub.cons' rfl (Sub.cons' rfl (Sub.cons' rfl (Sub.nil _)))))) ?_
     exact IH0 _ _ _ (by omega) ⟨e_1, (i_2 + 1), rfl, rfl, rfl, (by omega), hr⟩

noncomputable def lf_constraintref15_calls_L0 (k : Option (Int)) (decls_a0 : (List S_api_Decl)) : List Gl → Option (Int)
  | [] =>
  k
  | q_2 :: rest =>
  (bif (q_2.op != (0 : Int)) then
  (lf_constraintref15_calls_L0 k decls_a0 rest)
  else
  ((lf_constraintref15_declare decls_a0 q_2.n (q_2.ts.length : Int)).bind fun r_4 =>
  (bif (r_4 != (0 : Int)) then
  some (r_4)
  else
  (lf_constraintref15_calls_L0 k decls_a0 rest))))
noncomputable def lf_constraintref15_calls (decls_a0 : (List S_api_Decl)) (l_a1 : (List Gl)) : Option (Int) :=
  (lf_constraintref15_calls_L0 (some (0)) decls_a0 l_a1)

set_option maxHeartbeats 1000000 in
theorem lg_constraintref15_calls (decls_a0 : (List S_api_Decl)) (l_a1 : (List Gl)) (res : Int) (hr : lf_constraintref15_calls decls_a0 l_a1 = some res) : Gives Try.prog 47 [.lst (decls_a0.map enc_S_api_Decl), .lst (l_a1.map encG)] (.int .i64 res) := by
  unfold lf_constraintref15_calls at hr
  refine spec_env [(0, .lst (decls_a0.map enc_S_api_Decl)), (1, .lst (l_a1.map encG))] Try.func47 rfl rfl fun K hK => ?_
  refine g_seq ?_
  refine g_run (by kernel_rfl) [(0, .d)] rfl ?_
  refine r_d rfl rfl rfl (s_assign rfl rfl) ?_
  refine r_end ?_
  refine g_seq ?_
  refine g_seq ?_
  refine g_run (by kernel_rfl) [(0, .d)] rfl ?_
  refine r_d rfl rfl rfl (s_assign rfl rfl) ?_
  refine r_end ?_
  obtain ⟨kk0, hkk0, hr⟩ := exK (fun k => lf_constraintref15_calls_L0 k decls_a0 l_a1) hr
  refine g_len 1 rfl (asl rfl) fun hla0 => ?_
  simp only [List.length_map] at hla0
  refine g_blockJ (fun env σ => env = [] ∧ σ = [] ∧ kk0 = some res) ?_ (fun HK0 => ?_)
  ·
   rintro _ _ ⟨rfl, rfl, hr⟩
   rw [hkk0] at hr
   refine g_seq ?_
   refine g_run (by kernel_rfl) [(0, .d)] rfl ?_
   refine r_d rfl rfl rfl (s_assign rfl rfl) ?_
   refine r_end ?_
   obtain rfl := Option.some.inj hr
   refine g_ret Try.func47 _ (.cons (resTmp rfl (Wk.refl _)) .nil) ?_
   rfl
  ·
   refine g_sub [(0, .lst (decls_a0.map enc_S_api_Decl)), (1, .lst (l_a1.map encG)), (5, .int .i64 ((0 : Nat) : Int))] (Sub.cons' rfl (Sub.cons' rfl (Sub.cons' rfl (Sub.nil _)))) ?_
   refine g_loop (fun n env σ => ∃ (i_1 : Nat), (n = l_a1.length - i_1) ∧ (env = [(0, .lst (decls_a0.map enc_S_api_Decl)), (1, .lst (l_a1.map encG)), (5, .int .i64 (i_1 : Int))]) ∧ (σ = []) ∧ (i_1 ≤ l_a1.length) ∧ (lf_constraintref15_calls_L0 kk0 decls_a0 (l_a1.drop i_1) = some res)) _ ⟨0, rfl, rfl, rfl, Nat.zero_le _, hr⟩ ?_
   rintro n _ _ ⟨i_1, rfl, rfl, rfl, hi0, hr⟩ IH0
   rcases listStep l_a1 i_1 hi0 with ⟨ht0, hd0, he0⟩ | ⟨q_2, ht0, hd0, hq0, hlt0⟩
   ·
    rw [hd0, lf_constraintref15_calls_L0] at hr
    refine g_seq ?_
    refine g_seq ?_
    refine g_run (by kernel_rfl) [(0, .d), (1, .d), (2, .d), (3, .d)] rfl ?_
    refine r_d rfl rfl rfl (s_move rfl rfl) ?_
    refine r_d rfl rfl rfl (s_move rfl rfl) ?_
    refine r_d rfl rfl rfl (m_len (f := encG) l_a1 rfl el_L_api_Goal rfl (asl rfl)) ?_
    refine r_d rfl rfl rfl (s_cmp rfl rfl rfl rfl) ?_
    refine r_end ?_
    refine g_known 10 false rfl ht0 ?_
    refine g_condF rfl ?_
    refine g_exit rfl ?_
    refine g_sub [] (Sub.nil _) ?_
    exact HK0 _ _ ⟨rfl, rfl, hr⟩
   ·
    rw [hd0, lf_constraintref15_calls_L0] at hr
    refine g_seq ?_
    refine g_seq ?_
    refine g_run (by kernel_rfl) [(0, .d), (1, .d), (2, .d), (3, .d)] rfl ?_
    refine r_d rfl rfl rfl (s_move rfl rfl) ?_
    refine r_d rfl rfl rfl (s_move rfl rfl) ?_
    refine r_d rfl rfl rfl (m_len (f := encG) l_a1 rfl el_L_api_Goal rfl (asl rfl)) ?_
    refine r_d rfl rfl rfl (s_cmp rfl rfl rfl rfl) ?_
    refine r_end ?_
    refine g_known 10 true rfl ht0 ?_
    refine g_condT rfl ?_
    refine g_skip ?_
    refine g_seq ?_
    refine g_block ?_
    refine g_seq ?_
    refine g_seq ?_
    refine g_run (by kernel_rfl) [(0, .d), (1, .d), (2, .d), (3, .d), (4, .d), (5, .d)] rfl ?_
    refine r_d rfl rfl rfl (s_move rfl rfl) ?_
    refine r_d rfl rfl rfl (s_move rfl rfl) ?_
    refine r_d rfl rfl rfl (m_index (f := encG) l_a1 rfl el_L_api_Goal rfl (asl rfl) rfl hq0 sz_encG rfl) ?_
    refine r_d rfl rfl rfl (s_fieldAddr rfl fl_api_Goal_0 rfl rfl rfl rfl) ?_
    refine r_d rfl rfl rfl (s_load rfl rfl (by exact ty_int) rfl) ?_
    refine r_d rfl rfl rfl (s_cmp rfl rfl rfl rfl) ?_
    refine r_end ?_
    refine g_sB 18 rfl hr (fun h18_2 hr => ?_) (fun h18_2 hr => ?_)
    ·
     refine g_condT rfl ?_
     refine g_exit rfl ?_
     refine g_run (by kernel_rfl) [(0, .d), (1, .d), (2, .d)] rfl ?_
     refine r_d rfl rfl rfl (s_move rfl rfl) ?_
     refine r_d rfl rfl rfl (s_ar (r := ((i_1 + 1 : Nat) : Int)) rfl rfl rfl (by simp [iar]) (by omega)) ?_
     refine r_d rfl rfl rfl (s_assign rfl rfl) ?_
     refine r_end ?_
     refine g_sub [(0, .lst (decls_a0.map enc_S_api_Decl)), (1, .lst (l_a1.map encG)), (5, .int .i64 ((i_1 + 1 : Nat) : Int))] (Sub.cons' rfl (Sub.cons' rfl (Sub.cons' rfl (Sub.nil _)))) ?_
     exact IH0 _ _ _ (by omega) ⟨(i_1 + 1), rfl, rfl, rfl, (by omega), hr⟩
    ·
     refine g_condF rfl ?_
     refine g_skip ?_
     refine g_seq ?_
     refine g_any (by kernel_rfl) (by kernel_rfl) [(0, .d), (1, .d), (2, .d), (3, .d), (4, .d), (5, .d), (6, .d), (7, .d), (8, .d), (9, .d), (10, .d), (11, .d), (12, .d), (13, .d)] (by kernel_rfl) ?_
     refine r_d rfl rfl rfl (s_move rfl rfl) ?_
     refine r_d rfl rfl rfl (s_move rfl rfl) ?_
     refine r_d rfl rfl rfl (s_move rfl rfl) ?_
     refine r_d rfl rfl rfl (m_index (f := encG) l_a1 rfl el_L_api_Goal rfl (asl rfl) rfl hq0 sz_encG rfl) ?_
     refine r_d rfl rfl rfl (s_fieldAddr rfl fl_api_Goal_1 rfl rfl rfl rfl) ?_
     refine r_d rfl rfl rfl (s_load rfl rfl (by exact ty_string) rfl) ?_
     refine r_d rfl rfl rfl (s_move rfl rfl) ?_
     refine r_d rfl rfl rfl (s_move rfl rfl) ?_
     refine r_d rfl rfl rfl (m_index (f := encG) l_a1 rfl el_L_api_Goal rfl (asl rfl) rfl hq0 sz_encG rfl) ?_
     refine r_d rfl rfl rfl (s_fieldAddr rfl fl_api_Goal_2 rfl rfl rfl rfl) ?_
     refine r_d rfl rfl rfl (s_load rfl rfl (by exact ty_L_api_Term) rfl) ?_
     refine r_d rfl rfl rfl (m_len (f := encT) q_2.ts rfl el_L_api_Term rfl (asl rfl)) ?_
     obtain ⟨r_4, hr_4, hr⟩ := bindS hr
     refine r_d rfl rfl rfl (s_callD rfl cl_constraintref15_declare (.cons rfl (Wk.refl _) (.cons rfl (Wk.refl _) (.cons rfl (Wk.refl _) .nil))) (lg_constraintref15_declare _ _ _ _ hr_4)) ?_
     refine r_d rfl rfl rfl (s_assign rfl rfl) ?_
     refine r_end ?_
     refine g_seq ?_
     refine g_run (by kernel_rfl) [(0, .d), (1, .d)] rfl ?_
     refine r_d rfl rfl rfl (s_move rfl rfl) ?_
     refine r_d rfl rfl rfl (s_cmp rfl rfl rfl rfl) ?_
     refine r_end ?_
     refine g_sB 33 rfl hr (fun h33_4 hr => ?_) (fun h33_4 hr => ?_)
     ·
      refine g_condT rfl ?_
      refine g_seq ?_
      refine g_run (by kernel_rfl) [(0, .d), (1, .d)] rfl ?_
      refine r_d rfl rfl rfl (s_move rfl rfl) ?_
      refine r_d rfl rfl rfl (s_assign rfl rfl) ?_
      refine r_end ?_
      obtain rfl := Option.some.inj hr
      refine g_ret Try.func47 _ (.cons (resTmp rfl (Wk.refl _)) .nil) ?_
      rfl
     ·
      refine g_condF rfl ?_
      refine g_skip ?_
      refine g_inBlock ?_
      refine g_run (by kernel_rfl) [(0, .d), (1, .d), (2, .d)] rfl ?_
      refine r_d rfl rfl rfl (s_move rfl rfl) ?_
      refine r_d rfl rfl rfl (s_ar (r := ((i_1 + 1 : Nat) : Int)) rfl rfl rfl (by simp [iar]) (by omega)) ?_
      refine r_d rfl rfl rfl (s_assign rfl rfl) ?_
      refine r_end ?_
      refine g_sub [(0, .lst (decls_a0.map enc_S_api_Decl)), (1, .lst (l_a1.map encG)), (5, .int .i64 ((i_1 + 1 : Nat) : Int))] (Sub.cons' rfl (Sub.cons' rfl (Sub.cons' rfl (Sub.nil _)))) ?_
      exact IH0 _ _ _ (by omega) ⟨(i_1 + 1), rfl, rfl, rfl, (by omega), hr⟩

noncomputable def lf_constraintref15_Test (op_a0 : Int) : Option (Bool) :=
  (bif (decide (op_a0 ≥ (5 : Int))) then
  some ((decide (op_a0 ≤ (12 : Int))))
  else
  some (false))

set_option maxHeartbeats 1000000 in
theorem lg_constraintref15_Test (op_a0 : Int) (res : Bool) (hr : lf_constraintref15_Test op_a0 = some res) : Gives Try.prog 48 [.int .i64 op_a0] (.bool res) := by
  unfold lf_constraintref15_Test at hr
  refine spec_env [(0, .int .i64 op_a0)] Try.func48 rfl rfl fun K hK => ?_
  refine g_seq ?_
  refine g_run (by kernel_rfl) [(0, .d)] rfl ?_
  refine r_d rfl rfl rfl (s_assign rfl rfl) ?_
  refine r_end ?_
  refine g_seq ?_
  refine g_run (by kernel_rfl) [(0, .d), (1, .d), (2, .d), (3, .d), (4, .d), (5, .d), (6, .d)] rfl ?_
  refine r_d rfl rfl rfl (s_move rfl rfl) ?_
  refine r_d rfl rfl rfl (s_cmp rfl rfl rfl rfl) ?_
  refine r_d rfl rfl rfl (s_move rfl rfl) ?_
  refine r_sB 5 rfl hr (fun h5_0 hr => ?_) (fun h5_0 hr => ?_)
  ·
   refine r_d rfl rfl rfl (s_move rfl rfl) ?_
   refine r_d rfl rfl rfl (s_cmp rfl rfl rfl rfl) ?_
   refine r_d rfl rfl rfl (s_pickT rfl rfl rfl) ?_
   refine r_d rfl rfl rfl (s_assign rfl rfl) ?_
   refine r_end ?_
   obtain rfl := Option.some.inj hr
   refine g_ret Try.func48 _ (.cons (resTmp rfl (Wk.refl _)) .nil) ?_
   rfl
  ·
   refine r_skip rfl rfl rfl ?_
   refine r_skip rfl rfl rfl ?_
   refine r_d rfl rfl rfl (s_pickF rfl rfl rfl) ?_
   refine r_d rfl rfl rfl (s_assign rfl rfl) ?_
   refine r_end ?_
   obtain rfl := Option.some.inj hr
   refine g_ret Try.func48 _ (.cons (resTmp rfl (Wk.refl _)) .nil) ?_
   rfl

noncomputable def lf_constraintref15_headVars_L0 (k : ((List T)) → Option ((List Int))) : List At → (List T) → Option ((List Int))
  | [], l_4 =>
  (k l_4)
  | q_9 :: rest, l_4 =>
  ((appO 56 l_4 q_9.ts).bind fun l_10 =>
  (lf_constraintref15_headVars_L0 k rest l_10))
noncomputable def lf_constraintref15_headVars (fuel : Nat) (r_a0 : S_api_Rule) : Option ((List Int)) :=
  ((lf_constraintref15_heads r_a0).bind fun r_2 =>
  (lf_constraintref15_headVars_L0 (fun l_7 =>
  ((lf_constraintref03_VarsOf fuel l_7).bind fun r_8 =>
  some (r_8))) r_2 []))

set_option maxHeartbeats 1000000 in
theorem lg_constraintref15_headVars (fuel : Nat) (r_a0 : S_api_Rule) (res : (List Int)) (hr : lf_constraintref15_headVars fuel r_a0 = some res) : Gives Try.prog 51 [enc_S_api_Rule r_a0] (.lst (res.map (D.int .i64))) := by
  unfold lf_constraintref15_headVars at hr
  refine spec_env [(0, enc_S_api_Rule r_a0)] Try.func51 rfl rfl fun K hK => ?_
  refine g_seq ?_
  refine g_run (by kernel_rfl) [(0, .d), (1, .d)] rfl ?_
  refine r_d rfl rfl rfl (s_box rfl rfl rfl) ?_
  refine r_d rfl rfl rfl (s_assign rfl rfl) ?_
  refine r_end ?_
  refine g_seq ?_
  refine g_run (by kernel_rfl) [(0, .w)] rfl ?_
  refine r_w rfl rfl rfl (s_nilOwn 88 4 (.inl rfl)) ?_
  rintro _ _ ⟨u3_0, rfl, rfl⟩
  refine r_end ?_
  refine g_seq ?_
  refine g_run (by kernel_rfl) [(0, .d), (1, .d), (2, .d)] rfl ?_
  refine r_d rfl rfl rfl (s_load rfl rfl (by exact ty_api_Rule) (sz_S_api_Rule _)) ?_
  obtain ⟨r_2, hr_2, hr⟩ := bindS hr
  refine r_d rfl rfl rfl (s_callD rfl cl_constraintref15_heads (.cons rfl (Wk.refl _) .nil) (lg_constraintref15_heads _ _ hr_2)) ?_
  refine r_d rfl rfl rfl (s_assign rfl rfl) ?_
  refine r_end ?_
  refine g_seq ?_
  refine g_seq ?_
  refine g_run (by kernel_rfl) [(0, .d)] rfl ?_
  refine r_d rfl rfl rfl (s_assign rfl rfl) ?_
  refine r_end ?_
  obtain ⟨kk0, hkk0, hr⟩ := exK (fun k => lf_constraintref15_headVars_L0 k r_2 []) hr
  refine g_len 7 rfl (asl rfl) fun hla0 => ?_
  simp only [List.length_map] at hla0
  refine g_blockJ (fun env σ => ∃ (l_7 : (List T)) (u_6 : Value), env = [(3, .own u_6 (l_7.map encT))] ∧ σ = [.row u_6 l_7.length 88 4] ∧ kk0 l_7 = some res) ?_ (fun HK0 => ?_)
  ·
   rintro _ _ ⟨l_7, u_6, rfl, rfl, hr⟩
   rw [hkk0] at hr
   refine g_seq ?_
   refine g_run (by kernel_rfl) [(0, .d), (1, .d), (2, .d)] rfl ?_
   refine r_d rfl rfl rfl (s_move rfl rfl) ?_
   obtain ⟨r_8, hr_8, hr⟩ := bindS hr
   refine r_d rfl rfl rfl (s_callD rfl cl_constraintref03_VarsOf (.cons rfl (Wk.own _ _) .nil) (lg_constraintref03_VarsOf fuel _ _ hr_8)) ?_
   refine r_d rfl rfl rfl (s_assign rfl rfl) ?_
   refine r_end ?_
   obtain rfl := Option.some.inj hr
   refine g_ret Try.func51 _ (.cons (resTmp rfl (Wk.refl _)) .nil) ?_
   rfl
  ·
   refine g_sub [(4, .lst (r_2.map encA)), (3, .own u3_0 ([].map encT)), (5, .int .i64 ((0 : Nat) : Int))] (Sub.cons' rfl (Sub.cons' rfl (Sub.cons' rfl (Sub.nil _)))) ?_
   refine g_loop (fun n env σ => ∃ (l_4 : (List T)) (i_5 : Nat) (u_3 : Value), (n = r_2.length - i_5) ∧ (env = [(4, .lst (r_2.map encA)), (3, .own u_3 (l_4.map encT)), (5, .int .i64 (i_5 : Int))]) ∧ (σ = [.row u_3 l_4.length 88 4]) ∧ (i_5 ≤ r_2.length) ∧ (lf_constraintref15_headVars_L0 kk0 (r_2.drop i_5) l_4 = some res)) _ ⟨[], 0, u3_0, rfl, rfl, rfl, Nat.zero_le _, hr⟩ ?_
   rintro n _ _ ⟨l_4, i_5, u_3, rfl, rfl, rfl, hi0, hr⟩ IH0
   rcases listStep r_2 i_5 hi0 with ⟨ht0, hd0, he0⟩ | ⟨q_9, ht0, hd0, hq0, hlt0⟩
   ·
    rw [hd0, lf_constraintref15_headVars_L0] at hr
    refine g_seq ?_
    refine g_seq ?_
    refine g_run (by kernel_rfl) [(0, .d), (1, .d), (2, .d), (3, .d)] rfl ?_
    refine r_d rfl rfl rfl (s_move rfl rfl) ?_
    refine r_d rfl rfl rfl (s_move rfl rfl) ?_
    refine r_d rfl rfl rfl (m_len (f := encA) r_2 rfl el_L_api_Atom rfl (asl rfl)) ?_
    refine r_d rfl rfl rfl (s_cmp rfl rfl rfl rfl) ?_
    refine r_end ?_
    refine g_known 11 false rfl ht0 ?_
    refine g_condF rfl ?_
    refine g_exit rfl ?_
    refine g_sub [(3, .own u_3 (l_4.map encT))] (Sub.cons' rfl (Sub.nil _)) ?_
    exact HK0 _ _ ⟨l_4, u_3, rfl, rfl, hr⟩
   ·
    rw [hd0, lf_constraintref15_headVars_L0] at hr
    refine g_seq ?_
    refine g_seq ?_
    refine g_run (by kernel_rfl) [(0, .d), (1, .d), (2, .d), (3, .d)] rfl ?_
    refine r_d rfl rfl rfl (s_move rfl rfl) ?_
    refine r_d rfl rfl rfl (s_move rfl rfl) ?_
    refine r_d rfl rfl rfl (m_len (f := encA) r_2 rfl el_L_api_Atom rfl (asl rfl)) ?_
    refine r_d rfl rfl rfl (s_cmp rfl rfl rfl rfl) ?_
    refine r_end ?_
    refine g_known 11 true rfl ht0 ?_
    refine g_condT rfl ?_
    refine g_skip ?_
    refine g_seq ?_
    refine g_block ?_
    refine g_run (by kernel_rfl) [(0, .d), (1, .d), (2, .d), (3, .d), (4, .d), (5, .d), (6, .w), (7, .d)] rfl ?_
    refine r_d rfl rfl rfl (s_move rfl rfl) ?_
    refine r_d rfl rfl rfl (s_move rfl rfl) ?_
    refine r_d rfl rfl rfl (s_move rfl rfl) ?_
    refine r_d rfl rfl rfl (m_index (f := encA) r_2 rfl el_L_api_Atom rfl (asl rfl) rfl hq0 sz_encA rfl) ?_
    refine r_d rfl rfl rfl (s_fieldAddr rfl fl_api_Atom_1 rfl rfl rfl rfl) ?_
    refine r_d rfl rfl rfl (s_load rfl rfl (by exact ty_L_api_Term) rfl) ?_
    obtain ⟨l_10, hl_10, hr⟩ := bindS hr
    refine r_w rfl rfl rfl (m_appOwn (f := encT) l_4 q_9.ts rfl el_L_api_Term rfl rfl (asl rfl) (pf0 _) rfl sz_encT hl_10) ?_
    rintro _ _ ⟨u20_10, rfl, rfl⟩
    refine r_d rfl rfl rfl (s_assign rfl rfl) ?_
    refine r_end ?_
    refine g_inBlock ?_
    refine g_run (by kernel_rfl) [(0, .d), (1, .d), (2, .d)] rfl ?_
    refine r_d rfl rfl rfl (s_move rfl rfl) ?_
    refine r_d rfl rfl rfl (s_ar (r := ((i_5 + 1 : Nat) : Int)) rfl rfl rfl (by simp [iar]) (by omega)) ?_
    refine r_d rfl rfl rfl (s_assign rfl rfl) ?_
    refine r_end ?_
    refine g_sub [(4, .lst (r_2.map encA)), (3, .own u20_10 (l_10.map encT)), (5, .int .i64 ((i_5 + 1 : Nat) : Int))] (Sub.cons' rfl (Sub.cons' rfl (Sub.cons' rfl (Sub.nil _)))) ?_
    exact IH0 _ _ _ (by omega) ⟨l_10, (i_5 + 1), u20_10, rfl, rfl, rfl, (by omega), hr⟩

noncomputable def lf_constraintref03_GoalVars (fuel : Nat) (g_a0 : Gl) : Option ((List Int)) :=
  ((lf_constraintref03_VarsOf fuel g_a0.ts).bind fun r_1 =>
  some (r_1))

set_option maxHeartbeats 1000000 in
theorem lg_constraintref03_GoalVars (fuel : Nat) (g_a0 : Gl) (res : (List Int)) (hr : lf_constraintref03_GoalVars fuel g_a0 = some res) : Gives Try.prog 49 [encG g_a0] (.lst (res.map (D.int .i64))) := by
  unfold lf_constraintref03_GoalVars at hr
  refine spec_env [(0, encG g_a0)] Try.func49 rfl rfl fun K hK => ?_
  refine g_seq ?_
  refine g_run (by kernel_rfl) [(0, .d), (1, .d)] rfl ?_
  refine r_d rfl rfl rfl (s_box rfl rfl rfl) ?_
  refine r_d rfl rfl rfl (s_assign rfl rfl) ?_
  refine r_end ?_
  refine g_seq ?_
  refine g_run (by kernel_rfl) [(0, .d), (1, .d), (2, .d), (3, .d)] rfl ?_
  refine r_d rfl rfl rfl (s_fieldAddr rfl fl_api_Goal_2 rfl rfl rfl rfl) ?_
  refine r_d rfl rfl rfl (s_load rfl rfl (by exact ty_L_api_Term) rfl) ?_
  obtain ⟨r_1, hr_1, hr⟩ := bindS hr
  refine r_d rfl rfl rfl (s_callD rfl cl_constraintref03_VarsOf (.cons rfl (Wk.refl _) .nil) (lg_constraintref03_VarsOf fuel _ _ hr_1)) ?_
  refine r_d rfl rfl rfl (s_assign rfl rfl) ?_
  refine r_end ?_
  obtain rfl := Option.some.inj hr
  refine g_ret Try.func49 _ (.cons (resTmp rfl (Wk.refl _)) .nil) ?_
  rfl

noncomputable def lf_constraintref15_in_L0 (k : Option (Bool)) (n_a1 : Int) : List Int → Option (Bool)
  | [] =>
  k
  | q_2 :: rest =>
  (bif (q_2 == n_a1) then
  some (true)
  else
  (lf_constraintref15_in_L0 k n_a1 rest))
noncomputable def lf_constraintref15_in (l_a0 : (List Int)) (n_a1 : Int) : Option (Bool) :=
  (lf_constraintref15_in_L0 (some (false)) n_a1 l_a0)

set_option maxHeartbeats 1000000 in
theorem lg_constraintref15_in (l_a0 : (List Int)) (n_a1 : Int) (res : Bool) (hr : lf_constraintref15_in l_a0 n_a1 = some res) : Gives Try.prog 53 [.lst (l_a0.map (D.int .i64)), .int .i64 n_a1] (.bool res) := by
  unfold lf_constraintref15_in at hr
  refine spec_env [(0, .lst (l_a0.map (D.int .i64))), (1, .int .i64 n_a1)] Try.func53 rfl rfl fun K hK => ?_
  refine g_seq ?_
  refine g_run (by kernel_rfl) [(0, .d)] rfl ?_
  refine r_d rfl rfl rfl (s_assign rfl rfl) ?_
  refine r_end ?_
  refine g_seq ?_
  refine g_seq ?_
  refine g_run (by kernel_rfl) [(0, .d)] rfl ?_
  refine r_d rfl rfl rfl (s_assign rfl rfl) ?_
  refine r_end ?_
  obtain ⟨kk0, hkk0, hr⟩ := exK (fun k => lf_constraintref15_in_L0 k n_a1 l_a0) hr
  refine g_len 0 rfl (asl rfl) fun hla0 => ?_
  simp only [List.length_map] at hla0
  refine g_blockJ (fun env σ => env = [] ∧ σ = [] ∧ kk0 = some res) ?_ (fun HK0 => ?_)
  ·
   rintro _ _ ⟨rfl, rfl, hr⟩
   rw [hkk0] at hr
   refine g_seq ?_
   refine g_run (by kernel_rfl) [(0, .d)] rfl ?_
   refine r_d rfl rfl rfl (s_assign rfl rfl) ?_
   refine r_end ?_
   obtain rfl := Option.some.inj hr
   refine g_ret Try.func53 _ (.cons (resTmp rfl (Wk.refl _)) .nil) ?_
   rfl
  ·
   refine g_sub [(0, .lst (l_a0.map (D.int .i64))), (1, .int .i64 n_a1), (5, .int .i64 ((0 : Nat) : Int))] (Sub.cons' rfl (Sub.cons' rfl (Sub.cons' rfl (Sub.nil _)))) ?_
   refine g_loop (fun n env σ => ∃ (i_1 : Nat), (n = l_a0.length - i_1) ∧ (env = [(0, .lst (l_a0.map (D.int .i64))), (1, .int .i64 n_a1), (5, .int .i64 (i_1 : Int))]) ∧ (σ = []) ∧ (i_1 ≤ l_a0.length) ∧ (lf_constraintref15_in_L0 kk0 n_a1 (l_a0.drop i_1) = some res)) _ ⟨0, rfl, rfl, rfl, Nat.zero_le _, hr⟩ ?_
   rintro n _ _ ⟨i_1, rfl, rfl, rfl, hi0, hr⟩ IH0
   rcases listStep l_a0 i_1 hi0 with ⟨ht0, hd0, he0⟩ | ⟨q_2, ht0, hd0, hq0, hlt0⟩
   ·
    rw [hd0, lf_constraintref15_in_L0] at hr
    refine g_seq ?_
    refine g_seq ?_
    refine g_run (by kernel_rfl) [(0, .d), (1, .d), (2, .d), (3, .d)] rfl ?_
    refine r_d rfl rfl rfl (s_move rfl rfl) ?_
    refine r_d rfl rfl rfl (s_move rfl rfl) ?_
    refine r_d rfl rfl rfl (m_len (f := (D.int .i64)) l_a0 rfl el_L_int rfl (asl rfl)) ?_
    refine r_d rfl rfl rfl (s_cmp rfl rfl rfl rfl) ?_
    refine r_end ?_
    refine g_known 9 false rfl ht0 ?_
    refine g_condF rfl ?_
    refine g_exit rfl ?_
    refine g_sub [] (Sub.nil _) ?_
    exact HK0 _ _ ⟨rfl, rfl, hr⟩
   ·
    rw [hd0, lf_constraintref15_in_L0] at hr
    refine g_seq ?_
    refine g_seq ?_
    refine g_run (by kernel_rfl) [(0, .d), (1, .d), (2, .d), (3, .d)] rfl ?_
    refine r_d rfl rfl rfl (s_move rfl rfl) ?_
    refine r_d rfl rfl rfl (s_move rfl rfl) ?_
    refine r_d rfl rfl rfl (m_len (f := (D.int .i64)) l_a0 rfl el_L_int rfl (asl rfl)) ?_
    refine r_d rfl rfl rfl (s_cmp rfl rfl rfl rfl) ?_
    refine r_end ?_
    refine g_known 9 true rfl ht0 ?_
    refine g_condT rfl ?_
    refine g_skip ?_
    refine g_seq ?_
    refine g_block ?_
    refine g_seq ?_
    refine g_run (by kernel_rfl) [(0, .d), (1, .d), (2, .d), (3, .d), (4, .d), (5, .d)] rfl ?_
    refine r_d rfl rfl rfl (s_move rfl rfl) ?_
    refine r_d rfl rfl rfl (s_move rfl rfl) ?_
    refine r_d rfl rfl rfl (m_index (f := (D.int .i64)) l_a0 rfl el_L_int rfl (asl rfl) rfl hq0 (fun _ => rfl) rfl) ?_
    refine r_d rfl rfl rfl (s_load rfl rfl (by exact ty_int) rfl) ?_
    refine r_d rfl rfl rfl (s_move rfl rfl) ?_
    refine r_d rfl rfl rfl (s_cmp rfl rfl rfl rfl) ?_
    refine r_end ?_
    refine g_sB 17 rfl hr (fun h17_2 hr => ?_) (fun h17_2 hr => ?_)
    ·
     refine g_condT rfl ?_
     refine g_seq ?_
     refine g_run (by kernel_rfl) [(0, .d)] rfl ?_
     refine r_d rfl rfl rfl (s_assign rfl rfl) ?_
     refine r_end ?_
     obtain rfl := Option.some.inj hr
     refine g_ret Try.func53 _ (.cons (resTmp rfl (Wk.refl _)) .nil) ?_
     rfl
    ·
     refine g_condF rfl ?_
     refine g_skip ?_
     refine g_inBlock ?_
     refine g_run (by kernel_rfl) [(0, .d), (1, .d), (2, .d)] rfl ?_
     refine r_d rfl rfl rfl (s_move rfl rfl) ?_
     refine r_d rfl rfl rfl (s_ar (r := ((i_1 + 1 : Nat) : Int)) rfl rfl rfl (by simp [iar]) (by omega)) ?_
     refine r_d rfl rfl rfl (s_assign rfl rfl) ?_
     refine r_end ?_
     refine g_sub [(0, .lst (l_a0.map (D.int .i64))), (1, .int .i64 n_a1), (5, .int .i64 ((i_1 + 1 : Nat) : Int))] (Sub.cons' rfl (Sub.cons' rfl (Sub.cons' rfl (Sub.nil _)))) ?_
     exact IH0 _ _ _ (by omega) ⟨(i_1 + 1), rfl, rfl, rfl, (by omega), hr⟩

noncomputable def lf_constraintref15_meaning_L4 (k : Option (Int)) (r_8 : (List Int)) : List Int → Option (Int)
  | [] =>
  k
  | q_13 :: rest =>
  ((lf_constraintref15_in r_8 q_13).bind fun r_14 =>
  (bif (!r_14) then
  some (17)
  else
  (lf_constraintref15_meaning_L4 k r_8 rest)))

noncomputable def lf_constraintref15_meaning_L3 (k : Option (Int)) (fuel : Nat) (r_8 : (List Int)) : List Gl → Option (Int)
  | [] =>
  k
  | q_10 :: rest =>
  ((lf_constraintref03_GoalVars fuel q_10).bind fun r_11 =>
  (lf_constraintref15_meaning_L4 ((lf_constraintref15_meaning_L3 k fuel r_8 rest)) r_8 r_11))

noncomputable def lf_constraintref15_meaning_L2 (k : Option (Int)) : List Gl → Option (Int)
  | [] =>
  k
  | q_16 :: rest =>
  ((lf_constraintref15_Test q_16.op).bind fun r_17 =>
  (bif r_17 then
  some (10)
  else
  (lf_constraintref15_meaning_L2 k rest)))

noncomputable def lf_constraintref15_meaning_L1 (k : Option (Int)) : List Gl → Option (Int)
  | [] =>
  k
  | q_19 :: rest =>
  ((lf_constraintref15_Test q_19.op).bind fun r_20 =>
  (bif (!r_20) then
  (bif (q_19.op != (1 : Int)) then
  some (10)
  else
  (lf_constraintref15_meaning_L1 k rest))
  else
  (lf_constraintref15_meaning_L1 k rest)))

noncomputable def lf_constraintref15_meaning_L0 (k : Option (Int)) (decls_a0 : (List S_api_Decl)) : List At → Option (Int)
  | [] =>
  k
  | q_23 :: rest =>
  ((lf_constraintref15_declare decls_a0 q_23.n (q_23.ts.length : Int)).bind fun r_24 =>
  (bif (r_24 != (0 : Int)) then
  some (r_24)
  else
  (lf_constraintref15_meaning_L0 k decls_a0 rest)))
noncomputable def lf_constraintref15_meaning (fuel : Nat) (decls_a0 : (List S_api_Decl)) (r_a1 : S_api_Rule) : Option (Int) :=
  ((lf_constraintref15_heads r_a1).bind fun r_1 =>
  (lf_constraintref15_meaning_L0 (((lf_constraintref15_goals r_a1).bind fun r_3 =>
  ((lf_constraintref15_calls decls_a0 r_3).bind fun r_4 =>
  (bif (r_4 != (0 : Int)) then
  some (r_4)
  else
  (lf_constraintref15_meaning_L1 ((lf_constraintref15_meaning_L2 (((lf_constraintref15_headVars fuel r_a1).bind fun r_8 =>
  (lf_constraintref15_meaning_L3 (some (0)) fuel r_8 r_a1.f3_Guard))) r_a1.f4_Body)) r_a1.f3_Guard))))) decls_a0 r_1))

set_option maxHeartbeats 1000000 in
theorem lg_constraintref15_meaning (fuel : Nat) (decls_a0 : (List S_api_Decl)) (r_a1 : S_api_Rule) (res : Int) (hr : lf_constraintref15_meaning fuel decls_a0 r_a1 = some res) : Gives Try.prog 44 [.lst (decls_a0.map enc_S_api_Decl), enc_S_api_Rule r_a1] (.int .i64 res) := by
  unfold lf_constraintref15_meaning at hr
  refine spec_env [(0, .lst (decls_a0.map enc_S_api_Decl)), (1, enc_S_api_Rule r_a1)] Try.func44 rfl rfl fun K hK => ?_
  refine g_seq ?_
  refine g_run (by kernel_rfl) [(0, .d), (1, .d)] rfl ?_
  refine r_d rfl rfl rfl (s_box rfl rfl rfl) ?_
  refine r_d rfl rfl rfl (s_assign rfl rfl) ?_
  refine r_end ?_
  refine g_seq ?_
  refine g_run (by kernel_rfl) [(0, .d), (1, .d), (2, .d)] rfl ?_
  refine r_d rfl rfl rfl (s_load rfl rfl (by exact ty_api_Rule) (sz_S_api_Rule _)) ?_
  obtain ⟨r_1, hr_1, hr⟩ := bindS hr
  refine r_d rfl rfl rfl (s_callD rfl cl_constraintref15_heads (.cons rfl (Wk.refl _) .nil) (lg_constraintref15_heads _ _ hr_1)) ?_
  refine r_d rfl rfl rfl (s_assign rfl rfl) ?_
  refine r_end ?_
  refine g_seq ?_
  refine g_seq ?_
  refine g_run (by kernel_rfl) [(0, .d)] rfl ?_
  refine r_d rfl rfl rfl (s_assign rfl rfl) ?_
  refine r_end ?_
  obtain ⟨kk0, hkk0, hr⟩ := exK (fun k => lf_constraintref15_meaning_L0 k decls_a0 r_1) hr
  refine g_len 16 rfl (asl rfl) fun hla0 => ?_
  simp only [List.length_map] at hla0
  refine g_blockJ (fun env σ => env = [(0, .lst (decls_a0.map enc_S_api_Decl)), (3, .ptr (enc_S_api_Rule r_a1))] ∧ σ = [] ∧ kk0 = some res) ?_ (fun HK0 => ?_)
  ·
   rintro _ _ ⟨rfl, rfl, hr⟩
   rw [hkk0] at hr
   refine g_seq ?_
   refine g_run (by kernel_rfl) [(0, .d), (1, .d), (2, .d), (3, .d), (4, .d)] rfl ?_
   refine r_d rfl rfl rfl (s_move rfl rfl) ?_
   refine r_d rfl rfl rfl (s_load rfl rfl (by exact ty_api_Rule) (sz_S_api_Rule _)) ?_
   obtain ⟨r_3, hr_3, hr⟩ := bindS hr
   refine r_d rfl rfl rfl (s_callD rfl cl_constraintref15_goals (.cons rfl (Wk.refl _) .nil) (lg_constraintref15_goals _ _ hr_3)) ?_
   obtain ⟨r_4, hr_4, hr⟩ := bindS hr
   refine r_d rfl rfl rfl (s_callD rfl cl_constraintref15_calls (.cons rfl (Wk.refl _) (.cons rfl (Wk.refl _) .nil)) (lg_constraintref15_calls _ _ _ hr_4)) ?_
   refine r_d rfl rfl rfl (s_assign rfl rfl) ?_
   refine r_end ?_
   refine g_seq ?_
   refine g_seq ?_
   refine g_run (by kernel_rfl) [(0, .d), (1, .d)] rfl ?_
   refine r_d rfl rfl rfl (s_move rfl rfl) ?_
   refine r_d rfl rfl rfl (s_cmp rfl rfl rfl rfl) ?_
   refine r_end ?_
   refine g_sB 44 rfl hr (fun h44_4 hr => ?_) (fun h44_4 hr => ?_)
   ·
    refine g_condT rfl ?_
    refine g_seq ?_
    refine g_run (by kernel_rfl) [(0, .d), (1, .d)] rfl ?_
    refine r_d rfl rfl rfl (s_move rfl rfl) ?_
    refine r_d rfl rfl rfl (s_assign rfl rfl) ?_
    refine r_end ?_
    obtain rfl := Option.some.inj hr
    refine g_ret Try.func44 _ (.cons (resTmp rfl (Wk.refl _)) .nil) ?_
    rfl
   ·
    refine g_condF rfl ?_
    refine g_skip ?_
    refine g_seq ?_
    refine g_seq ?_
    refine g_run (by kernel_rfl) [(0, .d)] rfl ?_
    refine r_d rfl rfl rfl (s_assign rfl rfl) ?_
    refine r_end ?_
    obtain ⟨kk1, hkk1, hr⟩ := exK (fun k => lf_constraintref15_meaning_L1 k r_a1.f3_Guard) hr
    refine g_lenP 3 [3] (l := r_a1.f3_Guard.map encG) rfl rfl (asl rfl) fun hla1 => ?_
    simp only [List.length_map] at hla1
    refine g_blockJ (fun env σ => env = [(3, .ptr (enc_S_api_Rule r_a1))] ∧ σ = [] ∧ kk1 = some res) ?_ (fun HK1 => ?_)
    ·
     rintro _ _ ⟨rfl, rfl, hr⟩
     rw [hkk1] at hr
     refine g_seq ?_
     refine g_seq ?_
     refine g_run (by kernel_rfl) [(0, .d)] rfl ?_
     refine r_d rfl rfl rfl (s_assign rfl rfl) ?_
     refine r_end ?_
     obtain ⟨kk2, hkk2, hr⟩ := exK (fun k => lf_constraintref15_meaning_L2 k r_a1.f4_Body) hr
     refine g_lenP 3 [4] (l := r_a1.f4_Body.map encG) rfl rfl (asl rfl) fun hla2 => ?_
     simp only [List.length_map] at hla2
     refine g_blockJ (fun env σ => env = [(3, .ptr (enc_S_api_Rule r_a1))] ∧ σ = [] ∧ kk2 = some res) ?_ (fun HK2 => ?_)
     ·
      rintro _ _ ⟨rfl, rfl, hr⟩
      rw [hkk2] at hr
      refine g_seq ?_
      refine g_run (by kernel_rfl) [(0, .d), (1, .d), (2, .d)] rfl ?_
      refine r_d rfl rfl rfl (s_load rfl rfl (by exact ty_api_Rule) (sz_S_api_Rule _)) ?_
      obtain ⟨r_8, hr_8, hr⟩ := bindS hr
      refine r_d rfl rfl rfl (s_callD rfl cl_constraintref15_headVars (.cons rfl (Wk.refl _) .nil) (lg_constraintref15_headVars fuel _ _ hr_8)) ?_
      refine r_d rfl rfl rfl (s_assign rfl rfl) ?_
      refine r_end ?_
      refine g_seq ?_
      refine g_seq ?_
      refine g_run (by kernel_rfl) [(0, .d)] rfl ?_
      refine r_d rfl rfl rfl (s_assign rfl rfl) ?_
      refine r_end ?_
      obtain ⟨kk3, hkk3, hr⟩ := exK (fun k => lf_constraintref15_meaning_L3 k fuel r_8 r_a1.f3_Guard) hr
      refine g_lenP 3 [3] (l := r_a1.f3_Guard.map encG) rfl rfl (asl rfl) fun hla3 => ?_
      simp only [List.length_map] at hla3
      refine g_blockJ (fun env σ => env = [] ∧ σ = [] ∧ kk3 = some res) ?_ (fun HK3 => ?_)
      ·
       rintro _ _ ⟨rfl, rfl, hr⟩
       rw [hkk3] at hr
       refine g_seq ?_
       refine g_run (by kernel_rfl) [(0, .d)] rfl ?_
       refine r_d rfl rfl rfl (s_assign rfl rfl) ?_
       refine r_end ?_
       obtain rfl := Option.some.inj hr
       refine g_ret Try.func44 _ (.cons (resTmp rfl (Wk.refl _)) .nil) ?_
       rfl
      ·
       refine g_sub [(3, .ptr (enc_S_api_Rule r_a1)), (11, .lst (r_8.map (D.int .i64))), (12, .int .i64 ((0 : Nat) : Int))] (Sub.cons' rfl (Sub.cons' rfl (Sub.cons' rfl (Sub.nil _)))) ?_
       refine g_loop (fun n env σ => ∃ (i_9 : Nat), (n = r_a1.f3_Guard.length - i_9) ∧ (env = [(3, .ptr (enc_S_api_Rule r_a1)), (11, .lst (r_8.map (D.int .i64))), (12, .int .i64 (i_9 : Int))]) ∧ (σ = []) ∧ (i_9 ≤ r_a1.f3_Guard.length) ∧ (lf_constraintref15_meaning_L3 kk3 fuel r_8 (r_a1.f3_Guard.drop i_9) = some res)) _ ⟨0, rfl, rfl, rfl, Nat.zero_le _, hr⟩ ?_
       rintro n _ _ ⟨i_9, rfl, rfl, rfl, hi3, hr⟩ IH3
       rcases listStep r_a1.f3_Guard i_9 hi3 with ⟨ht3, hd3, he3⟩ | ⟨q_10, ht3, hd3, hq3, hlt3⟩
       ·
        rw [hd3, lf_constraintref15_meaning_L3] at hr
        refine g_seq ?_
        refine g_seq ?_
        refine g_run (by kernel_rfl) [(0, .d), (1, .d), (2, .d), (3, .d), (4, .d)] rfl ?_
        refine r_d rfl rfl rfl (s_move rfl rfl) ?_
        refine r_d rfl rfl rfl (s_fieldAddr rfl fl_api_Rule_3 rfl rfl rfl rfl) ?_
        refine r_d rfl rfl rfl (s_load rfl rfl (by exact ty_L_api_Goal) rfl) ?_
        refine r_d rfl rfl rfl (m_len (f := encG) r_a1.f3_Guard rfl el_L_api_Goal rfl (asl rfl)) ?_
        refine r_d rfl rfl rfl (s_cmp rfl rfl rfl rfl) ?_
        refine r_end ?_
        refine g_known 90 false rfl ht3 ?_
        refine g_condF rfl ?_
        refine g_exit rfl ?_
        refine g_sub [] (Sub.nil _) ?_
        exact HK3 _ _ ⟨rfl, rfl, hr⟩
       ·
        rw [hd3, lf_constraintref15_meaning_L3] at hr
        refine g_seq ?_
        refine g_seq ?_
        refine g_run (by kernel_rfl) [(0, .d), (1, .d), (2, .d), (3, .d), (4, .d)] rfl ?_
        refine r_d rfl rfl rfl (s_move rfl rfl) ?_
        refine r_d rfl rfl rfl (s_fieldAddr rfl fl_api_Rule_3 rfl rfl rfl rfl) ?_
        refine r_d rfl rfl rfl (s_load rfl rfl (by exact ty_L_api_Goal) rfl) ?_
        refine r_d rfl rfl rfl (m_len (f := encG) r_a1.f3_Guard rfl el_L_api_Goal rfl (asl rfl)) ?_
        refine r_d rfl rfl rfl (s_cmp rfl rfl rfl rfl) ?_
        refine r_end ?_
        refine g_known 90 true rfl ht3 ?_
        refine g_condT rfl ?_
        refine g_skip ?_
        refine g_seq ?_
        refine g_block ?_
        refine g_seq ?_
        refine g_run (by kernel_rfl) [(0, .d), (1, .d), (2, .d), (3, .d), (4, .d), (5, .d), (6, .d)] rfl ?_
        refine r_d rfl rfl rfl (s_fieldAddr rfl fl_api_Rule_3 rfl rfl rfl rfl) ?_
        refine r_d rfl rfl rfl (s_load rfl rfl (by exact ty_L_api_Goal) rfl) ?_
        refine r_d rfl rfl rfl (s_move rfl rfl) ?_
        refine r_d rfl rfl rfl (m_index (f := encG) r_a1.f3_Guard rfl el_L_api_Goal rfl (asl rfl) rfl hq3 sz_encG rfl) ?_
        refine r_d rfl rfl rfl (s_load rfl rfl (by exact ty_api_Goal) (sz_encG _)) ?_
        obtain ⟨r_11, hr_11, hr⟩ := bindS hr
        refine r_d rfl rfl rfl (s_callD rfl cl_constraintref03_GoalVars (.cons rfl (Wk.refl _) .nil) (lg_constraintref03_GoalVars fuel _ _ hr_11)) ?_
        refine r_d rfl rfl rfl (s_assign rfl rfl) ?_
        refine r_end ?_
        refine g_seq ?_
        refine g_run (by kernel_rfl) [(0, .d)] rfl ?_
        refine r_d rfl rfl rfl (s_assign rfl rfl) ?_
        refine r_end ?_
        obtain ⟨kk4, hkk4, hr⟩ := exK (fun k => lf_constraintref15_meaning_L4 k r_8 r_11) hr
        refine g_len 98 rfl (asl rfl) fun hla4 => ?_
        simp only [List.length_map] at hla4
        refine g_blockJ (fun env σ => env = [(3, .ptr (enc_S_api_Rule r_a1)), (11, .lst (r_8.map (D.int .i64))), (12, .int .i64 (i_9 : Int))] ∧ σ = [] ∧ kk4 = some res) ?_ (fun HK4 => ?_)
        ·
         rintro _ _ ⟨rfl, rfl, hr⟩
         rw [hkk4] at hr
         refine g_inBlock ?_
         refine g_run (by kernel_rfl) [(0, .d), (1, .d), (2, .d)] rfl ?_
         refine r_d rfl rfl rfl (s_move rfl rfl) ?_
         refine r_d rfl rfl rfl (s_ar (r := ((i_9 + 1 : Nat) : Int)) rfl rfl rfl (by simp [iar]) (by omega)) ?_
         refine r_d rfl rfl rfl (s_assign rfl rfl) ?_
         refine r_end ?_
         refine g_sub [(3, .ptr (enc_S_api_Rule r_a1)), (11, .lst (r_8.map (D.int .i64))), (12, .int .i64 ((i_9 + 1 : Nat) : Int))] (Sub.cons' rfl (Sub.cons' rfl (Sub.cons' rfl (Sub.nil _)))) ?_
         exact IH3 _ _ _ (by omega) ⟨(i_9 + 1), rfl, rfl, rfl, (by omega), hr⟩
        ·
         refine g_sub [(3, .ptr (enc_S_api_Rule r_a1)), (11, .lst (r_8.map (D.int .i64))), (12, .int .i64 ((i_9 : Nat) : Int)), (13, .lst (r_11.map (D.int .i64))), (14, .int .i64 ((0 : Nat) : Int))] (Sub.cons' rfl (Sub.cons' rfl (Sub.cons' rfl (Sub.cons' rfl (Sub.cons' rfl (Sub.nil _)))))) ?_
         refine g_loop (fun n env σ => ∃ (k_12 : Nat), (n = r_11.length - k_12) ∧ (env = [(3, .ptr (enc_S_api_Rule r_a1)), (11, .lst (r_8.map (D.int .i64))), (12, .int .i64 (i_9 : Int)), (13, .lst (r_11.map (D.int .i64))), (14, .int .i64 (k_12 : Int))]) ∧ (σ = []) ∧ (k_12 ≤ r_11.length) ∧ (lf_constraintref15_meaning_L4 kk4 r_8 (r_11.drop k_12) = some res)) _ ⟨0, rfl, rfl, rfl, Nat.zero_le _, hr⟩ ?_
         rintro n _ _ ⟨k_12, rfl, rfl, rfl, hi4, hr⟩ IH4
         rcases listStep r_11 k_12 hi4 with ⟨ht4, hd4, he4⟩ | ⟨q_13, ht4, hd4, hq4, hlt4⟩
         ·
          rw [hd4, lf_constraintref15_meaning_L4] at hr
          refine g_seq ?_
          refine g_seq ?_
          refine g_run (by kernel_rfl) [(0, .d), (1, .d), (2, .d), (3, .d)] rfl ?_
          refine r_d rfl rfl rfl (s_move rfl rfl) ?_
          refine r_d rfl rfl rfl (s_move rfl rfl) ?_
          refine r_d rfl rfl rfl (m_len (f := (D.int .i64)) r_11 rfl el_L_int rfl (asl rfl)) ?_
          refine r_d rfl rfl rfl (s_cmp rfl rfl rfl rfl) ?_
          refine r_end ?_
          refine g_known 102 false rfl ht4 ?_
          refine g_condF rfl ?_
          refine g_exit rfl ?_
          refine g_sub [(3, .ptr (enc_S_api_Rule r_a1)), (11, .lst (r_8.map (D.int .i64))), (12, .int .i64 (i_9 : Int))] (Sub.cons' rfl (Sub.cons' rfl (Sub.cons' rfl (Sub.nil _)))) ?_
          exact HK4 _ _ ⟨rfl, rfl, hr⟩
         ·
          rw [hd4, lf_constraintref15_meaning_L4] at hr
          refine g_seq ?_
          refine g_seq ?_
          refine g_run (by kernel_rfl) [(0, .d), (1, .d), (2, .d), (3, .d)] rfl ?_
          refine r_d rfl rfl rfl (s_move rfl rfl) ?_
          refine r_d rfl rfl rfl (s_move rfl rfl) ?_
          refine r_d rfl rfl rfl (m_len (f := (D.int .i64)) r_11 rfl el_L_int rfl (asl rfl)) ?_
          refine r_d rfl rfl rfl (s_cmp rfl rfl rfl rfl) ?_
          refine r_end ?_
          refine g_known 102 true rfl ht4 ?_
          refine g_condT rfl ?_
          refine g_skip ?_
          refine g_seq ?_
          refine g_block ?_
          refine g_seq ?_
          refine g_run (by kernel_rfl) [(0, .d), (1, .d), (2, .d), (3, .d), (4, .d), (5, .d), (6, .d)] rfl ?_
          refine r_d rfl rfl rfl (s_move rfl rfl) ?_
          refine r_d rfl rfl rfl (s_move rfl rfl) ?_
          refine r_d rfl rfl rfl (s_move rfl rfl) ?_
          refine r_d rfl rfl rfl (m_index (f := (D.int .i64)) r_11 rfl el_L_int rfl (asl rfl) rfl hq4 (fun _ => rfl) rfl) ?_
          refine r_d rfl rfl rfl (s_load rfl rfl (by exact ty_int) rfl) ?_
          obtain ⟨r_14, hr_14, hr⟩ := bindS hr
          refine r_d rfl rfl rfl (s_callD rfl cl_constraintref15_in (.cons rfl (Wk.refl _) (.cons rfl (Wk.refl _) .nil)) (lg_constraintref15_in _ _ _ hr_14)) ?_
          refine r_d rfl rfl rfl (s_not rfl rfl) ?_
          refine r_end ?_
          refine g_sB 111 rfl hr (fun h111_14 hr => ?_) (fun h111_14 hr => ?_)
          ·
           refine g_condT rfl ?_
           refine g_seq ?_
           refine g_run (by kernel_rfl) [(0, .d)] rfl ?_
           refine r_d rfl rfl rfl (s_assign rfl rfl) ?_
           refine r_end ?_
           obtain rfl := Option.some.inj hr
           refine g_ret Try.func44 _ (.cons (resTmp rfl (Wk.refl _)) .nil) ?_
           rfl
          ·
           refine g_condF rfl ?_
           refine g_skip ?_
           refine g_inBlock ?_
           refine g_run (by kernel_rfl) [(0, .d), (1, .d), (2, .d)] rfl ?_
           refine r_d rfl rfl rfl (s_move rfl rfl) ?_
           refine r_d rfl rfl rfl (s_ar (r := ((k_12 + 1 : Nat) : Int)) rfl rfl rfl (by simp [iar]) (by omega)) ?_
           refine r_d rfl rfl rfl (s_assign rfl rfl) ?_
           refine r_end ?_
           refine g_sub [(3, .ptr (enc_S_api_Rule r_a1)), (11, .lst (r_8.map (D.int .i64))), (12, .int .i64 ((i_9 : Nat) : Int)), (13, .lst (r_11.map (D.int .i64))), (14, .int .i64 ((k_12 + 1 : Nat) : Int))] (Sub.cons' rfl (Sub.cons' rfl (Sub.cons' rfl (Sub.cons' rfl (Sub.cons' rfl (Sub.nil _)))))) ?_
           exact IH4 _ _ _ (by omega) ⟨(k_12 + 1), rfl, rfl, rfl, (by omega), hr⟩
     ·
      refine g_sub [(3, .ptr (enc_S_api_Rule r_a1)), (10, .int .i64 ((0 : Nat) : Int))] (Sub.cons' rfl (Sub.cons' rfl (Sub.nil _))) ?_
      refine g_loop (fun n env σ => ∃ (i_7 : Nat), (n = r_a1.f4_Body.length - i_7) ∧ (env = [(3, .ptr (enc_S_api_Rule r_a1)), (10, .int .i64 (i_7 : Int))]) ∧ (σ = []) ∧ (i_7 ≤ r_a1.f4_Body.length) ∧ (lf_constraintref15_meaning_L2 kk2 (r_a1.f4_Body.drop i_7) = some res)) _ ⟨0, rfl, rfl, rfl, Nat.zero_le _, hr⟩ ?_
      rintro n _ _ ⟨i_7, rfl, rfl, rfl, hi2, hr⟩ IH2
      rcases listStep r_a1.f4_Body i_7 hi2 with ⟨ht2, hd2, he2⟩ | ⟨q_16, ht2, hd2, hq2, hlt2⟩
      ·
       rw [hd2, lf_constraintref15_meaning_L2] at hr
       refine g_seq ?_
       refine g_seq ?_
       refine g_run (by kernel_rfl) [(0, .d), (1, .d), (2, .d), (3, .d), (4, .d)] rfl ?_
       refine r_d rfl rfl rfl (s_move rfl rfl) ?_
       refine r_d rfl rfl rfl (s_fieldAddr rfl fl_api_Rule_4 rfl rfl rfl rfl) ?_
       refine r_d rfl rfl rfl (s_load rfl rfl (by exact ty_L_api_Goal) rfl) ?_
       refine r_d rfl rfl rfl (m_len (f := encG) r_a1.f4_Body rfl el_L_api_Goal rfl (asl rfl)) ?_
       refine r_d rfl rfl rfl (s_cmp rfl rfl rfl rfl) ?_
       refine r_end ?_
       refine g_known 74 false rfl ht2 ?_
       refine g_condF rfl ?_
       refine g_exit rfl ?_
       refine g_sub [(3, .ptr (enc_S_api_Rule r_a1))] (Sub.cons' rfl (Sub.nil _)) ?_
       exact HK2 _ _ ⟨rfl, rfl, hr⟩
      ·
       rw [hd2, lf_constraintref15_meaning_L2] at hr
       refine g_seq ?_
       refine g_seq ?_
       refine g_run (by kernel_rfl) [(0, .d), (1, .d), (2, .d), (3, .d), (4, .d)] rfl ?_
       refine r_d rfl rfl rfl (s_move rfl rfl) ?_
       refine r_d rfl rfl rfl (s_fieldAddr rfl fl_api_Rule_4 rfl rfl rfl rfl) ?_
       refine r_d rfl rfl rfl (s_load rfl rfl (by exact ty_L_api_Goal) rfl) ?_
       refine r_d rfl rfl rfl (m_len (f := encG) r_a1.f4_Body rfl el_L_api_Goal rfl (asl rfl)) ?_
       refine r_d rfl rfl rfl (s_cmp rfl rfl rfl rfl) ?_
       refine r_end ?_
       refine g_known 74 true rfl ht2 ?_
       refine g_condT rfl ?_
       refine g_skip ?_
       refine g_seq ?_
       refine g_block ?_
       refine g_seq ?_
       refine g_run (by kernel_rfl) [(0, .d), (1, .d), (2, .d), (3, .d), (4, .d), (5, .d), (6, .d)] rfl ?_
       refine r_d rfl rfl rfl (s_fieldAddr rfl fl_api_Rule_4 rfl rfl rfl rfl) ?_
       refine r_d rfl rfl rfl (s_load rfl rfl (by exact ty_L_api_Goal) rfl) ?_
       refine r_d rfl rfl rfl (s_move rfl rfl) ?_
       refine r_d rfl rfl rfl (m_index (f := encG) r_a1.f4_Body rfl el_L_api_Goal rfl (asl rfl) rfl hq2 sz_encG rfl) ?_
       refine r_d rfl rfl rfl (s_fieldAddr rfl fl_api_Goal_0 rfl rfl rfl rfl) ?_
       refine r_d rfl rfl rfl (s_load rfl rfl (by exact ty_int) rfl) ?_
       obtain ⟨r_17, hr_17, hr⟩ := bindS hr
       refine r_d rfl rfl rfl (s_callD rfl cl_constraintref15_Test (.cons rfl (Wk.refl _) .nil) (lg_constraintref15_Test _ _ hr_17)) ?_
       refine r_end ?_
       refine g_sB 83 rfl hr (fun h83_17 hr => ?_) (fun h83_17 hr => ?_)
       ·
        refine g_condT rfl ?_
        refine g_seq ?_
        refine g_run (by kernel_rfl) [(0, .d)] rfl ?_
        refine r_d rfl rfl rfl (s_assign rfl rfl) ?_
        refine r_end ?_
        obtain rfl := Option.some.inj hr
        refine g_ret Try.func44 _ (.cons (resTmp rfl (Wk.refl _)) .nil) ?_
        rfl
       ·
        refine g_condF rfl ?_
        refine g_skip ?_
        refine g_inBlock ?_
        refine g_run (by kernel_rfl) [(0, .d), (1, .d), (2, .d)] rfl ?_
        refine r_d rfl rfl rfl (s_move rfl rfl) ?_
        refine r_d rfl rfl rfl (s_ar (r := ((i_7 + 1 : Nat) : Int)) rfl rfl rfl (by simp [iar]) (by omega)) ?_
        refine r_d rfl rfl rfl (s_assign rfl rfl) ?_
        refine r_end ?_
        refine g_sub [(3, .ptr (enc_S_api_Rule r_a1)), (10, .int .i64 ((i_7 + 1 : Nat) : Int))] (Sub.cons' rfl (Sub.cons' rfl (Sub.nil _))) ?_
        exact IH2 _ _ _ (by omega) ⟨(i_7 + 1), rfl, rfl, rfl, (by omega), hr⟩
    ·
     refine g_sub [(3, .ptr (enc_S_api_Rule r_a1)), (9, .int .i64 ((0 : Nat) : Int))] (Sub.cons' rfl (Sub.cons' rfl (Sub.nil _))) ?_
     refine g_loop (fun n env σ => ∃ (i_6 : Nat), (n = r_a1.f3_Guard.length - i_6) ∧ (env = [(3, .ptr (enc_S_api_Rule r_a1)), (9, .int .i64 (i_6 : Int))]) ∧ (σ = []) ∧ (i_6 ≤ r_a1.f3_Guard.length) ∧ (lf_constraintref15_meaning_L1 kk1 (r_a1.f3_Guard.drop i_6) = some res)) _ ⟨0, rfl, rfl, rfl, Nat.zero_le _, hr⟩ ?_
     rintro n _ _ ⟨i_6, rfl, rfl, rfl, hi1, hr⟩ IH1
     rcases listStep r_a1.f3_Guard i_6 hi1 with ⟨ht1, hd1, he1⟩ | ⟨q_19, ht1, hd1, hq1, hlt1⟩
     ·
      rw [hd1, lf_constraintref15_meaning_L1] at hr
      refine g_seq ?_
      refine g_seq ?_
      refine g_run (by kernel_rfl) [(0, .d), (1, .d), (2, .d), (3, .d), (4, .d)] rfl ?_
      refine r_d rfl rfl rfl (s_move rfl rfl) ?_
      refine r_d rfl rfl rfl (s_fieldAddr rfl fl_api_Rule_3 rfl rfl rfl rfl) ?_
      refine r_d rfl rfl rfl (s_load rfl rfl (by exact ty_L_api_Goal) rfl) ?_
      refine r_d rfl rfl rfl (m_len (f := encG) r_a1.f3_Guard rfl el_L_api_Goal rfl (asl rfl)) ?_
      refine r_d rfl rfl rfl (s_cmp rfl rfl rfl rfl) ?_
      refine r_end ?_
      refine g_known 50 false rfl ht1 ?_
      refine g_condF rfl ?_
      refine g_exit rfl ?_
      refine g_sub [(3, .ptr (enc_S_api_Rule r_a1))] (Sub.cons' rfl (Sub.nil _)) ?_
      exact HK1 _ _ ⟨rfl, rfl, hr⟩
     ·
      rw [hd1, lf_constraintref15_meaning_L1] at hr
      refine g_seq ?_
      refine g_seq ?_
      refine g_run (by kernel_rfl) [(0, .d), (1, .d), (2, .d), (3, .d), (4, .d)] rfl ?_
      refine r_d rfl rfl rfl (s_move rfl rfl) ?_
      refine r_d rfl rfl rfl (s_fieldAddr rfl fl_api_Rule_3 rfl rfl rfl rfl) ?_
      refine r_d rfl rfl rfl (s_load rfl rfl (by exact ty_L_api_Goal) rfl) ?_
      refine r_d rfl rfl rfl (m_len (f := encG) r_a1.f3_Guard rfl el_L_api_Goal rfl (asl rfl)) ?_
      refine r_d rfl rfl rfl (s_cmp rfl rfl rfl rfl) ?_
      refine r_end ?_
      refine g_known 50 true rfl ht1 ?_
      refine g_condT rfl ?_
      refine g_skip ?_
      refine g_seq ?_
      refine g_block ?_
      refine g_seq ?_
      refine g_run (by kernel_rfl) [(0, .d), (1, .d), (2, .d), (3, .d), (4, .d), (5, .d), (6, .d), (7, .d), (8, .d), (9, .d), (10, .d), (11, .d), (12, .d), (13, .d), (14, .d), (15, .d), (16, .d)] rfl ?_
      refine r_d rfl rfl rfl (s_fieldAddr rfl fl_api_Rule_3 rfl rfl rfl rfl) ?_
      refine r_d rfl rfl rfl (s_load rfl rfl (by exact ty_L_api_Goal) rfl) ?_
      refine r_d rfl rfl rfl (s_move rfl rfl) ?_
      refine r_d rfl rfl rfl (m_index (f := encG) r_a1.f3_Guard rfl el_L_api_Goal rfl (asl rfl) rfl hq1 sz_encG rfl) ?_
      refine r_d rfl rfl rfl (s_fieldAddr rfl fl_api_Goal_0 rfl rfl rfl rfl) ?_
      refine r_d rfl rfl rfl (s_load rfl rfl (by exact ty_int) rfl) ?_
      obtain ⟨r_20, hr_20, hr⟩ := bindS hr
      refine r_d rfl rfl rfl (s_callD rfl cl_constraintref15_Test (.cons rfl (Wk.refl _) .nil) (lg_constraintref15_Test _ _ hr_20)) ?_
      refine r_d rfl rfl rfl (s_not rfl rfl) ?_
      refine r_d rfl rfl rfl (s_move rfl rfl) ?_
      refine r_sB 61 rfl hr (fun h61_20 hr => ?_) (fun h61_20 hr => ?_)
      ·
       refine r_d rfl rfl rfl (s_fieldAddr rfl fl_api_Rule_3 rfl rfl rfl rfl) ?_
       refine r_d rfl rfl rfl (s_load rfl rfl (by exact ty_L_api_Goal) rfl) ?_
       refine r_d rfl rfl rfl (s_move rfl rfl) ?_
       refine r_d rfl rfl rfl (m_index (f := encG) r_a1.f3_Guard rfl el_L_api_Goal rfl (asl rfl) rfl hq1 sz_encG rfl) ?_
       refine r_d rfl rfl rfl (s_fieldAddr rfl fl_api_Goal_0 rfl rfl rfl rfl) ?_
       refine r_d rfl rfl rfl (s_load rfl rfl (by exact ty_int) rfl) ?_
       refine r_d rfl rfl rfl (s_cmp rfl rfl rfl rfl) ?_
       refine r_d rfl rfl rfl (s_pickT rfl rfl rfl) ?_
       refine r_end ?_
       refine g_sB 69 rfl hr (fun h69_21 hr => ?_) (fun h69_21 hr => ?_)
       ·
        refine g_condT rfl ?_
        refine g_seq ?_
        refine g_run (by kernel_rfl) [(0, .d)] rfl ?_
        refine r_d rfl rfl rfl (s_assign rfl rfl) ?_
        refine r_end ?_
        obtain rfl := Option.some.inj hr
        refine g_ret Try.func44 _ (.cons (resTmp rfl (Wk.refl _)) .nil) ?_
        rfl
       ·
        refine g_condF rfl ?_
        refine g_skip ?_
        refine g_inBlock ?_
        refine g_run (by kernel_rfl) [(0, .d), (1, .d), (2, .d)] rfl ?_
        refine r_d rfl rfl rfl (s_move rfl rfl) ?_
        refine r_d rfl rfl rfl (s_ar (r := ((i_6 + 1 : Nat) : Int)) rfl rfl rfl (by simp [iar]) (by omega)) ?_
        refine r_d rfl rfl rfl (s_assign rfl rfl) ?_
        refine r_end ?_
        refine g_sub [(3, .ptr (enc_S_api_Rule r_a1)), (9, .int .i64 ((i_6 + 1 : Nat) : Int))] (Sub.cons' rfl (Sub.cons' rfl (Sub.nil _))) ?_
        exact IH1 _ _ _ (by omega) ⟨(i_6 + 1), rfl, rfl, rfl, (by omega), hr⟩
      ·
       refine r_skip rfl rfl rfl ?_
       refine r_skip rfl rfl rfl ?_
       refine r_skip rfl rfl rfl ?_
       refine r_skip rfl rfl rfl ?_
       refine r_skip rfl rfl rfl ?_
       refine r_skip rfl rfl rfl ?_
       refine r_skip rfl rfl rfl ?_
       refine r_d rfl rfl rfl (s_pickF rfl rfl rfl) ?_
       refine r_end ?_
       refine g_condF rfl ?_
       refine g_skip ?_
       refine g_inBlock ?_
       refine g_run (by kernel_rfl) [(0, .d), (1, .d), (2, .d)] rfl ?_
       refine r_d rfl rfl rfl (s_move rfl rfl) ?_
       refine r_d rfl rfl rfl (s_ar (r := ((i_6 + 1 : Nat) : Int)) rfl rfl rfl (by simp [iar]) (by omega)) ?_
       refine r_d rfl rfl rfl (s_assign rfl rfl) ?_
       refine r_end ?_
       refine g_sub [(3, .ptr (enc_S_api_Rule r_a1)), (9, .int .i64 ((i_6 + 1 : Nat) : Int))] (Sub.cons' rfl (Sub.cons' rfl (Sub.nil _))) ?_
       exact IH1 _ _ _ (by omega) ⟨(i_6 + 1), rfl, rfl, rfl, (by omega), hr⟩
  ·
   refine g_sub [(0, .lst (decls_a0.map enc_S_api_Decl)), (3, .ptr (enc_S_api_Rule r_a1)), (5, .lst (r_1.map encA)), (6, .int .i64 ((0 : Nat) : Int))] (Sub.cons' rfl (Sub.cons' rfl (Sub.cons' rfl (Sub.cons' rfl (Sub.nil _))))) ?_
   refine g_loop (fun n env σ => ∃ (i_2 : Nat), (n = r_1.length - i_2) ∧ (env = [(0, .lst (decls_a0.map enc_S_api_Decl)), (3, .ptr (enc_S_api_Rule r_a1)), (5, .lst (r_1.map encA)), (6, .int .i64 (i_2 : Int))]) ∧ (σ = []) ∧ (i_2 ≤ r_1.length) ∧ (lf_constraintref15_meaning_L0 kk0 decls_a0 (r_1.drop i_2) = some res)) _ ⟨0, rfl, rfl, rfl, Nat.zero_le _, hr⟩ ?_
   rintro n _ _ ⟨i_2, rfl, rfl, rfl, hi0, hr⟩ IH0
   rcases listStep r_1 i_2 hi0 with ⟨ht0, hd0, he0⟩ | ⟨q_23, ht0, hd0, hq0, hlt0⟩
   ·
    rw [hd0, lf_constraintref15_meaning_L0] at hr
    refine g_seq ?_
    refine g_seq ?_
    refine g_run (by kernel_rfl) [(0, .d), (1, .d), (2, .d), (3, .d)] rfl ?_
    refine r_d rfl rfl rfl (s_move rfl rfl) ?_
    refine r_d rfl rfl rfl (s_move rfl rfl) ?_
    refine r_d rfl rfl rfl (m_len (f := encA) r_1 rfl el_L_api_Atom rfl (asl rfl)) ?_
    refine r_d rfl rfl rfl (s_cmp rfl rfl rfl rfl) ?_
    refine r_end ?_
    refine g_known 20 false rfl ht0 ?_
    refine g_condF rfl ?_
    refine g_exit rfl ?_
    refine g_sub [(0, .lst (decls_a0.map enc_S_api_Decl)), (3, .ptr (enc_S_api_Rule r_a1))] (Sub.cons' rfl (Sub.cons' rfl (Sub.nil _))) ?_
    exact HK0 _ _ ⟨rfl, rfl, hr⟩
   ·
    rw [hd0, lf_constraintref15_meaning_L0] at hr
    refine g_seq ?_
    refine g_seq ?_
    refine g_run (by kernel_rfl) [(0, .d), (1, .d), (2, .d), (3, .d)] rfl ?_
    refine r_d rfl rfl rfl (s_move rfl rfl) ?_
    refine r_d rfl rfl rfl (s_move rfl rfl) ?_
    refine r_d rfl rfl rfl (m_len (f := encA) r_1 rfl el_L_api_Atom rfl (asl rfl)) ?_
    refine r_d rfl rfl rfl (s_cmp rfl rfl rfl rfl) ?_
    refine r_end ?_
    refine g_known 20 true rfl ht0 ?_
    refine g_condT rfl ?_
    refine g_skip ?_
    refine g_seq ?_
    refine g_block ?_
    refine g_seq ?_
    refine g_any (by kernel_rfl) (by kernel_rfl) [(0, .d), (1, .d), (2, .d), (3, .d), (4, .d), (5, .d), (6, .d), (7, .d), (8, .d), (9, .d), (10, .d), (11, .d), (12, .d), (13, .d)] (by kernel_rfl) ?_
    refine r_d rfl rfl rfl (s_move rfl rfl) ?_
    refine r_d rfl rfl rfl (s_move rfl rfl) ?_
    refine r_d rfl rfl rfl (s_move rfl rfl) ?_
    refine r_d rfl rfl rfl (m_index (f := encA) r_1 rfl el_L_api_Atom rfl (asl rfl) rfl hq0 sz_encA rfl) ?_
    refine r_d rfl rfl rfl (s_fieldAddr rfl fl_api_Atom_0 rfl rfl rfl rfl) ?_
    refine r_d rfl rfl rfl (s_load rfl rfl (by exact ty_string) rfl) ?_
    refine r_d rfl rfl rfl (s_move rfl rfl) ?_
    refine r_d rfl rfl rfl (s_move rfl rfl) ?_
    refine r_d rfl rfl rfl (m_index (f := encA) r_1 rfl el_L_api_Atom rfl (asl rfl) rfl hq0 sz_encA rfl) ?_
    refine r_d rfl rfl rfl (s_fieldAddr rfl fl_api_Atom_1 rfl rfl rfl rfl) ?_
    refine r_d rfl rfl rfl (s_load rfl rfl (by exact ty_L_api_Term) rfl) ?_
    refine r_d rfl rfl rfl (m_len (f := encT) q_23.ts rfl el_L_api_Term rfl (asl rfl)) ?_
    obtain ⟨r_24, hr_24, hr⟩ := bindS hr
    refine r_d rfl rfl rfl (s_callD rfl cl_constraintref15_declare (.cons rfl (Wk.refl _) (.cons rfl (Wk.refl _) (.cons rfl (Wk.refl _) .nil))) (lg_constraintref15_declare _ _ _ _ hr_24)) ?_
    refine r_d rfl rfl rfl (s_assign rfl rfl) ?_
    refine r_end ?_
    refine g_seq ?_
    refine g_run (by kernel_rfl) [(0, .d), (1, .d)] rfl ?_
    refine r_d rfl rfl rfl (s_move rfl rfl) ?_
    refine r_d rfl rfl rfl (s_cmp rfl rfl rfl rfl) ?_
    refine r_end ?_
    refine g_sB 37 rfl hr (fun h37_24 hr => ?_) (fun h37_24 hr => ?_)
    ·
     refine g_condT rfl ?_
     refine g_seq ?_
     refine g_run (by kernel_rfl) [(0, .d), (1, .d)] rfl ?_
     refine r_d rfl rfl rfl (s_move rfl rfl) ?_
     refine r_d rfl rfl rfl (s_assign rfl rfl) ?_
     refine r_end ?_
     obtain rfl := Option.some.inj hr
     refine g_ret Try.func44 _ (.cons (resTmp rfl (Wk.refl _)) .nil) ?_
     rfl
    ·
     refine g_condF rfl ?_
     refine g_skip ?_
     refine g_inBlock ?_
     refine g_run (by kernel_rfl) [(0, .d), (1, .d), (2, .d)] rfl ?_
     refine r_d rfl rfl rfl (s_move rfl rfl) ?_
     refine r_d rfl rfl rfl (s_ar (r := ((i_2 + 1 : Nat) : Int)) rfl rfl rfl (by simp [iar]) (by omega)) ?_
     refine r_d rfl rfl rfl (s_assign rfl rfl) ?_
     refine r_end ?_
     refine g_sub [(0, .lst (decls_a0.map enc_S_api_Decl)), (3, .ptr (enc_S_api_Rule r_a1)), (5, .lst (r_1.map encA)), (6, .int .i64 ((i_2 + 1 : Nat) : Int))] (Sub.cons' rfl (Sub.cons' rfl (Sub.cons' rfl (Sub.cons' rfl (Sub.nil _))))) ?_
     exact IH0 _ _ _ (by omega) ⟨(i_2 + 1), rfl, rfl, rfl, (by omega), hr⟩

noncomputable def lf_constraintref15_CheckRule_L2 (k : Option (Int)) : List Int → Nat → Option (Int)
  | [], i_10 =>
  k
  | q_17 :: rest, i_10 =>
  (bif (q_17 != (i_10 : Int)) then
  some (2)
  else
  (lf_constraintref15_CheckRule_L2 k rest (i_10 + 1)))

noncomputable def lf_constraintref15_CheckRule_L1 (k : Option (Int)) : List Gl → Option (Int)
  | [] =>
  k
  | q_19 :: rest =>
  ((x_rightG q_19).bind fun r_20 =>
  (bif (!r_20) then
  some (2)
  else
  (lf_constraintref15_CheckRule_L1 k rest)))

noncomputable def lf_constraintref15_CheckRule_L0 (k : Option (Int)) : List At → Option (Int)
  | [] =>
  k
  | q_22 :: rest =>
  ((x_rightA q_22).bind fun r_23 =>
  (bif (!r_23) then
  some (2)
  else
  (lf_constraintref15_CheckRule_L0 k rest)))
noncomputable def lf_constraintref15_CheckRule (fuel : Nat) (decls_a0 : (List S_api_Decl)) (r_a1 : S_api_Rule) : Option (Int) :=
  ((lf_constraintref15_heads r_a1).bind fun r_1 =>
  ((lf_constraintref15_goals r_a1).bind fun r_2 =>
  (bif ((r_1.length : Int) == (0 : Int)) then
  some (6)
  else
  (bif (decide ((r_1.length : Int) > (4 : Int))) then
  some (6)
  else
  (bif (decide ((r_a1.f3_Guard.length : Int) > (12 : Int))) then
  some (6)
  else
  (bif (decide ((r_a1.f4_Body.length : Int) > (12 : Int))) then
  some (6)
  else
  (lf_constraintref15_CheckRule_L0 ((lf_constraintref15_CheckRule_L1 (((lf_constraintref15_Vars fuel r_a1).bind fun r_9 =>
  (lf_constraintref15_CheckRule_L2 ((bif (r_a1.f5_Vars != (r_9.length : Int)) then
  some (2)
  else
  (bif (!(r_a1.f0_Name.toList == (⟨#[]⟩ : ByteArray).toList)) then
  ((x_isNameR r_a1.f0_Name).bind fun r_13 =>
  (bif (!r_13) then
  some (7)
  else
  ((lf_constraintref15_meaning fuel decls_a0 r_a1).bind fun r_15 =>
  some (r_15))))
  else
  ((lf_constraintref15_meaning fuel decls_a0 r_a1).bind fun r_16 =>
  some (r_16))))) r_9 0))) r_2)) r_1)))))))

set_option maxHeartbeats 1000000 in
theorem lg_constraintref15_CheckRule (fuel : Nat) (decls_a0 : (List S_api_Decl)) (r_a1 : S_api_Rule) (res : Int) (hr : lf_constraintref15_CheckRule fuel decls_a0 r_a1 = some res) : Gives Try.prog 14 [.lst (decls_a0.map enc_S_api_Decl), enc_S_api_Rule r_a1] (.int .i64 res) := by
  unfold lf_constraintref15_CheckRule at hr
  refine spec_env [(0, .lst (decls_a0.map enc_S_api_Decl)), (1, enc_S_api_Rule r_a1)] Try.func14 rfl rfl fun K hK => ?_
  refine g_seq ?_
  refine g_run (by kernel_rfl) [(0, .d), (1, .d)] rfl ?_
  refine r_d rfl rfl rfl (s_box rfl rfl rfl) ?_
  refine r_d rfl rfl rfl (s_assign rfl rfl) ?_
  refine r_end ?_
  refine g_seq ?_
  refine g_run (by kernel_rfl) [(0, .d), (1, .d), (2, .d)] rfl ?_
  refine r_d rfl rfl rfl (s_load rfl rfl (by exact ty_api_Rule) (sz_S_api_Rule _)) ?_
  obtain ⟨r_1, hr_1, hr⟩ := bindS hr
  refine r_d rfl rfl rfl (s_callD rfl cl_constraintref15_heads (.cons rfl (Wk.refl _) .nil) (lg_constraintref15_heads _ _ hr_1)) ?_
  refine r_d rfl rfl rfl (s_assign rfl rfl) ?_
  refine r_end ?_
  refine g_seq ?_
  refine g_run (by kernel_rfl) [(0, .d), (1, .d), (2, .d)] rfl ?_
  refine r_d rfl rfl rfl (s_load rfl rfl (by exact ty_api_Rule) (sz_S_api_Rule _)) ?_
  obtain ⟨r_2, hr_2, hr⟩ := bindS hr
  refine r_d rfl rfl rfl (s_callD rfl cl_constraintref15_goals (.cons rfl (Wk.refl _) .nil) (lg_constraintref15_goals _ _ hr_2)) ?_
  refine r_d rfl rfl rfl (s_assign rfl rfl) ?_
  refine r_end ?_
  refine g_seq ?_
  refine g_seq ?_
  refine g_run (by kernel_rfl) [(0, .d), (1, .d), (2, .d), (3, .d), (4, .d), (5, .d), (6, .d), (7, .d), (8, .d), (9, .d), (10, .d), (11, .d), (12, .d), (13, .d), (14, .d), (15, .d), (16, .d), (17, .d), (18, .d), (19, .d)] rfl ?_
  refine r_d rfl rfl rfl (s_move rfl rfl) ?_
  refine r_d rfl rfl rfl (m_len (f := encA) r_1 rfl el_L_api_Atom rfl (asl rfl)) ?_
  refine r_d rfl rfl rfl (s_cmp rfl rfl rfl rfl) ?_
  refine r_d rfl rfl rfl (s_move rfl rfl) ?_
  refine r_sB 18 rfl hr (fun h18_2 hr => ?_) (fun h18_2 hr => ?_)
  ·
   refine r_skip rfl rfl rfl ?_
   refine r_skip rfl rfl rfl ?_
   refine r_skip rfl rfl rfl ?_
   refine r_d rfl rfl rfl (s_pickT rfl rfl rfl) ?_
   refine r_d rfl rfl rfl (s_move rfl rfl) ?_
   refine r_skip rfl rfl rfl ?_
   refine r_skip rfl rfl rfl ?_
   refine r_skip rfl rfl rfl ?_
   refine r_skip rfl rfl rfl ?_
   refine r_d rfl rfl rfl (s_pickT rfl rfl rfl) ?_
   refine r_d rfl rfl rfl (s_move rfl rfl) ?_
   refine r_skip rfl rfl rfl ?_
   refine r_skip rfl rfl rfl ?_
   refine r_skip rfl rfl rfl ?_
   refine r_skip rfl rfl rfl ?_
   refine r_d rfl rfl rfl (s_pickT rfl rfl rfl) ?_
   refine r_end ?_
   refine g_condT rfl ?_
   refine g_seq ?_
   refine g_run (by kernel_rfl) [(0, .d)] rfl ?_
   refine r_d rfl rfl rfl (s_assign rfl rfl) ?_
   refine r_end ?_
   obtain rfl := Option.some.inj hr
   refine g_ret Try.func14 _ (.cons (resTmp rfl (Wk.refl _)) .nil) ?_
   rfl
  ·
   refine r_d rfl rfl rfl (s_move rfl rfl) ?_
   refine r_d rfl rfl rfl (m_len (f := encA) r_1 rfl el_L_api_Atom rfl (asl rfl)) ?_
   refine r_d rfl rfl rfl (s_cmp rfl rfl rfl rfl) ?_
   refine r_d rfl rfl rfl (s_pickF rfl rfl rfl) ?_
   refine r_d rfl rfl rfl (s_move rfl rfl) ?_
   refine r_sB 23 rfl hr (fun h23_3 hr => ?_) (fun h23_3 hr => ?_)
   ·
    refine r_skip rfl rfl rfl ?_
    refine r_skip rfl rfl rfl ?_
    refine r_skip rfl rfl rfl ?_
    refine r_skip rfl rfl rfl ?_
    refine r_d rfl rfl rfl (s_pickT rfl rfl rfl) ?_
    refine r_d rfl rfl rfl (s_move rfl rfl) ?_
    refine r_skip rfl rfl rfl ?_
    refine r_skip rfl rfl rfl ?_
    refine r_skip rfl rfl rfl ?_
    refine r_skip rfl rfl rfl ?_
    refine r_d rfl rfl rfl (s_pickT rfl rfl rfl) ?_
    refine r_end ?_
    refine g_condT rfl ?_
    refine g_seq ?_
    refine g_run (by kernel_rfl) [(0, .d)] rfl ?_
    refine r_d rfl rfl rfl (s_assign rfl rfl) ?_
    refine r_end ?_
    obtain rfl := Option.some.inj hr
    refine g_ret Try.func14 _ (.cons (resTmp rfl (Wk.refl _)) .nil) ?_
    rfl
   ·
    refine r_d rfl rfl rfl (s_fieldAddr rfl fl_api_Rule_3 rfl rfl rfl rfl) ?_
    refine r_d rfl rfl rfl (s_load rfl rfl (by exact ty_L_api_Goal) rfl) ?_
    refine r_d rfl rfl rfl (m_len (f := encG) r_a1.f3_Guard rfl el_L_api_Goal rfl (asl rfl)) ?_
    refine r_d rfl rfl rfl (s_cmp rfl rfl rfl rfl) ?_
    refine r_d rfl rfl rfl (s_pickF rfl rfl rfl) ?_
    refine r_d rfl rfl rfl (s_move rfl rfl) ?_
    refine r_sB 29 rfl hr (fun h29_4 hr => ?_) (fun h29_4 hr => ?_)
    ·
     refine r_skip rfl rfl rfl ?_
     refine r_skip rfl rfl rfl ?_
     refine r_skip rfl rfl rfl ?_
     refine r_skip rfl rfl rfl ?_
     refine r_d rfl rfl rfl (s_pickT rfl rfl rfl) ?_
     refine r_end ?_
     refine g_condT rfl ?_
     refine g_seq ?_
     refine g_run (by kernel_rfl) [(0, .d)] rfl ?_
     refine r_d rfl rfl rfl (s_assign rfl rfl) ?_
     refine r_end ?_
     obtain rfl := Option.some.inj hr
     refine g_ret Try.func14 _ (.cons (resTmp rfl (Wk.refl _)) .nil) ?_
     rfl
    ·
     refine r_d rfl rfl rfl (s_fieldAddr rfl fl_api_Rule_4 rfl rfl rfl rfl) ?_
     refine r_d rfl rfl rfl (s_load rfl rfl (by exact ty_L_api_Goal) rfl) ?_
     refine r_d rfl rfl rfl (m_len (f := encG) r_a1.f4_Body rfl el_L_api_Goal rfl (asl rfl)) ?_
     refine r_d rfl rfl rfl (s_cmp rfl rfl rfl rfl) ?_
     refine r_d rfl rfl rfl (s_pickF rfl rfl rfl) ?_
     refine r_end ?_
     refine g_sB 34 rfl hr (fun h34_5 hr => ?_) (fun h34_5 hr => ?_)
     ·
      refine g_condT rfl ?_
      refine g_seq ?_
      refine g_run (by kernel_rfl) [(0, .d)] rfl ?_
      refine r_d rfl rfl rfl (s_assign rfl rfl) ?_
      refine r_end ?_
      obtain rfl := Option.some.inj hr
      refine g_ret Try.func14 _ (.cons (resTmp rfl (Wk.refl _)) .nil) ?_
      rfl
     ·
      refine g_condF rfl ?_
      refine g_skip ?_
      refine g_seq ?_
      refine g_seq ?_
      refine g_run (by kernel_rfl) [(0, .d)] rfl ?_
      refine r_d rfl rfl rfl (s_assign rfl rfl) ?_
      refine r_end ?_
      obtain ⟨kk0, hkk0, hr⟩ := exK (fun k => lf_constraintref15_CheckRule_L0 k r_1) hr
      refine g_len 12 rfl (asl rfl) fun hla0 => ?_
      simp only [List.length_map] at hla0
      refine g_blockJ (fun env σ => env = [(0, .lst (decls_a0.map enc_S_api_Decl)), (3, .ptr (enc_S_api_Rule r_a1)), (6, .lst (r_2.map encG))] ∧ σ = [] ∧ kk0 = some res) ?_ (fun HK0 => ?_)
      ·
       rintro _ _ ⟨rfl, rfl, hr⟩
       rw [hkk0] at hr
       refine g_seq ?_
       refine g_seq ?_
       refine g_run (by kernel_rfl) [(0, .d)] rfl ?_
       refine r_d rfl rfl rfl (s_assign rfl rfl) ?_
       refine r_end ?_
       obtain ⟨kk1, hkk1, hr⟩ := exK (fun k => lf_constraintref15_CheckRule_L1 k r_2) hr
       refine g_len 6 rfl (asl rfl) fun hla1 => ?_
       simp only [List.length_map] at hla1
       refine g_blockJ (fun env σ => env = [(0, .lst (decls_a0.map enc_S_api_Decl)), (3, .ptr (enc_S_api_Rule r_a1))] ∧ σ = [] ∧ kk1 = some res) ?_ (fun HK1 => ?_)
       ·
        rintro _ _ ⟨rfl, rfl, hr⟩
        rw [hkk1] at hr
        refine g_seq ?_
        refine g_run (by kernel_rfl) [(0, .d), (1, .d), (2, .d)] rfl ?_
        refine r_d rfl rfl rfl (s_load rfl rfl (by exact ty_api_Rule) (sz_S_api_Rule _)) ?_
        obtain ⟨r_9, hr_9, hr⟩ := bindS hr
        refine r_d rfl rfl rfl (s_callD rfl cl_constraintref15_Vars (.cons rfl (Wk.refl _) .nil) (lg_constraintref15_Vars fuel _ _ hr_9)) ?_
        refine r_d rfl rfl rfl (s_assign rfl rfl) ?_
        refine r_end ?_
        refine g_seq ?_
        refine g_seq ?_
        refine g_run (by kernel_rfl) [(0, .d)] rfl ?_
        refine r_d rfl rfl rfl (s_assign rfl rfl) ?_
        refine r_end ?_
        obtain ⟨kk2, hkk2, hr⟩ := exK (fun k => lf_constraintref15_CheckRule_L2 k r_9 0) hr
        refine g_len 60 rfl (asl rfl) fun hla2 => ?_
        simp only [List.length_map] at hla2
        refine g_blockJ (fun env σ => env = [(0, .lst (decls_a0.map enc_S_api_Decl)), (3, .ptr (enc_S_api_Rule r_a1)), (9, .lst (r_9.map (D.int .i64)))] ∧ σ = [] ∧ kk2 = some res) ?_ (fun HK2 => ?_)
        ·
         rintro _ _ ⟨rfl, rfl, hr⟩
         rw [hkk2] at hr
         refine g_seq ?_
         refine g_seq ?_
         refine g_run (by kernel_rfl) [(0, .d), (1, .d), (2, .d), (3, .d), (4, .d)] rfl ?_
         refine r_d rfl rfl rfl (s_fieldAddr rfl fl_api_Rule_5 rfl rfl rfl rfl) ?_
         refine r_d rfl rfl rfl (s_load rfl rfl (by exact ty_int) rfl) ?_
         refine r_d rfl rfl rfl (s_move rfl rfl) ?_
         refine r_d rfl rfl rfl (m_len (f := (D.int .i64)) r_9 rfl el_L_int rfl (asl rfl)) ?_
         refine r_d rfl rfl rfl (s_cmp rfl rfl rfl rfl) ?_
         refine r_end ?_
         refine g_sB 77 rfl hr (fun h77_10 hr => ?_) (fun h77_10 hr => ?_)
         ·
          refine g_condT rfl ?_
          refine g_seq ?_
          refine g_run (by kernel_rfl) [(0, .d)] rfl ?_
          refine r_d rfl rfl rfl (s_assign rfl rfl) ?_
          refine r_end ?_
          obtain rfl := Option.some.inj hr
          refine g_ret Try.func14 _ (.cons (resTmp rfl (Wk.refl _)) .nil) ?_
          rfl
         ·
          refine g_condF rfl ?_
          refine g_skip ?_
          refine g_seq ?_
          refine g_seq ?_
          refine g_run (by kernel_rfl) [(0, .d), (1, .d), (2, .d), (3, .d), (4, .d), (5, .d), (6, .d), (7, .d), (8, .d)] rfl ?_
          refine r_d rfl rfl rfl (s_fieldAddr rfl fl_api_Rule_0 rfl rfl rfl rfl) ?_
          refine r_d rfl rfl rfl (s_load rfl rfl (by exact ty_string) rfl) ?_
          refine r_d rfl rfl rfl (s_cmpS rfl rfl rfl rfl) ?_
          refine r_d rfl rfl rfl (s_move rfl rfl) ?_
          refine r_sB 81 rfl hr (fun h81_11 hr => ?_) (fun h81_11 hr => ?_)
          ·
           refine r_d rfl rfl rfl (s_fieldAddr rfl fl_api_Rule_0 rfl rfl rfl rfl) ?_
           refine r_d rfl rfl rfl (s_load rfl rfl (by exact ty_string) rfl) ?_
           obtain ⟨r_13, hr_13, hr⟩ := bindS hr
           refine r_d rfl rfl rfl (s_callD rfl cl_constraintref02_Right (.cons rfl (Wk.refl _) .nil) (lx_constraintref02_Right _ _ hr_13)) ?_
           refine r_d rfl rfl rfl (s_not rfl rfl) ?_
           refine r_d rfl rfl rfl (s_pickT rfl rfl rfl) ?_
           refine r_end ?_
           refine g_sB 86 rfl hr (fun h86_13 hr => ?_) (fun h86_13 hr => ?_)
           ·
            refine g_condT rfl ?_
            refine g_seq ?_
            refine g_run (by kernel_rfl) [(0, .d)] rfl ?_
            refine r_d rfl rfl rfl (s_assign rfl rfl) ?_
            refine r_end ?_
            obtain rfl := Option.some.inj hr
            refine g_ret Try.func14 _ (.cons (resTmp rfl (Wk.refl _)) .nil) ?_
            rfl
           ·
            refine g_condF rfl ?_
            refine g_skip ?_
            refine g_seq ?_
            refine g_run (by kernel_rfl) [(0, .d), (1, .d), (2, .d), (3, .d)] rfl ?_
            refine r_d rfl rfl rfl (s_move rfl rfl) ?_
            refine r_d rfl rfl rfl (s_load rfl rfl (by exact ty_api_Rule) (sz_S_api_Rule _)) ?_
            obtain ⟨r_15, hr_15, hr⟩ := bindS hr
            refine r_d rfl rfl rfl (s_callD rfl cl_constraintref15_meaning (.cons rfl (Wk.refl _) (.cons rfl (Wk.refl _) .nil)) (lg_constraintref15_meaning fuel _ _ _ hr_15)) ?_
            refine r_d rfl rfl rfl (s_assign rfl rfl) ?_
            refine r_end ?_
            obtain rfl := Option.some.inj hr
            refine g_ret Try.func14 _ (.cons (resTmp rfl (Wk.refl _)) .nil) ?_
            rfl
          ·
           refine r_skip rfl rfl rfl ?_
           refine r_skip rfl rfl rfl ?_
           refine r_skip rfl rfl rfl ?_
           refine r_skip rfl rfl rfl ?_
           refine r_d rfl rfl rfl (s_pickF rfl rfl rfl) ?_
           refine r_end ?_
           refine g_condF rfl ?_
           refine g_skip ?_
           refine g_seq ?_
           refine g_run (by kernel_rfl) [(0, .d), (1, .d), (2, .d), (3, .d)] rfl ?_
           refine r_d rfl rfl rfl (s_move rfl rfl) ?_
           refine r_d rfl rfl rfl (s_load rfl rfl (by exact ty_api_Rule) (sz_S_api_Rule _)) ?_
           obtain ⟨r_16, hr_16, hr⟩ := bindS hr
           refine r_d rfl rfl rfl (s_callD rfl cl_constraintref15_meaning (.cons rfl (Wk.refl _) (.cons rfl (Wk.refl _) .nil)) (lg_constraintref15_meaning fuel _ _ _ hr_16)) ?_
           refine r_d rfl rfl rfl (s_assign rfl rfl) ?_
           refine r_end ?_
           obtain rfl := Option.some.inj hr
           refine g_ret Try.func14 _ (.cons (resTmp rfl (Wk.refl _)) .nil) ?_
           rfl
        ·
         refine g_sub [(0, .lst (decls_a0.map enc_S_api_Decl)), (3, .ptr (enc_S_api_Rule r_a1)), (9, .lst (r_9.map (D.int .i64))), (10, .int .i64 ((0 : Nat) : Int))] (Sub.cons' rfl (Sub.cons' rfl (Sub.cons' rfl (Sub.cons' rfl (Sub.nil _))))) ?_
         refine g_loop (fun n env σ => ∃ (i_10 : Nat), (n = r_9.length - i_10) ∧ (env = [(0, .lst (decls_a0.map enc_S_api_Decl)), (3, .ptr (enc_S_api_Rule r_a1)), (9, .lst (r_9.map (D.int .i64))), (10, .int .i64 (i_10 : Int))]) ∧ (σ = []) ∧ (i_10 ≤ r_9.length) ∧ (lf_constraintref15_CheckRule_L2 kk2 (r_9.drop i_10) i_10 = some res)) _ ⟨0, rfl, rfl, rfl, Nat.zero_le _, hr⟩ ?_
         rintro n _ _ ⟨i_10, rfl, rfl, rfl, hi2, hr⟩ IH2
         rcases listStep r_9 i_10 hi2 with ⟨ht2, hd2, he2⟩ | ⟨q_17, ht2, hd2, hq2, hlt2⟩
         ·
          rw [hd2, lf_constraintref15_CheckRule_L2] at hr
          refine g_seq ?_
          refine g_seq ?_
          refine g_run (by kernel_rfl) [(0, .d), (1, .d), (2, .d), (3, .d)] rfl ?_
          refine r_d rfl rfl rfl (s_move rfl rfl) ?_
          refine r_d rfl rfl rfl (s_move rfl rfl) ?_
          refine r_d rfl rfl rfl (m_len (f := (D.int .i64)) r_9 rfl el_L_int rfl (asl rfl)) ?_
          refine r_d rfl rfl rfl (s_cmp rfl rfl rfl rfl) ?_
          refine r_end ?_
          refine g_known 64 false rfl ht2 ?_
          refine g_condF rfl ?_
          refine g_exit rfl ?_
          refine g_sub [(0, .lst (decls_a0.map enc_S_api_Decl)), (3, .ptr (enc_S_api_Rule r_a1)), (9, .lst (r_9.map (D.int .i64)))] (Sub.cons' rfl (Sub.cons' rfl (Sub.cons' rfl (Sub.nil _)))) ?_
          exact HK2 _ _ ⟨rfl, rfl, hr⟩
         ·
          rw [hd2, lf_constraintref15_CheckRule_L2] at hr
          refine g_seq ?_
          refine g_seq ?_
          refine g_run (by kernel_rfl) [(0, .d), (1, .d), (2, .d), (3, .d)] rfl ?_
          refine r_d rfl rfl rfl (s_move rfl rfl) ?_
          refine r_d rfl rfl rfl (s_move rfl rfl) ?_
          refine r_d rfl rfl rfl (m_len (f := (D.int .i64)) r_9 rfl el_L_int rfl (asl rfl)) ?_
          refine r_d rfl rfl rfl (s_cmp rfl rfl rfl rfl) ?_
          refine r_end ?_
          refine g_known 64 true rfl ht2 ?_
          refine g_condT rfl ?_
          refine g_skip ?_
          refine g_seq ?_
          refine g_block ?_
          refine g_seq ?_
          refine g_run (by kernel_rfl) [(0, .d), (1, .d), (2, .d), (3, .d), (4, .d), (5, .d)] rfl ?_
          refine r_d rfl rfl rfl (s_move rfl rfl) ?_
          refine r_d rfl rfl rfl (s_move rfl rfl) ?_
          refine r_d rfl rfl rfl (m_index (f := (D.int .i64)) r_9 rfl el_L_int rfl (asl rfl) rfl hq2 (fun _ => rfl) rfl) ?_
          refine r_d rfl rfl rfl (s_load rfl rfl (by exact ty_int) rfl) ?_
          refine r_d rfl rfl rfl (s_move rfl rfl) ?_
          refine r_d rfl rfl rfl (s_cmp rfl rfl rfl rfl) ?_
          refine r_end ?_
          refine g_sB 72 rfl hr (fun h72_17 hr => ?_) (fun h72_17 hr => ?_)
          ·
           refine g_condT rfl ?_
           refine g_seq ?_
           refine g_run (by kernel_rfl) [(0, .d)] rfl ?_
           refine r_d rfl rfl rfl (s_assign rfl rfl) ?_
           refine r_end ?_
           obtain rfl := Option.some.inj hr
           refine g_ret Try.func14 _ (.cons (resTmp rfl (Wk.refl _)) .nil) ?_
           rfl
          ·
           refine g_condF rfl ?_
           refine g_skip ?_
           refine g_inBlock ?_
           refine g_run (by kernel_rfl) [(0, .d), (1, .d), (2, .d)] rfl ?_
           refine r_d rfl rfl rfl (s_move rfl rfl) ?_
           refine r_d rfl rfl rfl (s_ar (r := ((i_10 + 1 : Nat) : Int)) rfl rfl rfl (by simp [iar]) (by omega)) ?_
           refine r_d rfl rfl rfl (s_assign rfl rfl) ?_
           refine r_end ?_
           refine g_sub [(0, .lst (decls_a0.map enc_S_api_Decl)), (3, .ptr (enc_S_api_Rule r_a1)), (9, .lst (r_9.map (D.int .i64))), (10, .int .i64 ((i_10 + 1 : Nat) : Int))] (Sub.cons' rfl (Sub.cons' rfl (Sub.cons' rfl (Sub.cons' rfl (Sub.nil _))))) ?_
           exact IH2 _ _ _ (by omega) ⟨(i_10 + 1), rfl, rfl, rfl, (by omega), hr⟩
       ·
        refine g_sub [(0, .lst (decls_a0.map enc_S_api_Decl)), (3, .ptr (enc_S_api_Rule r_a1)), (6, .lst (r_2.map encG)), (8, .int .i64 ((0 : Nat) : Int))] (Sub.cons' rfl (Sub.cons' rfl (Sub.cons' rfl (Sub.cons' rfl (Sub.nil _))))) ?_
        refine g_loop (fun n env σ => ∃ (i_8 : Nat), (n = r_2.length - i_8) ∧ (env = [(0, .lst (decls_a0.map enc_S_api_Decl)), (3, .ptr (enc_S_api_Rule r_a1)), (6, .lst (r_2.map encG)), (8, .int .i64 (i_8 : Int))]) ∧ (σ = []) ∧ (i_8 ≤ r_2.length) ∧ (lf_constraintref15_CheckRule_L1 kk1 (r_2.drop i_8) = some res)) _ ⟨0, rfl, rfl, rfl, Nat.zero_le _, hr⟩ ?_
        rintro n _ _ ⟨i_8, rfl, rfl, rfl, hi1, hr⟩ IH1
        rcases listStep r_2 i_8 hi1 with ⟨ht1, hd1, he1⟩ | ⟨q_19, ht1, hd1, hq1, hlt1⟩
        ·
         rw [hd1, lf_constraintref15_CheckRule_L1] at hr
         refine g_seq ?_
         refine g_seq ?_
         refine g_run (by kernel_rfl) [(0, .d), (1, .d), (2, .d), (3, .d)] rfl ?_
         refine r_d rfl rfl rfl (s_move rfl rfl) ?_
         refine r_d rfl rfl rfl (s_move rfl rfl) ?_
         refine r_d rfl rfl rfl (m_len (f := encG) r_2 rfl el_L_api_Goal rfl (asl rfl)) ?_
         refine r_d rfl rfl rfl (s_cmp rfl rfl rfl rfl) ?_
         refine r_end ?_
         refine g_known 50 false rfl ht1 ?_
         refine g_condF rfl ?_
         refine g_exit rfl ?_
         refine g_sub [(0, .lst (decls_a0.map enc_S_api_Decl)), (3, .ptr (enc_S_api_Rule r_a1))] (Sub.cons' rfl (Sub.cons' rfl (Sub.nil _))) ?_
         exact HK1 _ _ ⟨rfl, rfl, hr⟩
        ·
         rw [hd1, lf_constraintref15_CheckRule_L1] at hr
         refine g_seq ?_
         refine g_seq ?_
         refine g_run (by kernel_rfl) [(0, .d), (1, .d), (2, .d), (3, .d)] rfl ?_
         refine r_d rfl rfl rfl (s_move rfl rfl) ?_
         refine r_d rfl rfl rfl (s_move rfl rfl) ?_
         refine r_d rfl rfl rfl (m_len (f := encG) r_2 rfl el_L_api_Goal rfl (asl rfl)) ?_
         refine r_d rfl rfl rfl (s_cmp rfl rfl rfl rfl) ?_
         refine r_end ?_
         refine g_known 50 true rfl ht1 ?_
         refine g_condT rfl ?_
         refine g_skip ?_
         refine g_seq ?_
         refine g_block ?_
         refine g_seq ?_
         refine g_run (by kernel_rfl) [(0, .d), (1, .d), (2, .d), (3, .d), (4, .d), (5, .d)] rfl ?_
         refine r_d rfl rfl rfl (s_move rfl rfl) ?_
         refine r_d rfl rfl rfl (s_move rfl rfl) ?_
         refine r_d rfl rfl rfl (m_index (f := encG) r_2 rfl el_L_api_Goal rfl (asl rfl) rfl hq1 sz_encG rfl) ?_
         refine r_d rfl rfl rfl (s_load rfl rfl (by exact ty_api_Goal) (sz_encG _)) ?_
         obtain ⟨r_20, hr_20, hr⟩ := bindS hr
         refine r_d rfl rfl rfl (s_callD rfl cl_constraintref03_RightGoal (.cons rfl (Wk.refl _) .nil) (lx_constraintref03_RightGoal _ _ hr_20)) ?_
         refine r_d rfl rfl rfl (s_not rfl rfl) ?_
         refine r_end ?_
         refine g_sB 58 rfl hr (fun h58_20 hr => ?_) (fun h58_20 hr => ?_)
         ·
          refine g_condT rfl ?_
          refine g_seq ?_
          refine g_run (by kernel_rfl) [(0, .d)] rfl ?_
          refine r_d rfl rfl rfl (s_assign rfl rfl) ?_
          refine r_end ?_
          obtain rfl := Option.some.inj hr
          refine g_ret Try.func14 _ (.cons (resTmp rfl (Wk.refl _)) .nil) ?_
          rfl
         ·
          refine g_condF rfl ?_
          refine g_skip ?_
          refine g_inBlock ?_
          refine g_run (by kernel_rfl) [(0, .d), (1, .d), (2, .d)] rfl ?_
          refine r_d rfl rfl rfl (s_move rfl rfl) ?_
          refine r_d rfl rfl rfl (s_ar (r := ((i_8 + 1 : Nat) : Int)) rfl rfl rfl (by simp [iar]) (by omega)) ?_
          refine r_d rfl rfl rfl (s_assign rfl rfl) ?_
          refine r_end ?_
          refine g_sub [(0, .lst (decls_a0.map enc_S_api_Decl)), (3, .ptr (enc_S_api_Rule r_a1)), (6, .lst (r_2.map encG)), (8, .int .i64 ((i_8 + 1 : Nat) : Int))] (Sub.cons' rfl (Sub.cons' rfl (Sub.cons' rfl (Sub.cons' rfl (Sub.nil _))))) ?_
          exact IH1 _ _ _ (by omega) ⟨(i_8 + 1), rfl, rfl, rfl, (by omega), hr⟩
      ·
       refine g_sub [(0, .lst (decls_a0.map enc_S_api_Decl)), (3, .ptr (enc_S_api_Rule r_a1)), (5, .lst (r_1.map encA)), (6, .lst (r_2.map encG)), (7, .int .i64 ((0 : Nat) : Int))] (Sub.cons' rfl (Sub.cons' rfl (Sub.cons' rfl (Sub.cons' rfl (Sub.cons' rfl (Sub.nil _)))))) ?_
       refine g_loop (fun n env σ => ∃ (i_7 : Nat), (n = r_1.length - i_7) ∧ (env = [(0, .lst (decls_a0.map enc_S_api_Decl)), (3, .ptr (enc_S_api_Rule r_a1)), (5, .lst (r_1.map encA)), (6, .lst (r_2.map encG)), (7, .int .i64 (i_7 : Int))]) ∧ (σ = []) ∧ (i_7 ≤ r_1.length) ∧ (lf_constraintref15_CheckRule_L0 kk0 (r_1.drop i_7) = some res)) _ ⟨0, rfl, rfl, rfl, Nat.zero_le _, hr⟩ ?_
       rintro n _ _ ⟨i_7, rfl, rfl, rfl, hi0, hr⟩ IH0
       rcases listStep r_1 i_7 hi0 with ⟨ht0, hd0, he0⟩ | ⟨q_22, ht0, hd0, hq0, hlt0⟩
       ·
        rw [hd0, lf_constraintref15_CheckRule_L0] at hr
        refine g_seq ?_
        refine g_seq ?_
        refine g_run (by kernel_rfl) [(0, .d), (1, .d), (2, .d), (3, .d)] rfl ?_
        refine r_d rfl rfl rfl (s_move rfl rfl) ?_
        refine r_d rfl rfl rfl (s_move rfl rfl) ?_
        refine r_d rfl rfl rfl (m_len (f := encA) r_1 rfl el_L_api_Atom rfl (asl rfl)) ?_
        refine r_d rfl rfl rfl (s_cmp rfl rfl rfl rfl) ?_
        refine r_end ?_
        refine g_known 38 false rfl ht0 ?_
        refine g_condF rfl ?_
        refine g_exit rfl ?_
        refine g_sub [(0, .lst (decls_a0.map enc_S_api_Decl)), (3, .ptr (enc_S_api_Rule r_a1)), (6, .lst (r_2.map encG))] (Sub.cons' rfl (Sub.cons' rfl (Sub.cons' rfl (Sub.nil _)))) ?_
        exact HK0 _ _ ⟨rfl, rfl, hr⟩
       ·
        rw [hd0, lf_constraintref15_CheckRule_L0] at hr
        refine g_seq ?_
        refine g_seq ?_
        refine g_run (by kernel_rfl) [(0, .d), (1, .d), (2, .d), (3, .d)] rfl ?_
        refine r_d rfl rfl rfl (s_move rfl rfl) ?_
        refine r_d rfl rfl rfl (s_move rfl rfl) ?_
        refine r_d rfl rfl rfl (m_len (f := encA) r_1 rfl el_L_api_Atom rfl (asl rfl)) ?_
        refine r_d rfl rfl rfl (s_cmp rfl rfl rfl rfl) ?_
        refine r_end ?_
        refine g_known 38 true rfl ht0 ?_
        refine g_condT rfl ?_
        refine g_skip ?_
        refine g_seq ?_
        refine g_block ?_
        refine g_seq ?_
        refine g_run (by kernel_rfl) [(0, .d), (1, .d), (2, .d), (3, .d), (4, .d), (5, .d)] rfl ?_
        refine r_d rfl rfl rfl (s_move rfl rfl) ?_
        refine r_d rfl rfl rfl (s_move rfl rfl) ?_
        refine r_d rfl rfl rfl (m_index (f := encA) r_1 rfl el_L_api_Atom rfl (asl rfl) rfl hq0 sz_encA rfl) ?_
        refine r_d rfl rfl rfl (s_load rfl rfl (by exact ty_api_Atom) (sz_encA _)) ?_
        obtain ⟨r_23, hr_23, hr⟩ := bindS hr
        refine r_d rfl rfl rfl (s_callD rfl cl_constraintref03_RightAtom (.cons rfl (Wk.refl _) .nil) (lx_constraintref03_RightAtom _ _ hr_23)) ?_
        refine r_d rfl rfl rfl (s_not rfl rfl) ?_
        refine r_end ?_
        refine g_sB 46 rfl hr (fun h46_23 hr => ?_) (fun h46_23 hr => ?_)
        ·
         refine g_condT rfl ?_
         refine g_seq ?_
         refine g_run (by kernel_rfl) [(0, .d)] rfl ?_
         refine r_d rfl rfl rfl (s_assign rfl rfl) ?_
         refine r_end ?_
         obtain rfl := Option.some.inj hr
         refine g_ret Try.func14 _ (.cons (resTmp rfl (Wk.refl _)) .nil) ?_
         rfl
        ·
         refine g_condF rfl ?_
         refine g_skip ?_
         refine g_inBlock ?_
         refine g_run (by kernel_rfl) [(0, .d), (1, .d), (2, .d)] rfl ?_
         refine r_d rfl rfl rfl (s_move rfl rfl) ?_
         refine r_d rfl rfl rfl (s_ar (r := ((i_7 + 1 : Nat) : Int)) rfl rfl rfl (by simp [iar]) (by omega)) ?_
         refine r_d rfl rfl rfl (s_assign rfl rfl) ?_
         refine r_end ?_
         refine g_sub [(0, .lst (decls_a0.map enc_S_api_Decl)), (3, .ptr (enc_S_api_Rule r_a1)), (5, .lst (r_1.map encA)), (6, .lst (r_2.map encG)), (7, .int .i64 ((i_7 + 1 : Nat) : Int))] (Sub.cons' rfl (Sub.cons' rfl (Sub.cons' rfl (Sub.cons' rfl (Sub.cons' rfl (Sub.nil _)))))) ?_
         exact IH0 _ _ _ (by omega) ⟨(i_7 + 1), rfl, rfl, rfl, (by omega), hr⟩

noncomputable def lf_constraintref15_Check_L1 (k : Option (Int × Int)) (fuel : Nat) (p_a0 : S_api_Program) : List S_api_Rule → Nat → Option (Int × Int)
  | [], i_4 =>
  k
  | q_5 :: rest, i_4 =>
  ((lf_constraintref15_CheckRule fuel p_a0.f0_Decls q_5).bind fun r_6 =>
  (bif (r_6 != (0 : Int)) then
  some ((i_4 : Int), r_6)
  else
  (lf_constraintref15_Check_L1 k fuel p_a0 rest (i_4 + 1))))

noncomputable def lf_constraintref15_Check_L0 (k : Option (Int × Int)) (p_a0 : S_api_Program) : List S_api_Decl → Nat → Option (Int × Int)
  | [], i_2 =>
  k
  | q_8 :: rest, i_2 =>
  ((x_isNameR q_8.f0_Name).bind fun r_10 =>
  (bif (!r_10) then
  some ((-1), 7)
  else
  (bif (decide (q_8.f1_Arity < (0 : Int))) then
  some ((-1), 9)
  else
  (bif (decide (q_8.f1_Arity > (6 : Int))) then
  some ((-1), 9)
  else
  ((subO p_a0.f0_Decls 0 (i_2 : Int)).bind fun l_14 =>
  ((lf_constraintref15_Declared l_14 q_8.f0_Name q_8.f1_Arity).bind fun r_15 =>
  (bif r_15 then
  some ((-1), 8)
  else
  (lf_constraintref15_Check_L0 k p_a0 rest (i_2 + 1)))))))))
noncomputable def lf_constraintref15_Check (fuel : Nat) (p_a0 : S_api_Program) : Option (Int × Int) :=
  (bif (decide ((p_a0.f0_Decls.length : Int) > (30 : Int))) then
  some ((-1), 6)
  else
  (lf_constraintref15_Check_L0 ((bif (decide ((p_a0.f1_Rules.length : Int) > (40 : Int))) then
  some ((-1), 6)
  else
  (lf_constraintref15_Check_L1 (some (0, 0)) fuel p_a0 p_a0.f1_Rules 0))) p_a0 p_a0.f0_Decls 0))

set_option maxHeartbeats 1000000 in
theorem lg_constraintref15_Check (fuel : Nat) (p_a0 : S_api_Program) (res : Int × Int) (hr : lf_constraintref15_Check fuel p_a0 = some res) : Gives Try.prog 11 [enc_S_api_Program p_a0] (.tup [.int .i64 res.1, .int .i64 res.2]) := by
  unfold lf_constraintref15_Check at hr
  refine spec_env [(0, enc_S_api_Program p_a0)] Try.func11 rfl rfl fun K hK => ?_
  refine g_seq ?_
  refine g_run (by kernel_rfl) [(0, .d), (1, .d), (2, .d)] rfl ?_
  refine r_d rfl rfl rfl (s_box rfl rfl rfl) ?_
  refine r_d rfl rfl rfl (s_assign rfl rfl) ?_
  refine r_d rfl rfl rfl (s_assign rfl rfl) ?_
  refine r_end ?_
  refine g_seq ?_
  refine g_seq ?_
  refine g_run (by kernel_rfl) [(0, .d), (1, .d), (2, .d), (3, .d)] rfl ?_
  refine r_d rfl rfl rfl (s_fieldAddr rfl fl_api_Program_0 rfl rfl rfl rfl) ?_
  refine r_d rfl rfl rfl (s_load rfl rfl (by exact ty_L_api_Decl) rfl) ?_
  refine r_d rfl rfl rfl (m_len (f := enc_S_api_Decl) p_a0.f0_Decls rfl el_L_api_Decl rfl (asl rfl)) ?_
  refine r_d rfl rfl rfl (s_cmp rfl rfl rfl rfl) ?_
  refine r_end ?_
  refine g_sB 11 rfl hr (fun h11_0 hr => ?_) (fun h11_0 hr => ?_)
  ·
   refine g_condT rfl ?_
   refine g_seq ?_
   refine g_run (by kernel_rfl) [(0, .d), (1, .d)] rfl ?_
   refine r_d rfl rfl rfl (s_assign rfl rfl) ?_
   refine r_d rfl rfl rfl (s_assign rfl rfl) ?_
   refine r_end ?_
   obtain rfl := Option.some.inj hr
   refine g_ret Try.func11 _ (.cons (resTmp rfl (Wk.refl _)) (.cons (resTmp rfl (Wk.refl _)) .nil)) ?_
   rfl
  ·
   refine g_condF rfl ?_
   refine g_skip ?_
   refine g_seq ?_
   refine g_seq ?_
   refine g_run (by kernel_rfl) [(0, .d)] rfl ?_
   refine r_d rfl rfl rfl (s_assign rfl rfl) ?_
   refine r_end ?_
   obtain ⟨kk0, hkk0, hr⟩ := exK (fun k => lf_constraintref15_Check_L0 k p_a0 p_a0.f0_Decls 0) hr
   refine g_len 9 rfl (asl rfl) fun hla0 => ?_
   simp only [List.length_map] at hla0
   refine g_blockJ (fun env σ => env = [(1, .ptr (enc_S_api_Program p_a0))] ∧ σ = [] ∧ kk0 = some res) ?_ (fun HK0 => ?_)
   ·
    rintro _ _ ⟨rfl, rfl, hr⟩
    rw [hkk0] at hr
    refine g_seq ?_
    refine g_seq ?_
    refine g_run (by kernel_rfl) [(0, .d), (1, .d), (2, .d), (3, .d)] rfl ?_
    refine r_d rfl rfl rfl (s_fieldAddr rfl fl_api_Program_1 rfl rfl rfl rfl) ?_
    refine r_d rfl rfl rfl (s_load rfl rfl (by exact ty_L_api_Rule) rfl) ?_
    refine r_d rfl rfl rfl (m_len (f := enc_S_api_Rule) p_a0.f1_Rules rfl el_L_api_Rule rfl (asl rfl)) ?_
    refine r_d rfl rfl rfl (s_cmp rfl rfl rfl rfl) ?_
    refine r_end ?_
    refine g_sB 51 rfl hr (fun h51_2 hr => ?_) (fun h51_2 hr => ?_)
    ·
     refine g_condT rfl ?_
     refine g_seq ?_
     refine g_run (by kernel_rfl) [(0, .d), (1, .d)] rfl ?_
     refine r_d rfl rfl rfl (s_assign rfl rfl) ?_
     refine r_d rfl rfl rfl (s_assign rfl rfl) ?_
     refine r_end ?_
     obtain rfl := Option.some.inj hr
     refine g_ret Try.func11 _ (.cons (resTmp rfl (Wk.refl _)) (.cons (resTmp rfl (Wk.refl _)) .nil)) ?_
     rfl
    ·
     refine g_condF rfl ?_
     refine g_skip ?_
     refine g_seq ?_
     refine g_seq ?_
     refine g_run (by kernel_rfl) [(0, .d)] rfl ?_
     refine r_d rfl rfl rfl (s_assign rfl rfl) ?_
     refine r_end ?_
     obtain ⟨kk1, hkk1, hr⟩ := exK (fun k => lf_constraintref15_Check_L1 k fuel p_a0 p_a0.f1_Rules 0) hr
     refine g_len 49 rfl (asl rfl) fun hla1 => ?_
     simp only [List.length_map] at hla1
     refine g_blockJ (fun env σ => env = [] ∧ σ = [] ∧ kk1 = some res) ?_ (fun HK1 => ?_)
     ·
      rintro _ _ ⟨rfl, rfl, hr⟩
      rw [hkk1] at hr
      refine g_seq ?_
      refine g_run (by kernel_rfl) [(0, .d), (1, .d)] rfl ?_
      refine r_d rfl rfl rfl (s_assign rfl rfl) ?_
      refine r_d rfl rfl rfl (s_assign rfl rfl) ?_
      refine r_end ?_
      obtain rfl := Option.some.inj hr
      refine g_ret Try.func11 _ (.cons (resTmp rfl (Wk.refl _)) (.cons (resTmp rfl (Wk.refl _)) .nil)) ?_
      rfl
     ·
      refine g_sub [(1, .ptr (enc_S_api_Program p_a0)), (6, .int .i64 ((0 : Nat) : Int))] (Sub.cons' rfl (Sub.cons' rfl (Sub.nil _))) ?_
      refine g_loop (fun n env σ => ∃ (i_4 : Nat), (n = p_a0.f1_Rules.length - i_4) ∧ (env = [(1, .ptr (enc_S_api_Program p_a0)), (6, .int .i64 (i_4 : Int))]) ∧ (σ = []) ∧ (i_4 ≤ p_a0.f1_Rules.length) ∧ (lf_constraintref15_Check_L1 kk1 fuel p_a0 (p_a0.f1_Rules.drop i_4) i_4 = some res)) _ ⟨0, rfl, rfl, rfl, Nat.zero_le _, hr⟩ ?_
      rintro n _ _ ⟨i_4, rfl, rfl, rfl, hi1, hr⟩ IH1
      rcases listStep p_a0.f1_Rules i_4 hi1 with ⟨ht1, hd1, he1⟩ | ⟨q_5, ht1, hd1, hq1, hlt1⟩
      ·
       rw [hd1, lf_constraintref15_Check_L1] at hr
       refine g_seq ?_
       refine g_seq ?_
       refine g_run (by kernel_rfl) [(0, .d), (1, .d), (2, .d), (3, .d), (4, .d)] rfl ?_
       refine r_d rfl rfl rfl (s_move rfl rfl) ?_
       refine r_d rfl rfl rfl (s_fieldAddr rfl fl_api_Program_1 rfl rfl rfl rfl) ?_
       refine r_d rfl rfl rfl (s_load rfl rfl (by exact ty_L_api_Rule) rfl) ?_
       refine r_d rfl rfl rfl (m_len (f := enc_S_api_Rule) p_a0.f1_Rules rfl el_L_api_Rule rfl (asl rfl)) ?_
       refine r_d rfl rfl rfl (s_cmp rfl rfl rfl rfl) ?_
       refine r_end ?_
       refine g_known 56 false rfl ht1 ?_
       refine g_condF rfl ?_
       refine g_exit rfl ?_
       refine g_sub [] (Sub.nil _) ?_
       exact HK1 _ _ ⟨rfl, rfl, hr⟩
      ·
       rw [hd1, lf_constraintref15_Check_L1] at hr
       refine g_seq ?_
       refine g_seq ?_
       refine g_run (by kernel_rfl) [(0, .d), (1, .d), (2, .d), (3, .d), (4, .d)] rfl ?_
       refine r_d rfl rfl rfl (s_move rfl rfl) ?_
       refine r_d rfl rfl rfl (s_fieldAddr rfl fl_api_Program_1 rfl rfl rfl rfl) ?_
       refine r_d rfl rfl rfl (s_load rfl rfl (by exact ty_L_api_Rule) rfl) ?_
       refine r_d rfl rfl rfl (m_len (f := enc_S_api_Rule) p_a0.f1_Rules rfl el_L_api_Rule rfl (asl rfl)) ?_
       refine r_d rfl rfl rfl (s_cmp rfl rfl rfl rfl) ?_
       refine r_end ?_
       refine g_known 56 true rfl ht1 ?_
       refine g_condT rfl ?_
       refine g_skip ?_
       refine g_seq ?_
       refine g_block ?_
       refine g_seq ?_
       refine g_any (by kernel_rfl) (by kernel_rfl) [(0, .d), (1, .d), (2, .d), (3, .d), (4, .d), (5, .d), (6, .d), (7, .d), (8, .d)] (by kernel_rfl) ?_
       refine r_d rfl rfl rfl (s_fieldAddr rfl fl_api_Program_0 rfl rfl rfl rfl) ?_
       refine r_d rfl rfl rfl (s_load rfl rfl (by exact ty_L_api_Decl) rfl) ?_
       refine r_d rfl rfl rfl (s_fieldAddr rfl fl_api_Program_1 rfl rfl rfl rfl) ?_
       refine r_d rfl rfl rfl (s_load rfl rfl (by exact ty_L_api_Rule) rfl) ?_
       refine r_d rfl rfl rfl (s_move rfl rfl) ?_
       refine r_d rfl rfl rfl (m_index (f := enc_S_api_Rule) p_a0.f1_Rules rfl el_L_api_Rule rfl (asl rfl) rfl hq1 sz_S_api_Rule rfl) ?_
       refine r_d rfl rfl rfl (s_load rfl rfl (by exact ty_api_Rule) (sz_S_api_Rule _)) ?_
       obtain ⟨r_6, hr_6, hr⟩ := bindS hr
       refine r_d rfl rfl rfl (s_callD rfl cl_constraintref15_CheckRule (.cons rfl (Wk.refl _) (.cons rfl (Wk.refl _) .nil)) (lg_constraintref15_CheckRule fuel _ _ _ hr_6)) ?_
       refine r_d rfl rfl rfl (s_assign rfl rfl) ?_
       refine r_end ?_
       refine g_seq ?_
       refine g_run (by kernel_rfl) [(0, .d), (1, .d)] rfl ?_
       refine r_d rfl rfl rfl (s_move rfl rfl) ?_
       refine r_d rfl rfl rfl (s_cmp rfl rfl rfl rfl) ?_
       refine r_end ?_
       refine g_sB 68 rfl hr (fun h68_6 hr => ?_) (fun h68_6 hr => ?_)
       ·
        refine g_condT rfl ?_
        refine g_seq ?_
        refine g_run (by kernel_rfl) [(0, .d), (1, .d), (2, .d), (3, .d)] rfl ?_
        refine r_d rfl rfl rfl (s_move rfl rfl) ?_
        refine r_d rfl rfl rfl (s_move rfl rfl) ?_
        refine r_d rfl rfl rfl (s_assign rfl rfl) ?_
        refine r_d rfl rfl rfl (s_assign rfl rfl) ?_
        refine r_end ?_
        obtain rfl := Option.some.inj hr
        refine g_ret Try.func11 _ (.cons (resTmp rfl (Wk.refl _)) (.cons (resTmp rfl (Wk.refl _)) .nil)) ?_
        rfl
       ·
        refine g_condF rfl ?_
        refine g_skip ?_
        refine g_inBlock ?_
        refine g_run (by kernel_rfl) [(0, .d), (1, .d), (2, .d)] rfl ?_
        refine r_d rfl rfl rfl (s_move rfl rfl) ?_
        refine r_d rfl rfl rfl (s_ar (r := ((i_4 + 1 : Nat) : Int)) rfl rfl rfl (by simp [iar]) (by omega)) ?_
        refine r_d rfl rfl rfl (s_assign rfl rfl) ?_
        refine r_end ?_
        refine g_sub [(1, .ptr (enc_S_api_Program p_a0)), (6, .int .i64 ((i_4 + 1 : Nat) : Int))] (Sub.cons' rfl (Sub.cons' rfl (Sub.nil _))) ?_
        exact IH1 _ _ _ (by omega) ⟨(i_4 + 1), rfl, rfl, rfl, (by omega), hr⟩
   ·
    refine g_sub [(1, .ptr (enc_S_api_Program p_a0)), (4, .int .i64 ((0 : Nat) : Int))] (Sub.cons' rfl (Sub.cons' rfl (Sub.nil _))) ?_
    refine g_loop (fun n env σ => ∃ (i_2 : Nat), (n = p_a0.f0_Decls.length - i_2) ∧ (env = [(1, .ptr (enc_S_api_Program p_a0)), (4, .int .i64 (i_2 : Int))]) ∧ (σ = []) ∧ (i_2 ≤ p_a0.f0_Decls.length) ∧ (lf_constraintref15_Check_L0 kk0 p_a0 (p_a0.f0_Decls.drop i_2) i_2 = some res)) _ ⟨0, rfl, rfl, rfl, Nat.zero_le _, hr⟩ ?_
    rintro n _ _ ⟨i_2, rfl, rfl, rfl, hi0, hr⟩ IH0
    rcases listStep p_a0.f0_Decls i_2 hi0 with ⟨ht0, hd0, he0⟩ | ⟨q_8, ht0, hd0, hq0, hlt0⟩
    ·
     rw [hd0, lf_constraintref15_Check_L0] at hr
     refine g_seq ?_
     refine g_seq ?_
     refine g_run (by kernel_rfl) [(0, .d), (1, .d), (2, .d), (3, .d), (4, .d)] rfl ?_
     refine r_d rfl rfl rfl (s_move rfl rfl) ?_
     refine r_d rfl rfl rfl (s_fieldAddr rfl fl_api_Program_0 rfl rfl rfl rfl) ?_
     refine r_d rfl rfl rfl (s_load rfl rfl (by exact ty_L_api_Decl) rfl) ?_
     refine r_d rfl rfl rfl (m_len (f := enc_S_api_Decl) p_a0.f0_Decls rfl el_L_api_Decl rfl (asl rfl)) ?_
     refine r_d rfl rfl rfl (s_cmp rfl rfl rfl rfl) ?_
     refine r_end ?_
     refine g_known 16 false rfl ht0 ?_
     refine g_condF rfl ?_
     refine g_exit rfl ?_
     refine g_sub [(1, .ptr (enc_S_api_Program p_a0))] (Sub.cons' rfl (Sub.nil _)) ?_
     exact HK0 _ _ ⟨rfl, rfl, hr⟩
    ·
     rw [hd0, lf_constraintref15_Check_L0] at hr
     refine g_seq ?_
     refine g_seq ?_
     refine g_run (by kernel_rfl) [(0, .d), (1, .d), (2, .d), (3, .d), (4, .d)] rfl ?_
     refine r_d rfl rfl rfl (s_move rfl rfl) ?_
     refine r_d rfl rfl rfl (s_fieldAddr rfl fl_api_Program_0 rfl rfl rfl rfl) ?_
     refine r_d rfl rfl rfl (s_load rfl rfl (by exact ty_L_api_Decl) rfl) ?_
     refine r_d rfl rfl rfl (m_len (f := enc_S_api_Decl) p_a0.f0_Decls rfl el_L_api_Decl rfl (asl rfl)) ?_
     refine r_d rfl rfl rfl (s_cmp rfl rfl rfl rfl) ?_
     refine r_end ?_
     refine g_known 16 true rfl ht0 ?_
     refine g_condT rfl ?_
     refine g_skip ?_
     refine g_seq ?_
     refine g_block ?_
     refine g_seq ?_
     refine g_run (by kernel_rfl) [(0, .d), (1, .d), (2, .d), (3, .d), (4, .d), (5, .w), (6, .w)] rfl ?_
     refine r_d rfl rfl rfl (s_fieldAddr rfl fl_api_Program_0 rfl rfl rfl rfl) ?_
     refine r_d rfl rfl rfl (s_load rfl rfl (by exact ty_L_api_Decl) rfl) ?_
     refine r_d rfl rfl rfl (s_move rfl rfl) ?_
     refine r_d rfl rfl rfl (m_index (f := enc_S_api_Decl) p_a0.f0_Decls rfl el_L_api_Decl rfl (asl rfl) rfl hq0 sz_S_api_Decl rfl) ?_
     refine r_d rfl rfl rfl (s_load rfl rfl (by exact ty_api_Decl) (sz_S_api_Decl _)) ?_
     refine r_w rfl rfl rfl (s_alloc rfl zv_api_Decl) ?_
     rintro _ _ ⟨b5_8, rfl, rfl⟩
     refine r_w01 rfl rfl rfl (t_store0 _ rfl rfl rfl (Wk.refl _) (pf0 _) (by exact ty_api_Decl) (sz_S_api_Decl _) rfl rfl) ?_
     refine r_end ?_
     refine g_freeze 5 b5_8 rfl (pf0 _) ?_
     refine g_block ?_
     refine g_seq ?_
     refine g_run (by kernel_rfl) [(0, .d), (1, .d), (2, .d), (3, .d), (4, .d)] rfl ?_
     refine r_d rfl rfl rfl (s_fieldAddr rfl fl_api_Decl_0 rfl rfl rfl rfl) ?_
     refine r_d rfl rfl rfl (s_load rfl rfl (by exact ty_string) rfl) ?_
     obtain ⟨r_10, hr_10, hr⟩ := bindS hr
     refine r_d rfl rfl rfl (s_callD rfl cl_constraintref02_Right (.cons rfl (Wk.refl _) .nil) (lx_constraintref02_Right _ _ hr_10)) ?_
     refine r_d rfl rfl rfl (s_not rfl rfl) ?_
     refine r_d rfl rfl rfl (s_assign rfl rfl) ?_
     refine r_end ?_
     refine g_sB 24 rfl hr (fun h24_10 hr => ?_) (fun h24_10 hr => ?_)
     ·
      refine g_condT rfl ?_
      refine g_seq ?_
      refine g_run (by kernel_rfl) [(0, .d), (1, .d)] rfl ?_
      refine r_d rfl rfl rfl (s_assign rfl rfl) ?_
      refine r_d rfl rfl rfl (s_assign rfl rfl) ?_
      refine r_end ?_
      obtain rfl := Option.some.inj hr
      refine g_ret Try.func11 _ (.cons (resTmp rfl (Wk.refl _)) (.cons (resTmp rfl (Wk.refl _)) .nil)) ?_
      rfl
     ·
      refine g_condF rfl ?_
      refine g_seq ?_
      refine g_run (by kernel_rfl) [(0, .d), (1, .d), (2, .d), (3, .d), (4, .d), (5, .d), (6, .d), (7, .d), (8, .d)] rfl ?_
      refine r_d rfl rfl rfl (s_fieldAddr rfl fl_api_Decl_1 rfl rfl rfl rfl) ?_
      refine r_d rfl rfl rfl (s_load rfl rfl (by exact ty_int) rfl) ?_
      refine r_d rfl rfl rfl (s_cmp rfl rfl rfl rfl) ?_
      refine r_d rfl rfl rfl (s_move rfl rfl) ?_
      refine r_sB 33 rfl hr (fun h33_11 hr => ?_) (fun h33_11 hr => ?_)
      ·
       refine r_skip rfl rfl rfl ?_
       refine r_skip rfl rfl rfl ?_
       refine r_skip rfl rfl rfl ?_
       refine r_d rfl rfl rfl (s_pickT rfl rfl rfl) ?_
       refine r_d rfl rfl rfl (s_assign rfl rfl) ?_
       refine r_end ?_
       refine g_condT rfl ?_
       refine g_seq ?_
       refine g_run (by kernel_rfl) [(0, .d), (1, .d)] rfl ?_
       refine r_d rfl rfl rfl (s_assign rfl rfl) ?_
       refine r_d rfl rfl rfl (s_assign rfl rfl) ?_
       refine r_end ?_
       obtain rfl := Option.some.inj hr
       refine g_ret Try.func11 _ (.cons (resTmp rfl (Wk.refl _)) (.cons (resTmp rfl (Wk.refl _)) .nil)) ?_
       rfl
      ·
       refine r_d rfl rfl rfl (s_fieldAddr rfl fl_api_Decl_1 rfl rfl rfl rfl) ?_
       refine r_d rfl rfl rfl (s_load rfl rfl (by exact ty_int) rfl) ?_
       refine r_d rfl rfl rfl (s_cmp rfl rfl rfl rfl) ?_
       refine r_d rfl rfl rfl (s_pickF rfl rfl rfl) ?_
       refine r_d rfl rfl rfl (s_assign rfl rfl) ?_
       refine r_end ?_
       refine g_sB 29 rfl hr (fun h29_12 hr => ?_) (fun h29_12 hr => ?_)
       ·
        refine g_condT rfl ?_
        refine g_seq ?_
        refine g_run (by kernel_rfl) [(0, .d), (1, .d)] rfl ?_
        refine r_d rfl rfl rfl (s_assign rfl rfl) ?_
        refine r_d rfl rfl rfl (s_assign rfl rfl) ?_
        refine r_end ?_
        obtain rfl := Option.some.inj hr
        refine g_ret Try.func11 _ (.cons (resTmp rfl (Wk.refl _)) (.cons (resTmp rfl (Wk.refl _)) .nil)) ?_
        rfl
       ·
        refine g_condF rfl ?_
        refine g_seq ?_
        refine g_any (by kernel_rfl) (by kernel_rfl) [(0, .d), (1, .d), (2, .d), (3, .d), (4, .d), (5, .d), (6, .d), (7, .d), (8, .d), (9, .d)] (by kernel_rfl) ?_
        refine r_d rfl rfl rfl (s_fieldAddr rfl fl_api_Program_0 rfl rfl rfl rfl) ?_
        refine r_d rfl rfl rfl (s_load rfl rfl (by exact ty_L_api_Decl) rfl) ?_
        refine r_d rfl rfl rfl (s_move rfl rfl) ?_
        obtain ⟨l_14, hl_14, hr⟩ := bindS hr
        refine r_d rfl rfl rfl (m_sub (f := enc_S_api_Decl) p_a0.f0_Decls 0 (i_2 : Int) rfl el_L_api_Decl rfl (asl rfl) bl_none (bh_some rfl) sz_S_api_Decl hl_14) ?_
        refine r_d rfl rfl rfl (s_fieldAddr rfl fl_api_Decl_0 rfl rfl rfl rfl) ?_
        refine r_d rfl rfl rfl (s_load rfl rfl (by exact ty_string) rfl) ?_
        refine r_d rfl rfl rfl (s_fieldAddr rfl fl_api_Decl_1 rfl rfl rfl rfl) ?_
        refine r_d rfl rfl rfl (s_load rfl rfl (by exact ty_int) rfl) ?_
        obtain ⟨r_15, hr_15, hr⟩ := bindS hr
        refine r_d rfl rfl rfl (s_callD rfl cl_constraintref15_Declared (.cons rfl (Wk.refl _) (.cons rfl (Wk.refl _) (.cons rfl (Wk.refl _) .nil))) (lg_constraintref15_Declared _ _ _ _ hr_15)) ?_
        refine r_d rfl rfl rfl (s_assign rfl rfl) ?_
        refine r_end ?_
        refine g_sB 38 rfl hr (fun h38_15 hr => ?_) (fun h38_15 hr => ?_)
        ·
         refine g_condT rfl ?_
         refine g_seq ?_
         refine g_run (by kernel_rfl) [(0, .d), (1, .d)] rfl ?_
         refine r_d rfl rfl rfl (s_assign rfl rfl) ?_
         refine r_d rfl rfl rfl (s_assign rfl rfl) ?_
         refine r_end ?_
         obtain rfl := Option.some.inj hr
         refine g_ret Try.func11 _ (.cons (resTmp rfl (Wk.refl _)) (.cons (resTmp rfl (Wk.refl _)) .nil)) ?_
         rfl
        ·
         refine g_condF rfl ?_
         refine g_skip ?_
         refine g_inBlock ?_
         refine g_inBlock ?_
         refine g_run (by kernel_rfl) [(0, .d), (1, .d), (2, .d)] rfl ?_
         refine r_d rfl rfl rfl (s_move rfl rfl) ?_
         refine r_d rfl rfl rfl (s_ar (r := ((i_2 + 1 : Nat) : Int)) rfl rfl rfl (by simp [iar]) (by omega)) ?_
         refine r_d rfl rfl rfl (s_assign rfl rfl) ?_
         refine r_end ?_
         refine g_sub [(1, .ptr (enc_S_api_Program p_a0)), (4, .int .i64 ((i_2 + 1 : Nat) : Int))] (Sub.cons' rfl (Sub.cons' rfl (Sub.nil _))) ?_
         exact IH0 _ _ _ (by omega) ⟨(i_2 + 1), rfl, rfl, rfl, (by omega), hr⟩

noncomputable def lf_constraintref03_Var (n_a0 : Int) : Option (T) :=
  some ((T.mk 1 n_a0 ⟨#[]⟩ []))

set_option maxHeartbeats 1000000 in
theorem lg_constraintref03_Var (n_a0 : Int) (res : T) (hr : lf_constraintref03_Var n_a0 = some res) : Gives Try.prog 61 [.int .i64 n_a0] (encT res) := by
  unfold lf_constraintref03_Var at hr
  refine spec_env [(0, .int .i64 n_a0)] Try.func61 rfl rfl fun K hK => ?_
  refine g_seq ?_
  refine g_run (by kernel_rfl) [(0, .w)] rfl ?_
  refine r_w rfl rfl rfl (s_alloc rfl zv_api_Term) ?_
  rintro _ _ ⟨b2_0, rfl, rfl⟩
  refine r_end ?_
  refine g_seq ?_
  refine g_run (by kernel_rfl) [(0, .d), (1, .d), (2, .w)] rfl ?_
  refine r_d rfl rfl rfl (s_move rfl rfl) ?_
  refine r_d rfl rfl rfl (s_build rfl bt_api_Term (.cons rfl (Wk.refl _) (.cons rfl (Wk.refl _) .nil)) (.cons rfl rfl rfl (.cons rfl rfl rfl (.nil _)))) ?_
  refine r_w01 rfl rfl rfl (t_store0 _ rfl rfl rfl (Wk.refl _) (pf0 _) (by exact ty_api_Term) rfl rfl rfl) ?_
  refine r_end ?_
  obtain rfl := Option.some.inj hr
  refine g_ret Try.func61 _ (.cons (resRef rfl (.head _) (by exact ty_api_Term) rfl (Wk.refl _)) .nil) ?_
  first | rfl | simp [packD, encT, fsT_eq, T.k, T.i, T.s, T.ar]

noncomputable def lf_constraintlaw15_rule : Option (S_api_Rule) :=
  ((lf_constraintref03_Var 0).bind fun r_2 =>
  ((lf_constraintref03_Var 1).bind fun r_3 =>
  some ((⟨⟨#[]⟩, [], [(⟨⟨#[112]⟩, [r_2]⟩ : At)], [], [(⟨3, ⟨#[]⟩, [r_2, r_3]⟩ : Gl)], 2⟩ : S_api_Rule))))

set_option maxHeartbeats 1000000 in
theorem lg_constraintlaw15_rule (res : S_api_Rule) (hr : lf_constraintlaw15_rule = some res) : Gives Try.prog 29 [] (enc_S_api_Rule res) := by
  unfold lf_constraintlaw15_rule at hr
  refine spec_env [] Try.func29 rfl rfl fun K hK => ?_
  refine g_seq ?_
  refine g_run (by kernel_rfl) [(0, .w)] rfl ?_
  refine r_w rfl rfl rfl (s_alloc rfl zv_api_Rule) ?_
  rintro _ _ ⟨b0_0, rfl, rfl⟩
  refine r_end ?_
  refine g_seq ?_
  refine g_run (by kernel_rfl) [(0, .d), (1, .d), (2, .d), (3, .d), (4, .d), (5, .d), (6, .d), (7, .d), (8, .d), (9, .d), (10, .w)] rfl ?_
  obtain ⟨r_2, hr_2, hr⟩ := bindS hr
  refine r_d rfl rfl rfl (s_callD rfl cl_constraintref03_Var (.cons rfl (Wk.refl _) .nil) (lg_constraintref03_Var _ _ hr_2)) ?_
  refine r_d rfl rfl rfl (m_lit (f := encT) [.tmp 1] [r_2] rfl el_L_api_Term rfl rfl (by decide) (by decide) (.cons rfl (Wk.refl _) .nil) sz_encT (fun _ => rfl)) ?_
  refine r_d rfl rfl rfl (s_build rfl bt_api_Atom (.cons rfl (Wk.refl _) (.cons rfl (Wk.full _) .nil)) (.cons rfl rfl rfl (.cons rfl rfl rfl (.nil _)))) ?_
  refine r_d rfl rfl rfl (m_lit (f := encA) [.tmp 3] [(⟨⟨#[112]⟩, [r_2]⟩ : At)] rfl el_L_api_Atom rfl rfl (by decide) (by decide) (.cons rfl (Wk.refl _) .nil) sz_encA (fun _ => rfl)) ?_
  refine r_d rfl rfl rfl (s_callD rfl cl_constraintref03_Var (.cons rfl (Wk.refl _) .nil) (lg_constraintref03_Var _ _ hr_2)) ?_
  obtain ⟨r_3, hr_3, hr⟩ := bindS hr
  refine r_d rfl rfl rfl (s_callD rfl cl_constraintref03_Var (.cons rfl (Wk.refl _) .nil) (lg_constraintref03_Var _ _ hr_3)) ?_
  refine r_d rfl rfl rfl (m_lit (f := encT) [.tmp 5, .tmp 6] [r_2, r_3] rfl el_L_api_Term rfl rfl (by decide) (by decide) (.cons rfl (Wk.refl _) (.cons rfl (Wk.refl _) .nil)) sz_encT (fun _ => rfl)) ?_
  refine r_d rfl rfl rfl (s_build rfl bt_api_Goal (.cons rfl (Wk.refl _) (.cons rfl (Wk.full _) .nil)) (.cons rfl rfl rfl (.cons rfl rfl rfl (.nil _)))) ?_
  refine r_d rfl rfl rfl (m_lit (f := encG) [.tmp 8] [(⟨3, ⟨#[]⟩, [r_2, r_3]⟩ : Gl)] rfl el_L_api_Goal rfl rfl (by decide) (by decide) (.cons rfl (Wk.refl _) .nil) sz_encG (fun _ => rfl)) ?_
  refine r_d rfl rfl rfl (s_build rfl bt_api_Rule (.cons rfl (Wk.full _) (.cons rfl (Wk.full _) (.cons rfl (Wk.refl _) .nil))) (.cons rfl rfl rfl (.cons rfl rfl rfl (.cons rfl rfl rfl (.nil _))))) ?_
  refine r_w01 rfl rfl rfl (t_store0 _ rfl rfl rfl (Wk.refl _) (pf0 _) (by exact ty_api_Rule) rfl rfl rfl) ?_
  refine r_end ?_
  obtain rfl := Option.some.inj hr
  refine g_ret Try.func29 _ (.cons (resRef rfl (.head _) (by exact ty_api_Rule) rfl (Wk.refl _)) .nil) ?_
  rfl

noncomputable def lf_scope_Locals_L1 (k : ((List Int)) → Option ((List Int))) : List Int → (List Int) → (List (Int × Unit)) → Option ((List Int))
  | [], out_12, mm_14 =>
  (k out_12)
  | q_17 :: rest, out_12, mm_14 =>
  (bif (!((mget mm_14 q_17).isSome)) then
  ((mputO mm_14 q_17 ()).bind fun mm_20 =>
  ((appO 8 out_12 [q_17]).bind fun l_21 =>
  (lf_scope_Locals_L1 k rest l_21 mm_20)))
  else
  (lf_scope_Locals_L1 k rest out_12 mm_14))

noncomputable def lf_scope_Locals_L0 (k : ((List (Int × Unit))) → Option ((List Int))) : List Int → (List (Int × Unit)) → Option ((List Int))
  | [], mm_7 =>
  (k mm_7)
  | q_23 :: rest, mm_7 =>
  ((mputO mm_7 q_23 ()).bind fun mm_24 =>
  (lf_scope_Locals_L0 k rest mm_24))
noncomputable def lf_scope_Locals (r_a0 : S_api_Rule) : Option ((List Int)) :=
  ((lf_scope_atomVars [r_a0.f1_Keep, r_a0.f2_Remove]).bind fun r_4 =>
  (lf_scope_Locals_L0 (fun mm_9 =>
  ((lf_scope_goalVars [r_a0.f3_Guard, r_a0.f4_Body]).bind fun r_10 =>
  (lf_scope_Locals_L1 (fun out_16 =>
  some (out_16)) r_10 [] mm_9))) r_4 []))

set_option maxHeartbeats 1000000 in
theorem lg_scope_Locals (r_a0 : S_api_Rule) (res : (List Int)) (hr : lf_scope_Locals r_a0 = some res) : Gives Try.prog 21 [enc_S_api_Rule r_a0] (.lst (res.map (D.int .i64))) := by
  unfold lf_scope_Locals at hr
  refine spec_env [(0, enc_S_api_Rule r_a0)] Try.func21 rfl rfl fun K hK => ?_
  refine g_seq ?_
  refine g_run (by kernel_rfl) [(0, .d), (1, .w)] rfl ?_
  refine r_d rfl rfl rfl (s_box rfl rfl rfl) ?_
  refine r_w rfl rfl rfl (s_nilOwn 3 1 (.inl rfl)) ?_
  rintro _ _ ⟨u2_0, rfl, rfl⟩
  refine r_end ?_
  refine g_seq ?_
  refine g_run (by kernel_rfl) [(0, .w)] rfl ?_
  refine r_w rfl rfl rfl (s_nilOwn 3 1 (.inl rfl)) ?_
  rintro _ _ ⟨u3_1, rfl, rfl⟩
  refine r_end ?_
  refine g_seq ?_
  refine g_run (by kernel_rfl) [(0, .w), (1, .d)] rfl ?_
  refine r_w rfl rfl rfl (m_makeMap (α := Int) (β := Unit) (key := (D.int .i64)) (g := encU) rfl) ?_
  rintro _ _ ⟨m11_2, rfl, rfl⟩
  refine r_d rfl rfl rfl (s_assign rfl rfl) ?_
  refine r_end ?_
  refine g_seq ?_
  refine g_seq ?_
  refine g_run (by kernel_rfl) [(0, .d), (1, .d), (2, .d), (3, .d), (4, .d), (5, .d), (6, .d), (7, .d)] rfl ?_
  refine r_d rfl rfl rfl (s_fieldAddr rfl fl_api_Rule_1 rfl rfl rfl rfl) ?_
  refine r_d rfl rfl rfl (s_load rfl rfl (by exact ty_L_api_Atom) rfl) ?_
  refine r_d rfl rfl rfl (s_fieldAddr rfl fl_api_Rule_2 rfl rfl rfl rfl) ?_
  refine r_d rfl rfl rfl (s_load rfl rfl (by exact ty_L_api_Atom) rfl) ?_
  refine r_d rfl rfl rfl (m_lit (f := (fun l => D.lst (l.map encA))) [.tmp 13, .tmp 15] [r_a0.f1_Keep, r_a0.f2_Remove] rfl el_L_L_api_Atom rfl rfl (by decide) (by decide) (.cons rfl (Wk.refl _) (.cons rfl (Wk.refl _) .nil)) (fun _ => rfl) (fun _ => rfl)) ?_
  obtain ⟨r_4, hr_4, hr⟩ := bindS hr
  refine r_d rfl rfl rfl (by exact s_callD rfl cl_scope_atomVars (.cons rfl (Wk.full _) .nil) (lg_scope_atomVars _ _ hr_4)) ?_
  refine r_d rfl rfl rfl (m_len (f := (D.int .i64)) r_4 rfl el_L_int rfl (asl rfl)) ?_
  refine r_d rfl rfl rfl (s_move rfl rfl) ?_
  refine r_end ?_
  obtain ⟨kk0, hkk0, hr⟩ := exK (fun k => lf_scope_Locals_L0 k r_4 []) hr
  refine g_len 17 rfl (asl rfl) fun hla0 => ?_
  simp only [List.length_map] at hla0
  refine g_blockJ (fun env σ => ∃ (mm_9 : (List (Int × Unit))) (u_8 : Value), env = [(1, .ptr (enc_S_api_Rule r_a0)), (3, .own u_8 ([].map (D.int .i64))), (4, .map m11_2)] ∧ σ = [.row u_8 ([] : (List Int)).length 3 1, .map m11_2 (mapM' (D.int .i64) encU mm_9)] ∧ kk0 mm_9 = some res) ?_ (fun HK0 => ?_)
  ·
   rintro _ _ ⟨mm_9, u_8, rfl, rfl, hr⟩
   rw [hkk0] at hr
   refine g_seq ?_
   refine g_seq ?_
   refine g_run (by kernel_rfl) [(0, .d), (1, .d), (2, .d), (3, .d), (4, .d), (5, .d), (6, .d), (7, .d)] rfl ?_
   refine r_d rfl rfl rfl (s_fieldAddr rfl fl_api_Rule_3 rfl rfl rfl rfl) ?_
   refine r_d rfl rfl rfl (s_load rfl rfl (by exact ty_L_api_Goal) rfl) ?_
   refine r_d rfl rfl rfl (s_fieldAddr rfl fl_api_Rule_4 rfl rfl rfl rfl) ?_
   refine r_d rfl rfl rfl (s_load rfl rfl (by exact ty_L_api_Goal) rfl) ?_
   refine r_d rfl rfl rfl (m_lit (f := (fun l => D.lst (l.map encG))) [.tmp 28, .tmp 30] [r_a0.f3_Guard, r_a0.f4_Body] rfl el_L_L_api_Goal rfl rfl (by decide) (by decide) (.cons rfl (Wk.refl _) (.cons rfl (Wk.refl _) .nil)) (fun _ => rfl) (fun _ => rfl)) ?_
   obtain ⟨r_10, hr_10, hr⟩ := bindS hr
   refine r_d rfl rfl rfl (by exact s_callD rfl cl_scope_goalVars (.cons rfl (Wk.full _) .nil) (lg_scope_goalVars _ _ hr_10)) ?_
   refine r_d rfl rfl rfl (m_len (f := (D.int .i64)) r_10 rfl el_L_int rfl (asl rfl)) ?_
   refine r_d rfl rfl rfl (s_move rfl rfl) ?_
   refine r_end ?_
   obtain ⟨kk1, hkk1, hr⟩ := exK (fun k => lf_scope_Locals_L1 k r_10 [] mm_9) hr
   refine g_len 32 rfl (asl rfl) fun hla1 => ?_
   simp only [List.length_map] at hla1
   refine g_blockJ (fun env σ => ∃ (out_16 : (List Int)) (u_15 : Value), env = [(3, .own u_15 (out_16.map (D.int .i64)))] ∧ σ = [.row u_15 out_16.length 3 1] ∧ kk1 out_16 = some res) ?_ (fun HK1 => ?_)
   ·
    rintro _ _ ⟨out_16, u_15, rfl, rfl, hr⟩
    rw [hkk1] at hr
    refine g_seq ?_
    refine g_run (by kernel_rfl) [(0, .d), (1, .d)] rfl ?_
    refine r_d rfl rfl rfl (s_move rfl rfl) ?_
    refine r_d rfl rfl rfl (s_assign rfl rfl) ?_
    refine r_end ?_
    obtain rfl := Option.some.inj hr
    refine g_ret Try.func21 _ (.cons (resTmp rfl (Wk.own _ _)) .nil) ?_
    rfl
   ·
    refine g_sub [(4, .map m11_2), (32, .lst (r_10.map (D.int .i64))), (33, .int .i64 (r_10.length : Int)), (3, .own u_8 ([].map (D.int .i64))), (34, .int .i64 ((0 : Nat) : Int))] (Sub.cons' rfl (Sub.cons' rfl (Sub.cons' rfl (Sub.cons' rfl (Sub.cons' rfl (Sub.nil _)))))) ?_
    refine g_perm [_, _] _ ((pf0 _).trans (pf1 _ _ _)) ?_
    refine g_loop (fun n env σ => ∃ (out_12 : (List Int)) (i_13 : Nat) (mm_14 : (List (Int × Unit))) (u_11 : Value), (n = r_10.length - i_13) ∧ (env = [(4, .map m11_2), (32, .lst (r_10.map (D.int .i64))), (33, .int .i64 (r_10.length : Int)), (3, .own u_11 (out_12.map (D.int .i64))), (34, .int .i64 (i_13 : Int))]) ∧ (σ = [.map m11_2 (mapM' (D.int .i64) encU mm_14), .row u_11 out_12.length 3 1]) ∧ (i_13 ≤ r_10.length) ∧ (lf_scope_Locals_L1 kk1 (r_10.drop i_13) out_12 mm_14 = some res)) _ ⟨[], 0, mm_9, u_8, rfl, rfl, rfl, Nat.zero_le _, hr⟩ ?_
    rintro n _ _ ⟨out_12, i_13, mm_14, u_11, rfl, rfl, rfl, hi1, hr⟩ IH1
    rcases listStep r_10 i_13 hi1 with ⟨ht1, hd1, he1⟩ | ⟨q_17, ht1, hd1, hq1, hlt1⟩
    ·
     rw [hd1, lf_scope_Locals_L1] at hr
     refine g_seq ?_
     refine g_run (by kernel_rfl) [(0, .d)] rfl ?_
     refine r_d rfl rfl rfl (s_cmp rfl rfl rfl rfl) ?_
     refine r_end ?_
     refine g_seq ?_
     refine g_known 35 false rfl ht1 ?_
     refine g_condF rfl ?_
     refine g_exit rfl ?_
     refine g_sub [(3, .own u_11 (out_12.map (D.int .i64)))] (Sub.cons' rfl (Sub.nil _)) ?_
     refine g_perm [_] _ (pf1 _ _ _) ?_
     exact HK1 _ _ ⟨out_12, u_11, rfl, rfl, hr⟩
    ·
     rw [hd1, lf_scope_Locals_L1] at hr
     refine g_seq ?_
     refine g_run (by kernel_rfl) [(0, .d)] rfl ?_
     refine r_d rfl rfl rfl (s_cmp rfl rfl rfl rfl) ?_
     refine r_end ?_
     refine g_seq ?_
     refine g_known 35 true rfl ht1 ?_
     refine g_condT rfl ?_
     refine g_skip ?_
     refine g_seq ?_
     refine g_block ?_
     refine g_seq ?_
     refine g_run (by kernel_rfl) [(0, .d), (1, .d), (2, .d)] rfl ?_
     refine r_d rfl rfl rfl (m_index (f := (D.int .i64)) r_10 rfl el_L_int rfl (asl rfl) rfl hq1 (fun _ => rfl) rfl) ?_
     refine r_d rfl rfl rfl (s_load rfl rfl (by exact ty_int) rfl) ?_
     refine r_d rfl rfl rfl (s_assign rfl rfl) ?_
     refine r_end ?_
     refine g_seq ?_
     refine g_run (by kernel_rfl) [(0, .d), (1, .d), (2, .r), (3, .d), (4, .d), (5, .d), (6, .w), (7, .w), (8, .d)] rfl ?_
     refine r_d rfl rfl rfl (s_move rfl rfl) ?_
     refine r_d rfl rfl rfl (s_move rfl rfl) ?_
     refine r_r rfl rfl rfl (m_lookup2 (key := (D.int .i64)) (g := encU) mm_14 q_17 () rfl Try.underlying77 (keyInt Try.underlying3) zm_Unit rfl rfl (.head _)) ?_
     refine r_d rfl rfl rfl (s_move rfl rfl) ?_
     refine r_d rfl rfl rfl (s_extract rfl rfl rfl) ?_
     refine r_d rfl rfl rfl (s_extract rfl rfl rfl) ?_
     refine r_w rfl rfl rfl (s_alloc rfl zv_Unit) ?_
     rintro _ _ ⟨b9_17, rfl, rfl⟩
     refine r_w01 rfl rfl rfl (t_store0 _ rfl rfl rfl (Wk.refl _) (pf0 _) (by exact ty_Unit) (sz_encU _) rfl rfl) ?_
     refine r_d rfl rfl rfl (s_assign rfl rfl) ?_
     refine r_end ?_
     refine g_freeze 9 b9_17 rfl (pf0 _) ?_
     refine g_seq ?_
     refine g_run (by kernel_rfl) [(0, .d), (1, .d)] rfl ?_
     refine r_d rfl rfl rfl (s_move rfl rfl) ?_
     refine r_d rfl rfl rfl (s_not rfl rfl) ?_
     refine r_end ?_
     refine g_sB 45 rfl hr (fun h45_18 hr => ?_) (fun h45_18 hr => ?_)
     ·
      refine g_condT rfl ?_
      refine g_seq ?_
      refine g_run (by kernel_rfl) [(0, .d), (1, .d), (2, .d), (3, .w)] rfl ?_
      refine r_d rfl rfl rfl (s_move rfl rfl) ?_
      refine r_d rfl rfl rfl (s_move rfl rfl) ?_
      refine r_d rfl rfl rfl (s_build rfl bt_Unit .nil (.nil _)) ?_
      obtain ⟨mm_20, hmm_20, hr⟩ := bindS hr
      refine r_w01 rfl rfl rfl (m_mapUpdate (key := (D.int .i64)) (g := encU) mm_14 q_17 () rfl Try.underlying77 (keyInt Try.underlying3) rfl rfl rfl (Wk.refl _) (pf0 _) hmm_20) ?_
      refine r_end ?_
      refine g_run (by kernel_rfl) [(0, .d), (1, .d), (2, .d), (3, .w), (4, .d)] rfl ?_
      refine r_d rfl rfl rfl (s_move rfl rfl) ?_
      refine r_d rfl rfl rfl (s_move rfl rfl) ?_
      refine r_d rfl rfl rfl (m_lit (f := (D.int .i64)) [.tmp 50] [q_17] rfl el_L_int rfl rfl (by decide) (by decide) (.cons rfl (Wk.refl _) .nil) (fun _ => rfl) (fun _ => rfl)) ?_
      obtain ⟨l_21, hl_21, hr⟩ := bindS hr
      refine r_w rfl rfl rfl (m_appOwn (f := (D.int .i64)) out_12 [q_17] rfl el_L_int rfl rfl (asl rfl) (pf1 _ _ _) rfl (fun _ => rfl) hl_21) ?_
      rintro _ _ ⟨u52_21, rfl, rfl⟩
      refine r_d rfl rfl rfl (s_assign rfl rfl) ?_
      refine r_end ?_
      refine g_inBlock ?_
      refine g_run (by kernel_rfl) [(0, .d), (1, .d)] rfl ?_
      refine r_d rfl rfl rfl (s_ar (r := ((i_13 + 1 : Nat) : Int)) rfl rfl rfl (by simp [iar]) (by omega)) ?_
      refine r_d rfl rfl rfl (s_move rfl rfl) ?_
      refine r_end ?_
      refine g_sub [(4, .map m11_2), (32, .lst (r_10.map (D.int .i64))), (33, .int .i64 (r_10.length : Int)), (3, .own u52_21 (l_21.map (D.int .i64))), (34, .int .i64 ((i_13 + 1 : Nat) : Int))] (Sub.cons' rfl (Sub.cons' rfl (Sub.cons' rfl (Sub.cons' rfl (Sub.cons' rfl (Sub.nil _)))))) ?_
      refine g_perm [_, _] _ ((pf0 _).trans (pf1 _ _ _)) ?_
      exact IH1 _ _ _ (by omega) ⟨l_21, (i_13 + 1), mm_20, u52_21, rfl, rfl, rfl, (by omega), hr⟩
     ·
      refine g_condF rfl ?_
      refine g_skip ?_
      refine g_inBlock ?_
      refine g_run (by kernel_rfl) [(0, .d), (1, .d)] rfl ?_
      refine r_d rfl rfl rfl (s_ar (r := ((i_13 + 1 : Nat) : Int)) rfl rfl rfl (by simp [iar]) (by omega)) ?_
      refine r_d rfl rfl rfl (s_move rfl rfl) ?_
      refine r_end ?_
      refine g_sub [(4, .map m11_2), (32, .lst (r_10.map (D.int .i64))), (33, .int .i64 (r_10.length : Int)), (3, .own u_11 (out_12.map (D.int .i64))), (34, .int .i64 ((i_13 + 1 : Nat) : Int))] (Sub.cons' rfl (Sub.cons' rfl (Sub.cons' rfl (Sub.cons' rfl (Sub.cons' rfl (Sub.nil _)))))) ?_
      exact IH1 _ _ _ (by omega) ⟨out_12, (i_13 + 1), mm_14, u_11, rfl, rfl, rfl, (by omega), hr⟩
  ·
   refine g_sub [(1, .ptr (enc_S_api_Rule r_a0)), (3, .own u3_1 ([].map (D.int .i64))), (4, .map m11_2), (17, .lst (r_4.map (D.int .i64))), (18, .int .i64 (r_4.length : Int)), (19, .int .i64 ((0 : Nat) : Int))] (Sub.cons' rfl (Sub.cons' rfl (Sub.cons' rfl (Sub.cons' rfl (Sub.cons' rfl (Sub.cons' rfl (Sub.nil _))))))) ?_
   refine g_perm [_, _] _ ((pf0 _).trans (pf1 _ _ _)) ?_
   refine g_loop (fun n env σ => ∃ (i_6 : Nat) (mm_7 : (List (Int × Unit))) (u_5 : Value), (n = r_4.length - i_6) ∧ (env = [(1, .ptr (enc_S_api_Rule r_a0)), (3, .own u_5 ([].map (D.int .i64))), (4, .map m11_2), (17, .lst (r_4.map (D.int .i64))), (18, .int .i64 (r_4.length : Int)), (19, .int .i64 (i_6 : Int))]) ∧ (σ = [.row u_5 ([] : (List Int)).length 3 1, .map m11_2 (mapM' (D.int .i64) encU mm_7)]) ∧ (i_6 ≤ r_4.length) ∧ (lf_scope_Locals_L0 kk0 (r_4.drop i_6) mm_7 = some res)) _ ⟨0, [], u3_1, rfl, rfl, rfl, Nat.zero_le _, hr⟩ ?_
   rintro n _ _ ⟨i_6, mm_7, u_5, rfl, rfl, rfl, hi0, hr⟩ IH0
   rcases listStep r_4 i_6 hi0 with ⟨ht0, hd0, he0⟩ | ⟨q_23, ht0, hd0, hq0, hlt0⟩
   ·
    rw [hd0, lf_scope_Locals_L0] at hr
    refine g_seq ?_
    refine g_run (by kernel_rfl) [(0, .d)] rfl ?_
    refine r_d rfl rfl rfl (s_cmp rfl rfl rfl rfl) ?_
    refine r_end ?_
    refine g_seq ?_
    refine g_known 20 false rfl ht0 ?_
    refine g_condF rfl ?_
    refine g_exit rfl ?_
    refine g_sub [(1, .ptr (enc_S_api_Rule r_a0)), (3, .own u_5 ([].map (D.int .i64))), (4, .map m11_2)] (Sub.cons' rfl (Sub.cons' rfl (Sub.cons' rfl (Sub.nil _)))) ?_
    exact HK0 _ _ ⟨mm_7, u_5, rfl, rfl, hr⟩
   ·
    rw [hd0, lf_scope_Locals_L0] at hr
    refine g_seq ?_
    refine g_run (by kernel_rfl) [(0, .d)] rfl ?_
    refine r_d rfl rfl rfl (s_cmp rfl rfl rfl rfl) ?_
    refine r_end ?_
    refine g_seq ?_
    refine g_known 20 true rfl ht0 ?_
    refine g_condT rfl ?_
    refine g_skip ?_
    refine g_seq ?_
    refine g_block ?_
    refine g_seq ?_
    refine g_run (by kernel_rfl) [(0, .d), (1, .d), (2, .d)] rfl ?_
    refine r_d rfl rfl rfl (m_index (f := (D.int .i64)) r_4 rfl el_L_int rfl (asl rfl) rfl hq0 (fun _ => rfl) rfl) ?_
    refine r_d rfl rfl rfl (s_load rfl rfl (by exact ty_int) rfl) ?_
    refine r_d rfl rfl rfl (s_assign rfl rfl) ?_
    refine r_end ?_
    refine g_run (by kernel_rfl) [(0, .d), (1, .d), (2, .d), (3, .w)] rfl ?_
    refine r_d rfl rfl rfl (s_move rfl rfl) ?_
    refine r_d rfl rfl rfl (s_move rfl rfl) ?_
    refine r_d rfl rfl rfl (s_build rfl bt_Unit .nil (.nil _)) ?_
    obtain ⟨mm_24, hmm_24, hr⟩ := bindS hr
    refine r_w01 rfl rfl rfl (m_mapUpdate (key := (D.int .i64)) (g := encU) mm_7 q_23 () rfl Try.underlying77 (keyInt Try.underlying3) rfl rfl rfl (Wk.refl _) (pf1 _ _ _) hmm_24) ?_
    refine r_end ?_
    refine g_inBlock ?_
    refine g_run (by kernel_rfl) [(0, .d), (1, .d)] rfl ?_
    refine r_d rfl rfl rfl (s_ar (r := ((i_6 + 1 : Nat) : Int)) rfl rfl rfl (by simp [iar]) (by omega)) ?_
    refine r_d rfl rfl rfl (s_move rfl rfl) ?_
    refine r_end ?_
    refine g_sub [(1, .ptr (enc_S_api_Rule r_a0)), (3, .own u_5 ([].map (D.int .i64))), (4, .map m11_2), (17, .lst (r_4.map (D.int .i64))), (18, .int .i64 (r_4.length : Int)), (19, .int .i64 ((i_6 + 1 : Nat) : Int))] (Sub.cons' rfl (Sub.cons' rfl (Sub.cons' rfl (Sub.cons' rfl (Sub.cons' rfl (Sub.cons' rfl (Sub.nil _))))))) ?_
    refine g_perm [_, _] _ ((pf0 _).trans (pf1 _ _ _)) ?_
    exact IH0 _ _ _ (by omega) ⟨(i_6 + 1), mm_24, u_5, rfl, rfl, rfl, (by omega), hr⟩

noncomputable def lf_constraintref03_SameInts_L0 (k : Option (Bool)) (b_a1 : (List Int)) : List Int → Nat → Option (Bool)
  | [], i_2 =>
  k
  | q_3 :: rest, i_2 =>
  (bif (decide ((i_2 : Int) < (b_a1.length : Int))) then
  ((getI b_a1 (i_2 : Int)).bind fun q_5 =>
  (bif (q_3 != q_5) then
  some (false)
  else
  (lf_constraintref03_SameInts_L0 k b_a1 rest (i_2 + 1))))
  else
  k)
noncomputable def lf_constraintref03_SameInts (a_a0 : (List Int)) (b_a1 : (List Int)) : Option (Bool) :=
  (bif ((a_a0.length : Int) != (b_a1.length : Int)) then
  some (false)
  else
  (lf_constraintref03_SameInts_L0 (some (true)) b_a1 a_a0 0))

set_option maxHeartbeats 1000000 in
theorem lg_constraintref03_SameInts (a_a0 : (List Int)) (b_a1 : (List Int)) (res : Bool) (hr : lf_constraintref03_SameInts a_a0 b_a1 = some res) : Gives Try.prog 20 [.lst (a_a0.map (D.int .i64)), .lst (b_a1.map (D.int .i64))] (.bool res) := by
  unfold lf_constraintref03_SameInts at hr
  refine spec_env [(0, .lst (a_a0.map (D.int .i64))), (1, .lst (b_a1.map (D.int .i64)))] Try.func20 rfl rfl fun K hK => ?_
  refine g_seq ?_
  refine g_run (by kernel_rfl) [(0, .d)] rfl ?_
  refine r_d rfl rfl rfl (s_assign rfl rfl) ?_
  refine r_end ?_
  refine g_seq ?_
  refine g_seq ?_
  refine g_run (by kernel_rfl) [(0, .d), (1, .d), (2, .d), (3, .d), (4, .d)] rfl ?_
  refine r_d rfl rfl rfl (s_move rfl rfl) ?_
  refine r_d rfl rfl rfl (m_len (f := (D.int .i64)) a_a0 rfl el_L_int rfl (asl rfl)) ?_
  refine r_d rfl rfl rfl (s_move rfl rfl) ?_
  refine r_d rfl rfl rfl (m_len (f := (D.int .i64)) b_a1 rfl el_L_int rfl (asl rfl)) ?_
  refine r_d rfl rfl rfl (s_cmp rfl rfl rfl rfl) ?_
  refine r_end ?_
  refine g_sB 10 rfl hr (fun h10_0 hr => ?_) (fun h10_0 hr => ?_)
  ·
   refine g_condT rfl ?_
   refine g_seq ?_
   refine g_run (by kernel_rfl) [(0, .d)] rfl ?_
   refine r_d rfl rfl rfl (s_assign rfl rfl) ?_
   refine r_end ?_
   obtain rfl := Option.some.inj hr
   refine g_ret Try.func20 _ (.cons (resTmp rfl (Wk.refl _)) .nil) ?_
   rfl
  ·
   refine g_condF rfl ?_
   refine g_skip ?_
   refine g_seq ?_
   refine g_seq ?_
   refine g_run (by kernel_rfl) [(0, .d)] rfl ?_
   refine r_d rfl rfl rfl (s_assign rfl rfl) ?_
   refine r_end ?_
   obtain ⟨kk0, hkk0, hr⟩ := exK (fun k => lf_constraintref03_SameInts_L0 k b_a1 a_a0 0) hr
   refine g_len 0 rfl (asl rfl) fun hla0 => ?_
   simp only [List.length_map] at hla0
   refine g_blockJ (fun env σ => env = [] ∧ σ = [] ∧ kk0 = some res) ?_ (fun HK0 => ?_)
   ·
    rintro _ _ ⟨rfl, rfl, hr⟩
    rw [hkk0] at hr
    refine g_seq ?_
    refine g_run (by kernel_rfl) [(0, .d)] rfl ?_
    refine r_d rfl rfl rfl (s_assign rfl rfl) ?_
    refine r_end ?_
    obtain rfl := Option.some.inj hr
    refine g_ret Try.func20 _ (.cons (resTmp rfl (Wk.refl _)) .nil) ?_
    rfl
   ·
    refine g_sub [(0, .lst (a_a0.map (D.int .i64))), (1, .lst (b_a1.map (D.int .i64))), (5, .int .i64 ((0 : Nat) : Int))] (Sub.cons' rfl (Sub.cons' rfl (Sub.cons' rfl (Sub.nil _)))) ?_
    refine g_loop (fun n env σ => ∃ (i_2 : Nat), (n = a_a0.length - i_2) ∧ (env = [(0, .lst (a_a0.map (D.int .i64))), (1, .lst (b_a1.map (D.int .i64))), (5, .int .i64 (i_2 : Int))]) ∧ (σ = []) ∧ (i_2 ≤ a_a0.length) ∧ (lf_constraintref03_SameInts_L0 kk0 b_a1 (a_a0.drop i_2) i_2 = some res)) _ ⟨0, rfl, rfl, rfl, Nat.zero_le _, hr⟩ ?_
    rintro n _ _ ⟨i_2, rfl, rfl, rfl, hi0, hr⟩ IH0
    rcases listStep a_a0 i_2 hi0 with ⟨ht0, hd0, he0⟩ | ⟨q_3, ht0, hd0, hq0, hlt0⟩
    ·
     rw [hd0, lf_constraintref03_SameInts_L0] at hr
     refine g_seq ?_
     refine g_seq ?_
     refine g_run (by kernel_rfl) [(0, .d), (1, .d), (2, .d), (3, .d), (4, .d), (5, .d), (6, .d), (7, .d), (8, .d), (9, .d)] rfl ?_
     refine r_d rfl rfl rfl (s_move rfl rfl) ?_
     refine r_d rfl rfl rfl (s_move rfl rfl) ?_
     refine r_d rfl rfl rfl (m_len (f := (D.int .i64)) a_a0 rfl el_L_int rfl (asl rfl)) ?_
     refine r_d rfl rfl rfl (s_cmp rfl rfl rfl rfl) ?_
     refine r_d rfl rfl rfl (s_move rfl rfl) ?_
     refine r_known 15 false rfl ht0 ?_
     refine r_skip rfl rfl rfl ?_
     refine r_skip rfl rfl rfl ?_
     refine r_skip rfl rfl rfl ?_
     refine r_skip rfl rfl rfl ?_
     refine r_d rfl rfl rfl (s_pickF rfl rfl rfl) ?_
     refine r_end ?_
     refine g_condF rfl ?_
     refine g_exit rfl ?_
     refine g_sub [] (Sub.nil _) ?_
     exact HK0 _ _ ⟨rfl, rfl, hr⟩
    ·
     rw [hd0, lf_constraintref03_SameInts_L0] at hr
     refine g_seq ?_
     refine g_seq ?_
     refine g_run (by kernel_rfl) [(0, .d), (1, .d), (2, .d), (3, .d), (4, .d), (5, .d), (6, .d), (7, .d), (8, .d), (9, .d)] rfl ?_
     refine r_d rfl rfl rfl (s_move rfl rfl) ?_
     refine r_d rfl rfl rfl (s_move rfl rfl) ?_
     refine r_d rfl rfl rfl (m_len (f := (D.int .i64)) a_a0 rfl el_L_int rfl (asl rfl)) ?_
     refine r_d rfl rfl rfl (s_cmp rfl rfl rfl rfl) ?_
     refine r_d rfl rfl rfl (s_move rfl rfl) ?_
     refine r_known 15 true rfl ht0 ?_
     refine r_d rfl rfl rfl (s_move rfl rfl) ?_
     refine r_d rfl rfl rfl (s_move rfl rfl) ?_
     refine r_d rfl rfl rfl (m_len (f := (D.int .i64)) b_a1 rfl el_L_int rfl (asl rfl)) ?_
     refine r_d rfl rfl rfl (s_cmp rfl rfl rfl rfl) ?_
     refine r_d rfl rfl rfl (s_pickT rfl rfl rfl) ?_
     refine r_end ?_
     refine g_sB 20 rfl hr (fun h20_3 hr => ?_) (fun h20_3 hr => ?_)
     ·
      refine g_condT rfl ?_
      refine g_skip ?_
      refine g_seq ?_
      refine g_block ?_
      refine g_seq ?_
      refine g_any (by kernel_rfl) (by kernel_rfl) [(0, .d), (1, .d), (2, .d), (3, .d), (4, .d), (5, .d), (6, .d), (7, .d), (8, .d)] (by kernel_rfl) ?_
      refine r_d rfl rfl rfl (s_move rfl rfl) ?_
      refine r_d rfl rfl rfl (s_move rfl rfl) ?_
      refine r_d rfl rfl rfl (m_index (f := (D.int .i64)) a_a0 rfl el_L_int rfl (asl rfl) rfl hq0 (fun _ => rfl) rfl) ?_
      refine r_d rfl rfl rfl (s_load rfl rfl (by exact ty_int) rfl) ?_
      refine r_d rfl rfl rfl (s_move rfl rfl) ?_
      refine r_d rfl rfl rfl (s_move rfl rfl) ?_
      obtain ⟨q_5, hq_5, hr⟩ := bindS hr
      refine r_d rfl rfl rfl (m_index (f := (D.int .i64)) b_a1 rfl el_L_int rfl (asl rfl) rfl hq_5 (fun _ => rfl) rfl) ?_
      refine r_d rfl rfl rfl (s_load rfl rfl (by exact ty_int) rfl) ?_
      refine r_d rfl rfl rfl (s_cmp rfl rfl rfl rfl) ?_
      refine r_end ?_
      refine g_sB 31 rfl hr (fun h31_5 hr => ?_) (fun h31_5 hr => ?_)
      ·
       refine g_condT rfl ?_
       refine g_seq ?_
       refine g_run (by kernel_rfl) [(0, .d)] rfl ?_
       refine r_d rfl rfl rfl (s_assign rfl rfl) ?_
       refine r_end ?_
       obtain rfl := Option.some.inj hr
       refine g_ret Try.func20 _ (.cons (resTmp rfl (Wk.refl _)) .nil) ?_
       rfl
      ·
       refine g_condF rfl ?_
       refine g_skip ?_
       refine g_inBlock ?_
       refine g_run (by kernel_rfl) [(0, .d), (1, .d), (2, .d)] rfl ?_
       refine r_d rfl rfl rfl (s_move rfl rfl) ?_
       refine r_d rfl rfl rfl (s_ar (r := ((i_2 + 1 : Nat) : Int)) rfl rfl rfl (by simp [iar]) (by omega)) ?_
       refine r_d rfl rfl rfl (s_assign rfl rfl) ?_
       refine r_end ?_
       refine g_sub [(0, .lst (a_a0.map (D.int .i64))), (1, .lst (b_a1.map (D.int .i64))), (5, .int .i64 ((i_2 + 1 : Nat) : Int))] (Sub.cons' rfl (Sub.cons' rfl (Sub.cons' rfl (Sub.nil _)))) ?_
       exact IH0 _ _ _ (by omega) ⟨(i_2 + 1), rfl, rfl, rfl, (by omega), hr⟩
     ·
      refine g_condF rfl ?_
      refine g_exit rfl ?_
      refine g_sub [] (Sub.nil _) ?_
      exact HK0 _ _ ⟨rfl, rfl, hr⟩

noncomputable def lf_scope_CheckQuery_1_L2 (k : Option (Int ⊕ (Unit))) (t1_a1 : Int) : List Int → Option (Int ⊕ (Unit))
  | [] =>
  k
  | q_6 :: rest =>
  (bindX (lf_scope_need (decide (q_6 < t1_a1)) 17) fun r_7 =>
  (lf_scope_CheckQuery_1_L2 k t1_a1 rest))

noncomputable def lf_scope_CheckQuery_1_L1 (k : Option (Int ⊕ (Unit))) : List Gl → Option (Int ⊕ (Unit))
  | [] =>
  k
  | q_8 :: rest =>
  ((lf_scope_test q_8.op).bind fun r_10 =>
  (bindX (lf_scope_need (!r_10) 10) fun r_11 =>
  (lf_scope_CheckQuery_1_L1 k rest)))

noncomputable def lf_scope_CheckQuery_1_L0 (k : Option (Int ⊕ (Unit))) : List Gl → Option (Int ⊕ (Unit))
  | [] =>
  k
  | q_12 :: rest =>
  ((x_rightG q_12).bind fun r_14 =>
  (bindX (lf_scope_need r_14 2) fun r_15 =>
  (lf_scope_CheckQuery_1_L0 k rest)))

noncomputable def lf_scope_CheckQuery_1_J0 (k : Option (Int ⊕ (Unit))) (t0_a0 : (List Gl)) (t1_a1 : Int) : Option (Int ⊕ (Unit)) :=
  (bif (decide ((t0_a0.length : Int) ≤ (40 : Int))) then
  (bif (decide (t1_a1 ≥ (0 : Int))) then
  (bindX (lf_scope_need (decide (t1_a1 ≤ (100 : Int))) 6) fun r_18 =>
  k)
  else
  (bindX (lf_scope_need false 6) fun r_19 =>
  k))
  else
  (bindX (lf_scope_need false 6) fun r_20 =>
  k))
noncomputable def lf_scope_CheckQuery_1 (t0_a0 : (List Gl)) (t1_a1 : Int) (t2_a2 : (List S_api_Decl)) : Option (Int ⊕ (Unit)) :=
  (lf_scope_CheckQuery_1_J0 ((lf_scope_CheckQuery_1_L0 ((bindX (lf_scope_calls t2_a2 t0_a0) fun r_2 =>
  (lf_scope_CheckQuery_1_L1 (((lf_scope_goalVars [t0_a0]).bind fun r_4 =>
  (lf_scope_CheckQuery_1_L2 (some (.inr ())) t1_a1 r_4))) t0_a0))) t0_a0)) t0_a0 t1_a1)

end Go.Proofs.Ytgndcnknmkcacaa

