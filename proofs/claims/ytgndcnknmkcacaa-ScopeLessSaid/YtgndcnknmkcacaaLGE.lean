/-
  Texts of the seat, merged.
-/
import Derived.Test.YtgndcnknmkcacaaLGA
import Derived.Test.YtgndcnknmkcacaaLGB
import Derived.Test.YtgndcnknmkcacaaLGC
import Derived.Test.YtgndcnknmkcacaaLGD
import Derived.Test.YtgndcnknmkcacaaChecked
import Derived.WalkKit
import Derived.Lib.Hide
import Derived.Lib.AppendStr
import Derived.Deep.AppendLies
import Derived.Deep.AppendSrc
import Derived.Deep.Draws
import Derived.Deep.QuietTactic
import Derived.BigQuiet
import Derived.Deep.RegionWith
import Derived.Maps.AppendAt
import Derived.WalkSpells
import Derived.Orders
import Derived.Deep.Slices
import Derived.Deep.Fields
import Derived.ChangeArms
import Derived.Lib.OthersKept
import Derived.Lib.TrimU
import Derived.Lib.IndexAny
import Derived.Deep.LoopGhost
import Derived.Lib.Bytealg
import Derived.RangeFuncBox
import Derived.RangeFuncNested
import Derived.RangeFuncBound
import Derived.RangeFuncCalls
import Derived.RangeFuncLeaves
import Derived.Shelf.Abstract
import Derived.OwnWalkIn
import Derived.TacticsInMore
import Derived.LoopNIn
import Derived.LoopIn
import Derived.RangeFuncWrites
import Derived.Maps.OwnIn
import Derived.Maps.Views
import Derived.Laws.OwnMore
import Derived.Maps.OwnSet
import Derived.Test.YtgndcnknmkcacaaRows
import Derived.ProofKit
import Derived.OpenShut
import Derived.Carry
import Derived.OrdersIn
import Derived.Great.BuildSlice
import Derived.ArgAppend
import Derived.Laws.MakeOwn
import Derived.Laws.Cover3
import Derived.Laws.CopyRow
import Derived.MapKept
import Derived.Maps.RangeRun
import Derived.DeepKeys5
import Derived.WideKeyRuns
import Derived.Tactics
import Derived.Tactics2
import Derived.Defers
import Derived.Recover
import Derived.Laws.Pointers
set_option linter.unusedVariables false
set_option linter.unusedSimpArgs false
set_option linter.unnecessarySimpa false
set_option linter.all false

namespace Go.Proofs.Ytgndcnknmkcacaa
set_option maxRecDepth 100000
open Go.RowKit

set_option maxHeartbeats 1000000 in
theorem lg_scope_Check (p_a0 : S_api_Program) (res : Int × Int) (hr : lf_scope_Check p_a0 = some res) : Gives Try.prog 10 [enc_S_api_Program p_a0] (.tup [.int .i64 res.1, .int .i64 res.2]) := by
  unfold lf_scope_Check at hr
  refine spec_env [(0, enc_S_api_Program p_a0)] Try.func10 rfl rfl fun K hK => ?_
  refine g_seq ?_
  refine g_run (by kernel_rfl) [(0, .d), (1, .d), (2, .d)] rfl ?_
  refine r_d rfl rfl rfl (s_box rfl rfl rfl) ?_
  refine r_d rfl rfl rfl (s_assign rfl rfl) ?_
  refine r_d rfl rfl rfl (s_assign rfl rfl) ?_
  refine r_end ?_
  refine g_seq ?_
  refine g_run (by kernel_rfl) [(0, .d), (1, .d), (2, .d)] rfl ?_
  refine r_d rfl rfl rfl (s_makeFunc rfl rfl rfl) ?_
  obtain ⟨r_1, hr_1, hr⟩ := bindS hr
  refine r_d rfl rfl rfl (s_callD rfl cl_scope_caught (.cons rfl (Wk.refl _) .nil) (caught_gives rfl cl_scope_Check_1 (lg_scope_Check_1 _ _ hr_1))) ?_
  refine r_d rfl rfl rfl (s_assign rfl rfl) ?_
  refine r_end ?_
  refine g_seq ?_
  refine g_seq ?_
  refine g_run (by kernel_rfl) [(0, .d), (1, .d)] rfl ?_
  refine r_d rfl rfl rfl (s_move rfl rfl) ?_
  refine r_d rfl rfl rfl (s_cmp rfl rfl rfl rfl) ?_
  refine r_end ?_
  refine g_sB 10 rfl hr (fun h10_1 hr => ?_) (fun h10_1 hr => ?_)
  ·
   refine g_condT rfl ?_
   refine g_seq ?_
   refine g_run (by kernel_rfl) [(0, .d), (1, .d), (2, .d)] rfl ?_
   refine r_d rfl rfl rfl (s_move rfl rfl) ?_
   refine r_d rfl rfl rfl (s_assign rfl rfl) ?_
   refine r_d rfl rfl rfl (s_assign rfl rfl) ?_
   refine r_end ?_
   obtain rfl := Option.some.inj hr
   refine g_ret Try.func10 _ (.cons (resTmp rfl (Wk.refl _)) (.cons (resTmp rfl (Wk.refl _)) .nil)) ?_
   rfl
  ·
   refine g_condF rfl ?_
   refine g_skip ?_
   refine g_seq ?_
   refine g_seq ?_
   refine g_run (by kernel_rfl) [(0, .d), (1, .d), (2, .d), (3, .d)] rfl ?_
   refine r_d rfl rfl rfl (s_fieldAddr rfl fl_api_Program_1 rfl rfl rfl rfl) ?_
   refine r_d rfl rfl rfl (s_load rfl rfl (by exact ty_L_api_Rule) rfl) ?_
   refine r_d rfl rfl rfl (m_len (f := enc_S_api_Rule) p_a0.f1_Rules rfl el_L_api_Rule rfl (asl rfl)) ?_
   refine r_d rfl rfl rfl (s_move rfl rfl) ?_
   refine r_end ?_
   obtain ⟨kk0, hkk0, hr⟩ := exK (fun k => lf_scope_Check_L0 k p_a0 p_a0.f1_Rules 0) hr
   refine g_len 13 rfl (asl rfl) fun hla0 => ?_
   simp only [List.length_map] at hla0
   refine g_blockJ (fun env σ => env = [] ∧ σ = [] ∧ kk0 = some res) ?_ (fun HK0 => ?_)
   ·
    rintro _ _ ⟨rfl, rfl, hr⟩
    rw [hkk0] at hr
    refine g_seq ?_
    refine g_run (by kernel_rfl) [(0, .d), (1, .d)] rfl ?_
    refine r_d rfl rfl rfl (s_assign rfl rfl) ?_
    refine r_d rfl rfl rfl (s_assign rfl rfl) ?_
    refine r_end ?_
    obtain rfl := Option.some.inj hr
    refine g_ret Try.func10 _ (.cons (resTmp rfl (Wk.refl _)) (.cons (resTmp rfl (Wk.refl _)) .nil)) ?_
    rfl
   ·
    refine g_sub [(1, .ptr (enc_S_api_Program p_a0)), (14, .int .i64 (p_a0.f1_Rules.length : Int)), (15, .int .i64 ((0 : Nat) : Int))] (Sub.cons' rfl (Sub.cons' rfl (Sub.cons' rfl (Sub.nil _)))) ?_
    refine g_loop (fun n env σ => ∃ (i_3 : Nat), (n = p_a0.f1_Rules.length - i_3) ∧ (env = [(1, .ptr (enc_S_api_Program p_a0)), (14, .int .i64 (p_a0.f1_Rules.length : Int)), (15, .int .i64 (i_3 : Int))]) ∧ (σ = []) ∧ (i_3 ≤ p_a0.f1_Rules.length) ∧ (lf_scope_Check_L0 kk0 p_a0 (p_a0.f1_Rules.drop i_3) i_3 = some res)) _ ⟨0, rfl, rfl, rfl, Nat.zero_le _, hr⟩ ?_
    rintro n _ _ ⟨i_3, rfl, rfl, rfl, hi0, hr⟩ IH0
    rcases listStep p_a0.f1_Rules i_3 hi0 with ⟨ht0, hd0, he0⟩ | ⟨q_4, ht0, hd0, hq0, hlt0⟩
    ·
     rw [hd0, lf_scope_Check_L0] at hr
     refine g_seq ?_
     refine g_run (by kernel_rfl) [(0, .d)] rfl ?_
     refine r_d rfl rfl rfl (s_cmp rfl rfl rfl rfl) ?_
     refine r_end ?_
     refine g_seq ?_
     refine g_known 16 false rfl ht0 ?_
     refine g_condF rfl ?_
     refine g_exit rfl ?_
     refine g_sub [] (Sub.nil _) ?_
     exact HK0 _ _ ⟨rfl, rfl, hr⟩
    ·
     rw [hd0, lf_scope_Check_L0] at hr
     refine g_seq ?_
     refine g_run (by kernel_rfl) [(0, .d)] rfl ?_
     refine r_d rfl rfl rfl (s_cmp rfl rfl rfl rfl) ?_
     refine r_end ?_
     refine g_seq ?_
     refine g_known 16 true rfl ht0 ?_
     refine g_condT rfl ?_
     refine g_skip ?_
     refine g_seq ?_
     refine g_block ?_
     refine g_seq ?_
     refine g_run (by kernel_rfl) [(0, .d), (1, .d)] rfl ?_
     refine r_d rfl rfl rfl (s_move rfl rfl) ?_
     refine r_d rfl rfl rfl (s_assign rfl rfl) ?_
     refine r_end ?_
     refine g_seq ?_
     refine g_any (by kernel_rfl) (by kernel_rfl) [(0, .d), (1, .d), (2, .d), (3, .d), (4, .d), (5, .d), (6, .d), (7, .d), (8, .d)] (by kernel_rfl) ?_
     refine r_d rfl rfl rfl (s_fieldAddr rfl fl_api_Program_0 rfl rfl rfl rfl) ?_
     refine r_d rfl rfl rfl (s_load rfl rfl (by exact ty_L_api_Decl) rfl) ?_
     refine r_d rfl rfl rfl (s_fieldAddr rfl fl_api_Program_1 rfl rfl rfl rfl) ?_
     refine r_d rfl rfl rfl (s_load rfl rfl (by exact ty_L_api_Rule) rfl) ?_
     refine r_d rfl rfl rfl (s_move rfl rfl) ?_
     refine r_d rfl rfl rfl (m_index (f := enc_S_api_Rule) p_a0.f1_Rules rfl el_L_api_Rule rfl (asl rfl) rfl hq0 sz_S_api_Rule rfl) ?_
     refine r_d rfl rfl rfl (s_load rfl rfl (by exact ty_api_Rule) (sz_S_api_Rule _)) ?_
     obtain ⟨r_5, hr_5, hr⟩ := bindS hr
     refine r_d rfl rfl rfl (s_callD rfl cl_scope_CheckRule (.cons rfl (Wk.refl _) (.cons rfl (Wk.refl _) .nil)) (lg_scope_CheckRule _ _ _ hr_5)) ?_
     refine r_d rfl rfl rfl (s_assign rfl rfl) ?_
     refine r_end ?_
     refine g_seq ?_
     refine g_run (by kernel_rfl) [(0, .d), (1, .d)] rfl ?_
     refine r_d rfl rfl rfl (s_move rfl rfl) ?_
     refine r_d rfl rfl rfl (s_cmp rfl rfl rfl rfl) ?_
     refine r_end ?_
     refine g_sB 27 rfl hr (fun h27_5 hr => ?_) (fun h27_5 hr => ?_)
     ·
      refine g_condT rfl ?_
      refine g_seq ?_
      refine g_run (by kernel_rfl) [(0, .d), (1, .d), (2, .d), (3, .d)] rfl ?_
      refine r_d rfl rfl rfl (s_move rfl rfl) ?_
      refine r_d rfl rfl rfl (s_move rfl rfl) ?_
      refine r_d rfl rfl rfl (s_assign rfl rfl) ?_
      refine r_d rfl rfl rfl (s_assign rfl rfl) ?_
      refine r_end ?_
      obtain rfl := Option.some.inj hr
      refine g_ret Try.func10 _ (.cons (resTmp rfl (Wk.refl _)) (.cons (resTmp rfl (Wk.refl _)) .nil)) ?_
      rfl
     ·
      refine g_condF rfl ?_
      refine g_skip ?_
      refine g_inBlock ?_
      refine g_run (by kernel_rfl) [(0, .d), (1, .d)] rfl ?_
      refine r_d rfl rfl rfl (s_ar (r := ((i_3 + 1 : Nat) : Int)) rfl rfl rfl (by simp [iar]) (by omega)) ?_
      refine r_d rfl rfl rfl (s_move rfl rfl) ?_
      refine r_end ?_
      refine g_sub [(1, .ptr (enc_S_api_Program p_a0)), (14, .int .i64 (p_a0.f1_Rules.length : Int)), (15, .int .i64 ((i_3 + 1 : Nat) : Int))] (Sub.cons' rfl (Sub.cons' rfl (Sub.cons' rfl (Sub.nil _)))) ?_
      exact IH0 _ _ _ (by omega) ⟨(i_3 + 1), rfl, rfl, rfl, (by omega), hr⟩

noncomputable def lf_constraintref15_Declared_L0 (k : Option (Bool)) (arity_a2 : Int) (name_a1 : ByteArray) : List S_api_Decl → Option (Bool)
  | [] =>
  k
  | q_2 :: rest =>
  (bif (q_2.f0_Name.toList == name_a1.toList) then
  (bif (q_2.f1_Arity == arity_a2) then
  some (true)
  else
  (lf_constraintref15_Declared_L0 k arity_a2 name_a1 rest))
  else
  (lf_constraintref15_Declared_L0 k arity_a2 name_a1 rest))
noncomputable def lf_constraintref15_Declared (decls_a0 : (List S_api_Decl)) (name_a1 : ByteArray) (arity_a2 : Int) : Option (Bool) :=
  (lf_constraintref15_Declared_L0 (some (false)) arity_a2 name_a1 decls_a0)

noncomputable def lf_constraintref15_heads (r_a0 : S_api_Rule) : Option ((List At)) :=
  ((appO 40 [] r_a0.f1_Keep).bind fun l_3 =>
  ((appO 40 l_3 r_a0.f2_Remove).bind fun l_5 =>
  some (l_5)))

noncomputable def lf_constraintref15_goals (r_a0 : S_api_Rule) : Option ((List Gl)) :=
  ((appO 48 [] r_a0.f3_Guard).bind fun l_3 =>
  ((appO 48 l_3 r_a0.f4_Body).bind fun l_5 =>
  some (l_5)))

noncomputable def lf_constraintref03_has_L0 (k : Option (Bool)) (n_a1 : Int) : List Int → Option (Bool)
  | [] =>
  k
  | q_2 :: rest =>
  (bif (q_2 == n_a1) then
  some (true)
  else
  (lf_constraintref03_has_L0 k n_a1 rest))
noncomputable def lf_constraintref03_has (l_a0 : (List Int)) (n_a1 : Int) : Option (Bool) :=
  (lf_constraintref03_has_L0 (some (false)) n_a1 l_a0)

noncomputable def lf_constraintref03_args (t_a0 : T) : Option ((List T)) :=
  (bif (t_a0.k == (2 : Int)) then
  some (t_a0.ar)
  else
  some ([]))

noncomputable def lf_constraintref03_vars_s1_L0 (k : ((List Int)) → Option ((List Int))) (rec : (List Int) → T → Option ((List Int))) : List T → (List Int) → Option ((List Int))
  | [], l_6 =>
  (k l_6)
  | q_10 :: rest, l_6 =>
  ((rec l_6 q_10).bind fun r_11 =>
  (lf_constraintref03_vars_s1_L0 k rec rest r_11))

noncomputable def lf_constraintref03_vars_s1_J0 (k : ((List Int)) → Option ((List Int))) (l_a0 : (List Int)) (t_a1 : T) : Option ((List Int)) :=
  (bif (t_a1.k == (1 : Int)) then
  ((lf_constraintref03_has l_a0 t_a1.i).bind fun r_14 =>
  (bif (!r_14) then
  ((appO 8 l_a0 [t_a1.i]).bind fun l_16 =>
  (k l_16))
  else
  (k l_a0)))
  else
  (k l_a0))
noncomputable def lf_constraintref03_vars_s1 : Nat → (List Int) → T → Option ((List Int))
  | 0, _, _ => none
  | fuel + 1, l_a0, t_a1 =>
    (fun (rec : (List Int) → T → Option ((List Int))) =>
      (lf_constraintref03_vars_s1_J0 (fun l_3 =>
      ((lf_constraintref03_args t_a1).bind fun r_4 =>
      (lf_constraintref03_vars_s1_L0 (fun l_9 =>
      some (l_9)) rec r_4 l_3))) l_a0 t_a1)) (lf_constraintref03_vars_s1 fuel)

noncomputable def lf_constraintref03_VarsOf_L0 (k : ((List Int)) → Option ((List Int))) (fuel : Nat) : List T → (List Int) → Option ((List Int))
  | [], out_4 =>
  (k out_4)
  | q_8 :: rest, out_4 =>
  ((lf_constraintref03_vars_s1 fuel out_4 q_8).bind fun r_9 =>
  (lf_constraintref03_VarsOf_L0 k fuel rest r_9))
noncomputable def lf_constraintref03_VarsOf (fuel : Nat) (l_a0 : (List T)) : Option ((List Int)) :=
  (lf_constraintref03_VarsOf_L0 (fun out_7 =>
  some (out_7)) fuel l_a0 [])

noncomputable def lf_constraintref15_Vars_L1 (k : ((List T)) → Option ((List Int))) : List Gl → (List T) → Option ((List Int))
  | [], l_10 =>
  (k l_10)
  | q_15 :: rest, l_10 =>
  ((appO 56 l_10 q_15.ts).bind fun l_16 =>
  (lf_constraintref15_Vars_L1 k rest l_16))

noncomputable def lf_constraintref15_Vars_L0 (k : ((List T)) → Option ((List Int))) : List At → (List T) → Option ((List Int))
  | [], l_4 =>
  (k l_4)
  | q_18 :: rest, l_4 =>
  ((appO 56 l_4 q_18.ts).bind fun l_19 =>
  (lf_constraintref15_Vars_L0 k rest l_19))
noncomputable def lf_constraintref15_Vars (fuel : Nat) (r_a0 : S_api_Rule) : Option ((List Int)) :=
  ((lf_constraintref15_heads r_a0).bind fun r_2 =>
  (lf_constraintref15_Vars_L0 (fun l_7 =>
  ((lf_constraintref15_goals r_a0).bind fun r_8 =>
  (lf_constraintref15_Vars_L1 (fun l_13 =>
  ((lf_constraintref03_VarsOf fuel l_13).bind fun r_14 =>
  some (r_14))) r_8 l_7))) r_2 []))

noncomputable def lf_constraintref15_declare_L0 (k : (Int) → Option (Int)) (name_a1 : ByteArray) : List S_api_Decl → Int → Option (Int)
  | [], e_1 =>
  (k e_1)
  | q_6 :: rest, e_1 =>
  (bif (q_6.f0_Name.toList == name_a1.toList) then
  (lf_constraintref15_declare_L0 k name_a1 rest 9)
  else
  (lf_constraintref15_declare_L0 k name_a1 rest e_1))
noncomputable def lf_constraintref15_declare (decls_a0 : (List S_api_Decl)) (name_a1 : ByteArray) (arity_a2 : Int) : Option (Int) :=
  (lf_constraintref15_declare_L0 (fun e_3 =>
  ((lf_constraintref15_Declared decls_a0 name_a1 arity_a2).bind fun r_4 =>
  (bif r_4 then
  some (0)
  else
  some (e_3)))) name_a1 decls_a0 7)

noncomputable def lf_constraintref15_calls_L0 (k : Option (Int)) (decls_a0 : (List S_api_Decl)) : List Gl → Option (Int)
  | [] =>
  k
  | q_2 :: rest =>
  (bif (q_2.op != (0 : Int)) then
  (lf_constraintref15_calls_L0 k decls_a0 rest)
  else
  ((lf_constraintref15_declare decls_a0 q_2.n (q_2.ts.length : Int)).bind fun r_4 =>
  (bif (r_4 != (0 : Int)) then
  some (r_4)
  else
  (lf_constraintref15_calls_L0 k decls_a0 rest))))
noncomputable def lf_constraintref15_calls (decls_a0 : (List S_api_Decl)) (l_a1 : (List Gl)) : Option (Int) :=
  (lf_constraintref15_calls_L0 (some (0)) decls_a0 l_a1)

noncomputable def lf_constraintref15_Test (op_a0 : Int) : Option (Bool) :=
  (bif (decide (op_a0 ≥ (5 : Int))) then
  some ((decide (op_a0 ≤ (12 : Int))))
  else
  some (false))

noncomputable def lf_constraintref15_headVars_L0 (k : ((List T)) → Option ((List Int))) : List At → (List T) → Option ((List Int))
  | [], l_4 =>
  (k l_4)
  | q_9 :: rest, l_4 =>
  ((appO 56 l_4 q_9.ts).bind fun l_10 =>
  (lf_constraintref15_headVars_L0 k rest l_10))
noncomputable def lf_constraintref15_headVars (fuel : Nat) (r_a0 : S_api_Rule) : Option ((List Int)) :=
  ((lf_constraintref15_heads r_a0).bind fun r_2 =>
  (lf_constraintref15_headVars_L0 (fun l_7 =>
  ((lf_constraintref03_VarsOf fuel l_7).bind fun r_8 =>
  some (r_8))) r_2 []))

noncomputable def lf_constraintref03_GoalVars (fuel : Nat) (g_a0 : Gl) : Option ((List Int)) :=
  ((lf_constraintref03_VarsOf fuel g_a0.ts).bind fun r_1 =>
  some (r_1))

noncomputable def lf_constraintref15_in_L0 (k : Option (Bool)) (n_a1 : Int) : List Int → Option (Bool)
  | [] =>
  k
  | q_2 :: rest =>
  (bif (q_2 == n_a1) then
  some (true)
  else
  (lf_constraintref15_in_L0 k n_a1 rest))
noncomputable def lf_constraintref15_in (l_a0 : (List Int)) (n_a1 : Int) : Option (Bool) :=
  (lf_constraintref15_in_L0 (some (false)) n_a1 l_a0)

noncomputable def lf_constraintref15_meaning_L4 (k : Option (Int)) (r_8 : (List Int)) : List Int → Option (Int)
  | [] =>
  k
  | q_13 :: rest =>
  ((lf_constraintref15_in r_8 q_13).bind fun r_14 =>
  (bif (!r_14) then
  some (17)
  else
  (lf_constraintref15_meaning_L4 k r_8 rest)))

noncomputable def lf_constraintref15_meaning_L3 (k : Option (Int)) (fuel : Nat) (r_8 : (List Int)) : List Gl → Option (Int)
  | [] =>
  k
  | q_10 :: rest =>
  ((lf_constraintref03_GoalVars fuel q_10).bind fun r_11 =>
  (lf_constraintref15_meaning_L4 ((lf_constraintref15_meaning_L3 k fuel r_8 rest)) r_8 r_11))

noncomputable def lf_constraintref15_meaning_L2 (k : Option (Int)) : List Gl → Option (Int)
  | [] =>
  k
  | q_16 :: rest =>
  ((lf_constraintref15_Test q_16.op).bind fun r_17 =>
  (bif r_17 then
  some (10)
  else
  (lf_constraintref15_meaning_L2 k rest)))

noncomputable def lf_constraintref15_meaning_L1 (k : Option (Int)) : List Gl → Option (Int)
  | [] =>
  k
  | q_19 :: rest =>
  ((lf_constraintref15_Test q_19.op).bind fun r_20 =>
  (bif (!r_20) then
  (bif (q_19.op != (1 : Int)) then
  some (10)
  else
  (lf_constraintref15_meaning_L1 k rest))
  else
  (lf_constraintref15_meaning_L1 k rest)))

noncomputable def lf_constraintref15_meaning_L0 (k : Option (Int)) (decls_a0 : (List S_api_Decl)) : List At → Option (Int)
  | [] =>
  k
  | q_23 :: rest =>
  ((lf_constraintref15_declare decls_a0 q_23.n (q_23.ts.length : Int)).bind fun r_24 =>
  (bif (r_24 != (0 : Int)) then
  some (r_24)
  else
  (lf_constraintref15_meaning_L0 k decls_a0 rest)))
noncomputable def lf_constraintref15_meaning (fuel : Nat) (decls_a0 : (List S_api_Decl)) (r_a1 : S_api_Rule) : Option (Int) :=
  ((lf_constraintref15_heads r_a1).bind fun r_1 =>
  (lf_constraintref15_meaning_L0 (((lf_constraintref15_goals r_a1).bind fun r_3 =>
  ((lf_constraintref15_calls decls_a0 r_3).bind fun r_4 =>
  (bif (r_4 != (0 : Int)) then
  some (r_4)
  else
  (lf_constraintref15_meaning_L1 ((lf_constraintref15_meaning_L2 (((lf_constraintref15_headVars fuel r_a1).bind fun r_8 =>
  (lf_constraintref15_meaning_L3 (some (0)) fuel r_8 r_a1.f3_Guard))) r_a1.f4_Body)) r_a1.f3_Guard))))) decls_a0 r_1))

noncomputable def lf_constraintref15_CheckRule_L2 (k : Option (Int)) : List Int → Nat → Option (Int)
  | [], i_10 =>
  k
  | q_17 :: rest, i_10 =>
  (bif (q_17 != (i_10 : Int)) then
  some (2)
  else
  (lf_constraintref15_CheckRule_L2 k rest (i_10 + 1)))

noncomputable def lf_constraintref15_CheckRule_L1 (k : Option (Int)) : List Gl → Option (Int)
  | [] =>
  k
  | q_19 :: rest =>
  ((x_rightG q_19).bind fun r_20 =>
  (bif (!r_20) then
  some (2)
  else
  (lf_constraintref15_CheckRule_L1 k rest)))

noncomputable def lf_constraintref15_CheckRule_L0 (k : Option (Int)) : List At → Option (Int)
  | [] =>
  k
  | q_22 :: rest =>
  ((x_rightA q_22).bind fun r_23 =>
  (bif (!r_23) then
  some (2)
  else
  (lf_constraintref15_CheckRule_L0 k rest)))
noncomputable def lf_constraintref15_CheckRule (fuel : Nat) (decls_a0 : (List S_api_Decl)) (r_a1 : S_api_Rule) : Option (Int) :=
  ((lf_constraintref15_heads r_a1).bind fun r_1 =>
  ((lf_constraintref15_goals r_a1).bind fun r_2 =>
  (bif ((r_1.length : Int) == (0 : Int)) then
  some (6)
  else
  (bif (decide ((r_1.length : Int) > (4 : Int))) then
  some (6)
  else
  (bif (decide ((r_a1.f3_Guard.length : Int) > (12 : Int))) then
  some (6)
  else
  (bif (decide ((r_a1.f4_Body.length : Int) > (12 : Int))) then
  some (6)
  else
  (lf_constraintref15_CheckRule_L0 ((lf_constraintref15_CheckRule_L1 (((lf_constraintref15_Vars fuel r_a1).bind fun r_9 =>
  (lf_constraintref15_CheckRule_L2 ((bif (r_a1.f5_Vars != (r_9.length : Int)) then
  some (2)
  else
  (bif (!(r_a1.f0_Name.toList == (⟨#[]⟩ : ByteArray).toList)) then
  ((x_isNameR r_a1.f0_Name).bind fun r_13 =>
  (bif (!r_13) then
  some (7)
  else
  ((lf_constraintref15_meaning fuel decls_a0 r_a1).bind fun r_15 =>
  some (r_15))))
  else
  ((lf_constraintref15_meaning fuel decls_a0 r_a1).bind fun r_16 =>
  some (r_16))))) r_9 0))) r_2)) r_1)))))))

noncomputable def lf_constraintref03_Var (n_a0 : Int) : Option (T) :=
  some ((T.mk 1 n_a0 ⟨#[]⟩ []))

set_option maxHeartbeats 1000000 in
theorem lg_constraintref03_Var (n_a0 : Int) (res : T) (hr : lf_constraintref03_Var n_a0 = some res) : Gives Try.prog 61 [.int .i64 n_a0] (encT res) := by
  unfold lf_constraintref03_Var at hr
  refine spec_env [(0, .int .i64 n_a0)] Try.func61 rfl rfl fun K hK => ?_
  refine g_seq ?_
  refine g_run (by kernel_rfl) [(0, .w)] rfl ?_
  refine r_w rfl rfl rfl (s_alloc rfl zv_api_Term) ?_
  rintro _ _ ⟨b2_0, rfl, rfl⟩
  refine r_end ?_
  refine g_seq ?_
  refine g_run (by kernel_rfl) [(0, .d), (1, .d), (2, .w)] rfl ?_
  refine r_d rfl rfl rfl (s_move rfl rfl) ?_
  refine r_d rfl rfl rfl (s_build rfl bt_api_Term (.cons rfl (Wk.refl _) (.cons rfl (Wk.refl _) .nil)) (.cons rfl rfl rfl (.cons rfl rfl rfl (.nil _)))) ?_
  refine r_w01 rfl rfl rfl (t_store0 _ rfl rfl rfl (Wk.refl _) (pf0 _) (by exact ty_api_Term) rfl rfl rfl) ?_
  refine r_end ?_
  obtain rfl := Option.some.inj hr
  refine g_ret Try.func61 _ (.cons (resRef rfl (.head _) (by exact ty_api_Term) rfl (Wk.refl _)) .nil) ?_
  first | rfl | simp [packD, encT, fsT_eq, T.k, T.i, T.s, T.ar]

noncomputable def lf_constraintlaw15_rule : Option (S_api_Rule) :=
  ((lf_constraintref03_Var 0).bind fun r_2 =>
  ((lf_constraintref03_Var 1).bind fun r_3 =>
  some ((⟨⟨#[]⟩, [], [(⟨⟨#[112]⟩, [r_2]⟩ : At)], [], [(⟨3, ⟨#[]⟩, [r_2, r_3]⟩ : Gl)], 2⟩ : S_api_Rule))))

set_option maxHeartbeats 1000000 in
theorem lg_constraintlaw15_rule (res : S_api_Rule) (hr : lf_constraintlaw15_rule = some res) : Gives Try.prog 29 [] (enc_S_api_Rule res) := by
  unfold lf_constraintlaw15_rule at hr
  refine spec_env [] Try.func29 rfl rfl fun K hK => ?_
  refine g_seq ?_
  refine g_run (by kernel_rfl) [(0, .w)] rfl ?_
  refine r_w rfl rfl rfl (s_alloc rfl zv_api_Rule) ?_
  rintro _ _ ⟨b0_0, rfl, rfl⟩
  refine r_end ?_
  refine g_seq ?_
  refine g_run (by kernel_rfl) [(0, .d), (1, .d), (2, .d), (3, .d), (4, .d), (5, .d), (6, .d), (7, .d), (8, .d), (9, .d), (10, .w)] rfl ?_
  obtain ⟨r_2, hr_2, hr⟩ := bindS hr
  refine r_d rfl rfl rfl (s_callD rfl cl_constraintref03_Var (.cons rfl (Wk.refl _) .nil) (lg_constraintref03_Var _ _ hr_2)) ?_
  refine r_d rfl rfl rfl (m_lit (f := encT) [.tmp 1] [r_2] rfl el_L_api_Term rfl rfl (by decide) (by decide) (.cons rfl (Wk.refl _) .nil) sz_encT (fun _ => rfl)) ?_
  refine r_d rfl rfl rfl (s_build rfl bt_api_Atom (.cons rfl (Wk.refl _) (.cons rfl (Wk.full _) .nil)) (.cons rfl rfl rfl (.cons rfl rfl rfl (.nil _)))) ?_
  refine r_d rfl rfl rfl (m_lit (f := encA) [.tmp 3] [(⟨⟨#[112]⟩, [r_2]⟩ : At)] rfl el_L_api_Atom rfl rfl (by decide) (by decide) (.cons rfl (Wk.refl _) .nil) sz_encA (fun _ => rfl)) ?_
  refine r_d rfl rfl rfl (s_callD rfl cl_constraintref03_Var (.cons rfl (Wk.refl _) .nil) (lg_constraintref03_Var _ _ hr_2)) ?_
  obtain ⟨r_3, hr_3, hr⟩ := bindS hr
  refine r_d rfl rfl rfl (s_callD rfl cl_constraintref03_Var (.cons rfl (Wk.refl _) .nil) (lg_constraintref03_Var _ _ hr_3)) ?_
  refine r_d rfl rfl rfl (m_lit (f := encT) [.tmp 5, .tmp 6] [r_2, r_3] rfl el_L_api_Term rfl rfl (by decide) (by decide) (.cons rfl (Wk.refl _) (.cons rfl (Wk.refl _) .nil)) sz_encT (fun _ => rfl)) ?_
  refine r_d rfl rfl rfl (s_build rfl bt_api_Goal (.cons rfl (Wk.refl _) (.cons rfl (Wk.full _) .nil)) (.cons rfl rfl rfl (.cons rfl rfl rfl (.nil _)))) ?_
  refine r_d rfl rfl rfl (m_lit (f := encG) [.tmp 8] [(⟨3, ⟨#[]⟩, [r_2, r_3]⟩ : Gl)] rfl el_L_api_Goal rfl rfl (by decide) (by decide) (.cons rfl (Wk.refl _) .nil) sz_encG (fun _ => rfl)) ?_
  refine r_d rfl rfl rfl (s_build rfl bt_api_Rule (.cons rfl (Wk.full _) (.cons rfl (Wk.full _) (.cons rfl (Wk.refl _) .nil))) (.cons rfl rfl rfl (.cons rfl rfl rfl (.cons rfl rfl rfl (.nil _))))) ?_
  refine r_w01 rfl rfl rfl (t_store0 _ rfl rfl rfl (Wk.refl _) (pf0 _) (by exact ty_api_Rule) rfl rfl rfl) ?_
  refine r_end ?_
  obtain rfl := Option.some.inj hr
  refine g_ret Try.func29 _ (.cons (resRef rfl (.head _) (by exact ty_api_Rule) rfl (Wk.refl _)) .nil) ?_
  rfl

noncomputable def lf_scope_Locals_L1 (k : ((List Int)) → Option ((List Int))) : List Int → (List Int) → (List (Int × Unit)) → Option ((List Int))
  | [], out_12, mm_14 =>
  (k out_12)
  | q_17 :: rest, out_12, mm_14 =>
  (bif (!((mget mm_14 q_17).isSome)) then
  ((mputO mm_14 q_17 ()).bind fun mm_20 =>
  ((appO 8 out_12 [q_17]).bind fun l_21 =>
  (lf_scope_Locals_L1 k rest l_21 mm_20)))
  else
  (lf_scope_Locals_L1 k rest out_12 mm_14))

noncomputable def lf_scope_Locals_L0 (k : ((List (Int × Unit))) → Option ((List Int))) : List Int → (List (Int × Unit)) → Option ((List Int))
  | [], mm_7 =>
  (k mm_7)
  | q_23 :: rest, mm_7 =>
  ((mputO mm_7 q_23 ()).bind fun mm_24 =>
  (lf_scope_Locals_L0 k rest mm_24))
noncomputable def lf_scope_Locals (r_a0 : S_api_Rule) : Option ((List Int)) :=
  ((lf_scope_atomVars [r_a0.f1_Keep, r_a0.f2_Remove]).bind fun r_4 =>
  (lf_scope_Locals_L0 (fun mm_9 =>
  ((lf_scope_goalVars [r_a0.f3_Guard, r_a0.f4_Body]).bind fun r_10 =>
  (lf_scope_Locals_L1 (fun out_16 =>
  some (out_16)) r_10 [] mm_9))) r_4 []))

set_option maxHeartbeats 1000000 in
theorem lg_scope_Locals (r_a0 : S_api_Rule) (res : (List Int)) (hr : lf_scope_Locals r_a0 = some res) : Gives Try.prog 21 [enc_S_api_Rule r_a0] (.lst (res.map (D.int .i64))) := by
  unfold lf_scope_Locals at hr
  refine spec_env [(0, enc_S_api_Rule r_a0)] Try.func21 rfl rfl fun K hK => ?_
  refine g_seq ?_
  refine g_run (by kernel_rfl) [(0, .d), (1, .w)] rfl ?_
  refine r_d rfl rfl rfl (s_box rfl rfl rfl) ?_
  refine r_w rfl rfl rfl (s_nilOwn 3 1 (.inl rfl)) ?_
  rintro _ _ ⟨u2_0, rfl, rfl⟩
  refine r_end ?_
  refine g_seq ?_
  refine g_run (by kernel_rfl) [(0, .w)] rfl ?_
  refine r_w rfl rfl rfl (s_nilOwn 3 1 (.inl rfl)) ?_
  rintro _ _ ⟨u3_1, rfl, rfl⟩
  refine r_end ?_
  refine g_seq ?_
  refine g_run (by kernel_rfl) [(0, .w), (1, .d)] rfl ?_
  refine r_w rfl rfl rfl (m_makeMap (α := Int) (β := Unit) (key := (D.int .i64)) (g := encU) rfl) ?_
  rintro _ _ ⟨m11_2, rfl, rfl⟩
  refine r_d rfl rfl rfl (s_assign rfl rfl) ?_
  refine r_end ?_
  refine g_seq ?_
  refine g_seq ?_
  refine g_run (by kernel_rfl) [(0, .d), (1, .d), (2, .d), (3, .d), (4, .d), (5, .d), (6, .d), (7, .d)] rfl ?_
  refine r_d rfl rfl rfl (s_fieldAddr rfl fl_api_Rule_1 rfl rfl rfl rfl) ?_
  refine r_d rfl rfl rfl (s_load rfl rfl (by exact ty_L_api_Atom) rfl) ?_
  refine r_d rfl rfl rfl (s_fieldAddr rfl fl_api_Rule_2 rfl rfl rfl rfl) ?_
  refine r_d rfl rfl rfl (s_load rfl rfl (by exact ty_L_api_Atom) rfl) ?_
  refine r_d rfl rfl rfl (m_lit (f := (fun l => D.lst (l.map encA))) [.tmp 13, .tmp 15] [r_a0.f1_Keep, r_a0.f2_Remove] rfl el_L_L_api_Atom rfl rfl (by decide) (by decide) (.cons rfl (Wk.refl _) (.cons rfl (Wk.refl _) .nil)) (fun _ => rfl) (fun _ => rfl)) ?_
  obtain ⟨r_4, hr_4, hr⟩ := bindS hr
  refine r_d rfl rfl rfl (by exact s_callD rfl cl_scope_atomVars (.cons rfl (Wk.full _) .nil) (lg_scope_atomVars _ _ hr_4)) ?_
  refine r_d rfl rfl rfl (m_len (f := (D.int .i64)) r_4 rfl el_L_int rfl (asl rfl)) ?_
  refine r_d rfl rfl rfl (s_move rfl rfl) ?_
  refine r_end ?_
  obtain ⟨kk0, hkk0, hr⟩ := exK (fun k => lf_scope_Locals_L0 k r_4 []) hr
  refine g_len 17 rfl (asl rfl) fun hla0 => ?_
  simp only [List.length_map] at hla0
  refine g_blockJ (fun env σ => ∃ (mm_9 : (List (Int × Unit))) (u_8 : Value), env = [(1, .ptr (enc_S_api_Rule r_a0)), (3, .own u_8 ([].map (D.int .i64))), (4, .map m11_2)] ∧ σ = [.row u_8 ([] : (List Int)).length 3 1, .map m11_2 (mapM' (D.int .i64) encU mm_9)] ∧ kk0 mm_9 = some res) ?_ (fun HK0 => ?_)
  ·
   rintro _ _ ⟨mm_9, u_8, rfl, rfl, hr⟩
   rw [hkk0] at hr
   refine g_seq ?_
   refine g_seq ?_
   refine g_run (by kernel_rfl) [(0, .d), (1, .d), (2, .d), (3, .d), (4, .d), (5, .d), (6, .d), (7, .d)] rfl ?_
   refine r_d rfl rfl rfl (s_fieldAddr rfl fl_api_Rule_3 rfl rfl rfl rfl) ?_
   refine r_d rfl rfl rfl (s_load rfl rfl (by exact ty_L_api_Goal) rfl) ?_
   refine r_d rfl rfl rfl (s_fieldAddr rfl fl_api_Rule_4 rfl rfl rfl rfl) ?_
   refine r_d rfl rfl rfl (s_load rfl rfl (by exact ty_L_api_Goal) rfl) ?_
   refine r_d rfl rfl rfl (m_lit (f := (fun l => D.lst (l.map encG))) [.tmp 28, .tmp 30] [r_a0.f3_Guard, r_a0.f4_Body] rfl el_L_L_api_Goal rfl rfl (by decide) (by decide) (.cons rfl (Wk.refl _) (.cons rfl (Wk.refl _) .nil)) (fun _ => rfl) (fun _ => rfl)) ?_
   obtain ⟨r_10, hr_10, hr⟩ := bindS hr
   refine r_d rfl rfl rfl (by exact s_callD rfl cl_scope_goalVars (.cons rfl (Wk.full _) .nil) (lg_scope_goalVars _ _ hr_10)) ?_
   refine r_d rfl rfl rfl (m_len (f := (D.int .i64)) r_10 rfl el_L_int rfl (asl rfl)) ?_
   refine r_d rfl rfl rfl (s_move rfl rfl) ?_
   refine r_end ?_
   obtain ⟨kk1, hkk1, hr⟩ := exK (fun k => lf_scope_Locals_L1 k r_10 [] mm_9) hr
   refine g_len 32 rfl (asl rfl) fun hla1 => ?_
   simp only [List.length_map] at hla1
   refine g_blockJ (fun env σ => ∃ (out_16 : (List Int)) (u_15 : Value), env = [(3, .own u_15 (out_16.map (D.int .i64)))] ∧ σ = [.row u_15 out_16.length 3 1] ∧ kk1 out_16 = some res) ?_ (fun HK1 => ?_)
   ·
    rintro _ _ ⟨out_16, u_15, rfl, rfl, hr⟩
    rw [hkk1] at hr
    refine g_seq ?_
    refine g_run (by kernel_rfl) [(0, .d), (1, .d)] rfl ?_
    refine r_d rfl rfl rfl (s_move rfl rfl) ?_
    refine r_d rfl rfl rfl (s_assign rfl rfl) ?_
    refine r_end ?_
    obtain rfl := Option.some.inj hr
    refine g_ret Try.func21 _ (.cons (resTmp rfl (Wk.own _ _)) .nil) ?_
    rfl
   ·
    refine g_sub [(4, .map m11_2), (32, .lst (r_10.map (D.int .i64))), (33, .int .i64 (r_10.length : Int)), (3, .own u_8 ([].map (D.int .i64))), (34, .int .i64 ((0 : Nat) : Int))] (Sub.cons' rfl (Sub.cons' rfl (Sub.cons' rfl (Sub.cons' rfl (Sub.cons' rfl (Sub.nil _)))))) ?_
    refine g_perm [_, _] _ ((pf0 _).trans (pf1 _ _ _)) ?_
    refine g_loop (fun n env σ => ∃ (out_12 : (List Int)) (i_13 : Nat) (mm_14 : (List (Int × Unit))) (u_11 : Value), (n = r_10.length - i_13) ∧ (env = [(4, .map m11_2), (32, .lst (r_10.map (D.int .i64))), (33, .int .i64 (r_10.length : Int)), (3, .own u_11 (out_12.map (D.int .i64))), (34, .int .i64 (i_13 : Int))]) ∧ (σ = [.map m11_2 (mapM' (D.int .i64) encU mm_14), .row u_11 out_12.length 3 1]) ∧ (i_13 ≤ r_10.length) ∧ (lf_scope_Locals_L1 kk1 (r_10.drop i_13) out_12 mm_14 = some res)) _ ⟨[], 0, mm_9, u_8, rfl, rfl, rfl, Nat.zero_le _, hr⟩ ?_
    rintro n _ _ ⟨out_12, i_13, mm_14, u_11, rfl, rfl, rfl, hi1, hr⟩ IH1
    rcases listStep r_10 i_13 hi1 with ⟨ht1, hd1, he1⟩ | ⟨q_17, ht1, hd1, hq1, hlt1⟩
    ·
     rw [hd1, lf_scope_Locals_L1] at hr
     refine g_seq ?_
     refine g_run (by kernel_rfl) [(0, .d)] rfl ?_
     refine r_d rfl rfl rfl (s_cmp rfl rfl rfl rfl) ?_
     refine r_end ?_
     refine g_seq ?_
     refine g_known 35 false rfl ht1 ?_
     refine g_condF rfl ?_
     refine g_exit rfl ?_
     refine g_sub [(3, .own u_11 (out_12.map (D.int .i64)))] (Sub.cons' rfl (Sub.nil _)) ?_
     refine g_perm [_] _ (pf1 _ _ _) ?_
     exact HK1 _ _ ⟨out_12, u_11, rfl, rfl, hr⟩
    ·
     rw [hd1, lf_scope_Locals_L1] at hr
     refine g_seq ?_
     refine g_run (by kernel_rfl) [(0, .d)] rfl ?_
     refine r_d rfl rfl rfl (s_cmp rfl rfl rfl rfl) ?_
     refine r_end ?_
     refine g_seq ?_
     refine g_known 35 true rfl ht1 ?_
     refine g_condT rfl ?_
     refine g_skip ?_
     refine g_seq ?_
     refine g_block ?_
     refine g_seq ?_
     refine g_run (by kernel_rfl) [(0, .d), (1, .d), (2, .d)] rfl ?_
     refine r_d rfl rfl rfl (m_index (f := (D.int .i64)) r_10 rfl el_L_int rfl (asl rfl) rfl hq1 (fun _ => rfl) rfl) ?_
     refine r_d rfl rfl rfl (s_load rfl rfl (by exact ty_int) rfl) ?_
     refine r_d rfl rfl rfl (s_assign rfl rfl) ?_
     refine r_end ?_
     refine g_seq ?_
     refine g_run (by kernel_rfl) [(0, .d), (1, .d), (2, .r), (3, .d), (4, .d), (5, .d), (6, .w), (7, .w), (8, .d)] rfl ?_
     refine r_d rfl rfl rfl (s_move rfl rfl) ?_
     refine r_d rfl rfl rfl (s_move rfl rfl) ?_
     refine r_r rfl rfl rfl (m_lookup2 (key := (D.int .i64)) (g := encU) mm_14 q_17 () rfl Try.underlying77 (keyInt Try.underlying3) zm_Unit rfl rfl (.head _)) ?_
     refine r_d rfl rfl rfl (s_move rfl rfl) ?_
     refine r_d rfl rfl rfl (s_extract rfl rfl rfl) ?_
     refine r_d rfl rfl rfl (s_extract rfl rfl rfl) ?_
     refine r_w rfl rfl rfl (s_alloc rfl zv_Unit) ?_
     rintro _ _ ⟨b9_17, rfl, rfl⟩
     refine r_w01 rfl rfl rfl (t_store0 _ rfl rfl rfl (Wk.refl _) (pf0 _) (by exact ty_Unit) (sz_encU _) rfl rfl) ?_
     refine r_d rfl rfl rfl (s_assign rfl rfl) ?_
     refine r_end ?_
     refine g_freeze 9 b9_17 rfl (pf0 _) ?_
     refine g_seq ?_
     refine g_run (by kernel_rfl) [(0, .d), (1, .d)] rfl ?_
     refine r_d rfl rfl rfl (s_move rfl rfl) ?_
     refine r_d rfl rfl rfl (s_not rfl rfl) ?_
     refine r_end ?_
     refine g_sB 45 rfl hr (fun h45_18 hr => ?_) (fun h45_18 hr => ?_)
     ·
      refine g_condT rfl ?_
      refine g_seq ?_
      refine g_run (by kernel_rfl) [(0, .d), (1, .d), (2, .d), (3, .w)] rfl ?_
      refine r_d rfl rfl rfl (s_move rfl rfl) ?_
      refine r_d rfl rfl rfl (s_move rfl rfl) ?_
      refine r_d rfl rfl rfl (s_build rfl bt_Unit .nil (.nil _)) ?_
      obtain ⟨mm_20, hmm_20, hr⟩ := bindS hr
      refine r_w01 rfl rfl rfl (m_mapUpdate (key := (D.int .i64)) (g := encU) mm_14 q_17 () rfl Try.underlying77 (keyInt Try.underlying3) rfl rfl rfl (Wk.refl _) (pf0 _) hmm_20) ?_
      refine r_end ?_
      refine g_run (by kernel_rfl) [(0, .d), (1, .d), (2, .d), (3, .w), (4, .d)] rfl ?_
      refine r_d rfl rfl rfl (s_move rfl rfl) ?_
      refine r_d rfl rfl rfl (s_move rfl rfl) ?_
      refine r_d rfl rfl rfl (m_lit (f := (D.int .i64)) [.tmp 50] [q_17] rfl el_L_int rfl rfl (by decide) (by decide) (.cons rfl (Wk.refl _) .nil) (fun _ => rfl) (fun _ => rfl)) ?_
      obtain ⟨l_21, hl_21, hr⟩ := bindS hr
      refine r_w rfl rfl rfl (m_appOwn (f := (D.int .i64)) out_12 [q_17] rfl el_L_int rfl rfl (asl rfl) (pf1 _ _ _) rfl (fun _ => rfl) hl_21) ?_
      rintro _ _ ⟨u52_21, rfl, rfl⟩
      refine r_d rfl rfl rfl (s_assign rfl rfl) ?_
      refine r_end ?_
      refine g_inBlock ?_
      refine g_run (by kernel_rfl) [(0, .d), (1, .d)] rfl ?_
      refine r_d rfl rfl rfl (s_ar (r := ((i_13 + 1 : Nat) : Int)) rfl rfl rfl (by simp [iar]) (by omega)) ?_
      refine r_d rfl rfl rfl (s_move rfl rfl) ?_
      refine r_end ?_
      refine g_sub [(4, .map m11_2), (32, .lst (r_10.map (D.int .i64))), (33, .int .i64 (r_10.length : Int)), (3, .own u52_21 (l_21.map (D.int .i64))), (34, .int .i64 ((i_13 + 1 : Nat) : Int))] (Sub.cons' rfl (Sub.cons' rfl (Sub.cons' rfl (Sub.cons' rfl (Sub.cons' rfl (Sub.nil _)))))) ?_
      refine g_perm [_, _] _ ((pf0 _).trans (pf1 _ _ _)) ?_
      exact IH1 _ _ _ (by omega) ⟨l_21, (i_13 + 1), mm_20, u52_21, rfl, rfl, rfl, (by omega), hr⟩
     ·
      refine g_condF rfl ?_
      refine g_skip ?_
      refine g_inBlock ?_
      refine g_run (by kernel_rfl) [(0, .d), (1, .d)] rfl ?_
      refine r_d rfl rfl rfl (s_ar (r := ((i_13 + 1 : Nat) : Int)) rfl rfl rfl (by simp [iar]) (by omega)) ?_
      refine r_d rfl rfl rfl (s_move rfl rfl) ?_
      refine r_end ?_
      refine g_sub [(4, .map m11_2), (32, .lst (r_10.map (D.int .i64))), (33, .int .i64 (r_10.length : Int)), (3, .own u_11 (out_12.map (D.int .i64))), (34, .int .i64 ((i_13 + 1 : Nat) : Int))] (Sub.cons' rfl (Sub.cons' rfl (Sub.cons' rfl (Sub.cons' rfl (Sub.cons' rfl (Sub.nil _)))))) ?_
      exact IH1 _ _ _ (by omega) ⟨out_12, (i_13 + 1), mm_14, u_11, rfl, rfl, rfl, (by omega), hr⟩
  ·
   refine g_sub [(1, .ptr (enc_S_api_Rule r_a0)), (3, .own u3_1 ([].map (D.int .i64))), (4, .map m11_2), (17, .lst (r_4.map (D.int .i64))), (18, .int .i64 (r_4.length : Int)), (19, .int .i64 ((0 : Nat) : Int))] (Sub.cons' rfl (Sub.cons' rfl (Sub.cons' rfl (Sub.cons' rfl (Sub.cons' rfl (Sub.cons' rfl (Sub.nil _))))))) ?_
   refine g_perm [_, _] _ ((pf0 _).trans (pf1 _ _ _)) ?_
   refine g_loop (fun n env σ => ∃ (i_6 : Nat) (mm_7 : (List (Int × Unit))) (u_5 : Value), (n = r_4.length - i_6) ∧ (env = [(1, .ptr (enc_S_api_Rule r_a0)), (3, .own u_5 ([].map (D.int .i64))), (4, .map m11_2), (17, .lst (r_4.map (D.int .i64))), (18, .int .i64 (r_4.length : Int)), (19, .int .i64 (i_6 : Int))]) ∧ (σ = [.row u_5 ([] : (List Int)).length 3 1, .map m11_2 (mapM' (D.int .i64) encU mm_7)]) ∧ (i_6 ≤ r_4.length) ∧ (lf_scope_Locals_L0 kk0 (r_4.drop i_6) mm_7 = some res)) _ ⟨0, [], u3_1, rfl, rfl, rfl, Nat.zero_le _, hr⟩ ?_
   rintro n _ _ ⟨i_6, mm_7, u_5, rfl, rfl, rfl, hi0, hr⟩ IH0
   rcases listStep r_4 i_6 hi0 with ⟨ht0, hd0, he0⟩ | ⟨q_23, ht0, hd0, hq0, hlt0⟩
   ·
    rw [hd0, lf_scope_Locals_L0] at hr
    refine g_seq ?_
    refine g_run (by kernel_rfl) [(0, .d)] rfl ?_
    refine r_d rfl rfl rfl (s_cmp rfl rfl rfl rfl) ?_
    refine r_end ?_
    refine g_seq ?_
    refine g_known 20 false rfl ht0 ?_
    refine g_condF rfl ?_
    refine g_exit rfl ?_
    refine g_sub [(1, .ptr (enc_S_api_Rule r_a0)), (3, .own u_5 ([].map (D.int .i64))), (4, .map m11_2)] (Sub.cons' rfl (Sub.cons' rfl (Sub.cons' rfl (Sub.nil _)))) ?_
    exact HK0 _ _ ⟨mm_7, u_5, rfl, rfl, hr⟩
   ·
    rw [hd0, lf_scope_Locals_L0] at hr
    refine g_seq ?_
    refine g_run (by kernel_rfl) [(0, .d)] rfl ?_
    refine r_d rfl rfl rfl (s_cmp rfl rfl rfl rfl) ?_
    refine r_end ?_
    refine g_seq ?_
    refine g_known 20 true rfl ht0 ?_
    refine g_condT rfl ?_
    refine g_skip ?_
    refine g_seq ?_
    refine g_block ?_
    refine g_seq ?_
    refine g_run (by kernel_rfl) [(0, .d), (1, .d), (2, .d)] rfl ?_
    refine r_d rfl rfl rfl (m_index (f := (D.int .i64)) r_4 rfl el_L_int rfl (asl rfl) rfl hq0 (fun _ => rfl) rfl) ?_
    refine r_d rfl rfl rfl (s_load rfl rfl (by exact ty_int) rfl) ?_
    refine r_d rfl rfl rfl (s_assign rfl rfl) ?_
    refine r_end ?_
    refine g_run (by kernel_rfl) [(0, .d), (1, .d), (2, .d), (3, .w)] rfl ?_
    refine r_d rfl rfl rfl (s_move rfl rfl) ?_
    refine r_d rfl rfl rfl (s_move rfl rfl) ?_
    refine r_d rfl rfl rfl (s_build rfl bt_Unit .nil (.nil _)) ?_
    obtain ⟨mm_24, hmm_24, hr⟩ := bindS hr
    refine r_w01 rfl rfl rfl (m_mapUpdate (key := (D.int .i64)) (g := encU) mm_7 q_23 () rfl Try.underlying77 (keyInt Try.underlying3) rfl rfl rfl (Wk.refl _) (pf1 _ _ _) hmm_24) ?_
    refine r_end ?_
    refine g_inBlock ?_
    refine g_run (by kernel_rfl) [(0, .d), (1, .d)] rfl ?_
    refine r_d rfl rfl rfl (s_ar (r := ((i_6 + 1 : Nat) : Int)) rfl rfl rfl (by simp [iar]) (by omega)) ?_
    refine r_d rfl rfl rfl (s_move rfl rfl) ?_
    refine r_end ?_
    refine g_sub [(1, .ptr (enc_S_api_Rule r_a0)), (3, .own u_5 ([].map (D.int .i64))), (4, .map m11_2), (17, .lst (r_4.map (D.int .i64))), (18, .int .i64 (r_4.length : Int)), (19, .int .i64 ((i_6 + 1 : Nat) : Int))] (Sub.cons' rfl (Sub.cons' rfl (Sub.cons' rfl (Sub.cons' rfl (Sub.cons' rfl (Sub.cons' rfl (Sub.nil _))))))) ?_
    refine g_perm [_, _] _ ((pf0 _).trans (pf1 _ _ _)) ?_
    exact IH0 _ _ _ (by omega) ⟨(i_6 + 1), mm_24, u_5, rfl, rfl, rfl, (by omega), hr⟩

noncomputable def lf_constraintref03_SameInts_L0 (k : Option (Bool)) (b_a1 : (List Int)) : List Int → Nat → Option (Bool)
  | [], i_2 =>
  k
  | q_3 :: rest, i_2 =>
  (bif (decide ((i_2 : Int) < (b_a1.length : Int))) then
  ((getI b_a1 (i_2 : Int)).bind fun q_5 =>
  (bif (q_3 != q_5) then
  some (false)
  else
  (lf_constraintref03_SameInts_L0 k b_a1 rest (i_2 + 1))))
  else
  k)
noncomputable def lf_constraintref03_SameInts (a_a0 : (List Int)) (b_a1 : (List Int)) : Option (Bool) :=
  (bif ((a_a0.length : Int) != (b_a1.length : Int)) then
  some (false)
  else
  (lf_constraintref03_SameInts_L0 (some (true)) b_a1 a_a0 0))

set_option maxHeartbeats 1000000 in
theorem lg_constraintref03_SameInts (a_a0 : (List Int)) (b_a1 : (List Int)) (res : Bool) (hr : lf_constraintref03_SameInts a_a0 b_a1 = some res) : Gives Try.prog 20 [.lst (a_a0.map (D.int .i64)), .lst (b_a1.map (D.int .i64))] (.bool res) := by
  unfold lf_constraintref03_SameInts at hr
  refine spec_env [(0, .lst (a_a0.map (D.int .i64))), (1, .lst (b_a1.map (D.int .i64)))] Try.func20 rfl rfl fun K hK => ?_
  refine g_seq ?_
  refine g_run (by kernel_rfl) [(0, .d)] rfl ?_
  refine r_d rfl rfl rfl (s_assign rfl rfl) ?_
  refine r_end ?_
  refine g_seq ?_
  refine g_seq ?_
  refine g_run (by kernel_rfl) [(0, .d), (1, .d), (2, .d), (3, .d), (4, .d)] rfl ?_
  refine r_d rfl rfl rfl (s_move rfl rfl) ?_
  refine r_d rfl rfl rfl (m_len (f := (D.int .i64)) a_a0 rfl el_L_int rfl (asl rfl)) ?_
  refine r_d rfl rfl rfl (s_move rfl rfl) ?_
  refine r_d rfl rfl rfl (m_len (f := (D.int .i64)) b_a1 rfl el_L_int rfl (asl rfl)) ?_
  refine r_d rfl rfl rfl (s_cmp rfl rfl rfl rfl) ?_
  refine r_end ?_
  refine g_sB 10 rfl hr (fun h10_0 hr => ?_) (fun h10_0 hr => ?_)
  ·
   refine g_condT rfl ?_
   refine g_seq ?_
   refine g_run (by kernel_rfl) [(0, .d)] rfl ?_
   refine r_d rfl rfl rfl (s_assign rfl rfl) ?_
   refine r_end ?_
   obtain rfl := Option.some.inj hr
   refine g_ret Try.func20 _ (.cons (resTmp rfl (Wk.refl _)) .nil) ?_
   rfl
  ·
   refine g_condF rfl ?_
   refine g_skip ?_
   refine g_seq ?_
   refine g_seq ?_
   refine g_run (by kernel_rfl) [(0, .d)] rfl ?_
   refine r_d rfl rfl rfl (s_assign rfl rfl) ?_
   refine r_end ?_
   obtain ⟨kk0, hkk0, hr⟩ := exK (fun k => lf_constraintref03_SameInts_L0 k b_a1 a_a0 0) hr
   refine g_len 0 rfl (asl rfl) fun hla0 => ?_
   simp only [List.length_map] at hla0
   refine g_blockJ (fun env σ => env = [] ∧ σ = [] ∧ kk0 = some res) ?_ (fun HK0 => ?_)
   ·
    rintro _ _ ⟨rfl, rfl, hr⟩
    rw [hkk0] at hr
    refine g_seq ?_
    refine g_run (by kernel_rfl) [(0, .d)] rfl ?_
    refine r_d rfl rfl rfl (s_assign rfl rfl) ?_
    refine r_end ?_
    obtain rfl := Option.some.inj hr
    refine g_ret Try.func20 _ (.cons (resTmp rfl (Wk.refl _)) .nil) ?_
    rfl
   ·
    refine g_sub [(0, .lst (a_a0.map (D.int .i64))), (1, .lst (b_a1.map (D.int .i64))), (5, .int .i64 ((0 : Nat) : Int))] (Sub.cons' rfl (Sub.cons' rfl (Sub.cons' rfl (Sub.nil _)))) ?_
    refine g_loop (fun n env σ => ∃ (i_2 : Nat), (n = a_a0.length - i_2) ∧ (env = [(0, .lst (a_a0.map (D.int .i64))), (1, .lst (b_a1.map (D.int .i64))), (5, .int .i64 (i_2 : Int))]) ∧ (σ = []) ∧ (i_2 ≤ a_a0.length) ∧ (lf_constraintref03_SameInts_L0 kk0 b_a1 (a_a0.drop i_2) i_2 = some res)) _ ⟨0, rfl, rfl, rfl, Nat.zero_le _, hr⟩ ?_
    rintro n _ _ ⟨i_2, rfl, rfl, rfl, hi0, hr⟩ IH0
    rcases listStep a_a0 i_2 hi0 with ⟨ht0, hd0, he0⟩ | ⟨q_3, ht0, hd0, hq0, hlt0⟩
    ·
     rw [hd0, lf_constraintref03_SameInts_L0] at hr
     refine g_seq ?_
     refine g_seq ?_
     refine g_run (by kernel_rfl) [(0, .d), (1, .d), (2, .d), (3, .d), (4, .d), (5, .d), (6, .d), (7, .d), (8, .d), (9, .d)] rfl ?_
     refine r_d rfl rfl rfl (s_move rfl rfl) ?_
     refine r_d rfl rfl rfl (s_move rfl rfl) ?_
     refine r_d rfl rfl rfl (m_len (f := (D.int .i64)) a_a0 rfl el_L_int rfl (asl rfl)) ?_
     refine r_d rfl rfl rfl (s_cmp rfl rfl rfl rfl) ?_
     refine r_d rfl rfl rfl (s_move rfl rfl) ?_
     refine r_known 15 false rfl ht0 ?_
     refine r_skip rfl rfl rfl ?_
     refine r_skip rfl rfl rfl ?_
     refine r_skip rfl rfl rfl ?_
     refine r_skip rfl rfl rfl ?_
     refine r_d rfl rfl rfl (s_pickF rfl rfl rfl) ?_
     refine r_end ?_
     refine g_condF rfl ?_
     refine g_exit rfl ?_
     refine g_sub [] (Sub.nil _) ?_
     exact HK0 _ _ ⟨rfl, rfl, hr⟩
    ·
     rw [hd0, lf_constraintref03_SameInts_L0] at hr
     refine g_seq ?_
     refine g_seq ?_
     refine g_run (by kernel_rfl) [(0, .d), (1, .d), (2, .d), (3, .d), (4, .d), (5, .d), (6, .d), (7, .d), (8, .d), (9, .d)] rfl ?_
     refine r_d rfl rfl rfl (s_move rfl rfl) ?_
     refine r_d rfl rfl rfl (s_move rfl rfl) ?_
     refine r_d rfl rfl rfl (m_len (f := (D.int .i64)) a_a0 rfl el_L_int rfl (asl rfl)) ?_
     refine r_d rfl rfl rfl (s_cmp rfl rfl rfl rfl) ?_
     refine r_d rfl rfl rfl (s_move rfl rfl) ?_
     refine r_known 15 true rfl ht0 ?_
     refine r_d rfl rfl rfl (s_move rfl rfl) ?_
     refine r_d rfl rfl rfl (s_move rfl rfl) ?_
     refine r_d rfl rfl rfl (m_len (f := (D.int .i64)) b_a1 rfl el_L_int rfl (asl rfl)) ?_
     refine r_d rfl rfl rfl (s_cmp rfl rfl rfl rfl) ?_
     refine r_d rfl rfl rfl (s_pickT rfl rfl rfl) ?_
     refine r_end ?_
     refine g_sB 20 rfl hr (fun h20_3 hr => ?_) (fun h20_3 hr => ?_)
     ·
      refine g_condT rfl ?_
      refine g_skip ?_
      refine g_seq ?_
      refine g_block ?_
      refine g_seq ?_
      refine g_any (by kernel_rfl) (by kernel_rfl) [(0, .d), (1, .d), (2, .d), (3, .d), (4, .d), (5, .d), (6, .d), (7, .d), (8, .d)] (by kernel_rfl) ?_
      refine r_d rfl rfl rfl (s_move rfl rfl) ?_
      refine r_d rfl rfl rfl (s_move rfl rfl) ?_
      refine r_d rfl rfl rfl (m_index (f := (D.int .i64)) a_a0 rfl el_L_int rfl (asl rfl) rfl hq0 (fun _ => rfl) rfl) ?_
      refine r_d rfl rfl rfl (s_load rfl rfl (by exact ty_int) rfl) ?_
      refine r_d rfl rfl rfl (s_move rfl rfl) ?_
      refine r_d rfl rfl rfl (s_move rfl rfl) ?_
      obtain ⟨q_5, hq_5, hr⟩ := bindS hr
      refine r_d rfl rfl rfl (m_index (f := (D.int .i64)) b_a1 rfl el_L_int rfl (asl rfl) rfl hq_5 (fun _ => rfl) rfl) ?_
      refine r_d rfl rfl rfl (s_load rfl rfl (by exact ty_int) rfl) ?_
      refine r_d rfl rfl rfl (s_cmp rfl rfl rfl rfl) ?_
      refine r_end ?_
      refine g_sB 31 rfl hr (fun h31_5 hr => ?_) (fun h31_5 hr => ?_)
      ·
       refine g_condT rfl ?_
       refine g_seq ?_
       refine g_run (by kernel_rfl) [(0, .d)] rfl ?_
       refine r_d rfl rfl rfl (s_assign rfl rfl) ?_
       refine r_end ?_
       obtain rfl := Option.some.inj hr
       refine g_ret Try.func20 _ (.cons (resTmp rfl (Wk.refl _)) .nil) ?_
       rfl
      ·
       refine g_condF rfl ?_
       refine g_skip ?_
       refine g_inBlock ?_
       refine g_run (by kernel_rfl) [(0, .d), (1, .d), (2, .d)] rfl ?_
       refine r_d rfl rfl rfl (s_move rfl rfl) ?_
       refine r_d rfl rfl rfl (s_ar (r := ((i_2 + 1 : Nat) : Int)) rfl rfl rfl (by simp [iar]) (by omega)) ?_
       refine r_d rfl rfl rfl (s_assign rfl rfl) ?_
       refine r_end ?_
       refine g_sub [(0, .lst (a_a0.map (D.int .i64))), (1, .lst (b_a1.map (D.int .i64))), (5, .int .i64 ((i_2 + 1 : Nat) : Int))] (Sub.cons' rfl (Sub.cons' rfl (Sub.cons' rfl (Sub.nil _)))) ?_
       exact IH0 _ _ _ (by omega) ⟨(i_2 + 1), rfl, rfl, rfl, (by omega), hr⟩
     ·
      refine g_condF rfl ?_
      refine g_exit rfl ?_
      refine g_sub [] (Sub.nil _) ?_
      exact HK0 _ _ ⟨rfl, rfl, hr⟩

noncomputable def lf_scope_CheckQuery_1_L2 (k : Option (Int ⊕ (Unit))) (t1_a1 : Int) : List Int → Option (Int ⊕ (Unit))
  | [] =>
  k
  | q_6 :: rest =>
  (bindX (lf_scope_need (decide (q_6 < t1_a1)) 17) fun r_7 =>
  (lf_scope_CheckQuery_1_L2 k t1_a1 rest))

noncomputable def lf_scope_CheckQuery_1_L1 (k : Option (Int ⊕ (Unit))) : List Gl → Option (Int ⊕ (Unit))
  | [] =>
  k
  | q_8 :: rest =>
  ((lf_scope_test q_8.op).bind fun r_10 =>
  (bindX (lf_scope_need (!r_10) 10) fun r_11 =>
  (lf_scope_CheckQuery_1_L1 k rest)))

noncomputable def lf_scope_CheckQuery_1_L0 (k : Option (Int ⊕ (Unit))) : List Gl → Option (Int ⊕ (Unit))
  | [] =>
  k
  | q_12 :: rest =>
  ((x_rightG q_12).bind fun r_14 =>
  (bindX (lf_scope_need r_14 2) fun r_15 =>
  (lf_scope_CheckQuery_1_L0 k rest)))

noncomputable def lf_scope_CheckQuery_1_J0 (k : Option (Int ⊕ (Unit))) (t0_a0 : (List Gl)) (t1_a1 : Int) : Option (Int ⊕ (Unit)) :=
  (bif (decide ((t0_a0.length : Int) ≤ (40 : Int))) then
  (bif (decide (t1_a1 ≥ (0 : Int))) then
  (bindX (lf_scope_need (decide (t1_a1 ≤ (100 : Int))) 6) fun r_18 =>
  k)
  else
  (bindX (lf_scope_need false 6) fun r_19 =>
  k))
  else
  (bindX (lf_scope_need false 6) fun r_20 =>
  k))
noncomputable def lf_scope_CheckQuery_1 (t0_a0 : (List Gl)) (t1_a1 : Int) (t2_a2 : (List S_api_Decl)) : Option (Int ⊕ (Unit)) :=
  (lf_scope_CheckQuery_1_J0 ((lf_scope_CheckQuery_1_L0 ((bindX (lf_scope_calls t2_a2 t0_a0) fun r_2 =>
  (lf_scope_CheckQuery_1_L1 (((lf_scope_goalVars [t0_a0]).bind fun r_4 =>
  (lf_scope_CheckQuery_1_L2 (some (.inr ())) t1_a1 r_4))) t0_a0))) t0_a0)) t0_a0 t1_a1)

set_option maxHeartbeats 1000000 in
theorem lg_scope_CheckQuery_1 (t0_a0 : (List Gl)) (t1_a1 : Int) (t2_a2 : (List S_api_Decl)) (res : Int ⊕ (Unit)) (hr : lf_scope_CheckQuery_1 t0_a0 t1_a1 t2_a2 = some res) : SpecX Try.prog 46 [.ptr (.lst (t0_a0.map encG)), .ptr (.int .i64 t1_a1), .ptr (.lst (t2_a2.map enc_S_api_Decl))] [] (fun d _ => ∃ r : Unit, res = .inr r ∧ d = .tup []) (fun d => ∃ c, res = .inl c ∧ d = .ifc 83 (.agg [.int .i64 c])) := by
  unfold lf_scope_CheckQuery_1 at hr
  refine spec_envX [(0, .ptr (.lst (t0_a0.map encG))), (1, .ptr (.int .i64 t1_a1)), (2, .ptr (.lst (t2_a2.map enc_S_api_Decl)))] Try.func46 rfl rfl fun K hK hX => ?_
  obtain ⟨kkJ0, hkkJ0, hr⟩ := exK (fun k => lf_scope_CheckQuery_1_J0 k t0_a0 t1_a1) hr
  refine g_seqJ (fun env σ => env = [(0, .ptr (.lst (t0_a0.map encG))), (1, .ptr (.int .i64 t1_a1)), (2, .ptr (.lst (t2_a2.map enc_S_api_Decl)))] ∧ σ = [] ∧ kkJ0 = some res) ?_ (fun HKJ0 => ?_)
  ·
   rintro _ _ ⟨rfl, rfl, hr⟩
   rw [hkkJ0] at hr
   refine g_seq ?_
   refine g_seq ?_
   refine g_run (by kernel_rfl) [(0, .d), (1, .d), (2, .d)] rfl ?_
   refine r_d rfl rfl rfl (s_load rfl rfl (by exact ty_L_api_Goal) rfl) ?_
   refine r_d rfl rfl rfl (m_len (f := encG) t0_a0 rfl el_L_api_Goal rfl (asl rfl)) ?_
   refine r_d rfl rfl rfl (s_move rfl rfl) ?_
   refine r_end ?_
   obtain ⟨kk0, hkk0, hr⟩ := exK (fun k => lf_scope_CheckQuery_1_L0 k t0_a0) hr
   refine g_len 21 rfl (asl rfl) fun hla0 => ?_
   simp only [List.length_map] at hla0
   refine g_blockJ (fun env σ => env = [(0, .ptr (.lst (t0_a0.map encG))), (1, .ptr (.int .i64 t1_a1)), (2, .ptr (.lst (t2_a2.map enc_S_api_Decl)))] ∧ σ = [] ∧ kk0 = some res) ?_ (fun HK0 => ?_)
   ·
    rintro _ _ ⟨rfl, rfl, hr⟩
    rw [hkk0] at hr
    refine g_seq ?_
    refine g_run (by kernel_rfl) [(0, .d), (1, .d), (2, .d)] rfl ?_
    refine r_d rfl rfl rfl (s_load rfl rfl (by exact ty_L_api_Decl) rfl) ?_
    refine r_d rfl rfl rfl (s_load rfl rfl (by exact ty_L_api_Goal) rfl) ?_
    rcases bindXS hr with ⟨c_r_2, hr_2, rfl⟩ | ⟨r_2, hr_2, hr⟩
    ·
     refine r_die rfl rfl (s_callX _ rfl cl_scope_calls (.cons rfl (Wk.refl _) (.cons rfl (Wk.refl _) .nil)) (by exact (List.Perm.refl _)) (specX_inl (lg_scope_calls _ _ _ hr_2))) (hX _ ⟨_, rfl, rfl⟩)
    ·
     refine r_d rfl rfl rfl (s_callD rfl cl_scope_calls (.cons rfl (Wk.refl _) (.cons rfl (Wk.refl _) .nil)) (specX_inr (lg_scope_calls _ _ _ hr_2))) ?_
     refine r_end ?_
     refine g_seq ?_
     refine g_seq ?_
     refine g_run (by kernel_rfl) [(0, .d), (1, .d), (2, .d)] rfl ?_
     refine r_d rfl rfl rfl (s_load rfl rfl (by exact ty_L_api_Goal) rfl) ?_
     refine r_d rfl rfl rfl (m_len (f := encG) t0_a0 rfl el_L_api_Goal rfl (asl rfl)) ?_
     refine r_d rfl rfl rfl (s_move rfl rfl) ?_
     refine r_end ?_
     obtain ⟨kk1, hkk1, hr⟩ := exK (fun k => lf_scope_CheckQuery_1_L1 k t0_a0) hr
     refine g_len 32 rfl (asl rfl) fun hla1 => ?_
     simp only [List.length_map] at hla1
     refine g_blockJ (fun env σ => env = [(0, .ptr (.lst (t0_a0.map encG))), (1, .ptr (.int .i64 t1_a1))] ∧ σ = [] ∧ kk1 = some res) ?_ (fun HK1 => ?_)
     ·
      rintro _ _ ⟨rfl, rfl, hr⟩
      rw [hkk1] at hr
      refine g_seq ?_
      refine g_run (by kernel_rfl) [(0, .d), (1, .d), (2, .d), (3, .d), (4, .d)] rfl ?_
      refine r_d rfl rfl rfl (s_load rfl rfl (by exact ty_L_api_Goal) rfl) ?_
      refine r_d rfl rfl rfl (m_lit (f := (fun l => D.lst (l.map encG))) [.tmp 46] [t0_a0] rfl el_L_L_api_Goal rfl rfl (by decide) (by decide) (.cons rfl (Wk.refl _) .nil) (fun _ => rfl) (fun _ => rfl)) ?_
      obtain ⟨r_4, hr_4, hr⟩ := bindS hr
      refine r_d rfl rfl rfl (by exact s_callD rfl cl_scope_goalVars (.cons rfl (Wk.full _) .nil) (lg_scope_goalVars _ _ hr_4)) ?_
      refine r_d rfl rfl rfl (m_len (f := (D.int .i64)) r_4 rfl el_L_int rfl (asl rfl)) ?_
      refine r_d rfl rfl rfl (s_move rfl rfl) ?_
      refine r_end ?_
      obtain ⟨kk2, hkk2, hr⟩ := exK (fun k => lf_scope_CheckQuery_1_L2 k t1_a1 r_4) hr
      refine g_len 48 rfl (asl rfl) fun hla2 => ?_
      simp only [List.length_map] at hla2
      refine g_blockJ (fun env σ => env = [] ∧ σ = [] ∧ kk2 = some res) ?_ (fun HK2 => ?_)
      ·
       rintro _ _ ⟨rfl, rfl, hr⟩
       rw [hkk2] at hr
       obtain rfl := Option.some.inj hr
       refine g_end Try.func46 _ .nil ?_
       exact ⟨_, rfl, rfl⟩
      ·
       refine g_sub [(1, .ptr (.int .i64 t1_a1)), (48, .lst (r_4.map (D.int .i64))), (49, .int .i64 (r_4.length : Int)), (50, .int .i64 ((0 : Nat) : Int))] (Sub.cons' rfl (Sub.cons' rfl (Sub.cons' rfl (Sub.cons' rfl (Sub.nil _))))) ?_
       refine g_loop (fun n env σ => ∃ (i_5 : Nat), (n = r_4.length - i_5) ∧ (env = [(1, .ptr (.int .i64 t1_a1)), (48, .lst (r_4.map (D.int .i64))), (49, .int .i64 (r_4.length : Int)), (50, .int .i64 (i_5 : Int))]) ∧ (σ = []) ∧ (i_5 ≤ r_4.length) ∧ (lf_scope_CheckQuery_1_L2 kk2 t1_a1 (r_4.drop i_5) = some res)) _ ⟨0, rfl, rfl, rfl, Nat.zero_le _, hr⟩ ?_
       rintro n _ _ ⟨i_5, rfl, rfl, rfl, hi2, hr⟩ IH2
       rcases listStep r_4 i_5 hi2 with ⟨ht2, hd2, he2⟩ | ⟨q_6, ht2, hd2, hq2, hlt2⟩
       ·
        rw [hd2, lf_scope_CheckQuery_1_L2] at hr
        refine g_seq ?_
        refine g_run (by kernel_rfl) [(0, .d)] rfl ?_
        refine r_d rfl rfl rfl (s_cmp rfl rfl rfl rfl) ?_
        refine r_end ?_
        refine g_seq ?_
        refine g_known 51 false rfl ht2 ?_
        refine g_condF rfl ?_
        refine g_exit rfl ?_
        refine g_sub [] (Sub.nil _) ?_
        exact HK2 _ _ ⟨rfl, rfl, hr⟩
       ·
        rw [hd2, lf_scope_CheckQuery_1_L2] at hr
        refine g_seq ?_
        refine g_run (by kernel_rfl) [(0, .d)] rfl ?_
        refine r_d rfl rfl rfl (s_cmp rfl rfl rfl rfl) ?_
        refine r_end ?_
        refine g_seq ?_
        refine g_known 51 true rfl ht2 ?_
        refine g_condT rfl ?_
        refine g_skip ?_
        refine g_seq ?_
        refine g_block ?_
        refine g_seq ?_
        refine g_run (by kernel_rfl) [(0, .d), (1, .d), (2, .d)] rfl ?_
        refine r_d rfl rfl rfl (m_index (f := (D.int .i64)) r_4 rfl el_L_int rfl (asl rfl) rfl hq2 (fun _ => rfl) rfl) ?_
        refine r_d rfl rfl rfl (s_load rfl rfl (by exact ty_int) rfl) ?_
        refine r_d rfl rfl rfl (s_assign rfl rfl) ?_
        refine r_end ?_
        refine g_run (by kernel_rfl) [(0, .d), (1, .d), (2, .d), (3, .d)] rfl ?_
        refine r_d rfl rfl rfl (s_move rfl rfl) ?_
        refine r_d rfl rfl rfl (s_load rfl rfl (by exact ty_int) rfl) ?_
        refine r_d rfl rfl rfl (s_cmp rfl rfl rfl rfl) ?_
        rcases bindXS hr with ⟨c_r_7, hr_7, rfl⟩ | ⟨r_7, hr_7, hr⟩
        ·
         refine r_die rfl rfl (s_callX _ rfl cl_scope_need (.cons rfl (Wk.refl _) (.cons rfl (Wk.refl _) .nil)) (by exact (List.Perm.refl _)) (specX_inl (lg_scope_need _ _ _ hr_7))) (hX _ ⟨_, rfl, rfl⟩)
        ·
         refine r_d rfl rfl rfl (s_callD rfl cl_scope_need (.cons rfl (Wk.refl _) (.cons rfl (Wk.refl _) .nil)) (specX_inr (lg_scope_need _ _ _ hr_7))) ?_
         refine r_end ?_
         refine g_inBlock ?_
         refine g_run (by kernel_rfl) [(0, .d), (1, .d)] rfl ?_
         refine r_d rfl rfl rfl (s_ar (r := ((i_5 + 1 : Nat) : Int)) rfl rfl rfl (by simp [iar]) (by omega)) ?_
         refine r_d rfl rfl rfl (s_move rfl rfl) ?_
         refine r_end ?_
         refine g_sub [(1, .ptr (.int .i64 t1_a1)), (48, .lst (r_4.map (D.int .i64))), (49, .int .i64 (r_4.length : Int)), (50, .int .i64 ((i_5 + 1 : Nat) : Int))] (Sub.cons' rfl (Sub.cons' rfl (Sub.cons' rfl (Sub.cons' rfl (Sub.nil _))))) ?_
         exact IH2 _ _ _ (by omega) ⟨(i_5 + 1), rfl, rfl, rfl, (by omega), hr⟩
     ·
      refine g_sub [(0, .ptr (.lst (t0_a0.map encG))), (1, .ptr (.int .i64 t1_a1)), (34, .lst (t0_a0.map encG)), (35, .int .i64 (t0_a0.length : Int)), (36, .int .i64 ((0 : Nat) : Int))] (Sub.cons' rfl (Sub.cons' rfl (Sub.cons' rfl (Sub.cons' rfl (Sub.cons' rfl (Sub.nil _)))))) ?_
      refine g_loop (fun n env σ => ∃ (i_3 : Nat), (n = t0_a0.length - i_3) ∧ (env = [(0, .ptr (.lst (t0_a0.map encG))), (1, .ptr (.int .i64 t1_a1)), (34, .lst (t0_a0.map encG)), (35, .int .i64 (t0_a0.length : Int)), (36, .int .i64 (i_3 : Int))]) ∧ (σ = []) ∧ (i_3 ≤ t0_a0.length) ∧ (lf_scope_CheckQuery_1_L1 kk1 (t0_a0.drop i_3) = some res)) _ ⟨0, rfl, rfl, rfl, Nat.zero_le _, hr⟩ ?_
      rintro n _ _ ⟨i_3, rfl, rfl, rfl, hi1, hr⟩ IH1
      rcases listStep t0_a0 i_3 hi1 with ⟨ht1, hd1, he1⟩ | ⟨q_8, ht1, hd1, hq1, hlt1⟩
      ·
       rw [hd1, lf_scope_CheckQuery_1_L1] at hr
       refine g_seq ?_
       refine g_run (by kernel_rfl) [(0, .d)] rfl ?_
       refine r_d rfl rfl rfl (s_cmp rfl rfl rfl rfl) ?_
       refine r_end ?_
       refine g_seq ?_
       refine g_known 37 false rfl ht1 ?_
       refine g_condF rfl ?_
       refine g_exit rfl ?_
       refine g_sub [(0, .ptr (.lst (t0_a0.map encG))), (1, .ptr (.int .i64 t1_a1))] (Sub.cons' rfl (Sub.cons' rfl (Sub.nil _))) ?_
       exact HK1 _ _ ⟨rfl, rfl, hr⟩
      ·
       rw [hd1, lf_scope_CheckQuery_1_L1] at hr
       refine g_seq ?_
       refine g_run (by kernel_rfl) [(0, .d)] rfl ?_
       refine r_d rfl rfl rfl (s_cmp rfl rfl rfl rfl) ?_
       refine r_end ?_
       refine g_seq ?_
       refine g_known 37 true rfl ht1 ?_
       refine g_condT rfl ?_
       refine g_skip ?_
       refine g_seq ?_
       refine g_block ?_
       refine g_seq ?_
       refine g_run (by kernel_rfl) [(0, .d), (1, .d), (2, .w), (3, .w)] rfl ?_
       refine r_d rfl rfl rfl (m_index (f := encG) t0_a0 rfl el_L_api_Goal rfl (asl rfl) rfl hq1 sz_encG rfl) ?_
       refine r_d rfl rfl rfl (s_load rfl rfl (by exact ty_api_Goal) (sz_encG _)) ?_
       refine r_w rfl rfl rfl (s_alloc rfl zv_api_Goal) ?_
       rintro _ _ ⟨b6_8, rfl, rfl⟩
       refine r_w01 rfl rfl rfl (t_store0 _ rfl rfl rfl (Wk.refl _) (pf0 _) (by exact ty_api_Goal) (sz_encG _) rfl rfl) ?_
       refine r_end ?_
       refine g_freeze 6 b6_8 rfl (pf0 _) ?_
       refine g_run (by kernel_rfl) [(0, .d), (1, .d), (2, .d), (3, .d), (4, .d)] rfl ?_
       refine r_d rfl rfl rfl (s_fieldAddr rfl fl_api_Goal_0 rfl rfl rfl rfl) ?_
       refine r_d rfl rfl rfl (s_load rfl rfl (by exact ty_int) rfl) ?_
       obtain ⟨r_10, hr_10, hr⟩ := bindS hr
       refine r_d rfl rfl rfl (s_callD rfl cl_scope_test (.cons rfl (Wk.refl _) .nil) (lg_scope_test _ _ hr_10)) ?_
       refine r_d rfl rfl rfl (s_not rfl rfl) ?_
       rcases bindXS hr with ⟨c_r_11, hr_11, rfl⟩ | ⟨r_11, hr_11, hr⟩
       ·
        refine r_die rfl rfl (s_callX _ rfl cl_scope_need (.cons rfl (Wk.refl _) (.cons rfl (Wk.refl _) .nil)) (by exact (List.Perm.refl _)) (specX_inl (lg_scope_need _ _ _ hr_11))) (hX _ ⟨_, rfl, rfl⟩)
       ·
        refine r_d rfl rfl rfl (s_callD rfl cl_scope_need (.cons rfl (Wk.refl _) (.cons rfl (Wk.refl _) .nil)) (specX_inr (lg_scope_need _ _ _ hr_11))) ?_
        refine r_end ?_
        refine g_inBlock ?_
        refine g_run (by kernel_rfl) [(0, .d), (1, .d)] rfl ?_
        refine r_d rfl rfl rfl (s_ar (r := ((i_3 + 1 : Nat) : Int)) rfl rfl rfl (by simp [iar]) (by omega)) ?_
        refine r_d rfl rfl rfl (s_move rfl rfl) ?_
        refine r_end ?_
        refine g_sub [(0, .ptr (.lst (t0_a0.map encG))), (1, .ptr (.int .i64 t1_a1)), (34, .lst (t0_a0.map encG)), (35, .int .i64 (t0_a0.length : Int)), (36, .int .i64 ((i_3 + 1 : Nat) : Int))] (Sub.cons' rfl (Sub.cons' rfl (Sub.cons' rfl (Sub.cons' rfl (Sub.cons' rfl (Sub.nil _)))))) ?_
        exact IH1 _ _ _ (by omega) ⟨(i_3 + 1), rfl, rfl, rfl, (by omega), hr⟩
   ·
    refine g_sub [(0, .ptr (.lst (t0_a0.map encG))), (1, .ptr (.int .i64 t1_a1)), (2, .ptr (.lst (t2_a2.map enc_S_api_Decl))), (21, .lst (t0_a0.map encG)), (22, .int .i64 (t0_a0.length : Int)), (23, .int .i64 ((0 : Nat) : Int))] (Sub.cons' rfl (Sub.cons' rfl (Sub.cons' rfl (Sub.cons' rfl (Sub.cons' rfl (Sub.cons' rfl (Sub.nil _))))))) ?_
    refine g_loop (fun n env σ => ∃ (i_1 : Nat), (n = t0_a0.length - i_1) ∧ (env = [(0, .ptr (.lst (t0_a0.map encG))), (1, .ptr (.int .i64 t1_a1)), (2, .ptr (.lst (t2_a2.map enc_S_api_Decl))), (21, .lst (t0_a0.map encG)), (22, .int .i64 (t0_a0.length : Int)), (23, .int .i64 (i_1 : Int))]) ∧ (σ = []) ∧ (i_1 ≤ t0_a0.length) ∧ (lf_scope_CheckQuery_1_L0 kk0 (t0_a0.drop i_1) = some res)) _ ⟨0, rfl, rfl, rfl, Nat.zero_le _, hr⟩ ?_
    rintro n _ _ ⟨i_1, rfl, rfl, rfl, hi0, hr⟩ IH0
    rcases listStep t0_a0 i_1 hi0 with ⟨ht0, hd0, he0⟩ | ⟨q_12, ht0, hd0, hq0, hlt0⟩
    ·
     rw [hd0, lf_scope_CheckQuery_1_L0] at hr
     refine g_seq ?_
     refine g_run (by kernel_rfl) [(0, .d)] rfl ?_
     refine r_d rfl rfl rfl (s_cmp rfl rfl rfl rfl) ?_
     refine r_end ?_
     refine g_seq ?_
     refine g_known 24 false rfl ht0 ?_
     refine g_condF rfl ?_
     refine g_exit rfl ?_
     refine g_sub [(0, .ptr (.lst (t0_a0.map encG))), (1, .ptr (.int .i64 t1_a1)), (2, .ptr (.lst (t2_a2.map enc_S_api_Decl)))] (Sub.cons' rfl (Sub.cons' rfl (Sub.cons' rfl (Sub.nil _)))) ?_
     exact HK0 _ _ ⟨rfl, rfl, hr⟩
    ·
     rw [hd0, lf_scope_CheckQuery_1_L0] at hr
     refine g_seq ?_
     refine g_run (by kernel_rfl) [(0, .d)] rfl ?_
     refine r_d rfl rfl rfl (s_cmp rfl rfl rfl rfl) ?_
     refine r_end ?_
     refine g_seq ?_
     refine g_known 24 true rfl ht0 ?_
     refine g_condT rfl ?_
     refine g_skip ?_
     refine g_seq ?_
     refine g_block ?_
     refine g_seq ?_
     refine g_run (by kernel_rfl) [(0, .d), (1, .d), (2, .w), (3, .w)] rfl ?_
     refine r_d rfl rfl rfl (m_index (f := encG) t0_a0 rfl el_L_api_Goal rfl (asl rfl) rfl hq0 sz_encG rfl) ?_
     refine r_d rfl rfl rfl (s_load rfl rfl (by exact ty_api_Goal) (sz_encG _)) ?_
     refine r_w rfl rfl rfl (s_alloc rfl zv_api_Goal) ?_
     rintro _ _ ⟨b4_12, rfl, rfl⟩
     refine r_w01 rfl rfl rfl (t_store0 _ rfl rfl rfl (Wk.refl _) (pf0 _) (by exact ty_api_Goal) (sz_encG _) rfl rfl) ?_
     refine r_end ?_
     refine g_freeze 4 b4_12 rfl (pf0 _) ?_
     refine g_run (by kernel_rfl) [(0, .d), (1, .d), (2, .d)] rfl ?_
     refine r_d rfl rfl rfl (s_load rfl rfl (by exact ty_api_Goal) (sz_encG _)) ?_
     obtain ⟨r_14, hr_14, hr⟩ := bindS hr
     refine r_d rfl rfl rfl (s_callD rfl cl_term_RightGoal (.cons rfl (Wk.refl _) .nil) (lx_term_RightGoal _ _ hr_14)) ?_
     rcases bindXS hr with ⟨c_r_15, hr_15, rfl⟩ | ⟨r_15, hr_15, hr⟩
     ·
      refine r_die rfl rfl (s_callX _ rfl cl_scope_need (.cons rfl (Wk.refl _) (.cons rfl (Wk.refl _) .nil)) (by exact (List.Perm.refl _)) (specX_inl (lg_scope_need _ _ _ hr_15))) (hX _ ⟨_, rfl, rfl⟩)
     ·
      refine r_d rfl rfl rfl (s_callD rfl cl_scope_need (.cons rfl (Wk.refl _) (.cons rfl (Wk.refl _) .nil)) (specX_inr (lg_scope_need _ _ _ hr_15))) ?_
      refine r_end ?_
      refine g_inBlock ?_
      refine g_run (by kernel_rfl) [(0, .d), (1, .d)] rfl ?_
      refine r_d rfl rfl rfl (s_ar (r := ((i_1 + 1 : Nat) : Int)) rfl rfl rfl (by simp [iar]) (by omega)) ?_
      refine r_d rfl rfl rfl (s_move rfl rfl) ?_
      refine r_end ?_
      refine g_sub [(0, .ptr (.lst (t0_a0.map encG))), (1, .ptr (.int .i64 t1_a1)), (2, .ptr (.lst (t2_a2.map enc_S_api_Decl))), (21, .lst (t0_a0.map encG)), (22, .int .i64 (t0_a0.length : Int)), (23, .int .i64 ((i_1 + 1 : Nat) : Int))] (Sub.cons' rfl (Sub.cons' rfl (Sub.cons' rfl (Sub.cons' rfl (Sub.cons' rfl (Sub.cons' rfl (Sub.nil _))))))) ?_
      exact IH0 _ _ _ (by omega) ⟨(i_1 + 1), rfl, rfl, rfl, (by omega), hr⟩
  ·
   unfold lf_scope_CheckQuery_1_J0 at hr
   refine g_run (by kernel_rfl) [(0, .d), (1, .d), (2, .d), (3, .d), (4, .d), (5, .d), (6, .d), (7, .d), (8, .d), (9, .d), (10, .d), (11, .d)] rfl ?_
   refine r_d rfl rfl rfl (s_load rfl rfl (by exact ty_L_api_Goal) rfl) ?_
   refine r_d rfl rfl rfl (m_len (f := encG) t0_a0 rfl el_L_api_Goal rfl (asl rfl)) ?_
   refine r_d rfl rfl rfl (s_cmp rfl rfl rfl rfl) ?_
   refine r_d rfl rfl rfl (s_move rfl rfl) ?_
   refine r_sB 12 rfl hr (fun h12_15 hr => ?_) (fun h12_15 hr => ?_)
   ·
    refine r_d rfl rfl rfl (s_load rfl rfl (by exact ty_int) rfl) ?_
    refine r_d rfl rfl rfl (s_cmp rfl rfl rfl rfl) ?_
    refine r_d rfl rfl rfl (s_pickT rfl rfl rfl) ?_
    refine r_d rfl rfl rfl (s_move rfl rfl) ?_
    refine r_sB 16 rfl hr (fun h16_16 hr => ?_) (fun h16_16 hr => ?_)
    ·
     refine r_d rfl rfl rfl (s_load rfl rfl (by exact ty_int) rfl) ?_
     refine r_d rfl rfl rfl (s_cmp rfl rfl rfl rfl) ?_
     refine r_d rfl rfl rfl (s_pickT rfl rfl rfl) ?_
     rcases bindXS hr with ⟨c_r_18, hr_18, rfl⟩ | ⟨r_18, hr_18, hr⟩
     ·
      refine r_die rfl rfl (s_callX _ rfl cl_scope_need (.cons rfl (Wk.refl _) (.cons rfl (Wk.refl _) .nil)) (by exact (List.Perm.refl _)) (specX_inl (lg_scope_need _ _ _ hr_18))) (hX _ ⟨_, rfl, rfl⟩)
     ·
      refine r_d rfl rfl rfl (s_callD rfl cl_scope_need (.cons rfl (Wk.refl _) (.cons rfl (Wk.refl _) .nil)) (specX_inr (lg_scope_need _ _ _ hr_18))) ?_
      refine r_end ?_
      refine g_sub [(0, .ptr (.lst (t0_a0.map encG))), (1, .ptr (.int .i64 t1_a1)), (2, .ptr (.lst (t2_a2.map enc_S_api_Decl)))] (Sub.cons' rfl (Sub.cons' rfl (Sub.cons' rfl (Sub.nil _)))) ?_
      exact HKJ0 _ _ ⟨rfl, rfl, hr⟩
    ·
     refine r_skip rfl rfl rfl ?_
     refine r_skip rfl rfl rfl ?_
     refine r_d rfl rfl rfl (s_pickF rfl rfl rfl) ?_
     rcases bindXS hr with ⟨c_r_19, hr_19, rfl⟩ | ⟨r_19, hr_19, hr⟩
     ·
      refine r_die rfl rfl (s_callX _ rfl cl_scope_need (.cons rfl (Wk.refl _) (.cons rfl (Wk.refl _) .nil)) (by exact (List.Perm.refl _)) (specX_inl (lg_scope_need _ _ _ hr_19))) (hX _ ⟨_, rfl, rfl⟩)
     ·
      refine r_d rfl rfl rfl (s_callD rfl cl_scope_need (.cons rfl (Wk.refl _) (.cons rfl (Wk.refl _) .nil)) (specX_inr (lg_scope_need _ _ _ hr_19))) ?_
      refine r_end ?_
      refine g_sub [(0, .ptr (.lst (t0_a0.map encG))), (1, .ptr (.int .i64 t1_a1)), (2, .ptr (.lst (t2_a2.map enc_S_api_Decl)))] (Sub.cons' rfl (Sub.cons' rfl (Sub.cons' rfl (Sub.nil _)))) ?_
      exact HKJ0 _ _ ⟨rfl, rfl, hr⟩
   ·
    refine r_skip rfl rfl rfl ?_
    refine r_skip rfl rfl rfl ?_
    refine r_d rfl rfl rfl (s_pickF rfl rfl rfl) ?_
    refine r_d rfl rfl rfl (s_move rfl rfl) ?_
    refine r_skip rfl rfl rfl ?_
    refine r_skip rfl rfl rfl ?_
    refine r_d rfl rfl rfl (s_pickF rfl rfl rfl) ?_
    rcases bindXS hr with ⟨c_r_20, hr_20, rfl⟩ | ⟨r_20, hr_20, hr⟩
    ·
     refine r_die rfl rfl (s_callX _ rfl cl_scope_need (.cons rfl (Wk.refl _) (.cons rfl (Wk.refl _) .nil)) (by exact (List.Perm.refl _)) (specX_inl (lg_scope_need _ _ _ hr_20))) (hX _ ⟨_, rfl, rfl⟩)
    ·
     refine r_d rfl rfl rfl (s_callD rfl cl_scope_need (.cons rfl (Wk.refl _) (.cons rfl (Wk.refl _) .nil)) (specX_inr (lg_scope_need _ _ _ hr_20))) ?_
     refine r_end ?_
     refine g_sub [(0, .ptr (.lst (t0_a0.map encG))), (1, .ptr (.int .i64 t1_a1)), (2, .ptr (.lst (t2_a2.map enc_S_api_Decl)))] (Sub.cons' rfl (Sub.cons' rfl (Sub.cons' rfl (Sub.nil _)))) ?_
     exact HKJ0 _ _ ⟨rfl, rfl, hr⟩

noncomputable def lf_scope_CheckQuery (decls_a0 : (List S_api_Decl)) (l_a1 : (List Gl)) (vars_a2 : Int) : Option (Int) :=
  ((lf_scope_CheckQuery_1 l_a1 vars_a2 decls_a0).bind fun r_1 =>
  some ((caughtV r_1)))

set_option maxHeartbeats 1000000 in
theorem lg_scope_CheckQuery (decls_a0 : (List S_api_Decl)) (l_a1 : (List Gl)) (vars_a2 : Int) (res : Int) (hr : lf_scope_CheckQuery decls_a0 l_a1 vars_a2 = some res) : Gives Try.prog 16 [.lst (decls_a0.map enc_S_api_Decl), .lst (l_a1.map encG), .int .i64 vars_a2] (.int .i64 res) := by
  unfold lf_scope_CheckQuery at hr
  refine spec_env [(0, .lst (decls_a0.map enc_S_api_Decl)), (1, .lst (l_a1.map encG)), (2, .int .i64 vars_a2)] Try.func16 rfl rfl fun K hK => ?_
  refine g_seq ?_
  refine g_run (by kernel_rfl) [(0, .d), (1, .d), (2, .d), (3, .d)] rfl ?_
  refine r_d rfl rfl rfl (s_box rfl rfl rfl) ?_
  refine r_d rfl rfl rfl (s_box rfl rfl rfl) ?_
  refine r_d rfl rfl rfl (s_box rfl rfl rfl) ?_
  refine r_d rfl rfl rfl (s_assign rfl rfl) ?_
  refine r_end ?_
  refine g_seq ?_
  refine g_run (by kernel_rfl) [(0, .d), (1, .d), (2, .d)] rfl ?_
  refine r_d rfl rfl rfl (s_makeFunc rfl rfl rfl) ?_
  obtain ⟨r_1, hr_1, hr⟩ := bindS hr
  refine r_d rfl rfl rfl (s_callD rfl cl_scope_caught (.cons rfl (Wk.refl _) .nil) (caught_gives rfl cl_scope_CheckQuery_1 (lg_scope_CheckQuery_1 _ _ _ _ hr_1))) ?_
  refine r_d rfl rfl rfl (s_assign rfl rfl) ?_
  refine r_end ?_
  obtain rfl := Option.some.inj hr
  refine g_ret Try.func16 _ (.cons (resTmp rfl (Wk.refl _)) .nil) ?_
  rfl

noncomputable def lf_constraintlaw15_live : Option (Bool) :=
  (lf_constraintlaw15_rule.bind fun r_1 =>
  ((lf_scope_Check (⟨[(⟨⟨#[112]⟩, 1⟩ : S_api_Decl)], [r_1]⟩ : S_api_Program)).bind fun r_2 =>
  ((lf_scope_Check (⟨[], [r_1]⟩ : S_api_Program)).bind fun r_3 =>
  (bif (r_2.1 == (0 : Int)) then
  (bif (r_2.2 == (0 : Int)) then
  (bif (r_3.1 == (0 : Int)) then
  (bif (r_3.2 == (7 : Int)) then
  ((lf_scope_Locals r_1).bind fun r_8 =>
  ((lf_constraintref03_SameInts r_8 [1]).bind fun r_9 =>
  (bif r_9 then
  ((lf_scope_Declared [(⟨⟨#[112]⟩, 1⟩ : S_api_Decl)] ⟨#[112]⟩ 1).bind fun r_11 =>
  (bif r_11 then
  ((lf_scope_CheckQuery [(⟨⟨#[112]⟩, 1⟩ : S_api_Decl)] [(⟨0, ⟨#[112]⟩, []⟩ : Gl)] 0).bind fun r_13 =>
  some ((r_13 == (9 : Int))))
  else
  some (false)))
  else
  some (false))))
  else
  some (false))
  else
  some (false))
  else
  some (false))
  else
  some (false)))))

set_option maxHeartbeats 1000000 in
theorem lg_constraintlaw15_live (res : Bool) (hr : lf_constraintlaw15_live = some res) : Gives Try.prog 12 [] (.bool res) := by
  unfold lf_constraintlaw15_live at hr
  refine spec_env [] Try.func12 rfl rfl fun K hK => ?_
  refine g_seq ?_
  refine g_run (by kernel_rfl) [(0, .d)] rfl ?_
  refine r_d rfl rfl rfl (s_assign rfl rfl) ?_
  refine r_end ?_
  refine g_seq ?_
  refine g_run (by kernel_rfl) [(0, .d), (1, .d), (2, .d)] rfl ?_
  refine r_d rfl rfl rfl (s_build rfl bt_api_Decl (.cons rfl (Wk.refl _) (.cons rfl (Wk.refl _) .nil)) (.cons rfl rfl rfl (.cons rfl rfl rfl (.nil _)))) ?_
  refine r_d rfl rfl rfl (m_lit (f := enc_S_api_Decl) [.tmp 6] [(⟨⟨#[112]⟩, 1⟩ : S_api_Decl)] rfl el_L_api_Decl rfl rfl (by decide) (by decide) (.cons rfl (Wk.refl _) .nil) sz_S_api_Decl (fun _ => rfl)) ?_
  refine r_d rfl rfl rfl (s_assign rfl rfl) ?_
  refine r_end ?_
  refine g_seq ?_
  refine g_run (by kernel_rfl) [(0, .d), (1, .d), (2, .d), (3, .d), (4, .d), (5, .d), (6, .d), (7, .d), (8, .d), (9, .d)] rfl ?_
  refine r_d rfl rfl rfl (s_move rfl rfl) ?_
  obtain ⟨r_1, hr_1, hr⟩ := bindS hr
  refine r_d rfl rfl rfl (s_callD rfl cl_constraintlaw15_rule .nil (lg_constraintlaw15_rule _ hr_1)) ?_
  refine r_d rfl rfl rfl (m_lit (f := enc_S_api_Rule) [.tmp 10] [r_1] rfl el_L_api_Rule rfl rfl (by decide) (by decide) (.cons rfl (Wk.refl _) .nil) sz_S_api_Rule (fun _ => rfl)) ?_
  refine r_d rfl rfl rfl (s_build rfl bt_api_Program (.cons rfl (Wk.full _) (.cons rfl (Wk.full _) .nil)) (.cons rfl rfl rfl (.cons rfl rfl rfl (.nil _)))) ?_
  obtain ⟨r_2, hr_2, hr⟩ := bindS hr
  refine r_d rfl rfl rfl (s_callD rfl cl_scope_Check (.cons rfl (Wk.refl _) .nil) (lg_scope_Check _ _ hr_2)) ?_
  refine r_d rfl rfl rfl (s_move rfl rfl) ?_
  refine r_d rfl rfl rfl (s_extract rfl rfl rfl) ?_
  refine r_d rfl rfl rfl (s_extract rfl rfl rfl) ?_
  refine r_d rfl rfl rfl (s_assign rfl rfl) ?_
  refine r_d rfl rfl rfl (s_assign rfl rfl) ?_
  refine r_end ?_
  refine g_seq ?_
  refine g_run (by kernel_rfl) [(0, .d), (1, .d), (2, .d), (3, .d), (4, .d), (5, .d), (6, .d), (7, .d), (8, .d)] rfl ?_
  refine r_d rfl rfl rfl (s_callD rfl cl_constraintlaw15_rule .nil (lg_constraintlaw15_rule _ hr_1)) ?_
  refine r_d rfl rfl rfl (m_lit (f := enc_S_api_Rule) [.tmp 17] [r_1] rfl el_L_api_Rule rfl rfl (by decide) (by decide) (.cons rfl (Wk.refl _) .nil) sz_S_api_Rule (fun _ => rfl)) ?_
  refine r_d rfl rfl rfl (s_build rfl bt_api_Program (.cons rfl (Wk.full _) .nil) (.cons rfl rfl rfl (.nil _))) ?_
  obtain ⟨r_3, hr_3, hr⟩ := bindS hr
  refine r_d rfl rfl rfl (s_callD rfl cl_scope_Check (.cons rfl (Wk.refl _) .nil) (lg_scope_Check _ _ hr_3)) ?_
  refine r_d rfl rfl rfl (s_move rfl rfl) ?_
  refine r_d rfl rfl rfl (s_extract rfl rfl rfl) ?_
  refine r_d rfl rfl rfl (s_extract rfl rfl rfl) ?_
  refine r_d rfl rfl rfl (s_assign rfl rfl) ?_
  refine r_d rfl rfl rfl (s_assign rfl rfl) ?_
  refine r_end ?_
  refine g_seq ?_
  refine g_run (by kernel_rfl) [(0, .d), (1, .d), (2, .d), (3, .d), (4, .d), (5, .d), (6, .d), (7, .d), (8, .d), (9, .d), (10, .d), (11, .d), (12, .d), (13, .d), (14, .d), (15, .d), (16, .d), (17, .d), (18, .d), (19, .d), (20, .d), (21, .d), (22, .d), (23, .d), (24, .d), (25, .d), (26, .d), (27, .d), (28, .d), (29, .d), (30, .d), (31, .d)] rfl ?_
  refine r_d rfl rfl rfl (s_move rfl rfl) ?_
  refine r_d rfl rfl rfl (s_cmp rfl rfl rfl rfl) ?_
  refine r_d rfl rfl rfl (s_move rfl rfl) ?_
  refine r_sB 25 rfl hr (fun h25_3 hr => ?_) (fun h25_3 hr => ?_)
  ·
   refine r_d rfl rfl rfl (s_move rfl rfl) ?_
   refine r_d rfl rfl rfl (s_cmp rfl rfl rfl rfl) ?_
   refine r_d rfl rfl rfl (s_pickT rfl rfl rfl) ?_
   refine r_d rfl rfl rfl (s_move rfl rfl) ?_
   refine r_sB 29 rfl hr (fun h29_4 hr => ?_) (fun h29_4 hr => ?_)
   ·
    refine r_d rfl rfl rfl (s_move rfl rfl) ?_
    refine r_d rfl rfl rfl (s_cmp rfl rfl rfl rfl) ?_
    refine r_d rfl rfl rfl (s_pickT rfl rfl rfl) ?_
    refine r_d rfl rfl rfl (s_move rfl rfl) ?_
    refine r_sB 33 rfl hr (fun h33_5 hr => ?_) (fun h33_5 hr => ?_)
    ·
     refine r_d rfl rfl rfl (s_move rfl rfl) ?_
     refine r_d rfl rfl rfl (s_cmp rfl rfl rfl rfl) ?_
     refine r_d rfl rfl rfl (s_pickT rfl rfl rfl) ?_
     refine r_d rfl rfl rfl (s_move rfl rfl) ?_
     refine r_sB 37 rfl hr (fun h37_6 hr => ?_) (fun h37_6 hr => ?_)
     ·
      refine r_d rfl rfl rfl (s_callD rfl cl_constraintlaw15_rule .nil (lg_constraintlaw15_rule _ hr_1)) ?_
      obtain ⟨r_8, hr_8, hr⟩ := bindS hr
      refine r_d rfl rfl rfl (s_callD rfl cl_scope_Locals (.cons rfl (Wk.refl _) .nil) (lg_scope_Locals _ _ hr_8)) ?_
      refine r_d rfl rfl rfl (m_lit (f := (D.int .i64)) [.const (.int .i64 (1))] [1] rfl el_L_int rfl rfl (by decide) (by decide) (.cons rfl (Wk.refl _) .nil) (fun _ => rfl) (fun _ => rfl)) ?_
      obtain ⟨r_9, hr_9, hr⟩ := bindS hr
      refine r_d rfl rfl rfl (by exact s_callD rfl cl_constraintref03_SameInts (.cons rfl (Wk.refl _) (.cons rfl (Wk.full _) .nil)) (lg_constraintref03_SameInts _ _ _ hr_9)) ?_
      refine r_d rfl rfl rfl (s_pickT rfl rfl rfl) ?_
      refine r_d rfl rfl rfl (s_move rfl rfl) ?_
      refine r_sB 43 rfl hr (fun h43_9 hr => ?_) (fun h43_9 hr => ?_)
      ·
       refine r_d rfl rfl rfl (s_move rfl rfl) ?_
       obtain ⟨r_11, hr_11, hr⟩ := bindS hr
       refine r_d rfl rfl rfl (by exact s_callD rfl cl_scope_Declared (.cons rfl (Wk.full _) (.cons rfl (Wk.refl _) (.cons rfl (Wk.refl _) .nil))) (lg_scope_Declared _ _ _ _ hr_11)) ?_
       refine r_d rfl rfl rfl (s_pickT rfl rfl rfl) ?_
       refine r_d rfl rfl rfl (s_move rfl rfl) ?_
       refine r_sB 47 rfl hr (fun h47_11 hr => ?_) (fun h47_11 hr => ?_)
       ·
        refine r_d rfl rfl rfl (s_move rfl rfl) ?_
        refine r_d rfl rfl rfl (s_build rfl bt_api_Goal (.cons rfl (Wk.refl _) .nil) (.cons rfl rfl rfl (.nil _))) ?_
        refine r_d rfl rfl rfl (m_lit (f := encG) [.tmp 49] [(⟨0, ⟨#[112]⟩, []⟩ : Gl)] rfl el_L_api_Goal rfl rfl (by decide) (by decide) (.cons rfl (Wk.refl _) .nil) sz_encG (fun _ => rfl)) ?_
        obtain ⟨r_13, hr_13, hr⟩ := bindS hr
        refine r_d rfl rfl rfl (by exact s_callD rfl cl_scope_CheckQuery (.cons rfl (Wk.full _) (.cons rfl (Wk.full _) (.cons rfl (Wk.refl _) .nil))) (lg_scope_CheckQuery _ _ _ _ hr_13)) ?_
        refine r_d rfl rfl rfl (s_cmp rfl rfl rfl rfl) ?_
        refine r_d rfl rfl rfl (s_pickT rfl rfl rfl) ?_
        refine r_d rfl rfl rfl (s_assign rfl rfl) ?_
        refine r_end ?_
        obtain rfl := Option.some.inj hr
        refine g_ret Try.func12 _ (.cons (resTmp rfl (Wk.refl _)) .nil) ?_
        rfl
       ·
        refine r_skip rfl rfl rfl ?_
        refine r_skip rfl rfl rfl ?_
        refine r_skip rfl rfl rfl ?_
        refine r_skip rfl rfl rfl ?_
        refine r_skip rfl rfl rfl ?_
        refine r_d rfl rfl rfl (s_pickF rfl rfl rfl) ?_
        refine r_d rfl rfl rfl (s_assign rfl rfl) ?_
        refine r_end ?_
        obtain rfl := Option.some.inj hr
        refine g_ret Try.func12 _ (.cons (resTmp rfl (Wk.refl _)) .nil) ?_
        rfl
      ·
       refine r_skip rfl rfl rfl ?_
       refine r_skip rfl rfl rfl ?_
       refine r_d rfl rfl rfl (s_pickF rfl rfl rfl) ?_
       refine r_d rfl rfl rfl (s_move rfl rfl) ?_
       refine r_skip rfl rfl rfl ?_
       refine r_skip rfl rfl rfl ?_
       refine r_skip rfl rfl rfl ?_
       refine r_skip rfl rfl rfl ?_
       refine r_skip rfl rfl rfl ?_
       refine r_d rfl rfl rfl (s_pickF rfl rfl rfl) ?_
       refine r_d rfl rfl rfl (s_assign rfl rfl) ?_
       refine r_end ?_
       obtain rfl := Option.some.inj hr
       refine g_ret Try.func12 _ (.cons (resTmp rfl (Wk.refl _)) .nil) ?_
       rfl
     ·
      refine r_skip rfl rfl rfl ?_
      refine r_skip rfl rfl rfl ?_
      refine r_skip rfl rfl rfl ?_
      refine r_skip rfl rfl rfl ?_
      refine r_d rfl rfl rfl (s_pickF rfl rfl rfl) ?_
      refine r_d rfl rfl rfl (s_move rfl rfl) ?_
      refine r_skip rfl rfl rfl ?_
      refine r_skip rfl rfl rfl ?_
      refine r_d rfl rfl rfl (s_pickF rfl rfl rfl) ?_
      refine r_d rfl rfl rfl (s_move rfl rfl) ?_
      refine r_skip rfl rfl rfl ?_
      refine r_skip rfl rfl rfl ?_
      refine r_skip rfl rfl rfl ?_
      refine r_skip rfl rfl rfl ?_
      refine r_skip rfl rfl rfl ?_
      refine r_d rfl rfl rfl (s_pickF rfl rfl rfl) ?_
      refine r_d rfl rfl rfl (s_assign rfl rfl) ?_
      refine r_end ?_
      obtain rfl := Option.some.inj hr
      refine g_ret Try.func12 _ (.cons (resTmp rfl (Wk.refl _)) .nil) ?_
      rfl
    ·
     refine r_skip rfl rfl rfl ?_
     refine r_skip rfl rfl rfl ?_
     refine r_d rfl rfl rfl (s_pickF rfl rfl rfl) ?_
     refine r_d rfl rfl rfl (s_move rfl rfl) ?_
     refine r_skip rfl rfl rfl ?_
     refine r_skip rfl rfl rfl ?_
     refine r_skip rfl rfl rfl ?_
     refine r_skip rfl rfl rfl ?_
     refine r_d rfl rfl rfl (s_pickF rfl rfl rfl) ?_
     refine r_d rfl rfl rfl (s_move rfl rfl) ?_
     refine r_skip rfl rfl rfl ?_
     refine r_skip rfl rfl rfl ?_
     refine r_d rfl rfl rfl (s_pickF rfl rfl rfl) ?_
     refine r_d rfl rfl rfl (s_move rfl rfl) ?_
     refine r_skip rfl rfl rfl ?_
     refine r_skip rfl rfl rfl ?_
     refine r_skip rfl rfl rfl ?_
     refine r_skip rfl rfl rfl ?_
     refine r_skip rfl rfl rfl ?_
     refine r_d rfl rfl rfl (s_pickF rfl rfl rfl) ?_
     refine r_d rfl rfl rfl (s_assign rfl rfl) ?_
     refine r_end ?_
     obtain rfl := Option.some.inj hr
     refine g_ret Try.func12 _ (.cons (resTmp rfl (Wk.refl _)) .nil) ?_
     rfl
   ·
    refine r_skip rfl rfl rfl ?_
    refine r_skip rfl rfl rfl ?_
    refine r_d rfl rfl rfl (s_pickF rfl rfl rfl) ?_
    refine r_d rfl rfl rfl (s_move rfl rfl) ?_
    refine r_skip rfl rfl rfl ?_
    refine r_skip rfl rfl rfl ?_
    refine r_d rfl rfl rfl (s_pickF rfl rfl rfl) ?_
    refine r_d rfl rfl rfl (s_move rfl rfl) ?_
    refine r_skip rfl rfl rfl ?_
    refine r_skip rfl rfl rfl ?_
    refine r_skip rfl rfl rfl ?_
    refine r_skip rfl rfl rfl ?_
    refine r_d rfl rfl rfl (s_pickF rfl rfl rfl) ?_
    refine r_d rfl rfl rfl (s_move rfl rfl) ?_
    refine r_skip rfl rfl rfl ?_
    refine r_skip rfl rfl rfl ?_
    refine r_d rfl rfl rfl (s_pickF rfl rfl rfl) ?_
    refine r_d rfl rfl rfl (s_move rfl rfl) ?_
    refine r_skip rfl rfl rfl ?_
    refine r_skip rfl rfl rfl ?_
    refine r_skip rfl rfl rfl ?_
    refine r_skip rfl rfl rfl ?_
    refine r_skip rfl rfl rfl ?_
    refine r_d rfl rfl rfl (s_pickF rfl rfl rfl) ?_
    refine r_d rfl rfl rfl (s_assign rfl rfl) ?_
    refine r_end ?_
    obtain rfl := Option.some.inj hr
    refine g_ret Try.func12 _ (.cons (resTmp rfl (Wk.refl _)) .nil) ?_
    rfl
  ·
   refine r_skip rfl rfl rfl ?_
   refine r_skip rfl rfl rfl ?_
   refine r_d rfl rfl rfl (s_pickF rfl rfl rfl) ?_
   refine r_d rfl rfl rfl (s_move rfl rfl) ?_
   refine r_skip rfl rfl rfl ?_
   refine r_skip rfl rfl rfl ?_
   refine r_d rfl rfl rfl (s_pickF rfl rfl rfl) ?_
   refine r_d rfl rfl rfl (s_move rfl rfl) ?_
   refine r_skip rfl rfl rfl ?_
   refine r_skip rfl rfl rfl ?_
   refine r_d rfl rfl rfl (s_pickF rfl rfl rfl) ?_
   refine r_d rfl rfl rfl (s_move rfl rfl) ?_
   refine r_skip rfl rfl rfl ?_
   refine r_skip rfl rfl rfl ?_
   refine r_skip rfl rfl rfl ?_
   refine r_skip rfl rfl rfl ?_
   refine r_d rfl rfl rfl (s_pickF rfl rfl rfl) ?_
   refine r_d rfl rfl rfl (s_move rfl rfl) ?_
   refine r_skip rfl rfl rfl ?_
   refine r_skip rfl rfl rfl ?_
   refine r_d rfl rfl rfl (s_pickF rfl rfl rfl) ?_
   refine r_d rfl rfl rfl (s_move rfl rfl) ?_
   refine r_skip rfl rfl rfl ?_
   refine r_skip rfl rfl rfl ?_
   refine r_skip rfl rfl rfl ?_
   refine r_skip rfl rfl rfl ?_
   refine r_skip rfl rfl rfl ?_
   refine r_d rfl rfl rfl (s_pickF rfl rfl rfl) ?_
   refine r_d rfl rfl rfl (s_assign rfl rfl) ?_
   refine r_end ?_
   obtain rfl := Option.some.inj hr
   refine g_ret Try.func12 _ (.cons (resTmp rfl (Wk.refl _)) .nil) ?_
   rfl

end Go.Proofs.Ytgndcnknmkcacaa

