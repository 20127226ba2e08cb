/-
  Texts of the seat, merged.
-/
import Derived.Test.YtnldggbcfcibaaaLGA
import Derived.Test.YtnldggbcfcibaaaLGB
import Derived.Test.YtnldggbcfcibaaaLGC
import Derived.Test.YtnldggbcfcibaaaChecked
import Derived.WalkKit
import Derived.Lib.Hide
import Derived.Lib.AppendStr
import Derived.Deep.AppendLies
import Derived.Deep.AppendSrc
import Derived.Deep.Draws
import Derived.Deep.QuietTactic
import Derived.BigQuiet
import Derived.Deep.RegionWith
import Derived.Maps.AppendAt
import Derived.WalkSpells
import Derived.Orders
import Derived.Deep.Slices
import Derived.Deep.Fields
import Derived.ChangeArms
import Derived.Lib.OthersKept
import Derived.Lib.TrimU
import Derived.Lib.IndexAny
import Derived.Deep.LoopGhost
import Derived.Lib.Bytealg
import Derived.RangeFuncBox
import Derived.RangeFuncNested
import Derived.RangeFuncBound
import Derived.RangeFuncCalls
import Derived.RangeFuncLeaves
import Derived.Shelf.Abstract
import Derived.OwnWalkIn
import Derived.TacticsInMore
import Derived.LoopNIn
import Derived.LoopIn
import Derived.RangeFuncWrites
import Derived.Maps.OwnIn
import Derived.Maps.Views
import Derived.Laws.OwnMore
import Derived.Maps.OwnSet
import Derived.Test.YtnldggbcfcibaaaRows
import Derived.ProofKit
import Derived.OpenShut
import Derived.Carry
import Derived.OrdersIn
import Derived.Great.BuildSlice
import Derived.ArgAppend
import Derived.Laws.MakeOwn
import Derived.Laws.Cover3
import Derived.Laws.CopyRow
import Derived.MapKept
import Derived.Maps.RangeRun
import Derived.DeepKeys5
import Derived.WideKeyRuns
import Derived.RangeFuncOwn
set_option linter.unusedVariables false
set_option linter.unusedSimpArgs false
set_option linter.unnecessarySimpa false
set_option linter.all false

namespace Go.Proofs.Ytnldggbcfcibaaa
set_option maxRecDepth 100000
open Go.RowKit

theorem zm_Unit : ZeroM Try.prog 75 (.agg []) := ⟨.agg #[], by kernel_rfl, fun _ _ => by simp only [Rep]; exact ⟨[], rfl, Reps.nil _ _, by simp⟩⟩

structure S_stored_occurrence where
  f0_Occ : S_api_Occ
  f1_rule : S_api_Rule

def enc_S_stored_occurrence (x : S_stored_occurrence) : D := .agg [enc_S_api_Occ x.f0_Occ, enc_S_api_Rule x.f1_rule]

theorem sz_S_stored_occurrence (x : S_stored_occurrence) : sz (enc_S_stored_occurrence x) = 9 := by
  simp only [enc_S_stored_occurrence, sz, szs, sz_S_api_Occ, sz_S_api_Rule]

theorem zvx_stored_variables : ZeroV Try.prog 54 (.nilm) := .val (.map none) rfl (by kernel_rfl) rfl

theorem bo_api_Program_1 : BuildT Try.prog 25 [.lst (([] : List _).map enc_S_api_Decl), .own (.slice none 0 0) []] := .mk rfl (by kernel_rfl) Try.underlying25 (by kernel_rfl)

noncomputable def lf_constraintref03_GreatAtoms_L0 (k : (Int) → Option (Bool)) : List At → Int → Option (Bool)
  | [], most_1 =>
  (k most_1)
  | q_4 :: rest, most_1 =>
  (bif (decide (most_1 ≥ (0 : Int))) then
  ((x_weigh q_4.ts (wr ((wr (most_1 - (1 : Int))) - (wr (Int.tdiv (q_4.n.size : Int) 8)))) 64).bind fun r_6 =>
  (lf_constraintref03_GreatAtoms_L0 k rest r_6))
  else
  (k most_1))
noncomputable def lf_constraintref03_GreatAtoms (l_a0 : (List At)) (most_a1 : Int) : Option (Bool) :=
  (lf_constraintref03_GreatAtoms_L0 (fun most_3 =>
  some ((decide (most_3 < (0 : Int))))) l_a0 most_a1)

set_option maxHeartbeats 1000000 in
theorem lg_constraintref03_GreatAtoms (l_a0 : (List At)) (most_a1 : Int) (res : Bool) (hr : lf_constraintref03_GreatAtoms l_a0 most_a1 = some res) : Gives Try.prog 35 [.lst (l_a0.map encA), .int .i64 most_a1] (.bool res) := by
  unfold lf_constraintref03_GreatAtoms at hr
  refine spec_env [(0, .lst (l_a0.map encA)), (1, .int .i64 most_a1)] Try.func35 rfl rfl fun K hK => ?_
  refine g_seq ?_
  refine g_run (by kernel_rfl) [(0, .d)] rfl ?_
  refine r_d rfl rfl rfl (s_assign rfl rfl) ?_
  refine r_end ?_
  refine g_seq ?_
  refine g_seq ?_
  refine g_run (by kernel_rfl) [(0, .d)] rfl ?_
  refine r_d rfl rfl rfl (s_assign rfl rfl) ?_
  refine r_end ?_
  obtain ⟨kk0, hkk0, hr⟩ := exK (fun k => lf_constraintref03_GreatAtoms_L0 k l_a0 most_a1) hr
  refine g_len 0 rfl (asl rfl) fun hla0 => ?_
  simp only [List.length_map] at hla0
  refine g_blockJ (fun env σ => ∃ (most_3 : Int), env = [(1, .int .i64 most_3)] ∧ σ = [] ∧ kk0 most_3 = some res) ?_ (fun HK0 => ?_)
  ·
   rintro _ _ ⟨most_3, rfl, rfl, hr⟩
   rw [hkk0] at hr
   refine g_seq ?_
   refine g_run (by kernel_rfl) [(0, .d), (1, .d), (2, .d)] rfl ?_
   refine r_d rfl rfl rfl (s_move rfl rfl) ?_
   refine r_d rfl rfl rfl (s_cmp rfl rfl rfl rfl) ?_
   refine r_d rfl rfl rfl (s_assign rfl rfl) ?_
   refine r_end ?_
   obtain rfl := Option.some.inj hr
   refine g_ret Try.func35 _ (.cons (resTmp rfl (Wk.refl _)) .nil) ?_
   rfl
  ·
   refine g_sub [(0, .lst (l_a0.map encA)), (1, .int .i64 most_a1), (5, .int .i64 ((0 : Nat) : Int))] (Sub.cons' rfl (Sub.cons' rfl (Sub.cons' rfl (Sub.nil _)))) ?_
   refine g_loop (fun n env σ => ∃ (most_1 : Int) (i_2 : Nat), (n = l_a0.length - i_2) ∧ (env = [(0, .lst (l_a0.map encA)), (1, .int .i64 most_1), (5, .int .i64 (i_2 : Int))]) ∧ (σ = []) ∧ (i_2 ≤ l_a0.length) ∧ (lf_constraintref03_GreatAtoms_L0 kk0 (l_a0.drop i_2) most_1 = some res)) _ ⟨most_a1, 0, rfl, rfl, rfl, Nat.zero_le _, hr⟩ ?_
   rintro n _ _ ⟨most_1, i_2, rfl, rfl, rfl, hi0, hr⟩ IH0
   rcases listStep l_a0 i_2 hi0 with ⟨ht0, hd0, he0⟩ | ⟨q_4, ht0, hd0, hq0, hlt0⟩
   ·
    rw [hd0, lf_constraintref03_GreatAtoms_L0] at hr
    refine g_seq ?_
    refine g_seq ?_
    refine g_run (by kernel_rfl) [(0, .d), (1, .d), (2, .d), (3, .d), (4, .d), (5, .d), (6, .d), (7, .d)] rfl ?_
    refine r_d rfl rfl rfl (s_move rfl rfl) ?_
    refine r_d rfl rfl rfl (s_move rfl rfl) ?_
    refine r_d rfl rfl rfl (m_len (f := encA) l_a0 rfl el_L_api_Atom rfl (asl rfl)) ?_
    refine r_d rfl rfl rfl (s_cmp rfl rfl rfl rfl) ?_
    refine r_d rfl rfl rfl (s_move rfl rfl) ?_
    refine r_known 10 false rfl ht0 ?_
    refine r_skip rfl rfl rfl ?_
    refine r_skip rfl rfl rfl ?_
    refine r_d rfl rfl rfl (s_pickF rfl rfl rfl) ?_
    refine r_end ?_
    refine g_condF rfl ?_
    refine g_exit rfl ?_
    refine g_sub [(1, .int .i64 most_1)] (Sub.cons' rfl (Sub.nil _)) ?_
    exact HK0 _ _ ⟨most_1, rfl, rfl, hr⟩
   ·
    rw [hd0, lf_constraintref03_GreatAtoms_L0] at hr
    refine g_seq ?_
    refine g_seq ?_
    refine g_run (by kernel_rfl) [(0, .d), (1, .d), (2, .d), (3, .d), (4, .d), (5, .d), (6, .d), (7, .d)] rfl ?_
    refine r_d rfl rfl rfl (s_move rfl rfl) ?_
    refine r_d rfl rfl rfl (s_move rfl rfl) ?_
    refine r_d rfl rfl rfl (m_len (f := encA) l_a0 rfl el_L_api_Atom rfl (asl rfl)) ?_
    refine r_d rfl rfl rfl (s_cmp rfl rfl rfl rfl) ?_
    refine r_d rfl rfl rfl (s_move rfl rfl) ?_
    refine r_known 10 true rfl ht0 ?_
    refine r_d rfl rfl rfl (s_move rfl rfl) ?_
    refine r_d rfl rfl rfl (s_cmp rfl rfl rfl rfl) ?_
    refine r_d rfl rfl rfl (s_pickT rfl rfl rfl) ?_
    refine r_end ?_
    refine g_sB 13 rfl hr (fun h13_4 hr => ?_) (fun h13_4 hr => ?_)
    ·
     refine g_condT rfl ?_
     refine g_skip ?_
     refine g_seq ?_
     refine g_block ?_
     refine g_any (by kernel_rfl) (by kernel_rfl) [(0, .d), (1, .d), (2, .d), (3, .d), (4, .d), (5, .d), (6, .d), (7, .d), (8, .d), (9, .d), (10, .d), (11, .d), (12, .d), (13, .d), (14, .d), (15, .d), (16, .d)] (by kernel_rfl) ?_
     refine r_d rfl rfl rfl (s_move rfl rfl) ?_
     refine r_d rfl rfl rfl (s_move rfl rfl) ?_
     refine r_d rfl rfl rfl (m_index (f := encA) l_a0 rfl el_L_api_Atom rfl (asl rfl) rfl hq0 sz_encA rfl) ?_
     refine r_d rfl rfl rfl (s_fieldAddr rfl fl_api_Atom_1 rfl rfl rfl rfl) ?_
     refine r_d rfl rfl rfl (s_load rfl rfl (by exact ty_L_api_Term) rfl) ?_
     refine r_d rfl rfl rfl (s_move rfl rfl) ?_
     refine r_d rfl rfl rfl (s_arW rfl rfl rfl rfl) ?_
     refine r_d rfl rfl rfl (s_move rfl rfl) ?_
     refine r_d rfl rfl rfl (s_move rfl rfl) ?_
     refine r_d rfl rfl rfl (m_index (f := encA) l_a0 rfl el_L_api_Atom rfl (asl rfl) rfl hq0 sz_encA rfl) ?_
     refine r_d rfl rfl rfl (s_fieldAddr rfl fl_api_Atom_0 rfl rfl rfl rfl) ?_
     refine r_d rfl rfl rfl (s_load rfl rfl (by exact ty_string) rfl) ?_
     refine r_d rfl rfl rfl (s_lenS rfl Try.underlying9 rfl) ?_
     refine r_d rfl rfl rfl (s_quoC rfl rfl rfl (by decide)) ?_
     refine r_d rfl rfl rfl (s_arW rfl rfl rfl rfl) ?_
     obtain ⟨r_6, hr_6, hr⟩ := bindS hr
     refine r_d rfl rfl rfl (s_callD rfl cl_constraintref03_weigh (.cons rfl (Wk.refl _) (.cons rfl (Wk.refl _) (.cons rfl (Wk.refl _) .nil))) (lx_constraintref03_weigh _ _ _ _ hr_6)) ?_
     refine r_d rfl rfl rfl (s_assign rfl rfl) ?_
     refine r_end ?_
     refine g_inBlock ?_
     refine g_run (by kernel_rfl) [(0, .d), (1, .d), (2, .d)] rfl ?_
     refine r_d rfl rfl rfl (s_move rfl rfl) ?_
     refine r_d rfl rfl rfl (s_ar (r := ((i_2 + 1 : Nat) : Int)) rfl rfl rfl (by simp [iar]) (by omega)) ?_
     refine r_d rfl rfl rfl (s_assign rfl rfl) ?_
     refine r_end ?_
     refine g_sub [(0, .lst (l_a0.map encA)), (1, .int .i64 r_6), (5, .int .i64 ((i_2 + 1 : Nat) : Int))] (Sub.cons' rfl (Sub.cons' rfl (Sub.cons' rfl (Sub.nil _)))) ?_
     exact IH0 _ _ _ (by omega) ⟨r_6, (i_2 + 1), rfl, rfl, rfl, (by omega), hr⟩
    ·
     refine g_condF rfl ?_
     refine g_exit rfl ?_
     refine g_sub [(1, .int .i64 most_1)] (Sub.cons' rfl (Sub.nil _)) ?_
     exact HK0 _ _ ⟨most_1, rfl, rfl, hr⟩

noncomputable def lf_constraintref03_GreatGoals_L0 (k : (Int) → Option (Bool)) : List Gl → Int → Option (Bool)
  | [], most_1 =>
  (k most_1)
  | q_4 :: rest, most_1 =>
  (bif (decide (most_1 ≥ (0 : Int))) then
  ((x_weigh q_4.ts (wr ((wr (most_1 - (1 : Int))) - (wr (Int.tdiv (q_4.n.size : Int) 8)))) 64).bind fun r_6 =>
  (lf_constraintref03_GreatGoals_L0 k rest r_6))
  else
  (k most_1))
noncomputable def lf_constraintref03_GreatGoals (l_a0 : (List Gl)) (most_a1 : Int) : Option (Bool) :=
  (lf_constraintref03_GreatGoals_L0 (fun most_3 =>
  some ((decide (most_3 < (0 : Int))))) l_a0 most_a1)

set_option maxHeartbeats 1000000 in
theorem lg_constraintref03_GreatGoals (l_a0 : (List Gl)) (most_a1 : Int) (res : Bool) (hr : lf_constraintref03_GreatGoals l_a0 most_a1 = some res) : Gives Try.prog 36 [.lst (l_a0.map encG), .int .i64 most_a1] (.bool res) := by
  unfold lf_constraintref03_GreatGoals at hr
  refine spec_env [(0, .lst (l_a0.map encG)), (1, .int .i64 most_a1)] Try.func36 rfl rfl fun K hK => ?_
  refine g_seq ?_
  refine g_run (by kernel_rfl) [(0, .d)] rfl ?_
  refine r_d rfl rfl rfl (s_assign rfl rfl) ?_
  refine r_end ?_
  refine g_seq ?_
  refine g_seq ?_
  refine g_run (by kernel_rfl) [(0, .d)] rfl ?_
  refine r_d rfl rfl rfl (s_assign rfl rfl) ?_
  refine r_end ?_
  obtain ⟨kk0, hkk0, hr⟩ := exK (fun k => lf_constraintref03_GreatGoals_L0 k l_a0 most_a1) hr
  refine g_len 0 rfl (asl rfl) fun hla0 => ?_
  simp only [List.length_map] at hla0
  refine g_blockJ (fun env σ => ∃ (most_3 : Int), env = [(1, .int .i64 most_3)] ∧ σ = [] ∧ kk0 most_3 = some res) ?_ (fun HK0 => ?_)
  ·
   rintro _ _ ⟨most_3, rfl, rfl, hr⟩
   rw [hkk0] at hr
   refine g_seq ?_
   refine g_run (by kernel_rfl) [(0, .d), (1, .d), (2, .d)] rfl ?_
   refine r_d rfl rfl rfl (s_move rfl rfl) ?_
   refine r_d rfl rfl rfl (s_cmp rfl rfl rfl rfl) ?_
   refine r_d rfl rfl rfl (s_assign rfl rfl) ?_
   refine r_end ?_
   obtain rfl := Option.some.inj hr
   refine g_ret Try.func36 _ (.cons (resTmp rfl (Wk.refl _)) .nil) ?_
   rfl
  ·
   refine g_sub [(0, .lst (l_a0.map encG)), (1, .int .i64 most_a1), (5, .int .i64 ((0 : Nat) : Int))] (Sub.cons' rfl (Sub.cons' rfl (Sub.cons' rfl (Sub.nil _)))) ?_
   refine g_loop (fun n env σ => ∃ (most_1 : Int) (i_2 : Nat), (n = l_a0.length - i_2) ∧ (env = [(0, .lst (l_a0.map encG)), (1, .int .i64 most_1), (5, .int .i64 (i_2 : Int))]) ∧ (σ = []) ∧ (i_2 ≤ l_a0.length) ∧ (lf_constraintref03_GreatGoals_L0 kk0 (l_a0.drop i_2) most_1 = some res)) _ ⟨most_a1, 0, rfl, rfl, rfl, Nat.zero_le _, hr⟩ ?_
   rintro n _ _ ⟨most_1, i_2, rfl, rfl, rfl, hi0, hr⟩ IH0
   rcases listStep l_a0 i_2 hi0 with ⟨ht0, hd0, he0⟩ | ⟨q_4, ht0, hd0, hq0, hlt0⟩
   ·
    rw [hd0, lf_constraintref03_GreatGoals_L0] at hr
    refine g_seq ?_
    refine g_seq ?_
    refine g_run (by kernel_rfl) [(0, .d), (1, .d), (2, .d), (3, .d), (4, .d), (5, .d), (6, .d), (7, .d)] rfl ?_
    refine r_d rfl rfl rfl (s_move rfl rfl) ?_
    refine r_d rfl rfl rfl (s_move rfl rfl) ?_
    refine r_d rfl rfl rfl (m_len (f := encG) l_a0 rfl el_L_api_Goal rfl (asl rfl)) ?_
    refine r_d rfl rfl rfl (s_cmp rfl rfl rfl rfl) ?_
    refine r_d rfl rfl rfl (s_move rfl rfl) ?_
    refine r_known 10 false rfl ht0 ?_
    refine r_skip rfl rfl rfl ?_
    refine r_skip rfl rfl rfl ?_
    refine r_d rfl rfl rfl (s_pickF rfl rfl rfl) ?_
    refine r_end ?_
    refine g_condF rfl ?_
    refine g_exit rfl ?_
    refine g_sub [(1, .int .i64 most_1)] (Sub.cons' rfl (Sub.nil _)) ?_
    exact HK0 _ _ ⟨most_1, rfl, rfl, hr⟩
   ·
    rw [hd0, lf_constraintref03_GreatGoals_L0] at hr
    refine g_seq ?_
    refine g_seq ?_
    refine g_run (by kernel_rfl) [(0, .d), (1, .d), (2, .d), (3, .d), (4, .d), (5, .d), (6, .d), (7, .d)] rfl ?_
    refine r_d rfl rfl rfl (s_move rfl rfl) ?_
    refine r_d rfl rfl rfl (s_move rfl rfl) ?_
    refine r_d rfl rfl rfl (m_len (f := encG) l_a0 rfl el_L_api_Goal rfl (asl rfl)) ?_
    refine r_d rfl rfl rfl (s_cmp rfl rfl rfl rfl) ?_
    refine r_d rfl rfl rfl (s_move rfl rfl) ?_
    refine r_known 10 true rfl ht0 ?_
    refine r_d rfl rfl rfl (s_move rfl rfl) ?_
    refine r_d rfl rfl rfl (s_cmp rfl rfl rfl rfl) ?_
    refine r_d rfl rfl rfl (s_pickT rfl rfl rfl) ?_
    refine r_end ?_
    refine g_sB 13 rfl hr (fun h13_4 hr => ?_) (fun h13_4 hr => ?_)
    ·
     refine g_condT rfl ?_
     refine g_skip ?_
     refine g_seq ?_
     refine g_block ?_
     refine g_any (by kernel_rfl) (by kernel_rfl) [(0, .d), (1, .d), (2, .d), (3, .d), (4, .d), (5, .d), (6, .d), (7, .d), (8, .d), (9, .d), (10, .d), (11, .d), (12, .d), (13, .d), (14, .d), (15, .d), (16, .d)] (by kernel_rfl) ?_
     refine r_d rfl rfl rfl (s_move rfl rfl) ?_
     refine r_d rfl rfl rfl (s_move rfl rfl) ?_
     refine r_d rfl rfl rfl (m_index (f := encG) l_a0 rfl el_L_api_Goal rfl (asl rfl) rfl hq0 sz_encG rfl) ?_
     refine r_d rfl rfl rfl (s_fieldAddr rfl fl_api_Goal_2 rfl rfl rfl rfl) ?_
     refine r_d rfl rfl rfl (s_load rfl rfl (by exact ty_L_api_Term) rfl) ?_
     refine r_d rfl rfl rfl (s_move rfl rfl) ?_
     refine r_d rfl rfl rfl (s_arW rfl rfl rfl rfl) ?_
     refine r_d rfl rfl rfl (s_move rfl rfl) ?_
     refine r_d rfl rfl rfl (s_move rfl rfl) ?_
     refine r_d rfl rfl rfl (m_index (f := encG) l_a0 rfl el_L_api_Goal rfl (asl rfl) rfl hq0 sz_encG rfl) ?_
     refine r_d rfl rfl rfl (s_fieldAddr rfl fl_api_Goal_1 rfl rfl rfl rfl) ?_
     refine r_d rfl rfl rfl (s_load rfl rfl (by exact ty_string) rfl) ?_
     refine r_d rfl rfl rfl (s_lenS rfl Try.underlying9 rfl) ?_
     refine r_d rfl rfl rfl (s_quoC rfl rfl rfl (by decide)) ?_
     refine r_d rfl rfl rfl (s_arW rfl rfl rfl rfl) ?_
     obtain ⟨r_6, hr_6, hr⟩ := bindS hr
     refine r_d rfl rfl rfl (s_callD rfl cl_constraintref03_weigh (.cons rfl (Wk.refl _) (.cons rfl (Wk.refl _) (.cons rfl (Wk.refl _) .nil))) (lx_constraintref03_weigh _ _ _ _ hr_6)) ?_
     refine r_d rfl rfl rfl (s_assign rfl rfl) ?_
     refine r_end ?_
     refine g_inBlock ?_
     refine g_run (by kernel_rfl) [(0, .d), (1, .d), (2, .d)] rfl ?_
     refine r_d rfl rfl rfl (s_move rfl rfl) ?_
     refine r_d rfl rfl rfl (s_ar (r := ((i_2 + 1 : Nat) : Int)) rfl rfl rfl (by simp [iar]) (by omega)) ?_
     refine r_d rfl rfl rfl (s_assign rfl rfl) ?_
     refine r_end ?_
     refine g_sub [(0, .lst (l_a0.map encG)), (1, .int .i64 r_6), (5, .int .i64 ((i_2 + 1 : Nat) : Int))] (Sub.cons' rfl (Sub.cons' rfl (Sub.cons' rfl (Sub.nil _)))) ?_
     exact IH0 _ _ _ (by omega) ⟨r_6, (i_2 + 1), rfl, rfl, rfl, (by omega), hr⟩
    ·
     refine g_condF rfl ?_
     refine g_exit rfl ?_
     refine g_sub [(1, .int .i64 most_1)] (Sub.cons' rfl (Sub.nil _)) ?_
     exact HK0 _ _ ⟨most_1, rfl, rfl, hr⟩

noncomputable def lf_constraintref03_GreatRules_L0 (k : Option (Bool)) (l_a0 : (List S_api_Rule)) (most_a1 : Int) : List S_api_Rule → Option (Bool)
  | [] =>
  k
  | q_2 :: rest =>
  (bif (decide ((l_a0.length : Int) > most_a1)) then
  some (true)
  else
  (bif (decide ((wr ((wr ((wr (Int.tdiv (q_2.f0_Name.size : Int) 8)) + (q_2.f1_Keep.length : Int))) + (q_2.f2_Remove.length : Int))) > most_a1)) then
  some (true)
  else
  ((lf_constraintref03_GreatAtoms q_2.f1_Keep most_a1).bind fun r_6 =>
  (bif r_6 then
  some (true)
  else
  ((lf_constraintref03_GreatAtoms q_2.f2_Remove most_a1).bind fun r_8 =>
  (bif r_8 then
  some (true)
  else
  ((lf_constraintref03_GreatGoals q_2.f3_Guard most_a1).bind fun r_10 =>
  (bif r_10 then
  some (true)
  else
  ((lf_constraintref03_GreatGoals q_2.f4_Body most_a1).bind fun r_12 =>
  (bif r_12 then
  some (true)
  else
  (lf_constraintref03_GreatRules_L0 k l_a0 most_a1 rest)))))))))))
noncomputable def lf_constraintref03_GreatRules (l_a0 : (List S_api_Rule)) (most_a1 : Int) : Option (Bool) :=
  (lf_constraintref03_GreatRules_L0 (some (false)) l_a0 most_a1 l_a0)

set_option maxHeartbeats 1000000 in
theorem lg_constraintref03_GreatRules (l_a0 : (List S_api_Rule)) (most_a1 : Int) (res : Bool) (hr : lf_constraintref03_GreatRules l_a0 most_a1 = some res) : Gives Try.prog 17 [.lst (l_a0.map enc_S_api_Rule), .int .i64 most_a1] (.bool res) := by
  unfold lf_constraintref03_GreatRules at hr
  refine spec_env [(0, .lst (l_a0.map enc_S_api_Rule)), (1, .int .i64 most_a1)] Try.func17 rfl rfl fun K hK => ?_
  refine g_seq ?_
  refine g_run (by kernel_rfl) [(0, .d)] rfl ?_
  refine r_d rfl rfl rfl (s_assign rfl rfl) ?_
  refine r_end ?_
  refine g_seq ?_
  refine g_seq ?_
  refine g_run (by kernel_rfl) [(0, .d)] rfl ?_
  refine r_d rfl rfl rfl (s_assign rfl rfl) ?_
  refine r_end ?_
  obtain ⟨kk0, hkk0, hr⟩ := exK (fun k => lf_constraintref03_GreatRules_L0 k l_a0 most_a1 l_a0) hr
  refine g_len 0 rfl (asl rfl) fun hla0 => ?_
  simp only [List.length_map] at hla0
  refine g_blockJ (fun env σ => env = [] ∧ σ = [] ∧ kk0 = some res) ?_ (fun HK0 => ?_)
  ·
   rintro _ _ ⟨rfl, rfl, hr⟩
   rw [hkk0] at hr
   refine g_seq ?_
   refine g_run (by kernel_rfl) [(0, .d)] rfl ?_
   refine r_d rfl rfl rfl (s_assign rfl rfl) ?_
   refine r_end ?_
   obtain rfl := Option.some.inj hr
   refine g_ret Try.func17 _ (.cons (resTmp rfl (Wk.refl _)) .nil) ?_
   rfl
  ·
   refine g_sub [(0, .lst (l_a0.map enc_S_api_Rule)), (1, .int .i64 most_a1), (5, .int .i64 ((0 : Nat) : Int))] (Sub.cons' rfl (Sub.cons' rfl (Sub.cons' rfl (Sub.nil _)))) ?_
   refine g_loop (fun n env σ => ∃ (i_1 : Nat), (n = l_a0.length - i_1) ∧ (env = [(0, .lst (l_a0.map enc_S_api_Rule)), (1, .int .i64 most_a1), (5, .int .i64 (i_1 : Int))]) ∧ (σ = []) ∧ (i_1 ≤ l_a0.length) ∧ (lf_constraintref03_GreatRules_L0 kk0 l_a0 most_a1 (l_a0.drop i_1) = some res)) _ ⟨0, rfl, rfl, rfl, Nat.zero_le _, hr⟩ ?_
   rintro n _ _ ⟨i_1, rfl, rfl, rfl, hi0, hr⟩ IH0
   rcases listStep l_a0 i_1 hi0 with ⟨ht0, hd0, he0⟩ | ⟨q_2, ht0, hd0, hq0, hlt0⟩
   ·
    rw [hd0, lf_constraintref03_GreatRules_L0] at hr
    refine g_seq ?_
    refine g_seq ?_
    refine g_run (by kernel_rfl) [(0, .d), (1, .d), (2, .d), (3, .d)] rfl ?_
    refine r_d rfl rfl rfl (s_move rfl rfl) ?_
    refine r_d rfl rfl rfl (s_move rfl rfl) ?_
    refine r_d rfl rfl rfl (m_len (f := enc_S_api_Rule) l_a0 rfl el_L_api_Rule rfl (asl rfl)) ?_
    refine r_d rfl rfl rfl (s_cmp rfl rfl rfl rfl) ?_
    refine r_end ?_
    refine g_known 10 false rfl ht0 ?_
    refine g_condF rfl ?_
    refine g_exit rfl ?_
    refine g_sub [] (Sub.nil _) ?_
    exact HK0 _ _ ⟨rfl, rfl, hr⟩
   ·
    rw [hd0, lf_constraintref03_GreatRules_L0] at hr
    refine g_seq ?_
    refine g_seq ?_
    refine g_run (by kernel_rfl) [(0, .d), (1, .d), (2, .d), (3, .d)] rfl ?_
    refine r_d rfl rfl rfl (s_move rfl rfl) ?_
    refine r_d rfl rfl rfl (s_move rfl rfl) ?_
    refine r_d rfl rfl rfl (m_len (f := enc_S_api_Rule) l_a0 rfl el_L_api_Rule rfl (asl rfl)) ?_
    refine r_d rfl rfl rfl (s_cmp rfl rfl rfl rfl) ?_
    refine r_end ?_
    refine g_known 10 true rfl ht0 ?_
    refine g_condT rfl ?_
    refine g_skip ?_
    refine g_seq ?_
    refine g_block ?_
    refine g_seq ?_
    refine g_run (by kernel_rfl) [(0, .d), (1, .d), (2, .d), (3, .d), (4, .w), (5, .w)] rfl ?_
    refine r_d rfl rfl rfl (s_move rfl rfl) ?_
    refine r_d rfl rfl rfl (s_move rfl rfl) ?_
    refine r_d rfl rfl rfl (m_index (f := enc_S_api_Rule) l_a0 rfl el_L_api_Rule rfl (asl rfl) rfl hq0 sz_S_api_Rule rfl) ?_
    refine r_d rfl rfl rfl (s_load rfl rfl (by exact ty_api_Rule) (sz_S_api_Rule _)) ?_
    refine r_w rfl rfl rfl (s_alloc rfl zv_api_Rule) ?_
    rintro _ _ ⟨b6_2, rfl, rfl⟩
    refine r_w01 rfl rfl rfl (t_store0 _ rfl rfl rfl (Wk.refl _) (pf0 _) (by exact ty_api_Rule) (sz_S_api_Rule _) rfl rfl) ?_
    refine r_end ?_
    refine g_freeze 6 b6_2 rfl (pf0 _) ?_
    refine g_seq ?_
    refine g_run (by kernel_rfl) [(0, .d), (1, .d), (2, .d), (3, .d), (4, .d), (5, .d), (6, .d), (7, .d), (8, .d), (9, .d), (10, .d), (11, .d), (12, .d), (13, .d), (14, .d), (15, .d), (16, .d), (17, .d), (18, .d), (19, .d), (20, .d), (21, .d), (22, .d), (23, .d), (24, .d), (25, .d), (26, .d), (27, .d), (28, .d), (29, .d), (30, .d), (31, .d), (32, .d), (33, .d), (34, .d), (35, .d), (36, .d), (37, .d), (38, .d), (39, .d), (40, .d), (41, .d), (42, .d), (43, .d)] rfl ?_
    refine r_d rfl rfl rfl (s_move rfl rfl) ?_
    refine r_d rfl rfl rfl (m_len (f := enc_S_api_Rule) l_a0 rfl el_L_api_Rule rfl (asl rfl)) ?_
    refine r_d rfl rfl rfl (s_move rfl rfl) ?_
    refine r_d rfl rfl rfl (s_cmp rfl rfl rfl rfl) ?_
    refine r_d rfl rfl rfl (s_move rfl rfl) ?_
    refine r_sB 21 rfl hr (fun h21_3 hr => ?_) (fun h21_3 hr => ?_)
    ·
     refine r_skip rfl rfl rfl ?_
     refine r_skip rfl rfl rfl ?_
     refine r_skip rfl rfl rfl ?_
     refine r_skip rfl rfl rfl ?_
     refine r_skip rfl rfl rfl ?_
     refine r_skip rfl rfl rfl ?_
     refine r_skip rfl rfl rfl ?_
     refine r_skip rfl rfl rfl ?_
     refine r_skip rfl rfl rfl ?_
     refine r_skip rfl rfl rfl ?_
     refine r_skip rfl rfl rfl ?_
     refine r_skip rfl rfl rfl ?_
     refine r_skip rfl rfl rfl ?_
     refine r_skip rfl rfl rfl ?_
     refine r_d rfl rfl rfl (s_pickT rfl rfl rfl) ?_
     refine r_d rfl rfl rfl (s_move rfl rfl) ?_
     refine r_skip rfl rfl rfl ?_
     refine r_skip rfl rfl rfl ?_
     refine r_skip rfl rfl rfl ?_
     refine r_skip rfl rfl rfl ?_
     refine r_d rfl rfl rfl (s_pickT rfl rfl rfl) ?_
     refine r_d rfl rfl rfl (s_move rfl rfl) ?_
     refine r_skip rfl rfl rfl ?_
     refine r_skip rfl rfl rfl ?_
     refine r_skip rfl rfl rfl ?_
     refine r_skip rfl rfl rfl ?_
     refine r_d rfl rfl rfl (s_pickT rfl rfl rfl) ?_
     refine r_d rfl rfl rfl (s_move rfl rfl) ?_
     refine r_skip rfl rfl rfl ?_
     refine r_skip rfl rfl rfl ?_
     refine r_skip rfl rfl rfl ?_
     refine r_skip rfl rfl rfl ?_
     refine r_d rfl rfl rfl (s_pickT rfl rfl rfl) ?_
     refine r_d rfl rfl rfl (s_move rfl rfl) ?_
     refine r_skip rfl rfl rfl ?_
     refine r_skip rfl rfl rfl ?_
     refine r_skip rfl rfl rfl ?_
     refine r_skip rfl rfl rfl ?_
     refine r_d rfl rfl rfl (s_pickT rfl rfl rfl) ?_
     refine r_end ?_
     refine g_condT rfl ?_
     refine g_seq ?_
     refine g_run (by kernel_rfl) [(0, .d)] rfl ?_
     refine r_d rfl rfl rfl (s_assign rfl rfl) ?_
     refine r_end ?_
     obtain rfl := Option.some.inj hr
     refine g_ret Try.func17 _ (.cons (resTmp rfl (Wk.refl _)) .nil) ?_
     rfl
    ·
     refine r_d rfl rfl rfl (s_fieldAddr rfl fl_api_Rule_0 rfl rfl rfl rfl) ?_
     refine r_d rfl rfl rfl (s_load rfl rfl (by exact ty_string) rfl) ?_
     refine r_d rfl rfl rfl (s_lenS rfl Try.underlying9 rfl) ?_
     refine r_d rfl rfl rfl (s_quoC rfl rfl rfl (by decide)) ?_
     refine r_d rfl rfl rfl (s_fieldAddr rfl fl_api_Rule_1 rfl rfl rfl rfl) ?_
     refine r_d rfl rfl rfl (s_load rfl rfl (by exact ty_L_api_Atom) rfl) ?_
     refine r_d rfl rfl rfl (m_len (f := encA) q_2.f1_Keep rfl el_L_api_Atom rfl (asl rfl)) ?_
     refine r_d rfl rfl rfl (s_arW rfl rfl rfl rfl) ?_
     refine r_d rfl rfl rfl (s_fieldAddr rfl fl_api_Rule_2 rfl rfl rfl rfl) ?_
     refine r_d rfl rfl rfl (s_load rfl rfl (by exact ty_L_api_Atom) rfl) ?_
     refine r_d rfl rfl rfl (m_len (f := encA) q_2.f2_Remove rfl el_L_api_Atom rfl (asl rfl)) ?_
     refine r_d rfl rfl rfl (s_arW rfl rfl rfl rfl) ?_
     refine r_d rfl rfl rfl (s_move rfl rfl) ?_
     refine r_d rfl rfl rfl (s_cmp rfl rfl rfl rfl) ?_
     refine r_d rfl rfl rfl (s_pickF rfl rfl rfl) ?_
     refine r_d rfl rfl rfl (s_move rfl rfl) ?_
     refine r_sB 37 rfl hr (fun h37_4 hr => ?_) (fun h37_4 hr => ?_)
     ·
      refine r_skip rfl rfl rfl ?_
      refine r_skip rfl rfl rfl ?_
      refine r_skip rfl rfl rfl ?_
      refine r_skip rfl rfl rfl ?_
      refine r_d rfl rfl rfl (s_pickT rfl rfl rfl) ?_
      refine r_d rfl rfl rfl (s_move rfl rfl) ?_
      refine r_skip rfl rfl rfl ?_
      refine r_skip rfl rfl rfl ?_
      refine r_skip rfl rfl rfl ?_
      refine r_skip rfl rfl rfl ?_
      refine r_d rfl rfl rfl (s_pickT rfl rfl rfl) ?_
      refine r_d rfl rfl rfl (s_move rfl rfl) ?_
      refine r_skip rfl rfl rfl ?_
      refine r_skip rfl rfl rfl ?_
      refine r_skip rfl rfl rfl ?_
      refine r_skip rfl rfl rfl ?_
      refine r_d rfl rfl rfl (s_pickT rfl rfl rfl) ?_
      refine r_d rfl rfl rfl (s_move rfl rfl) ?_
      refine r_skip rfl rfl rfl ?_
      refine r_skip rfl rfl rfl ?_
      refine r_skip rfl rfl rfl ?_
      refine r_skip rfl rfl rfl ?_
      refine r_d rfl rfl rfl (s_pickT rfl rfl rfl) ?_
      refine r_end ?_
      refine g_condT rfl ?_
      refine g_seq ?_
      refine g_run (by kernel_rfl) [(0, .d)] rfl ?_
      refine r_d rfl rfl rfl (s_assign rfl rfl) ?_
      refine r_end ?_
      obtain rfl := Option.some.inj hr
      refine g_ret Try.func17 _ (.cons (resTmp rfl (Wk.refl _)) .nil) ?_
      rfl
     ·
      refine r_d rfl rfl rfl (s_fieldAddr rfl fl_api_Rule_1 rfl rfl rfl rfl) ?_
      refine r_d rfl rfl rfl (s_load rfl rfl (by exact ty_L_api_Atom) rfl) ?_
      refine r_d rfl rfl rfl (s_move rfl rfl) ?_
      obtain ⟨r_6, hr_6, hr⟩ := bindS hr
      refine r_d rfl rfl rfl (s_callD rfl cl_constraintref03_GreatAtoms (.cons rfl (Wk.refl _) (.cons rfl (Wk.refl _) .nil)) (lg_constraintref03_GreatAtoms _ _ _ hr_6)) ?_
      refine r_d rfl rfl rfl (s_pickF rfl rfl rfl) ?_
      refine r_d rfl rfl rfl (s_move rfl rfl) ?_
      refine r_sB 43 rfl hr (fun h43_6 hr => ?_) (fun h43_6 hr => ?_)
      ·
       refine r_skip rfl rfl rfl ?_
       refine r_skip rfl rfl rfl ?_
       refine r_skip rfl rfl rfl ?_
       refine r_skip rfl rfl rfl ?_
       refine r_d rfl rfl rfl (s_pickT rfl rfl rfl) ?_
       refine r_d rfl rfl rfl (s_move rfl rfl) ?_
       refine r_skip rfl rfl rfl ?_
       refine r_skip rfl rfl rfl ?_
       refine r_skip rfl rfl rfl ?_
       refine r_skip rfl rfl rfl ?_
       refine r_d rfl rfl rfl (s_pickT rfl rfl rfl) ?_
       refine r_d rfl rfl rfl (s_move rfl rfl) ?_
       refine r_skip rfl rfl rfl ?_
       refine r_skip rfl rfl rfl ?_
       refine r_skip rfl rfl rfl ?_
       refine r_skip rfl rfl rfl ?_
       refine r_d rfl rfl rfl (s_pickT rfl rfl rfl) ?_
       refine r_end ?_
       refine g_condT rfl ?_
       refine g_seq ?_
       refine g_run (by kernel_rfl) [(0, .d)] rfl ?_
       refine r_d rfl rfl rfl (s_assign rfl rfl) ?_
       refine r_end ?_
       obtain rfl := Option.some.inj hr
       refine g_ret Try.func17 _ (.cons (resTmp rfl (Wk.refl _)) .nil) ?_
       rfl
      ·
       refine r_d rfl rfl rfl (s_fieldAddr rfl fl_api_Rule_2 rfl rfl rfl rfl) ?_
       refine r_d rfl rfl rfl (s_load rfl rfl (by exact ty_L_api_Atom) rfl) ?_
       refine r_d rfl rfl rfl (s_move rfl rfl) ?_
       obtain ⟨r_8, hr_8, hr⟩ := bindS hr
       refine r_d rfl rfl rfl (s_callD rfl cl_constraintref03_GreatAtoms (.cons rfl (Wk.refl _) (.cons rfl (Wk.refl _) .nil)) (lg_constraintref03_GreatAtoms _ _ _ hr_8)) ?_
       refine r_d rfl rfl rfl (s_pickF rfl rfl rfl) ?_
       refine r_d rfl rfl rfl (s_move rfl rfl) ?_
       refine r_sB 49 rfl hr (fun h49_8 hr => ?_) (fun h49_8 hr => ?_)
       ·
        refine r_skip rfl rfl rfl ?_
        refine r_skip rfl rfl rfl ?_
        refine r_skip rfl rfl rfl ?_
        refine r_skip rfl rfl rfl ?_
        refine r_d rfl rfl rfl (s_pickT rfl rfl rfl) ?_
        refine r_d rfl rfl rfl (s_move rfl rfl) ?_
        refine r_skip rfl rfl rfl ?_
        refine r_skip rfl rfl rfl ?_
        refine r_skip rfl rfl rfl ?_
        refine r_skip rfl rfl rfl ?_
        refine r_d rfl rfl rfl (s_pickT rfl rfl rfl) ?_
        refine r_end ?_
        refine g_condT rfl ?_
        refine g_seq ?_
        refine g_run (by kernel_rfl) [(0, .d)] rfl ?_
        refine r_d rfl rfl rfl (s_assign rfl rfl) ?_
        refine r_end ?_
        obtain rfl := Option.some.inj hr
        refine g_ret Try.func17 _ (.cons (resTmp rfl (Wk.refl _)) .nil) ?_
        rfl
       ·
        refine r_d rfl rfl rfl (s_fieldAddr rfl fl_api_Rule_3 rfl rfl rfl rfl) ?_
        refine r_d rfl rfl rfl (s_load rfl rfl (by exact ty_L_api_Goal) rfl) ?_
        refine r_d rfl rfl rfl (s_move rfl rfl) ?_
        obtain ⟨r_10, hr_10, hr⟩ := bindS hr
        refine r_d rfl rfl rfl (s_callD rfl cl_constraintref03_GreatGoals (.cons rfl (Wk.refl _) (.cons rfl (Wk.refl _) .nil)) (lg_constraintref03_GreatGoals _ _ _ hr_10)) ?_
        refine r_d rfl rfl rfl (s_pickF rfl rfl rfl) ?_
        refine r_d rfl rfl rfl (s_move rfl rfl) ?_
        refine r_sB 55 rfl hr (fun h55_10 hr => ?_) (fun h55_10 hr => ?_)
        ·
         refine r_skip rfl rfl rfl ?_
         refine r_skip rfl rfl rfl ?_
         refine r_skip rfl rfl rfl ?_
         refine r_skip rfl rfl rfl ?_
         refine r_d rfl rfl rfl (s_pickT rfl rfl rfl) ?_
         refine r_end ?_
         refine g_condT rfl ?_
         refine g_seq ?_
         refine g_run (by kernel_rfl) [(0, .d)] rfl ?_
         refine r_d rfl rfl rfl (s_assign rfl rfl) ?_
         refine r_end ?_
         obtain rfl := Option.some.inj hr
         refine g_ret Try.func17 _ (.cons (resTmp rfl (Wk.refl _)) .nil) ?_
         rfl
        ·
         refine r_d rfl rfl rfl (s_fieldAddr rfl fl_api_Rule_4 rfl rfl rfl rfl) ?_
         refine r_d rfl rfl rfl (s_load rfl rfl (by exact ty_L_api_Goal) rfl) ?_
         refine r_d rfl rfl rfl (s_move rfl rfl) ?_
         obtain ⟨r_12, hr_12, hr⟩ := bindS hr
         refine r_d rfl rfl rfl (s_callD rfl cl_constraintref03_GreatGoals (.cons rfl (Wk.refl _) (.cons rfl (Wk.refl _) .nil)) (lg_constraintref03_GreatGoals _ _ _ hr_12)) ?_
         refine r_d rfl rfl rfl (s_pickF rfl rfl rfl) ?_
         refine r_end ?_
         refine g_sB 60 rfl hr (fun h60_12 hr => ?_) (fun h60_12 hr => ?_)
         ·
          refine g_condT rfl ?_
          refine g_seq ?_
          refine g_run (by kernel_rfl) [(0, .d)] rfl ?_
          refine r_d rfl rfl rfl (s_assign rfl rfl) ?_
          refine r_end ?_
          obtain rfl := Option.some.inj hr
          refine g_ret Try.func17 _ (.cons (resTmp rfl (Wk.refl _)) .nil) ?_
          rfl
         ·
          refine g_condF rfl ?_
          refine g_skip ?_
          refine g_inBlock ?_
          refine g_run (by kernel_rfl) [(0, .d), (1, .d), (2, .d)] rfl ?_
          refine r_d rfl rfl rfl (s_move rfl rfl) ?_
          refine r_d rfl rfl rfl (s_ar (r := ((i_1 + 1 : Nat) : Int)) rfl rfl rfl (by simp [iar]) (by omega)) ?_
          refine r_d rfl rfl rfl (s_assign rfl rfl) ?_
          refine r_end ?_
          refine g_sub [(0, .lst (l_a0.map enc_S_api_Rule)), (1, .int .i64 most_a1), (5, .int .i64 ((i_1 + 1 : Nat) : Int))] (Sub.cons' rfl (Sub.cons' rfl (Sub.cons' rfl (Sub.nil _)))) ?_
          exact IH0 _ _ _ (by omega) ⟨(i_1 + 1), rfl, rfl, rfl, (by omega), hr⟩

noncomputable def lf_constraintlaw31_large (p_a0 : S_api_Program) : Option (Bool) :=
  (bif (decide ((p_a0.f1_Rules.length : Int) > (10 : Int))) then
  some (true)
  else
  ((lf_constraintref03_GreatRules p_a0.f1_Rules 60).bind fun r_2 =>
  some (r_2)))

set_option maxHeartbeats 1000000 in
theorem lg_constraintlaw31_large (p_a0 : S_api_Program) (res : Bool) (hr : lf_constraintlaw31_large p_a0 = some res) : Gives Try.prog 6 [enc_S_api_Program p_a0] (.bool res) := by
  unfold lf_constraintlaw31_large at hr
  refine spec_env [(0, enc_S_api_Program p_a0)] Try.func6 rfl rfl fun K hK => ?_
  refine g_seq ?_
  refine g_run (by kernel_rfl) [(0, .d), (1, .d)] rfl ?_
  refine r_d rfl rfl rfl (s_box rfl rfl rfl) ?_
  refine r_d rfl rfl rfl (s_assign rfl rfl) ?_
  refine r_end ?_
  refine g_seq ?_
  refine g_run (by kernel_rfl) [(0, .d), (1, .d), (2, .d), (3, .d), (4, .d), (5, .d), (6, .d), (7, .d), (8, .d), (9, .d)] rfl ?_
  refine r_d rfl rfl rfl (s_fieldAddr rfl fl_api_Program_1 rfl rfl rfl rfl) ?_
  refine r_d rfl rfl rfl (s_load rfl rfl (by exact ty_L_api_Rule) rfl) ?_
  refine r_d rfl rfl rfl (m_len (f := enc_S_api_Rule) p_a0.f1_Rules rfl el_L_api_Rule rfl (asl rfl)) ?_
  refine r_d rfl rfl rfl (s_cmp rfl rfl rfl rfl) ?_
  refine r_d rfl rfl rfl (s_move rfl rfl) ?_
  refine r_sB 7 rfl hr (fun h7_0 hr => ?_) (fun h7_0 hr => ?_)
  ·
   refine r_skip rfl rfl rfl ?_
   refine r_skip rfl rfl rfl ?_
   refine r_skip rfl rfl rfl ?_
   refine r_d rfl rfl rfl (s_pickT rfl rfl rfl) ?_
   refine r_d rfl rfl rfl (s_assign rfl rfl) ?_
   refine r_end ?_
   obtain rfl := Option.some.inj hr
   refine g_ret Try.func6 _ (.cons (resTmp rfl (Wk.refl _)) .nil) ?_
   rfl
  ·
   refine r_d rfl rfl rfl (s_fieldAddr rfl fl_api_Program_1 rfl rfl rfl rfl) ?_
   refine r_d rfl rfl rfl (s_load rfl rfl (by exact ty_L_api_Rule) rfl) ?_
   obtain ⟨r_2, hr_2, hr⟩ := bindS hr
   refine r_d rfl rfl rfl (s_callD rfl cl_constraintref03_GreatRules (.cons rfl (Wk.refl _) (.cons rfl (Wk.refl _) .nil)) (lg_constraintref03_GreatRules _ _ _ hr_2)) ?_
   refine r_d rfl rfl rfl (s_pickF rfl rfl rfl) ?_
   refine r_d rfl rfl rfl (s_assign rfl rfl) ?_
   refine r_end ?_
   obtain rfl := Option.some.inj hr
   refine g_ret Try.func6 _ (.cons (resTmp rfl (Wk.refl _)) .nil) ?_
   rfl

noncomputable def lf_constraintref03_Var (n_a0 : Int) : Option (T) :=
  some ((T.mk 1 n_a0 ⟨#[]⟩ []))

set_option maxHeartbeats 1000000 in
theorem lg_constraintref03_Var (n_a0 : Int) (res : T) (hr : lf_constraintref03_Var n_a0 = some res) : Gives Try.prog 18 [.int .i64 n_a0] (encT res) := by
  unfold lf_constraintref03_Var at hr
  refine spec_env [(0, .int .i64 n_a0)] Try.func18 rfl rfl fun K hK => ?_
  refine g_seq ?_
  refine g_run (by kernel_rfl) [(0, .w)] rfl ?_
  refine r_w rfl rfl rfl (s_alloc rfl zv_api_Term) ?_
  rintro _ _ ⟨b2_0, rfl, rfl⟩
  refine r_end ?_
  refine g_seq ?_
  refine g_run (by kernel_rfl) [(0, .d), (1, .d), (2, .w)] rfl ?_
  refine r_d rfl rfl rfl (s_move rfl rfl) ?_
  refine r_d rfl rfl rfl (s_build rfl bt_api_Term (.cons rfl (Wk.refl _) (.cons rfl (Wk.refl _) .nil)) (.cons rfl rfl rfl (.cons rfl rfl rfl (.nil _)))) ?_
  refine r_w01 rfl rfl rfl (t_store0 _ rfl rfl rfl (Wk.refl _) (pf0 _) (by exact ty_api_Term) rfl rfl rfl) ?_
  refine r_end ?_
  obtain rfl := Option.some.inj hr
  refine g_ret Try.func18 _ (.cons (resRef rfl (.head _) (by exact ty_api_Term) rfl (Wk.refl _)) .nil) ?_
  first | rfl | simp [packD, encT, fsT_eq, T.k, T.i, T.s, T.ar]

noncomputable def lf_constraintref03_Int (n_a0 : Int) : Option (T) :=
  some ((T.mk 0 n_a0 ⟨#[]⟩ []))

set_option maxHeartbeats 1000000 in
theorem lg_constraintref03_Int (n_a0 : Int) (res : T) (hr : lf_constraintref03_Int n_a0 = some res) : Gives Try.prog 20 [.int .i64 n_a0] (encT res) := by
  unfold lf_constraintref03_Int at hr
  refine spec_env [(0, .int .i64 n_a0)] Try.func20 rfl rfl fun K hK => ?_
  refine g_seq ?_
  refine g_run (by kernel_rfl) [(0, .w)] rfl ?_
  refine r_w rfl rfl rfl (s_alloc rfl zv_api_Term) ?_
  rintro _ _ ⟨b2_0, rfl, rfl⟩
  refine r_end ?_
  refine g_seq ?_
  refine g_run (by kernel_rfl) [(0, .d), (1, .d), (2, .w)] rfl ?_
  refine r_d rfl rfl rfl (s_move rfl rfl) ?_
  refine r_d rfl rfl rfl (s_build rfl bt_api_Term (.cons rfl (Wk.refl _) (.cons rfl (Wk.refl _) .nil)) (.cons rfl rfl rfl (.cons rfl rfl rfl (.nil _)))) ?_
  refine r_w01 rfl rfl rfl (t_store0 _ rfl rfl rfl (Wk.refl _) (pf0 _) (by exact ty_api_Term) rfl rfl rfl) ?_
  refine r_end ?_
  obtain rfl := Option.some.inj hr
  refine g_ret Try.func20 _ (.cons (resRef rfl (.head _) (by exact ty_api_Term) rfl (Wk.refl _)) .nil) ?_
  first | rfl | simp [packD, encT, fsT_eq, T.k, T.i, T.s, T.ar]

noncomputable def lf_constraintref03_Fun (name_a0 : ByteArray) (args_a1 : (List T)) : Option (T) :=
  ((appO 56 [] args_a1).bind fun l_3 =>
  some ((T.mk 2 0 name_a0 l_3)))

set_option maxHeartbeats 1000000 in
theorem lg_constraintref03_Fun (name_a0 : ByteArray) (args_a1 : (List T)) (res : T) (hr : lf_constraintref03_Fun name_a0 args_a1 = some res) : Gives Try.prog 19 [.str name_a0, .lst (args_a1.map encT)] (encT res) := by
  unfold lf_constraintref03_Fun at hr
  refine spec_env [(0, .str name_a0), (1, .lst (args_a1.map encT))] Try.func19 rfl rfl fun K hK => ?_
  refine g_seq ?_
  refine g_run (by kernel_rfl) [(0, .w)] rfl ?_
  refine r_w rfl rfl rfl (s_alloc rfl zv_api_Term) ?_
  rintro _ _ ⟨b4_0, rfl, rfl⟩
  refine r_end ?_
  refine g_seq ?_
  refine g_run (by kernel_rfl) [(0, .d), (1, .w), (2, .d), (3, .w), (4, .d), (5, .w)] rfl ?_
  refine r_d rfl rfl rfl (s_move rfl rfl) ?_
  refine r_w rfl rfl rfl (s_lit0Own rfl el_L_api_Term rfl) ?_
  rintro _ _ ⟨u6_1, rfl, rfl⟩
  refine r_d rfl rfl rfl (s_move rfl rfl) ?_
  obtain ⟨l_3, hl_3, hr⟩ := bindS hr
  refine r_w rfl rfl rfl (m_appOwn (f := encT) [] args_a1 rfl el_L_api_Term rfl rfl (asl rfl) (pf0 _) rfl sz_encT hl_3) ?_
  rintro _ _ ⟨u8_3, rfl, rfl⟩
  refine r_d rfl rfl rfl (s_build rfl bt_api_Term (.cons rfl (Wk.refl _) (.cons rfl (Wk.refl _) (.cons rfl (Wk.own _ _) .nil))) (.cons rfl rfl rfl (.cons rfl rfl rfl (.cons rfl rfl rfl (.nil _))))) ?_
  refine r_w01 rfl rfl rfl (t_store0 _ rfl rfl rfl (Wk.refl _) (pf1 _ _ _) (by exact ty_api_Term) rfl rfl rfl) ?_
  refine r_end ?_
  obtain rfl := Option.some.inj hr
  refine g_ret Try.func19 _ (.cons (resRef rfl (.head _) (by exact ty_api_Term) rfl (Wk.refl _)) .nil) ?_
  first | rfl | simp [packD, encT, fsT_eq, T.k, T.i, T.s, T.ar]

noncomputable def lf_constraintlaw31_p1 (v_a0 : Int) : Option ((List At)) :=
  ((lf_constraintref03_Var v_a0).bind fun r_1 =>
  some ([(⟨⟨#[112]⟩, [r_1]⟩ : At)]))

set_option maxHeartbeats 1000000 in
theorem lg_constraintlaw31_p1 (v_a0 : Int) (res : (List At)) (hr : lf_constraintlaw31_p1 v_a0 = some res) : Gives Try.prog 21 [.int .i64 v_a0] (.lst (res.map encA)) := by
  unfold lf_constraintlaw31_p1 at hr
  refine spec_env [(0, .int .i64 v_a0)] Try.func21 rfl rfl fun K hK => ?_
  refine g_seq ?_
  refine g_run (by kernel_rfl) [(0, .d)] rfl ?_
  refine r_d rfl rfl rfl (s_assign rfl rfl) ?_
  refine r_end ?_
  refine g_seq ?_
  refine g_run (by kernel_rfl) [(0, .d), (1, .d), (2, .d), (3, .d), (4, .d), (5, .d)] rfl ?_
  refine r_d rfl rfl rfl (s_move rfl rfl) ?_
  obtain ⟨r_1, hr_1, hr⟩ := bindS hr
  refine r_d rfl rfl rfl (s_callD rfl cl_constraintref03_Var (.cons rfl (Wk.refl _) .nil) (lg_constraintref03_Var _ _ hr_1)) ?_
  refine r_d rfl rfl rfl (m_lit (f := encT) [.tmp 4] [r_1] rfl el_L_api_Term rfl rfl (by decide) (by decide) (.cons rfl (Wk.refl _) .nil) sz_encT (fun _ => rfl)) ?_
  refine r_d rfl rfl rfl (s_build rfl bt_api_Atom (.cons rfl (Wk.refl _) (.cons rfl (Wk.full _) .nil)) (.cons rfl rfl rfl (.cons rfl rfl rfl (.nil _)))) ?_
  refine r_d rfl rfl rfl (m_lit (f := encA) [.tmp 6] [(⟨⟨#[112]⟩, [r_1]⟩ : At)] rfl el_L_api_Atom rfl rfl (by decide) (by decide) (.cons rfl (Wk.refl _) .nil) sz_encA (fun _ => rfl)) ?_
  refine r_d rfl rfl rfl (s_assign rfl rfl) ?_
  refine r_end ?_
  obtain rfl := Option.some.inj hr
  refine g_ret Try.func21 _ (.cons (resTmp rfl (Wk.full _)) .nil) ?_
  rfl

noncomputable def lf_stored_variables_put_s1 (v_a1 : Int) (s_0 : (List (Int × Unit))) : Option (Bool × (List (Int × Unit))) :=
  (bif ((mget s_0 v_a1).isSome) then
  some (false, s_0)
  else
  ((mputO s_0 v_a1 ()).bind fun mm_3 =>
  some (true, mm_3)))

set_option maxHeartbeats 1000000 in
theorem lg_stored_variables_put_s1 (v_a1 : Int) (s_0 : (List (Int × Unit))) (m_o0 : Nat) (res : Bool × (List (Int × Unit))) (hr : lf_stored_variables_put_s1 v_a1 s_0 = some res) : Spec Try.prog 24 [.map m_o0, .int .i64 v_a1] [.map m_o0 (mapM' (D.int .i64) encU s_0)] (fun d σ => d = .bool res.1 ∧ σ = [.map m_o0 (mapM' (D.int .i64) encU res.2)]) := by
  unfold lf_stored_variables_put_s1 at hr
  refine spec_env [(0, .map m_o0), (1, .int .i64 v_a1)] Try.func24 rfl rfl fun K hK => ?_
  refine g_seq ?_
  refine g_run (by kernel_rfl) [(0, .d)] rfl ?_
  refine r_d rfl rfl rfl (s_assign rfl rfl) ?_
  refine r_end ?_
  refine g_seq ?_
  refine g_seq ?_
  refine g_run (by kernel_rfl) [(0, .d), (1, .d), (2, .r), (3, .d), (4, .d), (5, .d), (6, .w), (7, .w), (8, .d)] rfl ?_
  refine r_d rfl rfl rfl (s_move rfl rfl) ?_
  refine r_d rfl rfl rfl (s_move rfl rfl) ?_
  refine r_r rfl rfl rfl (m_lookup2 (key := (D.int .i64)) (g := encU) s_0 v_a1 () rfl Try.underlying54 (keyInt Try.underlying3) zm_Unit rfl rfl (.head _)) ?_
  refine r_d rfl rfl rfl (s_move rfl rfl) ?_
  refine r_d rfl rfl rfl (s_extract rfl rfl rfl) ?_
  refine r_d rfl rfl rfl (s_extract rfl rfl rfl) ?_
  refine r_w rfl rfl rfl (s_alloc rfl zv_Unit) ?_
  rintro _ _ ⟨b5_0, rfl, rfl⟩
  refine r_w01 rfl rfl rfl (t_store0 _ rfl rfl rfl (Wk.refl _) (pf0 _) (by exact ty_Unit) (sz_encU _) rfl rfl) ?_
  refine r_d rfl rfl rfl (s_assign rfl rfl) ?_
  refine r_end ?_
  refine g_freeze 5 b5_0 rfl (pf0 _) ?_
  refine g_seq ?_
  refine g_run (by kernel_rfl) [(0, .d)] rfl ?_
  refine r_d rfl rfl rfl (s_move rfl rfl) ?_
  refine r_end ?_
  refine g_sB 13 rfl hr (fun h13_1 hr => ?_) (fun h13_1 hr => ?_)
  ·
   refine g_condT rfl ?_
   refine g_seq ?_
   refine g_run (by kernel_rfl) [(0, .d)] rfl ?_
   refine r_d rfl rfl rfl (s_assign rfl rfl) ?_
   refine r_end ?_
   obtain rfl := Option.some.inj hr
   refine g_ret Try.func24 _ (.cons (resTmp rfl (Wk.refl _)) .nil) ?_
   exact ⟨rfl, rfl⟩
  ·
   refine g_condF rfl ?_
   refine g_skip ?_
   refine g_seq ?_
   refine g_run (by kernel_rfl) [(0, .d), (1, .d), (2, .d), (3, .w)] rfl ?_
   refine r_d rfl rfl rfl (s_move rfl rfl) ?_
   refine r_d rfl rfl rfl (s_move rfl rfl) ?_
   refine r_d rfl rfl rfl (s_build rfl bt_Unit .nil (.nil _)) ?_
   obtain ⟨mm_3, hmm_3, hr⟩ := bindS hr
   refine r_w01 rfl rfl rfl (m_mapUpdate (key := (D.int .i64)) (g := encU) s_0 v_a1 () rfl Try.underlying54 (keyInt Try.underlying3) rfl rfl rfl (Wk.refl _) (pf0 _) hmm_3) ?_
   refine r_end ?_
   refine g_seq ?_
   refine g_run (by kernel_rfl) [(0, .d)] rfl ?_
   refine r_d rfl rfl rfl (s_assign rfl rfl) ?_
   refine r_end ?_
   obtain rfl := Option.some.inj hr
   refine g_ret Try.func24 _ (.cons (resTmp rfl (Wk.refl _)) .nil) ?_
   exact ⟨rfl, rfl⟩

noncomputable def lf_stored_Inert_L1 (k : Option (Bool)) : List Gl → (List (Int × Unit)) → Option (Bool)
  | [], mm_7 =>
  k
  | q_8 :: rest, mm_7 =>
  ((x_rightG q_8).bind fun r_10 =>
  (bif (!r_10) then
  some (false)
  else
  (bif (q_8.op == (1 : Int)) then
  (lf_stored_Inert_L1 k rest mm_7)
  else
  (bif (q_8.op != (4 : Int)) then
  some (false)
  else
  ((getI q_8.ts 0).bind fun q_14 =>
  (bif (q_14.k != (1 : Int)) then
  some (false)
  else
  ((lf_stored_variables_put_s1 q_14.i mm_7).bind fun r_16 =>
  (bif (!r_16.1) then
  some (false)
  else
  (lf_stored_Inert_L1 k rest r_16.2)))))))))

noncomputable def lf_stored_Inert_L2 (k : ((List (Int × Unit))) → Option (Bool)) : List Int → (List (Int × Unit)) → Option (Bool)
  | [], mm_22 =>
  (k mm_22)
  | q_24 :: rest, mm_22 =>
  ((lf_stored_variables_put_s1 q_24 mm_22).bind fun r_25 =>
  (lf_stored_Inert_L2 k rest r_25.2))

noncomputable def lf_stored_Inert_L0 (k : ((List (Int × Unit))) → Option (Bool)) : List At → (List (Int × Unit)) → Option (Bool)
  | [], mm_4 =>
  (k mm_4)
  | q_18 :: rest, mm_4 =>
  ((x_varsA q_18).bind fun r_20 =>
  (lf_stored_Inert_L2 (fun mm_23 =>
  (lf_stored_Inert_L0 k rest mm_23)) r_20 mm_4))
noncomputable def lf_stored_Inert (r_a0 : S_api_Rule) : Option (Bool) :=
  ((lf_occur_Heads r_a0).bind fun r_2 =>
  (lf_stored_Inert_L0 (fun mm_5 =>
  (lf_stored_Inert_L1 (some (true)) r_a0.f4_Body mm_5)) r_2 []))

set_option maxHeartbeats 1000000 in
theorem lg_stored_Inert (r_a0 : S_api_Rule) (res : Bool) (hr : lf_stored_Inert r_a0 = some res) : Gives Try.prog 8 [enc_S_api_Rule r_a0] (.bool res) := by
  unfold lf_stored_Inert at hr
  refine spec_env [(0, enc_S_api_Rule r_a0)] Try.func8 rfl rfl fun K hK => ?_
  refine g_seq ?_
  refine g_run (by kernel_rfl) [(0, .d), (1, .d)] rfl ?_
  refine r_d rfl rfl rfl (s_box rfl rfl rfl) ?_
  refine r_d rfl rfl rfl (s_assign rfl rfl) ?_
  refine r_end ?_
  refine g_seq ?_
  refine g_run (by kernel_rfl) [(0, .w), (1, .d)] rfl ?_
  refine r_w rfl rfl rfl (m_makeMap (α := Int) (β := Unit) (key := (D.int .i64)) (g := encU) rfl) ?_
  rintro _ _ ⟨m10_0, rfl, rfl⟩
  refine r_d rfl rfl rfl (s_assign rfl rfl) ?_
  refine r_end ?_
  refine g_seq ?_
  refine g_seq ?_
  refine g_run (by kernel_rfl) [(0, .d), (1, .d), (2, .d), (3, .d)] rfl ?_
  refine r_d rfl rfl rfl (s_load rfl rfl (by exact ty_api_Rule) (sz_S_api_Rule _)) ?_
  obtain ⟨r_2, hr_2, hr⟩ := bindS hr
  refine r_d rfl rfl rfl (s_callD rfl cl_occur_Heads (.cons rfl (Wk.refl _) .nil) (lg_occur_Heads _ _ hr_2)) ?_
  refine r_d rfl rfl rfl (m_len (f := encA) r_2 rfl el_L_api_Atom rfl (asl rfl)) ?_
  refine r_d rfl rfl rfl (s_move rfl rfl) ?_
  refine r_end ?_
  obtain ⟨kk0, hkk0, hr⟩ := exK (fun k => lf_stored_Inert_L0 k r_2 []) hr
  refine g_len 12 rfl (asl rfl) fun hla0 => ?_
  simp only [List.length_map] at hla0
  refine g_blockJ (fun env σ => ∃ (mm_5 : (List (Int × Unit))), env = [(1, .ptr (enc_S_api_Rule r_a0)), (3, .map m10_0)] ∧ σ = [.map m10_0 (mapM' (D.int .i64) encU mm_5)] ∧ kk0 mm_5 = some res) ?_ (fun HK0 => ?_)
  ·
   rintro _ _ ⟨mm_5, rfl, rfl, hr⟩
   rw [hkk0] at hr
   refine g_seq ?_
   refine g_seq ?_
   refine g_run (by kernel_rfl) [(0, .d), (1, .d), (2, .d), (3, .d)] rfl ?_
   refine r_d rfl rfl rfl (s_fieldAddr rfl fl_api_Rule_4 rfl rfl rfl rfl) ?_
   refine r_d rfl rfl rfl (s_load rfl rfl (by exact ty_L_api_Goal) rfl) ?_
   refine r_d rfl rfl rfl (m_len (f := encG) r_a0.f4_Body rfl el_L_api_Goal rfl (asl rfl)) ?_
   refine r_d rfl rfl rfl (s_move rfl rfl) ?_
   refine r_end ?_
   obtain ⟨kk1, hkk1, hr⟩ := exK (fun k => lf_stored_Inert_L1 k r_a0.f4_Body mm_5) hr
   refine g_len 31 rfl (asl rfl) fun hla1 => ?_
   simp only [List.length_map] at hla1
   refine g_blockJ (fun env σ => env = [] ∧ σ = [] ∧ kk1 = some res) ?_ (fun HK1 => ?_)
   ·
    rintro _ _ ⟨rfl, rfl, hr⟩
    rw [hkk1] at hr
    refine g_seq ?_
    refine g_run (by kernel_rfl) [(0, .d)] rfl ?_
    refine r_d rfl rfl rfl (s_assign rfl rfl) ?_
    refine r_end ?_
    obtain rfl := Option.some.inj hr
    refine g_ret Try.func8 _ (.cons (resTmp rfl (Wk.refl _)) .nil) ?_
    rfl
   ·
    refine g_sub [(3, .map m10_0), (31, .lst (r_a0.f4_Body.map encG)), (32, .int .i64 (r_a0.f4_Body.length : Int)), (33, .int .i64 ((0 : Nat) : Int))] (Sub.cons' rfl (Sub.cons' rfl (Sub.cons' rfl (Sub.cons' rfl (Sub.nil _))))) ?_
    refine g_loop (fun n env σ => ∃ (i_6 : Nat) (mm_7 : (List (Int × Unit))), (n = r_a0.f4_Body.length - i_6) ∧ (env = [(3, .map m10_0), (31, .lst (r_a0.f4_Body.map encG)), (32, .int .i64 (r_a0.f4_Body.length : Int)), (33, .int .i64 (i_6 : Int))]) ∧ (σ = [.map m10_0 (mapM' (D.int .i64) encU mm_7)]) ∧ (i_6 ≤ r_a0.f4_Body.length) ∧ (lf_stored_Inert_L1 kk1 (r_a0.f4_Body.drop i_6) mm_7 = some res)) _ ⟨0, mm_5, rfl, rfl, rfl, Nat.zero_le _, hr⟩ ?_
    rintro n _ _ ⟨i_6, mm_7, rfl, rfl, rfl, hi1, hr⟩ IH1
    rcases listStep r_a0.f4_Body i_6 hi1 with ⟨ht1, hd1, he1⟩ | ⟨q_8, ht1, hd1, hq1, hlt1⟩
    ·
     rw [hd1, lf_stored_Inert_L1] at hr
     refine g_seq ?_
     refine g_run (by kernel_rfl) [(0, .d)] rfl ?_
     refine r_d rfl rfl rfl (s_cmp rfl rfl rfl rfl) ?_
     refine r_end ?_
     refine g_seq ?_
     refine g_known 34 false rfl ht1 ?_
     refine g_condF rfl ?_
     refine g_exit rfl ?_
     refine g_sub [] (Sub.nil _) ?_
     refine g_perm [] _ (pf0 _) ?_
     exact HK1 _ _ ⟨rfl, rfl, hr⟩
    ·
     rw [hd1, lf_stored_Inert_L1] at hr
     refine g_seq ?_
     refine g_run (by kernel_rfl) [(0, .d)] rfl ?_
     refine r_d rfl rfl rfl (s_cmp rfl rfl rfl rfl) ?_
     refine r_end ?_
     refine g_seq ?_
     refine g_known 34 true rfl ht1 ?_
     refine g_condT rfl ?_
     refine g_skip ?_
     refine g_seq ?_
     refine g_block ?_
     refine g_seq ?_
     refine g_run (by kernel_rfl) [(0, .d), (1, .d), (2, .w), (3, .w)] rfl ?_
     refine r_d rfl rfl rfl (m_index (f := encG) r_a0.f4_Body rfl el_L_api_Goal rfl (asl rfl) rfl hq1 sz_encG rfl) ?_
     refine r_d rfl rfl rfl (s_load rfl rfl (by exact ty_api_Goal) (sz_encG _)) ?_
     refine r_w rfl rfl rfl (s_alloc rfl zv_api_Goal) ?_
     rintro _ _ ⟨b9_8, rfl, rfl⟩
     refine r_w01 rfl rfl rfl (t_store0 _ rfl rfl rfl (Wk.refl _) (pf0 _) (by exact ty_api_Goal) (sz_encG _) rfl rfl) ?_
     refine r_end ?_
     refine g_freeze 9 b9_8 rfl (pf0 _) ?_
     refine g_block ?_
     refine g_seq ?_
     refine g_run (by kernel_rfl) [(0, .d), (1, .d), (2, .d), (3, .d)] rfl ?_
     refine r_d rfl rfl rfl (s_load rfl rfl (by exact ty_api_Goal) (sz_encG _)) ?_
     obtain ⟨r_10, hr_10, hr⟩ := bindS hr
     refine r_d rfl rfl rfl (s_callD rfl cl_term_RightGoal (.cons rfl (Wk.refl _) .nil) (lx_term_RightGoal _ _ hr_10)) ?_
     refine r_d rfl rfl rfl (s_not rfl rfl) ?_
     refine r_d rfl rfl rfl (s_assign rfl rfl) ?_
     refine r_end ?_
     refine g_sB 37 rfl hr (fun h37_10 hr => ?_) (fun h37_10 hr => ?_)
     ·
      refine g_condT rfl ?_
      refine g_seq ?_
      refine g_run (by kernel_rfl) [(0, .d)] rfl ?_
      refine r_d rfl rfl rfl (s_assign rfl rfl) ?_
      refine r_end ?_
      obtain rfl := Option.some.inj hr
      refine g_ret Try.func8 _ (.cons (resTmp rfl (Wk.refl _)) .nil) ?_
      rfl
     ·
      refine g_condF rfl ?_
      refine g_seq ?_
      refine g_run (by kernel_rfl) [(0, .d), (1, .d), (2, .d), (3, .d)] rfl ?_
      refine r_d rfl rfl rfl (s_fieldAddr rfl fl_api_Goal_0 rfl rfl rfl rfl) ?_
      refine r_d rfl rfl rfl (s_load rfl rfl (by exact ty_int) rfl) ?_
      refine r_d rfl rfl rfl (s_cmp rfl rfl rfl rfl) ?_
      refine r_d rfl rfl rfl (s_assign rfl rfl) ?_
      refine r_end ?_
      refine g_sB 41 rfl hr (fun h41_11 hr => ?_) (fun h41_11 hr => ?_)
      ·
       refine g_condT rfl ?_
       refine g_skip ?_
       refine g_inBlock ?_
       refine g_inBlock ?_
       refine g_run (by kernel_rfl) [(0, .d), (1, .d)] rfl ?_
       refine r_d rfl rfl rfl (s_ar (r := ((i_6 + 1 : Nat) : Int)) rfl rfl rfl (by simp [iar]) (by omega)) ?_
       refine r_d rfl rfl rfl (s_move rfl rfl) ?_
       refine r_end ?_
       refine g_sub [(3, .map m10_0), (31, .lst (r_a0.f4_Body.map encG)), (32, .int .i64 (r_a0.f4_Body.length : Int)), (33, .int .i64 ((i_6 + 1 : Nat) : Int))] (Sub.cons' rfl (Sub.cons' rfl (Sub.cons' rfl (Sub.cons' rfl (Sub.nil _))))) ?_
       exact IH1 _ _ _ (by omega) ⟨(i_6 + 1), mm_7, rfl, rfl, rfl, (by omega), hr⟩
      ·
       refine g_condF rfl ?_
       refine g_seq ?_
       refine g_seq ?_
       refine g_run (by kernel_rfl) [(0, .d), (1, .d), (2, .d), (3, .d)] rfl ?_
       refine r_d rfl rfl rfl (s_fieldAddr rfl fl_api_Goal_0 rfl rfl rfl rfl) ?_
       refine r_d rfl rfl rfl (s_load rfl rfl (by exact ty_int) rfl) ?_
       refine r_d rfl rfl rfl (s_cmp rfl rfl rfl rfl) ?_
       refine r_d rfl rfl rfl (s_assign rfl rfl) ?_
       refine r_end ?_
       refine g_sB 45 rfl hr (fun h45_12 hr => ?_) (fun h45_12 hr => ?_)
       ·
        refine g_condT rfl ?_
        refine g_skip ?_
        refine g_condT rfl ?_
        refine g_seq ?_
        refine g_run (by kernel_rfl) [(0, .d)] rfl ?_
        refine r_d rfl rfl rfl (s_assign rfl rfl) ?_
        refine r_end ?_
        obtain rfl := Option.some.inj hr
        refine g_ret Try.func8 _ (.cons (resTmp rfl (Wk.refl _)) .nil) ?_
        rfl
       ·
        refine g_condF rfl ?_
        refine g_seq ?_
        refine g_run (by kernel_rfl) [(0, .d), (1, .d), (2, .d), (3, .d), (4, .d), (5, .d), (6, .d)] rfl ?_
        refine r_d rfl rfl rfl (s_fieldAddr rfl fl_api_Goal_2 rfl rfl rfl rfl) ?_
        refine r_d rfl rfl rfl (s_load rfl rfl (by exact ty_L_api_Term) rfl) ?_
        obtain ⟨q_14, hq_14, hr⟩ := bindS hr
        refine r_d rfl rfl rfl (m_index (f := encT) q_8.ts rfl el_L_api_Term rfl (asl rfl) rfl hq_14 sz_encT rfl) ?_
        refine r_d rfl rfl rfl (s_fieldAddr rfl fl_api_Term_0 rfl (fsT_get0 _) (fsT_off0 _) rfl) ?_
        refine r_d rfl rfl rfl (s_load rfl rfl (by exact ty_int) rfl) ?_
        refine r_d rfl rfl rfl (s_cmp rfl rfl rfl rfl) ?_
        refine r_d rfl rfl rfl (s_assign rfl rfl) ?_
        refine r_end ?_
        refine g_sB 45 rfl hr (fun h45_14 hr => ?_) (fun h45_14 hr => ?_)
        ·
         refine g_condT rfl ?_
         refine g_skip ?_
         refine g_condT rfl ?_
         refine g_seq ?_
         refine g_run (by kernel_rfl) [(0, .d)] rfl ?_
         refine r_d rfl rfl rfl (s_assign rfl rfl) ?_
         refine r_end ?_
         obtain rfl := Option.some.inj hr
         refine g_ret Try.func8 _ (.cons (resTmp rfl (Wk.refl _)) .nil) ?_
         rfl
        ·
         refine g_condF rfl ?_
         refine g_run (by kernel_rfl) [(0, .d), (1, .d), (2, .d), (3, .d), (4, .d), (5, .d), (6, .w), (7, .d), (8, .d)] rfl ?_
         refine r_d rfl rfl rfl (s_move rfl rfl) ?_
         refine r_d rfl rfl rfl (s_fieldAddr rfl fl_api_Goal_2 rfl rfl rfl rfl) ?_
         refine r_d rfl rfl rfl (s_load rfl rfl (by exact ty_L_api_Term) rfl) ?_
         refine r_d rfl rfl rfl (m_index (f := encT) q_8.ts rfl el_L_api_Term rfl (asl rfl) rfl hq_14 sz_encT rfl) ?_
         refine r_d rfl rfl rfl (s_fieldAddr rfl fl_api_Term_1 rfl (fsT_get1 _) (fsT_off1 _) rfl) ?_
         refine r_d rfl rfl rfl (s_load rfl rfl (by exact ty_int) rfl) ?_
         obtain ⟨r_16, hr_16, hr⟩ := bindS hr
         refine r_w rfl rfl rfl (s_call _ rfl cl_stored_variables_put (.cons rfl (Wk.refl _) (.cons rfl (Wk.refl _) .nil)) (by exact (pf0 _)) (lg_stored_variables_put_s1 _ _ _ _ hr_16)) ?_
         rintro _ _ ⟨_, ⟨rfl, rfl⟩, rfl⟩
         refine r_st ((.map m10_0 (mapM' (D.int .i64) encU r_16.2)) :: _) rfl ?_
         refine r_d rfl rfl rfl (s_not rfl rfl) ?_
         refine r_d rfl rfl rfl (s_assign rfl rfl) ?_
         refine r_end ?_
         refine g_sB 45 rfl hr (fun h45_16 hr => ?_) (fun h45_16 hr => ?_)
         ·
          refine g_condT rfl ?_
          refine g_seq ?_
          refine g_run (by kernel_rfl) [(0, .d)] rfl ?_
          refine r_d rfl rfl rfl (s_assign rfl rfl) ?_
          refine r_end ?_
          obtain rfl := Option.some.inj hr
          refine g_ret Try.func8 _ (.cons (resTmp rfl (Wk.refl _)) .nil) ?_
          rfl
         ·
          refine g_condF rfl ?_
          refine g_skip ?_
          refine g_inBlock ?_
          refine g_inBlock ?_
          refine g_run (by kernel_rfl) [(0, .d), (1, .d)] rfl ?_
          refine r_d rfl rfl rfl (s_ar (r := ((i_6 + 1 : Nat) : Int)) rfl rfl rfl (by simp [iar]) (by omega)) ?_
          refine r_d rfl rfl rfl (s_move rfl rfl) ?_
          refine r_end ?_
          refine g_sub [(3, .map m10_0), (31, .lst (r_a0.f4_Body.map encG)), (32, .int .i64 (r_a0.f4_Body.length : Int)), (33, .int .i64 ((i_6 + 1 : Nat) : Int))] (Sub.cons' rfl (Sub.cons' rfl (Sub.cons' rfl (Sub.cons' rfl (Sub.nil _))))) ?_
          exact IH1 _ _ _ (by omega) ⟨(i_6 + 1), r_16.2, rfl, rfl, rfl, (by omega), hr⟩
  ·
   refine g_sub [(1, .ptr (enc_S_api_Rule r_a0)), (3, .map m10_0), (12, .lst (r_2.map encA)), (13, .int .i64 (r_2.length : Int)), (14, .int .i64 ((0 : Nat) : Int))] (Sub.cons' rfl (Sub.cons' rfl (Sub.cons' rfl (Sub.cons' rfl (Sub.cons' rfl (Sub.nil _)))))) ?_
   refine g_loop (fun n env σ => ∃ (i_3 : Nat) (mm_4 : (List (Int × Unit))), (n = r_2.length - i_3) ∧ (env = [(1, .ptr (enc_S_api_Rule r_a0)), (3, .map m10_0), (12, .lst (r_2.map encA)), (13, .int .i64 (r_2.length : Int)), (14, .int .i64 (i_3 : Int))]) ∧ (σ = [.map m10_0 (mapM' (D.int .i64) encU mm_4)]) ∧ (i_3 ≤ r_2.length) ∧ (lf_stored_Inert_L0 kk0 (r_2.drop i_3) mm_4 = some res)) _ ⟨0, [], rfl, rfl, rfl, Nat.zero_le _, hr⟩ ?_
   rintro n _ _ ⟨i_3, mm_4, rfl, rfl, rfl, hi0, hr⟩ IH0
   rcases listStep r_2 i_3 hi0 with ⟨ht0, hd0, he0⟩ | ⟨q_18, ht0, hd0, hq0, hlt0⟩
   ·
    rw [hd0, lf_stored_Inert_L0] at hr
    refine g_seq ?_
    refine g_run (by kernel_rfl) [(0, .d)] rfl ?_
    refine r_d rfl rfl rfl (s_cmp rfl rfl rfl rfl) ?_
    refine r_end ?_
    refine g_seq ?_
    refine g_known 15 false rfl ht0 ?_
    refine g_condF rfl ?_
    refine g_exit rfl ?_
    refine g_sub [(1, .ptr (enc_S_api_Rule r_a0)), (3, .map m10_0)] (Sub.cons' rfl (Sub.cons' rfl (Sub.nil _))) ?_
    exact HK0 _ _ ⟨mm_4, rfl, rfl, hr⟩
   ·
    rw [hd0, lf_stored_Inert_L0] at hr
    refine g_seq ?_
    refine g_run (by kernel_rfl) [(0, .d)] rfl ?_
    refine r_d rfl rfl rfl (s_cmp rfl rfl rfl rfl) ?_
    refine r_end ?_
    refine g_seq ?_
    refine g_known 15 true rfl ht0 ?_
    refine g_condT rfl ?_
    refine g_skip ?_
    refine g_seq ?_
    refine g_block ?_
    refine g_seq ?_
    refine g_run (by kernel_rfl) [(0, .d), (1, .d), (2, .w), (3, .w)] rfl ?_
    refine r_d rfl rfl rfl (m_index (f := encA) r_2 rfl el_L_api_Atom rfl (asl rfl) rfl hq0 sz_encA rfl) ?_
    refine r_d rfl rfl rfl (s_load rfl rfl (by exact ty_api_Atom) (sz_encA _)) ?_
    refine r_w rfl rfl rfl (s_alloc rfl zv_api_Atom) ?_
    rintro _ _ ⟨b5_18, rfl, rfl⟩
    refine r_w01 rfl rfl rfl (t_store0 _ rfl rfl rfl (Wk.refl _) (pf0 _) (by exact ty_api_Atom) (sz_encA _) rfl rfl) ?_
    refine r_end ?_
    refine g_freeze 5 b5_18 rfl (pf0 _) ?_
    refine g_seq ?_
    refine g_run (by kernel_rfl) [(0, .d), (1, .d), (2, .d), (3, .d)] rfl ?_
    refine r_d rfl rfl rfl (s_load rfl rfl (by exact ty_api_Atom) (sz_encA _)) ?_
    obtain ⟨r_20, hr_20, hr⟩ := bindS hr
    refine r_d rfl rfl rfl (s_callD rfl cl_term_AtomVars (.cons rfl (Wk.refl _) .nil) (lx_term_AtomVars _ _ hr_20)) ?_
    refine r_d rfl rfl rfl (m_len (f := (D.int .i64)) r_20 rfl el_L_int rfl (asl rfl)) ?_
    refine r_d rfl rfl rfl (s_move rfl rfl) ?_
    refine r_end ?_
    obtain ⟨kk2, hkk2, hr⟩ := exK (fun k => lf_stored_Inert_L2 k r_20 mm_4) hr
    refine g_len 19 rfl (asl rfl) fun hla2 => ?_
    simp only [List.length_map] at hla2
    refine g_blockJ (fun env σ => ∃ (mm_23 : (List (Int × Unit))), env = [(1, .ptr (enc_S_api_Rule r_a0)), (3, .map m10_0), (12, .lst (r_2.map encA)), (13, .int .i64 (r_2.length : Int)), (14, .int .i64 (i_3 : Int))] ∧ σ = [.map m10_0 (mapM' (D.int .i64) encU mm_23)] ∧ kk2 mm_23 = some res) ?_ (fun HK2 => ?_)
    ·
     rintro _ _ ⟨mm_23, rfl, rfl, hr⟩
     rw [hkk2] at hr
     refine g_inBlock ?_
     refine g_run (by kernel_rfl) [(0, .d), (1, .d)] rfl ?_
     refine r_d rfl rfl rfl (s_ar (r := ((i_3 + 1 : Nat) : Int)) rfl rfl rfl (by simp [iar]) (by omega)) ?_
     refine r_d rfl rfl rfl (s_move rfl rfl) ?_
     refine r_end ?_
     refine g_sub [(1, .ptr (enc_S_api_Rule r_a0)), (3, .map m10_0), (12, .lst (r_2.map encA)), (13, .int .i64 (r_2.length : Int)), (14, .int .i64 ((i_3 + 1 : Nat) : Int))] (Sub.cons' rfl (Sub.cons' rfl (Sub.cons' rfl (Sub.cons' rfl (Sub.cons' rfl (Sub.nil _)))))) ?_
     exact IH0 _ _ _ (by omega) ⟨(i_3 + 1), mm_23, rfl, rfl, rfl, (by omega), hr⟩
    ·
     refine g_sub [(1, .ptr (enc_S_api_Rule r_a0)), (3, .map m10_0), (12, .lst (r_2.map encA)), (13, .int .i64 (r_2.length : Int)), (14, .int .i64 ((i_3 : Nat) : Int)), (19, .lst (r_20.map (D.int .i64))), (20, .int .i64 (r_20.length : Int)), (21, .int .i64 ((0 : Nat) : Int))] (Sub.cons' rfl (Sub.cons' rfl (Sub.cons' rfl (Sub.cons' rfl (Sub.cons' rfl (Sub.cons' rfl (Sub.cons' rfl (Sub.cons' rfl (Sub.nil _))))))))) ?_
     refine g_loop (fun n env σ => ∃ (i_21 : Nat) (mm_22 : (List (Int × Unit))), (n = r_20.length - i_21) ∧ (env = [(1, .ptr (enc_S_api_Rule r_a0)), (3, .map m10_0), (12, .lst (r_2.map encA)), (13, .int .i64 (r_2.length : Int)), (14, .int .i64 (i_3 : Int)), (19, .lst (r_20.map (D.int .i64))), (20, .int .i64 (r_20.length : Int)), (21, .int .i64 (i_21 : Int))]) ∧ (σ = [.map m10_0 (mapM' (D.int .i64) encU mm_22)]) ∧ (i_21 ≤ r_20.length) ∧ (lf_stored_Inert_L2 kk2 (r_20.drop i_21) mm_22 = some res)) _ ⟨0, mm_4, rfl, rfl, rfl, Nat.zero_le _, hr⟩ ?_
     rintro n _ _ ⟨i_21, mm_22, rfl, rfl, rfl, hi2, hr⟩ IH2
     rcases listStep r_20 i_21 hi2 with ⟨ht2, hd2, he2⟩ | ⟨q_24, ht2, hd2, hq2, hlt2⟩
     ·
      rw [hd2, lf_stored_Inert_L2] at hr
      refine g_seq ?_
      refine g_run (by kernel_rfl) [(0, .d)] rfl ?_
      refine r_d rfl rfl rfl (s_cmp rfl rfl rfl rfl) ?_
      refine r_end ?_
      refine g_seq ?_
      refine g_known 22 false rfl ht2 ?_
      refine g_condF rfl ?_
      refine g_exit rfl ?_
      refine g_sub [(1, .ptr (enc_S_api_Rule r_a0)), (3, .map m10_0), (12, .lst (r_2.map encA)), (13, .int .i64 (r_2.length : Int)), (14, .int .i64 (i_3 : Int))] (Sub.cons' rfl (Sub.cons' rfl (Sub.cons' rfl (Sub.cons' rfl (Sub.cons' rfl (Sub.nil _)))))) ?_
      exact HK2 _ _ ⟨mm_22, rfl, rfl, hr⟩
     ·
      rw [hd2, lf_stored_Inert_L2] at hr
      refine g_seq ?_
      refine g_run (by kernel_rfl) [(0, .d)] rfl ?_
      refine r_d rfl rfl rfl (s_cmp rfl rfl rfl rfl) ?_
      refine r_end ?_
      refine g_seq ?_
      refine g_known 22 true rfl ht2 ?_
      refine g_condT rfl ?_
      refine g_skip ?_
      refine g_seq ?_
      refine g_block ?_
      refine g_seq ?_
      refine g_run (by kernel_rfl) [(0, .d), (1, .d), (2, .d)] rfl ?_
      refine r_d rfl rfl rfl (m_index (f := (D.int .i64)) r_20 rfl el_L_int rfl (asl rfl) rfl hq2 (fun _ => rfl) rfl) ?_
      refine r_d rfl rfl rfl (s_load rfl rfl (by exact ty_int) rfl) ?_
      refine r_d rfl rfl rfl (s_assign rfl rfl) ?_
      refine r_end ?_
      refine g_run (by kernel_rfl) [(0, .d), (1, .d), (2, .w)] rfl ?_
      refine r_d rfl rfl rfl (s_move rfl rfl) ?_
      refine r_d rfl rfl rfl (s_move rfl rfl) ?_
      obtain ⟨r_25, hr_25, hr⟩ := bindS hr
      refine r_w rfl rfl rfl (s_call _ rfl cl_stored_variables_put (.cons rfl (Wk.refl _) (.cons rfl (Wk.refl _) .nil)) (by exact (pf0 _)) (lg_stored_variables_put_s1 _ _ _ _ hr_25)) ?_
      rintro _ _ ⟨_, ⟨rfl, rfl⟩, rfl⟩
      refine r_st ((.map m10_0 (mapM' (D.int .i64) encU r_25.2)) :: _) rfl ?_
      refine r_end ?_
      refine g_inBlock ?_
      refine g_run (by kernel_rfl) [(0, .d), (1, .d)] rfl ?_
      refine r_d rfl rfl rfl (s_ar (r := ((i_21 + 1 : Nat) : Int)) rfl rfl rfl (by simp [iar]) (by omega)) ?_
      refine r_d rfl rfl rfl (s_move rfl rfl) ?_
      refine r_end ?_
      refine g_sub [(1, .ptr (enc_S_api_Rule r_a0)), (3, .map m10_0), (12, .lst (r_2.map encA)), (13, .int .i64 (r_2.length : Int)), (14, .int .i64 ((i_3 : Nat) : Int)), (19, .lst (r_20.map (D.int .i64))), (20, .int .i64 (r_20.length : Int)), (21, .int .i64 ((i_21 + 1 : Nat) : Int))] (Sub.cons' rfl (Sub.cons' rfl (Sub.cons' rfl (Sub.cons' rfl (Sub.cons' rfl (Sub.cons' rfl (Sub.cons' rfl (Sub.cons' rfl (Sub.nil _))))))))) ?_
      exact IH2 _ _ _ (by omega) ⟨(i_21 + 1), r_25.2, rfl, rfl, rfl, (by omega), hr⟩

noncomputable def lf_stored_of_L0 (k : ((List S_stored_occurrence)) → Option ((List S_stored_occurrence))) (p_a0 : S_api_Program) : List S_api_Occ → (List S_stored_occurrence) → Option ((List S_stored_occurrence))
  | [], l_5 =>
  (k l_5)
  | q_9 :: rest, l_5 =>
  ((getI p_a0.f1_Rules q_9.f0_Rule).bind fun q_11 =>
  ((appO 144 l_5 [(⟨q_9, q_11⟩ : S_stored_occurrence)]).bind fun l_12 =>
  (lf_stored_of_L0 k p_a0 rest l_12)))
noncomputable def lf_stored_of (p_a0 : S_api_Program) (name_a1 : ByteArray) (arity_a2 : Int) : Option ((List S_stored_occurrence)) :=
  ((x_occOf p_a0 name_a1 arity_a2).bind fun r_3 =>
  (lf_stored_of_L0 (fun l_8 =>
  some (l_8)) p_a0 r_3 []))

set_option maxHeartbeats 1000000 in
theorem lg_stored_of (p_a0 : S_api_Program) (name_a1 : ByteArray) (arity_a2 : Int) (res : (List S_stored_occurrence)) (hr : lf_stored_of p_a0 name_a1 arity_a2 = some res) : Gives Try.prog 29 [enc_S_api_Program p_a0, .str name_a1, .int .i64 arity_a2] (.lst (res.map enc_S_stored_occurrence)) := by
  unfold lf_stored_of at hr
  refine spec_env [(0, enc_S_api_Program p_a0), (1, .str name_a1), (2, .int .i64 arity_a2)] Try.func29 rfl rfl fun K hK => ?_
  refine g_seq ?_
  refine g_run (by kernel_rfl) [(0, .d), (1, .w)] rfl ?_
  refine r_d rfl rfl rfl (s_box rfl rfl rfl) ?_
  refine r_w rfl rfl rfl (s_nilOwn 64 9 (.inl rfl)) ?_
  rintro _ _ ⟨u6_0, rfl, rfl⟩
  refine r_end ?_
  refine g_seq ?_
  refine g_run (by kernel_rfl) [(0, .w)] rfl ?_
  refine r_w rfl rfl rfl (s_nilOwn 64 9 (.inl rfl)) ?_
  rintro _ _ ⟨u7_1, rfl, rfl⟩
  refine r_end ?_
  refine g_seq ?_
  refine g_seq ?_
  refine g_run (by kernel_rfl) [(0, .d), (1, .d), (2, .d), (3, .d), (4, .d), (5, .d)] rfl ?_
  refine r_d rfl rfl rfl (s_load rfl rfl (by exact ty_api_Program) (sz_S_api_Program _)) ?_
  refine r_d rfl rfl rfl (s_move rfl rfl) ?_
  refine r_d rfl rfl rfl (s_move rfl rfl) ?_
  obtain ⟨r_3, hr_3, hr⟩ := bindS hr
  refine r_d rfl rfl rfl (s_callD rfl cl_occur_Of (.cons rfl (Wk.refl _) (.cons rfl (Wk.refl _) (.cons rfl (Wk.refl _) .nil))) (lx_occur_Of _ _ _ _ hr_3)) ?_
  refine r_d rfl rfl rfl (m_len (f := enc_S_api_Occ) r_3 rfl el_L_api_Occ rfl (asl rfl)) ?_
  refine r_d rfl rfl rfl (s_move rfl rfl) ?_
  refine r_end ?_
  obtain ⟨kk0, hkk0, hr⟩ := exK (fun k => lf_stored_of_L0 k p_a0 r_3 []) hr
  refine g_len 13 rfl (asl rfl) fun hla0 => ?_
  simp only [List.length_map] at hla0
  refine g_blockJ (fun env σ => ∃ (l_8 : (List S_stored_occurrence)) (u_7 : Value), env = [(7, .own u_7 (l_8.map enc_S_stored_occurrence))] ∧ σ = [.row u_7 l_8.length 64 9] ∧ kk0 l_8 = some res) ?_ (fun HK0 => ?_)
  ·
   rintro _ _ ⟨l_8, u_7, rfl, rfl, hr⟩
   rw [hkk0] at hr
   refine g_seq ?_
   refine g_run (by kernel_rfl) [(0, .d), (1, .d)] rfl ?_
   refine r_d rfl rfl rfl (s_move rfl rfl) ?_
   refine r_d rfl rfl rfl (s_assign rfl rfl) ?_
   refine r_end ?_
   obtain rfl := Option.some.inj hr
   refine g_ret Try.func29 _ (.cons (resTmp rfl (Wk.own _ _)) .nil) ?_
   rfl
  ·
   refine g_sub [(3, .ptr (enc_S_api_Program p_a0)), (13, .lst (r_3.map enc_S_api_Occ)), (14, .int .i64 (r_3.length : Int)), (7, .own u7_1 ([].map enc_S_stored_occurrence)), (15, .int .i64 ((0 : Nat) : Int))] (Sub.cons' rfl (Sub.cons' rfl (Sub.cons' rfl (Sub.cons' rfl (Sub.cons' rfl (Sub.nil _)))))) ?_
   refine g_perm [_] _ (pf0 _) ?_
   refine g_loop (fun n env σ => ∃ (l_5 : (List S_stored_occurrence)) (i_6 : Nat) (u_4 : Value), (n = r_3.length - i_6) ∧ (env = [(3, .ptr (enc_S_api_Program p_a0)), (13, .lst (r_3.map enc_S_api_Occ)), (14, .int .i64 (r_3.length : Int)), (7, .own u_4 (l_5.map enc_S_stored_occurrence)), (15, .int .i64 (i_6 : Int))]) ∧ (σ = [.row u_4 l_5.length 64 9]) ∧ (i_6 ≤ r_3.length) ∧ (lf_stored_of_L0 kk0 p_a0 (r_3.drop i_6) l_5 = some res)) _ ⟨[], 0, u7_1, rfl, rfl, rfl, Nat.zero_le _, hr⟩ ?_
   rintro n _ _ ⟨l_5, i_6, u_4, rfl, rfl, rfl, hi0, hr⟩ IH0
   rcases listStep r_3 i_6 hi0 with ⟨ht0, hd0, he0⟩ | ⟨q_9, ht0, hd0, hq0, hlt0⟩
   ·
    rw [hd0, lf_stored_of_L0] at hr
    refine g_seq ?_
    refine g_run (by kernel_rfl) [(0, .d)] rfl ?_
    refine r_d rfl rfl rfl (s_cmp rfl rfl rfl rfl) ?_
    refine r_end ?_
    refine g_seq ?_
    refine g_known 16 false rfl ht0 ?_
    refine g_condF rfl ?_
    refine g_exit rfl ?_
    refine g_sub [(7, .own u_4 (l_5.map enc_S_stored_occurrence))] (Sub.cons' rfl (Sub.nil _)) ?_
    exact HK0 _ _ ⟨l_5, u_4, rfl, rfl, hr⟩
   ·
    rw [hd0, lf_stored_of_L0] at hr
    refine g_seq ?_
    refine g_run (by kernel_rfl) [(0, .d)] rfl ?_
    refine r_d rfl rfl rfl (s_cmp rfl rfl rfl rfl) ?_
    refine r_end ?_
    refine g_seq ?_
    refine g_known 16 true rfl ht0 ?_
    refine g_condT rfl ?_
    refine g_skip ?_
    refine g_seq ?_
    refine g_block ?_
    refine g_seq ?_
    refine g_run (by kernel_rfl) [(0, .d), (1, .d), (2, .w), (3, .w)] rfl ?_
    refine r_d rfl rfl rfl (m_index (f := enc_S_api_Occ) r_3 rfl el_L_api_Occ rfl (asl rfl) rfl hq0 sz_S_api_Occ rfl) ?_
    refine r_d rfl rfl rfl (s_load rfl rfl (by exact ty_api_Occ) (sz_S_api_Occ _)) ?_
    refine r_w rfl rfl rfl (s_alloc rfl zv_api_Occ) ?_
    rintro _ _ ⟨b9_9, rfl, rfl⟩
    refine r_w01 rfl rfl rfl (t_store0 _ rfl rfl rfl (Wk.refl _) (pf0 _) (by exact ty_api_Occ) (sz_S_api_Occ _) rfl rfl) ?_
    refine r_end ?_
    refine g_freeze 9 b9_9 rfl (pf0 _) ?_
    refine g_any (by kernel_rfl) (by kernel_rfl) [(0, .d), (1, .d), (2, .d), (3, .d), (4, .d), (5, .d), (6, .d), (7, .d), (8, .d), (9, .d), (10, .w), (11, .d)] (by kernel_rfl) ?_
    refine r_d rfl rfl rfl (s_move rfl rfl) ?_
    refine r_d rfl rfl rfl (s_load rfl rfl (by exact ty_api_Occ) (sz_S_api_Occ _)) ?_
    refine r_d rfl rfl rfl (s_fieldAddr rfl fl_api_Program_1 rfl rfl rfl rfl) ?_
    refine r_d rfl rfl rfl (s_load rfl rfl (by exact ty_L_api_Rule) rfl) ?_
    refine r_d rfl rfl rfl (s_fieldAddr rfl fl_api_Occ_0 rfl rfl rfl rfl) ?_
    refine r_d rfl rfl rfl (s_load rfl rfl (by exact ty_int) rfl) ?_
    obtain ⟨q_11, hq_11, hr⟩ := bindS hr
    refine r_d rfl rfl rfl (m_index (f := enc_S_api_Rule) p_a0.f1_Rules rfl el_L_api_Rule rfl (asl rfl) rfl hq_11 sz_S_api_Rule rfl) ?_
    refine r_d rfl rfl rfl (s_load rfl rfl (by exact ty_api_Rule) (sz_S_api_Rule _)) ?_
    refine r_d rfl rfl rfl (s_build rfl bt_stored_occurrence (.cons rfl (Wk.refl _) (.cons rfl (Wk.refl _) .nil)) (.cons rfl (sz_S_api_Occ _) rfl (.cons rfl (sz_S_api_Rule _) rfl (.nil _)))) ?_
    refine r_d rfl rfl rfl (m_lit (f := enc_S_stored_occurrence) [.tmp 27] [(⟨q_9, q_11⟩ : S_stored_occurrence)] rfl el_L_stored_occurrence rfl rfl (by decide) (by decide) (.cons rfl (Wk.refl _) .nil) sz_S_stored_occurrence (fun _ => rfl)) ?_
    obtain ⟨l_12, hl_12, hr⟩ := bindS hr
    refine r_w rfl rfl rfl (m_appOwn (f := enc_S_stored_occurrence) l_5 [(⟨q_9, q_11⟩ : S_stored_occurrence)] rfl el_L_stored_occurrence rfl rfl (asl rfl) (pf0 _) rfl sz_S_stored_occurrence hl_12) ?_
    rintro _ _ ⟨u29_12, rfl, rfl⟩
    refine r_d rfl rfl rfl (s_assign rfl rfl) ?_
    refine r_end ?_
    refine g_inBlock ?_
    refine g_run (by kernel_rfl) [(0, .d), (1, .d)] rfl ?_
    refine r_d rfl rfl rfl (s_ar (r := ((i_6 + 1 : Nat) : Int)) rfl rfl rfl (by simp [iar]) (by omega)) ?_
    refine r_d rfl rfl rfl (s_move rfl rfl) ?_
    refine r_end ?_
    refine g_sub [(3, .ptr (enc_S_api_Program p_a0)), (13, .lst (r_3.map enc_S_api_Occ)), (14, .int .i64 (r_3.length : Int)), (7, .own u29_12 (l_12.map enc_S_stored_occurrence)), (15, .int .i64 ((i_6 + 1 : Nat) : Int))] (Sub.cons' rfl (Sub.cons' rfl (Sub.cons' rfl (Sub.cons' rfl (Sub.cons' rfl (Sub.nil _)))))) ?_
    exact IH0 _ _ _ (by omega) ⟨l_12, (i_6 + 1), u29_12, rfl, rfl, rfl, (by omega), hr⟩

noncomputable def lf_stored_occurrence_certain_1_s1 (t_a0 : T) (s_0 : (List (Int × Unit))) : Option (Bool × (List (Int × Unit))) :=
  (bif (t_a0.k != (1 : Int)) then
  some (true, s_0)
  else
  ((lf_stored_variables_put_s1 t_a0.i s_0).bind fun r_2 =>
  some ((!r_2.1), r_2.2)))

set_option maxHeartbeats 1000000 in
theorem lg_stored_occurrence_certain_1_s1 (t_a0 : T) (s_0 : (List (Int × Unit))) (m_o0 : Nat) (res : Bool × (List (Int × Unit))) (hr : lf_stored_occurrence_certain_1_s1 t_a0 s_0 = some res) : Spec Try.prog 48 [encT t_a0, .ptr (.map m_o0)] [.map m_o0 (mapM' (D.int .i64) encU s_0)] (fun d σ => d = .bool res.1 ∧ σ = [.map m_o0 (mapM' (D.int .i64) encU res.2)]) := by
  unfold lf_stored_occurrence_certain_1_s1 at hr
  refine spec_env [(0, encT t_a0), (1, .ptr (.map m_o0))] Try.func48 rfl rfl fun K hK => ?_
  refine g_seq ?_
  refine g_run (by kernel_rfl) [(0, .d), (1, .d)] rfl ?_
  refine r_d rfl rfl rfl (s_box rfl rfl rfl) ?_
  refine r_d rfl rfl rfl (s_assign rfl rfl) ?_
  refine r_end ?_
  refine g_seq ?_
  refine g_run (by kernel_rfl) [(0, .d), (1, .d), (2, .d), (3, .d), (4, .d), (5, .d), (6, .d), (7, .w), (8, .d), (9, .d), (10, .d)] rfl ?_
  refine r_d rfl rfl rfl (s_fieldAddr rfl fl_api_Term_0 rfl (fsT_get0 _) (fsT_off0 _) rfl) ?_
  refine r_d rfl rfl rfl (s_load rfl rfl (by exact ty_int) rfl) ?_
  refine r_d rfl rfl rfl (s_cmp rfl rfl rfl rfl) ?_
  refine r_d rfl rfl rfl (s_move rfl rfl) ?_
  refine r_sB 7 rfl hr (fun h7_0 hr => ?_) (fun h7_0 hr => ?_)
  ·
   refine r_skip rfl rfl rfl ?_
   refine r_skip rfl rfl rfl ?_
   refine r_skip rfl rfl rfl ?_
   refine r_skip rfl rfl rfl ?_
   refine r_skip rfl rfl rfl ?_
   refine r_d rfl rfl rfl (s_pickT rfl rfl rfl) ?_
   refine r_d rfl rfl rfl (s_assign rfl rfl) ?_
   refine r_end ?_
   obtain rfl := Option.some.inj hr
   refine g_ret Try.func48 _ (.cons (resTmp rfl (Wk.refl _)) .nil) ?_
   exact ⟨rfl, rfl⟩
  ·
   refine r_d rfl rfl rfl (s_load rfl rfl (by exact ty_stored_variables) rfl) ?_
   refine r_d rfl rfl rfl (s_fieldAddr rfl fl_api_Term_1 rfl (fsT_get1 _) (fsT_off1 _) rfl) ?_
   refine r_d rfl rfl rfl (s_load rfl rfl (by exact ty_int) rfl) ?_
   obtain ⟨r_2, hr_2, hr⟩ := bindS hr
   refine r_w rfl rfl rfl (s_call _ rfl cl_stored_variables_put (.cons rfl (Wk.refl _) (.cons rfl (Wk.refl _) .nil)) (by exact (pf0 _)) (lg_stored_variables_put_s1 _ _ _ _ hr_2)) ?_
   rintro _ _ ⟨_, ⟨rfl, rfl⟩, rfl⟩
   refine r_st ((.map m_o0 (mapM' (D.int .i64) encU r_2.2)) :: _) rfl ?_
   refine r_d rfl rfl rfl (s_not rfl rfl) ?_
   refine r_d rfl rfl rfl (s_pickF rfl rfl rfl) ?_
   refine r_d rfl rfl rfl (s_assign rfl rfl) ?_
   refine r_end ?_
   obtain rfl := Option.some.inj hr
   refine g_ret Try.func48 _ (.cons (resTmp rfl (Wk.refl _)) .nil) ?_
   exact ⟨rfl, rfl⟩

noncomputable def lf_slices_IndexFunc_s5_L0 (k : ((List (Int × Unit))) → Option (Int × (List (Int × Unit)))) : List T → Nat → (List (Int × Unit)) → Option (Int × (List (Int × Unit)))
  | [], i_1, mm_2 =>
  (k mm_2)
  | q_4 :: rest, i_1, mm_2 =>
  ((lf_stored_occurrence_certain_1_s1 q_4 mm_2).bind fun r_5 =>
  (bif r_5.1 then
  some ((i_1 : Int), r_5.2)
  else
  (lf_slices_IndexFunc_s5_L0 k rest (i_1 + 1) r_5.2)))
noncomputable def lf_slices_IndexFunc_s5 (s_a0 : (List T)) (s_0 : (List (Int × Unit))) : Option (Int × (List (Int × Unit))) :=
  (lf_slices_IndexFunc_s5_L0 (fun mm_3 =>
  some ((-1), mm_3)) s_a0 0 s_0)

set_option maxHeartbeats 1000000 in
theorem lg_slices_IndexFunc_s5 (s_a0 : (List T)) (s_0 : (List (Int × Unit))) (m_o0 : Nat) (res : Int × (List (Int × Unit))) (hr : lf_slices_IndexFunc_s5 s_a0 s_0 = some res) : Spec Try.prog 59 [.lst (s_a0.map encT), .clo (.func 48) [] [.ptr (.map m_o0)]] [.map m_o0 (mapM' (D.int .i64) encU s_0)] (fun d σ => d = .int .i64 res.1 ∧ σ = [.map m_o0 (mapM' (D.int .i64) encU res.2)]) := by
  unfold lf_slices_IndexFunc_s5 at hr
  refine spec_env [(0, .lst (s_a0.map encT)), (1, .clo (.func 48) [] [.ptr (.map m_o0)])] Try.func59 rfl rfl fun K hK => ?_
  refine g_seq ?_
  refine g_run (by kernel_rfl) [(0, .d)] rfl ?_
  refine r_d rfl rfl rfl (s_assign rfl rfl) ?_
  refine r_end ?_
  refine g_seq ?_
  refine g_seq ?_
  refine g_run (by kernel_rfl) [(0, .d), (1, .d), (2, .d)] rfl ?_
  refine r_d rfl rfl rfl (s_move rfl rfl) ?_
  refine r_d rfl rfl rfl (m_len (f := encT) s_a0 rfl el_L_api_Term rfl (asl rfl)) ?_
  refine r_d rfl rfl rfl (s_move rfl rfl) ?_
  refine r_end ?_
  obtain ⟨kk0, hkk0, hr⟩ := exK (fun k => lf_slices_IndexFunc_s5_L0 k s_a0 0 s_0) hr
  refine g_len 0 rfl (asl rfl) fun hla0 => ?_
  simp only [List.length_map] at hla0
  refine g_blockJ (fun env σ => ∃ (mm_3 : (List (Int × Unit))), env = [] ∧ σ = [.map m_o0 (mapM' (D.int .i64) encU mm_3)] ∧ kk0 mm_3 = some res) ?_ (fun HK0 => ?_)
  ·
   rintro _ _ ⟨mm_3, rfl, rfl, hr⟩
   rw [hkk0] at hr
   refine g_seq ?_
   refine g_run (by kernel_rfl) [(0, .d)] rfl ?_
   refine r_d rfl rfl rfl (s_assign rfl rfl) ?_
   refine r_end ?_
   obtain rfl := Option.some.inj hr
   refine g_ret Try.func59 _ (.cons (resTmp rfl (Wk.refl _)) .nil) ?_
   exact ⟨rfl, rfl⟩
  ·
   refine g_sub [(0, .lst (s_a0.map encT)), (1, .clo (.func 48) [] [.ptr (.map m_o0)]), (7, .int .i64 (s_a0.length : Int)), (8, .int .i64 ((0 : Nat) : Int))] (Sub.cons' rfl (Sub.cons' rfl (Sub.cons' rfl (Sub.cons' rfl (Sub.nil _))))) ?_
   refine g_loop (fun n env σ => ∃ (i_1 : Nat) (mm_2 : (List (Int × Unit))), (n = s_a0.length - i_1) ∧ (env = [(0, .lst (s_a0.map encT)), (1, .clo (.func 48) [] [.ptr (.map m_o0)]), (7, .int .i64 (s_a0.length : Int)), (8, .int .i64 (i_1 : Int))]) ∧ (σ = [.map m_o0 (mapM' (D.int .i64) encU mm_2)]) ∧ (i_1 ≤ s_a0.length) ∧ (lf_slices_IndexFunc_s5_L0 kk0 (s_a0.drop i_1) i_1 mm_2 = some res)) _ ⟨0, s_0, rfl, rfl, rfl, Nat.zero_le _, hr⟩ ?_
   rintro n _ _ ⟨i_1, mm_2, rfl, rfl, rfl, hi0, hr⟩ IH0
   rcases listStep s_a0 i_1 hi0 with ⟨ht0, hd0, he0⟩ | ⟨q_4, ht0, hd0, hq0, hlt0⟩
   ·
    rw [hd0, lf_slices_IndexFunc_s5_L0] at hr
    refine g_seq ?_
    refine g_run (by kernel_rfl) [(0, .d)] rfl ?_
    refine r_d rfl rfl rfl (s_cmp rfl rfl rfl rfl) ?_
    refine r_end ?_
    refine g_seq ?_
    refine g_known 9 false rfl ht0 ?_
    refine g_condF rfl ?_
    refine g_exit rfl ?_
    refine g_sub [] (Sub.nil _) ?_
    exact HK0 _ _ ⟨mm_2, rfl, rfl, hr⟩
   ·
    rw [hd0, lf_slices_IndexFunc_s5_L0] at hr
    refine g_seq ?_
    refine g_run (by kernel_rfl) [(0, .d)] rfl ?_
    refine r_d rfl rfl rfl (s_cmp rfl rfl rfl rfl) ?_
    refine r_end ?_
    refine g_seq ?_
    refine g_known 9 true rfl ht0 ?_
    refine g_condT rfl ?_
    refine g_skip ?_
    refine g_seq ?_
    refine g_block ?_
    refine g_seq ?_
    refine g_run (by kernel_rfl) [(0, .d), (1, .d)] rfl ?_
    refine r_d rfl rfl rfl (s_move rfl rfl) ?_
    refine r_d rfl rfl rfl (s_assign rfl rfl) ?_
    refine r_end ?_
    refine g_seq ?_
    refine g_run (by kernel_rfl) [(0, .d), (1, .d), (2, .d), (3, .d), (4, .d), (5, .w)] rfl ?_
    refine r_d rfl rfl rfl (s_move rfl rfl) ?_
    refine r_d rfl rfl rfl (s_move rfl rfl) ?_
    refine r_d rfl rfl rfl (s_move rfl rfl) ?_
    refine r_d rfl rfl rfl (m_index (f := encT) s_a0 rfl el_L_api_Term rfl (asl rfl) rfl hq0 sz_encT rfl) ?_
    refine r_d rfl rfl rfl (s_load rfl rfl (by exact ty_api_Term) (sz_encT _)) ?_
    obtain ⟨r_5, hr_5, hr⟩ := bindS hr
    refine r_w rfl rfl rfl (s_callV _ rfl rfl cl_stored_occurrence_certain_1 (.cons rfl (Wk.refl _) .nil) rfl (by exact (pf0 _)) (lg_stored_occurrence_certain_1_s1 _ _ _ _ hr_5)) ?_
    rintro _ _ ⟨_, ⟨rfl, rfl⟩, rfl⟩
    refine r_st ((.map m_o0 (mapM' (D.int .i64) encU r_5.2)) :: _) rfl ?_
    refine r_end ?_
    refine g_sB 16 rfl hr (fun h16_5 hr => ?_) (fun h16_5 hr => ?_)
    ·
     refine g_condT rfl ?_
     refine g_seq ?_
     refine g_run (by kernel_rfl) [(0, .d), (1, .d)] rfl ?_
     refine r_d rfl rfl rfl (s_move rfl rfl) ?_
     refine r_d rfl rfl rfl (s_assign rfl rfl) ?_
     refine r_end ?_
     obtain rfl := Option.some.inj hr
     refine g_ret Try.func59 _ (.cons (resTmp rfl (Wk.refl _)) .nil) ?_
     exact ⟨rfl, rfl⟩
    ·
     refine g_condF rfl ?_
     refine g_skip ?_
     refine g_inBlock ?_
     refine g_run (by kernel_rfl) [(0, .d), (1, .d)] rfl ?_
     refine r_d rfl rfl rfl (s_ar (r := ((i_1 + 1 : Nat) : Int)) rfl rfl rfl (by simp [iar]) (by omega)) ?_
     refine r_d rfl rfl rfl (s_move rfl rfl) ?_
     refine r_end ?_
     refine g_sub [(0, .lst (s_a0.map encT)), (1, .clo (.func 48) [] [.ptr (.map m_o0)]), (7, .int .i64 (s_a0.length : Int)), (8, .int .i64 ((i_1 + 1 : Nat) : Int))] (Sub.cons' rfl (Sub.cons' rfl (Sub.cons' rfl (Sub.cons' rfl (Sub.nil _))))) ?_
     exact IH0 _ _ _ (by omega) ⟨(i_1 + 1), r_5.2, rfl, rfl, rfl, (by omega), hr⟩

noncomputable def lf_slices_ContainsFunc_s4 (s_a0 : (List T)) (s_0 : (List (Int × Unit))) : Option (Bool × (List (Int × Unit))) :=
  ((lf_slices_IndexFunc_s5 s_a0 s_0).bind fun r_1 =>
  some ((decide (r_1.1 ≥ (0 : Int))), r_1.2))

set_option maxHeartbeats 1000000 in
theorem lg_slices_ContainsFunc_s4 (s_a0 : (List T)) (s_0 : (List (Int × Unit))) (m_o0 : Nat) (res : Bool × (List (Int × Unit))) (hr : lf_slices_ContainsFunc_s4 s_a0 s_0 = some res) : Spec Try.prog 47 [.lst (s_a0.map encT), .clo (.func 48) [] [.ptr (.map m_o0)]] [.map m_o0 (mapM' (D.int .i64) encU s_0)] (fun d σ => d = .bool res.1 ∧ σ = [.map m_o0 (mapM' (D.int .i64) encU res.2)]) := by
  unfold lf_slices_ContainsFunc_s4 at hr
  refine spec_env [(0, .lst (s_a0.map encT)), (1, .clo (.func 48) [] [.ptr (.map m_o0)])] Try.func47 rfl rfl fun K hK => ?_
  refine g_seq ?_
  refine g_run (by kernel_rfl) [(0, .d)] rfl ?_
  refine r_d rfl rfl rfl (s_assign rfl rfl) ?_
  refine r_end ?_
  refine g_seq ?_
  refine g_run (by kernel_rfl) [(0, .d), (1, .d), (2, .w), (3, .d), (4, .d)] rfl ?_
  refine r_d rfl rfl rfl (s_move rfl rfl) ?_
  refine r_d rfl rfl rfl (s_move rfl rfl) ?_
  obtain ⟨r_1, hr_1, hr⟩ := bindS hr
  refine r_w rfl rfl rfl (s_call _ rfl cl_slices_IndexFunc_api_Term_api_Term (.cons rfl (Wk.refl _) (.cons rfl (Wk.refl _) .nil)) (by exact (pf0 _)) (lg_slices_IndexFunc_s5 _ _ _ _ hr_1)) ?_
  rintro _ _ ⟨_, ⟨rfl, rfl⟩, rfl⟩
  refine r_st ((.map m_o0 (mapM' (D.int .i64) encU r_1.2)) :: _) rfl ?_
  refine r_d rfl rfl rfl (s_cmp rfl rfl rfl rfl) ?_
  refine r_d rfl rfl rfl (s_assign rfl rfl) ?_
  refine r_end ?_
  obtain rfl := Option.some.inj hr
  refine g_ret Try.func47 _ (.cons (resTmp rfl (Wk.refl _)) .nil) ?_
  exact ⟨rfl, rfl⟩

noncomputable def lf_stored_occurrence_certain (o_a0 : S_stored_occurrence) : Option (Bool) :=
  (bif o_a0.f0_Occ.f2_Kept then
  some (false)
  else
  (bif (decide ((o_a0.f1_rule.f3_Guard.length : Int) > (0 : Int))) then
  some (false)
  else
  ((lf_occur_Heads o_a0.f1_rule).bind fun r_3 =>
  (bif ((r_3.length : Int) != (1 : Int)) then
  some (false)
  else
  ((getI r_3 0).bind fun q_7 =>
  ((lf_slices_ContainsFunc_s4 q_7.ts []).bind fun r_8 =>
  some ((!r_8.1))))))))

set_option maxHeartbeats 1000000 in
theorem lg_stored_occurrence_certain (o_a0 : S_stored_occurrence) (res : Bool) (hr : lf_stored_occurrence_certain o_a0 = some res) : Gives Try.prog 30 [enc_S_stored_occurrence o_a0] (.bool res) := by
  unfold lf_stored_occurrence_certain at hr
  refine spec_env [(0, enc_S_stored_occurrence o_a0)] Try.func30 rfl rfl fun K hK => ?_
  refine g_seq ?_
  refine g_run (by kernel_rfl) [(0, .d), (1, .d)] rfl ?_
  refine r_d rfl rfl rfl (s_box rfl rfl rfl) ?_
  refine r_d rfl rfl rfl (s_assign rfl rfl) ?_
  refine r_end ?_
  refine g_seq ?_
  refine g_seq ?_
  refine g_run (by kernel_rfl) [(0, .d), (1, .d), (2, .d), (3, .d), (4, .d), (5, .d), (6, .d), (7, .d), (8, .d), (9, .d)] rfl ?_
  refine r_d rfl rfl rfl (s_fieldAddr rfl fl_stored_occurrence_0 rfl rfl rfl rfl) ?_
  refine r_d rfl rfl rfl (s_fieldAddr rfl fl_api_Occ_2 rfl rfl rfl rfl) ?_
  refine r_d rfl rfl rfl (s_load rfl rfl (by exact ty_bool) rfl) ?_
  refine r_d rfl rfl rfl (s_move rfl rfl) ?_
  refine r_sB 8 rfl hr (fun h8_0 hr => ?_) (fun h8_0 hr => ?_)
  ·
   refine r_skip rfl rfl rfl ?_
   refine r_skip rfl rfl rfl ?_
   refine r_skip rfl rfl rfl ?_
   refine r_skip rfl rfl rfl ?_
   refine r_skip rfl rfl rfl ?_
   refine r_d rfl rfl rfl (s_pickT rfl rfl rfl) ?_
   refine r_end ?_
   refine g_condT rfl ?_
   refine g_seq ?_
   refine g_run (by kernel_rfl) [(0, .d)] rfl ?_
   refine r_d rfl rfl rfl (s_assign rfl rfl) ?_
   refine r_end ?_
   obtain rfl := Option.some.inj hr
   refine g_ret Try.func30 _ (.cons (resTmp rfl (Wk.refl _)) .nil) ?_
   rfl
  ·
   refine r_d rfl rfl rfl (s_fieldAddr rfl fl_stored_occurrence_1 rfl rfl (by simp [szs, sz, sz_S_api_Occ]) rfl) ?_
   refine r_d rfl rfl rfl (s_fieldAddr rfl fl_api_Rule_3 rfl rfl rfl rfl) ?_
   refine r_d rfl rfl rfl (s_load rfl rfl (by exact ty_L_api_Goal) rfl) ?_
   refine r_d rfl rfl rfl (m_len (f := encG) o_a0.f1_rule.f3_Guard rfl el_L_api_Goal rfl (asl rfl)) ?_
   refine r_d rfl rfl rfl (s_cmp rfl rfl rfl rfl) ?_
   refine r_d rfl rfl rfl (s_pickF rfl rfl rfl) ?_
   refine r_end ?_
   refine g_sB 14 rfl hr (fun h14_1 hr => ?_) (fun h14_1 hr => ?_)
   ·
    refine g_condT rfl ?_
    refine g_seq ?_
    refine g_run (by kernel_rfl) [(0, .d)] rfl ?_
    refine r_d rfl rfl rfl (s_assign rfl rfl) ?_
    refine r_end ?_
    obtain rfl := Option.some.inj hr
    refine g_ret Try.func30 _ (.cons (resTmp rfl (Wk.refl _)) .nil) ?_
    rfl
   ·
    refine g_condF rfl ?_
    refine g_skip ?_
    refine g_seq ?_
    refine g_run (by kernel_rfl) [(0, .d), (1, .d), (2, .d), (3, .d)] rfl ?_
    refine r_d rfl rfl rfl (s_fieldAddr rfl fl_stored_occurrence_1 rfl rfl (by simp [szs, sz, sz_S_api_Occ]) rfl) ?_
    refine r_d rfl rfl rfl (s_load rfl rfl (by exact ty_api_Rule) (sz_S_api_Rule _)) ?_
    obtain ⟨r_3, hr_3, hr⟩ := bindS hr
    refine r_d rfl rfl rfl (s_callD rfl cl_occur_Heads (.cons rfl (Wk.refl _) .nil) (lg_occur_Heads _ _ hr_3)) ?_
    refine r_d rfl rfl rfl (s_assign rfl rfl) ?_
    refine r_end ?_
    refine g_seq ?_
    refine g_seq ?_
    refine g_run (by kernel_rfl) [(0, .d), (1, .d), (2, .d)] rfl ?_
    refine r_d rfl rfl rfl (s_move rfl rfl) ?_
    refine r_d rfl rfl rfl (m_len (f := encA) r_3 rfl el_L_api_Atom rfl (asl rfl)) ?_
    refine r_d rfl rfl rfl (s_cmp rfl rfl rfl rfl) ?_
    refine r_end ?_
    refine g_sB 20 rfl hr (fun h20_3 hr => ?_) (fun h20_3 hr => ?_)
    ·
     refine g_condT rfl ?_
     refine g_seq ?_
     refine g_run (by kernel_rfl) [(0, .d)] rfl ?_
     refine r_d rfl rfl rfl (s_assign rfl rfl) ?_
     refine r_end ?_
     obtain rfl := Option.some.inj hr
     refine g_ret Try.func30 _ (.cons (resTmp rfl (Wk.refl _)) .nil) ?_
     rfl
    ·
     refine g_condF rfl ?_
     refine g_skip ?_
     refine g_seq ?_
     refine g_run (by kernel_rfl) [(0, .w), (1, .w), (2, .w)] rfl ?_
     refine r_w rfl rfl rfl (m_makeMap (α := Int) (β := Unit) (key := (D.int .i64)) (g := encU) rfl) ?_
     rintro _ _ ⟨m21_4, rfl, rfl⟩
     refine r_w rfl rfl rfl (s_alloc rfl zvx_stored_variables) ?_
     rintro _ _ ⟨b4_5, rfl, rfl⟩
     refine r_w01 rfl rfl rfl (t_store0 _ rfl rfl rfl (Wk.refl _) (pf0 _) (by exact ty_stored_variables) rfl rfl rfl) ?_
     refine r_end ?_
     refine g_freeze 4 b4_5 rfl (pf0 _) ?_
     refine g_seq ?_
     refine g_run (by kernel_rfl) [(0, .d), (1, .d), (2, .d), (3, .d), (4, .d), (5, .w), (6, .d), (7, .d)] rfl ?_
     refine r_d rfl rfl rfl (s_move rfl rfl) ?_
     obtain ⟨q_7, hq_7, hr⟩ := bindS hr
     refine r_d rfl rfl rfl (m_index (f := encA) r_3 rfl el_L_api_Atom rfl (asl rfl) rfl hq_7 sz_encA rfl) ?_
     refine r_d rfl rfl rfl (s_fieldAddr rfl fl_api_Atom_1 rfl rfl rfl rfl) ?_
     refine r_d rfl rfl rfl (s_load rfl rfl (by exact ty_L_api_Term) rfl) ?_
     refine r_d rfl rfl rfl (s_makeFunc rfl rfl rfl) ?_
     obtain ⟨r_8, hr_8, hr⟩ := bindS hr
     refine r_w rfl rfl rfl (s_call _ rfl cl_slices_ContainsFunc_api_Term_api_Term (.cons rfl (Wk.refl _) (.cons rfl (Wk.refl _) .nil)) (by exact (pf0 _)) (lg_slices_ContainsFunc_s4 _ _ _ _ hr_8)) ?_
     rintro _ _ ⟨_, ⟨rfl, rfl⟩, rfl⟩
     refine r_st ((.map m21_4 (mapM' (D.int .i64) encU r_8.2)) :: _) rfl ?_
     refine r_d rfl rfl rfl (s_not rfl rfl) ?_
     refine r_d rfl rfl rfl (s_assign rfl rfl) ?_
     refine r_end ?_
     obtain rfl := Option.some.inj hr
     refine g_ret Try.func30 _ (.cons (resTmp rfl (Wk.refl _)) .nil) ?_
     rfl

noncomputable def lf_stored_occurrence_silent (o_a0 : S_stored_occurrence) : Option (Bool) :=
  (bif (!o_a0.f0_Occ.f2_Kept) then
  some (true)
  else
  ((lf_stored_Inert o_a0.f1_rule).bind fun r_2 =>
  some (r_2)))

set_option maxHeartbeats 1000000 in
theorem lg_stored_occurrence_silent (o_a0 : S_stored_occurrence) (res : Bool) (hr : lf_stored_occurrence_silent o_a0 = some res) : Gives Try.prog 31 [enc_S_stored_occurrence o_a0] (.bool res) := by
  unfold lf_stored_occurrence_silent at hr
  refine spec_env [(0, enc_S_stored_occurrence o_a0)] Try.func31 rfl rfl fun K hK => ?_
  refine g_seq ?_
  refine g_run (by kernel_rfl) [(0, .d), (1, .d)] rfl ?_
  refine r_d rfl rfl rfl (s_box rfl rfl rfl) ?_
  refine r_d rfl rfl rfl (s_assign rfl rfl) ?_
  refine r_end ?_
  refine g_seq ?_
  refine g_run (by kernel_rfl) [(0, .d), (1, .d), (2, .d), (3, .d), (4, .d), (5, .d), (6, .d), (7, .d), (8, .d), (9, .d)] rfl ?_
  refine r_d rfl rfl rfl (s_fieldAddr rfl fl_stored_occurrence_0 rfl rfl rfl rfl) ?_
  refine r_d rfl rfl rfl (s_fieldAddr rfl fl_api_Occ_2 rfl rfl rfl rfl) ?_
  refine r_d rfl rfl rfl (s_load rfl rfl (by exact ty_bool) rfl) ?_
  refine r_d rfl rfl rfl (s_not rfl rfl) ?_
  refine r_d rfl rfl rfl (s_move rfl rfl) ?_
  refine r_sB 7 rfl hr (fun h7_0 hr => ?_) (fun h7_0 hr => ?_)
  ·
   refine r_skip rfl rfl rfl ?_
   refine r_skip rfl rfl rfl ?_
   refine r_skip rfl rfl rfl ?_
   refine r_d rfl rfl rfl (s_pickT rfl rfl rfl) ?_
   refine r_d rfl rfl rfl (s_assign rfl rfl) ?_
   refine r_end ?_
   obtain rfl := Option.some.inj hr
   refine g_ret Try.func31 _ (.cons (resTmp rfl (Wk.refl _)) .nil) ?_
   rfl
  ·
   refine r_d rfl rfl rfl (s_fieldAddr rfl fl_stored_occurrence_1 rfl rfl (by simp [szs, sz, sz_S_api_Occ]) rfl) ?_
   refine r_d rfl rfl rfl (s_load rfl rfl (by exact ty_api_Rule) (sz_S_api_Rule _)) ?_
   obtain ⟨r_2, hr_2, hr⟩ := bindS hr
   refine r_d rfl rfl rfl (s_callD rfl cl_stored_Inert (.cons rfl (Wk.refl _) .nil) (lg_stored_Inert _ _ hr_2)) ?_
   refine r_d rfl rfl rfl (s_pickF rfl rfl rfl) ?_
   refine r_d rfl rfl rfl (s_assign rfl rfl) ?_
   refine r_end ?_
   obtain rfl := Option.some.inj hr
   refine g_ret Try.func31 _ (.cons (resTmp rfl (Wk.refl _)) .nil) ?_
   rfl

noncomputable def lf_stored_Never_L0 (k : Option (Bool)) : List S_stored_occurrence → Option (Bool)
  | [] =>
  k
  | q_3 :: rest =>
  ((lf_stored_occurrence_certain q_3).bind fun r_5 =>
  (bif r_5 then
  some (true)
  else
  ((lf_stored_occurrence_silent q_3).bind fun r_7 =>
  (bif (!r_7) then
  some (false)
  else
  (lf_stored_Never_L0 k rest)))))
noncomputable def lf_stored_Never (p_a0 : S_api_Program) (name_a1 : ByteArray) (arity_a2 : Int) : Option (Bool) :=
  ((lf_stored_of p_a0 name_a1 arity_a2).bind fun r_1 =>
  (lf_stored_Never_L0 (some (false)) r_1))

set_option maxHeartbeats 1000000 in
theorem lg_stored_Never (p_a0 : S_api_Program) (name_a1 : ByteArray) (arity_a2 : Int) (res : Bool) (hr : lf_stored_Never p_a0 name_a1 arity_a2 = some res) : Gives Try.prog 11 [enc_S_api_Program p_a0, .str name_a1, .int .i64 arity_a2] (.bool res) := by
  unfold lf_stored_Never at hr
  refine spec_env [(0, enc_S_api_Program p_a0), (1, .str name_a1), (2, .int .i64 arity_a2)] Try.func11 rfl rfl fun K hK => ?_
  refine g_seq ?_
  refine g_run (by kernel_rfl) [(0, .d), (1, .d)] rfl ?_
  refine r_d rfl rfl rfl (s_box rfl rfl rfl) ?_
  refine r_d rfl rfl rfl (s_assign rfl rfl) ?_
  refine r_end ?_
  refine g_seq ?_
  refine g_seq ?_
  refine g_run (by kernel_rfl) [(0, .d), (1, .d), (2, .d), (3, .d), (4, .d), (5, .d)] rfl ?_
  refine r_d rfl rfl rfl (s_load rfl rfl (by exact ty_api_Program) (sz_S_api_Program _)) ?_
  refine r_d rfl rfl rfl (s_move rfl rfl) ?_
  refine r_d rfl rfl rfl (s_move rfl rfl) ?_
  obtain ⟨r_1, hr_1, hr⟩ := bindS hr
  refine r_d rfl rfl rfl (s_callD rfl cl_stored_of (.cons rfl (Wk.refl _) (.cons rfl (Wk.refl _) (.cons rfl (Wk.refl _) .nil))) (lg_stored_of _ _ _ _ hr_1)) ?_
  refine r_d rfl rfl rfl (m_len (f := enc_S_stored_occurrence) r_1 rfl el_L_stored_occurrence rfl (asl rfl)) ?_
  refine r_d rfl rfl rfl (s_move rfl rfl) ?_
  refine r_end ?_
  obtain ⟨kk0, hkk0, hr⟩ := exK (fun k => lf_stored_Never_L0 k r_1) hr
  refine g_len 12 rfl (asl rfl) fun hla0 => ?_
  simp only [List.length_map] at hla0
  refine g_blockJ (fun env σ => env = [] ∧ σ = [] ∧ kk0 = some res) ?_ (fun HK0 => ?_)
  ·
   rintro _ _ ⟨rfl, rfl, hr⟩
   rw [hkk0] at hr
   refine g_seq ?_
   refine g_run (by kernel_rfl) [(0, .d)] rfl ?_
   refine r_d rfl rfl rfl (s_assign rfl rfl) ?_
   refine r_end ?_
   obtain rfl := Option.some.inj hr
   refine g_ret Try.func11 _ (.cons (resTmp rfl (Wk.refl _)) .nil) ?_
   rfl
  ·
   refine g_sub [(12, .lst (r_1.map enc_S_stored_occurrence)), (13, .int .i64 (r_1.length : Int)), (14, .int .i64 ((0 : Nat) : Int))] (Sub.cons' rfl (Sub.cons' rfl (Sub.cons' rfl (Sub.nil _)))) ?_
   refine g_loop (fun n env σ => ∃ (i_2 : Nat), (n = r_1.length - i_2) ∧ (env = [(12, .lst (r_1.map enc_S_stored_occurrence)), (13, .int .i64 (r_1.length : Int)), (14, .int .i64 (i_2 : Int))]) ∧ (σ = []) ∧ (i_2 ≤ r_1.length) ∧ (lf_stored_Never_L0 kk0 (r_1.drop i_2) = some res)) _ ⟨0, rfl, rfl, rfl, Nat.zero_le _, hr⟩ ?_
   rintro n _ _ ⟨i_2, rfl, rfl, rfl, hi0, hr⟩ IH0
   rcases listStep r_1 i_2 hi0 with ⟨ht0, hd0, he0⟩ | ⟨q_3, ht0, hd0, hq0, hlt0⟩
   ·
    rw [hd0, lf_stored_Never_L0] at hr
    refine g_seq ?_
    refine g_run (by kernel_rfl) [(0, .d)] rfl ?_
    refine r_d rfl rfl rfl (s_cmp rfl rfl rfl rfl) ?_
    refine r_end ?_
    refine g_seq ?_
    refine g_known 15 false rfl ht0 ?_
    refine g_condF rfl ?_
    refine g_exit rfl ?_
    refine g_sub [] (Sub.nil _) ?_
    exact HK0 _ _ ⟨rfl, rfl, hr⟩
   ·
    rw [hd0, lf_stored_Never_L0] at hr
    refine g_seq ?_
    refine g_run (by kernel_rfl) [(0, .d)] rfl ?_
    refine r_d rfl rfl rfl (s_cmp rfl rfl rfl rfl) ?_
    refine r_end ?_
    refine g_seq ?_
    refine g_known 15 true rfl ht0 ?_
    refine g_condT rfl ?_
    refine g_skip ?_
    refine g_seq ?_
    refine g_block ?_
    refine g_seq ?_
    refine g_run (by kernel_rfl) [(0, .d), (1, .d), (2, .w), (3, .w)] rfl ?_
    refine r_d rfl rfl rfl (m_index (f := enc_S_stored_occurrence) r_1 rfl el_L_stored_occurrence rfl (asl rfl) rfl hq0 sz_S_stored_occurrence rfl) ?_
    refine r_d rfl rfl rfl (s_load rfl rfl (by exact ty_stored_occurrence) (sz_S_stored_occurrence _)) ?_
    refine r_w rfl rfl rfl (s_alloc rfl zv_stored_occurrence) ?_
    rintro _ _ ⟨b8_3, rfl, rfl⟩
    refine r_w01 rfl rfl rfl (t_store0 _ rfl rfl rfl (Wk.refl _) (pf0 _) (by exact ty_stored_occurrence) (sz_S_stored_occurrence _) (by simp [sz, szs, szs_fsT, sz_S_api_Occ, sz_S_api_Rule]) rfl) ?_
    refine r_end ?_
    refine g_freeze 8 b8_3 rfl (pf0 _) ?_
    refine g_block ?_
    refine g_seq ?_
    refine g_run (by kernel_rfl) [(0, .d), (1, .d), (2, .d)] rfl ?_
    refine r_d rfl rfl rfl (s_load rfl rfl (by exact ty_stored_occurrence) (sz_S_stored_occurrence _)) ?_
    obtain ⟨r_5, hr_5, hr⟩ := bindS hr
    refine r_d rfl rfl rfl (s_callD rfl cl_stored_occurrence_certain (.cons rfl (Wk.refl _) .nil) (lg_stored_occurrence_certain _ _ hr_5)) ?_
    refine r_d rfl rfl rfl (s_assign rfl rfl) ?_
    refine r_end ?_
    refine g_sB 18 rfl hr (fun h18_5 hr => ?_) (fun h18_5 hr => ?_)
    ·
     refine g_condT rfl ?_
     refine g_seq ?_
     refine g_run (by kernel_rfl) [(0, .d)] rfl ?_
     refine r_d rfl rfl rfl (s_assign rfl rfl) ?_
     refine r_end ?_
     obtain rfl := Option.some.inj hr
     refine g_ret Try.func11 _ (.cons (resTmp rfl (Wk.refl _)) .nil) ?_
     rfl
    ·
     refine g_condF rfl ?_
     refine g_seq ?_
     refine g_run (by kernel_rfl) [(0, .d), (1, .d), (2, .d), (3, .d)] rfl ?_
     refine r_d rfl rfl rfl (s_load rfl rfl (by exact ty_stored_occurrence) (sz_S_stored_occurrence _)) ?_
     obtain ⟨r_7, hr_7, hr⟩ := bindS hr
     refine r_d rfl rfl rfl (s_callD rfl cl_stored_occurrence_silent (.cons rfl (Wk.refl _) .nil) (lg_stored_occurrence_silent _ _ hr_7)) ?_
     refine r_d rfl rfl rfl (s_not rfl rfl) ?_
     refine r_d rfl rfl rfl (s_assign rfl rfl) ?_
     refine r_end ?_
     refine g_sB 21 rfl hr (fun h21_7 hr => ?_) (fun h21_7 hr => ?_)
     ·
      refine g_condT rfl ?_
      refine g_seq ?_
      refine g_run (by kernel_rfl) [(0, .d)] rfl ?_
      refine r_d rfl rfl rfl (s_assign rfl rfl) ?_
      refine r_end ?_
      obtain rfl := Option.some.inj hr
      refine g_ret Try.func11 _ (.cons (resTmp rfl (Wk.refl _)) .nil) ?_
      rfl
     ·
      refine g_condF rfl ?_
      refine g_skip ?_
      refine g_inBlock ?_
      refine g_inBlock ?_
      refine g_run (by kernel_rfl) [(0, .d), (1, .d)] rfl ?_
      refine r_d rfl rfl rfl (s_ar (r := ((i_2 + 1 : Nat) : Int)) rfl rfl rfl (by simp [iar]) (by omega)) ?_
      refine r_d rfl rfl rfl (s_move rfl rfl) ?_
      refine r_end ?_
      refine g_sub [(12, .lst (r_1.map enc_S_stored_occurrence)), (13, .int .i64 (r_1.length : Int)), (14, .int .i64 ((i_2 + 1 : Nat) : Int))] (Sub.cons' rfl (Sub.cons' rfl (Sub.cons' rfl (Sub.nil _)))) ?_
      exact IH0 _ _ _ (by omega) ⟨(i_2 + 1), rfl, rfl, rfl, (by omega), hr⟩

noncomputable def lf_stored_Late_1 (o_a0 : S_stored_occurrence) : Option (Bool) :=
  ((lf_stored_occurrence_silent o_a0).bind fun r_1 =>
  some ((!r_1)))

set_option maxHeartbeats 1000000 in
theorem lg_stored_Late_1 (o_a0 : S_stored_occurrence) (res : Bool) (hr : lf_stored_Late_1 o_a0 = some res) : Gives Try.prog 34 [enc_S_stored_occurrence o_a0] (.bool res) := by
  unfold lf_stored_Late_1 at hr
  refine spec_env [(0, enc_S_stored_occurrence o_a0)] Try.func34 rfl rfl fun K hK => ?_
  refine g_seq ?_
  refine g_run (by kernel_rfl) [(0, .d), (1, .d)] rfl ?_
  refine r_d rfl rfl rfl (s_box rfl rfl rfl) ?_
  refine r_d rfl rfl rfl (s_assign rfl rfl) ?_
  refine r_end ?_
  refine g_seq ?_
  refine g_run (by kernel_rfl) [(0, .d), (1, .d), (2, .d), (3, .d)] rfl ?_
  refine r_d rfl rfl rfl (s_load rfl rfl (by exact ty_stored_occurrence) (sz_S_stored_occurrence _)) ?_
  obtain ⟨r_1, hr_1, hr⟩ := bindS hr
  refine r_d rfl rfl rfl (s_callD rfl cl_stored_occurrence_silent (.cons rfl (Wk.refl _) .nil) (lg_stored_occurrence_silent _ _ hr_1)) ?_
  refine r_d rfl rfl rfl (s_not rfl rfl) ?_
  refine r_d rfl rfl rfl (s_assign rfl rfl) ?_
  refine r_end ?_
  obtain rfl := Option.some.inj hr
  refine g_ret Try.func34 _ (.cons (resTmp rfl (Wk.refl _)) .nil) ?_
  rfl

noncomputable def lf_slices_IndexFunc_s6_L0 (k : Option (Int)) : List S_stored_occurrence → Nat → Option (Int)
  | [], i_1 =>
  k
  | q_2 :: rest, i_1 =>
  ((lf_stored_Late_1 q_2).bind fun r_3 =>
  (bif r_3 then
  some ((i_1 : Int))
  else
  (lf_slices_IndexFunc_s6_L0 k rest (i_1 + 1))))
noncomputable def lf_slices_IndexFunc_s6 (s_a0 : (List S_stored_occurrence)) : Option (Int) :=
  (lf_slices_IndexFunc_s6_L0 (some ((-1))) s_a0 0)

set_option maxHeartbeats 1000000 in
theorem lg_slices_IndexFunc_s6 (s_a0 : (List S_stored_occurrence)) (res : Int) (hr : lf_slices_IndexFunc_s6 s_a0 = some res) : Gives Try.prog 33 [.lst (s_a0.map enc_S_stored_occurrence), .clo (.func 34) [] []] (.int .i64 res) := by
  unfold lf_slices_IndexFunc_s6 at hr
  refine spec_env [(0, .lst (s_a0.map enc_S_stored_occurrence)), (1, .clo (.func 34) [] [])] Try.func33 rfl rfl fun K hK => ?_
  refine g_seq ?_
  refine g_run (by kernel_rfl) [(0, .d)] rfl ?_
  refine r_d rfl rfl rfl (s_assign rfl rfl) ?_
  refine r_end ?_
  refine g_seq ?_
  refine g_seq ?_
  refine g_run (by kernel_rfl) [(0, .d), (1, .d), (2, .d)] rfl ?_
  refine r_d rfl rfl rfl (s_move rfl rfl) ?_
  refine r_d rfl rfl rfl (m_len (f := enc_S_stored_occurrence) s_a0 rfl el_L_stored_occurrence rfl (asl rfl)) ?_
  refine r_d rfl rfl rfl (s_move rfl rfl) ?_
  refine r_end ?_
  obtain ⟨kk0, hkk0, hr⟩ := exK (fun k => lf_slices_IndexFunc_s6_L0 k s_a0 0) hr
  refine g_len 0 rfl (asl rfl) fun hla0 => ?_
  simp only [List.length_map] at hla0
  refine g_blockJ (fun env σ => env = [] ∧ σ = [] ∧ kk0 = some res) ?_ (fun HK0 => ?_)
  ·
   rintro _ _ ⟨rfl, rfl, hr⟩
   rw [hkk0] at hr
   refine g_seq ?_
   refine g_run (by kernel_rfl) [(0, .d)] rfl ?_
   refine r_d rfl rfl rfl (s_assign rfl rfl) ?_
   refine r_end ?_
   obtain rfl := Option.some.inj hr
   refine g_ret Try.func33 _ (.cons (resTmp rfl (Wk.refl _)) .nil) ?_
   rfl
  ·
   refine g_sub [(0, .lst (s_a0.map enc_S_stored_occurrence)), (1, .clo (.func 34) [] []), (7, .int .i64 (s_a0.length : Int)), (8, .int .i64 ((0 : Nat) : Int))] (Sub.cons' rfl (Sub.cons' rfl (Sub.cons' rfl (Sub.cons' rfl (Sub.nil _))))) ?_
   refine g_loop (fun n env σ => ∃ (i_1 : Nat), (n = s_a0.length - i_1) ∧ (env = [(0, .lst (s_a0.map enc_S_stored_occurrence)), (1, .clo (.func 34) [] []), (7, .int .i64 (s_a0.length : Int)), (8, .int .i64 (i_1 : Int))]) ∧ (σ = []) ∧ (i_1 ≤ s_a0.length) ∧ (lf_slices_IndexFunc_s6_L0 kk0 (s_a0.drop i_1) i_1 = some res)) _ ⟨0, rfl, rfl, rfl, Nat.zero_le _, hr⟩ ?_
   rintro n _ _ ⟨i_1, rfl, rfl, rfl, hi0, hr⟩ IH0
   rcases listStep s_a0 i_1 hi0 with ⟨ht0, hd0, he0⟩ | ⟨q_2, ht0, hd0, hq0, hlt0⟩
   ·
    rw [hd0, lf_slices_IndexFunc_s6_L0] at hr
    refine g_seq ?_
    refine g_run (by kernel_rfl) [(0, .d)] rfl ?_
    refine r_d rfl rfl rfl (s_cmp rfl rfl rfl rfl) ?_
    refine r_end ?_
    refine g_seq ?_
    refine g_known 9 false rfl ht0 ?_
    refine g_condF rfl ?_
    refine g_exit rfl ?_
    refine g_sub [] (Sub.nil _) ?_
    exact HK0 _ _ ⟨rfl, rfl, hr⟩
   ·
    rw [hd0, lf_slices_IndexFunc_s6_L0] at hr
    refine g_seq ?_
    refine g_run (by kernel_rfl) [(0, .d)] rfl ?_
    refine r_d rfl rfl rfl (s_cmp rfl rfl rfl rfl) ?_
    refine r_end ?_
    refine g_seq ?_
    refine g_known 9 true rfl ht0 ?_
    refine g_condT rfl ?_
    refine g_skip ?_
    refine g_seq ?_
    refine g_block ?_
    refine g_seq ?_
    refine g_run (by kernel_rfl) [(0, .d), (1, .d)] rfl ?_
    refine r_d rfl rfl rfl (s_move rfl rfl) ?_
    refine r_d rfl rfl rfl (s_assign rfl rfl) ?_
    refine r_end ?_
    refine g_seq ?_
    refine g_run (by kernel_rfl) [(0, .d), (1, .d), (2, .d), (3, .d), (4, .d), (5, .d)] rfl ?_
    refine r_d rfl rfl rfl (s_move rfl rfl) ?_
    refine r_d rfl rfl rfl (s_move rfl rfl) ?_
    refine r_d rfl rfl rfl (s_move rfl rfl) ?_
    refine r_d rfl rfl rfl (m_index (f := enc_S_stored_occurrence) s_a0 rfl el_L_stored_occurrence rfl (asl rfl) rfl hq0 sz_S_stored_occurrence rfl) ?_
    refine r_d rfl rfl rfl (s_load rfl rfl (by exact ty_stored_occurrence) (sz_S_stored_occurrence _)) ?_
    obtain ⟨r_3, hr_3, hr⟩ := bindS hr
    refine r_d rfl rfl rfl (s_callVD rfl rfl cl_stored_Late_1 (.cons rfl (Wk.refl _) .nil) rfl (lg_stored_Late_1 _ _ hr_3)) ?_
    refine r_end ?_
    refine g_sB 16 rfl hr (fun h16_3 hr => ?_) (fun h16_3 hr => ?_)
    ·
     refine g_condT rfl ?_
     refine g_seq ?_
     refine g_run (by kernel_rfl) [(0, .d), (1, .d)] rfl ?_
     refine r_d rfl rfl rfl (s_move rfl rfl) ?_
     refine r_d rfl rfl rfl (s_assign rfl rfl) ?_
     refine r_end ?_
     obtain rfl := Option.some.inj hr
     refine g_ret Try.func33 _ (.cons (resTmp rfl (Wk.refl _)) .nil) ?_
     rfl
    ·
     refine g_condF rfl ?_
     refine g_skip ?_
     refine g_inBlock ?_
     refine g_run (by kernel_rfl) [(0, .d), (1, .d)] rfl ?_
     refine r_d rfl rfl rfl (s_ar (r := ((i_1 + 1 : Nat) : Int)) rfl rfl rfl (by simp [iar]) (by omega)) ?_
     refine r_d rfl rfl rfl (s_move rfl rfl) ?_
     refine r_end ?_
     refine g_sub [(0, .lst (s_a0.map enc_S_stored_occurrence)), (1, .clo (.func 34) [] []), (7, .int .i64 (s_a0.length : Int)), (8, .int .i64 ((i_1 + 1 : Nat) : Int))] (Sub.cons' rfl (Sub.cons' rfl (Sub.cons' rfl (Sub.cons' rfl (Sub.nil _))))) ?_
     exact IH0 _ _ _ (by omega) ⟨(i_1 + 1), rfl, rfl, rfl, (by omega), hr⟩

noncomputable def lf_stored_Late (p_a0 : S_api_Program) (name_a1 : ByteArray) (arity_a2 : Int) : Option (Int) :=
  ((lf_stored_of p_a0 name_a1 arity_a2).bind fun r_1 =>
  ((lf_slices_IndexFunc_s6 r_1).bind fun r_2 =>
  (bif (decide (r_2 < (0 : Int))) then
  some ((r_1.length : Int))
  else
  some (r_2))))

set_option maxHeartbeats 1000000 in
theorem lg_stored_Late (p_a0 : S_api_Program) (name_a1 : ByteArray) (arity_a2 : Int) (res : Int) (hr : lf_stored_Late p_a0 name_a1 arity_a2 = some res) : Gives Try.prog 13 [enc_S_api_Program p_a0, .str name_a1, .int .i64 arity_a2] (.int .i64 res) := by
  unfold lf_stored_Late at hr
  refine spec_env [(0, enc_S_api_Program p_a0), (1, .str name_a1), (2, .int .i64 arity_a2)] Try.func13 rfl rfl fun K hK => ?_
  refine g_seq ?_
  refine g_run (by kernel_rfl) [(0, .d), (1, .d)] rfl ?_
  refine r_d rfl rfl rfl (s_box rfl rfl rfl) ?_
  refine r_d rfl rfl rfl (s_assign rfl rfl) ?_
  refine r_end ?_
  refine g_seq ?_
  refine g_run (by kernel_rfl) [(0, .d), (1, .d), (2, .d), (3, .d), (4, .d)] rfl ?_
  refine r_d rfl rfl rfl (s_load rfl rfl (by exact ty_api_Program) (sz_S_api_Program _)) ?_
  refine r_d rfl rfl rfl (s_move rfl rfl) ?_
  refine r_d rfl rfl rfl (s_move rfl rfl) ?_
  obtain ⟨r_1, hr_1, hr⟩ := bindS hr
  refine r_d rfl rfl rfl (s_callD rfl cl_stored_of (.cons rfl (Wk.refl _) (.cons rfl (Wk.refl _) (.cons rfl (Wk.refl _) .nil))) (lg_stored_of _ _ _ _ hr_1)) ?_
  refine r_d rfl rfl rfl (s_assign rfl rfl) ?_
  refine r_end ?_
  refine g_seq ?_
  refine g_run (by kernel_rfl) [(0, .d), (1, .d), (2, .d)] rfl ?_
  refine r_d rfl rfl rfl (s_move rfl rfl) ?_
  obtain ⟨r_2, hr_2, hr⟩ := bindS hr
  refine r_d rfl rfl rfl (s_callD rfl cl_slices_IndexFunc_stored_occurrence_stored_occurrence (.cons rfl (Wk.refl _) (.cons rfl (Wk.refl _) .nil)) (lg_slices_IndexFunc_s6 _ _ hr_2)) ?_
  refine r_d rfl rfl rfl (s_assign rfl rfl) ?_
  refine r_end ?_
  refine g_seq ?_
  refine g_seq ?_
  refine g_run (by kernel_rfl) [(0, .d), (1, .d)] rfl ?_
  refine r_d rfl rfl rfl (s_move rfl rfl) ?_
  refine r_d rfl rfl rfl (s_cmp rfl rfl rfl rfl) ?_
  refine r_end ?_
  refine g_sB 16 rfl hr (fun h16_2 hr => ?_) (fun h16_2 hr => ?_)
  ·
   refine g_condT rfl ?_
   refine g_seq ?_
   refine g_run (by kernel_rfl) [(0, .d), (1, .d), (2, .d)] rfl ?_
   refine r_d rfl rfl rfl (s_move rfl rfl) ?_
   refine r_d rfl rfl rfl (m_len (f := enc_S_stored_occurrence) r_1 rfl el_L_stored_occurrence rfl (asl rfl)) ?_
   refine r_d rfl rfl rfl (s_assign rfl rfl) ?_
   refine r_end ?_
   obtain rfl := Option.some.inj hr
   refine g_ret Try.func13 _ (.cons (resTmp rfl (Wk.refl _)) .nil) ?_
   rfl
  ·
   refine g_condF rfl ?_
   refine g_skip ?_
   refine g_seq ?_
   refine g_run (by kernel_rfl) [(0, .d), (1, .d)] rfl ?_
   refine r_d rfl rfl rfl (s_move rfl rfl) ?_
   refine r_d rfl rfl rfl (s_assign rfl rfl) ?_
   refine r_end ?_
   obtain rfl := Option.some.inj hr
   refine g_ret Try.func13 _ (.cons (resTmp rfl (Wk.refl _)) .nil) ?_
   rfl

noncomputable def lf_constraintlaw31_exampleHolds : Option (Bool) :=
  ((lf_constraintref03_Var 1).bind fun r_1 =>
  ((lf_constraintref03_Var 0).bind fun r_2 =>
  ((lf_constraintref03_Int 1).bind fun r_3 =>
  ((lf_constraintref03_Fun ⟨#[43]⟩ [r_2, r_3]).bind fun r_4 =>
  ((lf_constraintlaw31_p1 0).bind fun r_6 =>
  ((lf_stored_Inert (⟨⟨#[]⟩, r_6, [], [], [(⟨4, ⟨#[]⟩, [r_1, r_4]⟩ : Gl)], 2⟩ : S_api_Rule)).bind fun r_11 =>
  (bif r_11 then
  ((lf_stored_Inert (⟨⟨#[]⟩, r_6, [], [], [(⟨0, ⟨#[113]⟩, [r_2]⟩ : Gl)], 1⟩ : S_api_Rule)).bind fun r_13 =>
  (bif (!r_13) then
  ((lf_stored_Never (⟨[], [(⟨⟨#[]⟩, r_6, [], [], [(⟨4, ⟨#[]⟩, [r_1, r_4]⟩ : Gl)], 2⟩ : S_api_Rule), (⟨⟨#[]⟩, [], r_6, [], [], 1⟩ : S_api_Rule)]⟩ : S_api_Program) ⟨#[112]⟩ 1).bind fun r_15 =>
  (bif r_15 then
  ((lf_stored_Never (⟨[], [(⟨⟨#[]⟩, r_6, [], [], [(⟨0, ⟨#[113]⟩, [r_2]⟩ : Gl)], 1⟩ : S_api_Rule), (⟨⟨#[]⟩, [], r_6, [], [], 1⟩ : S_api_Rule)]⟩ : S_api_Program) ⟨#[112]⟩ 1).bind fun r_17 =>
  (bif (!r_17) then
  ((lf_stored_Late (⟨[], [(⟨⟨#[]⟩, r_6, [], [], [(⟨4, ⟨#[]⟩, [r_1, r_4]⟩ : Gl)], 2⟩ : S_api_Rule), (⟨⟨#[]⟩, [], r_6, [], [], 1⟩ : S_api_Rule)]⟩ : S_api_Program) ⟨#[112]⟩ 1).bind fun r_19 =>
  (bif (r_19 == (2 : Int)) then
  ((lf_stored_Late (⟨[], [(⟨⟨#[]⟩, r_6, [], [], [(⟨0, ⟨#[113]⟩, [r_2]⟩ : Gl)], 1⟩ : S_api_Rule), (⟨⟨#[]⟩, [], r_6, [], [], 1⟩ : S_api_Rule)]⟩ : S_api_Program) ⟨#[112]⟩ 1).bind fun r_21 =>
  (bif (r_21 == (0 : Int)) then
  ((lf_stored_Never (⟨[], [(⟨⟨#[]⟩, r_6, [], [], [(⟨4, ⟨#[]⟩, [r_1, r_4]⟩ : Gl)], 2⟩ : S_api_Rule), (⟨⟨#[]⟩, [], r_6, [], [], 1⟩ : S_api_Rule)]⟩ : S_api_Program) ⟨#[112]⟩ 2).bind fun r_23 =>
  some ((!r_23)))
  else
  some (false)))
  else
  some (false)))
  else
  some (false)))
  else
  some (false)))
  else
  some (false)))
  else
  some (false))))))))

set_option maxHeartbeats 1000000 in
theorem lg_constraintlaw31_exampleHolds (res : Bool) (hr : lf_constraintlaw31_exampleHolds = some res) : Gives Try.prog 7 [] (.bool res) := by
  unfold lf_constraintlaw31_exampleHolds at hr
  refine spec_env [] Try.func7 rfl rfl fun K hK => ?_
  refine g_seq ?_
  refine g_run (by kernel_rfl) [(0, .d)] rfl ?_
  refine r_d rfl rfl rfl (s_assign rfl rfl) ?_
  refine r_end ?_
  refine g_seq ?_
  refine g_run (by kernel_rfl) [(0, .d), (1, .d), (2, .d), (3, .d), (4, .d), (5, .d), (6, .d), (7, .w), (8, .w)] rfl ?_
  obtain ⟨r_1, hr_1, hr⟩ := bindS hr
  refine r_d rfl rfl rfl (s_callD rfl cl_constraintref03_Var (.cons rfl (Wk.refl _) .nil) (lg_constraintref03_Var _ _ hr_1)) ?_
  obtain ⟨r_2, hr_2, hr⟩ := bindS hr
  refine r_d rfl rfl rfl (s_callD rfl cl_constraintref03_Var (.cons rfl (Wk.refl _) .nil) (lg_constraintref03_Var _ _ hr_2)) ?_
  obtain ⟨r_3, hr_3, hr⟩ := bindS hr
  refine r_d rfl rfl rfl (s_callD rfl cl_constraintref03_Int (.cons rfl (Wk.refl _) .nil) (lg_constraintref03_Int _ _ hr_3)) ?_
  refine r_d rfl rfl rfl (m_lit (f := encT) [.tmp 8, .tmp 9] [r_2, r_3] rfl el_L_api_Term rfl rfl (by decide) (by decide) (.cons rfl (Wk.refl _) (.cons rfl (Wk.refl _) .nil)) sz_encT (fun _ => rfl)) ?_
  obtain ⟨r_4, hr_4, hr⟩ := bindS hr
  refine r_d rfl rfl rfl (by exact s_callD rfl cl_constraintref03_Fun (.cons rfl (Wk.refl _) (.cons rfl (Wk.full _) .nil)) (lg_constraintref03_Fun _ _ _ hr_4)) ?_
  refine r_d rfl rfl rfl (m_lit (f := encT) [.tmp 7, .tmp 11] [r_1, r_4] rfl el_L_api_Term rfl rfl (by decide) (by decide) (.cons rfl (Wk.refl _) (.cons rfl (Wk.refl _) .nil)) sz_encT (fun _ => rfl)) ?_
  refine r_d rfl rfl rfl (s_build rfl bt_api_Goal (.cons rfl (Wk.refl _) (.cons rfl (Wk.full _) .nil)) (.cons rfl rfl rfl (.cons rfl rfl rfl (.nil _)))) ?_
  refine r_w rfl rfl rfl (s_alloc rfl zv_api_Goal) ?_
  rintro _ _ ⟨b1_4, rfl, rfl⟩
  refine r_w01 rfl rfl rfl (t_store0 _ rfl rfl rfl (Wk.refl _) (pf0 _) (by exact ty_api_Goal) rfl rfl rfl) ?_
  refine r_end ?_
  refine g_freeze 1 b1_4 rfl (pf0 _) ?_
  refine g_seq ?_
  refine g_any (by kernel_rfl) (by kernel_rfl) [(0, .d), (1, .d), (2, .d), (3, .d), (4, .w), (5, .w)] (by kernel_rfl) ?_
  obtain ⟨r_6, hr_6, hr⟩ := bindS hr
  refine r_d rfl rfl rfl (s_callD rfl cl_constraintlaw31_p1 (.cons rfl (Wk.refl _) .nil) (lg_constraintlaw31_p1 _ _ hr_6)) ?_
  refine r_d rfl rfl rfl (s_load rfl rfl (by exact ty_api_Goal) rfl) ?_
  refine r_d rfl rfl rfl (m_lit (f := encG) [.tmp 15] [(⟨4, ⟨#[]⟩, [r_1, r_4]⟩ : Gl)] rfl el_L_api_Goal rfl rfl (by decide) (by decide) (.cons rfl (Wk.refl _) .nil) sz_encG (fun _ => rfl)) ?_
  refine r_d rfl rfl rfl (s_build rfl bt_api_Rule (.cons rfl (Wk.refl _) (.cons rfl (Wk.full _) (.cons rfl (Wk.refl _) .nil))) (.cons rfl rfl rfl (.cons rfl rfl rfl (.cons rfl rfl rfl (.nil _))))) ?_
  refine r_w rfl rfl rfl (s_alloc rfl zv_api_Rule) ?_
  rintro _ _ ⟨b2_6, rfl, rfl⟩
  refine r_w01 rfl rfl rfl (t_store0 _ rfl rfl rfl (Wk.refl _) (pf0 _) (by exact ty_api_Rule) rfl rfl rfl) ?_
  refine r_end ?_
  refine g_freeze 2 b2_6 rfl (pf0 _) ?_
  refine g_seq ?_
  refine g_run (by kernel_rfl) [(0, .d), (1, .d), (2, .d), (3, .d), (4, .d), (5, .d), (6, .w), (7, .w)] rfl ?_
  refine r_d rfl rfl rfl (s_callD rfl cl_constraintlaw31_p1 (.cons rfl (Wk.refl _) .nil) (lg_constraintlaw31_p1 _ _ hr_6)) ?_
  refine r_d rfl rfl rfl (s_callD rfl cl_constraintref03_Var (.cons rfl (Wk.refl _) .nil) (lg_constraintref03_Var _ _ hr_2)) ?_
  refine r_d rfl rfl rfl (m_lit (f := encT) [.tmp 19] [r_2] rfl el_L_api_Term rfl rfl (by decide) (by decide) (.cons rfl (Wk.refl _) .nil) sz_encT (fun _ => rfl)) ?_
  refine r_d rfl rfl rfl (s_build rfl bt_api_Goal (.cons rfl (Wk.refl _) (.cons rfl (Wk.full _) .nil)) (.cons rfl rfl rfl (.cons rfl rfl rfl (.nil _)))) ?_
  refine r_d rfl rfl rfl (m_lit (f := encG) [.tmp 21] [(⟨0, ⟨#[113]⟩, [r_2]⟩ : Gl)] rfl el_L_api_Goal rfl rfl (by decide) (by decide) (.cons rfl (Wk.refl _) .nil) sz_encG (fun _ => rfl)) ?_
  refine r_d rfl rfl rfl (s_build rfl bt_api_Rule (.cons rfl (Wk.refl _) (.cons rfl (Wk.full _) (.cons rfl (Wk.refl _) .nil))) (.cons rfl rfl rfl (.cons rfl rfl rfl (.cons rfl rfl rfl (.nil _))))) ?_
  refine r_w rfl rfl rfl (s_alloc rfl zv_api_Rule) ?_
  rintro _ _ ⟨b3_7, rfl, rfl⟩
  refine r_w01 rfl rfl rfl (t_store0 _ rfl rfl rfl (Wk.refl _) (pf0 _) (by exact ty_api_Rule) rfl rfl rfl) ?_
  refine r_end ?_
  refine g_freeze 3 b3_7 rfl (pf0 _) ?_
  refine g_seq ?_
  refine g_run (by kernel_rfl) [(0, .d), (1, .d), (2, .w), (3, .w)] rfl ?_
  refine r_d rfl rfl rfl (s_callD rfl cl_constraintlaw31_p1 (.cons rfl (Wk.refl _) .nil) (lg_constraintlaw31_p1 _ _ hr_6)) ?_
  refine r_d rfl rfl rfl (s_build rfl bt_api_Rule (.cons rfl (Wk.refl _) (.cons rfl (Wk.refl _) .nil)) (.cons rfl rfl rfl (.cons rfl rfl rfl (.nil _)))) ?_
  refine r_w rfl rfl rfl (s_alloc rfl zv_api_Rule) ?_
  rintro _ _ ⟨b4_8, rfl, rfl⟩
  refine r_w01 rfl rfl rfl (t_store0 _ rfl rfl rfl (Wk.refl _) (pf0 _) (by exact ty_api_Rule) rfl rfl rfl) ?_
  refine r_end ?_
  refine g_freeze 4 b4_8 rfl (pf0 _) ?_
  refine g_seq ?_
  refine g_two (by kernel_rfl) (by kernel_rfl) [(0, .d), (1, .d), (2, .d), (3, .d), (4, .d), (5, .d), (6, .d), (7, .d)] [(8, .x), (9, .w), (10, .w), (11, .w)] [(9, .x), (8, .w), (10, .w), (11, .w)] (by kernel_rfl) (fun env σ => ∃ (b6_r5_9 : Nat) (b5_r5_9 : Nat), Sub [(2, .ptr (.agg [.str ⟨#[]⟩, .lst (r_6.map encA), .lst ([].map encA), .lst ([].map encG), .lst ([(⟨4, ⟨#[]⟩, [r_1, r_4]⟩ : Gl)].map encG), .int .i64 2])), (3, .ptr (.agg [.str ⟨#[]⟩, .lst (r_6.map encA), .lst ([].map encA), .lst ([].map encG), .lst ([(⟨0, ⟨#[113]⟩, [r_2]⟩ : Gl)].map encG), .int .i64 1])), (5, .ref b5_r5_9 0 []), (6, .ref b6_r5_9 0 [])] env ∧ σ.Perm [.cell b6_r5_9 (.agg [.lst ([].map enc_S_api_Decl), .lst ([(⟨⟨#[]⟩, r_6, [], [], [(⟨0, ⟨#[113]⟩, [r_2]⟩ : Gl)], 1⟩ : S_api_Rule), (⟨⟨#[]⟩, [], r_6, [], [], 1⟩ : S_api_Rule)].map enc_S_api_Rule)]), .cell b5_r5_9 (.agg [.lst ([].map enc_S_api_Decl), .lst ([(⟨⟨#[]⟩, r_6, [], [], [(⟨4, ⟨#[]⟩, [r_1, r_4]⟩ : Gl)], 2⟩ : S_api_Rule), (⟨⟨#[]⟩, [], r_6, [], [], 1⟩ : S_api_Rule)].map enc_S_api_Rule)])]) ?_ ?_
  ·
   refine r_d rfl rfl rfl (s_load rfl rfl (by exact ty_api_Rule) rfl) ?_
   refine r_d rfl rfl rfl (s_load rfl rfl (by exact ty_api_Rule) rfl) ?_
   refine r_d rfl rfl rfl (m_lit (f := enc_S_api_Rule) [.tmp 26, .tmp 27] [(⟨⟨#[]⟩, r_6, [], [], [(⟨4, ⟨#[]⟩, [r_1, r_4]⟩ : Gl)], 2⟩ : S_api_Rule), (⟨⟨#[]⟩, [], r_6, [], [], 1⟩ : S_api_Rule)] rfl el_L_api_Rule rfl rfl (by decide) (by decide) (.cons rfl (Wk.refl _) (.cons rfl (Wk.refl _) .nil)) sz_S_api_Rule (fun _ => rfl)) ?_
   refine r_d rfl rfl rfl (s_build rfl bt_api_Program (.cons rfl (Wk.full _) .nil) (.cons rfl rfl rfl (.nil _))) ?_
   refine r_d rfl rfl rfl (s_load rfl rfl (by exact ty_api_Rule) rfl) ?_
   refine r_d rfl rfl rfl (s_load rfl rfl (by exact ty_api_Rule) rfl) ?_
   refine r_d rfl rfl rfl (m_lit (f := enc_S_api_Rule) [.tmp 30, .tmp 31] [(⟨⟨#[]⟩, r_6, [], [], [(⟨0, ⟨#[113]⟩, [r_2]⟩ : Gl)], 1⟩ : S_api_Rule), (⟨⟨#[]⟩, [], r_6, [], [], 1⟩ : S_api_Rule)] rfl el_L_api_Rule rfl rfl (by decide) (by decide) (.cons rfl (Wk.refl _) (.cons rfl (Wk.refl _) .nil)) sz_S_api_Rule (fun _ => rfl)) ?_
   refine r_d rfl rfl rfl (s_build rfl bt_api_Program (.cons rfl (Wk.full _) .nil) (.cons rfl rfl rfl (.nil _))) ?_
   refine r_end ⟨?_, ?_⟩
   ·
    refine r_x rfl rfl rfl (s_alloc rfl zv_api_Program) ?_
    rintro _ _ ⟨b5_r5_9, rfl, rfl⟩
    refine r_w rfl rfl rfl (s_alloc rfl zv_api_Program) ?_
    rintro _ _ ⟨b6_r5_9, rfl, rfl⟩
    refine r_w01 rfl rfl rfl (t_store0 _ rfl rfl rfl (Wk.refl _) (pf1 _ _ _) (by exact ty_api_Program) rfl rfl rfl) ?_
    refine r_w01 rfl rfl rfl (t_store0 _ rfl rfl rfl (Wk.refl _) (pf1 _ _ _) (by exact ty_api_Program) rfl rfl rfl) ?_
    refine r_end ?_
    exact ⟨b6_r5_9, b5_r5_9, (Sub.cons' rfl (Sub.cons' rfl (Sub.cons' rfl (Sub.cons' rfl (Sub.nil _))))), ((pf1 _ _ _).trans (pf1 _ _ _))⟩
   ·
    refine r_x rfl rfl rfl (s_alloc rfl zv_api_Program) ?_
    rintro _ _ ⟨b6_r5_9, rfl, rfl⟩
    refine r_w rfl rfl rfl (s_alloc rfl zv_api_Program) ?_
    rintro _ _ ⟨b5_r5_9, rfl, rfl⟩
    refine r_w01 rfl rfl rfl (t_store0 _ rfl rfl rfl (Wk.refl _) (pf0 _) (by exact ty_api_Program) rfl rfl rfl) ?_
    refine r_w01 rfl rfl rfl (t_store0 _ rfl rfl rfl (Wk.refl _) (pf1 _ _ _) (by exact ty_api_Program) rfl rfl rfl) ?_
    refine r_end ?_
    exact ⟨b6_r5_9, b5_r5_9, (Sub.cons' rfl (Sub.cons' rfl (Sub.cons' rfl (Sub.cons' rfl (Sub.nil _))))), ((pf1 _ _ _).trans (pf1 _ _ _))⟩
  ·
   rintro _ _ ⟨b6_r5_9, b5_r5_9, hs, hp⟩
   refine g_ends hs hp ?_
   refine g_freeze 5 b5_r5_9 rfl (pf1 _ _ _) ?_
   refine g_freeze 6 b6_r5_9 rfl (pf0 _) ?_
   refine g_seq ?_
   refine g_run (by kernel_rfl) [(0, .d), (1, .d), (2, .d), (3, .d), (4, .d), (5, .d), (6, .d), (7, .d), (8, .d), (9, .d), (10, .d), (11, .d), (12, .d), (13, .d), (14, .d), (15, .d), (16, .d), (17, .d), (18, .d), (19, .d), (20, .d), (21, .d), (22, .d), (23, .d), (24, .d), (25, .d), (26, .d), (27, .d), (28, .d), (29, .d), (30, .d), (31, .d)] rfl ?_
   refine r_d rfl rfl rfl (s_load rfl rfl (by exact ty_api_Rule) rfl) ?_
   obtain ⟨r_11, hr_11, hr⟩ := bindS hr
   refine r_d rfl rfl rfl (s_callD rfl cl_stored_Inert (.cons rfl (Wk.refl _) .nil) (lg_stored_Inert _ _ hr_11)) ?_
   refine r_d rfl rfl rfl (s_move rfl rfl) ?_
   refine r_sB 36 rfl hr (fun h36_11 hr => ?_) (fun h36_11 hr => ?_)
   ·
    refine r_d rfl rfl rfl (s_load rfl rfl (by exact ty_api_Rule) rfl) ?_
    obtain ⟨r_13, hr_13, hr⟩ := bindS hr
    refine r_d rfl rfl rfl (s_callD rfl cl_stored_Inert (.cons rfl (Wk.refl _) .nil) (lg_stored_Inert _ _ hr_13)) ?_
    refine r_d rfl rfl rfl (s_not rfl rfl) ?_
    refine r_d rfl rfl rfl (s_pickT rfl rfl rfl) ?_
    refine r_d rfl rfl rfl (s_move rfl rfl) ?_
    refine r_sB 41 rfl hr (fun h41_13 hr => ?_) (fun h41_13 hr => ?_)
    ·
     refine r_d rfl rfl rfl (s_load rfl rfl (by exact ty_api_Program) rfl) ?_
     obtain ⟨r_15, hr_15, hr⟩ := bindS hr
     refine r_d rfl rfl rfl (s_callD rfl cl_stored_Never (.cons rfl (Wk.refl _) (.cons rfl (Wk.refl _) (.cons rfl (Wk.refl _) .nil))) (lg_stored_Never _ _ _ _ hr_15)) ?_
     refine r_d rfl rfl rfl (s_pickT rfl rfl rfl) ?_
     refine r_d rfl rfl rfl (s_move rfl rfl) ?_
     refine r_sB 45 rfl hr (fun h45_15 hr => ?_) (fun h45_15 hr => ?_)
     ·
      refine r_d rfl rfl rfl (s_load rfl rfl (by exact ty_api_Program) rfl) ?_
      obtain ⟨r_17, hr_17, hr⟩ := bindS hr
      refine r_d rfl rfl rfl (s_callD rfl cl_stored_Never (.cons rfl (Wk.refl _) (.cons rfl (Wk.refl _) (.cons rfl (Wk.refl _) .nil))) (lg_stored_Never _ _ _ _ hr_17)) ?_
      refine r_d rfl rfl rfl (s_not rfl rfl) ?_
      refine r_d rfl rfl rfl (s_pickT rfl rfl rfl) ?_
      refine r_d rfl rfl rfl (s_move rfl rfl) ?_
      refine r_sB 50 rfl hr (fun h50_17 hr => ?_) (fun h50_17 hr => ?_)
      ·
       refine r_d rfl rfl rfl (s_load rfl rfl (by exact ty_api_Program) rfl) ?_
       obtain ⟨r_19, hr_19, hr⟩ := bindS hr
       refine r_d rfl rfl rfl (s_callD rfl cl_stored_Late (.cons rfl (Wk.refl _) (.cons rfl (Wk.refl _) (.cons rfl (Wk.refl _) .nil))) (lg_stored_Late _ _ _ _ hr_19)) ?_
       refine r_d rfl rfl rfl (s_cmp rfl rfl rfl rfl) ?_
       refine r_d rfl rfl rfl (s_pickT rfl rfl rfl) ?_
       refine r_d rfl rfl rfl (s_move rfl rfl) ?_
       refine r_sB 55 rfl hr (fun h55_19 hr => ?_) (fun h55_19 hr => ?_)
       ·
        refine r_d rfl rfl rfl (s_load rfl rfl (by exact ty_api_Program) rfl) ?_
        obtain ⟨r_21, hr_21, hr⟩ := bindS hr
        refine r_d rfl rfl rfl (s_callD rfl cl_stored_Late (.cons rfl (Wk.refl _) (.cons rfl (Wk.refl _) (.cons rfl (Wk.refl _) .nil))) (lg_stored_Late _ _ _ _ hr_21)) ?_
        refine r_d rfl rfl rfl (s_cmp rfl rfl rfl rfl) ?_
        refine r_d rfl rfl rfl (s_pickT rfl rfl rfl) ?_
        refine r_d rfl rfl rfl (s_move rfl rfl) ?_
        refine r_sB 60 rfl hr (fun h60_21 hr => ?_) (fun h60_21 hr => ?_)
        ·
         refine r_d rfl rfl rfl (s_load rfl rfl (by exact ty_api_Program) rfl) ?_
         obtain ⟨r_23, hr_23, hr⟩ := bindS hr
         refine r_d rfl rfl rfl (s_callD rfl cl_stored_Never (.cons rfl (Wk.refl _) (.cons rfl (Wk.refl _) (.cons rfl (Wk.refl _) .nil))) (lg_stored_Never _ _ _ _ hr_23)) ?_
         refine r_d rfl rfl rfl (s_not rfl rfl) ?_
         refine r_d rfl rfl rfl (s_pickT rfl rfl rfl) ?_
         refine r_d rfl rfl rfl (s_assign rfl rfl) ?_
         refine r_end ?_
         obtain rfl := Option.some.inj hr
         refine g_ret Try.func7 _ (.cons (resTmp rfl (Wk.refl _)) .nil) ?_
         rfl
        ·
         refine r_skip rfl rfl rfl ?_
         refine r_skip rfl rfl rfl ?_
         refine r_skip rfl rfl rfl ?_
         refine r_d rfl rfl rfl (s_pickF rfl rfl rfl) ?_
         refine r_d rfl rfl rfl (s_assign rfl rfl) ?_
         refine r_end ?_
         obtain rfl := Option.some.inj hr
         refine g_ret Try.func7 _ (.cons (resTmp rfl (Wk.refl _)) .nil) ?_
         rfl
       ·
        refine r_skip rfl rfl rfl ?_
        refine r_skip rfl rfl rfl ?_
        refine r_skip rfl rfl rfl ?_
        refine r_d rfl rfl rfl (s_pickF rfl rfl rfl) ?_
        refine r_d rfl rfl rfl (s_move rfl rfl) ?_
        refine r_skip rfl rfl rfl ?_
        refine r_skip rfl rfl rfl ?_
        refine r_skip rfl rfl rfl ?_
        refine r_d rfl rfl rfl (s_pickF rfl rfl rfl) ?_
        refine r_d rfl rfl rfl (s_assign rfl rfl) ?_
        refine r_end ?_
        obtain rfl := Option.some.inj hr
        refine g_ret Try.func7 _ (.cons (resTmp rfl (Wk.refl _)) .nil) ?_
        rfl
      ·
       refine r_skip rfl rfl rfl ?_
       refine r_skip rfl rfl rfl ?_
       refine r_skip rfl rfl rfl ?_
       refine r_d rfl rfl rfl (s_pickF rfl rfl rfl) ?_
       refine r_d rfl rfl rfl (s_move rfl rfl) ?_
       refine r_skip rfl rfl rfl ?_
       refine r_skip rfl rfl rfl ?_
       refine r_skip rfl rfl rfl ?_
       refine r_d rfl rfl rfl (s_pickF rfl rfl rfl) ?_
       refine r_d rfl rfl rfl (s_move rfl rfl) ?_
       refine r_skip rfl rfl rfl ?_
       refine r_skip rfl rfl rfl ?_
       refine r_skip rfl rfl rfl ?_
       refine r_d rfl rfl rfl (s_pickF rfl rfl rfl) ?_
       refine r_d rfl rfl rfl (s_assign rfl rfl) ?_
       refine r_end ?_
       obtain rfl := Option.some.inj hr
       refine g_ret Try.func7 _ (.cons (resTmp rfl (Wk.refl _)) .nil) ?_
       rfl
     ·
      refine r_skip rfl rfl rfl ?_
      refine r_skip rfl rfl rfl ?_
      refine r_skip rfl rfl rfl ?_
      refine r_d rfl rfl rfl (s_pickF rfl rfl rfl) ?_
      refine r_d rfl rfl rfl (s_move rfl rfl) ?_
      refine r_skip rfl rfl rfl ?_
      refine r_skip rfl rfl rfl ?_
      refine r_skip rfl rfl rfl ?_
      refine r_d rfl rfl rfl (s_pickF rfl rfl rfl) ?_
      refine r_d rfl rfl rfl (s_move rfl rfl) ?_
      refine r_skip rfl rfl rfl ?_
      refine r_skip rfl rfl rfl ?_
      refine r_skip rfl rfl rfl ?_
      refine r_d rfl rfl rfl (s_pickF rfl rfl rfl) ?_
      refine r_d rfl rfl rfl (s_move rfl rfl) ?_
      refine r_skip rfl rfl rfl ?_
      refine r_skip rfl rfl rfl ?_
      refine r_skip rfl rfl rfl ?_
      refine r_d rfl rfl rfl (s_pickF rfl rfl rfl) ?_
      refine r_d rfl rfl rfl (s_assign rfl rfl) ?_
      refine r_end ?_
      obtain rfl := Option.some.inj hr
      refine g_ret Try.func7 _ (.cons (resTmp rfl (Wk.refl _)) .nil) ?_
      rfl
    ·
     refine r_skip rfl rfl rfl ?_
     refine r_skip rfl rfl rfl ?_
     refine r_d rfl rfl rfl (s_pickF rfl rfl rfl) ?_
     refine r_d rfl rfl rfl (s_move rfl rfl) ?_
     refine r_skip rfl rfl rfl ?_
     refine r_skip rfl rfl rfl ?_
     refine r_skip rfl rfl rfl ?_
     refine r_d rfl rfl rfl (s_pickF rfl rfl rfl) ?_
     refine r_d rfl rfl rfl (s_move rfl rfl) ?_
     refine r_skip rfl rfl rfl ?_
     refine r_skip rfl rfl rfl ?_
     refine r_skip rfl rfl rfl ?_
     refine r_d rfl rfl rfl (s_pickF rfl rfl rfl) ?_
     refine r_d rfl rfl rfl (s_move rfl rfl) ?_
     refine r_skip rfl rfl rfl ?_
     refine r_skip rfl rfl rfl ?_
     refine r_skip rfl rfl rfl ?_
     refine r_d rfl rfl rfl (s_pickF rfl rfl rfl) ?_
     refine r_d rfl rfl rfl (s_move rfl rfl) ?_
     refine r_skip rfl rfl rfl ?_
     refine r_skip rfl rfl rfl ?_
     refine r_skip rfl rfl rfl ?_
     refine r_d rfl rfl rfl (s_pickF rfl rfl rfl) ?_
     refine r_d rfl rfl rfl (s_assign rfl rfl) ?_
     refine r_end ?_
     obtain rfl := Option.some.inj hr
     refine g_ret Try.func7 _ (.cons (resTmp rfl (Wk.refl _)) .nil) ?_
     rfl
   ·
    refine r_skip rfl rfl rfl ?_
    refine r_skip rfl rfl rfl ?_
    refine r_skip rfl rfl rfl ?_
    refine r_d rfl rfl rfl (s_pickF rfl rfl rfl) ?_
    refine r_d rfl rfl rfl (s_move rfl rfl) ?_
    refine r_skip rfl rfl rfl ?_
    refine r_skip rfl rfl rfl ?_
    refine r_d rfl rfl rfl (s_pickF rfl rfl rfl) ?_
    refine r_d rfl rfl rfl (s_move rfl rfl) ?_
    refine r_skip rfl rfl rfl ?_
    refine r_skip rfl rfl rfl ?_
    refine r_skip rfl rfl rfl ?_
    refine r_d rfl rfl rfl (s_pickF rfl rfl rfl) ?_
    refine r_d rfl rfl rfl (s_move rfl rfl) ?_
    refine r_skip rfl rfl rfl ?_
    refine r_skip rfl rfl rfl ?_
    refine r_skip rfl rfl rfl ?_
    refine r_d rfl rfl rfl (s_pickF rfl rfl rfl) ?_
    refine r_d rfl rfl rfl (s_move rfl rfl) ?_
    refine r_skip rfl rfl rfl ?_
    refine r_skip rfl rfl rfl ?_
    refine r_skip rfl rfl rfl ?_
    refine r_d rfl rfl rfl (s_pickF rfl rfl rfl) ?_
    refine r_d rfl rfl rfl (s_move rfl rfl) ?_
    refine r_skip rfl rfl rfl ?_
    refine r_skip rfl rfl rfl ?_
    refine r_skip rfl rfl rfl ?_
    refine r_d rfl rfl rfl (s_pickF rfl rfl rfl) ?_
    refine r_d rfl rfl rfl (s_assign rfl rfl) ?_
    refine r_end ?_
    obtain rfl := Option.some.inj hr
    refine g_ret Try.func7 _ (.cons (resTmp rfl (Wk.refl _)) .nil) ?_
    rfl

noncomputable def lf_constraintref03_has_L0 (k : Option (Bool)) (n_a1 : Int) : List Int → Option (Bool)
  | [] =>
  k
  | q_2 :: rest =>
  (bif (q_2 == n_a1) then
  some (true)
  else
  (lf_constraintref03_has_L0 k n_a1 rest))
noncomputable def lf_constraintref03_has (l_a0 : (List Int)) (n_a1 : Int) : Option (Bool) :=
  (lf_constraintref03_has_L0 (some (false)) n_a1 l_a0)

set_option maxHeartbeats 1000000 in
theorem lg_constraintref03_has (l_a0 : (List Int)) (n_a1 : Int) (res : Bool) (hr : lf_constraintref03_has l_a0 n_a1 = some res) : Gives Try.prog 64 [.lst (l_a0.map (D.int .i64)), .int .i64 n_a1] (.bool res) := by
  unfold lf_constraintref03_has at hr
  refine spec_env [(0, .lst (l_a0.map (D.int .i64))), (1, .int .i64 n_a1)] Try.func64 rfl rfl fun K hK => ?_
  refine g_seq ?_
  refine g_run (by kernel_rfl) [(0, .d)] rfl ?_
  refine r_d rfl rfl rfl (s_assign rfl rfl) ?_
  refine r_end ?_
  refine g_seq ?_
  refine g_seq ?_
  refine g_run (by kernel_rfl) [(0, .d)] rfl ?_
  refine r_d rfl rfl rfl (s_assign rfl rfl) ?_
  refine r_end ?_
  obtain ⟨kk0, hkk0, hr⟩ := exK (fun k => lf_constraintref03_has_L0 k n_a1 l_a0) hr
  refine g_len 0 rfl (asl rfl) fun hla0 => ?_
  simp only [List.length_map] at hla0
  refine g_blockJ (fun env σ => env = [] ∧ σ = [] ∧ kk0 = some res) ?_ (fun HK0 => ?_)
  ·
   rintro _ _ ⟨rfl, rfl, hr⟩
   rw [hkk0] at hr
   refine g_seq ?_
   refine g_run (by kernel_rfl) [(0, .d)] rfl ?_
   refine r_d rfl rfl rfl (s_assign rfl rfl) ?_
   refine r_end ?_
   obtain rfl := Option.some.inj hr
   refine g_ret Try.func64 _ (.cons (resTmp rfl (Wk.refl _)) .nil) ?_
   rfl
  ·
   refine g_sub [(0, .lst (l_a0.map (D.int .i64))), (1, .int .i64 n_a1), (5, .int .i64 ((0 : Nat) : Int))] (Sub.cons' rfl (Sub.cons' rfl (Sub.cons' rfl (Sub.nil _)))) ?_
   refine g_loop (fun n env σ => ∃ (i_1 : Nat), (n = l_a0.length - i_1) ∧ (env = [(0, .lst (l_a0.map (D.int .i64))), (1, .int .i64 n_a1), (5, .int .i64 (i_1 : Int))]) ∧ (σ = []) ∧ (i_1 ≤ l_a0.length) ∧ (lf_constraintref03_has_L0 kk0 n_a1 (l_a0.drop i_1) = some res)) _ ⟨0, rfl, rfl, rfl, Nat.zero_le _, hr⟩ ?_
   rintro n _ _ ⟨i_1, rfl, rfl, rfl, hi0, hr⟩ IH0
   rcases listStep l_a0 i_1 hi0 with ⟨ht0, hd0, he0⟩ | ⟨q_2, ht0, hd0, hq0, hlt0⟩
   ·
    rw [hd0, lf_constraintref03_has_L0] at hr
    refine g_seq ?_
    refine g_seq ?_
    refine g_run (by kernel_rfl) [(0, .d), (1, .d), (2, .d), (3, .d)] rfl ?_
    refine r_d rfl rfl rfl (s_move rfl rfl) ?_
    refine r_d rfl rfl rfl (s_move rfl rfl) ?_
    refine r_d rfl rfl rfl (m_len (f := (D.int .i64)) l_a0 rfl el_L_int rfl (asl rfl)) ?_
    refine r_d rfl rfl rfl (s_cmp rfl rfl rfl rfl) ?_
    refine r_end ?_
    refine g_known 9 false rfl ht0 ?_
    refine g_condF rfl ?_
    refine g_exit rfl ?_
    refine g_sub [] (Sub.nil _) ?_
    exact HK0 _ _ ⟨rfl, rfl, hr⟩
   ·
    rw [hd0, lf_constraintref03_has_L0] at hr
    refine g_seq ?_
    refine g_seq ?_
    refine g_run (by kernel_rfl) [(0, .d), (1, .d), (2, .d), (3, .d)] rfl ?_
    refine r_d rfl rfl rfl (s_move rfl rfl) ?_
    refine r_d rfl rfl rfl (s_move rfl rfl) ?_
    refine r_d rfl rfl rfl (m_len (f := (D.int .i64)) l_a0 rfl el_L_int rfl (asl rfl)) ?_
    refine r_d rfl rfl rfl (s_cmp rfl rfl rfl rfl) ?_
    refine r_end ?_
    refine g_known 9 true rfl ht0 ?_
    refine g_condT rfl ?_
    refine g_skip ?_
    refine g_seq ?_
    refine g_block ?_
    refine g_seq ?_
    refine g_run (by kernel_rfl) [(0, .d), (1, .d), (2, .d), (3, .d), (4, .d), (5, .d)] rfl ?_
    refine r_d rfl rfl rfl (s_move rfl rfl) ?_
    refine r_d rfl rfl rfl (s_move rfl rfl) ?_
    refine r_d rfl rfl rfl (m_index (f := (D.int .i64)) l_a0 rfl el_L_int rfl (asl rfl) rfl hq0 (fun _ => rfl) rfl) ?_
    refine r_d rfl rfl rfl (s_load rfl rfl (by exact ty_int) rfl) ?_
    refine r_d rfl rfl rfl (s_move rfl rfl) ?_
    refine r_d rfl rfl rfl (s_cmp rfl rfl rfl rfl) ?_
    refine r_end ?_
    refine g_sB 17 rfl hr (fun h17_2 hr => ?_) (fun h17_2 hr => ?_)
    ·
     refine g_condT rfl ?_
     refine g_seq ?_
     refine g_run (by kernel_rfl) [(0, .d)] rfl ?_
     refine r_d rfl rfl rfl (s_assign rfl rfl) ?_
     refine r_end ?_
     obtain rfl := Option.some.inj hr
     refine g_ret Try.func64 _ (.cons (resTmp rfl (Wk.refl _)) .nil) ?_
     rfl
    ·
     refine g_condF rfl ?_
     refine g_skip ?_
     refine g_inBlock ?_
     refine g_run (by kernel_rfl) [(0, .d), (1, .d), (2, .d)] rfl ?_
     refine r_d rfl rfl rfl (s_move rfl rfl) ?_
     refine r_d rfl rfl rfl (s_ar (r := ((i_1 + 1 : Nat) : Int)) rfl rfl rfl (by simp [iar]) (by omega)) ?_
     refine r_d rfl rfl rfl (s_assign rfl rfl) ?_
     refine r_end ?_
     refine g_sub [(0, .lst (l_a0.map (D.int .i64))), (1, .int .i64 n_a1), (5, .int .i64 ((i_1 + 1 : Nat) : Int))] (Sub.cons' rfl (Sub.cons' rfl (Sub.cons' rfl (Sub.nil _)))) ?_
     exact IH0 _ _ _ (by omega) ⟨(i_1 + 1), rfl, rfl, rfl, (by omega), hr⟩

noncomputable def lf_constraintref03_args (t_a0 : T) : Option ((List T)) :=
  (bif (t_a0.k == (2 : Int)) then
  some (t_a0.ar)
  else
  some ([]))

set_option maxHeartbeats 1000000 in
theorem lg_constraintref03_args (t_a0 : T) (res : (List T)) (hr : lf_constraintref03_args t_a0 = some res) : Gives Try.prog 65 [encT t_a0] (.lst (res.map encT)) := by
  unfold lf_constraintref03_args at hr
  refine spec_env [(0, encT t_a0)] Try.func65 rfl rfl fun K hK => ?_
  refine g_seq ?_
  refine g_run (by kernel_rfl) [(0, .d), (1, .d)] rfl ?_
  refine r_d rfl rfl rfl (s_box rfl rfl rfl) ?_
  refine r_d rfl rfl rfl (s_assign rfl rfl) ?_
  refine r_end ?_
  refine g_seq ?_
  refine g_seq ?_
  refine g_run (by kernel_rfl) [(0, .d), (1, .d), (2, .d)] rfl ?_
  refine r_d rfl rfl rfl (s_fieldAddr rfl fl_api_Term_0 rfl (fsT_get0 _) (fsT_off0 _) rfl) ?_
  refine r_d rfl rfl rfl (s_load rfl rfl (by exact ty_int) rfl) ?_
  refine r_d rfl rfl rfl (s_cmp rfl rfl rfl rfl) ?_
  refine r_end ?_
  refine g_sB 5 rfl hr (fun h5_0 hr => ?_) (fun h5_0 hr => ?_)
  ·
   refine g_condT rfl ?_
   refine g_seq ?_
   refine g_run (by kernel_rfl) [(0, .d), (1, .d), (2, .d)] rfl ?_
   refine r_d rfl rfl rfl (s_fieldAddr rfl fl_api_Term_3 rfl (fsT_get3 _) (fsT_off3 _) rfl) ?_
   refine r_d rfl rfl rfl (s_load rfl rfl (by exact ty_L_api_Term) rfl) ?_
   refine r_d rfl rfl rfl (s_assign rfl rfl) ?_
   refine r_end ?_
   obtain rfl := Option.some.inj hr
   refine g_ret Try.func65 _ (.cons (resTmp rfl (Wk.refl _)) .nil) ?_
   rfl
  ·
   refine g_condF rfl ?_
   refine g_skip ?_
   refine g_seq ?_
   refine g_run (by kernel_rfl) [(0, .d)] rfl ?_
   refine r_d rfl rfl rfl (s_assign rfl rfl) ?_
   refine r_end ?_
   obtain rfl := Option.some.inj hr
   refine g_ret Try.func65 _ (.cons (resTmp rfl (Wk.full _)) .nil) ?_
   rfl

noncomputable def lf_constraintref03_vars_s1_L0 (k : ((List Int)) → Option ((List Int))) (rec : (List Int) → T → Option ((List Int))) : List T → (List Int) → Option ((List Int))
  | [], l_6 =>
  (k l_6)
  | q_10 :: rest, l_6 =>
  ((rec l_6 q_10).bind fun r_11 =>
  (lf_constraintref03_vars_s1_L0 k rec rest r_11))

noncomputable def lf_constraintref03_vars_s1_J0 (k : ((List Int)) → Option ((List Int))) (l_a0 : (List Int)) (t_a1 : T) : Option ((List Int)) :=
  (bif (t_a1.k == (1 : Int)) then
  ((lf_constraintref03_has l_a0 t_a1.i).bind fun r_14 =>
  (bif (!r_14) then
  ((appO 8 l_a0 [t_a1.i]).bind fun l_16 =>
  (k l_16))
  else
  (k l_a0)))
  else
  (k l_a0))
noncomputable def lf_constraintref03_vars_s1 : Nat → (List Int) → T → Option ((List Int))
  | 0, _, _ => none
  | fuel + 1, l_a0, t_a1 =>
    (fun (rec : (List Int) → T → Option ((List Int))) =>
      (lf_constraintref03_vars_s1_J0 (fun l_3 =>
      ((lf_constraintref03_args t_a1).bind fun r_4 =>
      (lf_constraintref03_vars_s1_L0 (fun l_9 =>
      some (l_9)) rec r_4 l_3))) l_a0 t_a1)) (lf_constraintref03_vars_s1 fuel)

set_option maxHeartbeats 1000000 in
theorem lgs_constraintref03_vars_s1 (fuel : Nat) (rec : (List Int) → T → Option ((List Int))) (IHR : ∀ (l_a0 : (List Int)) (t_a1 : T) (u_o0 : Value) (res : (List Int)), rec l_a0 t_a1 = some res → Spec Try.prog 54 [.own u_o0 (l_a0.map (D.int .i64)), encT t_a1] [.row u_o0 l_a0.length 3 1] (fun d σ => ∃ (u_o0' : Value), d = .own u_o0' (res.map (D.int .i64)) ∧ σ = [.row u_o0' res.length 3 1])) (l_a0 : (List Int)) (t_a1 : T) (u_o0 : Value) (res : (List Int))
    (hr : (lf_constraintref03_vars_s1_J0 (fun l_3 =>
((lf_constraintref03_args t_a1).bind fun r_4 =>
(lf_constraintref03_vars_s1_L0 (fun l_9 =>
some (l_9)) rec r_4 l_3))) l_a0 t_a1) = some res) : Spec Try.prog 54 [.own u_o0 (l_a0.map (D.int .i64)), encT t_a1] [.row u_o0 l_a0.length 3 1] (fun d σ => ∃ (u_o0' : Value), d = .own u_o0' (res.map (D.int .i64)) ∧ σ = [.row u_o0' res.length 3 1]) := by
  refine spec_env [(0, .own u_o0 (l_a0.map (D.int .i64))), (1, encT t_a1)] Try.func54 rfl rfl fun K hK => ?_
  refine g_seq ?_
  refine g_run (by kernel_rfl) [(0, .d), (1, .w)] rfl ?_
  refine r_d rfl rfl rfl (s_box rfl rfl rfl) ?_
  refine r_w rfl rfl rfl (s_nilOwn 3 1 (.inl rfl)) ?_
  rintro _ _ ⟨u4_0, rfl, rfl⟩
  refine r_end ?_
  obtain ⟨kkJ0, hkkJ0, hr⟩ := exK (fun k => lf_constraintref03_vars_s1_J0 k l_a0 t_a1) hr
  refine g_seqJ (fun env σ => ∃ (l_3 : (List Int)) (u_2 : Value), env = [(0, .own u_2 (l_3.map (D.int .i64))), (3, .ptr (encT t_a1))] ∧ σ = [.row u_2 l_3.length 3 1] ∧ kkJ0 l_3 = some res) ?_ (fun HKJ0 => ?_)
  ·
   rintro _ _ ⟨l_3, u_2, rfl, rfl, hr⟩
   rw [hkkJ0] at hr
   refine g_seq ?_
   refine g_run (by kernel_rfl) [(0, .d), (1, .d), (2, .d)] rfl ?_
   refine r_d rfl rfl rfl (s_load rfl rfl (by exact ty_api_Term) (sz_encT _)) ?_
   obtain ⟨r_4, hr_4, hr⟩ := bindS hr
   refine r_d rfl rfl rfl (s_callD rfl cl_constraintref03_args (.cons rfl (Wk.refl _) .nil) (lg_constraintref03_args _ _ hr_4)) ?_
   refine r_d rfl rfl rfl (s_assign rfl rfl) ?_
   refine r_end ?_
   refine g_seq ?_
   refine g_seq ?_
   refine g_run (by kernel_rfl) [(0, .d)] rfl ?_
   refine r_d rfl rfl rfl (s_assign rfl rfl) ?_
   refine r_end ?_
   obtain ⟨kk0, hkk0, hr⟩ := exK (fun k => lf_constraintref03_vars_s1_L0 k rec r_4 l_3) hr
   refine g_len 23 rfl (asl rfl) fun hla0 => ?_
   simp only [List.length_map] at hla0
   refine g_blockJ (fun env σ => ∃ (l_9 : (List Int)) (u_8 : Value), env = [(0, .own u_8 (l_9.map (D.int .i64)))] ∧ σ = [.row u_8 l_9.length 3 1] ∧ kk0 l_9 = some res) ?_ (fun HK0 => ?_)
   ·
    rintro _ _ ⟨l_9, u_8, rfl, rfl, hr⟩
    rw [hkk0] at hr
    refine g_seq ?_
    refine g_run (by kernel_rfl) [(0, .d), (1, .d)] rfl ?_
    refine r_d rfl rfl rfl (s_move rfl rfl) ?_
    refine r_d rfl rfl rfl (s_assign rfl rfl) ?_
    refine r_end ?_
    obtain rfl := Option.some.inj hr
    refine g_ret Try.func54 _ (.cons (resTmp rfl (Wk.refl _)) .nil) ?_
    exact ⟨u_8, rfl, rfl⟩
   ·
    refine g_sub [(5, .lst (r_4.map encT)), (0, .own u_2 (l_3.map (D.int .i64))), (6, .int .i64 ((0 : Nat) : Int))] (Sub.cons' rfl (Sub.cons' rfl (Sub.cons' rfl (Sub.nil _)))) ?_
    refine g_loop (fun n env σ => ∃ (l_6 : (List Int)) (i_7 : Nat) (u_5 : Value), (n = r_4.length - i_7) ∧ (env = [(5, .lst (r_4.map encT)), (0, .own u_5 (l_6.map (D.int .i64))), (6, .int .i64 (i_7 : Int))]) ∧ (σ = [.row u_5 l_6.length 3 1]) ∧ (i_7 ≤ r_4.length) ∧ (lf_constraintref03_vars_s1_L0 kk0 rec (r_4.drop i_7) l_6 = some res)) _ ⟨l_3, 0, u_2, rfl, rfl, rfl, Nat.zero_le _, hr⟩ ?_
    rintro n _ _ ⟨l_6, i_7, u_5, rfl, rfl, rfl, hi0, hr⟩ IH0
    rcases listStep r_4 i_7 hi0 with ⟨ht0, hd0, he0⟩ | ⟨q_10, ht0, hd0, hq0, hlt0⟩
    ·
     rw [hd0, lf_constraintref03_vars_s1_L0] at hr
     refine g_seq ?_
     refine g_seq ?_
     refine g_run (by kernel_rfl) [(0, .d), (1, .d), (2, .d), (3, .d)] rfl ?_
     refine r_d rfl rfl rfl (s_move rfl rfl) ?_
     refine r_d rfl rfl rfl (s_move rfl rfl) ?_
     refine r_d rfl rfl rfl (m_len (f := encT) r_4 rfl el_L_api_Term rfl (asl rfl)) ?_
     refine r_d rfl rfl rfl (s_cmp rfl rfl rfl rfl) ?_
     refine r_end ?_
     refine g_known 27 false rfl ht0 ?_
     refine g_condF rfl ?_
     refine g_exit rfl ?_
     refine g_sub [(0, .own u_5 (l_6.map (D.int .i64)))] (Sub.cons' rfl (Sub.nil _)) ?_
     exact HK0 _ _ ⟨l_6, u_5, rfl, rfl, hr⟩
    ·
     rw [hd0, lf_constraintref03_vars_s1_L0] at hr
     refine g_seq ?_
     refine g_seq ?_
     refine g_run (by kernel_rfl) [(0, .d), (1, .d), (2, .d), (3, .d)] rfl ?_
     refine r_d rfl rfl rfl (s_move rfl rfl) ?_
     refine r_d rfl rfl rfl (s_move rfl rfl) ?_
     refine r_d rfl rfl rfl (m_len (f := encT) r_4 rfl el_L_api_Term rfl (asl rfl)) ?_
     refine r_d rfl rfl rfl (s_cmp rfl rfl rfl rfl) ?_
     refine r_end ?_
     refine g_known 27 true rfl ht0 ?_
     refine g_condT rfl ?_
     refine g_skip ?_
     refine g_seq ?_
     refine g_block ?_
     refine g_run (by kernel_rfl) [(0, .d), (1, .d), (2, .d), (3, .d), (4, .d), (5, .w), (6, .d)] rfl ?_
     refine r_d rfl rfl rfl (s_move rfl rfl) ?_
     refine r_d rfl rfl rfl (s_move rfl rfl) ?_
     refine r_d rfl rfl rfl (s_move rfl rfl) ?_
     refine r_d rfl rfl rfl (m_index (f := encT) r_4 rfl el_L_api_Term rfl (asl rfl) rfl hq0 sz_encT rfl) ?_
     refine r_d rfl rfl rfl (s_load rfl rfl (by exact ty_api_Term) (sz_encT _)) ?_
     obtain ⟨r_11, hr_11, hr⟩ := bindS hr
     refine r_w rfl rfl rfl (s_call _ rfl cl_constraintref03_vars (.cons rfl (Wk.refl _) (.cons rfl (Wk.refl _) .nil)) (by exact (pf0 _)) (IHR _ _ _ _ hr_11)) ?_
     rintro _ _ ⟨_, ⟨u35_11, rfl, rfl⟩, rfl⟩
     refine r_st ((.row u35_11 r_11.length 3 1) :: _) rfl ?_
     refine r_d rfl rfl rfl (s_assign rfl rfl) ?_
     refine r_end ?_
     refine g_inBlock ?_
     refine g_run (by kernel_rfl) [(0, .d), (1, .d), (2, .d)] rfl ?_
     refine r_d rfl rfl rfl (s_move rfl rfl) ?_
     refine r_d rfl rfl rfl (s_ar (r := ((i_7 + 1 : Nat) : Int)) rfl rfl rfl (by simp [iar]) (by omega)) ?_
     refine r_d rfl rfl rfl (s_assign rfl rfl) ?_
     refine r_end ?_
     refine g_sub [(5, .lst (r_4.map encT)), (0, .own u35_11 (r_11.map (D.int .i64))), (6, .int .i64 ((i_7 + 1 : Nat) : Int))] (Sub.cons' rfl (Sub.cons' rfl (Sub.cons' rfl (Sub.nil _)))) ?_
     exact IH0 _ _ _ (by omega) ⟨r_11, (i_7 + 1), u35_11, rfl, rfl, rfl, (by omega), hr⟩
  ·
   unfold lf_constraintref03_vars_s1_J0 at hr
   refine g_seq ?_
   refine g_run (by kernel_rfl) [(0, .d), (1, .d), (2, .d), (3, .d), (4, .d), (5, .d), (6, .d), (7, .d), (8, .d), (9, .d)] rfl ?_
   refine r_d rfl rfl rfl (s_fieldAddr rfl fl_api_Term_0 rfl (fsT_get0 _) (fsT_off0 _) rfl) ?_
   refine r_d rfl rfl rfl (s_load rfl rfl (by exact ty_int) rfl) ?_
   refine r_d rfl rfl rfl (s_cmp rfl rfl rfl rfl) ?_
   refine r_d rfl rfl rfl (s_move rfl rfl) ?_
   refine r_sB 10 rfl hr (fun h10_12 hr => ?_) (fun h10_12 hr => ?_)
   ·
    refine r_d rfl rfl rfl (s_move rfl rfl) ?_
    refine r_d rfl rfl rfl (s_fieldAddr rfl fl_api_Term_1 rfl (fsT_get1 _) (fsT_off1 _) rfl) ?_
    refine r_d rfl rfl rfl (s_load rfl rfl (by exact ty_int) rfl) ?_
    obtain ⟨r_14, hr_14, hr⟩ := bindS hr
    refine r_d rfl rfl rfl (s_callD rfl cl_constraintref03_has (.cons rfl (Wk.own _ _) (.cons rfl (Wk.refl _) .nil)) (lg_constraintref03_has _ _ _ hr_14)) ?_
    refine r_d rfl rfl rfl (s_not rfl rfl) ?_
    refine r_d rfl rfl rfl (s_pickT rfl rfl rfl) ?_
    refine r_end ?_
    refine g_sB 16 rfl hr (fun h16_14 hr => ?_) (fun h16_14 hr => ?_)
    ·
     refine g_condT rfl ?_
     refine g_run (by kernel_rfl) [(0, .d), (1, .d), (2, .d), (3, .d), (4, .w), (5, .d)] rfl ?_
     refine r_d rfl rfl rfl (s_move rfl rfl) ?_
     refine r_d rfl rfl rfl (s_fieldAddr rfl fl_api_Term_1 rfl (fsT_get1 _) (fsT_off1 _) rfl) ?_
     refine r_d rfl rfl rfl (s_load rfl rfl (by exact ty_int) rfl) ?_
     refine r_d rfl rfl rfl (m_lit (f := (D.int .i64)) [.tmp 19] [t_a1.i] rfl el_L_int rfl rfl (by decide) (by decide) (.cons rfl (Wk.refl _) .nil) (fun _ => rfl) (fun _ => rfl)) ?_
     obtain ⟨l_16, hl_16, hr⟩ := bindS hr
     refine r_w rfl rfl rfl (m_appOwn (f := (D.int .i64)) l_a0 [t_a1.i] rfl el_L_int rfl rfl (asl rfl) (pf1 _ _ _) rfl (fun _ => rfl) hl_16) ?_
     rintro _ _ ⟨u21_16, rfl, rfl⟩
     refine r_d rfl rfl rfl (s_assign rfl rfl) ?_
     refine r_end ?_
     refine g_sub [(0, .own u21_16 (l_16.map (D.int .i64))), (3, .ptr (encT t_a1))] (Sub.cons' rfl (Sub.cons' rfl (Sub.nil _))) ?_
     refine g_perm [_] _ (pf0 _) ?_
     exact HKJ0 _ _ ⟨l_16, u21_16, rfl, rfl, hr⟩
    ·
     refine g_condF rfl ?_
     refine g_skip ?_
     refine g_sub [(0, .own u_o0 (l_a0.map (D.int .i64))), (3, .ptr (encT t_a1))] (Sub.cons' rfl (Sub.cons' rfl (Sub.nil _))) ?_
     refine g_perm [_] _ (pf1 _ _ _) ?_
     exact HKJ0 _ _ ⟨l_a0, u_o0, rfl, rfl, hr⟩
   ·
    refine r_skip rfl rfl rfl ?_
    refine r_skip rfl rfl rfl ?_
    refine r_skip rfl rfl rfl ?_
    refine r_skip rfl rfl rfl ?_
    refine r_skip rfl rfl rfl ?_
    refine r_d rfl rfl rfl (s_pickF rfl rfl rfl) ?_
    refine r_end ?_
    refine g_condF rfl ?_
    refine g_skip ?_
    refine g_sub [(0, .own u_o0 (l_a0.map (D.int .i64))), (3, .ptr (encT t_a1))] (Sub.cons' rfl (Sub.cons' rfl (Sub.nil _))) ?_
    refine g_perm [_] _ (pf1 _ _ _) ?_
    exact HKJ0 _ _ ⟨l_a0, u_o0, rfl, rfl, hr⟩
theorem lg_constraintref03_vars_s1 : ∀ (fuel : Nat) (l_a0 : (List Int)) (t_a1 : T) (u_o0 : Value) (res : (List Int)), lf_constraintref03_vars_s1 fuel l_a0 t_a1 = some res → Spec Try.prog 54 [.own u_o0 (l_a0.map (D.int .i64)), encT t_a1] [.row u_o0 l_a0.length 3 1] (fun d σ => ∃ (u_o0' : Value), d = .own u_o0' (res.map (D.int .i64)) ∧ σ = [.row u_o0' res.length 3 1])
  | 0, _, _, _, _, h => by cases h
  | fuel + 1, l_a0, t_a1, u_o0, res, h => lgs_constraintref03_vars_s1 fuel (lf_constraintref03_vars_s1 fuel) (lg_constraintref03_vars_s1 fuel) l_a0 t_a1 u_o0 res h

noncomputable def lf_constraintref03_VarsOf_s1_L0 (k : ((List Int)) → Option ((List Int))) (fuel : Nat) : List T → (List Int) → Option ((List Int))
  | [], out_4 =>
  (k out_4)
  | q_8 :: rest, out_4 =>
  ((lf_constraintref03_vars_s1 fuel out_4 q_8).bind fun r_9 =>
  (lf_constraintref03_VarsOf_s1_L0 k fuel rest r_9))
noncomputable def lf_constraintref03_VarsOf_s1 (fuel : Nat) (l_a0 : (List T)) : Option ((List Int)) :=
  (lf_constraintref03_VarsOf_s1_L0 (fun out_7 =>
  some (out_7)) fuel l_a0 [])

set_option maxHeartbeats 1000000 in
theorem lg_constraintref03_VarsOf_s1 (fuel : Nat) (l_a0 : (List T)) (res : (List Int)) (hr : lf_constraintref03_VarsOf_s1 fuel l_a0 = some res) : Spec Try.prog 42 [.lst (l_a0.map encT)] [] (fun d σ => ∃ (n_o0 : Value), d = .own n_o0 (res.map (D.int .i64)) ∧ σ = [.row n_o0 res.length 3 1]) := by
  unfold lf_constraintref03_VarsOf_s1 at hr
  refine spec_env [(0, .lst (l_a0.map encT))] Try.func42 rfl rfl fun K hK => ?_
  refine g_seq ?_
  refine g_run (by kernel_rfl) [(0, .w)] rfl ?_
  refine r_w rfl rfl rfl (s_nilOwn 3 1 (.inl rfl)) ?_
  rintro _ _ ⟨u2_0, rfl, rfl⟩
  refine r_end ?_
  refine g_seq ?_
  refine g_run (by kernel_rfl) [(0, .w)] rfl ?_
  refine r_w rfl rfl rfl (s_nilOwn 3 1 (.inl rfl)) ?_
  rintro _ _ ⟨u3_1, rfl, rfl⟩
  refine r_end ?_
  refine g_seq ?_
  refine g_seq ?_
  refine g_run (by kernel_rfl) [(0, .d)] rfl ?_
  refine r_d rfl rfl rfl (s_assign rfl rfl) ?_
  refine r_end ?_
  obtain ⟨kk0, hkk0, hr⟩ := exK (fun k => lf_constraintref03_VarsOf_s1_L0 k fuel l_a0 []) hr
  refine g_len 0 rfl (asl rfl) fun hla0 => ?_
  simp only [List.length_map] at hla0
  refine g_blockJ (fun env σ => ∃ (out_7 : (List Int)) (u_6 : Value), env = [(3, .own u_6 (out_7.map (D.int .i64)))] ∧ σ = [.row u_6 out_7.length 3 1] ∧ kk0 out_7 = some res) ?_ (fun HK0 => ?_)
  ·
   rintro _ _ ⟨out_7, u_6, rfl, rfl, hr⟩
   rw [hkk0] at hr
   refine g_seq ?_
   refine g_run (by kernel_rfl) [(0, .d), (1, .d)] rfl ?_
   refine r_d rfl rfl rfl (s_move rfl rfl) ?_
   refine r_d rfl rfl rfl (s_assign rfl rfl) ?_
   refine r_end ?_
   obtain rfl := Option.some.inj hr
   refine g_ret Try.func42 _ (.cons (resTmp rfl (Wk.refl _)) .nil) ?_
   exact ⟨u_6, rfl, rfl⟩
  ·
   refine g_sub [(0, .lst (l_a0.map encT)), (3, .own u3_1 ([].map (D.int .i64))), (4, .int .i64 ((0 : Nat) : Int))] (Sub.cons' rfl (Sub.cons' rfl (Sub.cons' rfl (Sub.nil _)))) ?_
   refine g_perm [_] _ (pf0 _) ?_
   refine g_loop (fun n env σ => ∃ (out_4 : (List Int)) (i_5 : Nat) (u_3 : Value), (n = l_a0.length - i_5) ∧ (env = [(0, .lst (l_a0.map encT)), (3, .own u_3 (out_4.map (D.int .i64))), (4, .int .i64 (i_5 : Int))]) ∧ (σ = [.row u_3 out_4.length 3 1]) ∧ (i_5 ≤ l_a0.length) ∧ (lf_constraintref03_VarsOf_s1_L0 kk0 fuel (l_a0.drop i_5) out_4 = some res)) _ ⟨[], 0, u3_1, rfl, rfl, rfl, Nat.zero_le _, hr⟩ ?_
   rintro n _ _ ⟨out_4, i_5, u_3, rfl, rfl, rfl, hi0, hr⟩ IH0
   rcases listStep l_a0 i_5 hi0 with ⟨ht0, hd0, he0⟩ | ⟨q_8, ht0, hd0, hq0, hlt0⟩
   ·
    rw [hd0, lf_constraintref03_VarsOf_s1_L0] at hr
    refine g_seq ?_
    refine g_seq ?_
    refine g_run (by kernel_rfl) [(0, .d), (1, .d), (2, .d), (3, .d)] rfl ?_
    refine r_d rfl rfl rfl (s_move rfl rfl) ?_
    refine r_d rfl rfl rfl (s_move rfl rfl) ?_
    refine r_d rfl rfl rfl (m_len (f := encT) l_a0 rfl el_L_api_Term rfl (asl rfl)) ?_
    refine r_d rfl rfl rfl (s_cmp rfl rfl rfl rfl) ?_
    refine r_end ?_
    refine g_known 8 false rfl ht0 ?_
    refine g_condF rfl ?_
    refine g_exit rfl ?_
    refine g_sub [(3, .own u_3 (out_4.map (D.int .i64)))] (Sub.cons' rfl (Sub.nil _)) ?_
    exact HK0 _ _ ⟨out_4, u_3, rfl, rfl, hr⟩
   ·
    rw [hd0, lf_constraintref03_VarsOf_s1_L0] at hr
    refine g_seq ?_
    refine g_seq ?_
    refine g_run (by kernel_rfl) [(0, .d), (1, .d), (2, .d), (3, .d)] rfl ?_
    refine r_d rfl rfl rfl (s_move rfl rfl) ?_
    refine r_d rfl rfl rfl (s_move rfl rfl) ?_
    refine r_d rfl rfl rfl (m_len (f := encT) l_a0 rfl el_L_api_Term rfl (asl rfl)) ?_
    refine r_d rfl rfl rfl (s_cmp rfl rfl rfl rfl) ?_
    refine r_end ?_
    refine g_known 8 true rfl ht0 ?_
    refine g_condT rfl ?_
    refine g_skip ?_
    refine g_seq ?_
    refine g_block ?_
    refine g_run (by kernel_rfl) [(0, .d), (1, .d), (2, .d), (3, .d), (4, .d), (5, .w), (6, .d)] rfl ?_
    refine r_d rfl rfl rfl (s_move rfl rfl) ?_
    refine r_d rfl rfl rfl (s_move rfl rfl) ?_
    refine r_d rfl rfl rfl (s_move rfl rfl) ?_
    refine r_d rfl rfl rfl (m_index (f := encT) l_a0 rfl el_L_api_Term rfl (asl rfl) rfl hq0 sz_encT rfl) ?_
    refine r_d rfl rfl rfl (s_load rfl rfl (by exact ty_api_Term) (sz_encT _)) ?_
    obtain ⟨r_9, hr_9, hr⟩ := bindS hr
    refine r_w rfl rfl rfl (s_call _ rfl cl_constraintref03_vars (.cons rfl (Wk.refl _) (.cons rfl (Wk.refl _) .nil)) (by exact (pf0 _)) (lg_constraintref03_vars_s1 fuel _ _ _ _ hr_9)) ?_
    rintro _ _ ⟨_, ⟨u16_9, rfl, rfl⟩, rfl⟩
    refine r_st ((.row u16_9 r_9.length 3 1) :: _) rfl ?_
    refine r_d rfl rfl rfl (s_assign rfl rfl) ?_
    refine r_end ?_
    refine g_inBlock ?_
    refine g_run (by kernel_rfl) [(0, .d), (1, .d), (2, .d)] rfl ?_
    refine r_d rfl rfl rfl (s_move rfl rfl) ?_
    refine r_d rfl rfl rfl (s_ar (r := ((i_5 + 1 : Nat) : Int)) rfl rfl rfl (by simp [iar]) (by omega)) ?_
    refine r_d rfl rfl rfl (s_assign rfl rfl) ?_
    refine r_end ?_
    refine g_sub [(0, .lst (l_a0.map encT)), (3, .own u16_9 (r_9.map (D.int .i64))), (4, .int .i64 ((i_5 + 1 : Nat) : Int))] (Sub.cons' rfl (Sub.cons' rfl (Sub.cons' rfl (Sub.nil _)))) ?_
    exact IH0 _ _ _ (by omega) ⟨r_9, (i_5 + 1), u16_9, rfl, rfl, rfl, (by omega), hr⟩

noncomputable def lf_constraintref31_headVars_s1_L0 (k : ((List T)) → Option ((List Int))) : List At → (List T) → Option ((List Int))
  | [], l_5 =>
  (k l_5)
  | q_11 :: rest, l_5 =>
  ((appO 56 l_5 q_11.ts).bind fun l_12 =>
  (lf_constraintref31_headVars_s1_L0 k rest l_12))
noncomputable def lf_constraintref31_headVars_s1 (fuel : Nat) (r_a0 : S_api_Rule) : Option ((List Int)) :=
  ((lf_constraintref16_Heads r_a0).bind fun r_3 =>
  (lf_constraintref31_headVars_s1_L0 (fun l_8 =>
  ((lf_constraintref03_VarsOf_s1 fuel l_8).bind fun r_9 =>
  some (r_9))) r_3 []))

set_option maxHeartbeats 1000000 in
theorem lg_constraintref31_headVars_s1 (fuel : Nat) (r_a0 : S_api_Rule) (res : (List Int)) (hr : lf_constraintref31_headVars_s1 fuel r_a0 = some res) : Spec Try.prog 26 [enc_S_api_Rule r_a0] [] (fun d σ => ∃ (n_o0 : Value), d = .own n_o0 (res.map (D.int .i64)) ∧ σ = [.row n_o0 res.length 3 1]) := by
  unfold lf_constraintref31_headVars_s1 at hr
  refine spec_env [(0, enc_S_api_Rule r_a0)] Try.func26 rfl rfl fun K hK => ?_
  refine g_seq ?_
  refine g_run (by kernel_rfl) [(0, .d), (1, .w)] rfl ?_
  refine r_d rfl rfl rfl (s_box rfl rfl rfl) ?_
  refine r_w rfl rfl rfl (s_nilOwn 3 1 (.inl rfl)) ?_
  rintro _ _ ⟨u2_0, rfl, rfl⟩
  refine r_end ?_
  refine g_seq ?_
  refine g_run (by kernel_rfl) [(0, .w)] rfl ?_
  refine r_w rfl rfl rfl (s_nilOwn 47 4 (.inl rfl)) ?_
  rintro _ _ ⟨u3_1, rfl, rfl⟩
  refine r_end ?_
  refine g_seq ?_
  refine g_run (by kernel_rfl) [(0, .d), (1, .d), (2, .d)] rfl ?_
  refine r_d rfl rfl rfl (s_load rfl rfl (by exact ty_api_Rule) (sz_S_api_Rule _)) ?_
  obtain ⟨r_3, hr_3, hr⟩ := bindS hr
  refine r_d rfl rfl rfl (s_callD rfl cl_constraintref16_Heads (.cons rfl (Wk.refl _) .nil) (lg_constraintref16_Heads _ _ hr_3)) ?_
  refine r_d rfl rfl rfl (s_assign rfl rfl) ?_
  refine r_end ?_
  refine g_seq ?_
  refine g_seq ?_
  refine g_run (by kernel_rfl) [(0, .d)] rfl ?_
  refine r_d rfl rfl rfl (s_assign rfl rfl) ?_
  refine r_end ?_
  obtain ⟨kk0, hkk0, hr⟩ := exK (fun k => lf_constraintref31_headVars_s1_L0 k r_3 []) hr
  refine g_len 7 rfl (asl rfl) fun hla0 => ?_
  simp only [List.length_map] at hla0
  refine g_blockJ (fun env σ => ∃ (l_8 : (List T)) (u_7 : Value), env = [(3, .own u_7 (l_8.map encT))] ∧ σ = [.row u_7 l_8.length 47 4] ∧ kk0 l_8 = some res) ?_ (fun HK0 => ?_)
  ·
   rintro _ _ ⟨l_8, u_7, rfl, rfl, hr⟩
   rw [hkk0] at hr
   refine g_seq ?_
   refine g_run (by kernel_rfl) [(0, .d), (1, .w), (2, .d)] rfl ?_
   refine r_d rfl rfl rfl (s_move rfl rfl) ?_
   obtain ⟨r_9, hr_9, hr⟩ := bindS hr
   refine r_w rfl rfl rfl (s_call _ rfl cl_constraintref03_VarsOf (.cons rfl (Wk.own _ _) .nil) (by exact (List.Perm.refl _)) (lg_constraintref03_VarsOf_s1 fuel _ _ hr_9)) ?_
   rintro _ _ ⟨_, ⟨u22_9, rfl, rfl⟩, rfl⟩
   refine r_st ((.row u22_9 r_9.length 3 1) :: _) rfl ?_
   refine r_d rfl rfl rfl (s_assign rfl rfl) ?_
   refine r_end ?_
   refine g_perm [_] _ (pf0 _) ?_
   obtain rfl := Option.some.inj hr
   refine g_ret Try.func26 _ (.cons (resTmp rfl (Wk.refl _)) .nil) ?_
   exact ⟨u22_9, rfl, rfl⟩
  ·
   refine g_sub [(4, .lst (r_3.map encA)), (3, .own u3_1 ([].map encT)), (5, .int .i64 ((0 : Nat) : Int))] (Sub.cons' rfl (Sub.cons' rfl (Sub.cons' rfl (Sub.nil _)))) ?_
   refine g_perm [_] _ (pf0 _) ?_
   refine g_loop (fun n env σ => ∃ (l_5 : (List T)) (i_6 : Nat) (u_4 : Value), (n = r_3.length - i_6) ∧ (env = [(4, .lst (r_3.map encA)), (3, .own u_4 (l_5.map encT)), (5, .int .i64 (i_6 : Int))]) ∧ (σ = [.row u_4 l_5.length 47 4]) ∧ (i_6 ≤ r_3.length) ∧ (lf_constraintref31_headVars_s1_L0 kk0 (r_3.drop i_6) l_5 = some res)) _ ⟨[], 0, u3_1, rfl, rfl, rfl, Nat.zero_le _, hr⟩ ?_
   rintro n _ _ ⟨l_5, i_6, u_4, rfl, rfl, rfl, hi0, hr⟩ IH0
   rcases listStep r_3 i_6 hi0 with ⟨ht0, hd0, he0⟩ | ⟨q_11, ht0, hd0, hq0, hlt0⟩
   ·
    rw [hd0, lf_constraintref31_headVars_s1_L0] at hr
    refine g_seq ?_
    refine g_seq ?_
    refine g_run (by kernel_rfl) [(0, .d), (1, .d), (2, .d), (3, .d)] rfl ?_
    refine r_d rfl rfl rfl (s_move rfl rfl) ?_
    refine r_d rfl rfl rfl (s_move rfl rfl) ?_
    refine r_d rfl rfl rfl (m_len (f := encA) r_3 rfl el_L_api_Atom rfl (asl rfl)) ?_
    refine r_d rfl rfl rfl (s_cmp rfl rfl rfl rfl) ?_
    refine r_end ?_
    refine g_known 11 false rfl ht0 ?_
    refine g_condF rfl ?_
    refine g_exit rfl ?_
    refine g_sub [(3, .own u_4 (l_5.map encT))] (Sub.cons' rfl (Sub.nil _)) ?_
    exact HK0 _ _ ⟨l_5, u_4, rfl, rfl, hr⟩
   ·
    rw [hd0, lf_constraintref31_headVars_s1_L0] at hr
    refine g_seq ?_
    refine g_seq ?_
    refine g_run (by kernel_rfl) [(0, .d), (1, .d), (2, .d), (3, .d)] rfl ?_
    refine r_d rfl rfl rfl (s_move rfl rfl) ?_
    refine r_d rfl rfl rfl (s_move rfl rfl) ?_
    refine r_d rfl rfl rfl (m_len (f := encA) r_3 rfl el_L_api_Atom rfl (asl rfl)) ?_
    refine r_d rfl rfl rfl (s_cmp rfl rfl rfl rfl) ?_
    refine r_end ?_
    refine g_known 11 true rfl ht0 ?_
    refine g_condT rfl ?_
    refine g_skip ?_
    refine g_seq ?_
    refine g_block ?_
    refine g_run (by kernel_rfl) [(0, .d), (1, .d), (2, .d), (3, .d), (4, .d), (5, .d), (6, .w), (7, .d)] rfl ?_
    refine r_d rfl rfl rfl (s_move rfl rfl) ?_
    refine r_d rfl rfl rfl (s_move rfl rfl) ?_
    refine r_d rfl rfl rfl (s_move rfl rfl) ?_
    refine r_d rfl rfl rfl (m_index (f := encA) r_3 rfl el_L_api_Atom rfl (asl rfl) rfl hq0 sz_encA rfl) ?_
    refine r_d rfl rfl rfl (s_fieldAddr rfl fl_api_Atom_1 rfl rfl rfl rfl) ?_
    refine r_d rfl rfl rfl (s_load rfl rfl (by exact ty_L_api_Term) rfl) ?_
    obtain ⟨l_12, hl_12, hr⟩ := bindS hr
    refine r_w rfl rfl rfl (m_appOwn (f := encT) l_5 q_11.ts rfl el_L_api_Term rfl rfl (asl rfl) (pf0 _) rfl sz_encT hl_12) ?_
    rintro _ _ ⟨u20_12, rfl, rfl⟩
    refine r_d rfl rfl rfl (s_assign rfl rfl) ?_
    refine r_end ?_
    refine g_inBlock ?_
    refine g_run (by kernel_rfl) [(0, .d), (1, .d), (2, .d)] rfl ?_
    refine r_d rfl rfl rfl (s_move rfl rfl) ?_
    refine r_d rfl rfl rfl (s_ar (r := ((i_6 + 1 : Nat) : Int)) rfl rfl rfl (by simp [iar]) (by omega)) ?_
    refine r_d rfl rfl rfl (s_assign rfl rfl) ?_
    refine r_end ?_
    refine g_sub [(4, .lst (r_3.map encA)), (3, .own u20_12 (l_12.map encT)), (5, .int .i64 ((i_6 + 1 : Nat) : Int))] (Sub.cons' rfl (Sub.cons' rfl (Sub.cons' rfl (Sub.nil _)))) ?_
    exact IH0 _ _ _ (by omega) ⟨l_12, (i_6 + 1), u20_12, rfl, rfl, rfl, (by omega), hr⟩

noncomputable def lf_constraintref31_has_L0 (k : Option (Bool)) (n_a1 : Int) : List Int → Option (Bool)
  | [] =>
  k
  | q_2 :: rest =>
  (bif (q_2 == n_a1) then
  some (true)
  else
  (lf_constraintref31_has_L0 k n_a1 rest))
noncomputable def lf_constraintref31_has (l_a0 : (List Int)) (n_a1 : Int) : Option (Bool) :=
  (lf_constraintref31_has_L0 (some (false)) n_a1 l_a0)

set_option maxHeartbeats 1000000 in
theorem lg_constraintref31_has (l_a0 : (List Int)) (n_a1 : Int) (res : Bool) (hr : lf_constraintref31_has l_a0 n_a1 = some res) : Gives Try.prog 28 [.lst (l_a0.map (D.int .i64)), .int .i64 n_a1] (.bool res) := by
  unfold lf_constraintref31_has at hr
  refine spec_env [(0, .lst (l_a0.map (D.int .i64))), (1, .int .i64 n_a1)] Try.func28 rfl rfl fun K hK => ?_
  refine g_seq ?_
  refine g_run (by kernel_rfl) [(0, .d)] rfl ?_
  refine r_d rfl rfl rfl (s_assign rfl rfl) ?_
  refine r_end ?_
  refine g_seq ?_
  refine g_seq ?_
  refine g_run (by kernel_rfl) [(0, .d)] rfl ?_
  refine r_d rfl rfl rfl (s_assign rfl rfl) ?_
  refine r_end ?_
  obtain ⟨kk0, hkk0, hr⟩ := exK (fun k => lf_constraintref31_has_L0 k n_a1 l_a0) hr
  refine g_len 0 rfl (asl rfl) fun hla0 => ?_
  simp only [List.length_map] at hla0
  refine g_blockJ (fun env σ => env = [] ∧ σ = [] ∧ kk0 = some res) ?_ (fun HK0 => ?_)
  ·
   rintro _ _ ⟨rfl, rfl, hr⟩
   rw [hkk0] at hr
   refine g_seq ?_
   refine g_run (by kernel_rfl) [(0, .d)] rfl ?_
   refine r_d rfl rfl rfl (s_assign rfl rfl) ?_
   refine r_end ?_
   obtain rfl := Option.some.inj hr
   refine g_ret Try.func28 _ (.cons (resTmp rfl (Wk.refl _)) .nil) ?_
   rfl
  ·
   refine g_sub [(0, .lst (l_a0.map (D.int .i64))), (1, .int .i64 n_a1), (5, .int .i64 ((0 : Nat) : Int))] (Sub.cons' rfl (Sub.cons' rfl (Sub.cons' rfl (Sub.nil _)))) ?_
   refine g_loop (fun n env σ => ∃ (i_1 : Nat), (n = l_a0.length - i_1) ∧ (env = [(0, .lst (l_a0.map (D.int .i64))), (1, .int .i64 n_a1), (5, .int .i64 (i_1 : Int))]) ∧ (σ = []) ∧ (i_1 ≤ l_a0.length) ∧ (lf_constraintref31_has_L0 kk0 n_a1 (l_a0.drop i_1) = some res)) _ ⟨0, rfl, rfl, rfl, Nat.zero_le _, hr⟩ ?_
   rintro n _ _ ⟨i_1, rfl, rfl, rfl, hi0, hr⟩ IH0
   rcases listStep l_a0 i_1 hi0 with ⟨ht0, hd0, he0⟩ | ⟨q_2, ht0, hd0, hq0, hlt0⟩
   ·
    rw [hd0, lf_constraintref31_has_L0] at hr
    refine g_seq ?_
    refine g_seq ?_
    refine g_run (by kernel_rfl) [(0, .d), (1, .d), (2, .d), (3, .d)] rfl ?_
    refine r_d rfl rfl rfl (s_move rfl rfl) ?_
    refine r_d rfl rfl rfl (s_move rfl rfl) ?_
    refine r_d rfl rfl rfl (m_len (f := (D.int .i64)) l_a0 rfl el_L_int rfl (asl rfl)) ?_
    refine r_d rfl rfl rfl (s_cmp rfl rfl rfl rfl) ?_
    refine r_end ?_
    refine g_known 9 false rfl ht0 ?_
    refine g_condF rfl ?_
    refine g_exit rfl ?_
    refine g_sub [] (Sub.nil _) ?_
    exact HK0 _ _ ⟨rfl, rfl, hr⟩
   ·
    rw [hd0, lf_constraintref31_has_L0] at hr
    refine g_seq ?_
    refine g_seq ?_
    refine g_run (by kernel_rfl) [(0, .d), (1, .d), (2, .d), (3, .d)] rfl ?_
    refine r_d rfl rfl rfl (s_move rfl rfl) ?_
    refine r_d rfl rfl rfl (s_move rfl rfl) ?_
    refine r_d rfl rfl rfl (m_len (f := (D.int .i64)) l_a0 rfl el_L_int rfl (asl rfl)) ?_
    refine r_d rfl rfl rfl (s_cmp rfl rfl rfl rfl) ?_
    refine r_end ?_
    refine g_known 9 true rfl ht0 ?_
    refine g_condT rfl ?_
    refine g_skip ?_
    refine g_seq ?_
    refine g_block ?_
    refine g_seq ?_
    refine g_run (by kernel_rfl) [(0, .d), (1, .d), (2, .d), (3, .d), (4, .d), (5, .d)] rfl ?_
    refine r_d rfl rfl rfl (s_move rfl rfl) ?_
    refine r_d rfl rfl rfl (s_move rfl rfl) ?_
    refine r_d rfl rfl rfl (m_index (f := (D.int .i64)) l_a0 rfl el_L_int rfl (asl rfl) rfl hq0 (fun _ => rfl) rfl) ?_
    refine r_d rfl rfl rfl (s_load rfl rfl (by exact ty_int) rfl) ?_
    refine r_d rfl rfl rfl (s_move rfl rfl) ?_
    refine r_d rfl rfl rfl (s_cmp rfl rfl rfl rfl) ?_
    refine r_end ?_
    refine g_sB 17 rfl hr (fun h17_2 hr => ?_) (fun h17_2 hr => ?_)
    ·
     refine g_condT rfl ?_
     refine g_seq ?_
     refine g_run (by kernel_rfl) [(0, .d)] rfl ?_
     refine r_d rfl rfl rfl (s_assign rfl rfl) ?_
     refine r_end ?_
     obtain rfl := Option.some.inj hr
     refine g_ret Try.func28 _ (.cons (resTmp rfl (Wk.refl _)) .nil) ?_
     rfl
    ·
     refine g_condF rfl ?_
     refine g_skip ?_
     refine g_inBlock ?_
     refine g_run (by kernel_rfl) [(0, .d), (1, .d), (2, .d)] rfl ?_
     refine r_d rfl rfl rfl (s_move rfl rfl) ?_
     refine r_d rfl rfl rfl (s_ar (r := ((i_1 + 1 : Nat) : Int)) rfl rfl rfl (by simp [iar]) (by omega)) ?_
     refine r_d rfl rfl rfl (s_assign rfl rfl) ?_
     refine r_end ?_
     refine g_sub [(0, .lst (l_a0.map (D.int .i64))), (1, .int .i64 n_a1), (5, .int .i64 ((i_1 + 1 : Nat) : Int))] (Sub.cons' rfl (Sub.cons' rfl (Sub.cons' rfl (Sub.nil _)))) ?_
     exact IH0 _ _ _ (by omega) ⟨(i_1 + 1), rfl, rfl, rfl, (by omega), hr⟩

noncomputable def lf_constraintref31_Inert_L0 (k : Option (Bool)) : List Gl → (List Int) → Option (Bool)
  | [], taken_4 =>
  k
  | q_6 :: rest, taken_4 =>
  ((x_rightG q_6).bind fun r_8 =>
  (bif (!r_8) then
  some (false)
  else
  (bif (q_6.op != (1 : Int)) then
  (bif (q_6.op != (4 : Int)) then
  some (false)
  else
  (bif (q_6.op == (1 : Int)) then
  (lf_constraintref31_Inert_L0 k rest taken_4)
  else
  ((getI q_6.ts 0).bind fun q_13 =>
  (bif (q_13.k != (1 : Int)) then
  some (false)
  else
  ((lf_constraintref31_has taken_4 q_13.i).bind fun r_15 =>
  (bif r_15 then
  some (false)
  else
  ((appO 8 taken_4 [q_13.i]).bind fun l_17 =>
  (lf_constraintref31_Inert_L0 k rest l_17))))))))
  else
  (bif (q_6.op == (1 : Int)) then
  (lf_constraintref31_Inert_L0 k rest taken_4)
  else
  ((getI q_6.ts 0).bind fun q_20 =>
  (bif (q_20.k != (1 : Int)) then
  some (false)
  else
  ((lf_constraintref31_has taken_4 q_20.i).bind fun r_22 =>
  (bif r_22 then
  some (false)
  else
  ((appO 8 taken_4 [q_20.i]).bind fun l_24 =>
  (lf_constraintref31_Inert_L0 k rest l_24))))))))))
noncomputable def lf_constraintref31_Inert (fuel : Nat) (r_a0 : S_api_Rule) : Option (Bool) :=
  ((lf_constraintref31_headVars_s1 fuel r_a0).bind fun r_1 =>
  (lf_constraintref31_Inert_L0 (some (true)) r_a0.f4_Body r_1))

set_option maxHeartbeats 1000000 in
theorem lg_constraintref31_Inert (fuel : Nat) (r_a0 : S_api_Rule) (res : Bool) (hr : lf_constraintref31_Inert fuel r_a0 = some res) : Gives Try.prog 9 [enc_S_api_Rule r_a0] (.bool res) := by
  unfold lf_constraintref31_Inert at hr
  refine spec_env [(0, enc_S_api_Rule r_a0)] Try.func9 rfl rfl fun K hK => ?_
  refine g_seq ?_
  refine g_run (by kernel_rfl) [(0, .d), (1, .d)] rfl ?_
  refine r_d rfl rfl rfl (s_box rfl rfl rfl) ?_
  refine r_d rfl rfl rfl (s_assign rfl rfl) ?_
  refine r_end ?_
  refine g_seq ?_
  refine g_run (by kernel_rfl) [(0, .d), (1, .w), (2, .d)] rfl ?_
  refine r_d rfl rfl rfl (s_load rfl rfl (by exact ty_api_Rule) (sz_S_api_Rule _)) ?_
  obtain ⟨r_1, hr_1, hr⟩ := bindS hr
  refine r_w rfl rfl rfl (s_call _ rfl cl_constraintref31_headVars (.cons rfl (Wk.refl _) .nil) (by exact (List.Perm.refl _)) (lg_constraintref31_headVars_s1 fuel _ _ hr_1)) ?_
  rintro _ _ ⟨_, ⟨u7_1, rfl, rfl⟩, rfl⟩
  refine r_st ((.row u7_1 r_1.length 3 1) :: _) rfl ?_
  refine r_d rfl rfl rfl (s_assign rfl rfl) ?_
  refine r_end ?_
  refine g_seq ?_
  refine g_seq ?_
  refine g_run (by kernel_rfl) [(0, .d)] rfl ?_
  refine r_d rfl rfl rfl (s_assign rfl rfl) ?_
  refine r_end ?_
  obtain ⟨kk0, hkk0, hr⟩ := exK (fun k => lf_constraintref31_Inert_L0 k r_a0.f4_Body r_1) hr
  refine g_lenS 0 [4] (l := r_a0.f4_Body.map encG) rfl rfl (asl rfl) fun hla0 => ?_
  simp only [List.length_map] at hla0
  refine g_blockJ (fun env σ => env = [] ∧ σ = [] ∧ kk0 = some res) ?_ (fun HK0 => ?_)
  ·
   rintro _ _ ⟨rfl, rfl, hr⟩
   rw [hkk0] at hr
   refine g_seq ?_
   refine g_run (by kernel_rfl) [(0, .d)] rfl ?_
   refine r_d rfl rfl rfl (s_assign rfl rfl) ?_
   refine r_end ?_
   obtain rfl := Option.some.inj hr
   refine g_ret Try.func9 _ (.cons (resTmp rfl (Wk.refl _)) .nil) ?_
   rfl
  ·
   refine g_sub [(1, .ptr (enc_S_api_Rule r_a0)), (3, .own u7_1 (r_1.map (D.int .i64))), (4, .int .i64 ((0 : Nat) : Int))] (Sub.cons' rfl (Sub.cons' rfl (Sub.cons' rfl (Sub.nil _)))) ?_
   refine g_loop (fun n env σ => ∃ (taken_4 : (List Int)) (i_5 : Nat) (u_3 : Value), (n = r_a0.f4_Body.length - i_5) ∧ (env = [(1, .ptr (enc_S_api_Rule r_a0)), (3, .own u_3 (taken_4.map (D.int .i64))), (4, .int .i64 (i_5 : Int))]) ∧ (σ = [.row u_3 taken_4.length 3 1]) ∧ (i_5 ≤ r_a0.f4_Body.length) ∧ (lf_constraintref31_Inert_L0 kk0 (r_a0.f4_Body.drop i_5) taken_4 = some res)) _ ⟨r_1, 0, u7_1, rfl, rfl, rfl, Nat.zero_le _, hr⟩ ?_
   rintro n _ _ ⟨taken_4, i_5, u_3, rfl, rfl, rfl, hi0, hr⟩ IH0
   rcases listStep r_a0.f4_Body i_5 hi0 with ⟨ht0, hd0, he0⟩ | ⟨q_6, ht0, hd0, hq0, hlt0⟩
   ·
    rw [hd0, lf_constraintref31_Inert_L0] at hr
    refine g_seq ?_
    refine g_seq ?_
    refine g_run (by kernel_rfl) [(0, .d), (1, .d), (2, .d), (3, .d), (4, .d)] rfl ?_
    refine r_d rfl rfl rfl (s_move rfl rfl) ?_
    refine r_d rfl rfl rfl (s_fieldAddr rfl fl_api_Rule_4 rfl rfl rfl rfl) ?_
    refine r_d rfl rfl rfl (s_load rfl rfl (by exact ty_L_api_Goal) rfl) ?_
    refine r_d rfl rfl rfl (m_len (f := encG) r_a0.f4_Body rfl el_L_api_Goal rfl (asl rfl)) ?_
    refine r_d rfl rfl rfl (s_cmp rfl rfl rfl rfl) ?_
    refine r_end ?_
    refine g_known 12 false rfl ht0 ?_
    refine g_condF rfl ?_
    refine g_exit rfl ?_
    refine g_sub [] (Sub.nil _) ?_
    refine g_perm [] _ (pf0 _) ?_
    exact HK0 _ _ ⟨rfl, rfl, hr⟩
   ·
    rw [hd0, lf_constraintref31_Inert_L0] at hr
    refine g_seq ?_
    refine g_seq ?_
    refine g_run (by kernel_rfl) [(0, .d), (1, .d), (2, .d), (3, .d), (4, .d)] rfl ?_
    refine r_d rfl rfl rfl (s_move rfl rfl) ?_
    refine r_d rfl rfl rfl (s_fieldAddr rfl fl_api_Rule_4 rfl rfl rfl rfl) ?_
    refine r_d rfl rfl rfl (s_load rfl rfl (by exact ty_L_api_Goal) rfl) ?_
    refine r_d rfl rfl rfl (m_len (f := encG) r_a0.f4_Body rfl el_L_api_Goal rfl (asl rfl)) ?_
    refine r_d rfl rfl rfl (s_cmp rfl rfl rfl rfl) ?_
    refine r_end ?_
    refine g_known 12 true rfl ht0 ?_
    refine g_condT rfl ?_
    refine g_skip ?_
    refine g_seq ?_
    refine g_block ?_
    refine g_seq ?_
    refine g_run (by kernel_rfl) [(0, .d), (1, .d), (2, .d), (3, .d), (4, .d), (5, .w), (6, .w)] rfl ?_
    refine r_d rfl rfl rfl (s_fieldAddr rfl fl_api_Rule_4 rfl rfl rfl rfl) ?_
    refine r_d rfl rfl rfl (s_load rfl rfl (by exact ty_L_api_Goal) rfl) ?_
    refine r_d rfl rfl rfl (s_move rfl rfl) ?_
    refine r_d rfl rfl rfl (m_index (f := encG) r_a0.f4_Body rfl el_L_api_Goal rfl (asl rfl) rfl hq0 sz_encG rfl) ?_
    refine r_d rfl rfl rfl (s_load rfl rfl (by exact ty_api_Goal) (sz_encG _)) ?_
    refine r_w rfl rfl rfl (s_alloc rfl zv_api_Goal) ?_
    rintro _ _ ⟨b5_6, rfl, rfl⟩
    refine r_w01 rfl rfl rfl (t_store0 _ rfl rfl rfl (Wk.refl _) (pf0 _) (by exact ty_api_Goal) (sz_encG _) rfl rfl) ?_
    refine r_end ?_
    refine g_freeze 5 b5_6 rfl (pf0 _) ?_
    refine g_seq ?_
    refine g_seq ?_
    refine g_run (by kernel_rfl) [(0, .d), (1, .d), (2, .d), (3, .d), (4, .d), (5, .d), (6, .d), (7, .d), (8, .d), (9, .d), (10, .d), (11, .d), (12, .d)] rfl ?_
    refine r_d rfl rfl rfl (s_load rfl rfl (by exact ty_api_Goal) (sz_encG _)) ?_
    obtain ⟨r_8, hr_8, hr⟩ := bindS hr
    refine r_d rfl rfl rfl (s_callD rfl cl_constraintref03_RightGoal (.cons rfl (Wk.refl _) .nil) (lx_constraintref03_RightGoal _ _ hr_8)) ?_
    refine r_d rfl rfl rfl (s_not rfl rfl) ?_
    refine r_d rfl rfl rfl (s_move rfl rfl) ?_
    refine r_sB 23 rfl hr (fun h23_8 hr => ?_) (fun h23_8 hr => ?_)
    ·
     refine r_skip rfl rfl rfl ?_
     refine r_skip rfl rfl rfl ?_
     refine r_skip rfl rfl rfl ?_
     refine r_skip rfl rfl rfl ?_
     refine r_skip rfl rfl rfl ?_
     refine r_skip rfl rfl rfl ?_
     refine r_skip rfl rfl rfl ?_
     refine r_skip rfl rfl rfl ?_
     refine r_d rfl rfl rfl (s_pickT rfl rfl rfl) ?_
     refine r_end ?_
     refine g_condT rfl ?_
     refine g_seq ?_
     refine g_run (by kernel_rfl) [(0, .d)] rfl ?_
     refine r_d rfl rfl rfl (s_assign rfl rfl) ?_
     refine r_end ?_
     obtain rfl := Option.some.inj hr
     refine g_ret Try.func9 _ (.cons (resTmp rfl (Wk.refl _)) .nil) ?_
     rfl
    ·
     refine r_d rfl rfl rfl (s_fieldAddr rfl fl_api_Goal_0 rfl rfl rfl rfl) ?_
     refine r_d rfl rfl rfl (s_load rfl rfl (by exact ty_int) rfl) ?_
     refine r_d rfl rfl rfl (s_cmp rfl rfl rfl rfl) ?_
     refine r_d rfl rfl rfl (s_move rfl rfl) ?_
     refine r_sB 27 rfl hr (fun h27_9 hr => ?_) (fun h27_9 hr => ?_)
     ·
      refine r_d rfl rfl rfl (s_fieldAddr rfl fl_api_Goal_0 rfl rfl rfl rfl) ?_
      refine r_d rfl rfl rfl (s_load rfl rfl (by exact ty_int) rfl) ?_
      refine r_d rfl rfl rfl (s_cmp rfl rfl rfl rfl) ?_
      refine r_d rfl rfl rfl (s_pickT rfl rfl rfl) ?_
      refine r_d rfl rfl rfl (s_pickF rfl rfl rfl) ?_
      refine r_end ?_
      refine g_sB 32 rfl hr (fun h32_10 hr => ?_) (fun h32_10 hr => ?_)
      ·
       refine g_condT rfl ?_
       refine g_seq ?_
       refine g_run (by kernel_rfl) [(0, .d)] rfl ?_
       refine r_d rfl rfl rfl (s_assign rfl rfl) ?_
       refine r_end ?_
       obtain rfl := Option.some.inj hr
       refine g_ret Try.func9 _ (.cons (resTmp rfl (Wk.refl _)) .nil) ?_
       rfl
      ·
       refine g_condF rfl ?_
       refine g_skip ?_
       refine g_seq ?_
       refine g_seq ?_
       refine g_run (by kernel_rfl) [(0, .d), (1, .d), (2, .d)] rfl ?_
       refine r_d rfl rfl rfl (s_fieldAddr rfl fl_api_Goal_0 rfl rfl rfl rfl) ?_
       refine r_d rfl rfl rfl (s_load rfl rfl (by exact ty_int) rfl) ?_
       refine r_d rfl rfl rfl (s_cmp rfl rfl rfl rfl) ?_
       refine r_end ?_
       refine g_sB 35 rfl hr (fun h35_11 hr => ?_) (fun h35_11 hr => ?_)
       ·
        refine g_condT rfl ?_
        refine g_exit rfl ?_
        refine g_run (by kernel_rfl) [(0, .d), (1, .d), (2, .d)] rfl ?_
        refine r_d rfl rfl rfl (s_move rfl rfl) ?_
        refine r_d rfl rfl rfl (s_ar (r := ((i_5 + 1 : Nat) : Int)) rfl rfl rfl (by simp [iar]) (by omega)) ?_
        refine r_d rfl rfl rfl (s_assign rfl rfl) ?_
        refine r_end ?_
        refine g_sub [(1, .ptr (enc_S_api_Rule r_a0)), (3, .own u_3 (taken_4.map (D.int .i64))), (4, .int .i64 ((i_5 + 1 : Nat) : Int))] (Sub.cons' rfl (Sub.cons' rfl (Sub.cons' rfl (Sub.nil _)))) ?_
        exact IH0 _ _ _ (by omega) ⟨taken_4, (i_5 + 1), u_3, rfl, rfl, rfl, (by omega), hr⟩
       ·
        refine g_condF rfl ?_
        refine g_skip ?_
        refine g_seq ?_
        refine g_seq ?_
        refine g_run (by kernel_rfl) [(0, .d), (1, .d), (2, .d), (3, .d), (4, .d), (5, .d), (6, .d), (7, .d), (8, .d), (9, .d), (10, .d), (11, .d), (12, .d), (13, .d), (14, .d)] rfl ?_
        refine r_d rfl rfl rfl (s_fieldAddr rfl fl_api_Goal_2 rfl rfl rfl rfl) ?_
        refine r_d rfl rfl rfl (s_load rfl rfl (by exact ty_L_api_Term) rfl) ?_
        obtain ⟨q_13, hq_13, hr⟩ := bindS hr
        refine r_d rfl rfl rfl (m_index (f := encT) q_6.ts rfl el_L_api_Term rfl (asl rfl) rfl hq_13 sz_encT rfl) ?_
        refine r_d rfl rfl rfl (s_fieldAddr rfl fl_api_Term_0 rfl (fsT_get0 _) (fsT_off0 _) rfl) ?_
        refine r_d rfl rfl rfl (s_load rfl rfl (by exact ty_int) rfl) ?_
        refine r_d rfl rfl rfl (s_cmp rfl rfl rfl rfl) ?_
        refine r_d rfl rfl rfl (s_move rfl rfl) ?_
        refine r_sB 42 rfl hr (fun h42_13 hr => ?_) (fun h42_13 hr => ?_)
        ·
         refine r_skip rfl rfl rfl ?_
         refine r_skip rfl rfl rfl ?_
         refine r_skip rfl rfl rfl ?_
         refine r_skip rfl rfl rfl ?_
         refine r_skip rfl rfl rfl ?_
         refine r_skip rfl rfl rfl ?_
         refine r_skip rfl rfl rfl ?_
         refine r_d rfl rfl rfl (s_pickT rfl rfl rfl) ?_
         refine r_end ?_
         refine g_condT rfl ?_
         refine g_seq ?_
         refine g_run (by kernel_rfl) [(0, .d)] rfl ?_
         refine r_d rfl rfl rfl (s_assign rfl rfl) ?_
         refine r_end ?_
         obtain rfl := Option.some.inj hr
         refine g_ret Try.func9 _ (.cons (resTmp rfl (Wk.refl _)) .nil) ?_
         rfl
        ·
         refine r_d rfl rfl rfl (s_move rfl rfl) ?_
         refine r_d rfl rfl rfl (s_fieldAddr rfl fl_api_Goal_2 rfl rfl rfl rfl) ?_
         refine r_d rfl rfl rfl (s_load rfl rfl (by exact ty_L_api_Term) rfl) ?_
         refine r_d rfl rfl rfl (m_index (f := encT) q_6.ts rfl el_L_api_Term rfl (asl rfl) rfl hq_13 sz_encT rfl) ?_
         refine r_d rfl rfl rfl (s_fieldAddr rfl fl_api_Term_1 rfl (fsT_get1 _) (fsT_off1 _) rfl) ?_
         refine r_d rfl rfl rfl (s_load rfl rfl (by exact ty_int) rfl) ?_
         obtain ⟨r_15, hr_15, hr⟩ := bindS hr
         refine r_d rfl rfl rfl (s_callD rfl cl_constraintref31_has (.cons rfl (Wk.own _ _) (.cons rfl (Wk.refl _) .nil)) (lg_constraintref31_has _ _ _ hr_15)) ?_
         refine r_d rfl rfl rfl (s_pickF rfl rfl rfl) ?_
         refine r_end ?_
         refine g_sB 50 rfl hr (fun h50_15 hr => ?_) (fun h50_15 hr => ?_)
         ·
          refine g_condT rfl ?_
          refine g_seq ?_
          refine g_run (by kernel_rfl) [(0, .d)] rfl ?_
          refine r_d rfl rfl rfl (s_assign rfl rfl) ?_
          refine r_end ?_
          obtain rfl := Option.some.inj hr
          refine g_ret Try.func9 _ (.cons (resTmp rfl (Wk.refl _)) .nil) ?_
          rfl
         ·
          refine g_condF rfl ?_
          refine g_skip ?_
          refine g_run (by kernel_rfl) [(0, .d), (1, .d), (2, .d), (3, .d), (4, .d), (5, .d), (6, .d), (7, .w), (8, .d)] rfl ?_
          refine r_d rfl rfl rfl (s_move rfl rfl) ?_
          refine r_d rfl rfl rfl (s_fieldAddr rfl fl_api_Goal_2 rfl rfl rfl rfl) ?_
          refine r_d rfl rfl rfl (s_load rfl rfl (by exact ty_L_api_Term) rfl) ?_
          refine r_d rfl rfl rfl (m_index (f := encT) q_6.ts rfl el_L_api_Term rfl (asl rfl) rfl hq_13 sz_encT rfl) ?_
          refine r_d rfl rfl rfl (s_fieldAddr rfl fl_api_Term_1 rfl (fsT_get1 _) (fsT_off1 _) rfl) ?_
          refine r_d rfl rfl rfl (s_load rfl rfl (by exact ty_int) rfl) ?_
          refine r_d rfl rfl rfl (m_lit (f := (D.int .i64)) [.tmp 56] [q_13.i] rfl el_L_int rfl rfl (by decide) (by decide) (.cons rfl (Wk.refl _) .nil) (fun _ => rfl) (fun _ => rfl)) ?_
          obtain ⟨l_17, hl_17, hr⟩ := bindS hr
          refine r_w rfl rfl rfl (m_appOwn (f := (D.int .i64)) taken_4 [q_13.i] rfl el_L_int rfl rfl (asl rfl) (pf0 _) rfl (fun _ => rfl) hl_17) ?_
          rintro _ _ ⟨u58_17, rfl, rfl⟩
          refine r_d rfl rfl rfl (s_assign rfl rfl) ?_
          refine r_end ?_
          refine g_inBlock ?_
          refine g_run (by kernel_rfl) [(0, .d), (1, .d), (2, .d)] rfl ?_
          refine r_d rfl rfl rfl (s_move rfl rfl) ?_
          refine r_d rfl rfl rfl (s_ar (r := ((i_5 + 1 : Nat) : Int)) rfl rfl rfl (by simp [iar]) (by omega)) ?_
          refine r_d rfl rfl rfl (s_assign rfl rfl) ?_
          refine r_end ?_
          refine g_sub [(1, .ptr (enc_S_api_Rule r_a0)), (3, .own u58_17 (l_17.map (D.int .i64))), (4, .int .i64 ((i_5 + 1 : Nat) : Int))] (Sub.cons' rfl (Sub.cons' rfl (Sub.cons' rfl (Sub.nil _)))) ?_
          exact IH0 _ _ _ (by omega) ⟨l_17, (i_5 + 1), u58_17, rfl, rfl, rfl, (by omega), hr⟩
     ·
      refine r_skip rfl rfl rfl ?_
      refine r_skip rfl rfl rfl ?_
      refine r_skip rfl rfl rfl ?_
      refine r_d rfl rfl rfl (s_pickF rfl rfl rfl) ?_
      refine r_d rfl rfl rfl (s_pickF rfl rfl rfl) ?_
      refine r_end ?_
      refine g_condF rfl ?_
      refine g_skip ?_
      refine g_seq ?_
      refine g_seq ?_
      refine g_run (by kernel_rfl) [(0, .d), (1, .d), (2, .d)] rfl ?_
      refine r_d rfl rfl rfl (s_fieldAddr rfl fl_api_Goal_0 rfl rfl rfl rfl) ?_
      refine r_d rfl rfl rfl (s_load rfl rfl (by exact ty_int) rfl) ?_
      refine r_d rfl rfl rfl (s_cmp rfl rfl rfl rfl) ?_
      refine r_end ?_
      refine g_sB 35 rfl hr (fun h35_18 hr => ?_) (fun h35_18 hr => ?_)
      ·
       refine g_condT rfl ?_
       refine g_exit rfl ?_
       refine g_run (by kernel_rfl) [(0, .d), (1, .d), (2, .d)] rfl ?_
       refine r_d rfl rfl rfl (s_move rfl rfl) ?_
       refine r_d rfl rfl rfl (s_ar (r := ((i_5 + 1 : Nat) : Int)) rfl rfl rfl (by simp [iar]) (by omega)) ?_
       refine r_d rfl rfl rfl (s_assign rfl rfl) ?_
       refine r_end ?_
       refine g_sub [(1, .ptr (enc_S_api_Rule r_a0)), (3, .own u_3 (taken_4.map (D.int .i64))), (4, .int .i64 ((i_5 + 1 : Nat) : Int))] (Sub.cons' rfl (Sub.cons' rfl (Sub.cons' rfl (Sub.nil _)))) ?_
       exact IH0 _ _ _ (by omega) ⟨taken_4, (i_5 + 1), u_3, rfl, rfl, rfl, (by omega), hr⟩
      ·
       refine g_condF rfl ?_
       refine g_skip ?_
       refine g_seq ?_
       refine g_seq ?_
       refine g_run (by kernel_rfl) [(0, .d), (1, .d), (2, .d), (3, .d), (4, .d), (5, .d), (6, .d), (7, .d), (8, .d), (9, .d), (10, .d), (11, .d), (12, .d), (13, .d), (14, .d)] rfl ?_
       refine r_d rfl rfl rfl (s_fieldAddr rfl fl_api_Goal_2 rfl rfl rfl rfl) ?_
       refine r_d rfl rfl rfl (s_load rfl rfl (by exact ty_L_api_Term) rfl) ?_
       obtain ⟨q_20, hq_20, hr⟩ := bindS hr
       refine r_d rfl rfl rfl (m_index (f := encT) q_6.ts rfl el_L_api_Term rfl (asl rfl) rfl hq_20 sz_encT rfl) ?_
       refine r_d rfl rfl rfl (s_fieldAddr rfl fl_api_Term_0 rfl (fsT_get0 _) (fsT_off0 _) rfl) ?_
       refine r_d rfl rfl rfl (s_load rfl rfl (by exact ty_int) rfl) ?_
       refine r_d rfl rfl rfl (s_cmp rfl rfl rfl rfl) ?_
       refine r_d rfl rfl rfl (s_move rfl rfl) ?_
       refine r_sB 42 rfl hr (fun h42_20 hr => ?_) (fun h42_20 hr => ?_)
       ·
        refine r_skip rfl rfl rfl ?_
        refine r_skip rfl rfl rfl ?_
        refine r_skip rfl rfl rfl ?_
        refine r_skip rfl rfl rfl ?_
        refine r_skip rfl rfl rfl ?_
        refine r_skip rfl rfl rfl ?_
        refine r_skip rfl rfl rfl ?_
        refine r_d rfl rfl rfl (s_pickT rfl rfl rfl) ?_
        refine r_end ?_
        refine g_condT rfl ?_
        refine g_seq ?_
        refine g_run (by kernel_rfl) [(0, .d)] rfl ?_
        refine r_d rfl rfl rfl (s_assign rfl rfl) ?_
        refine r_end ?_
        obtain rfl := Option.some.inj hr
        refine g_ret Try.func9 _ (.cons (resTmp rfl (Wk.refl _)) .nil) ?_
        rfl
       ·
        refine r_d rfl rfl rfl (s_move rfl rfl) ?_
        refine r_d rfl rfl rfl (s_fieldAddr rfl fl_api_Goal_2 rfl rfl rfl rfl) ?_
        refine r_d rfl rfl rfl (s_load rfl rfl (by exact ty_L_api_Term) rfl) ?_
        refine r_d rfl rfl rfl (m_index (f := encT) q_6.ts rfl el_L_api_Term rfl (asl rfl) rfl hq_20 sz_encT rfl) ?_
        refine r_d rfl rfl rfl (s_fieldAddr rfl fl_api_Term_1 rfl (fsT_get1 _) (fsT_off1 _) rfl) ?_
        refine r_d rfl rfl rfl (s_load rfl rfl (by exact ty_int) rfl) ?_
        obtain ⟨r_22, hr_22, hr⟩ := bindS hr
        refine r_d rfl rfl rfl (s_callD rfl cl_constraintref31_has (.cons rfl (Wk.own _ _) (.cons rfl (Wk.refl _) .nil)) (lg_constraintref31_has _ _ _ hr_22)) ?_
        refine r_d rfl rfl rfl (s_pickF rfl rfl rfl) ?_
        refine r_end ?_
        refine g_sB 50 rfl hr (fun h50_22 hr => ?_) (fun h50_22 hr => ?_)
        ·
         refine g_condT rfl ?_
         refine g_seq ?_
         refine g_run (by kernel_rfl) [(0, .d)] rfl ?_
         refine r_d rfl rfl rfl (s_assign rfl rfl) ?_
         refine r_end ?_
         obtain rfl := Option.some.inj hr
         refine g_ret Try.func9 _ (.cons (resTmp rfl (Wk.refl _)) .nil) ?_
         rfl
        ·
         refine g_condF rfl ?_
         refine g_skip ?_
         refine g_run (by kernel_rfl) [(0, .d), (1, .d), (2, .d), (3, .d), (4, .d), (5, .d), (6, .d), (7, .w), (8, .d)] rfl ?_
         refine r_d rfl rfl rfl (s_move rfl rfl) ?_
         refine r_d rfl rfl rfl (s_fieldAddr rfl fl_api_Goal_2 rfl rfl rfl rfl) ?_
         refine r_d rfl rfl rfl (s_load rfl rfl (by exact ty_L_api_Term) rfl) ?_
         refine r_d rfl rfl rfl (m_index (f := encT) q_6.ts rfl el_L_api_Term rfl (asl rfl) rfl hq_20 sz_encT rfl) ?_
         refine r_d rfl rfl rfl (s_fieldAddr rfl fl_api_Term_1 rfl (fsT_get1 _) (fsT_off1 _) rfl) ?_
         refine r_d rfl rfl rfl (s_load rfl rfl (by exact ty_int) rfl) ?_
         refine r_d rfl rfl rfl (m_lit (f := (D.int .i64)) [.tmp 56] [q_20.i] rfl el_L_int rfl rfl (by decide) (by decide) (.cons rfl (Wk.refl _) .nil) (fun _ => rfl) (fun _ => rfl)) ?_
         obtain ⟨l_24, hl_24, hr⟩ := bindS hr
         refine r_w rfl rfl rfl (m_appOwn (f := (D.int .i64)) taken_4 [q_20.i] rfl el_L_int rfl rfl (asl rfl) (pf0 _) rfl (fun _ => rfl) hl_24) ?_
         rintro _ _ ⟨u58_24, rfl, rfl⟩
         refine r_d rfl rfl rfl (s_assign rfl rfl) ?_
         refine r_end ?_
         refine g_inBlock ?_
         refine g_run (by kernel_rfl) [(0, .d), (1, .d), (2, .d)] rfl ?_
         refine r_d rfl rfl rfl (s_move rfl rfl) ?_
         refine r_d rfl rfl rfl (s_ar (r := ((i_5 + 1 : Nat) : Int)) rfl rfl rfl (by simp [iar]) (by omega)) ?_
         refine r_d rfl rfl rfl (s_assign rfl rfl) ?_
         refine r_end ?_
         refine g_sub [(1, .ptr (enc_S_api_Rule r_a0)), (3, .own u58_24 (l_24.map (D.int .i64))), (4, .int .i64 ((i_5 + 1 : Nat) : Int))] (Sub.cons' rfl (Sub.cons' rfl (Sub.cons' rfl (Sub.nil _)))) ?_
         exact IH0 _ _ _ (by omega) ⟨l_24, (i_5 + 1), u58_24, rfl, rfl, rfl, (by omega), hr⟩

noncomputable def lf_constraintref31_certain_L0 (k : Option (Bool)) : List T → (List Int) → Option (Bool)
  | [], seen_10 =>
  k
  | q_12 :: rest, seen_10 =>
  (bif (q_12.k != (1 : Int)) then
  some (false)
  else
  ((lf_constraintref31_has seen_10 q_12.i).bind fun r_15 =>
  (bif r_15 then
  some (false)
  else
  ((appO 8 seen_10 [q_12.i]).bind fun l_17 =>
  (lf_constraintref31_certain_L0 k rest l_17)))))
noncomputable def lf_constraintref31_certain (p_a0 : S_api_Program) (o_a1 : S_api_Occ) : Option (Bool) :=
  ((getI p_a0.f1_Rules o_a1.f0_Rule).bind fun q_1 =>
  ((lf_constraintref16_Heads q_1).bind fun r_3 =>
  (bif ((r_3.length : Int) != (1 : Int)) then
  some (false)
  else
  (bif o_a1.f2_Kept then
  some (false)
  else
  (bif (decide ((q_1.f3_Guard.length : Int) > (0 : Int))) then
  some (false)
  else
  ((getI r_3 0).bind fun q_8 =>
  (lf_constraintref31_certain_L0 (some (true)) q_8.ts [])))))))

set_option maxHeartbeats 1000000 in
theorem lg_constraintref31_certain (p_a0 : S_api_Program) (o_a1 : S_api_Occ) (res : Bool) (hr : lf_constraintref31_certain p_a0 o_a1 = some res) : Gives Try.prog 32 [enc_S_api_Program p_a0, enc_S_api_Occ o_a1] (.bool res) := by
  unfold lf_constraintref31_certain at hr
  refine spec_env [(0, enc_S_api_Program p_a0), (1, enc_S_api_Occ o_a1)] Try.func32 rfl rfl fun K hK => ?_
  refine g_seq ?_
  refine g_run (by kernel_rfl) [(0, .d), (1, .d), (2, .d)] rfl ?_
  refine r_d rfl rfl rfl (s_box rfl rfl rfl) ?_
  refine r_d rfl rfl rfl (s_box rfl rfl rfl) ?_
  refine r_d rfl rfl rfl (s_assign rfl rfl) ?_
  refine r_end ?_
  refine g_seq ?_
  refine g_run (by kernel_rfl) [(0, .d), (1, .d), (2, .d), (3, .d), (4, .d), (5, .d), (6, .w), (7, .w)] rfl ?_
  refine r_d rfl rfl rfl (s_fieldAddr rfl fl_api_Program_1 rfl rfl rfl rfl) ?_
  refine r_d rfl rfl rfl (s_load rfl rfl (by exact ty_L_api_Rule) rfl) ?_
  refine r_d rfl rfl rfl (s_fieldAddr rfl fl_api_Occ_0 rfl rfl rfl rfl) ?_
  refine r_d rfl rfl rfl (s_load rfl rfl (by exact ty_int) rfl) ?_
  obtain ⟨q_1, hq_1, hr⟩ := bindS hr
  refine r_d rfl rfl rfl (m_index (f := enc_S_api_Rule) p_a0.f1_Rules rfl el_L_api_Rule rfl (asl rfl) rfl hq_1 sz_S_api_Rule rfl) ?_
  refine r_d rfl rfl rfl (s_load rfl rfl (by exact ty_api_Rule) (sz_S_api_Rule _)) ?_
  refine r_w rfl rfl rfl (s_alloc rfl zv_api_Rule) ?_
  rintro _ _ ⟨b5_1, rfl, rfl⟩
  refine r_w01 rfl rfl rfl (t_store0 _ rfl rfl rfl (Wk.refl _) (pf0 _) (by exact ty_api_Rule) (sz_S_api_Rule _) rfl rfl) ?_
  refine r_end ?_
  refine g_freeze 5 b5_1 rfl (pf0 _) ?_
  refine g_seq ?_
  refine g_run (by kernel_rfl) [(0, .d), (1, .d), (2, .d)] rfl ?_
  refine r_d rfl rfl rfl (s_load rfl rfl (by exact ty_api_Rule) (sz_S_api_Rule _)) ?_
  obtain ⟨r_3, hr_3, hr⟩ := bindS hr
  refine r_d rfl rfl rfl (s_callD rfl cl_constraintref16_Heads (.cons rfl (Wk.refl _) .nil) (lg_constraintref16_Heads _ _ hr_3)) ?_
  refine r_d rfl rfl rfl (s_assign rfl rfl) ?_
  refine r_end ?_
  refine g_seq ?_
  refine g_seq ?_
  refine g_run (by kernel_rfl) [(0, .d), (1, .d), (2, .d), (3, .d), (4, .d), (5, .d), (6, .d), (7, .d), (8, .d), (9, .d), (10, .d), (11, .d), (12, .d)] rfl ?_
  refine r_d rfl rfl rfl (s_move rfl rfl) ?_
  refine r_d rfl rfl rfl (m_len (f := encA) r_3 rfl el_L_api_Atom rfl (asl rfl)) ?_
  refine r_d rfl rfl rfl (s_cmp rfl rfl rfl rfl) ?_
  refine r_d rfl rfl rfl (s_move rfl rfl) ?_
  refine r_sB 21 rfl hr (fun h21_3 hr => ?_) (fun h21_3 hr => ?_)
  ·
   refine r_skip rfl rfl rfl ?_
   refine r_skip rfl rfl rfl ?_
   refine r_d rfl rfl rfl (s_pickT rfl rfl rfl) ?_
   refine r_d rfl rfl rfl (s_move rfl rfl) ?_
   refine r_skip rfl rfl rfl ?_
   refine r_skip rfl rfl rfl ?_
   refine r_skip rfl rfl rfl ?_
   refine r_skip rfl rfl rfl ?_
   refine r_d rfl rfl rfl (s_pickT rfl rfl rfl) ?_
   refine r_end ?_
   refine g_condT rfl ?_
   refine g_seq ?_
   refine g_run (by kernel_rfl) [(0, .d)] rfl ?_
   refine r_d rfl rfl rfl (s_assign rfl rfl) ?_
   refine r_end ?_
   obtain rfl := Option.some.inj hr
   refine g_ret Try.func32 _ (.cons (resTmp rfl (Wk.refl _)) .nil) ?_
   rfl
  ·
   refine r_d rfl rfl rfl (s_fieldAddr rfl fl_api_Occ_2 rfl rfl rfl rfl) ?_
   refine r_d rfl rfl rfl (s_load rfl rfl (by exact ty_bool) rfl) ?_
   refine r_d rfl rfl rfl (s_pickF rfl rfl rfl) ?_
   refine r_d rfl rfl rfl (s_move rfl rfl) ?_
   refine r_sB 25 rfl hr (fun h25_4 hr => ?_) (fun h25_4 hr => ?_)
   ·
    refine r_skip rfl rfl rfl ?_
    refine r_skip rfl rfl rfl ?_
    refine r_skip rfl rfl rfl ?_
    refine r_skip rfl rfl rfl ?_
    refine r_d rfl rfl rfl (s_pickT rfl rfl rfl) ?_
    refine r_end ?_
    refine g_condT rfl ?_
    refine g_seq ?_
    refine g_run (by kernel_rfl) [(0, .d)] rfl ?_
    refine r_d rfl rfl rfl (s_assign rfl rfl) ?_
    refine r_end ?_
    obtain rfl := Option.some.inj hr
    refine g_ret Try.func32 _ (.cons (resTmp rfl (Wk.refl _)) .nil) ?_
    rfl
   ·
    refine r_d rfl rfl rfl (s_fieldAddr rfl fl_api_Rule_3 rfl rfl rfl rfl) ?_
    refine r_d rfl rfl rfl (s_load rfl rfl (by exact ty_L_api_Goal) rfl) ?_
    refine r_d rfl rfl rfl (m_len (f := encG) q_1.f3_Guard rfl el_L_api_Goal rfl (asl rfl)) ?_
    refine r_d rfl rfl rfl (s_cmp rfl rfl rfl rfl) ?_
    refine r_d rfl rfl rfl (s_pickF rfl rfl rfl) ?_
    refine r_end ?_
    refine g_sB 30 rfl hr (fun h30_5 hr => ?_) (fun h30_5 hr => ?_)
    ·
     refine g_condT rfl ?_
     refine g_seq ?_
     refine g_run (by kernel_rfl) [(0, .d)] rfl ?_
     refine r_d rfl rfl rfl (s_assign rfl rfl) ?_
     refine r_end ?_
     obtain rfl := Option.some.inj hr
     refine g_ret Try.func32 _ (.cons (resTmp rfl (Wk.refl _)) .nil) ?_
     rfl
    ·
     refine g_condF rfl ?_
     refine g_skip ?_
     refine g_seq ?_
     refine g_run (by kernel_rfl) [(0, .w)] rfl ?_
     refine r_w rfl rfl rfl (s_nilOwn 3 1 (.inl rfl)) ?_
     rintro _ _ ⟨u7_6, rfl, rfl⟩
     refine r_end ?_
     refine g_seq ?_
     refine g_seq ?_
     refine g_run (by kernel_rfl) [(0, .d)] rfl ?_
     refine r_d rfl rfl rfl (s_assign rfl rfl) ?_
     refine r_end ?_
     obtain ⟨q_8, hq_8, hr⟩ := bindS hr
     obtain ⟨kk0, hkk0, hr⟩ := exK (fun k => lf_constraintref31_certain_L0 k q_8.ts []) hr
     refine g_lenI 17 (l := q_8.ts.map encT) rfl (.sub (.el .refl (asl rfl) (List.mem_map_of_mem (getI_mem hq_8))) [1] rfl) (asl rfl) fun hla0 => ?_
     simp only [List.length_map] at hla0
     refine g_blockJ (fun env σ => env = [] ∧ σ = [] ∧ kk0 = some res) ?_ (fun HK0 => ?_)
     ·
      rintro _ _ ⟨rfl, rfl, hr⟩
      rw [hkk0] at hr
      refine g_seq ?_
      refine g_run (by kernel_rfl) [(0, .d)] rfl ?_
      refine r_d rfl rfl rfl (s_assign rfl rfl) ?_
      refine r_end ?_
      obtain rfl := Option.some.inj hr
      refine g_ret Try.func32 _ (.cons (resTmp rfl (Wk.refl _)) .nil) ?_
      rfl
     ·
      refine g_sub [(6, .lst (r_3.map encA)), (7, .own u7_6 ([].map (D.int .i64))), (8, .int .i64 ((0 : Nat) : Int))] (Sub.cons' rfl (Sub.cons' rfl (Sub.cons' rfl (Sub.nil _)))) ?_
      refine g_loop (fun n env σ => ∃ (seen_10 : (List Int)) (i_11 : Nat) (u_9 : Value), (n = q_8.ts.length - i_11) ∧ (env = [(6, .lst (r_3.map encA)), (7, .own u_9 (seen_10.map (D.int .i64))), (8, .int .i64 (i_11 : Int))]) ∧ (σ = [.row u_9 seen_10.length 3 1]) ∧ (i_11 ≤ q_8.ts.length) ∧ (lf_constraintref31_certain_L0 kk0 (q_8.ts.drop i_11) seen_10 = some res)) _ ⟨[], 0, u7_6, rfl, rfl, rfl, Nat.zero_le _, hr⟩ ?_
      rintro n _ _ ⟨seen_10, i_11, u_9, rfl, rfl, rfl, hi0, hr⟩ IH0
      rcases listStep q_8.ts i_11 hi0 with ⟨ht0, hd0, he0⟩ | ⟨q_12, ht0, hd0, hq0, hlt0⟩
      ·
       rw [hd0, lf_constraintref31_certain_L0] at hr
       refine g_seq ?_
       refine g_seq ?_
       refine g_run (by kernel_rfl) [(0, .d), (1, .d), (2, .d), (3, .d), (4, .d), (5, .d), (6, .d)] rfl ?_
       refine r_d rfl rfl rfl (s_move rfl rfl) ?_
       refine r_d rfl rfl rfl (s_move rfl rfl) ?_
       refine r_d rfl rfl rfl (m_index (f := encA) r_3 rfl el_L_api_Atom rfl (asl rfl) rfl hq_8 sz_encA rfl) ?_
       refine r_d rfl rfl rfl (s_fieldAddr rfl fl_api_Atom_1 rfl rfl rfl rfl) ?_
       refine r_d rfl rfl rfl (s_load rfl rfl (by exact ty_L_api_Term) rfl) ?_
       refine r_d rfl rfl rfl (m_len (f := encT) q_8.ts rfl el_L_api_Term rfl (asl rfl)) ?_
       refine r_d rfl rfl rfl (s_cmp rfl rfl rfl rfl) ?_
       refine r_end ?_
       refine g_known 37 false rfl ht0 ?_
       refine g_condF rfl ?_
       refine g_exit rfl ?_
       refine g_sub [] (Sub.nil _) ?_
       refine g_perm [] _ (pf0 _) ?_
       exact HK0 _ _ ⟨rfl, rfl, hr⟩
      ·
       rw [hd0, lf_constraintref31_certain_L0] at hr
       refine g_seq ?_
       refine g_seq ?_
       refine g_run (by kernel_rfl) [(0, .d), (1, .d), (2, .d), (3, .d), (4, .d), (5, .d), (6, .d)] rfl ?_
       refine r_d rfl rfl rfl (s_move rfl rfl) ?_
       refine r_d rfl rfl rfl (s_move rfl rfl) ?_
       refine r_d rfl rfl rfl (m_index (f := encA) r_3 rfl el_L_api_Atom rfl (asl rfl) rfl hq_8 sz_encA rfl) ?_
       refine r_d rfl rfl rfl (s_fieldAddr rfl fl_api_Atom_1 rfl rfl rfl rfl) ?_
       refine r_d rfl rfl rfl (s_load rfl rfl (by exact ty_L_api_Term) rfl) ?_
       refine r_d rfl rfl rfl (m_len (f := encT) q_8.ts rfl el_L_api_Term rfl (asl rfl)) ?_
       refine r_d rfl rfl rfl (s_cmp rfl rfl rfl rfl) ?_
       refine r_end ?_
       refine g_known 37 true rfl ht0 ?_
       refine g_condT rfl ?_
       refine g_skip ?_
       refine g_seq ?_
       refine g_block ?_
       refine g_seq ?_
       refine g_run (by kernel_rfl) [(0, .d), (1, .d), (2, .d), (3, .d), (4, .d), (5, .d), (6, .d), (7, .w), (8, .w)] rfl ?_
       refine r_d rfl rfl rfl (s_move rfl rfl) ?_
       refine r_d rfl rfl rfl (m_index (f := encA) r_3 rfl el_L_api_Atom rfl (asl rfl) rfl hq_8 sz_encA rfl) ?_
       refine r_d rfl rfl rfl (s_fieldAddr rfl fl_api_Atom_1 rfl rfl rfl rfl) ?_
       refine r_d rfl rfl rfl (s_load rfl rfl (by exact ty_L_api_Term) rfl) ?_
       refine r_d rfl rfl rfl (s_move rfl rfl) ?_
       refine r_d rfl rfl rfl (m_index (f := encT) q_8.ts rfl el_L_api_Term rfl (asl rfl) rfl hq0 sz_encT rfl) ?_
       refine r_d rfl rfl rfl (s_load rfl rfl (by exact ty_api_Term) (sz_encT _)) ?_
       refine r_w rfl rfl rfl (s_alloc rfl zv_api_Term) ?_
       rintro _ _ ⟨b9_12, rfl, rfl⟩
       refine r_w01 rfl rfl rfl (t_store0 _ rfl rfl rfl (Wk.refl _) (pf0 _) (by exact ty_api_Term) (sz_encT _) rfl rfl) ?_
       refine r_end ?_
       refine g_freeze 9 b9_12 rfl (pf0 _) ?_
       refine g_seq ?_
       refine g_seq ?_
       refine g_run (by kernel_rfl) [(0, .d), (1, .d), (2, .d), (3, .d), (4, .d), (5, .d), (6, .d), (7, .d), (8, .d)] rfl ?_
       refine r_d rfl rfl rfl (s_fieldAddr rfl fl_api_Term_0 rfl (fsT_get0 _) (fsT_off0 _) rfl) ?_
       refine r_d rfl rfl rfl (s_load rfl rfl (by exact ty_int) rfl) ?_
       refine r_d rfl rfl rfl (s_cmp rfl rfl rfl rfl) ?_
       refine r_d rfl rfl rfl (s_move rfl rfl) ?_
       refine r_sB 50 rfl hr (fun h50_13 hr => ?_) (fun h50_13 hr => ?_)
       ·
        refine r_skip rfl rfl rfl ?_
        refine r_skip rfl rfl rfl ?_
        refine r_skip rfl rfl rfl ?_
        refine r_skip rfl rfl rfl ?_
        refine r_d rfl rfl rfl (s_pickT rfl rfl rfl) ?_
        refine r_end ?_
        refine g_condT rfl ?_
        refine g_seq ?_
        refine g_run (by kernel_rfl) [(0, .d)] rfl ?_
        refine r_d rfl rfl rfl (s_assign rfl rfl) ?_
        refine r_end ?_
        obtain rfl := Option.some.inj hr
        refine g_ret Try.func32 _ (.cons (resTmp rfl (Wk.refl _)) .nil) ?_
        rfl
       ·
        refine r_d rfl rfl rfl (s_move rfl rfl) ?_
        refine r_d rfl rfl rfl (s_fieldAddr rfl fl_api_Term_1 rfl (fsT_get1 _) (fsT_off1 _) rfl) ?_
        refine r_d rfl rfl rfl (s_load rfl rfl (by exact ty_int) rfl) ?_
        obtain ⟨r_15, hr_15, hr⟩ := bindS hr
        refine r_d rfl rfl rfl (s_callD rfl cl_constraintref31_has (.cons rfl (Wk.own _ _) (.cons rfl (Wk.refl _) .nil)) (lg_constraintref31_has _ _ _ hr_15)) ?_
        refine r_d rfl rfl rfl (s_pickF rfl rfl rfl) ?_
        refine r_end ?_
        refine g_sB 55 rfl hr (fun h55_15 hr => ?_) (fun h55_15 hr => ?_)
        ·
         refine g_condT rfl ?_
         refine g_seq ?_
         refine g_run (by kernel_rfl) [(0, .d)] rfl ?_
         refine r_d rfl rfl rfl (s_assign rfl rfl) ?_
         refine r_end ?_
         obtain rfl := Option.some.inj hr
         refine g_ret Try.func32 _ (.cons (resTmp rfl (Wk.refl _)) .nil) ?_
         rfl
        ·
         refine g_condF rfl ?_
         refine g_skip ?_
         refine g_run (by kernel_rfl) [(0, .d), (1, .d), (2, .d), (3, .d), (4, .w), (5, .d)] rfl ?_
         refine r_d rfl rfl rfl (s_move rfl rfl) ?_
         refine r_d rfl rfl rfl (s_fieldAddr rfl fl_api_Term_1 rfl (fsT_get1 _) (fsT_off1 _) rfl) ?_
         refine r_d rfl rfl rfl (s_load rfl rfl (by exact ty_int) rfl) ?_
         refine r_d rfl rfl rfl (m_lit (f := (D.int .i64)) [.tmp 58] [q_12.i] rfl el_L_int rfl rfl (by decide) (by decide) (.cons rfl (Wk.refl _) .nil) (fun _ => rfl) (fun _ => rfl)) ?_
         obtain ⟨l_17, hl_17, hr⟩ := bindS hr
         refine r_w rfl rfl rfl (m_appOwn (f := (D.int .i64)) seen_10 [q_12.i] rfl el_L_int rfl rfl (asl rfl) (pf0 _) rfl (fun _ => rfl) hl_17) ?_
         rintro _ _ ⟨u60_17, rfl, rfl⟩
         refine r_d rfl rfl rfl (s_assign rfl rfl) ?_
         refine r_end ?_
         refine g_inBlock ?_
         refine g_run (by kernel_rfl) [(0, .d), (1, .d), (2, .d)] rfl ?_
         refine r_d rfl rfl rfl (s_move rfl rfl) ?_
         refine r_d rfl rfl rfl (s_ar (r := ((i_11 + 1 : Nat) : Int)) rfl rfl rfl (by simp [iar]) (by omega)) ?_
         refine r_d rfl rfl rfl (s_assign rfl rfl) ?_
         refine r_end ?_
         refine g_sub [(6, .lst (r_3.map encA)), (7, .own u60_17 (l_17.map (D.int .i64))), (8, .int .i64 ((i_11 + 1 : Nat) : Int))] (Sub.cons' rfl (Sub.cons' rfl (Sub.cons' rfl (Sub.nil _)))) ?_
         exact IH0 _ _ _ (by omega) ⟨l_17, (i_11 + 1), u60_17, rfl, rfl, rfl, (by omega), hr⟩

noncomputable def lf_constraintref31_Never_L0 (k : Option (Bool)) (fuel : Nat) (p_a0 : S_api_Program) : List S_api_Occ → Option (Bool)
  | [] =>
  k
  | q_3 :: rest =>
  ((lf_constraintref31_certain p_a0 q_3).bind fun r_4 =>
  (bif r_4 then
  some (true)
  else
  (bif q_3.f2_Kept then
  ((getI p_a0.f1_Rules q_3.f0_Rule).bind fun q_7 =>
  ((lf_constraintref31_Inert fuel q_7).bind fun r_8 =>
  (bif (!r_8) then
  some (false)
  else
  (lf_constraintref31_Never_L0 k fuel p_a0 rest))))
  else
  (lf_constraintref31_Never_L0 k fuel p_a0 rest))))
noncomputable def lf_constraintref31_Never (fuel : Nat) (p_a0 : S_api_Program) (name_a1 : ByteArray) (arity_a2 : Int) : Option (Bool) :=
  ((lf_constraintref16_Of p_a0 name_a1 arity_a2).bind fun r_1 =>
  (lf_constraintref31_Never_L0 (some (false)) fuel p_a0 r_1))

end Go.Proofs.Ytnldggbcfcibaaa

