/-
  Texts of the seat, merged.
-/
import Derived.Test.YtgndcnknmkcacaaLGA
import Derived.Test.YtgndcnknmkcacaaLGB
import Derived.Test.YtgndcnknmkcacaaLGC
import Derived.Test.YtgndcnknmkcacaaChecked
import Derived.WalkKit
import Derived.Lib.Hide
import Derived.Lib.AppendStr
import Derived.Deep.AppendLies
import Derived.Deep.AppendSrc
import Derived.Deep.Draws
import Derived.Deep.QuietTactic
import Derived.BigQuiet
import Derived.Deep.RegionWith
import Derived.Maps.AppendAt
import Derived.WalkSpells
import Derived.Orders
import Derived.Deep.Slices
import Derived.Deep.Fields
import Derived.ChangeArms
import Derived.Lib.OthersKept
import Derived.Lib.TrimU
import Derived.Lib.IndexAny
import Derived.Deep.LoopGhost
import Derived.Lib.Bytealg
import Derived.RangeFuncBox
import Derived.RangeFuncNested
import Derived.RangeFuncBound
import Derived.RangeFuncCalls
import Derived.RangeFuncLeaves
import Derived.Shelf.Abstract
import Derived.OwnWalkIn
import Derived.TacticsInMore
import Derived.LoopNIn
import Derived.LoopIn
import Derived.RangeFuncWrites
import Derived.Maps.OwnIn
import Derived.Maps.Views
import Derived.Laws.OwnMore
import Derived.Maps.OwnSet
import Derived.Test.YtgndcnknmkcacaaRows
import Derived.ProofKit
import Derived.OpenShut
import Derived.Carry
import Derived.OrdersIn
import Derived.Great.BuildSlice
import Derived.ArgAppend
import Derived.Laws.MakeOwn
import Derived.Laws.Cover3
import Derived.Laws.CopyRow
import Derived.MapKept
import Derived.Maps.RangeRun
import Derived.DeepKeys5
import Derived.WideKeyRuns
import Derived.Tactics
import Derived.Tactics2
import Derived.Defers
import Derived.Recover
import Derived.Laws.Pointers
set_option linter.unusedVariables false
set_option linter.unusedSimpArgs false
set_option linter.unnecessarySimpa false
set_option linter.all false

namespace Go.Proofs.Ytgndcnknmkcacaa
set_option maxRecDepth 100000
open Go.RowKit

structure S_api_Decl where
  f0_Name : ByteArray
  f1_Arity : Int

def enc_S_api_Decl (x : S_api_Decl) : D := .agg [.str x.f0_Name, .int .i64 x.f1_Arity]

theorem sz_S_api_Decl (x : S_api_Decl) : sz (enc_S_api_Decl x) = 2 := by
  simp only [enc_S_api_Decl, sz, szs]

structure S_api_Rule where
  f0_Name : ByteArray
  f1_Keep : (List At)
  f2_Remove : (List At)
  f3_Guard : (List Gl)
  f4_Body : (List Gl)
  f5_Vars : Int

def enc_S_api_Rule (x : S_api_Rule) : D := .agg [.str x.f0_Name, .lst (x.f1_Keep.map encA), .lst (x.f2_Remove.map encA), .lst (x.f3_Guard.map encG), .lst (x.f4_Body.map encG), .int .i64 x.f5_Vars]

theorem sz_S_api_Rule (x : S_api_Rule) : sz (enc_S_api_Rule x) = 6 := by
  simp only [enc_S_api_Rule, sz, szs]

structure S_api_Program where
  f0_Decls : (List S_api_Decl)
  f1_Rules : (List S_api_Rule)

def enc_S_api_Program (x : S_api_Program) : D := .agg [.lst (x.f0_Decls.map enc_S_api_Decl), .lst (x.f1_Rules.map enc_S_api_Rule)]

theorem sz_S_api_Program (x : S_api_Program) : sz (enc_S_api_Program x) = 2 := by
  simp only [enc_S_api_Program, sz, szs]

instance : DecidableEq S_api_Decl := fun a b => decidable_of_iff (a.f0_Name = b.f0_Name ∧ a.f1_Arity = b.f1_Arity) ⟨fun h => by cases a; cases b; simp at h; simp [h], fun h => by rw [h]; simp⟩
theorem wt_api_Decl : WideT Try.prog 50 enc_S_api_Decl (fun a => .agg #[.string a.f0_Name, .int .i64 a.f1_Arity]) := .mk' (fun a => [.str a.f0_Name, .int .i64 a.f1_Arity]) (by kernel_rfl) Try.underlying50 (by kernel_rfl) (by kernel_rfl) (by kernel_rfl) (by kernel_rfl) (by kernel_rfl) (fun _ => rfl) (fun _ => rfl) (fun _ => rfl) (fun a b h => by cases a; cases b; simp at h; simp [h])

theorem zm_bool : ZeroM Try.prog 4 (.bool false) := ⟨.bool false, by kernel_rfl, fun _ _ => by simp only [Rep]⟩

theorem at__2___api_Atom : ArrT Try.prog 61 32 2 := ⟨Try.underlying61, by kernel_rfl, by kernel_rfl⟩

theorem at__2___api_Goal : ArrT Try.prog 63 33 2 := ⟨Try.underlying63, by kernel_rfl, by kernel_rfl⟩

theorem zm_Unit : ZeroM Try.prog 78 (.agg []) := ⟨.agg #[], by kernel_rfl, fun _ _ => by simp only [Rep]; exact ⟨[], rfl, Reps.nil _ _, by simp⟩⟩

noncomputable def lf_constraintref03_GreatAtoms_L0 (k : (Int) → Option (Bool)) : List At → Int → Option (Bool)
  | [], most_1 =>
  (k most_1)
  | q_4 :: rest, most_1 =>
  (bif (decide (most_1 ≥ (0 : Int))) then
  ((x_weigh q_4.ts (wr ((wr (most_1 - (1 : Int))) - (wr (Int.tdiv (q_4.n.size : Int) 8)))) 64).bind fun r_6 =>
  (lf_constraintref03_GreatAtoms_L0 k rest r_6))
  else
  (k most_1))
noncomputable def lf_constraintref03_GreatAtoms (l_a0 : (List At)) (most_a1 : Int) : Option (Bool) :=
  (lf_constraintref03_GreatAtoms_L0 (fun most_3 =>
  some ((decide (most_3 < (0 : Int))))) l_a0 most_a1)

set_option maxHeartbeats 1000000 in
theorem lg_constraintref03_GreatAtoms (l_a0 : (List At)) (most_a1 : Int) (res : Bool) (hr : lf_constraintref03_GreatAtoms l_a0 most_a1 = some res) : Gives Try.prog 54 [.lst (l_a0.map encA), .int .i64 most_a1] (.bool res) := by
  unfold lf_constraintref03_GreatAtoms at hr
  refine spec_env [(0, .lst (l_a0.map encA)), (1, .int .i64 most_a1)] Try.func54 rfl rfl fun K hK => ?_
  refine g_seq ?_
  refine g_run (by kernel_rfl) [(0, .d)] rfl ?_
  refine r_d rfl rfl rfl (s_assign rfl rfl) ?_
  refine r_end ?_
  refine g_seq ?_
  refine g_seq ?_
  refine g_run (by kernel_rfl) [(0, .d)] rfl ?_
  refine r_d rfl rfl rfl (s_assign rfl rfl) ?_
  refine r_end ?_
  obtain ⟨kk0, hkk0, hr⟩ := exK (fun k => lf_constraintref03_GreatAtoms_L0 k l_a0 most_a1) hr
  refine g_len 0 rfl (asl rfl) fun hla0 => ?_
  simp only [List.length_map] at hla0
  refine g_blockJ (fun env σ => ∃ (most_3 : Int), env = [(1, .int .i64 most_3)] ∧ σ = [] ∧ kk0 most_3 = some res) ?_ (fun HK0 => ?_)
  ·
   rintro _ _ ⟨most_3, rfl, rfl, hr⟩
   rw [hkk0] at hr
   refine g_seq ?_
   refine g_run (by kernel_rfl) [(0, .d), (1, .d), (2, .d)] rfl ?_
   refine r_d rfl rfl rfl (s_move rfl rfl) ?_
   refine r_d rfl rfl rfl (s_cmp rfl rfl rfl rfl) ?_
   refine r_d rfl rfl rfl (s_assign rfl rfl) ?_
   refine r_end ?_
   obtain rfl := Option.some.inj hr
   refine g_ret Try.func54 _ (.cons (resTmp rfl (Wk.refl _)) .nil) ?_
   rfl
  ·
   refine g_sub [(0, .lst (l_a0.map encA)), (1, .int .i64 most_a1), (5, .int .i64 ((0 : Nat) : Int))] (Sub.cons' rfl (Sub.cons' rfl (Sub.cons' rfl (Sub.nil _)))) ?_
   refine g_loop (fun n env σ => ∃ (most_1 : Int) (i_2 : Nat), (n = l_a0.length - i_2) ∧ (env = [(0, .lst (l_a0.map encA)), (1, .int .i64 most_1), (5, .int .i64 (i_2 : Int))]) ∧ (σ = []) ∧ (i_2 ≤ l_a0.length) ∧ (lf_constraintref03_GreatAtoms_L0 kk0 (l_a0.drop i_2) most_1 = some res)) _ ⟨most_a1, 0, rfl, rfl, rfl, Nat.zero_le _, hr⟩ ?_
   rintro n _ _ ⟨most_1, i_2, rfl, rfl, rfl, hi0, hr⟩ IH0
   rcases listStep l_a0 i_2 hi0 with ⟨ht0, hd0, he0⟩ | ⟨q_4, ht0, hd0, hq0, hlt0⟩
   ·
    rw [hd0, lf_constraintref03_GreatAtoms_L0] at hr
    refine g_seq ?_
    refine g_seq ?_
    refine g_run (by kernel_rfl) [(0, .d), (1, .d), (2, .d), (3, .d), (4, .d), (5, .d), (6, .d), (7, .d)] rfl ?_
    refine r_d rfl rfl rfl (s_move rfl rfl) ?_
    refine r_d rfl rfl rfl (s_move rfl rfl) ?_
    refine r_d rfl rfl rfl (m_len (f := encA) l_a0 rfl el_L_api_Atom rfl (asl rfl)) ?_
    refine r_d rfl rfl rfl (s_cmp rfl rfl rfl rfl) ?_
    refine r_d rfl rfl rfl (s_move rfl rfl) ?_
    refine r_known 10 false rfl ht0 ?_
    refine r_skip rfl rfl rfl ?_
    refine r_skip rfl rfl rfl ?_
    refine r_d rfl rfl rfl (s_pickF rfl rfl rfl) ?_
    refine r_end ?_
    refine g_condF rfl ?_
    refine g_exit rfl ?_
    refine g_sub [(1, .int .i64 most_1)] (Sub.cons' rfl (Sub.nil _)) ?_
    exact HK0 _ _ ⟨most_1, rfl, rfl, hr⟩
   ·
    rw [hd0, lf_constraintref03_GreatAtoms_L0] at hr
    refine g_seq ?_
    refine g_seq ?_
    refine g_run (by kernel_rfl) [(0, .d), (1, .d), (2, .d), (3, .d), (4, .d), (5, .d), (6, .d), (7, .d)] rfl ?_
    refine r_d rfl rfl rfl (s_move rfl rfl) ?_
    refine r_d rfl rfl rfl (s_move rfl rfl) ?_
    refine r_d rfl rfl rfl (m_len (f := encA) l_a0 rfl el_L_api_Atom rfl (asl rfl)) ?_
    refine r_d rfl rfl rfl (s_cmp rfl rfl rfl rfl) ?_
    refine r_d rfl rfl rfl (s_move rfl rfl) ?_
    refine r_known 10 true rfl ht0 ?_
    refine r_d rfl rfl rfl (s_move rfl rfl) ?_
    refine r_d rfl rfl rfl (s_cmp rfl rfl rfl rfl) ?_
    refine r_d rfl rfl rfl (s_pickT rfl rfl rfl) ?_
    refine r_end ?_
    refine g_sB 13 rfl hr (fun h13_4 hr => ?_) (fun h13_4 hr => ?_)
    ·
     refine g_condT rfl ?_
     refine g_skip ?_
     refine g_seq ?_
     refine g_block ?_
     refine g_any (by kernel_rfl) (by kernel_rfl) [(0, .d), (1, .d), (2, .d), (3, .d), (4, .d), (5, .d), (6, .d), (7, .d), (8, .d), (9, .d), (10, .d), (11, .d), (12, .d), (13, .d), (14, .d), (15, .d), (16, .d)] (by kernel_rfl) ?_
     refine r_d rfl rfl rfl (s_move rfl rfl) ?_
     refine r_d rfl rfl rfl (s_move rfl rfl) ?_
     refine r_d rfl rfl rfl (m_index (f := encA) l_a0 rfl el_L_api_Atom rfl (asl rfl) rfl hq0 sz_encA rfl) ?_
     refine r_d rfl rfl rfl (s_fieldAddr rfl fl_api_Atom_1 rfl rfl rfl rfl) ?_
     refine r_d rfl rfl rfl (s_load rfl rfl (by exact ty_L_api_Term) rfl) ?_
     refine r_d rfl rfl rfl (s_move rfl rfl) ?_
     refine r_d rfl rfl rfl (s_arW rfl rfl rfl rfl) ?_
     refine r_d rfl rfl rfl (s_move rfl rfl) ?_
     refine r_d rfl rfl rfl (s_move rfl rfl) ?_
     refine r_d rfl rfl rfl (m_index (f := encA) l_a0 rfl el_L_api_Atom rfl (asl rfl) rfl hq0 sz_encA rfl) ?_
     refine r_d rfl rfl rfl (s_fieldAddr rfl fl_api_Atom_0 rfl rfl rfl rfl) ?_
     refine r_d rfl rfl rfl (s_load rfl rfl (by exact ty_string) rfl) ?_
     refine r_d rfl rfl rfl (s_lenS rfl Try.underlying9 rfl) ?_
     refine r_d rfl rfl rfl (s_quoC rfl rfl rfl (by decide)) ?_
     refine r_d rfl rfl rfl (s_arW rfl rfl rfl rfl) ?_
     obtain ⟨r_6, hr_6, hr⟩ := bindS hr
     refine r_d rfl rfl rfl (s_callD rfl cl_constraintref03_weigh (.cons rfl (Wk.refl _) (.cons rfl (Wk.refl _) (.cons rfl (Wk.refl _) .nil))) (lx_constraintref03_weigh _ _ _ _ hr_6)) ?_
     refine r_d rfl rfl rfl (s_assign rfl rfl) ?_
     refine r_end ?_
     refine g_inBlock ?_
     refine g_run (by kernel_rfl) [(0, .d), (1, .d), (2, .d)] rfl ?_
     refine r_d rfl rfl rfl (s_move rfl rfl) ?_
     refine r_d rfl rfl rfl (s_ar (r := ((i_2 + 1 : Nat) : Int)) rfl rfl rfl (by simp [iar]) (by omega)) ?_
     refine r_d rfl rfl rfl (s_assign rfl rfl) ?_
     refine r_end ?_
     refine g_sub [(0, .lst (l_a0.map encA)), (1, .int .i64 r_6), (5, .int .i64 ((i_2 + 1 : Nat) : Int))] (Sub.cons' rfl (Sub.cons' rfl (Sub.cons' rfl (Sub.nil _)))) ?_
     exact IH0 _ _ _ (by omega) ⟨r_6, (i_2 + 1), rfl, rfl, rfl, (by omega), hr⟩
    ·
     refine g_condF rfl ?_
     refine g_exit rfl ?_
     refine g_sub [(1, .int .i64 most_1)] (Sub.cons' rfl (Sub.nil _)) ?_
     exact HK0 _ _ ⟨most_1, rfl, rfl, hr⟩

noncomputable def lf_constraintref03_GreatGoals_L0 (k : (Int) → Option (Bool)) : List Gl → Int → Option (Bool)
  | [], most_1 =>
  (k most_1)
  | q_4 :: rest, most_1 =>
  (bif (decide (most_1 ≥ (0 : Int))) then
  ((x_weigh q_4.ts (wr ((wr (most_1 - (1 : Int))) - (wr (Int.tdiv (q_4.n.size : Int) 8)))) 64).bind fun r_6 =>
  (lf_constraintref03_GreatGoals_L0 k rest r_6))
  else
  (k most_1))
noncomputable def lf_constraintref03_GreatGoals (l_a0 : (List Gl)) (most_a1 : Int) : Option (Bool) :=
  (lf_constraintref03_GreatGoals_L0 (fun most_3 =>
  some ((decide (most_3 < (0 : Int))))) l_a0 most_a1)

set_option maxHeartbeats 1000000 in
theorem lg_constraintref03_GreatGoals (l_a0 : (List Gl)) (most_a1 : Int) (res : Bool) (hr : lf_constraintref03_GreatGoals l_a0 most_a1 = some res) : Gives Try.prog 15 [.lst (l_a0.map encG), .int .i64 most_a1] (.bool res) := by
  unfold lf_constraintref03_GreatGoals at hr
  refine spec_env [(0, .lst (l_a0.map encG)), (1, .int .i64 most_a1)] Try.func15 rfl rfl fun K hK => ?_
  refine g_seq ?_
  refine g_run (by kernel_rfl) [(0, .d)] rfl ?_
  refine r_d rfl rfl rfl (s_assign rfl rfl) ?_
  refine r_end ?_
  refine g_seq ?_
  refine g_seq ?_
  refine g_run (by kernel_rfl) [(0, .d)] rfl ?_
  refine r_d rfl rfl rfl (s_assign rfl rfl) ?_
  refine r_end ?_
  obtain ⟨kk0, hkk0, hr⟩ := exK (fun k => lf_constraintref03_GreatGoals_L0 k l_a0 most_a1) hr
  refine g_len 0 rfl (asl rfl) fun hla0 => ?_
  simp only [List.length_map] at hla0
  refine g_blockJ (fun env σ => ∃ (most_3 : Int), env = [(1, .int .i64 most_3)] ∧ σ = [] ∧ kk0 most_3 = some res) ?_ (fun HK0 => ?_)
  ·
   rintro _ _ ⟨most_3, rfl, rfl, hr⟩
   rw [hkk0] at hr
   refine g_seq ?_
   refine g_run (by kernel_rfl) [(0, .d), (1, .d), (2, .d)] rfl ?_
   refine r_d rfl rfl rfl (s_move rfl rfl) ?_
   refine r_d rfl rfl rfl (s_cmp rfl rfl rfl rfl) ?_
   refine r_d rfl rfl rfl (s_assign rfl rfl) ?_
   refine r_end ?_
   obtain rfl := Option.some.inj hr
   refine g_ret Try.func15 _ (.cons (resTmp rfl (Wk.refl _)) .nil) ?_
   rfl
  ·
   refine g_sub [(0, .lst (l_a0.map encG)), (1, .int .i64 most_a1), (5, .int .i64 ((0 : Nat) : Int))] (Sub.cons' rfl (Sub.cons' rfl (Sub.cons' rfl (Sub.nil _)))) ?_
   refine g_loop (fun n env σ => ∃ (most_1 : Int) (i_2 : Nat), (n = l_a0.length - i_2) ∧ (env = [(0, .lst (l_a0.map encG)), (1, .int .i64 most_1), (5, .int .i64 (i_2 : Int))]) ∧ (σ = []) ∧ (i_2 ≤ l_a0.length) ∧ (lf_constraintref03_GreatGoals_L0 kk0 (l_a0.drop i_2) most_1 = some res)) _ ⟨most_a1, 0, rfl, rfl, rfl, Nat.zero_le _, hr⟩ ?_
   rintro n _ _ ⟨most_1, i_2, rfl, rfl, rfl, hi0, hr⟩ IH0
   rcases listStep l_a0 i_2 hi0 with ⟨ht0, hd0, he0⟩ | ⟨q_4, ht0, hd0, hq0, hlt0⟩
   ·
    rw [hd0, lf_constraintref03_GreatGoals_L0] at hr
    refine g_seq ?_
    refine g_seq ?_
    refine g_run (by kernel_rfl) [(0, .d), (1, .d), (2, .d), (3, .d), (4, .d), (5, .d), (6, .d), (7, .d)] rfl ?_
    refine r_d rfl rfl rfl (s_move rfl rfl) ?_
    refine r_d rfl rfl rfl (s_move rfl rfl) ?_
    refine r_d rfl rfl rfl (m_len (f := encG) l_a0 rfl el_L_api_Goal rfl (asl rfl)) ?_
    refine r_d rfl rfl rfl (s_cmp rfl rfl rfl rfl) ?_
    refine r_d rfl rfl rfl (s_move rfl rfl) ?_
    refine r_known 10 false rfl ht0 ?_
    refine r_skip rfl rfl rfl ?_
    refine r_skip rfl rfl rfl ?_
    refine r_d rfl rfl rfl (s_pickF rfl rfl rfl) ?_
    refine r_end ?_
    refine g_condF rfl ?_
    refine g_exit rfl ?_
    refine g_sub [(1, .int .i64 most_1)] (Sub.cons' rfl (Sub.nil _)) ?_
    exact HK0 _ _ ⟨most_1, rfl, rfl, hr⟩
   ·
    rw [hd0, lf_constraintref03_GreatGoals_L0] at hr
    refine g_seq ?_
    refine g_seq ?_
    refine g_run (by kernel_rfl) [(0, .d), (1, .d), (2, .d), (3, .d), (4, .d), (5, .d), (6, .d), (7, .d)] rfl ?_
    refine r_d rfl rfl rfl (s_move rfl rfl) ?_
    refine r_d rfl rfl rfl (s_move rfl rfl) ?_
    refine r_d rfl rfl rfl (m_len (f := encG) l_a0 rfl el_L_api_Goal rfl (asl rfl)) ?_
    refine r_d rfl rfl rfl (s_cmp rfl rfl rfl rfl) ?_
    refine r_d rfl rfl rfl (s_move rfl rfl) ?_
    refine r_known 10 true rfl ht0 ?_
    refine r_d rfl rfl rfl (s_move rfl rfl) ?_
    refine r_d rfl rfl rfl (s_cmp rfl rfl rfl rfl) ?_
    refine r_d rfl rfl rfl (s_pickT rfl rfl rfl) ?_
    refine r_end ?_
    refine g_sB 13 rfl hr (fun h13_4 hr => ?_) (fun h13_4 hr => ?_)
    ·
     refine g_condT rfl ?_
     refine g_skip ?_
     refine g_seq ?_
     refine g_block ?_
     refine g_any (by kernel_rfl) (by kernel_rfl) [(0, .d), (1, .d), (2, .d), (3, .d), (4, .d), (5, .d), (6, .d), (7, .d), (8, .d), (9, .d), (10, .d), (11, .d), (12, .d), (13, .d), (14, .d), (15, .d), (16, .d)] (by kernel_rfl) ?_
     refine r_d rfl rfl rfl (s_move rfl rfl) ?_
     refine r_d rfl rfl rfl (s_move rfl rfl) ?_
     refine r_d rfl rfl rfl (m_index (f := encG) l_a0 rfl el_L_api_Goal rfl (asl rfl) rfl hq0 sz_encG rfl) ?_
     refine r_d rfl rfl rfl (s_fieldAddr rfl fl_api_Goal_2 rfl rfl rfl rfl) ?_
     refine r_d rfl rfl rfl (s_load rfl rfl (by exact ty_L_api_Term) rfl) ?_
     refine r_d rfl rfl rfl (s_move rfl rfl) ?_
     refine r_d rfl rfl rfl (s_arW rfl rfl rfl rfl) ?_
     refine r_d rfl rfl rfl (s_move rfl rfl) ?_
     refine r_d rfl rfl rfl (s_move rfl rfl) ?_
     refine r_d rfl rfl rfl (m_index (f := encG) l_a0 rfl el_L_api_Goal rfl (asl rfl) rfl hq0 sz_encG rfl) ?_
     refine r_d rfl rfl rfl (s_fieldAddr rfl fl_api_Goal_1 rfl rfl rfl rfl) ?_
     refine r_d rfl rfl rfl (s_load rfl rfl (by exact ty_string) rfl) ?_
     refine r_d rfl rfl rfl (s_lenS rfl Try.underlying9 rfl) ?_
     refine r_d rfl rfl rfl (s_quoC rfl rfl rfl (by decide)) ?_
     refine r_d rfl rfl rfl (s_arW rfl rfl rfl rfl) ?_
     obtain ⟨r_6, hr_6, hr⟩ := bindS hr
     refine r_d rfl rfl rfl (s_callD rfl cl_constraintref03_weigh (.cons rfl (Wk.refl _) (.cons rfl (Wk.refl _) (.cons rfl (Wk.refl _) .nil))) (lx_constraintref03_weigh _ _ _ _ hr_6)) ?_
     refine r_d rfl rfl rfl (s_assign rfl rfl) ?_
     refine r_end ?_
     refine g_inBlock ?_
     refine g_run (by kernel_rfl) [(0, .d), (1, .d), (2, .d)] rfl ?_
     refine r_d rfl rfl rfl (s_move rfl rfl) ?_
     refine r_d rfl rfl rfl (s_ar (r := ((i_2 + 1 : Nat) : Int)) rfl rfl rfl (by simp [iar]) (by omega)) ?_
     refine r_d rfl rfl rfl (s_assign rfl rfl) ?_
     refine r_end ?_
     refine g_sub [(0, .lst (l_a0.map encG)), (1, .int .i64 r_6), (5, .int .i64 ((i_2 + 1 : Nat) : Int))] (Sub.cons' rfl (Sub.cons' rfl (Sub.cons' rfl (Sub.nil _)))) ?_
     exact IH0 _ _ _ (by omega) ⟨r_6, (i_2 + 1), rfl, rfl, rfl, (by omega), hr⟩
    ·
     refine g_condF rfl ?_
     refine g_exit rfl ?_
     refine g_sub [(1, .int .i64 most_1)] (Sub.cons' rfl (Sub.nil _)) ?_
     exact HK0 _ _ ⟨most_1, rfl, rfl, hr⟩

noncomputable def lf_constraintref03_GreatRules_L0 (k : Option (Bool)) (l_a0 : (List S_api_Rule)) (most_a1 : Int) : List S_api_Rule → Option (Bool)
  | [] =>
  k
  | q_2 :: rest =>
  (bif (decide ((l_a0.length : Int) > most_a1)) then
  some (true)
  else
  (bif (decide ((wr ((wr ((wr (Int.tdiv (q_2.f0_Name.size : Int) 8)) + (q_2.f1_Keep.length : Int))) + (q_2.f2_Remove.length : Int))) > most_a1)) then
  some (true)
  else
  ((lf_constraintref03_GreatAtoms q_2.f1_Keep most_a1).bind fun r_6 =>
  (bif r_6 then
  some (true)
  else
  ((lf_constraintref03_GreatAtoms q_2.f2_Remove most_a1).bind fun r_8 =>
  (bif r_8 then
  some (true)
  else
  ((lf_constraintref03_GreatGoals q_2.f3_Guard most_a1).bind fun r_10 =>
  (bif r_10 then
  some (true)
  else
  ((lf_constraintref03_GreatGoals q_2.f4_Body most_a1).bind fun r_12 =>
  (bif r_12 then
  some (true)
  else
  (lf_constraintref03_GreatRules_L0 k l_a0 most_a1 rest)))))))))))
noncomputable def lf_constraintref03_GreatRules (l_a0 : (List S_api_Rule)) (most_a1 : Int) : Option (Bool) :=
  (lf_constraintref03_GreatRules_L0 (some (false)) l_a0 most_a1 l_a0)

set_option maxHeartbeats 1000000 in
theorem lg_constraintref03_GreatRules (l_a0 : (List S_api_Rule)) (most_a1 : Int) (res : Bool) (hr : lf_constraintref03_GreatRules l_a0 most_a1 = some res) : Gives Try.prog 23 [.lst (l_a0.map enc_S_api_Rule), .int .i64 most_a1] (.bool res) := by
  unfold lf_constraintref03_GreatRules at hr
  refine spec_env [(0, .lst (l_a0.map enc_S_api_Rule)), (1, .int .i64 most_a1)] Try.func23 rfl rfl fun K hK => ?_
  refine g_seq ?_
  refine g_run (by kernel_rfl) [(0, .d)] rfl ?_
  refine r_d rfl rfl rfl (s_assign rfl rfl) ?_
  refine r_end ?_
  refine g_seq ?_
  refine g_seq ?_
  refine g_run (by kernel_rfl) [(0, .d)] rfl ?_
  refine r_d rfl rfl rfl (s_assign rfl rfl) ?_
  refine r_end ?_
  obtain ⟨kk0, hkk0, hr⟩ := exK (fun k => lf_constraintref03_GreatRules_L0 k l_a0 most_a1 l_a0) hr
  refine g_len 0 rfl (asl rfl) fun hla0 => ?_
  simp only [List.length_map] at hla0
  refine g_blockJ (fun env σ => env = [] ∧ σ = [] ∧ kk0 = some res) ?_ (fun HK0 => ?_)
  ·
   rintro _ _ ⟨rfl, rfl, hr⟩
   rw [hkk0] at hr
   refine g_seq ?_
   refine g_run (by kernel_rfl) [(0, .d)] rfl ?_
   refine r_d rfl rfl rfl (s_assign rfl rfl) ?_
   refine r_end ?_
   obtain rfl := Option.some.inj hr
   refine g_ret Try.func23 _ (.cons (resTmp rfl (Wk.refl _)) .nil) ?_
   rfl
  ·
   refine g_sub [(0, .lst (l_a0.map enc_S_api_Rule)), (1, .int .i64 most_a1), (5, .int .i64 ((0 : Nat) : Int))] (Sub.cons' rfl (Sub.cons' rfl (Sub.cons' rfl (Sub.nil _)))) ?_
   refine g_loop (fun n env σ => ∃ (i_1 : Nat), (n = l_a0.length - i_1) ∧ (env = [(0, .lst (l_a0.map enc_S_api_Rule)), (1, .int .i64 most_a1), (5, .int .i64 (i_1 : Int))]) ∧ (σ = []) ∧ (i_1 ≤ l_a0.length) ∧ (lf_constraintref03_GreatRules_L0 kk0 l_a0 most_a1 (l_a0.drop i_1) = some res)) _ ⟨0, rfl, rfl, rfl, Nat.zero_le _, hr⟩ ?_
   rintro n _ _ ⟨i_1, rfl, rfl, rfl, hi0, hr⟩ IH0
   rcases listStep l_a0 i_1 hi0 with ⟨ht0, hd0, he0⟩ | ⟨q_2, ht0, hd0, hq0, hlt0⟩
   ·
    rw [hd0, lf_constraintref03_GreatRules_L0] at hr
    refine g_seq ?_
    refine g_seq ?_
    refine g_run (by kernel_rfl) [(0, .d), (1, .d), (2, .d), (3, .d)] rfl ?_
    refine r_d rfl rfl rfl (s_move rfl rfl) ?_
    refine r_d rfl rfl rfl (s_move rfl rfl) ?_
    refine r_d rfl rfl rfl (m_len (f := enc_S_api_Rule) l_a0 rfl el_L_api_Rule rfl (asl rfl)) ?_
    refine r_d rfl rfl rfl (s_cmp rfl rfl rfl rfl) ?_
    refine r_end ?_
    refine g_known 10 false rfl ht0 ?_
    refine g_condF rfl ?_
    refine g_exit rfl ?_
    refine g_sub [] (Sub.nil _) ?_
    exact HK0 _ _ ⟨rfl, rfl, hr⟩
   ·
    rw [hd0, lf_constraintref03_GreatRules_L0] at hr
    refine g_seq ?_
    refine g_seq ?_
    refine g_run (by kernel_rfl) [(0, .d), (1, .d), (2, .d), (3, .d)] rfl ?_
    refine r_d rfl rfl rfl (s_move rfl rfl) ?_
    refine r_d rfl rfl rfl (s_move rfl rfl) ?_
    refine r_d rfl rfl rfl (m_len (f := enc_S_api_Rule) l_a0 rfl el_L_api_Rule rfl (asl rfl)) ?_
    refine r_d rfl rfl rfl (s_cmp rfl rfl rfl rfl) ?_
    refine r_end ?_
    refine g_known 10 true rfl ht0 ?_
    refine g_condT rfl ?_
    refine g_skip ?_
    refine g_seq ?_
    refine g_block ?_
    refine g_seq ?_
    refine g_run (by kernel_rfl) [(0, .d), (1, .d), (2, .d), (3, .d), (4, .w), (5, .w)] rfl ?_
    refine r_d rfl rfl rfl (s_move rfl rfl) ?_
    refine r_d rfl rfl rfl (s_move rfl rfl) ?_
    refine r_d rfl rfl rfl (m_index (f := enc_S_api_Rule) l_a0 rfl el_L_api_Rule rfl (asl rfl) rfl hq0 sz_S_api_Rule rfl) ?_
    refine r_d rfl rfl rfl (s_load rfl rfl (by exact ty_api_Rule) (sz_S_api_Rule _)) ?_
    refine r_w rfl rfl rfl (s_alloc rfl zv_api_Rule) ?_
    rintro _ _ ⟨b6_2, rfl, rfl⟩
    refine r_w01 rfl rfl rfl (t_store0 _ rfl rfl rfl (Wk.refl _) (pf0 _) (by exact ty_api_Rule) (sz_S_api_Rule _) rfl rfl) ?_
    refine r_end ?_
    refine g_freeze 6 b6_2 rfl (pf0 _) ?_
    refine g_seq ?_
    refine g_run (by kernel_rfl) [(0, .d), (1, .d), (2, .d), (3, .d), (4, .d), (5, .d), (6, .d), (7, .d), (8, .d), (9, .d), (10, .d), (11, .d), (12, .d), (13, .d), (14, .d), (15, .d), (16, .d), (17, .d), (18, .d), (19, .d), (20, .d), (21, .d), (22, .d), (23, .d), (24, .d), (25, .d), (26, .d), (27, .d), (28, .d), (29, .d), (30, .d), (31, .d), (32, .d), (33, .d), (34, .d), (35, .d), (36, .d), (37, .d), (38, .d), (39, .d), (40, .d), (41, .d), (42, .d), (43, .d)] rfl ?_
    refine r_d rfl rfl rfl (s_move rfl rfl) ?_
    refine r_d rfl rfl rfl (m_len (f := enc_S_api_Rule) l_a0 rfl el_L_api_Rule rfl (asl rfl)) ?_
    refine r_d rfl rfl rfl (s_move rfl rfl) ?_
    refine r_d rfl rfl rfl (s_cmp rfl rfl rfl rfl) ?_
    refine r_d rfl rfl rfl (s_move rfl rfl) ?_
    refine r_sB 21 rfl hr (fun h21_3 hr => ?_) (fun h21_3 hr => ?_)
    ·
     refine r_skip rfl rfl rfl ?_
     refine r_skip rfl rfl rfl ?_
     refine r_skip rfl rfl rfl ?_
     refine r_skip rfl rfl rfl ?_
     refine r_skip rfl rfl rfl ?_
     refine r_skip rfl rfl rfl ?_
     refine r_skip rfl rfl rfl ?_
     refine r_skip rfl rfl rfl ?_
     refine r_skip rfl rfl rfl ?_
     refine r_skip rfl rfl rfl ?_
     refine r_skip rfl rfl rfl ?_
     refine r_skip rfl rfl rfl ?_
     refine r_skip rfl rfl rfl ?_
     refine r_skip rfl rfl rfl ?_
     refine r_d rfl rfl rfl (s_pickT rfl rfl rfl) ?_
     refine r_d rfl rfl rfl (s_move rfl rfl) ?_
     refine r_skip rfl rfl rfl ?_
     refine r_skip rfl rfl rfl ?_
     refine r_skip rfl rfl rfl ?_
     refine r_skip rfl rfl rfl ?_
     refine r_d rfl rfl rfl (s_pickT rfl rfl rfl) ?_
     refine r_d rfl rfl rfl (s_move rfl rfl) ?_
     refine r_skip rfl rfl rfl ?_
     refine r_skip rfl rfl rfl ?_
     refine r_skip rfl rfl rfl ?_
     refine r_skip rfl rfl rfl ?_
     refine r_d rfl rfl rfl (s_pickT rfl rfl rfl) ?_
     refine r_d rfl rfl rfl (s_move rfl rfl) ?_
     refine r_skip rfl rfl rfl ?_
     refine r_skip rfl rfl rfl ?_
     refine r_skip rfl rfl rfl ?_
     refine r_skip rfl rfl rfl ?_
     refine r_d rfl rfl rfl (s_pickT rfl rfl rfl) ?_
     refine r_d rfl rfl rfl (s_move rfl rfl) ?_
     refine r_skip rfl rfl rfl ?_
     refine r_skip rfl rfl rfl ?_
     refine r_skip rfl rfl rfl ?_
     refine r_skip rfl rfl rfl ?_
     refine r_d rfl rfl rfl (s_pickT rfl rfl rfl) ?_
     refine r_end ?_
     refine g_condT rfl ?_
     refine g_seq ?_
     refine g_run (by kernel_rfl) [(0, .d)] rfl ?_
     refine r_d rfl rfl rfl (s_assign rfl rfl) ?_
     refine r_end ?_
     obtain rfl := Option.some.inj hr
     refine g_ret Try.func23 _ (.cons (resTmp rfl (Wk.refl _)) .nil) ?_
     rfl
    ·
     refine r_d rfl rfl rfl (s_fieldAddr rfl fl_api_Rule_0 rfl rfl rfl rfl) ?_
     refine r_d rfl rfl rfl (s_load rfl rfl (by exact ty_string) rfl) ?_
     refine r_d rfl rfl rfl (s_lenS rfl Try.underlying9 rfl) ?_
     refine r_d rfl rfl rfl (s_quoC rfl rfl rfl (by decide)) ?_
     refine r_d rfl rfl rfl (s_fieldAddr rfl fl_api_Rule_1 rfl rfl rfl rfl) ?_
     refine r_d rfl rfl rfl (s_load rfl rfl (by exact ty_L_api_Atom) rfl) ?_
     refine r_d rfl rfl rfl (m_len (f := encA) q_2.f1_Keep rfl el_L_api_Atom rfl (asl rfl)) ?_
     refine r_d rfl rfl rfl (s_arW rfl rfl rfl rfl) ?_
     refine r_d rfl rfl rfl (s_fieldAddr rfl fl_api_Rule_2 rfl rfl rfl rfl) ?_
     refine r_d rfl rfl rfl (s_load rfl rfl (by exact ty_L_api_Atom) rfl) ?_
     refine r_d rfl rfl rfl (m_len (f := encA) q_2.f2_Remove rfl el_L_api_Atom rfl (asl rfl)) ?_
     refine r_d rfl rfl rfl (s_arW rfl rfl rfl rfl) ?_
     refine r_d rfl rfl rfl (s_move rfl rfl) ?_
     refine r_d rfl rfl rfl (s_cmp rfl rfl rfl rfl) ?_
     refine r_d rfl rfl rfl (s_pickF rfl rfl rfl) ?_
     refine r_d rfl rfl rfl (s_move rfl rfl) ?_
     refine r_sB 37 rfl hr (fun h37_4 hr => ?_) (fun h37_4 hr => ?_)
     ·
      refine r_skip rfl rfl rfl ?_
      refine r_skip rfl rfl rfl ?_
      refine r_skip rfl rfl rfl ?_
      refine r_skip rfl rfl rfl ?_
      refine r_d rfl rfl rfl (s_pickT rfl rfl rfl) ?_
      refine r_d rfl rfl rfl (s_move rfl rfl) ?_
      refine r_skip rfl rfl rfl ?_
      refine r_skip rfl rfl rfl ?_
      refine r_skip rfl rfl rfl ?_
      refine r_skip rfl rfl rfl ?_
      refine r_d rfl rfl rfl (s_pickT rfl rfl rfl) ?_
      refine r_d rfl rfl rfl (s_move rfl rfl) ?_
      refine r_skip rfl rfl rfl ?_
      refine r_skip rfl rfl rfl ?_
      refine r_skip rfl rfl rfl ?_
      refine r_skip rfl rfl rfl ?_
      refine r_d rfl rfl rfl (s_pickT rfl rfl rfl) ?_
      refine r_d rfl rfl rfl (s_move rfl rfl) ?_
      refine r_skip rfl rfl rfl ?_
      refine r_skip rfl rfl rfl ?_
      refine r_skip rfl rfl rfl ?_
      refine r_skip rfl rfl rfl ?_
      refine r_d rfl rfl rfl (s_pickT rfl rfl rfl) ?_
      refine r_end ?_
      refine g_condT rfl ?_
      refine g_seq ?_
      refine g_run (by kernel_rfl) [(0, .d)] rfl ?_
      refine r_d rfl rfl rfl (s_assign rfl rfl) ?_
      refine r_end ?_
      obtain rfl := Option.some.inj hr
      refine g_ret Try.func23 _ (.cons (resTmp rfl (Wk.refl _)) .nil) ?_
      rfl
     ·
      refine r_d rfl rfl rfl (s_fieldAddr rfl fl_api_Rule_1 rfl rfl rfl rfl) ?_
      refine r_d rfl rfl rfl (s_load rfl rfl (by exact ty_L_api_Atom) rfl) ?_
      refine r_d rfl rfl rfl (s_move rfl rfl) ?_
      obtain ⟨r_6, hr_6, hr⟩ := bindS hr
      refine r_d rfl rfl rfl (s_callD rfl cl_constraintref03_GreatAtoms (.cons rfl (Wk.refl _) (.cons rfl (Wk.refl _) .nil)) (lg_constraintref03_GreatAtoms _ _ _ hr_6)) ?_
      refine r_d rfl rfl rfl (s_pickF rfl rfl rfl) ?_
      refine r_d rfl rfl rfl (s_move rfl rfl) ?_
      refine r_sB 43 rfl hr (fun h43_6 hr => ?_) (fun h43_6 hr => ?_)
      ·
       refine r_skip rfl rfl rfl ?_
       refine r_skip rfl rfl rfl ?_
       refine r_skip rfl rfl rfl ?_
       refine r_skip rfl rfl rfl ?_
       refine r_d rfl rfl rfl (s_pickT rfl rfl rfl) ?_
       refine r_d rfl rfl rfl (s_move rfl rfl) ?_
       refine r_skip rfl rfl rfl ?_
       refine r_skip rfl rfl rfl ?_
       refine r_skip rfl rfl rfl ?_
       refine r_skip rfl rfl rfl ?_
       refine r_d rfl rfl rfl (s_pickT rfl rfl rfl) ?_
       refine r_d rfl rfl rfl (s_move rfl rfl) ?_
       refine r_skip rfl rfl rfl ?_
       refine r_skip rfl rfl rfl ?_
       refine r_skip rfl rfl rfl ?_
       refine r_skip rfl rfl rfl ?_
       refine r_d rfl rfl rfl (s_pickT rfl rfl rfl) ?_
       refine r_end ?_
       refine g_condT rfl ?_
       refine g_seq ?_
       refine g_run (by kernel_rfl) [(0, .d)] rfl ?_
       refine r_d rfl rfl rfl (s_assign rfl rfl) ?_
       refine r_end ?_
       obtain rfl := Option.some.inj hr
       refine g_ret Try.func23 _ (.cons (resTmp rfl (Wk.refl _)) .nil) ?_
       rfl
      ·
       refine r_d rfl rfl rfl (s_fieldAddr rfl fl_api_Rule_2 rfl rfl rfl rfl) ?_
       refine r_d rfl rfl rfl (s_load rfl rfl (by exact ty_L_api_Atom) rfl) ?_
       refine r_d rfl rfl rfl (s_move rfl rfl) ?_
       obtain ⟨r_8, hr_8, hr⟩ := bindS hr
       refine r_d rfl rfl rfl (s_callD rfl cl_constraintref03_GreatAtoms (.cons rfl (Wk.refl _) (.cons rfl (Wk.refl _) .nil)) (lg_constraintref03_GreatAtoms _ _ _ hr_8)) ?_
       refine r_d rfl rfl rfl (s_pickF rfl rfl rfl) ?_
       refine r_d rfl rfl rfl (s_move rfl rfl) ?_
       refine r_sB 49 rfl hr (fun h49_8 hr => ?_) (fun h49_8 hr => ?_)
       ·
        refine r_skip rfl rfl rfl ?_
        refine r_skip rfl rfl rfl ?_
        refine r_skip rfl rfl rfl ?_
        refine r_skip rfl rfl rfl ?_
        refine r_d rfl rfl rfl (s_pickT rfl rfl rfl) ?_
        refine r_d rfl rfl rfl (s_move rfl rfl) ?_
        refine r_skip rfl rfl rfl ?_
        refine r_skip rfl rfl rfl ?_
        refine r_skip rfl rfl rfl ?_
        refine r_skip rfl rfl rfl ?_
        refine r_d rfl rfl rfl (s_pickT rfl rfl rfl) ?_
        refine r_end ?_
        refine g_condT rfl ?_
        refine g_seq ?_
        refine g_run (by kernel_rfl) [(0, .d)] rfl ?_
        refine r_d rfl rfl rfl (s_assign rfl rfl) ?_
        refine r_end ?_
        obtain rfl := Option.some.inj hr
        refine g_ret Try.func23 _ (.cons (resTmp rfl (Wk.refl _)) .nil) ?_
        rfl
       ·
        refine r_d rfl rfl rfl (s_fieldAddr rfl fl_api_Rule_3 rfl rfl rfl rfl) ?_
        refine r_d rfl rfl rfl (s_load rfl rfl (by exact ty_L_api_Goal) rfl) ?_
        refine r_d rfl rfl rfl (s_move rfl rfl) ?_
        obtain ⟨r_10, hr_10, hr⟩ := bindS hr
        refine r_d rfl rfl rfl (s_callD rfl cl_constraintref03_GreatGoals (.cons rfl (Wk.refl _) (.cons rfl (Wk.refl _) .nil)) (lg_constraintref03_GreatGoals _ _ _ hr_10)) ?_
        refine r_d rfl rfl rfl (s_pickF rfl rfl rfl) ?_
        refine r_d rfl rfl rfl (s_move rfl rfl) ?_
        refine r_sB 55 rfl hr (fun h55_10 hr => ?_) (fun h55_10 hr => ?_)
        ·
         refine r_skip rfl rfl rfl ?_
         refine r_skip rfl rfl rfl ?_
         refine r_skip rfl rfl rfl ?_
         refine r_skip rfl rfl rfl ?_
         refine r_d rfl rfl rfl (s_pickT rfl rfl rfl) ?_
         refine r_end ?_
         refine g_condT rfl ?_
         refine g_seq ?_
         refine g_run (by kernel_rfl) [(0, .d)] rfl ?_
         refine r_d rfl rfl rfl (s_assign rfl rfl) ?_
         refine r_end ?_
         obtain rfl := Option.some.inj hr
         refine g_ret Try.func23 _ (.cons (resTmp rfl (Wk.refl _)) .nil) ?_
         rfl
        ·
         refine r_d rfl rfl rfl (s_fieldAddr rfl fl_api_Rule_4 rfl rfl rfl rfl) ?_
         refine r_d rfl rfl rfl (s_load rfl rfl (by exact ty_L_api_Goal) rfl) ?_
         refine r_d rfl rfl rfl (s_move rfl rfl) ?_
         obtain ⟨r_12, hr_12, hr⟩ := bindS hr
         refine r_d rfl rfl rfl (s_callD rfl cl_constraintref03_GreatGoals (.cons rfl (Wk.refl _) (.cons rfl (Wk.refl _) .nil)) (lg_constraintref03_GreatGoals _ _ _ hr_12)) ?_
         refine r_d rfl rfl rfl (s_pickF rfl rfl rfl) ?_
         refine r_end ?_
         refine g_sB 60 rfl hr (fun h60_12 hr => ?_) (fun h60_12 hr => ?_)
         ·
          refine g_condT rfl ?_
          refine g_seq ?_
          refine g_run (by kernel_rfl) [(0, .d)] rfl ?_
          refine r_d rfl rfl rfl (s_assign rfl rfl) ?_
          refine r_end ?_
          obtain rfl := Option.some.inj hr
          refine g_ret Try.func23 _ (.cons (resTmp rfl (Wk.refl _)) .nil) ?_
          rfl
         ·
          refine g_condF rfl ?_
          refine g_skip ?_
          refine g_inBlock ?_
          refine g_run (by kernel_rfl) [(0, .d), (1, .d), (2, .d)] rfl ?_
          refine r_d rfl rfl rfl (s_move rfl rfl) ?_
          refine r_d rfl rfl rfl (s_ar (r := ((i_1 + 1 : Nat) : Int)) rfl rfl rfl (by simp [iar]) (by omega)) ?_
          refine r_d rfl rfl rfl (s_assign rfl rfl) ?_
          refine r_end ?_
          refine g_sub [(0, .lst (l_a0.map enc_S_api_Rule)), (1, .int .i64 most_a1), (5, .int .i64 ((i_1 + 1 : Nat) : Int))] (Sub.cons' rfl (Sub.cons' rfl (Sub.cons' rfl (Sub.nil _)))) ?_
          exact IH0 _ _ _ (by omega) ⟨(i_1 + 1), rfl, rfl, rfl, (by omega), hr⟩

noncomputable def lf_constraintref15_Great_L0 (k : Option (Bool)) : List S_api_Decl → Option (Bool)
  | [] =>
  k
  | q_5 :: rest =>
  (bif (decide ((q_5.f0_Name.size : Int) > (200 : Int))) then
  some (true)
  else
  (lf_constraintref15_Great_L0 k rest))
noncomputable def lf_constraintref15_Great (p_a0 : S_api_Program) (most_a1 : Int) : Option (Bool) :=
  (bif (decide ((p_a0.f0_Decls.length : Int) > (60 : Int))) then
  some (true)
  else
  (bif (decide ((p_a0.f1_Rules.length : Int) > (60 : Int))) then
  some (true)
  else
  (lf_constraintref15_Great_L0 (((lf_constraintref03_GreatRules p_a0.f1_Rules most_a1).bind fun r_4 =>
  some (r_4))) p_a0.f0_Decls)))

set_option maxHeartbeats 1000000 in
theorem lg_constraintref15_Great (p_a0 : S_api_Program) (most_a1 : Int) (res : Bool) (hr : lf_constraintref15_Great p_a0 most_a1 = some res) : Gives Try.prog 9 [enc_S_api_Program p_a0, .int .i64 most_a1] (.bool res) := by
  unfold lf_constraintref15_Great at hr
  refine spec_env [(0, enc_S_api_Program p_a0), (1, .int .i64 most_a1)] Try.func9 rfl rfl fun K hK => ?_
  refine g_seq ?_
  refine g_run (by kernel_rfl) [(0, .d), (1, .d)] rfl ?_
  refine r_d rfl rfl rfl (s_box rfl rfl rfl) ?_
  refine r_d rfl rfl rfl (s_assign rfl rfl) ?_
  refine r_end ?_
  refine g_seq ?_
  refine g_seq ?_
  refine g_run (by kernel_rfl) [(0, .d), (1, .d), (2, .d), (3, .d), (4, .d), (5, .d), (6, .d), (7, .d), (8, .d), (9, .d)] rfl ?_
  refine r_d rfl rfl rfl (s_fieldAddr rfl fl_api_Program_0 rfl rfl rfl rfl) ?_
  refine r_d rfl rfl rfl (s_load rfl rfl (by exact ty_L_api_Decl) rfl) ?_
  refine r_d rfl rfl rfl (m_len (f := enc_S_api_Decl) p_a0.f0_Decls rfl el_L_api_Decl rfl (asl rfl)) ?_
  refine r_d rfl rfl rfl (s_cmp rfl rfl rfl rfl) ?_
  refine r_d rfl rfl rfl (s_move rfl rfl) ?_
  refine r_sB 10 rfl hr (fun h10_0 hr => ?_) (fun h10_0 hr => ?_)
  ·
   refine r_skip rfl rfl rfl ?_
   refine r_skip rfl rfl rfl ?_
   refine r_skip rfl rfl rfl ?_
   refine r_skip rfl rfl rfl ?_
   refine r_d rfl rfl rfl (s_pickT rfl rfl rfl) ?_
   refine r_end ?_
   refine g_condT rfl ?_
   refine g_seq ?_
   refine g_run (by kernel_rfl) [(0, .d)] rfl ?_
   refine r_d rfl rfl rfl (s_assign rfl rfl) ?_
   refine r_end ?_
   obtain rfl := Option.some.inj hr
   refine g_ret Try.func9 _ (.cons (resTmp rfl (Wk.refl _)) .nil) ?_
   rfl
  ·
   refine r_d rfl rfl rfl (s_fieldAddr rfl fl_api_Program_1 rfl rfl rfl rfl) ?_
   refine r_d rfl rfl rfl (s_load rfl rfl (by exact ty_L_api_Rule) rfl) ?_
   refine r_d rfl rfl rfl (m_len (f := enc_S_api_Rule) p_a0.f1_Rules rfl el_L_api_Rule rfl (asl rfl)) ?_
   refine r_d rfl rfl rfl (s_cmp rfl rfl rfl rfl) ?_
   refine r_d rfl rfl rfl (s_pickF rfl rfl rfl) ?_
   refine r_end ?_
   refine g_sB 15 rfl hr (fun h15_1 hr => ?_) (fun h15_1 hr => ?_)
   ·
    refine g_condT rfl ?_
    refine g_seq ?_
    refine g_run (by kernel_rfl) [(0, .d)] rfl ?_
    refine r_d rfl rfl rfl (s_assign rfl rfl) ?_
    refine r_end ?_
    obtain rfl := Option.some.inj hr
    refine g_ret Try.func9 _ (.cons (resTmp rfl (Wk.refl _)) .nil) ?_
    rfl
   ·
    refine g_condF rfl ?_
    refine g_skip ?_
    refine g_seq ?_
    refine g_seq ?_
    refine g_run (by kernel_rfl) [(0, .d)] rfl ?_
    refine r_d rfl rfl rfl (s_assign rfl rfl) ?_
    refine r_end ?_
    obtain ⟨kk0, hkk0, hr⟩ := exK (fun k => lf_constraintref15_Great_L0 k p_a0.f0_Decls) hr
    refine g_len 7 rfl (asl rfl) fun hla0 => ?_
    simp only [List.length_map] at hla0
    refine g_blockJ (fun env σ => env = [(1, .int .i64 most_a1), (2, .ptr (enc_S_api_Program p_a0))] ∧ σ = [] ∧ kk0 = some res) ?_ (fun HK0 => ?_)
    ·
     rintro _ _ ⟨rfl, rfl, hr⟩
     rw [hkk0] at hr
     refine g_seq ?_
     refine g_run (by kernel_rfl) [(0, .d), (1, .d), (2, .d), (3, .d), (4, .d)] rfl ?_
     refine r_d rfl rfl rfl (s_fieldAddr rfl fl_api_Program_1 rfl rfl rfl rfl) ?_
     refine r_d rfl rfl rfl (s_load rfl rfl (by exact ty_L_api_Rule) rfl) ?_
     refine r_d rfl rfl rfl (s_move rfl rfl) ?_
     obtain ⟨r_4, hr_4, hr⟩ := bindS hr
     refine r_d rfl rfl rfl (s_callD rfl cl_constraintref03_GreatRules (.cons rfl (Wk.refl _) (.cons rfl (Wk.refl _) .nil)) (lg_constraintref03_GreatRules _ _ _ hr_4)) ?_
     refine r_d rfl rfl rfl (s_assign rfl rfl) ?_
     refine r_end ?_
     obtain rfl := Option.some.inj hr
     refine g_ret Try.func9 _ (.cons (resTmp rfl (Wk.refl _)) .nil) ?_
     rfl
    ·
     refine g_sub [(1, .int .i64 most_a1), (2, .ptr (enc_S_api_Program p_a0)), (5, .int .i64 ((0 : Nat) : Int))] (Sub.cons' rfl (Sub.cons' rfl (Sub.cons' rfl (Sub.nil _)))) ?_
     refine g_loop (fun n env σ => ∃ (i_3 : Nat), (n = p_a0.f0_Decls.length - i_3) ∧ (env = [(1, .int .i64 most_a1), (2, .ptr (enc_S_api_Program p_a0)), (5, .int .i64 (i_3 : Int))]) ∧ (σ = []) ∧ (i_3 ≤ p_a0.f0_Decls.length) ∧ (lf_constraintref15_Great_L0 kk0 (p_a0.f0_Decls.drop i_3) = some res)) _ ⟨0, rfl, rfl, rfl, Nat.zero_le _, hr⟩ ?_
     rintro n _ _ ⟨i_3, rfl, rfl, rfl, hi0, hr⟩ IH0
     rcases listStep p_a0.f0_Decls i_3 hi0 with ⟨ht0, hd0, he0⟩ | ⟨q_5, ht0, hd0, hq0, hlt0⟩
     ·
      rw [hd0, lf_constraintref15_Great_L0] at hr
      refine g_seq ?_
      refine g_seq ?_
      refine g_run (by kernel_rfl) [(0, .d), (1, .d), (2, .d), (3, .d), (4, .d)] rfl ?_
      refine r_d rfl rfl rfl (s_move rfl rfl) ?_
      refine r_d rfl rfl rfl (s_fieldAddr rfl fl_api_Program_0 rfl rfl rfl rfl) ?_
      refine r_d rfl rfl rfl (s_load rfl rfl (by exact ty_L_api_Decl) rfl) ?_
      refine r_d rfl rfl rfl (m_len (f := enc_S_api_Decl) p_a0.f0_Decls rfl el_L_api_Decl rfl (asl rfl)) ?_
      refine r_d rfl rfl rfl (s_cmp rfl rfl rfl rfl) ?_
      refine r_end ?_
      refine g_known 20 false rfl ht0 ?_
      refine g_condF rfl ?_
      refine g_exit rfl ?_
      refine g_sub [(1, .int .i64 most_a1), (2, .ptr (enc_S_api_Program p_a0))] (Sub.cons' rfl (Sub.cons' rfl (Sub.nil _))) ?_
      exact HK0 _ _ ⟨rfl, rfl, hr⟩
     ·
      rw [hd0, lf_constraintref15_Great_L0] at hr
      refine g_seq ?_
      refine g_seq ?_
      refine g_run (by kernel_rfl) [(0, .d), (1, .d), (2, .d), (3, .d), (4, .d)] rfl ?_
      refine r_d rfl rfl rfl (s_move rfl rfl) ?_
      refine r_d rfl rfl rfl (s_fieldAddr rfl fl_api_Program_0 rfl rfl rfl rfl) ?_
      refine r_d rfl rfl rfl (s_load rfl rfl (by exact ty_L_api_Decl) rfl) ?_
      refine r_d rfl rfl rfl (m_len (f := enc_S_api_Decl) p_a0.f0_Decls rfl el_L_api_Decl rfl (asl rfl)) ?_
      refine r_d rfl rfl rfl (s_cmp rfl rfl rfl rfl) ?_
      refine r_end ?_
      refine g_known 20 true rfl ht0 ?_
      refine g_condT rfl ?_
      refine g_skip ?_
      refine g_seq ?_
      refine g_block ?_
      refine g_seq ?_
      refine g_run (by kernel_rfl) [(0, .d), (1, .d), (2, .d), (3, .d), (4, .d), (5, .d), (6, .d), (7, .d)] rfl ?_
      refine r_d rfl rfl rfl (s_fieldAddr rfl fl_api_Program_0 rfl rfl rfl rfl) ?_
      refine r_d rfl rfl rfl (s_load rfl rfl (by exact ty_L_api_Decl) rfl) ?_
      refine r_d rfl rfl rfl (s_move rfl rfl) ?_
      refine r_d rfl rfl rfl (m_index (f := enc_S_api_Decl) p_a0.f0_Decls rfl el_L_api_Decl rfl (asl rfl) rfl hq0 sz_S_api_Decl rfl) ?_
      refine r_d rfl rfl rfl (s_fieldAddr rfl fl_api_Decl_0 rfl rfl rfl rfl) ?_
      refine r_d rfl rfl rfl (s_load rfl rfl (by exact ty_string) rfl) ?_
      refine r_d rfl rfl rfl (s_lenS rfl Try.underlying9 rfl) ?_
      refine r_d rfl rfl rfl (s_cmp rfl rfl rfl rfl) ?_
      refine r_end ?_
      refine g_sB 30 rfl hr (fun h30_5 hr => ?_) (fun h30_5 hr => ?_)
      ·
       refine g_condT rfl ?_
       refine g_seq ?_
       refine g_run (by kernel_rfl) [(0, .d)] rfl ?_
       refine r_d rfl rfl rfl (s_assign rfl rfl) ?_
       refine r_end ?_
       obtain rfl := Option.some.inj hr
       refine g_ret Try.func9 _ (.cons (resTmp rfl (Wk.refl _)) .nil) ?_
       rfl
      ·
       refine g_condF rfl ?_
       refine g_skip ?_
       refine g_inBlock ?_
       refine g_run (by kernel_rfl) [(0, .d), (1, .d), (2, .d)] rfl ?_
       refine r_d rfl rfl rfl (s_move rfl rfl) ?_
       refine r_d rfl rfl rfl (s_ar (r := ((i_3 + 1 : Nat) : Int)) rfl rfl rfl (by simp [iar]) (by omega)) ?_
       refine r_d rfl rfl rfl (s_assign rfl rfl) ?_
       refine r_end ?_
       refine g_sub [(1, .int .i64 most_a1), (2, .ptr (enc_S_api_Program p_a0)), (5, .int .i64 ((i_3 + 1 : Nat) : Int))] (Sub.cons' rfl (Sub.cons' rfl (Sub.cons' rfl (Sub.nil _)))) ?_
       exact IH0 _ _ _ (by omega) ⟨(i_3 + 1), rfl, rfl, rfl, (by omega), hr⟩

noncomputable def lf_scope_need (ok_a0 : Bool) (e_a1 : Int) : Option (Int ⊕ (Unit)) :=
  (bif (!ok_a0) then
  some (.inl e_a1)
  else
  some (.inr ()))

set_option maxHeartbeats 1000000 in
theorem lg_scope_need (ok_a0 : Bool) (e_a1 : Int) (res : Int ⊕ (Unit)) (hr : lf_scope_need ok_a0 e_a1 = some res) : SpecX Try.prog 26 [.bool ok_a0, .int .i64 e_a1] [] (fun d _ => ∃ r : Unit, res = .inr r ∧ d = .tup []) (fun d => ∃ c, res = .inl c ∧ d = .ifc 83 (.agg [.int .i64 c])) := by
  unfold lf_scope_need at hr
  refine spec_envX [(0, .bool ok_a0), (1, .int .i64 e_a1)] Try.func26 rfl rfl fun K hK hX => ?_
  refine g_seq ?_
  refine g_run (by kernel_rfl) [(0, .d), (1, .d)] rfl ?_
  refine r_d rfl rfl rfl (s_move rfl rfl) ?_
  refine r_d rfl rfl rfl (s_not rfl rfl) ?_
  refine r_end ?_
  refine g_sB 5 rfl hr (fun h5_0 hr => ?_) (fun h5_0 hr => ?_)
  ·
   refine g_condT rfl ?_
   refine g_run (by kernel_rfl) [(0, .d), (1, .d), (2, .d), (3, .w)] rfl ?_
   refine r_d rfl rfl rfl (s_move rfl rfl) ?_
   refine r_d rfl rfl rfl (s_build rfl bt_scope_failure (.cons rfl (Wk.refl _) .nil) (.cons rfl rfl rfl (.nil _))) ?_
   refine r_d rfl rfl rfl (s_makeIfc rfl Try.underlying83 rfl) ?_
   obtain rfl := Option.some.inj hr
   refine r_die rfl rfl (s_panic rfl rfl) (hX _ ⟨_, rfl, rfl⟩)
  ·
   refine g_condF rfl ?_
   refine g_skip ?_
   obtain rfl := Option.some.inj hr
   refine g_end Try.func26 _ .nil ?_
   exact ⟨_, rfl, rfl⟩

noncomputable def lf_scope_Check_1_L0 (k : Option (Int ⊕ (Unit))) : List S_api_Decl → (List (S_api_Decl × Bool)) → Option (Int ⊕ (Unit))
  | [], mm_4 =>
  k
  | q_6 :: rest, mm_4 =>
  ((x_isName q_6.f0_Name).bind fun r_8 =>
  (bindX (lf_scope_need r_8 7) fun r_9 =>
  (bif (decide (q_6.f1_Arity ≥ (0 : Int))) then
  (bindX (lf_scope_need (decide (q_6.f1_Arity ≤ (6 : Int))) 9) fun r_11 =>
  (bindX (lf_scope_need (!((mget mm_4 q_6).getD false)) 8) fun r_12 =>
  ((mputO mm_4 q_6 true).bind fun mm_13 =>
  (lf_scope_Check_1_L0 k rest mm_13))))
  else
  (bindX (lf_scope_need false 9) fun r_14 =>
  (bindX (lf_scope_need (!((mget mm_4 q_6).getD false)) 8) fun r_15 =>
  ((mputO mm_4 q_6 true).bind fun mm_16 =>
  (lf_scope_Check_1_L0 k rest mm_16)))))))
noncomputable def lf_scope_Check_1 (t0_a0 : S_api_Program) : Option (Int ⊕ (Unit)) :=
  (bindX (lf_scope_need (decide ((t0_a0.f0_Decls.length : Int) ≤ (30 : Int))) 6) fun r_1 =>
  (lf_scope_Check_1_L0 ((bindX (lf_scope_need (decide ((t0_a0.f1_Rules.length : Int) ≤ (40 : Int))) 6) fun r_5 =>
  some (.inr ()))) t0_a0.f0_Decls []))

set_option maxHeartbeats 1000000 in
theorem lg_scope_Check_1 (t0_a0 : S_api_Program) (res : Int ⊕ (Unit)) (hr : lf_scope_Check_1 t0_a0 = some res) : SpecX Try.prog 25 [.ptr (enc_S_api_Program t0_a0)] [] (fun d _ => ∃ r : Unit, res = .inr r ∧ d = .tup []) (fun d => ∃ c, res = .inl c ∧ d = .ifc 83 (.agg [.int .i64 c])) := by
  unfold lf_scope_Check_1 at hr
  refine spec_envX [(0, .ptr (enc_S_api_Program t0_a0))] Try.func25 rfl rfl fun K hK hX => ?_
  refine g_seq ?_
  refine g_run (by kernel_rfl) [(0, .d), (1, .d), (2, .d), (3, .d), (4, .d)] rfl ?_
  refine r_d rfl rfl rfl (s_fieldAddr rfl fl_api_Program_0 rfl rfl rfl rfl) ?_
  refine r_d rfl rfl rfl (s_load rfl rfl (by exact ty_L_api_Decl) rfl) ?_
  refine r_d rfl rfl rfl (m_len (f := enc_S_api_Decl) t0_a0.f0_Decls rfl el_L_api_Decl rfl (asl rfl)) ?_
  refine r_d rfl rfl rfl (s_cmp rfl rfl rfl rfl) ?_
  rcases bindXS hr with ⟨c_r_1, hr_1, rfl⟩ | ⟨r_1, hr_1, hr⟩
  ·
   refine r_die rfl rfl (s_callX _ rfl cl_scope_need (.cons rfl (Wk.refl _) (.cons rfl (Wk.refl _) .nil)) (by exact (List.Perm.refl _)) (specX_inl (lg_scope_need _ _ _ hr_1))) (hX _ ⟨_, rfl, rfl⟩)
  ·
   refine r_d rfl rfl rfl (s_callD rfl cl_scope_need (.cons rfl (Wk.refl _) (.cons rfl (Wk.refl _) .nil)) (specX_inr (lg_scope_need _ _ _ hr_1))) ?_
   refine r_end ?_
   refine g_seq ?_
   refine g_run (by kernel_rfl) [(0, .w), (1, .d)] rfl ?_
   refine r_w rfl rfl rfl (m_makeMap (α := S_api_Decl) (β := Bool) (key := enc_S_api_Decl) (g := D.bool) rfl) ?_
   rintro _ _ ⟨m9_1, rfl, rfl⟩
   refine r_d rfl rfl rfl (s_assign rfl rfl) ?_
   refine r_end ?_
   refine g_seq ?_
   refine g_seq ?_
   refine g_run (by kernel_rfl) [(0, .d), (1, .d), (2, .d), (3, .d)] rfl ?_
   refine r_d rfl rfl rfl (s_fieldAddr rfl fl_api_Program_0 rfl rfl rfl rfl) ?_
   refine r_d rfl rfl rfl (s_load rfl rfl (by exact ty_L_api_Decl) rfl) ?_
   refine r_d rfl rfl rfl (m_len (f := enc_S_api_Decl) t0_a0.f0_Decls rfl el_L_api_Decl rfl (asl rfl)) ?_
   refine r_d rfl rfl rfl (s_move rfl rfl) ?_
   refine r_end ?_
   obtain ⟨kk0, hkk0, hr⟩ := exK (fun k => lf_scope_Check_1_L0 k t0_a0.f0_Decls []) hr
   refine g_len 5 rfl (asl rfl) fun hla0 => ?_
   simp only [List.length_map] at hla0
   refine g_blockJ (fun env σ => env = [(0, .ptr (enc_S_api_Program t0_a0))] ∧ σ = [] ∧ kk0 = some res) ?_ (fun HK0 => ?_)
   ·
    rintro _ _ ⟨rfl, rfl, hr⟩
    rw [hkk0] at hr
    refine g_run (by kernel_rfl) [(0, .d), (1, .d), (2, .d), (3, .d), (4, .d)] rfl ?_
    refine r_d rfl rfl rfl (s_fieldAddr rfl fl_api_Program_1 rfl rfl rfl rfl) ?_
    refine r_d rfl rfl rfl (s_load rfl rfl (by exact ty_L_api_Rule) rfl) ?_
    refine r_d rfl rfl rfl (m_len (f := enc_S_api_Rule) t0_a0.f1_Rules rfl el_L_api_Rule rfl (asl rfl)) ?_
    refine r_d rfl rfl rfl (s_cmp rfl rfl rfl rfl) ?_
    rcases bindXS hr with ⟨c_r_5, hr_5, rfl⟩ | ⟨r_5, hr_5, hr⟩
    ·
     refine r_die rfl rfl (s_callX _ rfl cl_scope_need (.cons rfl (Wk.refl _) (.cons rfl (Wk.refl _) .nil)) (by exact (List.Perm.refl _)) (specX_inl (lg_scope_need _ _ _ hr_5))) (hX _ ⟨_, rfl, rfl⟩)
    ·
     refine r_d rfl rfl rfl (s_callD rfl cl_scope_need (.cons rfl (Wk.refl _) (.cons rfl (Wk.refl _) .nil)) (specX_inr (lg_scope_need _ _ _ hr_5))) ?_
     refine r_end ?_
     obtain rfl := Option.some.inj hr
     refine g_end Try.func25 _ .nil ?_
     exact ⟨_, rfl, rfl⟩
   ·
    refine g_sub [(0, .ptr (enc_S_api_Program t0_a0)), (1, .map m9_1), (11, .lst (t0_a0.f0_Decls.map enc_S_api_Decl)), (12, .int .i64 (t0_a0.f0_Decls.length : Int)), (13, .int .i64 ((0 : Nat) : Int))] (Sub.cons' rfl (Sub.cons' rfl (Sub.cons' rfl (Sub.cons' rfl (Sub.cons' rfl (Sub.nil _)))))) ?_
    refine g_loop (fun n env σ => ∃ (i_3 : Nat) (mm_4 : (List (S_api_Decl × Bool))), (n = t0_a0.f0_Decls.length - i_3) ∧ (env = [(0, .ptr (enc_S_api_Program t0_a0)), (1, .map m9_1), (11, .lst (t0_a0.f0_Decls.map enc_S_api_Decl)), (12, .int .i64 (t0_a0.f0_Decls.length : Int)), (13, .int .i64 (i_3 : Int))]) ∧ (σ = [.map m9_1 (mapM' enc_S_api_Decl D.bool mm_4)]) ∧ (i_3 ≤ t0_a0.f0_Decls.length) ∧ (lf_scope_Check_1_L0 kk0 (t0_a0.f0_Decls.drop i_3) mm_4 = some res)) _ ⟨0, [], rfl, rfl, rfl, Nat.zero_le _, hr⟩ ?_
    rintro n _ _ ⟨i_3, mm_4, rfl, rfl, rfl, hi0, hr⟩ IH0
    rcases listStep t0_a0.f0_Decls i_3 hi0 with ⟨ht0, hd0, he0⟩ | ⟨q_6, ht0, hd0, hq0, hlt0⟩
    ·
     rw [hd0, lf_scope_Check_1_L0] at hr
     refine g_seq ?_
     refine g_run (by kernel_rfl) [(0, .d)] rfl ?_
     refine r_d rfl rfl rfl (s_cmp rfl rfl rfl rfl) ?_
     refine r_end ?_
     refine g_seq ?_
     refine g_known 14 false rfl ht0 ?_
     refine g_condF rfl ?_
     refine g_exit rfl ?_
     refine g_sub [(0, .ptr (enc_S_api_Program t0_a0))] (Sub.cons' rfl (Sub.nil _)) ?_
     refine g_perm [] _ (pf0 _) ?_
     exact HK0 _ _ ⟨rfl, rfl, hr⟩
    ·
     rw [hd0, lf_scope_Check_1_L0] at hr
     refine g_seq ?_
     refine g_run (by kernel_rfl) [(0, .d)] rfl ?_
     refine r_d rfl rfl rfl (s_cmp rfl rfl rfl rfl) ?_
     refine r_end ?_
     refine g_seq ?_
     refine g_known 14 true rfl ht0 ?_
     refine g_condT rfl ?_
     refine g_skip ?_
     refine g_seq ?_
     refine g_block ?_
     refine g_seq ?_
     refine g_run (by kernel_rfl) [(0, .d), (1, .d), (2, .w), (3, .w)] rfl ?_
     refine r_d rfl rfl rfl (m_index (f := enc_S_api_Decl) t0_a0.f0_Decls rfl el_L_api_Decl rfl (asl rfl) rfl hq0 sz_S_api_Decl rfl) ?_
     refine r_d rfl rfl rfl (s_load rfl rfl (by exact ty_api_Decl) (sz_S_api_Decl _)) ?_
     refine r_w rfl rfl rfl (s_alloc rfl zv_api_Decl) ?_
     rintro _ _ ⟨b3_6, rfl, rfl⟩
     refine r_w01 rfl rfl rfl (t_store0 _ rfl rfl rfl (Wk.refl _) (pf0 _) (by exact ty_api_Decl) (sz_S_api_Decl _) rfl rfl) ?_
     refine r_end ?_
     refine g_freeze 3 b3_6 rfl (pf0 _) ?_
     refine g_seq ?_
     refine g_run (by kernel_rfl) [(0, .d), (1, .d), (2, .d), (3, .d)] rfl ?_
     refine r_d rfl rfl rfl (s_fieldAddr rfl fl_api_Decl_0 rfl rfl rfl rfl) ?_
     refine r_d rfl rfl rfl (s_load rfl rfl (by exact ty_string) rfl) ?_
     obtain ⟨r_8, hr_8, hr⟩ := bindS hr
     refine r_d rfl rfl rfl (s_callD rfl cl_name_Right (.cons rfl (Wk.refl _) .nil) (lx_name_Right _ _ hr_8)) ?_
     rcases bindXS hr with ⟨c_r_9, hr_9, rfl⟩ | ⟨r_9, hr_9, hr⟩
     ·
      refine r_die rfl rfl (s_callX _ rfl cl_scope_need (.cons rfl (Wk.refl _) (.cons rfl (Wk.refl _) .nil)) (by exact (List.Perm.refl _)) (specX_inl (lg_scope_need _ _ _ hr_9))) (hX _ ⟨_, rfl, rfl⟩)
     ·
      refine r_d rfl rfl rfl (s_callD rfl cl_scope_need (.cons rfl (Wk.refl _) (.cons rfl (Wk.refl _) .nil)) (specX_inr (lg_scope_need _ _ _ hr_9))) ?_
      refine r_end ?_
      refine g_seq ?_
      refine g_run (by kernel_rfl) [(0, .d), (1, .d), (2, .d), (3, .d), (4, .d), (5, .d), (6, .d), (7, .d), (8, .d)] rfl ?_
      refine r_d rfl rfl rfl (s_fieldAddr rfl fl_api_Decl_1 rfl rfl rfl rfl) ?_
      refine r_d rfl rfl rfl (s_load rfl rfl (by exact ty_int) rfl) ?_
      refine r_d rfl rfl rfl (s_cmp rfl rfl rfl rfl) ?_
      refine r_d rfl rfl rfl (s_move rfl rfl) ?_
      refine r_sB 24 rfl hr (fun h24_9 hr => ?_) (fun h24_9 hr => ?_)
      ·
       refine r_d rfl rfl rfl (s_fieldAddr rfl fl_api_Decl_1 rfl rfl rfl rfl) ?_
       refine r_d rfl rfl rfl (s_load rfl rfl (by exact ty_int) rfl) ?_
       refine r_d rfl rfl rfl (s_cmp rfl rfl rfl rfl) ?_
       refine r_d rfl rfl rfl (s_pickT rfl rfl rfl) ?_
       rcases bindXS hr with ⟨c_r_11, hr_11, rfl⟩ | ⟨r_11, hr_11, hr⟩
       ·
        refine r_die rfl rfl (s_callX _ rfl cl_scope_need (.cons rfl (Wk.refl _) (.cons rfl (Wk.refl _) .nil)) (by exact (List.Perm.refl _)) (specX_inl (lg_scope_need _ _ _ hr_11))) (hX _ ⟨_, rfl, rfl⟩)
       ·
        refine r_d rfl rfl rfl (s_callD rfl cl_scope_need (.cons rfl (Wk.refl _) (.cons rfl (Wk.refl _) .nil)) (specX_inr (lg_scope_need _ _ _ hr_11))) ?_
        refine r_end ?_
        refine g_seq ?_
        refine g_run (by kernel_rfl) [(0, .d), (1, .d), (2, .r), (3, .d), (4, .d)] rfl ?_
        refine r_d rfl rfl rfl (s_move rfl rfl) ?_
        refine r_d rfl rfl rfl (s_load rfl rfl (by exact ty_api_Decl) (sz_S_api_Decl _)) ?_
        refine r_r rfl rfl rfl (m_lookup1 (key := enc_S_api_Decl) (g := D.bool) mm_4 q_6 false rfl Try.underlying56 wt_api_Decl.ok zm_bool rfl rfl (.head _)) ?_
        refine r_d rfl rfl rfl (s_not rfl rfl) ?_
        rcases bindXS hr with ⟨c_r_12, hr_12, rfl⟩ | ⟨r_12, hr_12, hr⟩
        ·
         refine r_die rfl rfl (s_callX _ rfl cl_scope_need (.cons rfl (Wk.refl _) (.cons rfl (Wk.refl _) .nil)) (by exact (List.Perm.refl _)) (specX_inl (lg_scope_need _ _ _ hr_12))) (hX _ ⟨_, rfl, rfl⟩)
        ·
         refine r_d rfl rfl rfl (s_callD rfl cl_scope_need (.cons rfl (Wk.refl _) (.cons rfl (Wk.refl _) .nil)) (specX_inr (lg_scope_need _ _ _ hr_12))) ?_
         refine r_end ?_
         refine g_run (by kernel_rfl) [(0, .d), (1, .d), (2, .w)] rfl ?_
         refine r_d rfl rfl rfl (s_move rfl rfl) ?_
         refine r_d rfl rfl rfl (s_load rfl rfl (by exact ty_api_Decl) (sz_S_api_Decl _)) ?_
         obtain ⟨mm_13, hmm_13, hr⟩ := bindS hr
         refine r_w01 rfl rfl rfl (m_mapUpdate (key := enc_S_api_Decl) (g := D.bool) mm_4 q_6 true rfl Try.underlying56 wt_api_Decl.ok rfl rfl rfl (Wk.refl _) (pf0 _) hmm_13) ?_
         refine r_end ?_
         refine g_inBlock ?_
         refine g_run (by kernel_rfl) [(0, .d), (1, .d)] rfl ?_
         refine r_d rfl rfl rfl (s_ar (r := ((i_3 + 1 : Nat) : Int)) rfl rfl rfl (by simp [iar]) (by omega)) ?_
         refine r_d rfl rfl rfl (s_move rfl rfl) ?_
         refine r_end ?_
         refine g_sub [(0, .ptr (enc_S_api_Program t0_a0)), (1, .map m9_1), (11, .lst (t0_a0.f0_Decls.map enc_S_api_Decl)), (12, .int .i64 (t0_a0.f0_Decls.length : Int)), (13, .int .i64 ((i_3 + 1 : Nat) : Int))] (Sub.cons' rfl (Sub.cons' rfl (Sub.cons' rfl (Sub.cons' rfl (Sub.cons' rfl (Sub.nil _)))))) ?_
         exact IH0 _ _ _ (by omega) ⟨(i_3 + 1), mm_13, rfl, rfl, rfl, (by omega), hr⟩
      ·
       refine r_skip rfl rfl rfl ?_
       refine r_skip rfl rfl rfl ?_
       refine r_skip rfl rfl rfl ?_
       refine r_d rfl rfl rfl (s_pickF rfl rfl rfl) ?_
       rcases bindXS hr with ⟨c_r_14, hr_14, rfl⟩ | ⟨r_14, hr_14, hr⟩
       ·
        refine r_die rfl rfl (s_callX _ rfl cl_scope_need (.cons rfl (Wk.refl _) (.cons rfl (Wk.refl _) .nil)) (by exact (List.Perm.refl _)) (specX_inl (lg_scope_need _ _ _ hr_14))) (hX _ ⟨_, rfl, rfl⟩)
       ·
        refine r_d rfl rfl rfl (s_callD rfl cl_scope_need (.cons rfl (Wk.refl _) (.cons rfl (Wk.refl _) .nil)) (specX_inr (lg_scope_need _ _ _ hr_14))) ?_
        refine r_end ?_
        refine g_seq ?_
        refine g_run (by kernel_rfl) [(0, .d), (1, .d), (2, .r), (3, .d), (4, .d)] rfl ?_
        refine r_d rfl rfl rfl (s_move rfl rfl) ?_
        refine r_d rfl rfl rfl (s_load rfl rfl (by exact ty_api_Decl) (sz_S_api_Decl _)) ?_
        refine r_r rfl rfl rfl (m_lookup1 (key := enc_S_api_Decl) (g := D.bool) mm_4 q_6 false rfl Try.underlying56 wt_api_Decl.ok zm_bool rfl rfl (.head _)) ?_
        refine r_d rfl rfl rfl (s_not rfl rfl) ?_
        rcases bindXS hr with ⟨c_r_15, hr_15, rfl⟩ | ⟨r_15, hr_15, hr⟩
        ·
         refine r_die rfl rfl (s_callX _ rfl cl_scope_need (.cons rfl (Wk.refl _) (.cons rfl (Wk.refl _) .nil)) (by exact (List.Perm.refl _)) (specX_inl (lg_scope_need _ _ _ hr_15))) (hX _ ⟨_, rfl, rfl⟩)
        ·
         refine r_d rfl rfl rfl (s_callD rfl cl_scope_need (.cons rfl (Wk.refl _) (.cons rfl (Wk.refl _) .nil)) (specX_inr (lg_scope_need _ _ _ hr_15))) ?_
         refine r_end ?_
         refine g_run (by kernel_rfl) [(0, .d), (1, .d), (2, .w)] rfl ?_
         refine r_d rfl rfl rfl (s_move rfl rfl) ?_
         refine r_d rfl rfl rfl (s_load rfl rfl (by exact ty_api_Decl) (sz_S_api_Decl _)) ?_
         obtain ⟨mm_16, hmm_16, hr⟩ := bindS hr
         refine r_w01 rfl rfl rfl (m_mapUpdate (key := enc_S_api_Decl) (g := D.bool) mm_4 q_6 true rfl Try.underlying56 wt_api_Decl.ok rfl rfl rfl (Wk.refl _) (pf0 _) hmm_16) ?_
         refine r_end ?_
         refine g_inBlock ?_
         refine g_run (by kernel_rfl) [(0, .d), (1, .d)] rfl ?_
         refine r_d rfl rfl rfl (s_ar (r := ((i_3 + 1 : Nat) : Int)) rfl rfl rfl (by simp [iar]) (by omega)) ?_
         refine r_d rfl rfl rfl (s_move rfl rfl) ?_
         refine r_end ?_
         refine g_sub [(0, .ptr (enc_S_api_Program t0_a0)), (1, .map m9_1), (11, .lst (t0_a0.f0_Decls.map enc_S_api_Decl)), (12, .int .i64 (t0_a0.f0_Decls.length : Int)), (13, .int .i64 ((i_3 + 1 : Nat) : Int))] (Sub.cons' rfl (Sub.cons' rfl (Sub.cons' rfl (Sub.cons' rfl (Sub.cons' rfl (Sub.nil _)))))) ?_
         exact IH0 _ _ _ (by omega) ⟨(i_3 + 1), mm_16, rfl, rfl, rfl, (by omega), hr⟩

noncomputable def lf_scope_atomVars_s1_L1 (k : ((List Int)) → Option ((List Int))) : List At → (List Int) → Option ((List Int))
  | [], out_10 =>
  (k out_10)
  | q_14 :: rest, out_10 =>
  ((x_varsA q_14).bind fun r_16 =>
  ((appO 8 out_10 r_16).bind fun l_17 =>
  (lf_scope_atomVars_s1_L1 k rest l_17)))

noncomputable def lf_scope_atomVars_s1_L0 (k : ((List Int)) → Option ((List Int))) : List (List At) → (List Int) → Option ((List Int))
  | [], out_4 =>
  (k out_4)
  | q_8 :: rest, out_4 =>
  (lf_scope_atomVars_s1_L1 (fun out_13 =>
  (lf_scope_atomVars_s1_L0 k rest out_13)) q_8 out_4)
noncomputable def lf_scope_atomVars_s1 (l_a0 : (List (List At))) : Option ((List Int)) :=
  (lf_scope_atomVars_s1_L0 (fun out_7 =>
  some (out_7)) l_a0 [])

set_option maxHeartbeats 1000000 in
theorem lg_scope_atomVars_s1 (l_a0 : (List (List At))) (res : (List Int)) (hr : lf_scope_atomVars_s1 l_a0 = some res) : Spec Try.prog 33 [.lst (l_a0.map (fun l => D.lst (l.map encA)))] [] (fun d σ => ∃ (n_o0 : Value), d = .own n_o0 (res.map (D.int .i64)) ∧ σ = [.row n_o0 res.length 3 1]) := by
  unfold lf_scope_atomVars_s1 at hr
  refine spec_env [(0, .lst (l_a0.map (fun l => D.lst (l.map encA))))] Try.func33 rfl rfl fun K hK => ?_
  refine g_seq ?_
  refine g_run (by kernel_rfl) [(0, .w)] rfl ?_
  refine r_w rfl rfl rfl (s_nilOwn 3 1 (.inl rfl)) ?_
  rintro _ _ ⟨u2_0, rfl, rfl⟩
  refine r_end ?_
  refine g_seq ?_
  refine g_run (by kernel_rfl) [(0, .w)] rfl ?_
  refine r_w rfl rfl rfl (s_nilOwn 3 1 (.inl rfl)) ?_
  rintro _ _ ⟨u3_1, rfl, rfl⟩
  refine r_end ?_
  refine g_seq ?_
  refine g_seq ?_
  refine g_run (by kernel_rfl) [(0, .d), (1, .d), (2, .d)] rfl ?_
  refine r_d rfl rfl rfl (s_move rfl rfl) ?_
  refine r_d rfl rfl rfl (m_len (f := (fun l => D.lst (l.map encA))) l_a0 rfl el_L_L_api_Atom rfl (asl rfl)) ?_
  refine r_d rfl rfl rfl (s_move rfl rfl) ?_
  refine r_end ?_
  obtain ⟨kk0, hkk0, hr⟩ := exK (fun k => lf_scope_atomVars_s1_L0 k l_a0 []) hr
  refine g_len 0 rfl (asl rfl) fun hla0 => ?_
  simp only [List.length_map] at hla0
  refine g_blockJ (fun env σ => ∃ (out_7 : (List Int)) (u_6 : Value), env = [(3, .own u_6 (out_7.map (D.int .i64)))] ∧ σ = [.row u_6 out_7.length 3 1] ∧ kk0 out_7 = some res) ?_ (fun HK0 => ?_)
  ·
   rintro _ _ ⟨out_7, u_6, rfl, rfl, hr⟩
   rw [hkk0] at hr
   refine g_seq ?_
   refine g_run (by kernel_rfl) [(0, .d), (1, .d)] rfl ?_
   refine r_d rfl rfl rfl (s_move rfl rfl) ?_
   refine r_d rfl rfl rfl (s_assign rfl rfl) ?_
   refine r_end ?_
   obtain rfl := Option.some.inj hr
   refine g_ret Try.func33 _ (.cons (resTmp rfl (Wk.refl _)) .nil) ?_
   exact ⟨u_6, rfl, rfl⟩
  ·
   refine g_sub [(8, .lst (l_a0.map (fun l => D.lst (l.map encA)))), (9, .int .i64 (l_a0.length : Int)), (3, .own u3_1 ([].map (D.int .i64))), (10, .int .i64 ((0 : Nat) : Int))] (Sub.cons' rfl (Sub.cons' rfl (Sub.cons' rfl (Sub.cons' rfl (Sub.nil _))))) ?_
   refine g_perm [_] _ (pf0 _) ?_
   refine g_loop (fun n env σ => ∃ (out_4 : (List Int)) (i_5 : Nat) (u_3 : Value), (n = l_a0.length - i_5) ∧ (env = [(8, .lst (l_a0.map (fun l => D.lst (l.map encA)))), (9, .int .i64 (l_a0.length : Int)), (3, .own u_3 (out_4.map (D.int .i64))), (10, .int .i64 (i_5 : Int))]) ∧ (σ = [.row u_3 out_4.length 3 1]) ∧ (i_5 ≤ l_a0.length) ∧ (lf_scope_atomVars_s1_L0 kk0 (l_a0.drop i_5) out_4 = some res)) _ ⟨[], 0, u3_1, rfl, rfl, rfl, Nat.zero_le _, hr⟩ ?_
   rintro n _ _ ⟨out_4, i_5, u_3, rfl, rfl, rfl, hi0, hr⟩ IH0
   rcases listStep l_a0 i_5 hi0 with ⟨ht0, hd0, he0⟩ | ⟨q_8, ht0, hd0, hq0, hlt0⟩
   ·
    rw [hd0, lf_scope_atomVars_s1_L0] at hr
    refine g_seq ?_
    refine g_run (by kernel_rfl) [(0, .d)] rfl ?_
    refine r_d rfl rfl rfl (s_cmp rfl rfl rfl rfl) ?_
    refine r_end ?_
    refine g_seq ?_
    refine g_known 11 false rfl ht0 ?_
    refine g_condF rfl ?_
    refine g_exit rfl ?_
    refine g_sub [(3, .own u_3 (out_4.map (D.int .i64)))] (Sub.cons' rfl (Sub.nil _)) ?_
    exact HK0 _ _ ⟨out_4, u_3, rfl, rfl, hr⟩
   ·
    rw [hd0, lf_scope_atomVars_s1_L0] at hr
    refine g_seq ?_
    refine g_run (by kernel_rfl) [(0, .d)] rfl ?_
    refine r_d rfl rfl rfl (s_cmp rfl rfl rfl rfl) ?_
    refine r_end ?_
    refine g_seq ?_
    refine g_known 11 true rfl ht0 ?_
    refine g_condT rfl ?_
    refine g_skip ?_
    refine g_seq ?_
    refine g_block ?_
    refine g_seq ?_
    refine g_run (by kernel_rfl) [(0, .d), (1, .d), (2, .d)] rfl ?_
    refine r_d rfl rfl rfl (m_index (f := (fun l => D.lst (l.map encA))) l_a0 rfl el_L_L_api_Atom rfl (asl rfl) rfl hq0 (fun _ => rfl) rfl) ?_
    refine r_d rfl rfl rfl (s_load rfl rfl (by exact ty_L_api_Atom) rfl) ?_
    refine r_d rfl rfl rfl (s_assign rfl rfl) ?_
    refine r_end ?_
    refine g_seq ?_
    refine g_run (by kernel_rfl) [(0, .d), (1, .d), (2, .d)] rfl ?_
    refine r_d rfl rfl rfl (s_move rfl rfl) ?_
    refine r_d rfl rfl rfl (m_len (f := encA) q_8 rfl el_L_api_Atom rfl (asl rfl)) ?_
    refine r_d rfl rfl rfl (s_move rfl rfl) ?_
    refine r_end ?_
    obtain ⟨kk1, hkk1, hr⟩ := exK (fun k => lf_scope_atomVars_s1_L1 k q_8 out_4) hr
    refine g_len 13 rfl (asl rfl) fun hla1 => ?_
    simp only [List.length_map] at hla1
    refine g_blockJ (fun env σ => ∃ (out_13 : (List Int)) (u_12 : Value), env = [(3, .own u_12 (out_13.map (D.int .i64))), (8, .lst (l_a0.map (fun l => D.lst (l.map encA)))), (9, .int .i64 (l_a0.length : Int)), (10, .int .i64 (i_5 : Int))] ∧ σ = [.row u_12 out_13.length 3 1] ∧ kk1 out_13 = some res) ?_ (fun HK1 => ?_)
    ·
     rintro _ _ ⟨out_13, u_12, rfl, rfl, hr⟩
     rw [hkk1] at hr
     refine g_inBlock ?_
     refine g_run (by kernel_rfl) [(0, .d), (1, .d)] rfl ?_
     refine r_d rfl rfl rfl (s_ar (r := ((i_5 + 1 : Nat) : Int)) rfl rfl rfl (by simp [iar]) (by omega)) ?_
     refine r_d rfl rfl rfl (s_move rfl rfl) ?_
     refine r_end ?_
     refine g_sub [(8, .lst (l_a0.map (fun l => D.lst (l.map encA)))), (9, .int .i64 (l_a0.length : Int)), (3, .own u_12 (out_13.map (D.int .i64))), (10, .int .i64 ((i_5 + 1 : Nat) : Int))] (Sub.cons' rfl (Sub.cons' rfl (Sub.cons' rfl (Sub.cons' rfl (Sub.nil _))))) ?_
     exact IH0 _ _ _ (by omega) ⟨out_13, (i_5 + 1), u_12, rfl, rfl, rfl, (by omega), hr⟩
    ·
     refine g_sub [(8, .lst (l_a0.map (fun l => D.lst (l.map encA)))), (9, .int .i64 (l_a0.length : Int)), (10, .int .i64 ((i_5 : Nat) : Int)), (14, .lst (q_8.map encA)), (15, .int .i64 (q_8.length : Int)), (3, .own u_3 (out_4.map (D.int .i64))), (16, .int .i64 ((0 : Nat) : Int))] (Sub.cons' rfl (Sub.cons' rfl (Sub.cons' rfl (Sub.cons' rfl (Sub.cons' rfl (Sub.cons' rfl (Sub.cons' rfl (Sub.nil _)))))))) ?_
     refine g_loop (fun n env σ => ∃ (out_10 : (List Int)) (i_11 : Nat) (u_9 : Value), (n = q_8.length - i_11) ∧ (env = [(8, .lst (l_a0.map (fun l => D.lst (l.map encA)))), (9, .int .i64 (l_a0.length : Int)), (10, .int .i64 (i_5 : Int)), (14, .lst (q_8.map encA)), (15, .int .i64 (q_8.length : Int)), (3, .own u_9 (out_10.map (D.int .i64))), (16, .int .i64 (i_11 : Int))]) ∧ (σ = [.row u_9 out_10.length 3 1]) ∧ (i_11 ≤ q_8.length) ∧ (lf_scope_atomVars_s1_L1 kk1 (q_8.drop i_11) out_10 = some res)) _ ⟨out_4, 0, u_3, rfl, rfl, rfl, Nat.zero_le _, hr⟩ ?_
     rintro n _ _ ⟨out_10, i_11, u_9, rfl, rfl, rfl, hi1, hr⟩ IH1
     rcases listStep q_8 i_11 hi1 with ⟨ht1, hd1, he1⟩ | ⟨q_14, ht1, hd1, hq1, hlt1⟩
     ·
      rw [hd1, lf_scope_atomVars_s1_L1] at hr
      refine g_seq ?_
      refine g_run (by kernel_rfl) [(0, .d)] rfl ?_
      refine r_d rfl rfl rfl (s_cmp rfl rfl rfl rfl) ?_
      refine r_end ?_
      refine g_seq ?_
      refine g_known 17 false rfl ht1 ?_
      refine g_condF rfl ?_
      refine g_exit rfl ?_
      refine g_sub [(3, .own u_9 (out_10.map (D.int .i64))), (8, .lst (l_a0.map (fun l => D.lst (l.map encA)))), (9, .int .i64 (l_a0.length : Int)), (10, .int .i64 (i_5 : Int))] (Sub.cons' rfl (Sub.cons' rfl (Sub.cons' rfl (Sub.cons' rfl (Sub.nil _))))) ?_
      exact HK1 _ _ ⟨out_10, u_9, rfl, rfl, hr⟩
     ·
      rw [hd1, lf_scope_atomVars_s1_L1] at hr
      refine g_seq ?_
      refine g_run (by kernel_rfl) [(0, .d)] rfl ?_
      refine r_d rfl rfl rfl (s_cmp rfl rfl rfl rfl) ?_
      refine r_end ?_
      refine g_seq ?_
      refine g_known 17 true rfl ht1 ?_
      refine g_condT rfl ?_
      refine g_skip ?_
      refine g_seq ?_
      refine g_block ?_
      refine g_seq ?_
      refine g_run (by kernel_rfl) [(0, .d), (1, .d), (2, .w), (3, .w)] rfl ?_
      refine r_d rfl rfl rfl (m_index (f := encA) q_8 rfl el_L_api_Atom rfl (asl rfl) rfl hq1 sz_encA rfl) ?_
      refine r_d rfl rfl rfl (s_load rfl rfl (by exact ty_api_Atom) (sz_encA _)) ?_
      refine r_w rfl rfl rfl (s_alloc rfl zv_api_Atom) ?_
      rintro _ _ ⟨b7_14, rfl, rfl⟩
      refine r_w01 rfl rfl rfl (t_store0 _ rfl rfl rfl (Wk.refl _) (pf0 _) (by exact ty_api_Atom) (sz_encA _) rfl rfl) ?_
      refine r_end ?_
      refine g_freeze 7 b7_14 rfl (pf0 _) ?_
      refine g_run (by kernel_rfl) [(0, .d), (1, .d), (2, .d), (3, .w), (4, .d)] rfl ?_
      refine r_d rfl rfl rfl (s_move rfl rfl) ?_
      refine r_d rfl rfl rfl (s_load rfl rfl (by exact ty_api_Atom) (sz_encA _)) ?_
      obtain ⟨r_16, hr_16, hr⟩ := bindS hr
      refine r_d rfl rfl rfl (s_callD rfl cl_term_AtomVars (.cons rfl (Wk.refl _) .nil) (lx_term_AtomVars _ _ hr_16)) ?_
      obtain ⟨l_17, hl_17, hr⟩ := bindS hr
      refine r_w rfl rfl rfl (m_appOwn (f := (D.int .i64)) out_10 r_16 rfl el_L_int rfl rfl (asl rfl) (pf0 _) rfl (fun _ => rfl) hl_17) ?_
      rintro _ _ ⟨u23_17, rfl, rfl⟩
      refine r_d rfl rfl rfl (s_assign rfl rfl) ?_
      refine r_end ?_
      refine g_inBlock ?_
      refine g_run (by kernel_rfl) [(0, .d), (1, .d)] rfl ?_
      refine r_d rfl rfl rfl (s_ar (r := ((i_11 + 1 : Nat) : Int)) rfl rfl rfl (by simp [iar]) (by omega)) ?_
      refine r_d rfl rfl rfl (s_move rfl rfl) ?_
      refine r_end ?_
      refine g_sub [(8, .lst (l_a0.map (fun l => D.lst (l.map encA)))), (9, .int .i64 (l_a0.length : Int)), (10, .int .i64 ((i_5 : Nat) : Int)), (14, .lst (q_8.map encA)), (15, .int .i64 (q_8.length : Int)), (3, .own u23_17 (l_17.map (D.int .i64))), (16, .int .i64 ((i_11 + 1 : Nat) : Int))] (Sub.cons' rfl (Sub.cons' rfl (Sub.cons' rfl (Sub.cons' rfl (Sub.cons' rfl (Sub.cons' rfl (Sub.cons' rfl (Sub.nil _)))))))) ?_
      exact IH1 _ _ _ (by omega) ⟨l_17, (i_11 + 1), u23_17, rfl, rfl, rfl, (by omega), hr⟩

noncomputable def lf_scope_goalVars_L1 (k : ((List Int)) → Option ((List Int))) : List Gl → (List Int) → Option ((List Int))
  | [], out_10 =>
  (k out_10)
  | q_14 :: rest, out_10 =>
  ((x_varsG q_14).bind fun r_16 =>
  ((appO 8 out_10 r_16).bind fun l_17 =>
  (lf_scope_goalVars_L1 k rest l_17)))

noncomputable def lf_scope_goalVars_L0 (k : ((List Int)) → Option ((List Int))) : List (List Gl) → (List Int) → Option ((List Int))
  | [], out_4 =>
  (k out_4)
  | q_8 :: rest, out_4 =>
  (lf_scope_goalVars_L1 (fun out_13 =>
  (lf_scope_goalVars_L0 k rest out_13)) q_8 out_4)
noncomputable def lf_scope_goalVars (l_a0 : (List (List Gl))) : Option ((List Int)) :=
  (lf_scope_goalVars_L0 (fun out_7 =>
  some (out_7)) l_a0 [])

set_option maxHeartbeats 1000000 in
theorem lg_scope_goalVars (l_a0 : (List (List Gl))) (res : (List Int)) (hr : lf_scope_goalVars l_a0 = some res) : Gives Try.prog 34 [.lst (l_a0.map (fun l => D.lst (l.map encG)))] (.lst (res.map (D.int .i64))) := by
  unfold lf_scope_goalVars at hr
  refine spec_env [(0, .lst (l_a0.map (fun l => D.lst (l.map encG))))] Try.func34 rfl rfl fun K hK => ?_
  refine g_seq ?_
  refine g_run (by kernel_rfl) [(0, .w)] rfl ?_
  refine r_w rfl rfl rfl (s_nilOwn 3 1 (.inl rfl)) ?_
  rintro _ _ ⟨u2_0, rfl, rfl⟩
  refine r_end ?_
  refine g_seq ?_
  refine g_run (by kernel_rfl) [(0, .w)] rfl ?_
  refine r_w rfl rfl rfl (s_nilOwn 3 1 (.inl rfl)) ?_
  rintro _ _ ⟨u3_1, rfl, rfl⟩
  refine r_end ?_
  refine g_seq ?_
  refine g_seq ?_
  refine g_run (by kernel_rfl) [(0, .d), (1, .d), (2, .d)] rfl ?_
  refine r_d rfl rfl rfl (s_move rfl rfl) ?_
  refine r_d rfl rfl rfl (m_len (f := (fun l => D.lst (l.map encG))) l_a0 rfl el_L_L_api_Goal rfl (asl rfl)) ?_
  refine r_d rfl rfl rfl (s_move rfl rfl) ?_
  refine r_end ?_
  obtain ⟨kk0, hkk0, hr⟩ := exK (fun k => lf_scope_goalVars_L0 k l_a0 []) hr
  refine g_len 0 rfl (asl rfl) fun hla0 => ?_
  simp only [List.length_map] at hla0
  refine g_blockJ (fun env σ => ∃ (out_7 : (List Int)) (u_6 : Value), env = [(3, .own u_6 (out_7.map (D.int .i64)))] ∧ σ = [.row u_6 out_7.length 3 1] ∧ kk0 out_7 = some res) ?_ (fun HK0 => ?_)
  ·
   rintro _ _ ⟨out_7, u_6, rfl, rfl, hr⟩
   rw [hkk0] at hr
   refine g_seq ?_
   refine g_run (by kernel_rfl) [(0, .d), (1, .d)] rfl ?_
   refine r_d rfl rfl rfl (s_move rfl rfl) ?_
   refine r_d rfl rfl rfl (s_assign rfl rfl) ?_
   refine r_end ?_
   obtain rfl := Option.some.inj hr
   refine g_ret Try.func34 _ (.cons (resTmp rfl (Wk.own _ _)) .nil) ?_
   rfl
  ·
   refine g_sub [(8, .lst (l_a0.map (fun l => D.lst (l.map encG)))), (9, .int .i64 (l_a0.length : Int)), (3, .own u3_1 ([].map (D.int .i64))), (10, .int .i64 ((0 : Nat) : Int))] (Sub.cons' rfl (Sub.cons' rfl (Sub.cons' rfl (Sub.cons' rfl (Sub.nil _))))) ?_
   refine g_perm [_] _ (pf0 _) ?_
   refine g_loop (fun n env σ => ∃ (out_4 : (List Int)) (i_5 : Nat) (u_3 : Value), (n = l_a0.length - i_5) ∧ (env = [(8, .lst (l_a0.map (fun l => D.lst (l.map encG)))), (9, .int .i64 (l_a0.length : Int)), (3, .own u_3 (out_4.map (D.int .i64))), (10, .int .i64 (i_5 : Int))]) ∧ (σ = [.row u_3 out_4.length 3 1]) ∧ (i_5 ≤ l_a0.length) ∧ (lf_scope_goalVars_L0 kk0 (l_a0.drop i_5) out_4 = some res)) _ ⟨[], 0, u3_1, rfl, rfl, rfl, Nat.zero_le _, hr⟩ ?_
   rintro n _ _ ⟨out_4, i_5, u_3, rfl, rfl, rfl, hi0, hr⟩ IH0
   rcases listStep l_a0 i_5 hi0 with ⟨ht0, hd0, he0⟩ | ⟨q_8, ht0, hd0, hq0, hlt0⟩
   ·
    rw [hd0, lf_scope_goalVars_L0] at hr
    refine g_seq ?_
    refine g_run (by kernel_rfl) [(0, .d)] rfl ?_
    refine r_d rfl rfl rfl (s_cmp rfl rfl rfl rfl) ?_
    refine r_end ?_
    refine g_seq ?_
    refine g_known 11 false rfl ht0 ?_
    refine g_condF rfl ?_
    refine g_exit rfl ?_
    refine g_sub [(3, .own u_3 (out_4.map (D.int .i64)))] (Sub.cons' rfl (Sub.nil _)) ?_
    exact HK0 _ _ ⟨out_4, u_3, rfl, rfl, hr⟩
   ·
    rw [hd0, lf_scope_goalVars_L0] at hr
    refine g_seq ?_
    refine g_run (by kernel_rfl) [(0, .d)] rfl ?_
    refine r_d rfl rfl rfl (s_cmp rfl rfl rfl rfl) ?_
    refine r_end ?_
    refine g_seq ?_
    refine g_known 11 true rfl ht0 ?_
    refine g_condT rfl ?_
    refine g_skip ?_
    refine g_seq ?_
    refine g_block ?_
    refine g_seq ?_
    refine g_run (by kernel_rfl) [(0, .d), (1, .d), (2, .d)] rfl ?_
    refine r_d rfl rfl rfl (m_index (f := (fun l => D.lst (l.map encG))) l_a0 rfl el_L_L_api_Goal rfl (asl rfl) rfl hq0 (fun _ => rfl) rfl) ?_
    refine r_d rfl rfl rfl (s_load rfl rfl (by exact ty_L_api_Goal) rfl) ?_
    refine r_d rfl rfl rfl (s_assign rfl rfl) ?_
    refine r_end ?_
    refine g_seq ?_
    refine g_run (by kernel_rfl) [(0, .d), (1, .d), (2, .d)] rfl ?_
    refine r_d rfl rfl rfl (s_move rfl rfl) ?_
    refine r_d rfl rfl rfl (m_len (f := encG) q_8 rfl el_L_api_Goal rfl (asl rfl)) ?_
    refine r_d rfl rfl rfl (s_move rfl rfl) ?_
    refine r_end ?_
    obtain ⟨kk1, hkk1, hr⟩ := exK (fun k => lf_scope_goalVars_L1 k q_8 out_4) hr
    refine g_len 13 rfl (asl rfl) fun hla1 => ?_
    simp only [List.length_map] at hla1
    refine g_blockJ (fun env σ => ∃ (out_13 : (List Int)) (u_12 : Value), env = [(3, .own u_12 (out_13.map (D.int .i64))), (8, .lst (l_a0.map (fun l => D.lst (l.map encG)))), (9, .int .i64 (l_a0.length : Int)), (10, .int .i64 (i_5 : Int))] ∧ σ = [.row u_12 out_13.length 3 1] ∧ kk1 out_13 = some res) ?_ (fun HK1 => ?_)
    ·
     rintro _ _ ⟨out_13, u_12, rfl, rfl, hr⟩
     rw [hkk1] at hr
     refine g_inBlock ?_
     refine g_run (by kernel_rfl) [(0, .d), (1, .d)] rfl ?_
     refine r_d rfl rfl rfl (s_ar (r := ((i_5 + 1 : Nat) : Int)) rfl rfl rfl (by simp [iar]) (by omega)) ?_
     refine r_d rfl rfl rfl (s_move rfl rfl) ?_
     refine r_end ?_
     refine g_sub [(8, .lst (l_a0.map (fun l => D.lst (l.map encG)))), (9, .int .i64 (l_a0.length : Int)), (3, .own u_12 (out_13.map (D.int .i64))), (10, .int .i64 ((i_5 + 1 : Nat) : Int))] (Sub.cons' rfl (Sub.cons' rfl (Sub.cons' rfl (Sub.cons' rfl (Sub.nil _))))) ?_
     exact IH0 _ _ _ (by omega) ⟨out_13, (i_5 + 1), u_12, rfl, rfl, rfl, (by omega), hr⟩
    ·
     refine g_sub [(8, .lst (l_a0.map (fun l => D.lst (l.map encG)))), (9, .int .i64 (l_a0.length : Int)), (10, .int .i64 ((i_5 : Nat) : Int)), (14, .lst (q_8.map encG)), (15, .int .i64 (q_8.length : Int)), (3, .own u_3 (out_4.map (D.int .i64))), (16, .int .i64 ((0 : Nat) : Int))] (Sub.cons' rfl (Sub.cons' rfl (Sub.cons' rfl (Sub.cons' rfl (Sub.cons' rfl (Sub.cons' rfl (Sub.cons' rfl (Sub.nil _)))))))) ?_
     refine g_loop (fun n env σ => ∃ (out_10 : (List Int)) (i_11 : Nat) (u_9 : Value), (n = q_8.length - i_11) ∧ (env = [(8, .lst (l_a0.map (fun l => D.lst (l.map encG)))), (9, .int .i64 (l_a0.length : Int)), (10, .int .i64 (i_5 : Int)), (14, .lst (q_8.map encG)), (15, .int .i64 (q_8.length : Int)), (3, .own u_9 (out_10.map (D.int .i64))), (16, .int .i64 (i_11 : Int))]) ∧ (σ = [.row u_9 out_10.length 3 1]) ∧ (i_11 ≤ q_8.length) ∧ (lf_scope_goalVars_L1 kk1 (q_8.drop i_11) out_10 = some res)) _ ⟨out_4, 0, u_3, rfl, rfl, rfl, Nat.zero_le _, hr⟩ ?_
     rintro n _ _ ⟨out_10, i_11, u_9, rfl, rfl, rfl, hi1, hr⟩ IH1
     rcases listStep q_8 i_11 hi1 with ⟨ht1, hd1, he1⟩ | ⟨q_14, ht1, hd1, hq1, hlt1⟩
     ·
      rw [hd1, lf_scope_goalVars_L1] at hr
      refine g_seq ?_
      refine g_run (by kernel_rfl) [(0, .d)] rfl ?_
      refine r_d rfl rfl rfl (s_cmp rfl rfl rfl rfl) ?_
      refine r_end ?_
      refine g_seq ?_
      refine g_known 17 false rfl ht1 ?_
      refine g_condF rfl ?_
      refine g_exit rfl ?_
      refine g_sub [(3, .own u_9 (out_10.map (D.int .i64))), (8, .lst (l_a0.map (fun l => D.lst (l.map encG)))), (9, .int .i64 (l_a0.length : Int)), (10, .int .i64 (i_5 : Int))] (Sub.cons' rfl (Sub.cons' rfl (Sub.cons' rfl (Sub.cons' rfl (Sub.nil _))))) ?_
      exact HK1 _ _ ⟨out_10, u_9, rfl, rfl, hr⟩
     ·
      rw [hd1, lf_scope_goalVars_L1] at hr
      refine g_seq ?_
      refine g_run (by kernel_rfl) [(0, .d)] rfl ?_
      refine r_d rfl rfl rfl (s_cmp rfl rfl rfl rfl) ?_
      refine r_end ?_
      refine g_seq ?_
      refine g_known 17 true rfl ht1 ?_
      refine g_condT rfl ?_
      refine g_skip ?_
      refine g_seq ?_
      refine g_block ?_
      refine g_seq ?_
      refine g_run (by kernel_rfl) [(0, .d), (1, .d), (2, .w), (3, .w)] rfl ?_
      refine r_d rfl rfl rfl (m_index (f := encG) q_8 rfl el_L_api_Goal rfl (asl rfl) rfl hq1 sz_encG rfl) ?_
      refine r_d rfl rfl rfl (s_load rfl rfl (by exact ty_api_Goal) (sz_encG _)) ?_
      refine r_w rfl rfl rfl (s_alloc rfl zv_api_Goal) ?_
      rintro _ _ ⟨b7_14, rfl, rfl⟩
      refine r_w01 rfl rfl rfl (t_store0 _ rfl rfl rfl (Wk.refl _) (pf0 _) (by exact ty_api_Goal) (sz_encG _) rfl rfl) ?_
      refine r_end ?_
      refine g_freeze 7 b7_14 rfl (pf0 _) ?_
      refine g_run (by kernel_rfl) [(0, .d), (1, .d), (2, .d), (3, .w), (4, .d)] rfl ?_
      refine r_d rfl rfl rfl (s_move rfl rfl) ?_
      refine r_d rfl rfl rfl (s_load rfl rfl (by exact ty_api_Goal) (sz_encG _)) ?_
      obtain ⟨r_16, hr_16, hr⟩ := bindS hr
      refine r_d rfl rfl rfl (s_callD rfl cl_term_GoalVars (.cons rfl (Wk.refl _) .nil) (lx_term_GoalVars _ _ hr_16)) ?_
      obtain ⟨l_17, hl_17, hr⟩ := bindS hr
      refine r_w rfl rfl rfl (m_appOwn (f := (D.int .i64)) out_10 r_16 rfl el_L_int rfl rfl (asl rfl) (pf0 _) rfl (fun _ => rfl) hl_17) ?_
      rintro _ _ ⟨u23_17, rfl, rfl⟩
      refine r_d rfl rfl rfl (s_assign rfl rfl) ?_
      refine r_end ?_
      refine g_inBlock ?_
      refine g_run (by kernel_rfl) [(0, .d), (1, .d)] rfl ?_
      refine r_d rfl rfl rfl (s_ar (r := ((i_11 + 1 : Nat) : Int)) rfl rfl rfl (by simp [iar]) (by omega)) ?_
      refine r_d rfl rfl rfl (s_move rfl rfl) ?_
      refine r_end ?_
      refine g_sub [(8, .lst (l_a0.map (fun l => D.lst (l.map encG)))), (9, .int .i64 (l_a0.length : Int)), (10, .int .i64 ((i_5 : Nat) : Int)), (14, .lst (q_8.map encG)), (15, .int .i64 (q_8.length : Int)), (3, .own u23_17 (l_17.map (D.int .i64))), (16, .int .i64 ((i_11 + 1 : Nat) : Int))] (Sub.cons' rfl (Sub.cons' rfl (Sub.cons' rfl (Sub.cons' rfl (Sub.cons' rfl (Sub.cons' rfl (Sub.cons' rfl (Sub.nil _)))))))) ?_
      exact IH1 _ _ _ (by omega) ⟨l_17, (i_11 + 1), u23_17, rfl, rfl, rfl, (by omega), hr⟩

noncomputable def lf_scope_declared_1 (d_a0 : S_api_Decl) (t1_a1 : ByteArray) : Option (Bool) :=
  some ((d_a0.f0_Name.toList == t1_a1.toList))

set_option maxHeartbeats 1000000 in
theorem lg_scope_declared_1 (d_a0 : S_api_Decl) (t1_a1 : ByteArray) (res : Bool) (hr : lf_scope_declared_1 d_a0 t1_a1 = some res) : Gives Try.prog 66 [enc_S_api_Decl d_a0, .ptr (.str t1_a1)] (.bool res) := by
  unfold lf_scope_declared_1 at hr
  refine spec_env [(0, enc_S_api_Decl d_a0), (1, .ptr (.str t1_a1))] Try.func66 rfl rfl fun K hK => ?_
  refine g_seq ?_
  refine g_run (by kernel_rfl) [(0, .d), (1, .d)] rfl ?_
  refine r_d rfl rfl rfl (s_box rfl rfl rfl) ?_
  refine r_d rfl rfl rfl (s_assign rfl rfl) ?_
  refine r_end ?_
  refine g_seq ?_
  refine g_run (by kernel_rfl) [(0, .d), (1, .d), (2, .d), (3, .d), (4, .d)] rfl ?_
  refine r_d rfl rfl rfl (s_fieldAddr rfl fl_api_Decl_0 rfl rfl rfl rfl) ?_
  refine r_d rfl rfl rfl (s_load rfl rfl (by exact ty_string) rfl) ?_
  refine r_d rfl rfl rfl (s_load rfl rfl (by exact ty_string) rfl) ?_
  refine r_d rfl rfl rfl (s_cmpS rfl rfl rfl rfl) ?_
  refine r_d rfl rfl rfl (s_assign rfl rfl) ?_
  refine r_end ?_
  obtain rfl := Option.some.inj hr
  refine g_ret Try.func66 _ (.cons (resTmp rfl (Wk.refl _)) .nil) ?_
  rfl

noncomputable def lf_slices_IndexFunc_s4_L0 (k : Option (Int)) (f_a1_c0 : ByteArray) : List S_api_Decl → Nat → Option (Int)
  | [], i_1 =>
  k
  | q_2 :: rest, i_1 =>
  ((lf_scope_declared_1 q_2 f_a1_c0).bind fun r_3 =>
  (bif r_3 then
  some ((i_1 : Int))
  else
  (lf_slices_IndexFunc_s4_L0 k f_a1_c0 rest (i_1 + 1))))
noncomputable def lf_slices_IndexFunc_s4 (s_a0 : (List S_api_Decl)) (f_a1_c0 : ByteArray) : Option (Int) :=
  (lf_slices_IndexFunc_s4_L0 (some ((-1))) f_a1_c0 s_a0 0)

set_option maxHeartbeats 1000000 in
theorem lg_slices_IndexFunc_s4 (s_a0 : (List S_api_Decl)) (f_a1_c0 : ByteArray) (res : Int) (hr : lf_slices_IndexFunc_s4 s_a0 f_a1_c0 = some res) : Gives Try.prog 80 [.lst (s_a0.map enc_S_api_Decl), .clo (.func 66) [] [.ptr (.str f_a1_c0)]] (.int .i64 res) := by
  unfold lf_slices_IndexFunc_s4 at hr
  refine spec_env [(0, .lst (s_a0.map enc_S_api_Decl)), (1, .clo (.func 66) [] [.ptr (.str f_a1_c0)])] Try.func80 rfl rfl fun K hK => ?_
  refine g_seq ?_
  refine g_run (by kernel_rfl) [(0, .d)] rfl ?_
  refine r_d rfl rfl rfl (s_assign rfl rfl) ?_
  refine r_end ?_
  refine g_seq ?_
  refine g_seq ?_
  refine g_run (by kernel_rfl) [(0, .d), (1, .d), (2, .d)] rfl ?_
  refine r_d rfl rfl rfl (s_move rfl rfl) ?_
  refine r_d rfl rfl rfl (m_len (f := enc_S_api_Decl) s_a0 rfl el_L_api_Decl rfl (asl rfl)) ?_
  refine r_d rfl rfl rfl (s_move rfl rfl) ?_
  refine r_end ?_
  obtain ⟨kk0, hkk0, hr⟩ := exK (fun k => lf_slices_IndexFunc_s4_L0 k f_a1_c0 s_a0 0) hr
  refine g_len 0 rfl (asl rfl) fun hla0 => ?_
  simp only [List.length_map] at hla0
  refine g_blockJ (fun env σ => env = [] ∧ σ = [] ∧ kk0 = some res) ?_ (fun HK0 => ?_)
  ·
   rintro _ _ ⟨rfl, rfl, hr⟩
   rw [hkk0] at hr
   refine g_seq ?_
   refine g_run (by kernel_rfl) [(0, .d)] rfl ?_
   refine r_d rfl rfl rfl (s_assign rfl rfl) ?_
   refine r_end ?_
   obtain rfl := Option.some.inj hr
   refine g_ret Try.func80 _ (.cons (resTmp rfl (Wk.refl _)) .nil) ?_
   rfl
  ·
   refine g_sub [(0, .lst (s_a0.map enc_S_api_Decl)), (1, .clo (.func 66) [] [.ptr (.str f_a1_c0)]), (7, .int .i64 (s_a0.length : Int)), (8, .int .i64 ((0 : Nat) : Int))] (Sub.cons' rfl (Sub.cons' rfl (Sub.cons' rfl (Sub.cons' rfl (Sub.nil _))))) ?_
   refine g_loop (fun n env σ => ∃ (i_1 : Nat), (n = s_a0.length - i_1) ∧ (env = [(0, .lst (s_a0.map enc_S_api_Decl)), (1, .clo (.func 66) [] [.ptr (.str f_a1_c0)]), (7, .int .i64 (s_a0.length : Int)), (8, .int .i64 (i_1 : Int))]) ∧ (σ = []) ∧ (i_1 ≤ s_a0.length) ∧ (lf_slices_IndexFunc_s4_L0 kk0 f_a1_c0 (s_a0.drop i_1) i_1 = some res)) _ ⟨0, rfl, rfl, rfl, Nat.zero_le _, hr⟩ ?_
   rintro n _ _ ⟨i_1, rfl, rfl, rfl, hi0, hr⟩ IH0
   rcases listStep s_a0 i_1 hi0 with ⟨ht0, hd0, he0⟩ | ⟨q_2, ht0, hd0, hq0, hlt0⟩
   ·
    rw [hd0, lf_slices_IndexFunc_s4_L0] at hr
    refine g_seq ?_
    refine g_run (by kernel_rfl) [(0, .d)] rfl ?_
    refine r_d rfl rfl rfl (s_cmp rfl rfl rfl rfl) ?_
    refine r_end ?_
    refine g_seq ?_
    refine g_known 9 false rfl ht0 ?_
    refine g_condF rfl ?_
    refine g_exit rfl ?_
    refine g_sub [] (Sub.nil _) ?_
    exact HK0 _ _ ⟨rfl, rfl, hr⟩
   ·
    rw [hd0, lf_slices_IndexFunc_s4_L0] at hr
    refine g_seq ?_
    refine g_run (by kernel_rfl) [(0, .d)] rfl ?_
    refine r_d rfl rfl rfl (s_cmp rfl rfl rfl rfl) ?_
    refine r_end ?_
    refine g_seq ?_
    refine g_known 9 true rfl ht0 ?_
    refine g_condT rfl ?_
    refine g_skip ?_
    refine g_seq ?_
    refine g_block ?_
    refine g_seq ?_
    refine g_run (by kernel_rfl) [(0, .d), (1, .d)] rfl ?_
    refine r_d rfl rfl rfl (s_move rfl rfl) ?_
    refine r_d rfl rfl rfl (s_assign rfl rfl) ?_
    refine r_end ?_
    refine g_seq ?_
    refine g_run (by kernel_rfl) [(0, .d), (1, .d), (2, .d), (3, .d), (4, .d), (5, .d)] rfl ?_
    refine r_d rfl rfl rfl (s_move rfl rfl) ?_
    refine r_d rfl rfl rfl (s_move rfl rfl) ?_
    refine r_d rfl rfl rfl (s_move rfl rfl) ?_
    refine r_d rfl rfl rfl (m_index (f := enc_S_api_Decl) s_a0 rfl el_L_api_Decl rfl (asl rfl) rfl hq0 sz_S_api_Decl rfl) ?_
    refine r_d rfl rfl rfl (s_load rfl rfl (by exact ty_api_Decl) (sz_S_api_Decl _)) ?_
    obtain ⟨r_3, hr_3, hr⟩ := bindS hr
    refine r_d rfl rfl rfl (s_callVD rfl rfl cl_scope_declared_1 (.cons rfl (Wk.refl _) .nil) rfl (lg_scope_declared_1 _ _ _ hr_3)) ?_
    refine r_end ?_
    refine g_sB 16 rfl hr (fun h16_3 hr => ?_) (fun h16_3 hr => ?_)
    ·
     refine g_condT rfl ?_
     refine g_seq ?_
     refine g_run (by kernel_rfl) [(0, .d), (1, .d)] rfl ?_
     refine r_d rfl rfl rfl (s_move rfl rfl) ?_
     refine r_d rfl rfl rfl (s_assign rfl rfl) ?_
     refine r_end ?_
     obtain rfl := Option.some.inj hr
     refine g_ret Try.func80 _ (.cons (resTmp rfl (Wk.refl _)) .nil) ?_
     rfl
    ·
     refine g_condF rfl ?_
     refine g_skip ?_
     refine g_inBlock ?_
     refine g_run (by kernel_rfl) [(0, .d), (1, .d)] rfl ?_
     refine r_d rfl rfl rfl (s_ar (r := ((i_1 + 1 : Nat) : Int)) rfl rfl rfl (by simp [iar]) (by omega)) ?_
     refine r_d rfl rfl rfl (s_move rfl rfl) ?_
     refine r_end ?_
     refine g_sub [(0, .lst (s_a0.map enc_S_api_Decl)), (1, .clo (.func 66) [] [.ptr (.str f_a1_c0)]), (7, .int .i64 (s_a0.length : Int)), (8, .int .i64 ((i_1 + 1 : Nat) : Int))] (Sub.cons' rfl (Sub.cons' rfl (Sub.cons' rfl (Sub.cons' rfl (Sub.nil _))))) ?_
     exact IH0 _ _ _ (by omega) ⟨(i_1 + 1), rfl, rfl, rfl, (by omega), hr⟩

noncomputable def lf_slices_ContainsFunc_s3 (s_a0 : (List S_api_Decl)) (f_a1_c0 : ByteArray) : Option (Bool) :=
  ((lf_slices_IndexFunc_s4 s_a0 f_a1_c0).bind fun r_1 =>
  some ((decide (r_1 ≥ (0 : Int)))))

set_option maxHeartbeats 1000000 in
theorem lg_slices_ContainsFunc_s3 (s_a0 : (List S_api_Decl)) (f_a1_c0 : ByteArray) (res : Bool) (hr : lf_slices_ContainsFunc_s3 s_a0 f_a1_c0 = some res) : Gives Try.prog 65 [.lst (s_a0.map enc_S_api_Decl), .clo (.func 66) [] [.ptr (.str f_a1_c0)]] (.bool res) := by
  unfold lf_slices_ContainsFunc_s3 at hr
  refine spec_env [(0, .lst (s_a0.map enc_S_api_Decl)), (1, .clo (.func 66) [] [.ptr (.str f_a1_c0)])] Try.func65 rfl rfl fun K hK => ?_
  refine g_seq ?_
  refine g_run (by kernel_rfl) [(0, .d)] rfl ?_
  refine r_d rfl rfl rfl (s_assign rfl rfl) ?_
  refine r_end ?_
  refine g_seq ?_
  refine g_run (by kernel_rfl) [(0, .d), (1, .d), (2, .d), (3, .d), (4, .d)] rfl ?_
  refine r_d rfl rfl rfl (s_move rfl rfl) ?_
  refine r_d rfl rfl rfl (s_move rfl rfl) ?_
  obtain ⟨r_1, hr_1, hr⟩ := bindS hr
  refine r_d rfl rfl rfl (s_callD rfl cl_slices_IndexFunc_api_Decl_api_Decl (.cons rfl (Wk.refl _) (.cons rfl (Wk.refl _) .nil)) (lg_slices_IndexFunc_s4 _ _ _ hr_1)) ?_
  refine r_d rfl rfl rfl (s_cmp rfl rfl rfl rfl) ?_
  refine r_d rfl rfl rfl (s_assign rfl rfl) ?_
  refine r_end ?_
  obtain rfl := Option.some.inj hr
  refine g_ret Try.func65 _ (.cons (resTmp rfl (Wk.refl _)) .nil) ?_
  rfl

noncomputable def lf_slices_Index_api_Decl_api_Decl_L0 (k : Option (Int)) (v_a1 : S_api_Decl) : List S_api_Decl → Nat → Option (Int)
  | [], i_1 =>
  k
  | q_2 :: rest, i_1 =>
  (bif (decide (v_a1 = q_2)) then
  some ((i_1 : Int))
  else
  (lf_slices_Index_api_Decl_api_Decl_L0 k v_a1 rest (i_1 + 1)))
noncomputable def lf_slices_Index_api_Decl_api_Decl (s_a0 : (List S_api_Decl)) (v_a1 : S_api_Decl) : Option (Int) :=
  (lf_slices_Index_api_Decl_api_Decl_L0 (some ((-1))) v_a1 s_a0 0)

set_option maxHeartbeats 1000000 in
theorem lg_slices_Index_api_Decl_api_Decl (s_a0 : (List S_api_Decl)) (v_a1 : S_api_Decl) (res : Int) (hr : lf_slices_Index_api_Decl_api_Decl s_a0 v_a1 = some res) : Gives Try.prog 71 [.lst (s_a0.map enc_S_api_Decl), enc_S_api_Decl v_a1] (.int .i64 res) := by
  unfold lf_slices_Index_api_Decl_api_Decl at hr
  refine spec_env [(0, .lst (s_a0.map enc_S_api_Decl)), (1, enc_S_api_Decl v_a1)] Try.func71 rfl rfl fun K hK => ?_
  refine g_seq ?_
  refine g_run (by kernel_rfl) [(0, .d), (1, .d)] rfl ?_
  refine r_d rfl rfl rfl (s_box rfl rfl rfl) ?_
  refine r_d rfl rfl rfl (s_assign rfl rfl) ?_
  refine r_end ?_
  refine g_seq ?_
  refine g_seq ?_
  refine g_run (by kernel_rfl) [(0, .d), (1, .d), (2, .d)] rfl ?_
  refine r_d rfl rfl rfl (s_move rfl rfl) ?_
  refine r_d rfl rfl rfl (m_len (f := enc_S_api_Decl) s_a0 rfl el_L_api_Decl rfl (asl rfl)) ?_
  refine r_d rfl rfl rfl (s_move rfl rfl) ?_
  refine r_end ?_
  obtain ⟨kk0, hkk0, hr⟩ := exK (fun k => lf_slices_Index_api_Decl_api_Decl_L0 k v_a1 s_a0 0) hr
  refine g_len 0 rfl (asl rfl) fun hla0 => ?_
  simp only [List.length_map] at hla0
  refine g_blockJ (fun env σ => env = [] ∧ σ = [] ∧ kk0 = some res) ?_ (fun HK0 => ?_)
  ·
   rintro _ _ ⟨rfl, rfl, hr⟩
   rw [hkk0] at hr
   refine g_seq ?_
   refine g_run (by kernel_rfl) [(0, .d)] rfl ?_
   refine r_d rfl rfl rfl (s_assign rfl rfl) ?_
   refine r_end ?_
   obtain rfl := Option.some.inj hr
   refine g_ret Try.func71 _ (.cons (resTmp rfl (Wk.refl _)) .nil) ?_
   rfl
  ·
   refine g_sub [(0, .lst (s_a0.map enc_S_api_Decl)), (3, .ptr (enc_S_api_Decl v_a1)), (7, .int .i64 (s_a0.length : Int)), (8, .int .i64 ((0 : Nat) : Int))] (Sub.cons' rfl (Sub.cons' rfl (Sub.cons' rfl (Sub.cons' rfl (Sub.nil _))))) ?_
   refine g_loop (fun n env σ => ∃ (i_1 : Nat), (n = s_a0.length - i_1) ∧ (env = [(0, .lst (s_a0.map enc_S_api_Decl)), (3, .ptr (enc_S_api_Decl v_a1)), (7, .int .i64 (s_a0.length : Int)), (8, .int .i64 (i_1 : Int))]) ∧ (σ = []) ∧ (i_1 ≤ s_a0.length) ∧ (lf_slices_Index_api_Decl_api_Decl_L0 kk0 v_a1 (s_a0.drop i_1) i_1 = some res)) _ ⟨0, rfl, rfl, rfl, Nat.zero_le _, hr⟩ ?_
   rintro n _ _ ⟨i_1, rfl, rfl, rfl, hi0, hr⟩ IH0
   rcases listStep s_a0 i_1 hi0 with ⟨ht0, hd0, he0⟩ | ⟨q_2, ht0, hd0, hq0, hlt0⟩
   ·
    rw [hd0, lf_slices_Index_api_Decl_api_Decl_L0] at hr
    refine g_seq ?_
    refine g_run (by kernel_rfl) [(0, .d)] rfl ?_
    refine r_d rfl rfl rfl (s_cmp rfl rfl rfl rfl) ?_
    refine r_end ?_
    refine g_seq ?_
    refine g_known 9 false rfl ht0 ?_
    refine g_condF rfl ?_
    refine g_exit rfl ?_
    refine g_sub [] (Sub.nil _) ?_
    exact HK0 _ _ ⟨rfl, rfl, hr⟩
   ·
    rw [hd0, lf_slices_Index_api_Decl_api_Decl_L0] at hr
    refine g_seq ?_
    refine g_run (by kernel_rfl) [(0, .d)] rfl ?_
    refine r_d rfl rfl rfl (s_cmp rfl rfl rfl rfl) ?_
    refine r_end ?_
    refine g_seq ?_
    refine g_known 9 true rfl ht0 ?_
    refine g_condT rfl ?_
    refine g_skip ?_
    refine g_seq ?_
    refine g_block ?_
    refine g_seq ?_
    refine g_run (by kernel_rfl) [(0, .d), (1, .d)] rfl ?_
    refine r_d rfl rfl rfl (s_move rfl rfl) ?_
    refine r_d rfl rfl rfl (s_assign rfl rfl) ?_
    refine r_end ?_
    refine g_seq ?_
    refine g_any (by kernel_rfl) (by kernel_rfl) [(0, .d), (1, .d), (2, .d), (3, .d), (4, .d), (5, .d)] (by kernel_rfl) ?_
    refine r_d rfl rfl rfl (s_load rfl rfl (by exact ty_api_Decl) (sz_S_api_Decl _)) ?_
    refine r_d rfl rfl rfl (s_move rfl rfl) ?_
    refine r_d rfl rfl rfl (s_move rfl rfl) ?_
    refine r_d rfl rfl rfl (m_index (f := enc_S_api_Decl) s_a0 rfl el_L_api_Decl rfl (asl rfl) rfl hq0 sz_S_api_Decl rfl) ?_
    refine r_d rfl rfl rfl (s_load rfl rfl (by exact ty_api_Decl) (sz_S_api_Decl _)) ?_
    refine r_d rfl rfl rfl (s_eqT rfl wt_api_Decl rfl rfl) ?_
    refine r_end ?_
    refine g_sB 16 rfl hr (fun h16_2 hr => ?_) (fun h16_2 hr => ?_)
    ·
     refine g_condT rfl ?_
     refine g_seq ?_
     refine g_run (by kernel_rfl) [(0, .d), (1, .d)] rfl ?_
     refine r_d rfl rfl rfl (s_move rfl rfl) ?_
     refine r_d rfl rfl rfl (s_assign rfl rfl) ?_
     refine r_end ?_
     obtain rfl := Option.some.inj hr
     refine g_ret Try.func71 _ (.cons (resTmp rfl (Wk.refl _)) .nil) ?_
     rfl
    ·
     refine g_condF rfl ?_
     refine g_skip ?_
     refine g_inBlock ?_
     refine g_run (by kernel_rfl) [(0, .d), (1, .d)] rfl ?_
     refine r_d rfl rfl rfl (s_ar (r := ((i_1 + 1 : Nat) : Int)) rfl rfl rfl (by simp [iar]) (by omega)) ?_
     refine r_d rfl rfl rfl (s_move rfl rfl) ?_
     refine r_end ?_
     refine g_sub [(0, .lst (s_a0.map enc_S_api_Decl)), (3, .ptr (enc_S_api_Decl v_a1)), (7, .int .i64 (s_a0.length : Int)), (8, .int .i64 ((i_1 + 1 : Nat) : Int))] (Sub.cons' rfl (Sub.cons' rfl (Sub.cons' rfl (Sub.cons' rfl (Sub.nil _))))) ?_
     exact IH0 _ _ _ (by omega) ⟨(i_1 + 1), rfl, rfl, rfl, (by omega), hr⟩

noncomputable def lf_slices_Contains_api_Decl_api_Decl (s_a0 : (List S_api_Decl)) (v_a1 : S_api_Decl) : Option (Bool) :=
  ((lf_slices_Index_api_Decl_api_Decl s_a0 v_a1).bind fun r_1 =>
  some ((decide (r_1 ≥ (0 : Int)))))

set_option maxHeartbeats 1000000 in
theorem lg_slices_Contains_api_Decl_api_Decl (s_a0 : (List S_api_Decl)) (v_a1 : S_api_Decl) (res : Bool) (hr : lf_slices_Contains_api_Decl_api_Decl s_a0 v_a1 = some res) : Gives Try.prog 50 [.lst (s_a0.map enc_S_api_Decl), enc_S_api_Decl v_a1] (.bool res) := by
  unfold lf_slices_Contains_api_Decl_api_Decl at hr
  refine spec_env [(0, .lst (s_a0.map enc_S_api_Decl)), (1, enc_S_api_Decl v_a1)] Try.func50 rfl rfl fun K hK => ?_
  refine g_seq ?_
  refine g_run (by kernel_rfl) [(0, .d), (1, .d)] rfl ?_
  refine r_d rfl rfl rfl (s_box rfl rfl rfl) ?_
  refine r_d rfl rfl rfl (s_assign rfl rfl) ?_
  refine r_end ?_
  refine g_seq ?_
  refine g_run (by kernel_rfl) [(0, .d), (1, .d), (2, .d), (3, .d), (4, .d)] rfl ?_
  refine r_d rfl rfl rfl (s_move rfl rfl) ?_
  refine r_d rfl rfl rfl (s_load rfl rfl (by exact ty_api_Decl) (sz_S_api_Decl _)) ?_
  obtain ⟨r_1, hr_1, hr⟩ := bindS hr
  refine r_d rfl rfl rfl (s_callD rfl cl_slices_Index_api_Decl_api_Decl (.cons rfl (Wk.refl _) (.cons rfl (Wk.refl _) .nil)) (lg_slices_Index_api_Decl_api_Decl _ _ _ hr_1)) ?_
  refine r_d rfl rfl rfl (s_cmp rfl rfl rfl rfl) ?_
  refine r_d rfl rfl rfl (s_assign rfl rfl) ?_
  refine r_end ?_
  obtain rfl := Option.some.inj hr
  refine g_ret Try.func50 _ (.cons (resTmp rfl (Wk.refl _)) .nil) ?_
  rfl

noncomputable def lf_scope_Declared (decls_a0 : (List S_api_Decl)) (name_a1 : ByteArray) (arity_a2 : Int) : Option (Bool) :=
  ((lf_slices_Contains_api_Decl_api_Decl decls_a0 (⟨name_a1, arity_a2⟩ : S_api_Decl)).bind fun r_1 =>
  some (r_1))

set_option maxHeartbeats 1000000 in
theorem lg_scope_Declared (decls_a0 : (List S_api_Decl)) (name_a1 : ByteArray) (arity_a2 : Int) (res : Bool) (hr : lf_scope_Declared decls_a0 name_a1 arity_a2 = some res) : Gives Try.prog 18 [.lst (decls_a0.map enc_S_api_Decl), .str name_a1, .int .i64 arity_a2] (.bool res) := by
  unfold lf_scope_Declared at hr
  refine spec_env [(0, .lst (decls_a0.map enc_S_api_Decl)), (1, .str name_a1), (2, .int .i64 arity_a2)] Try.func18 rfl rfl fun K hK => ?_
  refine g_seq ?_
  refine g_run (by kernel_rfl) [(0, .d)] rfl ?_
  refine r_d rfl rfl rfl (s_assign rfl rfl) ?_
  refine r_end ?_
  refine g_seq ?_
  refine g_run (by kernel_rfl) [(0, .d), (1, .d), (2, .d), (3, .d), (4, .d), (5, .d)] rfl ?_
  refine r_d rfl rfl rfl (s_move rfl rfl) ?_
  refine r_d rfl rfl rfl (s_move rfl rfl) ?_
  refine r_d rfl rfl rfl (s_move rfl rfl) ?_
  refine r_d rfl rfl rfl (s_build rfl bt_api_Decl (.cons rfl (Wk.refl _) (.cons rfl (Wk.refl _) .nil)) (.cons rfl rfl rfl (.cons rfl rfl rfl (.nil _)))) ?_
  obtain ⟨r_1, hr_1, hr⟩ := bindS hr
  refine r_d rfl rfl rfl (s_callD rfl cl_slices_Contains_api_Decl_api_Decl (.cons rfl (Wk.refl _) (.cons rfl (Wk.refl _) .nil)) (lg_slices_Contains_api_Decl_api_Decl _ _ _ hr_1)) ?_
  refine r_d rfl rfl rfl (s_assign rfl rfl) ?_
  refine r_end ?_
  obtain rfl := Option.some.inj hr
  refine g_ret Try.func18 _ (.cons (resTmp rfl (Wk.refl _)) .nil) ?_
  rfl

noncomputable def lf_scope_declared (decls_a0 : (List S_api_Decl)) (name_a1 : ByteArray) (arity_a2 : Int) : Option (Int ⊕ (Unit)) :=
  ((lf_slices_ContainsFunc_s3 decls_a0 name_a1).bind fun r_1 =>
  (bindX (lf_scope_need r_1 7) fun r_2 =>
  ((lf_scope_Declared decls_a0 name_a1 arity_a2).bind fun r_3 =>
  (bindX (lf_scope_need r_3 9) fun r_4 =>
  some (.inr ())))))

set_option maxHeartbeats 1000000 in
theorem lg_scope_declared (decls_a0 : (List S_api_Decl)) (name_a1 : ByteArray) (arity_a2 : Int) (res : Int ⊕ (Unit)) (hr : lf_scope_declared decls_a0 name_a1 arity_a2 = some res) : SpecX Try.prog 35 [.lst (decls_a0.map enc_S_api_Decl), .str name_a1, .int .i64 arity_a2] [] (fun d _ => ∃ r : Unit, res = .inr r ∧ d = .tup []) (fun d => ∃ c, res = .inl c ∧ d = .ifc 83 (.agg [.int .i64 c])) := by
  unfold lf_scope_declared at hr
  refine spec_envX [(0, .lst (decls_a0.map enc_S_api_Decl)), (1, .str name_a1), (2, .int .i64 arity_a2)] Try.func35 rfl rfl fun K hK hX => ?_
  refine g_seq ?_
  refine g_run (by kernel_rfl) [(0, .d)] rfl ?_
  refine r_d rfl rfl rfl (s_box rfl rfl rfl) ?_
  refine r_end ?_
  refine g_seq ?_
  refine g_run (by kernel_rfl) [(0, .d), (1, .d), (2, .d), (3, .d)] rfl ?_
  refine r_d rfl rfl rfl (s_move rfl rfl) ?_
  refine r_d rfl rfl rfl (s_makeFunc rfl rfl rfl) ?_
  obtain ⟨r_1, hr_1, hr⟩ := bindS hr
  refine r_d rfl rfl rfl (s_callD rfl cl_slices_ContainsFunc_api_Decl_api_Decl (.cons rfl (Wk.refl _) (.cons rfl (Wk.refl _) .nil)) (lg_slices_ContainsFunc_s3 _ _ _ hr_1)) ?_
  refine r_d rfl rfl rfl (s_assign rfl rfl) ?_
  refine r_end ?_
  refine g_seq ?_
  refine g_run (by kernel_rfl) [(0, .d), (1, .d)] rfl ?_
  refine r_d rfl rfl rfl (s_move rfl rfl) ?_
  rcases bindXS hr with ⟨c_r_2, hr_2, rfl⟩ | ⟨r_2, hr_2, hr⟩
  ·
   refine r_die rfl rfl (s_callX _ rfl cl_scope_need (.cons rfl (Wk.refl _) (.cons rfl (Wk.refl _) .nil)) (by exact (List.Perm.refl _)) (specX_inl (lg_scope_need _ _ _ hr_2))) (hX _ ⟨_, rfl, rfl⟩)
  ·
   refine r_d rfl rfl rfl (s_callD rfl cl_scope_need (.cons rfl (Wk.refl _) (.cons rfl (Wk.refl _) .nil)) (specX_inr (lg_scope_need _ _ _ hr_2))) ?_
   refine r_end ?_
   refine g_run (by kernel_rfl) [(0, .d), (1, .d), (2, .d), (3, .d), (4, .d)] rfl ?_
   refine r_d rfl rfl rfl (s_move rfl rfl) ?_
   refine r_d rfl rfl rfl (s_load rfl rfl (by exact ty_string) rfl) ?_
   refine r_d rfl rfl rfl (s_move rfl rfl) ?_
   obtain ⟨r_3, hr_3, hr⟩ := bindS hr
   refine r_d rfl rfl rfl (s_callD rfl cl_scope_Declared (.cons rfl (Wk.refl _) (.cons rfl (Wk.refl _) (.cons rfl (Wk.refl _) .nil))) (lg_scope_Declared _ _ _ _ hr_3)) ?_
   rcases bindXS hr with ⟨c_r_4, hr_4, rfl⟩ | ⟨r_4, hr_4, hr⟩
   ·
    refine r_die rfl rfl (s_callX _ rfl cl_scope_need (.cons rfl (Wk.refl _) (.cons rfl (Wk.refl _) .nil)) (by exact (List.Perm.refl _)) (specX_inl (lg_scope_need _ _ _ hr_4))) (hX _ ⟨_, rfl, rfl⟩)
   ·
    refine r_d rfl rfl rfl (s_callD rfl cl_scope_need (.cons rfl (Wk.refl _) (.cons rfl (Wk.refl _) .nil)) (specX_inr (lg_scope_need _ _ _ hr_4))) ?_
    refine r_end ?_
    obtain rfl := Option.some.inj hr
    refine g_end Try.func35 _ .nil ?_
    exact ⟨_, rfl, rfl⟩

noncomputable def lf_scope_calls_L0 (k : Option (Int ⊕ (Unit))) (decls_a0 : (List S_api_Decl)) : List Gl → Option (Int ⊕ (Unit))
  | [] =>
  k
  | q_2 :: rest =>
  (bif (q_2.op == (0 : Int)) then
  (bindX (lf_scope_declared decls_a0 q_2.n (q_2.ts.length : Int)) fun r_5 =>
  (lf_scope_calls_L0 k decls_a0 rest))
  else
  (lf_scope_calls_L0 k decls_a0 rest))
noncomputable def lf_scope_calls (decls_a0 : (List S_api_Decl)) (l_a1 : (List Gl)) : Option (Int ⊕ (Unit)) :=
  (lf_scope_calls_L0 (some (.inr ())) decls_a0 l_a1)

set_option maxHeartbeats 1000000 in
theorem lg_scope_calls (decls_a0 : (List S_api_Decl)) (l_a1 : (List Gl)) (res : Int ⊕ (Unit)) (hr : lf_scope_calls decls_a0 l_a1 = some res) : SpecX Try.prog 36 [.lst (decls_a0.map enc_S_api_Decl), .lst (l_a1.map encG)] [] (fun d _ => ∃ r : Unit, res = .inr r ∧ d = .tup []) (fun d => ∃ c, res = .inl c ∧ d = .ifc 83 (.agg [.int .i64 c])) := by
  unfold lf_scope_calls at hr
  refine spec_envX [(0, .lst (decls_a0.map enc_S_api_Decl)), (1, .lst (l_a1.map encG))] Try.func36 rfl rfl fun K hK hX => ?_
  refine g_seq ?_
  refine g_run (by kernel_rfl) [(0, .d), (1, .d), (2, .d)] rfl ?_
  refine r_d rfl rfl rfl (s_move rfl rfl) ?_
  refine r_d rfl rfl rfl (m_len (f := encG) l_a1 rfl el_L_api_Goal rfl (asl rfl)) ?_
  refine r_d rfl rfl rfl (s_move rfl rfl) ?_
  refine r_end ?_
  obtain ⟨kk0, hkk0, hr⟩ := exK (fun k => lf_scope_calls_L0 k decls_a0 l_a1) hr
  refine g_len 1 rfl (asl rfl) fun hla0 => ?_
  simp only [List.length_map] at hla0
  refine g_blockJ (fun env σ => env = [] ∧ σ = [] ∧ kk0 = some res) ?_ (fun HK0 => ?_)
  ·
   rintro _ _ ⟨rfl, rfl, hr⟩
   rw [hkk0] at hr
   obtain rfl := Option.some.inj hr
   refine g_end Try.func36 _ .nil ?_
   exact ⟨_, rfl, rfl⟩
  ·
   refine g_sub [(0, .lst (decls_a0.map enc_S_api_Decl)), (6, .lst (l_a1.map encG)), (7, .int .i64 (l_a1.length : Int)), (8, .int .i64 ((0 : Nat) : Int))] (Sub.cons' rfl (Sub.cons' rfl (Sub.cons' rfl (Sub.cons' rfl (Sub.nil _))))) ?_
   refine g_loop (fun n env σ => ∃ (i_1 : Nat), (n = l_a1.length - i_1) ∧ (env = [(0, .lst (decls_a0.map enc_S_api_Decl)), (6, .lst (l_a1.map encG)), (7, .int .i64 (l_a1.length : Int)), (8, .int .i64 (i_1 : Int))]) ∧ (σ = []) ∧ (i_1 ≤ l_a1.length) ∧ (lf_scope_calls_L0 kk0 decls_a0 (l_a1.drop i_1) = some res)) _ ⟨0, rfl, rfl, rfl, Nat.zero_le _, hr⟩ ?_
   rintro n _ _ ⟨i_1, rfl, rfl, rfl, hi0, hr⟩ IH0
   rcases listStep l_a1 i_1 hi0 with ⟨ht0, hd0, he0⟩ | ⟨q_2, ht0, hd0, hq0, hlt0⟩
   ·
    rw [hd0, lf_scope_calls_L0] at hr
    refine g_seq ?_
    refine g_run (by kernel_rfl) [(0, .d)] rfl ?_
    refine r_d rfl rfl rfl (s_cmp rfl rfl rfl rfl) ?_
    refine r_end ?_
    refine g_seq ?_
    refine g_known 9 false rfl ht0 ?_
    refine g_condF rfl ?_
    refine g_exit rfl ?_
    refine g_sub [] (Sub.nil _) ?_
    exact HK0 _ _ ⟨rfl, rfl, hr⟩
   ·
    rw [hd0, lf_scope_calls_L0] at hr
    refine g_seq ?_
    refine g_run (by kernel_rfl) [(0, .d)] rfl ?_
    refine r_d rfl rfl rfl (s_cmp rfl rfl rfl rfl) ?_
    refine r_end ?_
    refine g_seq ?_
    refine g_known 9 true rfl ht0 ?_
    refine g_condT rfl ?_
    refine g_skip ?_
    refine g_seq ?_
    refine g_block ?_
    refine g_seq ?_
    refine g_run (by kernel_rfl) [(0, .d), (1, .d), (2, .w), (3, .w)] rfl ?_
    refine r_d rfl rfl rfl (m_index (f := encG) l_a1 rfl el_L_api_Goal rfl (asl rfl) rfl hq0 sz_encG rfl) ?_
    refine r_d rfl rfl rfl (s_load rfl rfl (by exact ty_api_Goal) (sz_encG _)) ?_
    refine r_w rfl rfl rfl (s_alloc rfl zv_api_Goal) ?_
    rintro _ _ ⟨b5_2, rfl, rfl⟩
    refine r_w01 rfl rfl rfl (t_store0 _ rfl rfl rfl (Wk.refl _) (pf0 _) (by exact ty_api_Goal) (sz_encG _) rfl rfl) ?_
    refine r_end ?_
    refine g_freeze 5 b5_2 rfl (pf0 _) ?_
    refine g_seq ?_
    refine g_run (by kernel_rfl) [(0, .d), (1, .d), (2, .d)] rfl ?_
    refine r_d rfl rfl rfl (s_fieldAddr rfl fl_api_Goal_0 rfl rfl rfl rfl) ?_
    refine r_d rfl rfl rfl (s_load rfl rfl (by exact ty_int) rfl) ?_
    refine r_d rfl rfl rfl (s_cmp rfl rfl rfl rfl) ?_
    refine r_end ?_
    refine g_sB 14 rfl hr (fun h14_3 hr => ?_) (fun h14_3 hr => ?_)
    ·
     refine g_condT rfl ?_
     refine g_run (by kernel_rfl) [(0, .d), (1, .d), (2, .d), (3, .d), (4, .d), (5, .d), (6, .d)] rfl ?_
     refine r_d rfl rfl rfl (s_move rfl rfl) ?_
     refine r_d rfl rfl rfl (s_fieldAddr rfl fl_api_Goal_1 rfl rfl rfl rfl) ?_
     refine r_d rfl rfl rfl (s_load rfl rfl (by exact ty_string) rfl) ?_
     refine r_d rfl rfl rfl (s_fieldAddr rfl fl_api_Goal_2 rfl rfl rfl rfl) ?_
     refine r_d rfl rfl rfl (s_load rfl rfl (by exact ty_L_api_Term) rfl) ?_
     refine r_d rfl rfl rfl (m_len (f := encT) q_2.ts rfl el_L_api_Term rfl (asl rfl)) ?_
     rcases bindXS hr with ⟨c_r_5, hr_5, rfl⟩ | ⟨r_5, hr_5, hr⟩
     ·
      refine r_die rfl rfl (s_callX _ rfl cl_scope_declared (.cons rfl (Wk.refl _) (.cons rfl (Wk.refl _) (.cons rfl (Wk.refl _) .nil))) (by exact (List.Perm.refl _)) (specX_inl (lg_scope_declared _ _ _ _ hr_5))) (hX _ ⟨_, rfl, rfl⟩)
     ·
      refine r_d rfl rfl rfl (s_callD rfl cl_scope_declared (.cons rfl (Wk.refl _) (.cons rfl (Wk.refl _) (.cons rfl (Wk.refl _) .nil))) (specX_inr (lg_scope_declared _ _ _ _ hr_5))) ?_
      refine r_end ?_
      refine g_inBlock ?_
      refine g_run (by kernel_rfl) [(0, .d), (1, .d)] rfl ?_
      refine r_d rfl rfl rfl (s_ar (r := ((i_1 + 1 : Nat) : Int)) rfl rfl rfl (by simp [iar]) (by omega)) ?_
      refine r_d rfl rfl rfl (s_move rfl rfl) ?_
      refine r_end ?_
      refine g_sub [(0, .lst (decls_a0.map enc_S_api_Decl)), (6, .lst (l_a1.map encG)), (7, .int .i64 (l_a1.length : Int)), (8, .int .i64 ((i_1 + 1 : Nat) : Int))] (Sub.cons' rfl (Sub.cons' rfl (Sub.cons' rfl (Sub.cons' rfl (Sub.nil _))))) ?_
      exact IH0 _ _ _ (by omega) ⟨(i_1 + 1), rfl, rfl, rfl, (by omega), hr⟩
    ·
     refine g_condF rfl ?_
     refine g_skip ?_
     refine g_inBlock ?_
     refine g_run (by kernel_rfl) [(0, .d), (1, .d)] rfl ?_
     refine r_d rfl rfl rfl (s_ar (r := ((i_1 + 1 : Nat) : Int)) rfl rfl rfl (by simp [iar]) (by omega)) ?_
     refine r_d rfl rfl rfl (s_move rfl rfl) ?_
     refine r_end ?_
     refine g_sub [(0, .lst (decls_a0.map enc_S_api_Decl)), (6, .lst (l_a1.map encG)), (7, .int .i64 (l_a1.length : Int)), (8, .int .i64 ((i_1 + 1 : Nat) : Int))] (Sub.cons' rfl (Sub.cons' rfl (Sub.cons' rfl (Sub.cons' rfl (Sub.nil _))))) ?_
     exact IH0 _ _ _ (by omega) ⟨(i_1 + 1), rfl, rfl, rfl, (by omega), hr⟩

noncomputable def lf_scope_test (op_a0 : Int) : Option (Bool) :=
  (bif (decide (op_a0 ≥ (5 : Int))) then
  some ((decide (op_a0 ≤ (12 : Int))))
  else
  some (false))

set_option maxHeartbeats 1000000 in
theorem lg_scope_test (op_a0 : Int) (res : Bool) (hr : lf_scope_test op_a0 = some res) : Gives Try.prog 37 [.int .i64 op_a0] (.bool res) := by
  unfold lf_scope_test at hr
  refine spec_env [(0, .int .i64 op_a0)] Try.func37 rfl rfl fun K hK => ?_
  refine g_seq ?_
  refine g_run (by kernel_rfl) [(0, .d)] rfl ?_
  refine r_d rfl rfl rfl (s_assign rfl rfl) ?_
  refine r_end ?_
  refine g_seq ?_
  refine g_run (by kernel_rfl) [(0, .d), (1, .d), (2, .d), (3, .d), (4, .d), (5, .d), (6, .d)] rfl ?_
  refine r_d rfl rfl rfl (s_move rfl rfl) ?_
  refine r_d rfl rfl rfl (s_cmp rfl rfl rfl rfl) ?_
  refine r_d rfl rfl rfl (s_move rfl rfl) ?_
  refine r_sB 5 rfl hr (fun h5_0 hr => ?_) (fun h5_0 hr => ?_)
  ·
   refine r_d rfl rfl rfl (s_move rfl rfl) ?_
   refine r_d rfl rfl rfl (s_cmp rfl rfl rfl rfl) ?_
   refine r_d rfl rfl rfl (s_pickT rfl rfl rfl) ?_
   refine r_d rfl rfl rfl (s_assign rfl rfl) ?_
   refine r_end ?_
   obtain rfl := Option.some.inj hr
   refine g_ret Try.func37 _ (.cons (resTmp rfl (Wk.refl _)) .nil) ?_
   rfl
  ·
   refine r_skip rfl rfl rfl ?_
   refine r_skip rfl rfl rfl ?_
   refine r_d rfl rfl rfl (s_pickF rfl rfl rfl) ?_
   refine r_d rfl rfl rfl (s_assign rfl rfl) ?_
   refine r_end ?_
   obtain rfl := Option.some.inj hr
   refine g_ret Try.func37 _ (.cons (resTmp rfl (Wk.refl _)) .nil) ?_
   rfl

noncomputable def lf_scope_atomVars_L1 (k : ((List Int)) → Option ((List Int))) : List At → (List Int) → Option ((List Int))
  | [], out_10 =>
  (k out_10)
  | q_14 :: rest, out_10 =>
  ((x_varsA q_14).bind fun r_16 =>
  ((appO 8 out_10 r_16).bind fun l_17 =>
  (lf_scope_atomVars_L1 k rest l_17)))

noncomputable def lf_scope_atomVars_L0 (k : ((List Int)) → Option ((List Int))) : List (List At) → (List Int) → Option ((List Int))
  | [], out_4 =>
  (k out_4)
  | q_8 :: rest, out_4 =>
  (lf_scope_atomVars_L1 (fun out_13 =>
  (lf_scope_atomVars_L0 k rest out_13)) q_8 out_4)
noncomputable def lf_scope_atomVars (l_a0 : (List (List At))) : Option ((List Int)) :=
  (lf_scope_atomVars_L0 (fun out_7 =>
  some (out_7)) l_a0 [])

set_option maxHeartbeats 1000000 in
theorem lg_scope_atomVars (l_a0 : (List (List At))) (res : (List Int)) (hr : lf_scope_atomVars l_a0 = some res) : Gives Try.prog 33 [.lst (l_a0.map (fun l => D.lst (l.map encA)))] (.lst (res.map (D.int .i64))) := by
  unfold lf_scope_atomVars at hr
  refine spec_env [(0, .lst (l_a0.map (fun l => D.lst (l.map encA))))] Try.func33 rfl rfl fun K hK => ?_
  refine g_seq ?_
  refine g_run (by kernel_rfl) [(0, .w)] rfl ?_
  refine r_w rfl rfl rfl (s_nilOwn 3 1 (.inl rfl)) ?_
  rintro _ _ ⟨u2_0, rfl, rfl⟩
  refine r_end ?_
  refine g_seq ?_
  refine g_run (by kernel_rfl) [(0, .w)] rfl ?_
  refine r_w rfl rfl rfl (s_nilOwn 3 1 (.inl rfl)) ?_
  rintro _ _ ⟨u3_1, rfl, rfl⟩
  refine r_end ?_
  refine g_seq ?_
  refine g_seq ?_
  refine g_run (by kernel_rfl) [(0, .d), (1, .d), (2, .d)] rfl ?_
  refine r_d rfl rfl rfl (s_move rfl rfl) ?_
  refine r_d rfl rfl rfl (m_len (f := (fun l => D.lst (l.map encA))) l_a0 rfl el_L_L_api_Atom rfl (asl rfl)) ?_
  refine r_d rfl rfl rfl (s_move rfl rfl) ?_
  refine r_end ?_
  obtain ⟨kk0, hkk0, hr⟩ := exK (fun k => lf_scope_atomVars_L0 k l_a0 []) hr
  refine g_len 0 rfl (asl rfl) fun hla0 => ?_
  simp only [List.length_map] at hla0
  refine g_blockJ (fun env σ => ∃ (out_7 : (List Int)) (u_6 : Value), env = [(3, .own u_6 (out_7.map (D.int .i64)))] ∧ σ = [.row u_6 out_7.length 3 1] ∧ kk0 out_7 = some res) ?_ (fun HK0 => ?_)
  ·
   rintro _ _ ⟨out_7, u_6, rfl, rfl, hr⟩
   rw [hkk0] at hr
   refine g_seq ?_
   refine g_run (by kernel_rfl) [(0, .d), (1, .d)] rfl ?_
   refine r_d rfl rfl rfl (s_move rfl rfl) ?_
   refine r_d rfl rfl rfl (s_assign rfl rfl) ?_
   refine r_end ?_
   obtain rfl := Option.some.inj hr
   refine g_ret Try.func33 _ (.cons (resTmp rfl (Wk.own _ _)) .nil) ?_
   rfl
  ·
   refine g_sub [(8, .lst (l_a0.map (fun l => D.lst (l.map encA)))), (9, .int .i64 (l_a0.length : Int)), (3, .own u3_1 ([].map (D.int .i64))), (10, .int .i64 ((0 : Nat) : Int))] (Sub.cons' rfl (Sub.cons' rfl (Sub.cons' rfl (Sub.cons' rfl (Sub.nil _))))) ?_
   refine g_perm [_] _ (pf0 _) ?_
   refine g_loop (fun n env σ => ∃ (out_4 : (List Int)) (i_5 : Nat) (u_3 : Value), (n = l_a0.length - i_5) ∧ (env = [(8, .lst (l_a0.map (fun l => D.lst (l.map encA)))), (9, .int .i64 (l_a0.length : Int)), (3, .own u_3 (out_4.map (D.int .i64))), (10, .int .i64 (i_5 : Int))]) ∧ (σ = [.row u_3 out_4.length 3 1]) ∧ (i_5 ≤ l_a0.length) ∧ (lf_scope_atomVars_L0 kk0 (l_a0.drop i_5) out_4 = some res)) _ ⟨[], 0, u3_1, rfl, rfl, rfl, Nat.zero_le _, hr⟩ ?_
   rintro n _ _ ⟨out_4, i_5, u_3, rfl, rfl, rfl, hi0, hr⟩ IH0
   rcases listStep l_a0 i_5 hi0 with ⟨ht0, hd0, he0⟩ | ⟨q_8, ht0, hd0, hq0, hlt0⟩
   ·
    rw [hd0, lf_scope_atomVars_L0] at hr
    refine g_seq ?_
    refine g_run (by kernel_rfl) [(0, .d)] rfl ?_
    refine r_d rfl rfl rfl (s_cmp rfl rfl rfl rfl) ?_
    refine r_end ?_
    refine g_seq ?_
    refine g_known 11 false rfl ht0 ?_
    refine g_condF rfl ?_
    refine g_exit rfl ?_
    refine g_sub [(3, .own u_3 (out_4.map (D.int .i64)))] (Sub.cons' rfl (Sub.nil _)) ?_
    exact HK0 _ _ ⟨out_4, u_3, rfl, rfl, hr⟩
   ·
    rw [hd0, lf_scope_atomVars_L0] at hr
    refine g_seq ?_
    refine g_run (by kernel_rfl) [(0, .d)] rfl ?_
    refine r_d rfl rfl rfl (s_cmp rfl rfl rfl rfl) ?_
    refine r_end ?_
    refine g_seq ?_
    refine g_known 11 true rfl ht0 ?_
    refine g_condT rfl ?_
    refine g_skip ?_
    refine g_seq ?_
    refine g_block ?_
    refine g_seq ?_
    refine g_run (by kernel_rfl) [(0, .d), (1, .d), (2, .d)] rfl ?_
    refine r_d rfl rfl rfl (m_index (f := (fun l => D.lst (l.map encA))) l_a0 rfl el_L_L_api_Atom rfl (asl rfl) rfl hq0 (fun _ => rfl) rfl) ?_
    refine r_d rfl rfl rfl (s_load rfl rfl (by exact ty_L_api_Atom) rfl) ?_
    refine r_d rfl rfl rfl (s_assign rfl rfl) ?_
    refine r_end ?_
    refine g_seq ?_
    refine g_run (by kernel_rfl) [(0, .d), (1, .d), (2, .d)] rfl ?_
    refine r_d rfl rfl rfl (s_move rfl rfl) ?_
    refine r_d rfl rfl rfl (m_len (f := encA) q_8 rfl el_L_api_Atom rfl (asl rfl)) ?_
    refine r_d rfl rfl rfl (s_move rfl rfl) ?_
    refine r_end ?_
    obtain ⟨kk1, hkk1, hr⟩ := exK (fun k => lf_scope_atomVars_L1 k q_8 out_4) hr
    refine g_len 13 rfl (asl rfl) fun hla1 => ?_
    simp only [List.length_map] at hla1
    refine g_blockJ (fun env σ => ∃ (out_13 : (List Int)) (u_12 : Value), env = [(3, .own u_12 (out_13.map (D.int .i64))), (8, .lst (l_a0.map (fun l => D.lst (l.map encA)))), (9, .int .i64 (l_a0.length : Int)), (10, .int .i64 (i_5 : Int))] ∧ σ = [.row u_12 out_13.length 3 1] ∧ kk1 out_13 = some res) ?_ (fun HK1 => ?_)
    ·
     rintro _ _ ⟨out_13, u_12, rfl, rfl, hr⟩
     rw [hkk1] at hr
     refine g_inBlock ?_
     refine g_run (by kernel_rfl) [(0, .d), (1, .d)] rfl ?_
     refine r_d rfl rfl rfl (s_ar (r := ((i_5 + 1 : Nat) : Int)) rfl rfl rfl (by simp [iar]) (by omega)) ?_
     refine r_d rfl rfl rfl (s_move rfl rfl) ?_
     refine r_end ?_
     refine g_sub [(8, .lst (l_a0.map (fun l => D.lst (l.map encA)))), (9, .int .i64 (l_a0.length : Int)), (3, .own u_12 (out_13.map (D.int .i64))), (10, .int .i64 ((i_5 + 1 : Nat) : Int))] (Sub.cons' rfl (Sub.cons' rfl (Sub.cons' rfl (Sub.cons' rfl (Sub.nil _))))) ?_
     exact IH0 _ _ _ (by omega) ⟨out_13, (i_5 + 1), u_12, rfl, rfl, rfl, (by omega), hr⟩
    ·
     refine g_sub [(8, .lst (l_a0.map (fun l => D.lst (l.map encA)))), (9, .int .i64 (l_a0.length : Int)), (10, .int .i64 ((i_5 : Nat) : Int)), (14, .lst (q_8.map encA)), (15, .int .i64 (q_8.length : Int)), (3, .own u_3 (out_4.map (D.int .i64))), (16, .int .i64 ((0 : Nat) : Int))] (Sub.cons' rfl (Sub.cons' rfl (Sub.cons' rfl (Sub.cons' rfl (Sub.cons' rfl (Sub.cons' rfl (Sub.cons' rfl (Sub.nil _)))))))) ?_
     refine g_loop (fun n env σ => ∃ (out_10 : (List Int)) (i_11 : Nat) (u_9 : Value), (n = q_8.length - i_11) ∧ (env = [(8, .lst (l_a0.map (fun l => D.lst (l.map encA)))), (9, .int .i64 (l_a0.length : Int)), (10, .int .i64 (i_5 : Int)), (14, .lst (q_8.map encA)), (15, .int .i64 (q_8.length : Int)), (3, .own u_9 (out_10.map (D.int .i64))), (16, .int .i64 (i_11 : Int))]) ∧ (σ = [.row u_9 out_10.length 3 1]) ∧ (i_11 ≤ q_8.length) ∧ (lf_scope_atomVars_L1 kk1 (q_8.drop i_11) out_10 = some res)) _ ⟨out_4, 0, u_3, rfl, rfl, rfl, Nat.zero_le _, hr⟩ ?_
     rintro n _ _ ⟨out_10, i_11, u_9, rfl, rfl, rfl, hi1, hr⟩ IH1
     rcases listStep q_8 i_11 hi1 with ⟨ht1, hd1, he1⟩ | ⟨q_14, ht1, hd1, hq1, hlt1⟩
     ·
      rw [hd1, lf_scope_atomVars_L1] at hr
      refine g_seq ?_
      refine g_run (by kernel_rfl) [(0, .d)] rfl ?_
      refine r_d rfl rfl rfl (s_cmp rfl rfl rfl rfl) ?_
      refine r_end ?_
      refine g_seq ?_
      refine g_known 17 false rfl ht1 ?_
      refine g_condF rfl ?_
      refine g_exit rfl ?_
      refine g_sub [(3, .own u_9 (out_10.map (D.int .i64))), (8, .lst (l_a0.map (fun l => D.lst (l.map encA)))), (9, .int .i64 (l_a0.length : Int)), (10, .int .i64 (i_5 : Int))] (Sub.cons' rfl (Sub.cons' rfl (Sub.cons' rfl (Sub.cons' rfl (Sub.nil _))))) ?_
      exact HK1 _ _ ⟨out_10, u_9, rfl, rfl, hr⟩
     ·
      rw [hd1, lf_scope_atomVars_L1] at hr
      refine g_seq ?_
      refine g_run (by kernel_rfl) [(0, .d)] rfl ?_
      refine r_d rfl rfl rfl (s_cmp rfl rfl rfl rfl) ?_
      refine r_end ?_
      refine g_seq ?_
      refine g_known 17 true rfl ht1 ?_
      refine g_condT rfl ?_
      refine g_skip ?_
      refine g_seq ?_
      refine g_block ?_
      refine g_seq ?_
      refine g_run (by kernel_rfl) [(0, .d), (1, .d), (2, .w), (3, .w)] rfl ?_
      refine r_d rfl rfl rfl (m_index (f := encA) q_8 rfl el_L_api_Atom rfl (asl rfl) rfl hq1 sz_encA rfl) ?_
      refine r_d rfl rfl rfl (s_load rfl rfl (by exact ty_api_Atom) (sz_encA _)) ?_
      refine r_w rfl rfl rfl (s_alloc rfl zv_api_Atom) ?_
      rintro _ _ ⟨b7_14, rfl, rfl⟩
      refine r_w01 rfl rfl rfl (t_store0 _ rfl rfl rfl (Wk.refl _) (pf0 _) (by exact ty_api_Atom) (sz_encA _) rfl rfl) ?_
      refine r_end ?_
      refine g_freeze 7 b7_14 rfl (pf0 _) ?_
      refine g_run (by kernel_rfl) [(0, .d), (1, .d), (2, .d), (3, .w), (4, .d)] rfl ?_
      refine r_d rfl rfl rfl (s_move rfl rfl) ?_
      refine r_d rfl rfl rfl (s_load rfl rfl (by exact ty_api_Atom) (sz_encA _)) ?_
      obtain ⟨r_16, hr_16, hr⟩ := bindS hr
      refine r_d rfl rfl rfl (s_callD rfl cl_term_AtomVars (.cons rfl (Wk.refl _) .nil) (lx_term_AtomVars _ _ hr_16)) ?_
      obtain ⟨l_17, hl_17, hr⟩ := bindS hr
      refine r_w rfl rfl rfl (m_appOwn (f := (D.int .i64)) out_10 r_16 rfl el_L_int rfl rfl (asl rfl) (pf0 _) rfl (fun _ => rfl) hl_17) ?_
      rintro _ _ ⟨u23_17, rfl, rfl⟩
      refine r_d rfl rfl rfl (s_assign rfl rfl) ?_
      refine r_end ?_
      refine g_inBlock ?_
      refine g_run (by kernel_rfl) [(0, .d), (1, .d)] rfl ?_
      refine r_d rfl rfl rfl (s_ar (r := ((i_11 + 1 : Nat) : Int)) rfl rfl rfl (by simp [iar]) (by omega)) ?_
      refine r_d rfl rfl rfl (s_move rfl rfl) ?_
      refine r_end ?_
      refine g_sub [(8, .lst (l_a0.map (fun l => D.lst (l.map encA)))), (9, .int .i64 (l_a0.length : Int)), (10, .int .i64 ((i_5 : Nat) : Int)), (14, .lst (q_8.map encA)), (15, .int .i64 (q_8.length : Int)), (3, .own u23_17 (l_17.map (D.int .i64))), (16, .int .i64 ((i_11 + 1 : Nat) : Int))] (Sub.cons' rfl (Sub.cons' rfl (Sub.cons' rfl (Sub.cons' rfl (Sub.cons' rfl (Sub.cons' rfl (Sub.cons' rfl (Sub.nil _)))))))) ?_
      exact IH1 _ _ _ (by omega) ⟨l_17, (i_11 + 1), u23_17, rfl, rfl, rfl, (by omega), hr⟩

noncomputable def lf_slices_Index_int_int_L0 (k : Option (Int)) (v_a1 : Int) : List Int → Nat → Option (Int)
  | [], i_1 =>
  k
  | q_2 :: rest, i_1 =>
  (bif (v_a1 == q_2) then
  some ((i_1 : Int))
  else
  (lf_slices_Index_int_int_L0 k v_a1 rest (i_1 + 1)))
noncomputable def lf_slices_Index_int_int (s_a0 : (List Int)) (v_a1 : Int) : Option (Int) :=
  (lf_slices_Index_int_int_L0 (some ((-1))) v_a1 s_a0 0)

set_option maxHeartbeats 1000000 in
theorem lg_slices_Index_int_int (s_a0 : (List Int)) (v_a1 : Int) (res : Int) (hr : lf_slices_Index_int_int s_a0 v_a1 = some res) : Gives Try.prog 67 [.lst (s_a0.map (D.int .i64)), .int .i64 v_a1] (.int .i64 res) := by
  unfold lf_slices_Index_int_int at hr
  refine spec_env [(0, .lst (s_a0.map (D.int .i64))), (1, .int .i64 v_a1)] Try.func67 rfl rfl fun K hK => ?_
  refine g_seq ?_
  refine g_run (by kernel_rfl) [(0, .d)] rfl ?_
  refine r_d rfl rfl rfl (s_assign rfl rfl) ?_
  refine r_end ?_
  refine g_seq ?_
  refine g_seq ?_
  refine g_run (by kernel_rfl) [(0, .d), (1, .d), (2, .d)] rfl ?_
  refine r_d rfl rfl rfl (s_move rfl rfl) ?_
  refine r_d rfl rfl rfl (m_len (f := (D.int .i64)) s_a0 rfl el_L_int rfl (asl rfl)) ?_
  refine r_d rfl rfl rfl (s_move rfl rfl) ?_
  refine r_end ?_
  obtain ⟨kk0, hkk0, hr⟩ := exK (fun k => lf_slices_Index_int_int_L0 k v_a1 s_a0 0) hr
  refine g_len 0 rfl (asl rfl) fun hla0 => ?_
  simp only [List.length_map] at hla0
  refine g_blockJ (fun env σ => env = [] ∧ σ = [] ∧ kk0 = some res) ?_ (fun HK0 => ?_)
  ·
   rintro _ _ ⟨rfl, rfl, hr⟩
   rw [hkk0] at hr
   refine g_seq ?_
   refine g_run (by kernel_rfl) [(0, .d)] rfl ?_
   refine r_d rfl rfl rfl (s_assign rfl rfl) ?_
   refine r_end ?_
   obtain rfl := Option.some.inj hr
   refine g_ret Try.func67 _ (.cons (resTmp rfl (Wk.refl _)) .nil) ?_
   rfl
  ·
   refine g_sub [(0, .lst (s_a0.map (D.int .i64))), (1, .int .i64 v_a1), (7, .int .i64 (s_a0.length : Int)), (8, .int .i64 ((0 : Nat) : Int))] (Sub.cons' rfl (Sub.cons' rfl (Sub.cons' rfl (Sub.cons' rfl (Sub.nil _))))) ?_
   refine g_loop (fun n env σ => ∃ (i_1 : Nat), (n = s_a0.length - i_1) ∧ (env = [(0, .lst (s_a0.map (D.int .i64))), (1, .int .i64 v_a1), (7, .int .i64 (s_a0.length : Int)), (8, .int .i64 (i_1 : Int))]) ∧ (σ = []) ∧ (i_1 ≤ s_a0.length) ∧ (lf_slices_Index_int_int_L0 kk0 v_a1 (s_a0.drop i_1) i_1 = some res)) _ ⟨0, rfl, rfl, rfl, Nat.zero_le _, hr⟩ ?_
   rintro n _ _ ⟨i_1, rfl, rfl, rfl, hi0, hr⟩ IH0
   rcases listStep s_a0 i_1 hi0 with ⟨ht0, hd0, he0⟩ | ⟨q_2, ht0, hd0, hq0, hlt0⟩
   ·
    rw [hd0, lf_slices_Index_int_int_L0] at hr
    refine g_seq ?_
    refine g_run (by kernel_rfl) [(0, .d)] rfl ?_
    refine r_d rfl rfl rfl (s_cmp rfl rfl rfl rfl) ?_
    refine r_end ?_
    refine g_seq ?_
    refine g_known 9 false rfl ht0 ?_
    refine g_condF rfl ?_
    refine g_exit rfl ?_
    refine g_sub [] (Sub.nil _) ?_
    exact HK0 _ _ ⟨rfl, rfl, hr⟩
   ·
    rw [hd0, lf_slices_Index_int_int_L0] at hr
    refine g_seq ?_
    refine g_run (by kernel_rfl) [(0, .d)] rfl ?_
    refine r_d rfl rfl rfl (s_cmp rfl rfl rfl rfl) ?_
    refine r_end ?_
    refine g_seq ?_
    refine g_known 9 true rfl ht0 ?_
    refine g_condT rfl ?_
    refine g_skip ?_
    refine g_seq ?_
    refine g_block ?_
    refine g_seq ?_
    refine g_run (by kernel_rfl) [(0, .d), (1, .d)] rfl ?_
    refine r_d rfl rfl rfl (s_move rfl rfl) ?_
    refine r_d rfl rfl rfl (s_assign rfl rfl) ?_
    refine r_end ?_
    refine g_seq ?_
    refine g_run (by kernel_rfl) [(0, .d), (1, .d), (2, .d), (3, .d), (4, .d), (5, .d)] rfl ?_
    refine r_d rfl rfl rfl (s_move rfl rfl) ?_
    refine r_d rfl rfl rfl (s_move rfl rfl) ?_
    refine r_d rfl rfl rfl (s_move rfl rfl) ?_
    refine r_d rfl rfl rfl (m_index (f := (D.int .i64)) s_a0 rfl el_L_int rfl (asl rfl) rfl hq0 (fun _ => rfl) rfl) ?_
    refine r_d rfl rfl rfl (s_load rfl rfl (by exact ty_int) rfl) ?_
    refine r_d rfl rfl rfl (s_cmp rfl rfl rfl rfl) ?_
    refine r_end ?_
    refine g_sB 16 rfl hr (fun h16_2 hr => ?_) (fun h16_2 hr => ?_)
    ·
     refine g_condT rfl ?_
     refine g_seq ?_
     refine g_run (by kernel_rfl) [(0, .d), (1, .d)] rfl ?_
     refine r_d rfl rfl rfl (s_move rfl rfl) ?_
     refine r_d rfl rfl rfl (s_assign rfl rfl) ?_
     refine r_end ?_
     obtain rfl := Option.some.inj hr
     refine g_ret Try.func67 _ (.cons (resTmp rfl (Wk.refl _)) .nil) ?_
     rfl
    ·
     refine g_condF rfl ?_
     refine g_skip ?_
     refine g_inBlock ?_
     refine g_run (by kernel_rfl) [(0, .d), (1, .d)] rfl ?_
     refine r_d rfl rfl rfl (s_ar (r := ((i_1 + 1 : Nat) : Int)) rfl rfl rfl (by simp [iar]) (by omega)) ?_
     refine r_d rfl rfl rfl (s_move rfl rfl) ?_
     refine r_end ?_
     refine g_sub [(0, .lst (s_a0.map (D.int .i64))), (1, .int .i64 v_a1), (7, .int .i64 (s_a0.length : Int)), (8, .int .i64 ((i_1 + 1 : Nat) : Int))] (Sub.cons' rfl (Sub.cons' rfl (Sub.cons' rfl (Sub.cons' rfl (Sub.nil _))))) ?_
     exact IH0 _ _ _ (by omega) ⟨(i_1 + 1), rfl, rfl, rfl, (by omega), hr⟩

noncomputable def lf_slices_Contains_int_int (s_a0 : (List Int)) (v_a1 : Int) : Option (Bool) :=
  ((lf_slices_Index_int_int s_a0 v_a1).bind fun r_1 =>
  some ((decide (r_1 ≥ (0 : Int)))))

set_option maxHeartbeats 1000000 in
theorem lg_slices_Contains_int_int (s_a0 : (List Int)) (v_a1 : Int) (res : Bool) (hr : lf_slices_Contains_int_int s_a0 v_a1 = some res) : Gives Try.prog 38 [.lst (s_a0.map (D.int .i64)), .int .i64 v_a1] (.bool res) := by
  unfold lf_slices_Contains_int_int at hr
  refine spec_env [(0, .lst (s_a0.map (D.int .i64))), (1, .int .i64 v_a1)] Try.func38 rfl rfl fun K hK => ?_
  refine g_seq ?_
  refine g_run (by kernel_rfl) [(0, .d)] rfl ?_
  refine r_d rfl rfl rfl (s_assign rfl rfl) ?_
  refine r_end ?_
  refine g_seq ?_
  refine g_run (by kernel_rfl) [(0, .d), (1, .d), (2, .d), (3, .d), (4, .d)] rfl ?_
  refine r_d rfl rfl rfl (s_move rfl rfl) ?_
  refine r_d rfl rfl rfl (s_move rfl rfl) ?_
  obtain ⟨r_1, hr_1, hr⟩ := bindS hr
  refine r_d rfl rfl rfl (s_callD rfl cl_slices_Index_int_int (.cons rfl (Wk.refl _) (.cons rfl (Wk.refl _) .nil)) (lg_slices_Index_int_int _ _ _ hr_1)) ?_
  refine r_d rfl rfl rfl (s_cmp rfl rfl rfl rfl) ?_
  refine r_d rfl rfl rfl (s_assign rfl rfl) ?_
  refine r_end ?_
  obtain rfl := Option.some.inj hr
  refine g_ret Try.func38 _ (.cons (resTmp rfl (Wk.refl _)) .nil) ?_
  rfl

noncomputable def lf_scope_CheckRule_1_L6 (k : Option (Int ⊕ (Unit))) (r_18 : (List Int)) : List Int → Option (Int ⊕ (Unit))
  | [] =>
  k
  | q_21 :: rest =>
  ((lf_slices_Contains_int_int r_18 q_21).bind fun r_22 =>
  (bindX (lf_scope_need r_22 17) fun r_23 =>
  (lf_scope_CheckRule_1_L6 k r_18 rest)))

noncomputable def lf_scope_CheckRule_1_L5 (k : Option (Int ⊕ (Unit))) : List Gl → Option (Int ⊕ (Unit))
  | [] =>
  k
  | q_24 :: rest =>
  ((lf_scope_test q_24.op).bind fun r_26 =>
  (bindX (lf_scope_need (!r_26) 10) fun r_27 =>
  (lf_scope_CheckRule_1_L5 k rest)))

noncomputable def lf_scope_CheckRule_1_L4 (k : Option (Int ⊕ (Unit))) : List Gl → Option (Int ⊕ (Unit))
  | [] =>
  k
  | q_28 :: rest =>
  ((lf_scope_test q_28.op).bind fun r_30 =>
  (bif r_30 then
  (bindX (lf_scope_need true 10) fun r_32 =>
  (lf_scope_CheckRule_1_L4 k rest))
  else
  (bindX (lf_scope_need (q_28.op == (1 : Int)) 10) fun r_33 =>
  (lf_scope_CheckRule_1_L4 k rest))))

noncomputable def lf_scope_CheckRule_1_L7 (k : Option (Int ⊕ (Unit))) (t1_a1 : (List S_api_Decl)) : List At → Option (Int ⊕ (Unit))
  | [] =>
  k
  | q_36 :: rest =>
  (bindX (lf_scope_declared t1_a1 q_36.n (q_36.ts.length : Int)) fun r_38 =>
  (lf_scope_CheckRule_1_L7 k t1_a1 rest))

noncomputable def lf_scope_CheckRule_1_L3 (k : Option (Int ⊕ (Unit))) (t0_a0 : S_api_Rule) (t1_a1 : (List S_api_Decl)) : Nat → Int → Option (Int ⊕ (Unit))
  | 0, t136_13 =>
  k
  | rest + 1, t136_13 =>
  ((getI [t0_a0.f1_Keep, t0_a0.f2_Remove] t136_13).bind fun q_34 =>
  (lf_scope_CheckRule_1_L7 ((lf_scope_CheckRule_1_L3 k t0_a0 t1_a1 rest (t136_13 + 1))) t1_a1 q_34))

noncomputable def lf_scope_CheckRule_1_J1 (k : Option (Int ⊕ (Unit))) (t0_a0 : S_api_Rule) : Option (Int ⊕ (Unit)) :=
  (bif (t0_a0.f0_Name.toList == (⟨#[]⟩ : ByteArray).toList) then
  (bindX (lf_scope_need true 7) fun r_40 =>
  k)
  else
  ((x_isName t0_a0.f0_Name).bind fun r_41 =>
  (bindX (lf_scope_need r_41 7) fun r_42 =>
  k)))

noncomputable def lf_scope_CheckRule_1_L2 (k : (Int) → Option (Int ⊕ (Unit))) : List Int → Int → Option (Int ⊕ (Unit))
  | [], next_9 =>
  (k next_9)
  | q_43 :: rest, next_9 =>
  (bindX (lf_scope_need (decide (q_43 ≤ next_9)) 2) fun r_44 =>
  (bif (q_43 == next_9) then
  (lf_scope_CheckRule_1_L2 k rest (wr (next_9 + (1 : Int))))
  else
  (lf_scope_CheckRule_1_L2 k rest next_9)))

noncomputable def lf_scope_CheckRule_1_L8 (k : Option (Int ⊕ (Unit))) : List Gl → Option (Int ⊕ (Unit))
  | [] =>
  k
  | q_48 :: rest =>
  ((x_rightG q_48).bind fun r_50 =>
  (bindX (lf_scope_need r_50 2) fun r_51 =>
  (lf_scope_CheckRule_1_L8 k rest)))

noncomputable def lf_scope_CheckRule_1_L1 (k : Option (Int ⊕ (Unit))) (t0_a0 : S_api_Rule) : Nat → Int → Option (Int ⊕ (Unit))
  | 0, t75_2 =>
  k
  | rest + 1, t75_2 =>
  ((getI [t0_a0.f3_Guard, t0_a0.f4_Body] t75_2).bind fun q_46 =>
  (lf_scope_CheckRule_1_L8 ((lf_scope_CheckRule_1_L1 k t0_a0 rest (t75_2 + 1))) q_46))

noncomputable def lf_scope_CheckRule_1_L9 (k : Option (Int ⊕ (Unit))) : List At → Option (Int ⊕ (Unit))
  | [] =>
  k
  | q_54 :: rest =>
  ((x_rightA q_54).bind fun r_56 =>
  (bindX (lf_scope_need r_56 2) fun r_57 =>
  (lf_scope_CheckRule_1_L9 k rest)))

noncomputable def lf_scope_CheckRule_1_L0 (k : Option (Int ⊕ (Unit))) (t0_a0 : S_api_Rule) : Nat → Int → Option (Int ⊕ (Unit))
  | 0, t56_1 =>
  k
  | rest + 1, t56_1 =>
  ((getI [t0_a0.f1_Keep, t0_a0.f2_Remove] t56_1).bind fun q_52 =>
  (lf_scope_CheckRule_1_L9 ((lf_scope_CheckRule_1_L0 k t0_a0 rest (t56_1 + 1))) q_52))

noncomputable def lf_scope_CheckRule_1_J0 (k : Option (Int ⊕ (Unit))) (t0_a0 : S_api_Rule) : Option (Int ⊕ (Unit)) :=
  (bif (decide ((wr ((t0_a0.f1_Keep.length : Int) + (t0_a0.f2_Remove.length : Int))) > (0 : Int))) then
  (bif (decide ((wr ((t0_a0.f1_Keep.length : Int) + (t0_a0.f2_Remove.length : Int))) ≤ (4 : Int))) then
  (bif (decide ((t0_a0.f3_Guard.length : Int) ≤ (12 : Int))) then
  (bindX (lf_scope_need (decide ((t0_a0.f4_Body.length : Int) ≤ (12 : Int))) 6) fun r_61 =>
  k)
  else
  (bindX (lf_scope_need false 6) fun r_62 =>
  k))
  else
  (bindX (lf_scope_need false 6) fun r_63 =>
  k))
  else
  (bindX (lf_scope_need false 6) fun r_64 =>
  k))
noncomputable def lf_scope_CheckRule_1 (t0_a0 : S_api_Rule) (t1_a1 : (List S_api_Decl)) : Option (Int ⊕ (Unit)) :=
  (lf_scope_CheckRule_1_J0 ((lf_scope_CheckRule_1_L0 ((lf_scope_CheckRule_1_L1 (((lf_scope_atomVars_s1 [t0_a0.f1_Keep, t0_a0.f2_Remove]).bind fun r_3 =>
  ((lf_scope_goalVars [t0_a0.f3_Guard, t0_a0.f4_Body]).bind fun r_5 =>
  ((appO 8 r_3 r_5).bind fun l_6 =>
  (lf_scope_CheckRule_1_L2 (fun next_11 =>
  (bindX (lf_scope_need (t0_a0.f5_Vars == next_11) 2) fun r_12 =>
  (lf_scope_CheckRule_1_J1 ((lf_scope_CheckRule_1_L3 ((bindX (lf_scope_calls t1_a1 t0_a0.f3_Guard) fun r_14 =>
  (bindX (lf_scope_calls t1_a1 t0_a0.f4_Body) fun r_15 =>
  (lf_scope_CheckRule_1_L4 ((lf_scope_CheckRule_1_L5 (((lf_scope_atomVars [t0_a0.f1_Keep, t0_a0.f2_Remove]).bind fun r_18 =>
  ((lf_scope_goalVars [t0_a0.f3_Guard]).bind fun r_19 =>
  (lf_scope_CheckRule_1_L6 (some (.inr ())) r_18 r_19)))) t0_a0.f4_Body)) t0_a0.f3_Guard)))) t0_a0 t1_a1 (2 - 0 : Int).toNat 0)) t0_a0))) l_6 0))))) t0_a0 (2 - 0 : Int).toNat 0)) t0_a0 (2 - 0 : Int).toNat 0)) t0_a0)

set_option maxHeartbeats 1000000 in
theorem lg_scope_CheckRule_1 (t0_a0 : S_api_Rule) (t1_a1 : (List S_api_Decl)) (res : Int ⊕ (Unit)) (hr : lf_scope_CheckRule_1 t0_a0 t1_a1 = some res) : SpecX Try.prog 30 [.ptr (enc_S_api_Rule t0_a0), .ptr (.lst (t1_a1.map enc_S_api_Decl))] [] (fun d _ => ∃ r : Unit, res = .inr r ∧ d = .tup []) (fun d => ∃ c, res = .inl c ∧ d = .ifc 83 (.agg [.int .i64 c])) := by
  unfold lf_scope_CheckRule_1 at hr
  refine spec_envX [(0, .ptr (enc_S_api_Rule t0_a0)), (1, .ptr (.lst (t1_a1.map enc_S_api_Decl)))] Try.func30 rfl rfl fun K hK hX => ?_
  refine g_seq ?_
  refine g_run (by kernel_rfl) [(0, .d), (1, .d), (2, .d), (3, .d), (4, .d), (5, .d), (6, .d), (7, .d)] rfl ?_
  refine r_d rfl rfl rfl (s_fieldAddr rfl fl_api_Rule_1 rfl rfl rfl rfl) ?_
  refine r_d rfl rfl rfl (s_load rfl rfl (by exact ty_L_api_Atom) rfl) ?_
  refine r_d rfl rfl rfl (m_len (f := encA) t0_a0.f1_Keep rfl el_L_api_Atom rfl (asl rfl)) ?_
  refine r_d rfl rfl rfl (s_fieldAddr rfl fl_api_Rule_2 rfl rfl rfl rfl) ?_
  refine r_d rfl rfl rfl (s_load rfl rfl (by exact ty_L_api_Atom) rfl) ?_
  refine r_d rfl rfl rfl (m_len (f := encA) t0_a0.f2_Remove rfl el_L_api_Atom rfl (asl rfl)) ?_
  refine r_d rfl rfl rfl (s_arW rfl rfl rfl rfl) ?_
  refine r_d rfl rfl rfl (s_assign rfl rfl) ?_
  refine r_end ?_
  obtain ⟨kkJ0, hkkJ0, hr⟩ := exK (fun k => lf_scope_CheckRule_1_J0 k t0_a0) hr
  refine g_seqJ (fun env σ => env = [(0, .ptr (enc_S_api_Rule t0_a0)), (1, .ptr (.lst (t1_a1.map enc_S_api_Decl)))] ∧ σ = [] ∧ kkJ0 = some res) ?_ (fun HKJ0 => ?_)
  ·
   rintro _ _ ⟨rfl, rfl, hr⟩
   rw [hkkJ0] at hr
   refine g_seq ?_
   refine g_seq ?_
   refine g_run (by kernel_rfl) [(0, .d), (1, .d), (2, .d), (3, .d), (4, .d), (5, .d)] rfl ?_
   refine r_d rfl rfl rfl (s_fieldAddr rfl fl_api_Rule_1 rfl rfl rfl rfl) ?_
   refine r_d rfl rfl rfl (s_load rfl rfl (by exact ty_L_api_Atom) rfl) ?_
   refine r_d rfl rfl rfl (s_fieldAddr rfl fl_api_Rule_2 rfl rfl rfl rfl) ?_
   refine r_d rfl rfl rfl (s_load rfl rfl (by exact ty_L_api_Atom) rfl) ?_
   refine r_d rfl rfl rfl (s_buildA rfl at__2___api_Atom rfl (.cons rfl (Wk.refl _) (.cons rfl (Wk.refl _) .nil)) (.cons rfl rfl rfl (.cons rfl rfl rfl (.nil _)))) ?_
   refine r_d rfl rfl rfl (s_move rfl rfl) ?_
   refine r_end ?_
   obtain ⟨kk0, hkk0, hr⟩ := exK (fun k => lf_scope_CheckRule_1_L0 k t0_a0 (2 - 0 : Int).toNat 0) hr
   refine g_blockJ (fun env σ => env = [(0, .ptr (enc_S_api_Rule t0_a0)), (1, .ptr (.lst (t1_a1.map enc_S_api_Decl)))] ∧ σ = [] ∧ kk0 = some res) ?_ (fun HK0 => ?_)
   ·
    rintro _ _ ⟨rfl, rfl, hr⟩
    rw [hkk0] at hr
    refine g_seq ?_
    refine g_seq ?_
    refine g_run (by kernel_rfl) [(0, .d), (1, .d), (2, .d), (3, .d), (4, .d), (5, .d)] rfl ?_
    refine r_d rfl rfl rfl (s_fieldAddr rfl fl_api_Rule_3 rfl rfl rfl rfl) ?_
    refine r_d rfl rfl rfl (s_load rfl rfl (by exact ty_L_api_Goal) rfl) ?_
    refine r_d rfl rfl rfl (s_fieldAddr rfl fl_api_Rule_4 rfl rfl rfl rfl) ?_
    refine r_d rfl rfl rfl (s_load rfl rfl (by exact ty_L_api_Goal) rfl) ?_
    refine r_d rfl rfl rfl (s_buildA rfl at__2___api_Goal rfl (.cons rfl (Wk.refl _) (.cons rfl (Wk.refl _) .nil)) (.cons rfl rfl rfl (.cons rfl rfl rfl (.nil _)))) ?_
    refine r_d rfl rfl rfl (s_move rfl rfl) ?_
    refine r_end ?_
    obtain ⟨kk1, hkk1, hr⟩ := exK (fun k => lf_scope_CheckRule_1_L1 k t0_a0 (2 - 0 : Int).toNat 0) hr
    refine g_blockJ (fun env σ => env = [(0, .ptr (enc_S_api_Rule t0_a0)), (1, .ptr (.lst (t1_a1.map enc_S_api_Decl)))] ∧ σ = [] ∧ kk1 = some res) ?_ (fun HK1 => ?_)
    ·
     rintro _ _ ⟨rfl, rfl, hr⟩
     rw [hkk1] at hr
     refine g_seq ?_
     refine g_run (by kernel_rfl) [(0, .d)] rfl ?_
     refine r_d rfl rfl rfl (s_assign rfl rfl) ?_
     refine r_end ?_
     refine g_seq ?_
     refine g_seq ?_
     refine g_any (by kernel_rfl) (by kernel_rfl) [(0, .d), (1, .d), (2, .d), (3, .d), (4, .d), (6, .d), (7, .d), (8, .d), (9, .d), (10, .d), (14, .d), (5, .w), (11, .d), (12, .w), (13, .d)] (by kernel_rfl) ?_
     refine r_d rfl rfl rfl (s_fieldAddr rfl fl_api_Rule_1 rfl rfl rfl rfl) ?_
     refine r_d rfl rfl rfl (s_load rfl rfl (by exact ty_L_api_Atom) rfl) ?_
     refine r_d rfl rfl rfl (s_fieldAddr rfl fl_api_Rule_2 rfl rfl rfl rfl) ?_
     refine r_d rfl rfl rfl (s_load rfl rfl (by exact ty_L_api_Atom) rfl) ?_
     refine r_d rfl rfl rfl (m_lit (f := (fun l => D.lst (l.map encA))) [.tmp 90, .tmp 92] [t0_a0.f1_Keep, t0_a0.f2_Remove] rfl el_L_L_api_Atom rfl rfl (by decide) (by decide) (.cons rfl (Wk.refl _) (.cons rfl (Wk.refl _) .nil)) (fun _ => rfl) (fun _ => rfl)) ?_
     refine r_d rfl rfl rfl (s_fieldAddr rfl fl_api_Rule_3 rfl rfl rfl rfl) ?_
     refine r_d rfl rfl rfl (s_load rfl rfl (by exact ty_L_api_Goal) rfl) ?_
     refine r_d rfl rfl rfl (s_fieldAddr rfl fl_api_Rule_4 rfl rfl rfl rfl) ?_
     refine r_d rfl rfl rfl (s_load rfl rfl (by exact ty_L_api_Goal) rfl) ?_
     refine r_d rfl rfl rfl (m_lit (f := (fun l => D.lst (l.map encG))) [.tmp 96, .tmp 98] [t0_a0.f3_Guard, t0_a0.f4_Body] rfl el_L_L_api_Goal rfl rfl (by decide) (by decide) (.cons rfl (Wk.refl _) (.cons rfl (Wk.refl _) .nil)) (fun _ => rfl) (fun _ => rfl)) ?_
     refine r_d rfl rfl rfl (s_move rfl rfl) ?_
     obtain ⟨r_3, hr_3, hr⟩ := bindS hr
     refine r_w rfl rfl rfl (s_call _ rfl cl_scope_atomVars (.cons rfl (Wk.full _) .nil) (by exact (List.Perm.refl _)) (lg_scope_atomVars_s1 _ _ hr_3)) ?_
     rintro _ _ ⟨_, ⟨u94_3, rfl, rfl⟩, rfl⟩
     refine r_st ((.row u94_3 r_3.length 3 1) :: _) rfl ?_
     obtain ⟨r_5, hr_5, hr⟩ := bindS hr
     refine r_d rfl rfl rfl (by exact s_callD rfl cl_scope_goalVars (.cons rfl (Wk.full _) .nil) (lg_scope_goalVars _ _ hr_5)) ?_
     obtain ⟨l_6, hl_6, hr⟩ := bindS hr
     refine r_w rfl rfl rfl (m_appOwn (f := (D.int .i64)) r_3 r_5 rfl el_L_int rfl rfl (asl rfl) (pf0 _) rfl (fun _ => rfl) hl_6) ?_
     rintro _ _ ⟨u101_6, rfl, rfl⟩
     refine r_d rfl rfl rfl (m_len (f := (D.int .i64)) l_6 rfl el_L_int rfl (asl rfl)) ?_
     refine r_end ?_
     obtain ⟨kk2, hkk2, hr⟩ := exK (fun k => lf_scope_CheckRule_1_L2 k l_6 0) hr
     refine g_len 101 rfl (asl rfl) fun hla2 => ?_
     simp only [List.length_map] at hla2
     refine g_blockJ (fun env σ => ∃ (next_11 : Int), env = [(0, .ptr (enc_S_api_Rule t0_a0)), (1, .ptr (.lst (t1_a1.map enc_S_api_Decl))), (11, .int .i64 next_11)] ∧ σ = [] ∧ kk2 next_11 = some res) ?_ (fun HK2 => ?_)
     ·
      rintro _ _ ⟨next_11, rfl, rfl, hr⟩
      rw [hkk2] at hr
      refine g_seq ?_
      refine g_run (by kernel_rfl) [(0, .d), (1, .d), (2, .d), (3, .d), (4, .d)] rfl ?_
      refine r_d rfl rfl rfl (s_fieldAddr rfl fl_api_Rule_5 rfl rfl rfl rfl) ?_
      refine r_d rfl rfl rfl (s_load rfl rfl (by exact ty_int) rfl) ?_
      refine r_d rfl rfl rfl (s_move rfl rfl) ?_
      refine r_d rfl rfl rfl (s_cmp rfl rfl rfl rfl) ?_
      rcases bindXS hr with ⟨c_r_12, hr_12, rfl⟩ | ⟨r_12, hr_12, hr⟩
      ·
       refine r_die rfl rfl (s_callX _ rfl cl_scope_need (.cons rfl (Wk.refl _) (.cons rfl (Wk.refl _) .nil)) (by exact (List.Perm.refl _)) (specX_inl (lg_scope_need _ _ _ hr_12))) (hX _ ⟨_, rfl, rfl⟩)
      ·
       refine r_d rfl rfl rfl (s_callD rfl cl_scope_need (.cons rfl (Wk.refl _) (.cons rfl (Wk.refl _) .nil)) (specX_inr (lg_scope_need _ _ _ hr_12))) ?_
       refine r_end ?_
       obtain ⟨kkJ1, hkkJ1, hr⟩ := exK (fun k => lf_scope_CheckRule_1_J1 k t0_a0) hr
       refine g_seqJ (fun env σ => env = [(0, .ptr (enc_S_api_Rule t0_a0)), (1, .ptr (.lst (t1_a1.map enc_S_api_Decl)))] ∧ σ = [] ∧ kkJ1 = some res) ?_ (fun HKJ1 => ?_)
       ·
        rintro _ _ ⟨rfl, rfl, hr⟩
        rw [hkkJ1] at hr
        refine g_seq ?_
        refine g_seq ?_
        refine g_run (by kernel_rfl) [(0, .d), (1, .d), (2, .d), (3, .d), (4, .d), (5, .d)] rfl ?_
        refine r_d rfl rfl rfl (s_fieldAddr rfl fl_api_Rule_1 rfl rfl rfl rfl) ?_
        refine r_d rfl rfl rfl (s_load rfl rfl (by exact ty_L_api_Atom) rfl) ?_
        refine r_d rfl rfl rfl (s_fieldAddr rfl fl_api_Rule_2 rfl rfl rfl rfl) ?_
        refine r_d rfl rfl rfl (s_load rfl rfl (by exact ty_L_api_Atom) rfl) ?_
        refine r_d rfl rfl rfl (s_buildA rfl at__2___api_Atom rfl (.cons rfl (Wk.refl _) (.cons rfl (Wk.refl _) .nil)) (.cons rfl rfl rfl (.cons rfl rfl rfl (.nil _)))) ?_
        refine r_d rfl rfl rfl (s_move rfl rfl) ?_
        refine r_end ?_
        obtain ⟨kk3, hkk3, hr⟩ := exK (fun k => lf_scope_CheckRule_1_L3 k t0_a0 t1_a1 (2 - 0 : Int).toNat 0) hr
        refine g_blockJ (fun env σ => env = [(0, .ptr (enc_S_api_Rule t0_a0)), (1, .ptr (.lst (t1_a1.map enc_S_api_Decl)))] ∧ σ = [] ∧ kk3 = some res) ?_ (fun HK3 => ?_)
        ·
         rintro _ _ ⟨rfl, rfl, hr⟩
         rw [hkk3] at hr
         refine g_seq ?_
         refine g_run (by kernel_rfl) [(0, .d), (1, .d), (2, .d), (3, .d)] rfl ?_
         refine r_d rfl rfl rfl (s_load rfl rfl (by exact ty_L_api_Decl) rfl) ?_
         refine r_d rfl rfl rfl (s_fieldAddr rfl fl_api_Rule_3 rfl rfl rfl rfl) ?_
         refine r_d rfl rfl rfl (s_load rfl rfl (by exact ty_L_api_Goal) rfl) ?_
         rcases bindXS hr with ⟨c_r_14, hr_14, rfl⟩ | ⟨r_14, hr_14, hr⟩
         ·
          refine r_die rfl rfl (s_callX _ rfl cl_scope_calls (.cons rfl (Wk.refl _) (.cons rfl (Wk.refl _) .nil)) (by exact (List.Perm.refl _)) (specX_inl (lg_scope_calls _ _ _ hr_14))) (hX _ ⟨_, rfl, rfl⟩)
         ·
          refine r_d rfl rfl rfl (s_callD rfl cl_scope_calls (.cons rfl (Wk.refl _) (.cons rfl (Wk.refl _) .nil)) (specX_inr (lg_scope_calls _ _ _ hr_14))) ?_
          refine r_end ?_
          refine g_seq ?_
          refine g_run (by kernel_rfl) [(0, .d), (1, .d), (2, .d), (3, .d)] rfl ?_
          refine r_d rfl rfl rfl (s_load rfl rfl (by exact ty_L_api_Decl) rfl) ?_
          refine r_d rfl rfl rfl (s_fieldAddr rfl fl_api_Rule_4 rfl rfl rfl rfl) ?_
          refine r_d rfl rfl rfl (s_load rfl rfl (by exact ty_L_api_Goal) rfl) ?_
          rcases bindXS hr with ⟨c_r_15, hr_15, rfl⟩ | ⟨r_15, hr_15, hr⟩
          ·
           refine r_die rfl rfl (s_callX _ rfl cl_scope_calls (.cons rfl (Wk.refl _) (.cons rfl (Wk.refl _) .nil)) (by exact (List.Perm.refl _)) (specX_inl (lg_scope_calls _ _ _ hr_15))) (hX _ ⟨_, rfl, rfl⟩)
          ·
           refine r_d rfl rfl rfl (s_callD rfl cl_scope_calls (.cons rfl (Wk.refl _) (.cons rfl (Wk.refl _) .nil)) (specX_inr (lg_scope_calls _ _ _ hr_15))) ?_
           refine r_end ?_
           refine g_seq ?_
           refine g_seq ?_
           refine g_run (by kernel_rfl) [(0, .d), (1, .d), (2, .d), (3, .d)] rfl ?_
           refine r_d rfl rfl rfl (s_fieldAddr rfl fl_api_Rule_3 rfl rfl rfl rfl) ?_
           refine r_d rfl rfl rfl (s_load rfl rfl (by exact ty_L_api_Goal) rfl) ?_
           refine r_d rfl rfl rfl (m_len (f := encG) t0_a0.f3_Guard rfl el_L_api_Goal rfl (asl rfl)) ?_
           refine r_d rfl rfl rfl (s_move rfl rfl) ?_
           refine r_end ?_
           obtain ⟨kk4, hkk4, hr⟩ := exK (fun k => lf_scope_CheckRule_1_L4 k t0_a0.f3_Guard) hr
           refine g_len 156 rfl (asl rfl) fun hla4 => ?_
           simp only [List.length_map] at hla4
           refine g_blockJ (fun env σ => env = [(0, .ptr (enc_S_api_Rule t0_a0))] ∧ σ = [] ∧ kk4 = some res) ?_ (fun HK4 => ?_)
           ·
            rintro _ _ ⟨rfl, rfl, hr⟩
            rw [hkk4] at hr
            refine g_seq ?_
            refine g_seq ?_
            refine g_run (by kernel_rfl) [(0, .d), (1, .d), (2, .d), (3, .d)] rfl ?_
            refine r_d rfl rfl rfl (s_fieldAddr rfl fl_api_Rule_4 rfl rfl rfl rfl) ?_
            refine r_d rfl rfl rfl (s_load rfl rfl (by exact ty_L_api_Goal) rfl) ?_
            refine r_d rfl rfl rfl (m_len (f := encG) t0_a0.f4_Body rfl el_L_api_Goal rfl (asl rfl)) ?_
            refine r_d rfl rfl rfl (s_move rfl rfl) ?_
            refine r_end ?_
            obtain ⟨kk5, hkk5, hr⟩ := exK (fun k => lf_scope_CheckRule_1_L5 k t0_a0.f4_Body) hr
            refine g_len 180 rfl (asl rfl) fun hla5 => ?_
            simp only [List.length_map] at hla5
            refine g_blockJ (fun env σ => env = [(0, .ptr (enc_S_api_Rule t0_a0))] ∧ σ = [] ∧ kk5 = some res) ?_ (fun HK5 => ?_)
            ·
             rintro _ _ ⟨rfl, rfl, hr⟩
             rw [hkk5] at hr
             refine g_seq ?_
             refine g_run (by kernel_rfl) [(0, .d), (1, .d), (2, .d), (3, .d), (4, .d), (5, .d), (6, .d)] rfl ?_
             refine r_d rfl rfl rfl (s_fieldAddr rfl fl_api_Rule_1 rfl rfl rfl rfl) ?_
             refine r_d rfl rfl rfl (s_load rfl rfl (by exact ty_L_api_Atom) rfl) ?_
             refine r_d rfl rfl rfl (s_fieldAddr rfl fl_api_Rule_2 rfl rfl rfl rfl) ?_
             refine r_d rfl rfl rfl (s_load rfl rfl (by exact ty_L_api_Atom) rfl) ?_
             refine r_d rfl rfl rfl (m_lit (f := (fun l => D.lst (l.map encA))) [.tmp 193, .tmp 195] [t0_a0.f1_Keep, t0_a0.f2_Remove] rfl el_L_L_api_Atom rfl rfl (by decide) (by decide) (.cons rfl (Wk.refl _) (.cons rfl (Wk.refl _) .nil)) (fun _ => rfl) (fun _ => rfl)) ?_
             obtain ⟨r_18, hr_18, hr⟩ := bindS hr
             refine r_d rfl rfl rfl (by exact s_callD rfl cl_scope_atomVars (.cons rfl (Wk.full _) .nil) (lg_scope_atomVars _ _ hr_18)) ?_
             refine r_d rfl rfl rfl (s_assign rfl rfl) ?_
             refine r_end ?_
             refine g_seq ?_
             refine g_run (by kernel_rfl) [(0, .d), (1, .d), (2, .d), (3, .d), (4, .d), (5, .d)] rfl ?_
             refine r_d rfl rfl rfl (s_fieldAddr rfl fl_api_Rule_3 rfl rfl rfl rfl) ?_
             refine r_d rfl rfl rfl (s_load rfl rfl (by exact ty_L_api_Goal) rfl) ?_
             refine r_d rfl rfl rfl (m_lit (f := (fun l => D.lst (l.map encG))) [.tmp 199] [t0_a0.f3_Guard] rfl el_L_L_api_Goal rfl rfl (by decide) (by decide) (.cons rfl (Wk.refl _) .nil) (fun _ => rfl) (fun _ => rfl)) ?_
             obtain ⟨r_19, hr_19, hr⟩ := bindS hr
             refine r_d rfl rfl rfl (by exact s_callD rfl cl_scope_goalVars (.cons rfl (Wk.full _) .nil) (lg_scope_goalVars _ _ hr_19)) ?_
             refine r_d rfl rfl rfl (m_len (f := (D.int .i64)) r_19 rfl el_L_int rfl (asl rfl)) ?_
             refine r_d rfl rfl rfl (s_move rfl rfl) ?_
             refine r_end ?_
             obtain ⟨kk6, hkk6, hr⟩ := exK (fun k => lf_scope_CheckRule_1_L6 k r_18 r_19) hr
             refine g_len 201 rfl (asl rfl) fun hla6 => ?_
             simp only [List.length_map] at hla6
             refine g_blockJ (fun env σ => env = [] ∧ σ = [] ∧ kk6 = some res) ?_ (fun HK6 => ?_)
             ·
              rintro _ _ ⟨rfl, rfl, hr⟩
              rw [hkk6] at hr
              obtain rfl := Option.some.inj hr
              refine g_end Try.func30 _ .nil ?_
              exact ⟨_, rfl, rfl⟩
             ·
              refine g_sub [(22, .lst (r_18.map (D.int .i64))), (201, .lst (r_19.map (D.int .i64))), (202, .int .i64 (r_19.length : Int)), (203, .int .i64 ((0 : Nat) : Int))] (Sub.cons' rfl (Sub.cons' rfl (Sub.cons' rfl (Sub.cons' rfl (Sub.nil _))))) ?_
              refine g_loop (fun n env σ => ∃ (i_20 : Nat), (n = r_19.length - i_20) ∧ (env = [(22, .lst (r_18.map (D.int .i64))), (201, .lst (r_19.map (D.int .i64))), (202, .int .i64 (r_19.length : Int)), (203, .int .i64 (i_20 : Int))]) ∧ (σ = []) ∧ (i_20 ≤ r_19.length) ∧ (lf_scope_CheckRule_1_L6 kk6 r_18 (r_19.drop i_20) = some res)) _ ⟨0, rfl, rfl, rfl, Nat.zero_le _, hr⟩ ?_
              rintro n _ _ ⟨i_20, rfl, rfl, rfl, hi6, hr⟩ IH6
              rcases listStep r_19 i_20 hi6 with ⟨ht6, hd6, he6⟩ | ⟨q_21, ht6, hd6, hq6, hlt6⟩
              ·
               rw [hd6, lf_scope_CheckRule_1_L6] at hr
               refine g_seq ?_
               refine g_run (by kernel_rfl) [(0, .d)] rfl ?_
               refine r_d rfl rfl rfl (s_cmp rfl rfl rfl rfl) ?_
               refine r_end ?_
               refine g_seq ?_
               refine g_known 204 false rfl ht6 ?_
               refine g_condF rfl ?_
               refine g_exit rfl ?_
               refine g_sub [] (Sub.nil _) ?_
               exact HK6 _ _ ⟨rfl, rfl, hr⟩
              ·
               rw [hd6, lf_scope_CheckRule_1_L6] at hr
               refine g_seq ?_
               refine g_run (by kernel_rfl) [(0, .d)] rfl ?_
               refine r_d rfl rfl rfl (s_cmp rfl rfl rfl rfl) ?_
               refine r_end ?_
               refine g_seq ?_
               refine g_known 204 true rfl ht6 ?_
               refine g_condT rfl ?_
               refine g_skip ?_
               refine g_seq ?_
               refine g_block ?_
               refine g_seq ?_
               refine g_run (by kernel_rfl) [(0, .d), (1, .d), (2, .d)] rfl ?_
               refine r_d rfl rfl rfl (m_index (f := (D.int .i64)) r_19 rfl el_L_int rfl (asl rfl) rfl hq6 (fun _ => rfl) rfl) ?_
               refine r_d rfl rfl rfl (s_load rfl rfl (by exact ty_int) rfl) ?_
               refine r_d rfl rfl rfl (s_assign rfl rfl) ?_
               refine r_end ?_
               refine g_run (by kernel_rfl) [(0, .d), (1, .d), (2, .d), (3, .d)] rfl ?_
               refine r_d rfl rfl rfl (s_move rfl rfl) ?_
               refine r_d rfl rfl rfl (s_move rfl rfl) ?_
               obtain ⟨r_22, hr_22, hr⟩ := bindS hr
               refine r_d rfl rfl rfl (s_callD rfl cl_slices_Contains_int_int (.cons rfl (Wk.refl _) (.cons rfl (Wk.refl _) .nil)) (lg_slices_Contains_int_int _ _ _ hr_22)) ?_
               rcases bindXS hr with ⟨c_r_23, hr_23, rfl⟩ | ⟨r_23, hr_23, hr⟩
               ·
                refine r_die rfl rfl (s_callX _ rfl cl_scope_need (.cons rfl (Wk.refl _) (.cons rfl (Wk.refl _) .nil)) (by exact (List.Perm.refl _)) (specX_inl (lg_scope_need _ _ _ hr_23))) (hX _ ⟨_, rfl, rfl⟩)
               ·
                refine r_d rfl rfl rfl (s_callD rfl cl_scope_need (.cons rfl (Wk.refl _) (.cons rfl (Wk.refl _) .nil)) (specX_inr (lg_scope_need _ _ _ hr_23))) ?_
                refine r_end ?_
                refine g_inBlock ?_
                refine g_run (by kernel_rfl) [(0, .d), (1, .d)] rfl ?_
                refine r_d rfl rfl rfl (s_ar (r := ((i_20 + 1 : Nat) : Int)) rfl rfl rfl (by simp [iar]) (by omega)) ?_
                refine r_d rfl rfl rfl (s_move rfl rfl) ?_
                refine r_end ?_
                refine g_sub [(22, .lst (r_18.map (D.int .i64))), (201, .lst (r_19.map (D.int .i64))), (202, .int .i64 (r_19.length : Int)), (203, .int .i64 ((i_20 + 1 : Nat) : Int))] (Sub.cons' rfl (Sub.cons' rfl (Sub.cons' rfl (Sub.cons' rfl (Sub.nil _))))) ?_
                exact IH6 _ _ _ (by omega) ⟨(i_20 + 1), rfl, rfl, rfl, (by omega), hr⟩
            ·
             refine g_sub [(0, .ptr (enc_S_api_Rule t0_a0)), (180, .lst (t0_a0.f4_Body.map encG)), (181, .int .i64 (t0_a0.f4_Body.length : Int)), (182, .int .i64 ((0 : Nat) : Int))] (Sub.cons' rfl (Sub.cons' rfl (Sub.cons' rfl (Sub.cons' rfl (Sub.nil _))))) ?_
             refine g_loop (fun n env σ => ∃ (i_17 : Nat), (n = t0_a0.f4_Body.length - i_17) ∧ (env = [(0, .ptr (enc_S_api_Rule t0_a0)), (180, .lst (t0_a0.f4_Body.map encG)), (181, .int .i64 (t0_a0.f4_Body.length : Int)), (182, .int .i64 (i_17 : Int))]) ∧ (σ = []) ∧ (i_17 ≤ t0_a0.f4_Body.length) ∧ (lf_scope_CheckRule_1_L5 kk5 (t0_a0.f4_Body.drop i_17) = some res)) _ ⟨0, rfl, rfl, rfl, Nat.zero_le _, hr⟩ ?_
             rintro n _ _ ⟨i_17, rfl, rfl, rfl, hi5, hr⟩ IH5
             rcases listStep t0_a0.f4_Body i_17 hi5 with ⟨ht5, hd5, he5⟩ | ⟨q_24, ht5, hd5, hq5, hlt5⟩
             ·
              rw [hd5, lf_scope_CheckRule_1_L5] at hr
              refine g_seq ?_
              refine g_run (by kernel_rfl) [(0, .d)] rfl ?_
              refine r_d rfl rfl rfl (s_cmp rfl rfl rfl rfl) ?_
              refine r_end ?_
              refine g_seq ?_
              refine g_known 183 false rfl ht5 ?_
              refine g_condF rfl ?_
              refine g_exit rfl ?_
              refine g_sub [(0, .ptr (enc_S_api_Rule t0_a0))] (Sub.cons' rfl (Sub.nil _)) ?_
              exact HK5 _ _ ⟨rfl, rfl, hr⟩
             ·
              rw [hd5, lf_scope_CheckRule_1_L5] at hr
              refine g_seq ?_
              refine g_run (by kernel_rfl) [(0, .d)] rfl ?_
              refine r_d rfl rfl rfl (s_cmp rfl rfl rfl rfl) ?_
              refine r_end ?_
              refine g_seq ?_
              refine g_known 183 true rfl ht5 ?_
              refine g_condT rfl ?_
              refine g_skip ?_
              refine g_seq ?_
              refine g_block ?_
              refine g_seq ?_
              refine g_run (by kernel_rfl) [(0, .d), (1, .d), (2, .w), (3, .w)] rfl ?_
              refine r_d rfl rfl rfl (m_index (f := encG) t0_a0.f4_Body rfl el_L_api_Goal rfl (asl rfl) rfl hq5 sz_encG rfl) ?_
              refine r_d rfl rfl rfl (s_load rfl rfl (by exact ty_api_Goal) (sz_encG _)) ?_
              refine r_w rfl rfl rfl (s_alloc rfl zv_api_Goal) ?_
              rintro _ _ ⟨b21_24, rfl, rfl⟩
              refine r_w01 rfl rfl rfl (t_store0 _ rfl rfl rfl (Wk.refl _) (pf0 _) (by exact ty_api_Goal) (sz_encG _) rfl rfl) ?_
              refine r_end ?_
              refine g_freeze 21 b21_24 rfl (pf0 _) ?_
              refine g_run (by kernel_rfl) [(0, .d), (1, .d), (2, .d), (3, .d), (4, .d)] rfl ?_
              refine r_d rfl rfl rfl (s_fieldAddr rfl fl_api_Goal_0 rfl rfl rfl rfl) ?_
              refine r_d rfl rfl rfl (s_load rfl rfl (by exact ty_int) rfl) ?_
              obtain ⟨r_26, hr_26, hr⟩ := bindS hr
              refine r_d rfl rfl rfl (s_callD rfl cl_scope_test (.cons rfl (Wk.refl _) .nil) (lg_scope_test _ _ hr_26)) ?_
              refine r_d rfl rfl rfl (s_not rfl rfl) ?_
              rcases bindXS hr with ⟨c_r_27, hr_27, rfl⟩ | ⟨r_27, hr_27, hr⟩
              ·
               refine r_die rfl rfl (s_callX _ rfl cl_scope_need (.cons rfl (Wk.refl _) (.cons rfl (Wk.refl _) .nil)) (by exact (List.Perm.refl _)) (specX_inl (lg_scope_need _ _ _ hr_27))) (hX _ ⟨_, rfl, rfl⟩)
              ·
               refine r_d rfl rfl rfl (s_callD rfl cl_scope_need (.cons rfl (Wk.refl _) (.cons rfl (Wk.refl _) .nil)) (specX_inr (lg_scope_need _ _ _ hr_27))) ?_
               refine r_end ?_
               refine g_inBlock ?_
               refine g_run (by kernel_rfl) [(0, .d), (1, .d)] rfl ?_
               refine r_d rfl rfl rfl (s_ar (r := ((i_17 + 1 : Nat) : Int)) rfl rfl rfl (by simp [iar]) (by omega)) ?_
               refine r_d rfl rfl rfl (s_move rfl rfl) ?_
               refine r_end ?_
               refine g_sub [(0, .ptr (enc_S_api_Rule t0_a0)), (180, .lst (t0_a0.f4_Body.map encG)), (181, .int .i64 (t0_a0.f4_Body.length : Int)), (182, .int .i64 ((i_17 + 1 : Nat) : Int))] (Sub.cons' rfl (Sub.cons' rfl (Sub.cons' rfl (Sub.cons' rfl (Sub.nil _))))) ?_
               exact IH5 _ _ _ (by omega) ⟨(i_17 + 1), rfl, rfl, rfl, (by omega), hr⟩
           ·
            refine g_sub [(0, .ptr (enc_S_api_Rule t0_a0)), (163, .lst (t0_a0.f3_Guard.map encG)), (164, .int .i64 (t0_a0.f3_Guard.length : Int)), (165, .int .i64 ((0 : Nat) : Int))] (Sub.cons' rfl (Sub.cons' rfl (Sub.cons' rfl (Sub.cons' rfl (Sub.nil _))))) ?_
            refine g_loop (fun n env σ => ∃ (i_16 : Nat), (n = t0_a0.f3_Guard.length - i_16) ∧ (env = [(0, .ptr (enc_S_api_Rule t0_a0)), (163, .lst (t0_a0.f3_Guard.map encG)), (164, .int .i64 (t0_a0.f3_Guard.length : Int)), (165, .int .i64 (i_16 : Int))]) ∧ (σ = []) ∧ (i_16 ≤ t0_a0.f3_Guard.length) ∧ (lf_scope_CheckRule_1_L4 kk4 (t0_a0.f3_Guard.drop i_16) = some res)) _ ⟨0, rfl, rfl, rfl, Nat.zero_le _, hr⟩ ?_
            rintro n _ _ ⟨i_16, rfl, rfl, rfl, hi4, hr⟩ IH4
            rcases listStep t0_a0.f3_Guard i_16 hi4 with ⟨ht4, hd4, he4⟩ | ⟨q_28, ht4, hd4, hq4, hlt4⟩
            ·
             rw [hd4, lf_scope_CheckRule_1_L4] at hr
             refine g_seq ?_
             refine g_run (by kernel_rfl) [(0, .d)] rfl ?_
             refine r_d rfl rfl rfl (s_cmp rfl rfl rfl rfl) ?_
             refine r_end ?_
             refine g_seq ?_
             refine g_known 166 false rfl ht4 ?_
             refine g_condF rfl ?_
             refine g_exit rfl ?_
             refine g_sub [(0, .ptr (enc_S_api_Rule t0_a0))] (Sub.cons' rfl (Sub.nil _)) ?_
             exact HK4 _ _ ⟨rfl, rfl, hr⟩
            ·
             rw [hd4, lf_scope_CheckRule_1_L4] at hr
             refine g_seq ?_
             refine g_run (by kernel_rfl) [(0, .d)] rfl ?_
             refine r_d rfl rfl rfl (s_cmp rfl rfl rfl rfl) ?_
             refine r_end ?_
             refine g_seq ?_
             refine g_known 166 true rfl ht4 ?_
             refine g_condT rfl ?_
             refine g_skip ?_
             refine g_seq ?_
             refine g_block ?_
             refine g_seq ?_
             refine g_run (by kernel_rfl) [(0, .d), (1, .d), (2, .w), (3, .w)] rfl ?_
             refine r_d rfl rfl rfl (m_index (f := encG) t0_a0.f3_Guard rfl el_L_api_Goal rfl (asl rfl) rfl hq4 sz_encG rfl) ?_
             refine r_d rfl rfl rfl (s_load rfl rfl (by exact ty_api_Goal) (sz_encG _)) ?_
             refine r_w rfl rfl rfl (s_alloc rfl zv_api_Goal) ?_
             rintro _ _ ⟨b19_28, rfl, rfl⟩
             refine r_w01 rfl rfl rfl (t_store0 _ rfl rfl rfl (Wk.refl _) (pf0 _) (by exact ty_api_Goal) (sz_encG _) rfl rfl) ?_
             refine r_end ?_
             refine g_freeze 19 b19_28 rfl (pf0 _) ?_
             refine g_run (by kernel_rfl) [(0, .d), (1, .d), (2, .d), (3, .d), (4, .d), (5, .d), (6, .d), (7, .d), (8, .d)] rfl ?_
             refine r_d rfl rfl rfl (s_fieldAddr rfl fl_api_Goal_0 rfl rfl rfl rfl) ?_
             refine r_d rfl rfl rfl (s_load rfl rfl (by exact ty_int) rfl) ?_
             obtain ⟨r_30, hr_30, hr⟩ := bindS hr
             refine r_d rfl rfl rfl (s_callD rfl cl_scope_test (.cons rfl (Wk.refl _) .nil) (lg_scope_test _ _ hr_30)) ?_
             refine r_d rfl rfl rfl (s_move rfl rfl) ?_
             refine r_sB 172 rfl hr (fun h172_30 hr => ?_) (fun h172_30 hr => ?_)
             ·
              refine r_skip rfl rfl rfl ?_
              refine r_skip rfl rfl rfl ?_
              refine r_skip rfl rfl rfl ?_
              refine r_d rfl rfl rfl (s_pickT rfl rfl rfl) ?_
              rcases bindXS hr with ⟨c_r_32, hr_32, rfl⟩ | ⟨r_32, hr_32, hr⟩
              ·
               refine r_die rfl rfl (s_callX _ rfl cl_scope_need (.cons rfl (Wk.refl _) (.cons rfl (Wk.refl _) .nil)) (by exact (List.Perm.refl _)) (specX_inl (lg_scope_need _ _ _ hr_32))) (hX _ ⟨_, rfl, rfl⟩)
              ·
               refine r_d rfl rfl rfl (s_callD rfl cl_scope_need (.cons rfl (Wk.refl _) (.cons rfl (Wk.refl _) .nil)) (specX_inr (lg_scope_need _ _ _ hr_32))) ?_
               refine r_end ?_
               refine g_inBlock ?_
               refine g_run (by kernel_rfl) [(0, .d), (1, .d)] rfl ?_
               refine r_d rfl rfl rfl (s_ar (r := ((i_16 + 1 : Nat) : Int)) rfl rfl rfl (by simp [iar]) (by omega)) ?_
               refine r_d rfl rfl rfl (s_move rfl rfl) ?_
               refine r_end ?_
               refine g_sub [(0, .ptr (enc_S_api_Rule t0_a0)), (163, .lst (t0_a0.f3_Guard.map encG)), (164, .int .i64 (t0_a0.f3_Guard.length : Int)), (165, .int .i64 ((i_16 + 1 : Nat) : Int))] (Sub.cons' rfl (Sub.cons' rfl (Sub.cons' rfl (Sub.cons' rfl (Sub.nil _))))) ?_
               exact IH4 _ _ _ (by omega) ⟨(i_16 + 1), rfl, rfl, rfl, (by omega), hr⟩
             ·
              refine r_d rfl rfl rfl (s_fieldAddr rfl fl_api_Goal_0 rfl rfl rfl rfl) ?_
              refine r_d rfl rfl rfl (s_load rfl rfl (by exact ty_int) rfl) ?_
              refine r_d rfl rfl rfl (s_cmp rfl rfl rfl rfl) ?_
              refine r_d rfl rfl rfl (s_pickF rfl rfl rfl) ?_
              rcases bindXS hr with ⟨c_r_33, hr_33, rfl⟩ | ⟨r_33, hr_33, hr⟩
              ·
               refine r_die rfl rfl (s_callX _ rfl cl_scope_need (.cons rfl (Wk.refl _) (.cons rfl (Wk.refl _) .nil)) (by exact (List.Perm.refl _)) (specX_inl (lg_scope_need _ _ _ hr_33))) (hX _ ⟨_, rfl, rfl⟩)
              ·
               refine r_d rfl rfl rfl (s_callD rfl cl_scope_need (.cons rfl (Wk.refl _) (.cons rfl (Wk.refl _) .nil)) (specX_inr (lg_scope_need _ _ _ hr_33))) ?_
               refine r_end ?_
               refine g_inBlock ?_
               refine g_run (by kernel_rfl) [(0, .d), (1, .d)] rfl ?_
               refine r_d rfl rfl rfl (s_ar (r := ((i_16 + 1 : Nat) : Int)) rfl rfl rfl (by simp [iar]) (by omega)) ?_
               refine r_d rfl rfl rfl (s_move rfl rfl) ?_
               refine r_end ?_
               refine g_sub [(0, .ptr (enc_S_api_Rule t0_a0)), (163, .lst (t0_a0.f3_Guard.map encG)), (164, .int .i64 (t0_a0.f3_Guard.length : Int)), (165, .int .i64 ((i_16 + 1 : Nat) : Int))] (Sub.cons' rfl (Sub.cons' rfl (Sub.cons' rfl (Sub.cons' rfl (Sub.nil _))))) ?_
               exact IH4 _ _ _ (by omega) ⟨(i_16 + 1), rfl, rfl, rfl, (by omega), hr⟩
        ·
         refine g_sub [(0, .ptr (enc_S_api_Rule t0_a0)), (1, .ptr (.lst (t1_a1.map enc_S_api_Decl))), (135, .agg [.lst (t0_a0.f1_Keep.map encA), .lst (t0_a0.f2_Remove.map encA)]), (136, .int .i64 0)] (Sub.cons' rfl (Sub.cons' rfl (Sub.cons' rfl (Sub.cons' rfl (Sub.nil _))))) ?_
         refine g_loop (fun n env σ => ∃ (t136_13 : Int) (m3 : Nat), (m3 = n) ∧ (env = [(0, .ptr (enc_S_api_Rule t0_a0)), (1, .ptr (.lst (t1_a1.map enc_S_api_Decl))), (135, .agg [.lst (t0_a0.f1_Keep.map encA), .lst (t0_a0.f2_Remove.map encA)]), (136, .int .i64 t136_13)]) ∧ (σ = []) ∧ (m3 = (2 - t136_13 : Int).toNat) ∧ (lf_scope_CheckRule_1_L3 kk3 t0_a0 t1_a1 m3 t136_13 = some res)) _ ⟨0, _, rfl, rfl, rfl, rfl, hr⟩ ?_
         rintro n _ _ ⟨t136_13, m3, rfl, rfl, rfl, hi3, hr⟩ IH3
         refine g_int 136 rfl fun hb3 => ?_
         rcases cntStep t136_13 2 m3 hi3 with ⟨hm3, ht3⟩ | ⟨m3', hm3, ht3, hi3', hlt3⟩
         ·
          rw [hm3, lf_scope_CheckRule_1_L3] at hr
          refine g_seq ?_
          refine g_run (by kernel_rfl) [(0, .d)] rfl ?_
          refine r_d rfl rfl rfl (s_cmp rfl rfl rfl rfl) ?_
          refine r_end ?_
          refine g_seq ?_
          refine g_known 137 false rfl ht3 ?_
          refine g_condF rfl ?_
          refine g_exit rfl ?_
          refine g_sub [(0, .ptr (enc_S_api_Rule t0_a0)), (1, .ptr (.lst (t1_a1.map enc_S_api_Decl)))] (Sub.cons' rfl (Sub.cons' rfl (Sub.nil _))) ?_
          exact HK3 _ _ ⟨rfl, rfl, hr⟩
         ·
          rw [hm3, lf_scope_CheckRule_1_L3] at hr
          refine g_seq ?_
          refine g_run (by kernel_rfl) [(0, .d)] rfl ?_
          refine r_d rfl rfl rfl (s_cmp rfl rfl rfl rfl) ?_
          refine r_end ?_
          refine g_seq ?_
          refine g_known 137 true rfl ht3 ?_
          refine g_condT rfl ?_
          refine g_skip ?_
          refine g_seq ?_
          refine g_block ?_
          refine g_seq ?_
          refine g_run (by kernel_rfl) [(0, .d), (1, .d)] rfl ?_
          obtain ⟨q_34, hq_34, hr⟩ := bindS hr
          refine r_d rfl rfl rfl (m_indexA (f := (fun l => l.map encA)) [t0_a0.f1_Keep, t0_a0.f2_Remove] rfl at__2___api_Atom (by exact ty_L_api_Atom) rfl rfl rfl hq_34) ?_
          refine r_d rfl rfl rfl (s_assign rfl rfl) ?_
          refine r_end ?_
          refine g_seq ?_
          refine g_run (by kernel_rfl) [(0, .d), (1, .d), (2, .d)] rfl ?_
          refine r_d rfl rfl rfl (s_move rfl rfl) ?_
          refine r_d rfl rfl rfl (m_len (f := encA) q_34 rfl el_L_api_Atom rfl (asl rfl)) ?_
          refine r_d rfl rfl rfl (s_move rfl rfl) ?_
          refine r_end ?_
          obtain ⟨kk7, hkk7, hr⟩ := exK (fun k => lf_scope_CheckRule_1_L7 k t1_a1 q_34) hr
          refine g_len 138 rfl (asl rfl) fun hla7 => ?_
          simp only [List.length_map] at hla7
          refine g_blockJ (fun env σ => env = [(0, .ptr (enc_S_api_Rule t0_a0)), (1, .ptr (.lst (t1_a1.map enc_S_api_Decl))), (135, .agg [.lst (t0_a0.f1_Keep.map encA), .lst (t0_a0.f2_Remove.map encA)]), (136, .int .i64 t136_13)] ∧ σ = [] ∧ kk7 = some res) ?_ (fun HK7 => ?_)
          ·
           rintro _ _ ⟨rfl, rfl, hr⟩
           rw [hkk7] at hr
           refine g_inBlock ?_
           refine g_run (by kernel_rfl) [(0, .d), (1, .d)] rfl ?_
           refine r_d rfl rfl rfl (s_ar (r := t136_13 + 1) rfl rfl rfl rfl (by omega)) ?_
           refine r_d rfl rfl rfl (s_move rfl rfl) ?_
           refine r_end ?_
           refine g_sub [(0, .ptr (enc_S_api_Rule t0_a0)), (1, .ptr (.lst (t1_a1.map enc_S_api_Decl))), (135, .agg [.lst (t0_a0.f1_Keep.map encA), .lst (t0_a0.f2_Remove.map encA)]), (136, .int .i64 (t136_13 + 1))] (Sub.cons' rfl (Sub.cons' rfl (Sub.cons' rfl (Sub.cons' rfl (Sub.nil _))))) ?_
           exact IH3 _ _ _ (by omega) ⟨(t136_13 + 1), _, rfl, rfl, rfl, hi3', hr⟩
          ·
           refine g_sub [(0, .ptr (enc_S_api_Rule t0_a0)), (1, .ptr (.lst (t1_a1.map enc_S_api_Decl))), (135, .agg [.lst (t0_a0.f1_Keep.map encA), .lst (t0_a0.f2_Remove.map encA)]), (136, .int .i64 t136_13), (139, .lst (q_34.map encA)), (140, .int .i64 (q_34.length : Int)), (141, .int .i64 ((0 : Nat) : Int))] (Sub.cons' rfl (Sub.cons' rfl (Sub.cons' rfl (Sub.cons' rfl (Sub.cons' rfl (Sub.cons' rfl (Sub.cons' rfl (Sub.nil _)))))))) ?_
           refine g_loop (fun n env σ => ∃ (i_35 : Nat), (n = q_34.length - i_35) ∧ (env = [(0, .ptr (enc_S_api_Rule t0_a0)), (1, .ptr (.lst (t1_a1.map enc_S_api_Decl))), (135, .agg [.lst (t0_a0.f1_Keep.map encA), .lst (t0_a0.f2_Remove.map encA)]), (136, .int .i64 t136_13), (139, .lst (q_34.map encA)), (140, .int .i64 (q_34.length : Int)), (141, .int .i64 (i_35 : Int))]) ∧ (σ = []) ∧ (i_35 ≤ q_34.length) ∧ (lf_scope_CheckRule_1_L7 kk7 t1_a1 (q_34.drop i_35) = some res)) _ ⟨0, rfl, rfl, rfl, Nat.zero_le _, hr⟩ ?_
           rintro n _ _ ⟨i_35, rfl, rfl, rfl, hi7, hr⟩ IH7
           rcases listStep q_34 i_35 hi7 with ⟨ht7, hd7, he7⟩ | ⟨q_36, ht7, hd7, hq7, hlt7⟩
           ·
            rw [hd7, lf_scope_CheckRule_1_L7] at hr
            refine g_seq ?_
            refine g_run (by kernel_rfl) [(0, .d)] rfl ?_
            refine r_d rfl rfl rfl (s_cmp rfl rfl rfl rfl) ?_
            refine r_end ?_
            refine g_seq ?_
            refine g_known 142 false rfl ht7 ?_
            refine g_condF rfl ?_
            refine g_exit rfl ?_
            refine g_sub [(0, .ptr (enc_S_api_Rule t0_a0)), (1, .ptr (.lst (t1_a1.map enc_S_api_Decl))), (135, .agg [.lst (t0_a0.f1_Keep.map encA), .lst (t0_a0.f2_Remove.map encA)]), (136, .int .i64 t136_13)] (Sub.cons' rfl (Sub.cons' rfl (Sub.cons' rfl (Sub.cons' rfl (Sub.nil _))))) ?_
            exact HK7 _ _ ⟨rfl, rfl, hr⟩
           ·
            rw [hd7, lf_scope_CheckRule_1_L7] at hr
            refine g_seq ?_
            refine g_run (by kernel_rfl) [(0, .d)] rfl ?_
            refine r_d rfl rfl rfl (s_cmp rfl rfl rfl rfl) ?_
            refine r_end ?_
            refine g_seq ?_
            refine g_known 142 true rfl ht7 ?_
            refine g_condT rfl ?_
            refine g_skip ?_
            refine g_seq ?_
            refine g_block ?_
            refine g_seq ?_
            refine g_run (by kernel_rfl) [(0, .d), (1, .d), (2, .w), (3, .w)] rfl ?_
            refine r_d rfl rfl rfl (m_index (f := encA) q_34 rfl el_L_api_Atom rfl (asl rfl) rfl hq7 sz_encA rfl) ?_
            refine r_d rfl rfl rfl (s_load rfl rfl (by exact ty_api_Atom) (sz_encA _)) ?_
            refine r_w rfl rfl rfl (s_alloc rfl zv_api_Atom) ?_
            rintro _ _ ⟨b17_36, rfl, rfl⟩
            refine r_w01 rfl rfl rfl (t_store0 _ rfl rfl rfl (Wk.refl _) (pf0 _) (by exact ty_api_Atom) (sz_encA _) rfl rfl) ?_
            refine r_end ?_
            refine g_freeze 17 b17_36 rfl (pf0 _) ?_
            refine g_run (by kernel_rfl) [(0, .d), (1, .d), (2, .d), (3, .d), (4, .d), (5, .d), (6, .d)] rfl ?_
            refine r_d rfl rfl rfl (s_load rfl rfl (by exact ty_L_api_Decl) rfl) ?_
            refine r_d rfl rfl rfl (s_fieldAddr rfl fl_api_Atom_0 rfl rfl rfl rfl) ?_
            refine r_d rfl rfl rfl (s_load rfl rfl (by exact ty_string) rfl) ?_
            refine r_d rfl rfl rfl (s_fieldAddr rfl fl_api_Atom_1 rfl rfl rfl rfl) ?_
            refine r_d rfl rfl rfl (s_load rfl rfl (by exact ty_L_api_Term) rfl) ?_
            refine r_d rfl rfl rfl (m_len (f := encT) q_36.ts rfl el_L_api_Term rfl (asl rfl)) ?_
            rcases bindXS hr with ⟨c_r_38, hr_38, rfl⟩ | ⟨r_38, hr_38, hr⟩
            ·
             refine r_die rfl rfl (s_callX _ rfl cl_scope_declared (.cons rfl (Wk.refl _) (.cons rfl (Wk.refl _) (.cons rfl (Wk.refl _) .nil))) (by exact (List.Perm.refl _)) (specX_inl (lg_scope_declared _ _ _ _ hr_38))) (hX _ ⟨_, rfl, rfl⟩)
            ·
             refine r_d rfl rfl rfl (s_callD rfl cl_scope_declared (.cons rfl (Wk.refl _) (.cons rfl (Wk.refl _) (.cons rfl (Wk.refl _) .nil))) (specX_inr (lg_scope_declared _ _ _ _ hr_38))) ?_
             refine r_end ?_
             refine g_inBlock ?_
             refine g_run (by kernel_rfl) [(0, .d), (1, .d)] rfl ?_
             refine r_d rfl rfl rfl (s_ar (r := ((i_35 + 1 : Nat) : Int)) rfl rfl rfl (by simp [iar]) (by omega)) ?_
             refine r_d rfl rfl rfl (s_move rfl rfl) ?_
             refine r_end ?_
             refine g_sub [(0, .ptr (enc_S_api_Rule t0_a0)), (1, .ptr (.lst (t1_a1.map enc_S_api_Decl))), (135, .agg [.lst (t0_a0.f1_Keep.map encA), .lst (t0_a0.f2_Remove.map encA)]), (136, .int .i64 t136_13), (139, .lst (q_34.map encA)), (140, .int .i64 (q_34.length : Int)), (141, .int .i64 ((i_35 + 1 : Nat) : Int))] (Sub.cons' rfl (Sub.cons' rfl (Sub.cons' rfl (Sub.cons' rfl (Sub.cons' rfl (Sub.cons' rfl (Sub.cons' rfl (Sub.nil _)))))))) ?_
             exact IH7 _ _ _ (by omega) ⟨(i_35 + 1), rfl, rfl, rfl, (by omega), hr⟩
       ·
        unfold lf_scope_CheckRule_1_J1 at hr
        refine g_run (by kernel_rfl) [(0, .d), (1, .d), (2, .d), (3, .d), (4, .d), (5, .d), (6, .d), (7, .d), (8, .d)] rfl ?_
        refine r_d rfl rfl rfl (s_fieldAddr rfl fl_api_Rule_0 rfl rfl rfl rfl) ?_
        refine r_d rfl rfl rfl (s_load rfl rfl (by exact ty_string) rfl) ?_
        refine r_d rfl rfl rfl (s_cmpS rfl rfl rfl rfl) ?_
        refine r_d rfl rfl rfl (s_move rfl rfl) ?_
        refine r_sB 125 rfl hr (fun h125_38 hr => ?_) (fun h125_38 hr => ?_)
        ·
         refine r_skip rfl rfl rfl ?_
         refine r_skip rfl rfl rfl ?_
         refine r_skip rfl rfl rfl ?_
         refine r_d rfl rfl rfl (s_pickT rfl rfl rfl) ?_
         rcases bindXS hr with ⟨c_r_40, hr_40, rfl⟩ | ⟨r_40, hr_40, hr⟩
         ·
          refine r_die rfl rfl (s_callX _ rfl cl_scope_need (.cons rfl (Wk.refl _) (.cons rfl (Wk.refl _) .nil)) (by exact (List.Perm.refl _)) (specX_inl (lg_scope_need _ _ _ hr_40))) (hX _ ⟨_, rfl, rfl⟩)
         ·
          refine r_d rfl rfl rfl (s_callD rfl cl_scope_need (.cons rfl (Wk.refl _) (.cons rfl (Wk.refl _) .nil)) (specX_inr (lg_scope_need _ _ _ hr_40))) ?_
          refine r_end ?_
          refine g_sub [(0, .ptr (enc_S_api_Rule t0_a0)), (1, .ptr (.lst (t1_a1.map enc_S_api_Decl)))] (Sub.cons' rfl (Sub.cons' rfl (Sub.nil _))) ?_
          exact HKJ1 _ _ ⟨rfl, rfl, hr⟩
        ·
         refine r_d rfl rfl rfl (s_fieldAddr rfl fl_api_Rule_0 rfl rfl rfl rfl) ?_
         refine r_d rfl rfl rfl (s_load rfl rfl (by exact ty_string) rfl) ?_
         obtain ⟨r_41, hr_41, hr⟩ := bindS hr
         refine r_d rfl rfl rfl (s_callD rfl cl_name_Right (.cons rfl (Wk.refl _) .nil) (lx_name_Right _ _ hr_41)) ?_
         refine r_d rfl rfl rfl (s_pickF rfl rfl rfl) ?_
         rcases bindXS hr with ⟨c_r_42, hr_42, rfl⟩ | ⟨r_42, hr_42, hr⟩
         ·
          refine r_die rfl rfl (s_callX _ rfl cl_scope_need (.cons rfl (Wk.refl _) (.cons rfl (Wk.refl _) .nil)) (by exact (List.Perm.refl _)) (specX_inl (lg_scope_need _ _ _ hr_42))) (hX _ ⟨_, rfl, rfl⟩)
         ·
          refine r_d rfl rfl rfl (s_callD rfl cl_scope_need (.cons rfl (Wk.refl _) (.cons rfl (Wk.refl _) .nil)) (specX_inr (lg_scope_need _ _ _ hr_42))) ?_
          refine r_end ?_
          refine g_sub [(0, .ptr (enc_S_api_Rule t0_a0)), (1, .ptr (.lst (t1_a1.map enc_S_api_Decl)))] (Sub.cons' rfl (Sub.cons' rfl (Sub.nil _))) ?_
          exact HKJ1 _ _ ⟨rfl, rfl, hr⟩
     ·
      refine g_sub [(0, .ptr (enc_S_api_Rule t0_a0)), (1, .ptr (.lst (t1_a1.map enc_S_api_Decl))), (101, .own u101_6 (l_6.map (D.int .i64))), (102, .int .i64 (l_6.length : Int)), (11, .int .i64 0), (103, .int .i64 ((0 : Nat) : Int))] (Sub.cons' rfl (Sub.cons' rfl (Sub.cons' rfl (Sub.cons' rfl (Sub.cons' rfl (Sub.cons' rfl (Sub.nil _))))))) ?_
      refine g_loop (fun n env σ => ∃ (next_9 : Int) (i_10 : Nat) (u_8 : Value), (n = l_6.length - i_10) ∧ (env = [(0, .ptr (enc_S_api_Rule t0_a0)), (1, .ptr (.lst (t1_a1.map enc_S_api_Decl))), (101, .own u_8 (l_6.map (D.int .i64))), (102, .int .i64 (l_6.length : Int)), (11, .int .i64 next_9), (103, .int .i64 (i_10 : Int))]) ∧ (σ = [.row u_8 l_6.length 3 1]) ∧ (i_10 ≤ l_6.length) ∧ (lf_scope_CheckRule_1_L2 kk2 (l_6.drop i_10) next_9 = some res)) _ ⟨0, 0, u101_6, rfl, rfl, rfl, Nat.zero_le _, hr⟩ ?_
      rintro n _ _ ⟨next_9, i_10, u_8, rfl, rfl, rfl, hi2, hr⟩ IH2
      rcases listStep l_6 i_10 hi2 with ⟨ht2, hd2, he2⟩ | ⟨q_43, ht2, hd2, hq2, hlt2⟩
      ·
       rw [hd2, lf_scope_CheckRule_1_L2] at hr
       refine g_seq ?_
       refine g_run (by kernel_rfl) [(0, .d)] rfl ?_
       refine r_d rfl rfl rfl (s_cmp rfl rfl rfl rfl) ?_
       refine r_end ?_
       refine g_seq ?_
       refine g_known 104 false rfl ht2 ?_
       refine g_condF rfl ?_
       refine g_exit rfl ?_
       refine g_sub [(0, .ptr (enc_S_api_Rule t0_a0)), (1, .ptr (.lst (t1_a1.map enc_S_api_Decl))), (11, .int .i64 next_9)] (Sub.cons' rfl (Sub.cons' rfl (Sub.cons' rfl (Sub.nil _)))) ?_
       refine g_perm [] _ (pf0 _) ?_
       exact HK2 _ _ ⟨next_9, rfl, rfl, hr⟩
      ·
       rw [hd2, lf_scope_CheckRule_1_L2] at hr
       refine g_seq ?_
       refine g_run (by kernel_rfl) [(0, .d)] rfl ?_
       refine r_d rfl rfl rfl (s_cmp rfl rfl rfl rfl) ?_
       refine r_end ?_
       refine g_seq ?_
       refine g_known 104 true rfl ht2 ?_
       refine g_condT rfl ?_
       refine g_skip ?_
       refine g_seq ?_
       refine g_block ?_
       refine g_seq ?_
       refine g_run (by kernel_rfl) [(0, .d), (1, .d), (2, .d)] rfl ?_
       refine r_d rfl rfl rfl (m_index (f := (D.int .i64)) l_6 rfl el_L_int rfl (asl rfl) rfl hq2 (fun _ => rfl) rfl) ?_
       refine r_d rfl rfl rfl (s_load rfl rfl (by exact ty_int) rfl) ?_
       refine r_d rfl rfl rfl (s_assign rfl rfl) ?_
       refine r_end ?_
       refine g_seq ?_
       refine g_run (by kernel_rfl) [(0, .d), (1, .d), (2, .d), (3, .d)] rfl ?_
       refine r_d rfl rfl rfl (s_move rfl rfl) ?_
       refine r_d rfl rfl rfl (s_move rfl rfl) ?_
       refine r_d rfl rfl rfl (s_cmp rfl rfl rfl rfl) ?_
       rcases bindXS hr with ⟨c_r_44, hr_44, rfl⟩ | ⟨r_44, hr_44, hr⟩
       ·
        refine r_die rfl rfl (s_callX _ rfl cl_scope_need (.cons rfl (Wk.refl _) (.cons rfl (Wk.refl _) .nil)) (by exact (List.Perm.refl _)) (specX_inl (lg_scope_need _ _ _ hr_44))) (hX _ ⟨_, rfl, rfl⟩)
       ·
        refine r_d rfl rfl rfl (s_callD rfl cl_scope_need (.cons rfl (Wk.refl _) (.cons rfl (Wk.refl _) .nil)) (specX_inr (lg_scope_need _ _ _ hr_44))) ?_
        refine r_end ?_
        refine g_seq ?_
        refine g_run (by kernel_rfl) [(0, .d), (1, .d), (2, .d)] rfl ?_
        refine r_d rfl rfl rfl (s_move rfl rfl) ?_
        refine r_d rfl rfl rfl (s_move rfl rfl) ?_
        refine r_d rfl rfl rfl (s_cmp rfl rfl rfl rfl) ?_
        refine r_end ?_
        refine g_sB 113 rfl hr (fun h113_44 hr => ?_) (fun h113_44 hr => ?_)
        ·
         refine g_condT rfl ?_
         refine g_run (by kernel_rfl) [(0, .d), (1, .d), (2, .d)] rfl ?_
         refine r_d rfl rfl rfl (s_move rfl rfl) ?_
         refine r_d rfl rfl rfl (s_arW rfl rfl rfl rfl) ?_
         refine r_d rfl rfl rfl (s_assign rfl rfl) ?_
         refine r_end ?_
         refine g_inBlock ?_
         refine g_run (by kernel_rfl) [(0, .d), (1, .d)] rfl ?_
         refine r_d rfl rfl rfl (s_ar (r := ((i_10 + 1 : Nat) : Int)) rfl rfl rfl (by simp [iar]) (by omega)) ?_
         refine r_d rfl rfl rfl (s_move rfl rfl) ?_
         refine r_end ?_
         refine g_sub [(0, .ptr (enc_S_api_Rule t0_a0)), (1, .ptr (.lst (t1_a1.map enc_S_api_Decl))), (101, .own u_8 (l_6.map (D.int .i64))), (102, .int .i64 (l_6.length : Int)), (11, .int .i64 (wr (next_9 + (1 : Int)))), (103, .int .i64 ((i_10 + 1 : Nat) : Int))] (Sub.cons' rfl (Sub.cons' rfl (Sub.cons' rfl (Sub.cons' rfl (Sub.cons' rfl (Sub.cons' rfl (Sub.nil _))))))) ?_
         exact IH2 _ _ _ (by omega) ⟨(wr (next_9 + (1 : Int))), (i_10 + 1), u_8, rfl, rfl, rfl, (by omega), hr⟩
        ·
         refine g_condF rfl ?_
         refine g_skip ?_
         refine g_inBlock ?_
         refine g_run (by kernel_rfl) [(0, .d), (1, .d)] rfl ?_
         refine r_d rfl rfl rfl (s_ar (r := ((i_10 + 1 : Nat) : Int)) rfl rfl rfl (by simp [iar]) (by omega)) ?_
         refine r_d rfl rfl rfl (s_move rfl rfl) ?_
         refine r_end ?_
         refine g_sub [(0, .ptr (enc_S_api_Rule t0_a0)), (1, .ptr (.lst (t1_a1.map enc_S_api_Decl))), (101, .own u_8 (l_6.map (D.int .i64))), (102, .int .i64 (l_6.length : Int)), (11, .int .i64 next_9), (103, .int .i64 ((i_10 + 1 : Nat) : Int))] (Sub.cons' rfl (Sub.cons' rfl (Sub.cons' rfl (Sub.cons' rfl (Sub.cons' rfl (Sub.cons' rfl (Sub.nil _))))))) ?_
         exact IH2 _ _ _ (by omega) ⟨next_9, (i_10 + 1), u_8, rfl, rfl, rfl, (by omega), hr⟩
    ·
     refine g_sub [(0, .ptr (enc_S_api_Rule t0_a0)), (1, .ptr (.lst (t1_a1.map enc_S_api_Decl))), (74, .agg [.lst (t0_a0.f3_Guard.map encG), .lst (t0_a0.f4_Body.map encG)]), (75, .int .i64 0)] (Sub.cons' rfl (Sub.cons' rfl (Sub.cons' rfl (Sub.cons' rfl (Sub.nil _))))) ?_
     refine g_loop (fun n env σ => ∃ (t75_2 : Int) (m1 : Nat), (m1 = n) ∧ (env = [(0, .ptr (enc_S_api_Rule t0_a0)), (1, .ptr (.lst (t1_a1.map enc_S_api_Decl))), (74, .agg [.lst (t0_a0.f3_Guard.map encG), .lst (t0_a0.f4_Body.map encG)]), (75, .int .i64 t75_2)]) ∧ (σ = []) ∧ (m1 = (2 - t75_2 : Int).toNat) ∧ (lf_scope_CheckRule_1_L1 kk1 t0_a0 m1 t75_2 = some res)) _ ⟨0, _, rfl, rfl, rfl, rfl, hr⟩ ?_
     rintro n _ _ ⟨t75_2, m1, rfl, rfl, rfl, hi1, hr⟩ IH1
     refine g_int 75 rfl fun hb1 => ?_
     rcases cntStep t75_2 2 m1 hi1 with ⟨hm1, ht1⟩ | ⟨m1', hm1, ht1, hi1', hlt1⟩
     ·
      rw [hm1, lf_scope_CheckRule_1_L1] at hr
      refine g_seq ?_
      refine g_run (by kernel_rfl) [(0, .d)] rfl ?_
      refine r_d rfl rfl rfl (s_cmp rfl rfl rfl rfl) ?_
      refine r_end ?_
      refine g_seq ?_
      refine g_known 76 false rfl ht1 ?_
      refine g_condF rfl ?_
      refine g_exit rfl ?_
      refine g_sub [(0, .ptr (enc_S_api_Rule t0_a0)), (1, .ptr (.lst (t1_a1.map enc_S_api_Decl)))] (Sub.cons' rfl (Sub.cons' rfl (Sub.nil _))) ?_
      exact HK1 _ _ ⟨rfl, rfl, hr⟩
     ·
      rw [hm1, lf_scope_CheckRule_1_L1] at hr
      refine g_seq ?_
      refine g_run (by kernel_rfl) [(0, .d)] rfl ?_
      refine r_d rfl rfl rfl (s_cmp rfl rfl rfl rfl) ?_
      refine r_end ?_
      refine g_seq ?_
      refine g_known 76 true rfl ht1 ?_
      refine g_condT rfl ?_
      refine g_skip ?_
      refine g_seq ?_
      refine g_block ?_
      refine g_seq ?_
      refine g_run (by kernel_rfl) [(0, .d), (1, .d)] rfl ?_
      obtain ⟨q_46, hq_46, hr⟩ := bindS hr
      refine r_d rfl rfl rfl (m_indexA (f := (fun l => l.map encG)) [t0_a0.f3_Guard, t0_a0.f4_Body] rfl at__2___api_Goal (by exact ty_L_api_Goal) rfl rfl rfl hq_46) ?_
      refine r_d rfl rfl rfl (s_assign rfl rfl) ?_
      refine r_end ?_
      refine g_seq ?_
      refine g_run (by kernel_rfl) [(0, .d), (1, .d), (2, .d)] rfl ?_
      refine r_d rfl rfl rfl (s_move rfl rfl) ?_
      refine r_d rfl rfl rfl (m_len (f := encG) q_46 rfl el_L_api_Goal rfl (asl rfl)) ?_
      refine r_d rfl rfl rfl (s_move rfl rfl) ?_
      refine r_end ?_
      obtain ⟨kk8, hkk8, hr⟩ := exK (fun k => lf_scope_CheckRule_1_L8 k q_46) hr
      refine g_len 77 rfl (asl rfl) fun hla8 => ?_
      simp only [List.length_map] at hla8
      refine g_blockJ (fun env σ => env = [(0, .ptr (enc_S_api_Rule t0_a0)), (1, .ptr (.lst (t1_a1.map enc_S_api_Decl))), (74, .agg [.lst (t0_a0.f3_Guard.map encG), .lst (t0_a0.f4_Body.map encG)]), (75, .int .i64 t75_2)] ∧ σ = [] ∧ kk8 = some res) ?_ (fun HK8 => ?_)
      ·
       rintro _ _ ⟨rfl, rfl, hr⟩
       rw [hkk8] at hr
       refine g_inBlock ?_
       refine g_run (by kernel_rfl) [(0, .d), (1, .d)] rfl ?_
       refine r_d rfl rfl rfl (s_ar (r := t75_2 + 1) rfl rfl rfl rfl (by omega)) ?_
       refine r_d rfl rfl rfl (s_move rfl rfl) ?_
       refine r_end ?_
       refine g_sub [(0, .ptr (enc_S_api_Rule t0_a0)), (1, .ptr (.lst (t1_a1.map enc_S_api_Decl))), (74, .agg [.lst (t0_a0.f3_Guard.map encG), .lst (t0_a0.f4_Body.map encG)]), (75, .int .i64 (t75_2 + 1))] (Sub.cons' rfl (Sub.cons' rfl (Sub.cons' rfl (Sub.cons' rfl (Sub.nil _))))) ?_
       exact IH1 _ _ _ (by omega) ⟨(t75_2 + 1), _, rfl, rfl, rfl, hi1', hr⟩
      ·
       refine g_sub [(0, .ptr (enc_S_api_Rule t0_a0)), (1, .ptr (.lst (t1_a1.map enc_S_api_Decl))), (74, .agg [.lst (t0_a0.f3_Guard.map encG), .lst (t0_a0.f4_Body.map encG)]), (75, .int .i64 t75_2), (78, .lst (q_46.map encG)), (79, .int .i64 (q_46.length : Int)), (80, .int .i64 ((0 : Nat) : Int))] (Sub.cons' rfl (Sub.cons' rfl (Sub.cons' rfl (Sub.cons' rfl (Sub.cons' rfl (Sub.cons' rfl (Sub.cons' rfl (Sub.nil _)))))))) ?_
       refine g_loop (fun n env σ => ∃ (i_47 : Nat), (n = q_46.length - i_47) ∧ (env = [(0, .ptr (enc_S_api_Rule t0_a0)), (1, .ptr (.lst (t1_a1.map enc_S_api_Decl))), (74, .agg [.lst (t0_a0.f3_Guard.map encG), .lst (t0_a0.f4_Body.map encG)]), (75, .int .i64 t75_2), (78, .lst (q_46.map encG)), (79, .int .i64 (q_46.length : Int)), (80, .int .i64 (i_47 : Int))]) ∧ (σ = []) ∧ (i_47 ≤ q_46.length) ∧ (lf_scope_CheckRule_1_L8 kk8 (q_46.drop i_47) = some res)) _ ⟨0, rfl, rfl, rfl, Nat.zero_le _, hr⟩ ?_
       rintro n _ _ ⟨i_47, rfl, rfl, rfl, hi8, hr⟩ IH8
       rcases listStep q_46 i_47 hi8 with ⟨ht8, hd8, he8⟩ | ⟨q_48, ht8, hd8, hq8, hlt8⟩
       ·
        rw [hd8, lf_scope_CheckRule_1_L8] at hr
        refine g_seq ?_
        refine g_run (by kernel_rfl) [(0, .d)] rfl ?_
        refine r_d rfl rfl rfl (s_cmp rfl rfl rfl rfl) ?_
        refine r_end ?_
        refine g_seq ?_
        refine g_known 81 false rfl ht8 ?_
        refine g_condF rfl ?_
        refine g_exit rfl ?_
        refine g_sub [(0, .ptr (enc_S_api_Rule t0_a0)), (1, .ptr (.lst (t1_a1.map enc_S_api_Decl))), (74, .agg [.lst (t0_a0.f3_Guard.map encG), .lst (t0_a0.f4_Body.map encG)]), (75, .int .i64 t75_2)] (Sub.cons' rfl (Sub.cons' rfl (Sub.cons' rfl (Sub.cons' rfl (Sub.nil _))))) ?_
        exact HK8 _ _ ⟨rfl, rfl, hr⟩
       ·
        rw [hd8, lf_scope_CheckRule_1_L8] at hr
        refine g_seq ?_
        refine g_run (by kernel_rfl) [(0, .d)] rfl ?_
        refine r_d rfl rfl rfl (s_cmp rfl rfl rfl rfl) ?_
        refine r_end ?_
        refine g_seq ?_
        refine g_known 81 true rfl ht8 ?_
        refine g_condT rfl ?_
        refine g_skip ?_
        refine g_seq ?_
        refine g_block ?_
        refine g_seq ?_
        refine g_run (by kernel_rfl) [(0, .d), (1, .d), (2, .w), (3, .w)] rfl ?_
        refine r_d rfl rfl rfl (m_index (f := encG) q_46 rfl el_L_api_Goal rfl (asl rfl) rfl hq8 sz_encG rfl) ?_
        refine r_d rfl rfl rfl (s_load rfl rfl (by exact ty_api_Goal) (sz_encG _)) ?_
        refine r_w rfl rfl rfl (s_alloc rfl zv_api_Goal) ?_
        rintro _ _ ⟨b10_48, rfl, rfl⟩
        refine r_w01 rfl rfl rfl (t_store0 _ rfl rfl rfl (Wk.refl _) (pf0 _) (by exact ty_api_Goal) (sz_encG _) rfl rfl) ?_
        refine r_end ?_
        refine g_freeze 10 b10_48 rfl (pf0 _) ?_
        refine g_run (by kernel_rfl) [(0, .d), (1, .d), (2, .d)] rfl ?_
        refine r_d rfl rfl rfl (s_load rfl rfl (by exact ty_api_Goal) (sz_encG _)) ?_
        obtain ⟨r_50, hr_50, hr⟩ := bindS hr
        refine r_d rfl rfl rfl (s_callD rfl cl_term_RightGoal (.cons rfl (Wk.refl _) .nil) (lx_term_RightGoal _ _ hr_50)) ?_
        rcases bindXS hr with ⟨c_r_51, hr_51, rfl⟩ | ⟨r_51, hr_51, hr⟩
        ·
         refine r_die rfl rfl (s_callX _ rfl cl_scope_need (.cons rfl (Wk.refl _) (.cons rfl (Wk.refl _) .nil)) (by exact (List.Perm.refl _)) (specX_inl (lg_scope_need _ _ _ hr_51))) (hX _ ⟨_, rfl, rfl⟩)
        ·
         refine r_d rfl rfl rfl (s_callD rfl cl_scope_need (.cons rfl (Wk.refl _) (.cons rfl (Wk.refl _) .nil)) (specX_inr (lg_scope_need _ _ _ hr_51))) ?_
         refine r_end ?_
         refine g_inBlock ?_
         refine g_run (by kernel_rfl) [(0, .d), (1, .d)] rfl ?_
         refine r_d rfl rfl rfl (s_ar (r := ((i_47 + 1 : Nat) : Int)) rfl rfl rfl (by simp [iar]) (by omega)) ?_
         refine r_d rfl rfl rfl (s_move rfl rfl) ?_
         refine r_end ?_
         refine g_sub [(0, .ptr (enc_S_api_Rule t0_a0)), (1, .ptr (.lst (t1_a1.map enc_S_api_Decl))), (74, .agg [.lst (t0_a0.f3_Guard.map encG), .lst (t0_a0.f4_Body.map encG)]), (75, .int .i64 t75_2), (78, .lst (q_46.map encG)), (79, .int .i64 (q_46.length : Int)), (80, .int .i64 ((i_47 + 1 : Nat) : Int))] (Sub.cons' rfl (Sub.cons' rfl (Sub.cons' rfl (Sub.cons' rfl (Sub.cons' rfl (Sub.cons' rfl (Sub.cons' rfl (Sub.nil _)))))))) ?_
         exact IH8 _ _ _ (by omega) ⟨(i_47 + 1), rfl, rfl, rfl, (by omega), hr⟩
   ·
    refine g_sub [(0, .ptr (enc_S_api_Rule t0_a0)), (1, .ptr (.lst (t1_a1.map enc_S_api_Decl))), (55, .agg [.lst (t0_a0.f1_Keep.map encA), .lst (t0_a0.f2_Remove.map encA)]), (56, .int .i64 0)] (Sub.cons' rfl (Sub.cons' rfl (Sub.cons' rfl (Sub.cons' rfl (Sub.nil _))))) ?_
    refine g_loop (fun n env σ => ∃ (t56_1 : Int) (m0 : Nat), (m0 = n) ∧ (env = [(0, .ptr (enc_S_api_Rule t0_a0)), (1, .ptr (.lst (t1_a1.map enc_S_api_Decl))), (55, .agg [.lst (t0_a0.f1_Keep.map encA), .lst (t0_a0.f2_Remove.map encA)]), (56, .int .i64 t56_1)]) ∧ (σ = []) ∧ (m0 = (2 - t56_1 : Int).toNat) ∧ (lf_scope_CheckRule_1_L0 kk0 t0_a0 m0 t56_1 = some res)) _ ⟨0, _, rfl, rfl, rfl, rfl, hr⟩ ?_
    rintro n _ _ ⟨t56_1, m0, rfl, rfl, rfl, hi0, hr⟩ IH0
    refine g_int 56 rfl fun hb0 => ?_
    rcases cntStep t56_1 2 m0 hi0 with ⟨hm0, ht0⟩ | ⟨m0', hm0, ht0, hi0', hlt0⟩
    ·
     rw [hm0, lf_scope_CheckRule_1_L0] at hr
     refine g_seq ?_
     refine g_run (by kernel_rfl) [(0, .d)] rfl ?_
     refine r_d rfl rfl rfl (s_cmp rfl rfl rfl rfl) ?_
     refine r_end ?_
     refine g_seq ?_
     refine g_known 57 false rfl ht0 ?_
     refine g_condF rfl ?_
     refine g_exit rfl ?_
     refine g_sub [(0, .ptr (enc_S_api_Rule t0_a0)), (1, .ptr (.lst (t1_a1.map enc_S_api_Decl)))] (Sub.cons' rfl (Sub.cons' rfl (Sub.nil _))) ?_
     exact HK0 _ _ ⟨rfl, rfl, hr⟩
    ·
     rw [hm0, lf_scope_CheckRule_1_L0] at hr
     refine g_seq ?_
     refine g_run (by kernel_rfl) [(0, .d)] rfl ?_
     refine r_d rfl rfl rfl (s_cmp rfl rfl rfl rfl) ?_
     refine r_end ?_
     refine g_seq ?_
     refine g_known 57 true rfl ht0 ?_
     refine g_condT rfl ?_
     refine g_skip ?_
     refine g_seq ?_
     refine g_block ?_
     refine g_seq ?_
     refine g_run (by kernel_rfl) [(0, .d), (1, .d)] rfl ?_
     obtain ⟨q_52, hq_52, hr⟩ := bindS hr
     refine r_d rfl rfl rfl (m_indexA (f := (fun l => l.map encA)) [t0_a0.f1_Keep, t0_a0.f2_Remove] rfl at__2___api_Atom (by exact ty_L_api_Atom) rfl rfl rfl hq_52) ?_
     refine r_d rfl rfl rfl (s_assign rfl rfl) ?_
     refine r_end ?_
     refine g_seq ?_
     refine g_run (by kernel_rfl) [(0, .d), (1, .d), (2, .d)] rfl ?_
     refine r_d rfl rfl rfl (s_move rfl rfl) ?_
     refine r_d rfl rfl rfl (m_len (f := encA) q_52 rfl el_L_api_Atom rfl (asl rfl)) ?_
     refine r_d rfl rfl rfl (s_move rfl rfl) ?_
     refine r_end ?_
     obtain ⟨kk9, hkk9, hr⟩ := exK (fun k => lf_scope_CheckRule_1_L9 k q_52) hr
     refine g_len 58 rfl (asl rfl) fun hla9 => ?_
     simp only [List.length_map] at hla9
     refine g_blockJ (fun env σ => env = [(0, .ptr (enc_S_api_Rule t0_a0)), (1, .ptr (.lst (t1_a1.map enc_S_api_Decl))), (55, .agg [.lst (t0_a0.f1_Keep.map encA), .lst (t0_a0.f2_Remove.map encA)]), (56, .int .i64 t56_1)] ∧ σ = [] ∧ kk9 = some res) ?_ (fun HK9 => ?_)
     ·
      rintro _ _ ⟨rfl, rfl, hr⟩
      rw [hkk9] at hr
      refine g_inBlock ?_
      refine g_run (by kernel_rfl) [(0, .d), (1, .d)] rfl ?_
      refine r_d rfl rfl rfl (s_ar (r := t56_1 + 1) rfl rfl rfl rfl (by omega)) ?_
      refine r_d rfl rfl rfl (s_move rfl rfl) ?_
      refine r_end ?_
      refine g_sub [(0, .ptr (enc_S_api_Rule t0_a0)), (1, .ptr (.lst (t1_a1.map enc_S_api_Decl))), (55, .agg [.lst (t0_a0.f1_Keep.map encA), .lst (t0_a0.f2_Remove.map encA)]), (56, .int .i64 (t56_1 + 1))] (Sub.cons' rfl (Sub.cons' rfl (Sub.cons' rfl (Sub.cons' rfl (Sub.nil _))))) ?_
      exact IH0 _ _ _ (by omega) ⟨(t56_1 + 1), _, rfl, rfl, rfl, hi0', hr⟩
     ·
      refine g_sub [(0, .ptr (enc_S_api_Rule t0_a0)), (1, .ptr (.lst (t1_a1.map enc_S_api_Decl))), (55, .agg [.lst (t0_a0.f1_Keep.map encA), .lst (t0_a0.f2_Remove.map encA)]), (56, .int .i64 t56_1), (59, .lst (q_52.map encA)), (60, .int .i64 (q_52.length : Int)), (61, .int .i64 ((0 : Nat) : Int))] (Sub.cons' rfl (Sub.cons' rfl (Sub.cons' rfl (Sub.cons' rfl (Sub.cons' rfl (Sub.cons' rfl (Sub.cons' rfl (Sub.nil _)))))))) ?_
      refine g_loop (fun n env σ => ∃ (i_53 : Nat), (n = q_52.length - i_53) ∧ (env = [(0, .ptr (enc_S_api_Rule t0_a0)), (1, .ptr (.lst (t1_a1.map enc_S_api_Decl))), (55, .agg [.lst (t0_a0.f1_Keep.map encA), .lst (t0_a0.f2_Remove.map encA)]), (56, .int .i64 t56_1), (59, .lst (q_52.map encA)), (60, .int .i64 (q_52.length : Int)), (61, .int .i64 (i_53 : Int))]) ∧ (σ = []) ∧ (i_53 ≤ q_52.length) ∧ (lf_scope_CheckRule_1_L9 kk9 (q_52.drop i_53) = some res)) _ ⟨0, rfl, rfl, rfl, Nat.zero_le _, hr⟩ ?_
      rintro n _ _ ⟨i_53, rfl, rfl, rfl, hi9, hr⟩ IH9
      rcases listStep q_52 i_53 hi9 with ⟨ht9, hd9, he9⟩ | ⟨q_54, ht9, hd9, hq9, hlt9⟩
      ·
       rw [hd9, lf_scope_CheckRule_1_L9] at hr
       refine g_seq ?_
       refine g_run (by kernel_rfl) [(0, .d)] rfl ?_
       refine r_d rfl rfl rfl (s_cmp rfl rfl rfl rfl) ?_
       refine r_end ?_
       refine g_seq ?_
       refine g_known 62 false rfl ht9 ?_
       refine g_condF rfl ?_
       refine g_exit rfl ?_
       refine g_sub [(0, .ptr (enc_S_api_Rule t0_a0)), (1, .ptr (.lst (t1_a1.map enc_S_api_Decl))), (55, .agg [.lst (t0_a0.f1_Keep.map encA), .lst (t0_a0.f2_Remove.map encA)]), (56, .int .i64 t56_1)] (Sub.cons' rfl (Sub.cons' rfl (Sub.cons' rfl (Sub.cons' rfl (Sub.nil _))))) ?_
       exact HK9 _ _ ⟨rfl, rfl, hr⟩
      ·
       rw [hd9, lf_scope_CheckRule_1_L9] at hr
       refine g_seq ?_
       refine g_run (by kernel_rfl) [(0, .d)] rfl ?_
       refine r_d rfl rfl rfl (s_cmp rfl rfl rfl rfl) ?_
       refine r_end ?_
       refine g_seq ?_
       refine g_known 62 true rfl ht9 ?_
       refine g_condT rfl ?_
       refine g_skip ?_
       refine g_seq ?_
       refine g_block ?_
       refine g_seq ?_
       refine g_run (by kernel_rfl) [(0, .d), (1, .d), (2, .w), (3, .w)] rfl ?_
       refine r_d rfl rfl rfl (m_index (f := encA) q_52 rfl el_L_api_Atom rfl (asl rfl) rfl hq9 sz_encA rfl) ?_
       refine r_d rfl rfl rfl (s_load rfl rfl (by exact ty_api_Atom) (sz_encA _)) ?_
       refine r_w rfl rfl rfl (s_alloc rfl zv_api_Atom) ?_
       rintro _ _ ⟨b6_54, rfl, rfl⟩
       refine r_w01 rfl rfl rfl (t_store0 _ rfl rfl rfl (Wk.refl _) (pf0 _) (by exact ty_api_Atom) (sz_encA _) rfl rfl) ?_
       refine r_end ?_
       refine g_freeze 6 b6_54 rfl (pf0 _) ?_
       refine g_run (by kernel_rfl) [(0, .d), (1, .d), (2, .d)] rfl ?_
       refine r_d rfl rfl rfl (s_load rfl rfl (by exact ty_api_Atom) (sz_encA _)) ?_
       obtain ⟨r_56, hr_56, hr⟩ := bindS hr
       refine r_d rfl rfl rfl (s_callD rfl cl_term_RightAtom (.cons rfl (Wk.refl _) .nil) (lx_term_RightAtom _ _ hr_56)) ?_
       rcases bindXS hr with ⟨c_r_57, hr_57, rfl⟩ | ⟨r_57, hr_57, hr⟩
       ·
        refine r_die rfl rfl (s_callX _ rfl cl_scope_need (.cons rfl (Wk.refl _) (.cons rfl (Wk.refl _) .nil)) (by exact (List.Perm.refl _)) (specX_inl (lg_scope_need _ _ _ hr_57))) (hX _ ⟨_, rfl, rfl⟩)
       ·
        refine r_d rfl rfl rfl (s_callD rfl cl_scope_need (.cons rfl (Wk.refl _) (.cons rfl (Wk.refl _) .nil)) (specX_inr (lg_scope_need _ _ _ hr_57))) ?_
        refine r_end ?_
        refine g_inBlock ?_
        refine g_run (by kernel_rfl) [(0, .d), (1, .d)] rfl ?_
        refine r_d rfl rfl rfl (s_ar (r := ((i_53 + 1 : Nat) : Int)) rfl rfl rfl (by simp [iar]) (by omega)) ?_
        refine r_d rfl rfl rfl (s_move rfl rfl) ?_
        refine r_end ?_
        refine g_sub [(0, .ptr (enc_S_api_Rule t0_a0)), (1, .ptr (.lst (t1_a1.map enc_S_api_Decl))), (55, .agg [.lst (t0_a0.f1_Keep.map encA), .lst (t0_a0.f2_Remove.map encA)]), (56, .int .i64 t56_1), (59, .lst (q_52.map encA)), (60, .int .i64 (q_52.length : Int)), (61, .int .i64 ((i_53 + 1 : Nat) : Int))] (Sub.cons' rfl (Sub.cons' rfl (Sub.cons' rfl (Sub.cons' rfl (Sub.cons' rfl (Sub.cons' rfl (Sub.cons' rfl (Sub.nil _)))))))) ?_
        exact IH9 _ _ _ (by omega) ⟨(i_53 + 1), rfl, rfl, rfl, (by omega), hr⟩
  ·
   unfold lf_scope_CheckRule_1_J0 at hr
   refine g_run (by kernel_rfl) [(0, .d), (1, .d), (2, .d), (3, .d), (4, .d), (5, .d), (6, .d), (7, .d), (8, .d), (9, .d), (10, .d), (11, .d), (12, .d), (13, .d), (14, .d), (15, .d), (16, .d), (17, .d), (18, .d)] rfl ?_
   refine r_d rfl rfl rfl (s_move rfl rfl) ?_
   refine r_d rfl rfl rfl (s_cmp rfl rfl rfl rfl) ?_
   refine r_d rfl rfl rfl (s_move rfl rfl) ?_
   refine r_sB 34 rfl hr (fun h34_57 hr => ?_) (fun h34_57 hr => ?_)
   ·
    refine r_d rfl rfl rfl (s_move rfl rfl) ?_
    refine r_d rfl rfl rfl (s_cmp rfl rfl rfl rfl) ?_
    refine r_d rfl rfl rfl (s_pickT rfl rfl rfl) ?_
    refine r_d rfl rfl rfl (s_move rfl rfl) ?_
    refine r_sB 38 rfl hr (fun h38_58 hr => ?_) (fun h38_58 hr => ?_)
    ·
     refine r_d rfl rfl rfl (s_fieldAddr rfl fl_api_Rule_3 rfl rfl rfl rfl) ?_
     refine r_d rfl rfl rfl (s_load rfl rfl (by exact ty_L_api_Goal) rfl) ?_
     refine r_d rfl rfl rfl (m_len (f := encG) t0_a0.f3_Guard rfl el_L_api_Goal rfl (asl rfl)) ?_
     refine r_d rfl rfl rfl (s_cmp rfl rfl rfl rfl) ?_
     refine r_d rfl rfl rfl (s_pickT rfl rfl rfl) ?_
     refine r_d rfl rfl rfl (s_move rfl rfl) ?_
     refine r_sB 44 rfl hr (fun h44_59 hr => ?_) (fun h44_59 hr => ?_)
     ·
      refine r_d rfl rfl rfl (s_fieldAddr rfl fl_api_Rule_4 rfl rfl rfl rfl) ?_
      refine r_d rfl rfl rfl (s_load rfl rfl (by exact ty_L_api_Goal) rfl) ?_
      refine r_d rfl rfl rfl (m_len (f := encG) t0_a0.f4_Body rfl el_L_api_Goal rfl (asl rfl)) ?_
      refine r_d rfl rfl rfl (s_cmp rfl rfl rfl rfl) ?_
      refine r_d rfl rfl rfl (s_pickT rfl rfl rfl) ?_
      rcases bindXS hr with ⟨c_r_61, hr_61, rfl⟩ | ⟨r_61, hr_61, hr⟩
      ·
       refine r_die rfl rfl (s_callX _ rfl cl_scope_need (.cons rfl (Wk.refl _) (.cons rfl (Wk.refl _) .nil)) (by exact (List.Perm.refl _)) (specX_inl (lg_scope_need _ _ _ hr_61))) (hX _ ⟨_, rfl, rfl⟩)
      ·
       refine r_d rfl rfl rfl (s_callD rfl cl_scope_need (.cons rfl (Wk.refl _) (.cons rfl (Wk.refl _) .nil)) (specX_inr (lg_scope_need _ _ _ hr_61))) ?_
       refine r_end ?_
       refine g_sub [(0, .ptr (enc_S_api_Rule t0_a0)), (1, .ptr (.lst (t1_a1.map enc_S_api_Decl)))] (Sub.cons' rfl (Sub.cons' rfl (Sub.nil _))) ?_
       exact HKJ0 _ _ ⟨rfl, rfl, hr⟩
     ·
      refine r_skip rfl rfl rfl ?_
      refine r_skip rfl rfl rfl ?_
      refine r_skip rfl rfl rfl ?_
      refine r_skip rfl rfl rfl ?_
      refine r_d rfl rfl rfl (s_pickF rfl rfl rfl) ?_
      rcases bindXS hr with ⟨c_r_62, hr_62, rfl⟩ | ⟨r_62, hr_62, hr⟩
      ·
       refine r_die rfl rfl (s_callX _ rfl cl_scope_need (.cons rfl (Wk.refl _) (.cons rfl (Wk.refl _) .nil)) (by exact (List.Perm.refl _)) (specX_inl (lg_scope_need _ _ _ hr_62))) (hX _ ⟨_, rfl, rfl⟩)
      ·
       refine r_d rfl rfl rfl (s_callD rfl cl_scope_need (.cons rfl (Wk.refl _) (.cons rfl (Wk.refl _) .nil)) (specX_inr (lg_scope_need _ _ _ hr_62))) ?_
       refine r_end ?_
       refine g_sub [(0, .ptr (enc_S_api_Rule t0_a0)), (1, .ptr (.lst (t1_a1.map enc_S_api_Decl)))] (Sub.cons' rfl (Sub.cons' rfl (Sub.nil _))) ?_
       exact HKJ0 _ _ ⟨rfl, rfl, hr⟩
    ·
     refine r_skip rfl rfl rfl ?_
     refine r_skip rfl rfl rfl ?_
     refine r_skip rfl rfl rfl ?_
     refine r_skip rfl rfl rfl ?_
     refine r_d rfl rfl rfl (s_pickF rfl rfl rfl) ?_
     refine r_d rfl rfl rfl (s_move rfl rfl) ?_
     refine r_skip rfl rfl rfl ?_
     refine r_skip rfl rfl rfl ?_
     refine r_skip rfl rfl rfl ?_
     refine r_skip rfl rfl rfl ?_
     refine r_d rfl rfl rfl (s_pickF rfl rfl rfl) ?_
     rcases bindXS hr with ⟨c_r_63, hr_63, rfl⟩ | ⟨r_63, hr_63, hr⟩
     ·
      refine r_die rfl rfl (s_callX _ rfl cl_scope_need (.cons rfl (Wk.refl _) (.cons rfl (Wk.refl _) .nil)) (by exact (List.Perm.refl _)) (specX_inl (lg_scope_need _ _ _ hr_63))) (hX _ ⟨_, rfl, rfl⟩)
     ·
      refine r_d rfl rfl rfl (s_callD rfl cl_scope_need (.cons rfl (Wk.refl _) (.cons rfl (Wk.refl _) .nil)) (specX_inr (lg_scope_need _ _ _ hr_63))) ?_
      refine r_end ?_
      refine g_sub [(0, .ptr (enc_S_api_Rule t0_a0)), (1, .ptr (.lst (t1_a1.map enc_S_api_Decl)))] (Sub.cons' rfl (Sub.cons' rfl (Sub.nil _))) ?_
      exact HKJ0 _ _ ⟨rfl, rfl, hr⟩
   ·
    refine r_skip rfl rfl rfl ?_
    refine r_skip rfl rfl rfl ?_
    refine r_d rfl rfl rfl (s_pickF rfl rfl rfl) ?_
    refine r_d rfl rfl rfl (s_move rfl rfl) ?_
    refine r_skip rfl rfl rfl ?_
    refine r_skip rfl rfl rfl ?_
    refine r_skip rfl rfl rfl ?_
    refine r_skip rfl rfl rfl ?_
    refine r_d rfl rfl rfl (s_pickF rfl rfl rfl) ?_
    refine r_d rfl rfl rfl (s_move rfl rfl) ?_
    refine r_skip rfl rfl rfl ?_
    refine r_skip rfl rfl rfl ?_
    refine r_skip rfl rfl rfl ?_
    refine r_skip rfl rfl rfl ?_
    refine r_d rfl rfl rfl (s_pickF rfl rfl rfl) ?_
    rcases bindXS hr with ⟨c_r_64, hr_64, rfl⟩ | ⟨r_64, hr_64, hr⟩
    ·
     refine r_die rfl rfl (s_callX _ rfl cl_scope_need (.cons rfl (Wk.refl _) (.cons rfl (Wk.refl _) .nil)) (by exact (List.Perm.refl _)) (specX_inl (lg_scope_need _ _ _ hr_64))) (hX _ ⟨_, rfl, rfl⟩)
    ·
     refine r_d rfl rfl rfl (s_callD rfl cl_scope_need (.cons rfl (Wk.refl _) (.cons rfl (Wk.refl _) .nil)) (specX_inr (lg_scope_need _ _ _ hr_64))) ?_
     refine r_end ?_
     refine g_sub [(0, .ptr (enc_S_api_Rule t0_a0)), (1, .ptr (.lst (t1_a1.map enc_S_api_Decl)))] (Sub.cons' rfl (Sub.cons' rfl (Sub.nil _))) ?_
     exact HKJ0 _ _ ⟨rfl, rfl, hr⟩

noncomputable def lf_scope_CheckRule (decls_a0 : (List S_api_Decl)) (r_a1 : S_api_Rule) : Option (Int) :=
  ((lf_scope_CheckRule_1 r_a1 decls_a0).bind fun r_1 =>
  some ((caughtV r_1)))

set_option maxHeartbeats 1000000 in
theorem lg_scope_CheckRule (decls_a0 : (List S_api_Decl)) (r_a1 : S_api_Rule) (res : Int) (hr : lf_scope_CheckRule decls_a0 r_a1 = some res) : Gives Try.prog 13 [.lst (decls_a0.map enc_S_api_Decl), enc_S_api_Rule r_a1] (.int .i64 res) := by
  unfold lf_scope_CheckRule at hr
  refine spec_env [(0, .lst (decls_a0.map enc_S_api_Decl)), (1, enc_S_api_Rule r_a1)] Try.func13 rfl rfl fun K hK => ?_
  refine g_seq ?_
  refine g_run (by kernel_rfl) [(0, .d), (1, .d), (2, .d)] rfl ?_
  refine r_d rfl rfl rfl (s_box rfl rfl rfl) ?_
  refine r_d rfl rfl rfl (s_box rfl rfl rfl) ?_
  refine r_d rfl rfl rfl (s_assign rfl rfl) ?_
  refine r_end ?_
  refine g_seq ?_
  refine g_run (by kernel_rfl) [(0, .d), (1, .d), (2, .d)] rfl ?_
  refine r_d rfl rfl rfl (s_makeFunc rfl rfl rfl) ?_
  obtain ⟨r_1, hr_1, hr⟩ := bindS hr
  refine r_d rfl rfl rfl (s_callD rfl cl_scope_caught (.cons rfl (Wk.refl _) .nil) (caught_gives rfl cl_scope_CheckRule_1 (lg_scope_CheckRule_1 _ _ _ hr_1))) ?_
  refine r_d rfl rfl rfl (s_assign rfl rfl) ?_
  refine r_end ?_
  obtain rfl := Option.some.inj hr
  refine g_ret Try.func13 _ (.cons (resTmp rfl (Wk.refl _)) .nil) ?_
  rfl

noncomputable def lf_scope_Check_L0 (k : Option (Int × Int)) (p_a0 : S_api_Program) : List S_api_Rule → Nat → Option (Int × Int)
  | [], i_3 =>
  k
  | q_4 :: rest, i_3 =>
  ((lf_scope_CheckRule p_a0.f0_Decls q_4).bind fun r_5 =>
  (bif (r_5 != (0 : Int)) then
  some ((i_3 : Int), r_5)
  else
  (lf_scope_Check_L0 k p_a0 rest (i_3 + 1))))
noncomputable def lf_scope_Check (p_a0 : S_api_Program) : Option (Int × Int) :=
  ((lf_scope_Check_1 p_a0).bind fun r_1 =>
  (bif ((caughtV r_1) != (0 : Int)) then
  some ((-1), (caughtV r_1))
  else
  (lf_scope_Check_L0 (some (0, 0)) p_a0 p_a0.f1_Rules 0)))

end Go.Proofs.Ytgndcnknmkcacaa

