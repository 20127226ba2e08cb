/-
  Texts of the seat, merged.
-/
import Derived.Test.YthcgefbigimgoaaLAA
import Derived.Test.YthcgefbigimgoaaLAB
import Derived.Test.YthcgefbigimgoaaLAC
import Derived.Test.YthcgefbigimgoaaLAD
import Derived.Test.YthcgefbigimgoaaLAE
import Derived.Test.YthcgefbigimgoaaLAF
import Derived.Test.YthcgefbigimgoaaLAG
import Derived.Test.YthcgefbigimgoaaChecked
import Derived.WalkKit
import Derived.Lib.Hide
import Derived.Lib.AppendStr
import Derived.Deep.AppendLies
import Derived.Deep.AppendSrc
import Derived.Deep.Draws
import Derived.Deep.QuietTactic
import Derived.BigQuiet
import Derived.Deep.RegionWith
import Derived.Maps.AppendAt
import Derived.WalkSpells
import Derived.Orders
import Derived.Deep.Slices
import Derived.Deep.Fields
import Derived.ChangeArms
import Derived.Lib.OthersKept
import Derived.Lib.TrimU
import Derived.Lib.IndexAny
import Derived.Deep.LoopGhost
import Derived.Lib.Bytealg
import Derived.RangeFuncBox
import Derived.RangeFuncNested
import Derived.RangeFuncBound
import Derived.RangeFuncCalls
import Derived.RangeFuncLeaves
import Derived.Shelf.Abstract
import Derived.OwnWalkIn
import Derived.TacticsInMore
import Derived.LoopNIn
import Derived.LoopIn
import Derived.RangeFuncWrites
import Derived.Maps.OwnIn
import Derived.Maps.Views
import Derived.Laws.OwnMore
import Derived.Maps.OwnSet
import Derived.Test.YthcgefbigimgoaaRows
import Derived.ProofKit
import Derived.OpenShut
import Derived.Carry
import Derived.Great.BuildSlice
import Derived.ArgAppend
import Derived.Laws.MakeOwn
import Derived.Laws.Cover3
import Derived.Laws.CopyRow
import Derived.MapKept
import Derived.Maps.RangeRun
set_option linter.unusedVariables false
set_option linter.unusedSimpArgs false
set_option linter.unnecessarySimpa false
set_option linter.all false

namespace Go.Proofs.Ythcgefbigimgoaa
set_option maxRecDepth 100000
open Go.RowKit

set_option maxHeartbeats 1000000 in
theorem lg_constraintlaw23_tiny (l_a0 : (List T)) (res : Bool) (hr : lf_constraintlaw23_tiny l_a0 = some res) : Gives Try.prog 45 [.lst (l_a0.map encT)] (.bool res) := by
  unfold lf_constraintlaw23_tiny at hr
  refine spec_env [(0, .lst (l_a0.map encT))] Try.func45 rfl rfl fun K hK => ?_
  refine g_seq ?_
  refine g_run (by kernel_rfl) [(0, .d)] rfl ?_
  refine r_d rfl rfl rfl (s_assign rfl rfl) ?_
  refine r_end ?_
  refine g_seq ?_
  refine g_seq ?_
  refine g_run (by kernel_rfl) [(0, .d), (1, .d), (2, .d)] rfl ?_
  refine r_d rfl rfl rfl (s_move rfl rfl) ?_
  refine r_d rfl rfl rfl (m_len (f := encT) l_a0 rfl el_L_api_Term rfl (asl rfl)) ?_
  refine r_d rfl rfl rfl (s_cmp rfl rfl rfl rfl) ?_
  refine r_end ?_
  refine g_sB 7 rfl hr (fun h7_0 hr => ?_) (fun h7_0 hr => ?_)
  ·
    refine g_condT rfl ?_
    refine g_seq ?_
    refine g_run (by kernel_rfl) [(0, .d)] rfl ?_
    refine r_d rfl rfl rfl (s_assign rfl rfl) ?_
    refine r_end ?_
    obtain rfl := Option.some.inj hr
    refine g_ret Try.func45 _ (.cons (resTmp rfl (Wk.refl _)) .nil) ?_
    rfl
  ·
    refine g_condF rfl ?_
    refine g_skip ?_
    refine g_seq ?_
    refine g_run (by kernel_rfl) [(0, .d)] rfl ?_
    refine r_d rfl rfl rfl (s_assign rfl rfl) ?_
    refine r_end ?_
    refine g_seq ?_
    refine g_seq ?_
    refine g_run (by kernel_rfl) [(0, .d)] rfl ?_
    refine r_d rfl rfl rfl (s_assign rfl rfl) ?_
    refine r_end ?_
    obtain ⟨kk0, hkk0, hr⟩ := exK (fun k => lf_constraintlaw23_tiny_L0 k l_a0 0) hr
    refine g_len 0 rfl (asl rfl) fun hla0 => ?_
    simp only [List.length_map] at hla0
    refine g_blockJ (fun env σ => env = [] ∧ σ = [] ∧ kk0 = some res) ?_ (fun HK0 => ?_)
    ·
      rintro _ _ ⟨rfl, rfl, hr⟩
      rw [hkk0] at hr
      refine g_seq ?_
      refine g_run (by kernel_rfl) [(0, .d)] rfl ?_
      refine r_d rfl rfl rfl (s_assign rfl rfl) ?_
      refine r_end ?_
      obtain rfl := Option.some.inj hr
      refine g_ret Try.func45 _ (.cons (resTmp rfl (Wk.refl _)) .nil) ?_
      rfl
    ·
      refine g_sub [(0, .lst (l_a0.map encT)), (3, .int .i64 0), (4, .int .i64 ((0 : Nat) : Int))] (Sub.cons' rfl (Sub.cons' rfl (Sub.cons' rfl (Sub.nil _)))) ?_
      refine g_loop (fun n env σ => ∃ (n_2 : Int) (i_3 : Nat), (n = l_a0.length - i_3) ∧ (env = [(0, .lst (l_a0.map encT)), (3, .int .i64 n_2), (4, .int .i64 (i_3 : Int))]) ∧ (σ = []) ∧ (i_3 ≤ l_a0.length) ∧ (lf_constraintlaw23_tiny_L0 kk0 (l_a0.drop i_3) n_2 = some res)) _ ⟨0, 0, rfl, rfl, rfl, Nat.zero_le _, hr⟩ ?_
      rintro n _ _ ⟨n_2, i_3, rfl, rfl, rfl, hi0, hr⟩ IH0
      rcases listStep l_a0 i_3 hi0 with ⟨ht0, hd0, he0⟩ | ⟨q_4, ht0, hd0, hq0, hlt0⟩
      ·
        rw [hd0, lf_constraintlaw23_tiny_L0] at hr
        refine g_seq ?_
        refine g_seq ?_
        refine g_run (by kernel_rfl) [(0, .d), (1, .d), (2, .d), (3, .d)] rfl ?_
        refine r_d rfl rfl rfl (s_move rfl rfl) ?_
        refine r_d rfl rfl rfl (s_move rfl rfl) ?_
        refine r_d rfl rfl rfl (m_len (f := encT) l_a0 rfl el_L_api_Term rfl (asl rfl)) ?_
        refine r_d rfl rfl rfl (s_cmp rfl rfl rfl rfl) ?_
        refine r_end ?_
        refine g_known 11 false rfl ht0 ?_
        refine g_condF rfl ?_
        refine g_exit rfl ?_
        refine g_sub [] (Sub.nil _) ?_
        exact HK0 _ _ ⟨rfl, rfl, hr⟩
      ·
        rw [hd0, lf_constraintlaw23_tiny_L0] at hr
        refine g_seq ?_
        refine g_seq ?_
        refine g_run (by kernel_rfl) [(0, .d), (1, .d), (2, .d), (3, .d)] rfl ?_
        refine r_d rfl rfl rfl (s_move rfl rfl) ?_
        refine r_d rfl rfl rfl (s_move rfl rfl) ?_
        refine r_d rfl rfl rfl (m_len (f := encT) l_a0 rfl el_L_api_Term rfl (asl rfl)) ?_
        refine r_d rfl rfl rfl (s_cmp rfl rfl rfl rfl) ?_
        refine r_end ?_
        refine g_known 11 true rfl ht0 ?_
        refine g_condT rfl ?_
        refine g_skip ?_
        refine g_seq ?_
        refine g_block ?_
        refine g_seq ?_
        refine g_run (by kernel_rfl) [(0, .d), (1, .d), (2, .d), (3, .d), (4, .d), (5, .d), (6, .d), (7, .d)] rfl ?_
        refine r_d rfl rfl rfl (s_move rfl rfl) ?_
        refine r_d rfl rfl rfl (s_move rfl rfl) ?_
        refine r_d rfl rfl rfl (s_move rfl rfl) ?_
        refine r_d rfl rfl rfl (m_index (f := encT) l_a0 rfl el_L_api_Term rfl (asl rfl) rfl hq0 sz_encT rfl) ?_
        refine r_d rfl rfl rfl (s_load rfl rfl (by exact ty_api_Term) (sz_encT _)) ?_
        obtain ⟨r_5, hr_5, hr⟩ := bindS hr
        refine r_d rfl rfl rfl (s_callD rfl cl_constraintref03_Size (.cons rfl (Wk.refl _) .nil) (lx_constraintref03_Size _ _ hr_5)) ?_
        refine r_d rfl rfl rfl (s_arW rfl rfl rfl rfl) ?_
        refine r_d rfl rfl rfl (s_assign rfl rfl) ?_
        refine r_end ?_
        refine g_seq ?_
        refine g_run (by kernel_rfl) [(0, .d), (1, .d)] rfl ?_
        refine r_d rfl rfl rfl (s_move rfl rfl) ?_
        refine r_d rfl rfl rfl (s_cmp rfl rfl rfl rfl) ?_
        refine r_end ?_
        refine g_sB 22 rfl hr (fun h22_5 hr => ?_) (fun h22_5 hr => ?_)
        ·
          refine g_condT rfl ?_
          refine g_seq ?_
          refine g_run (by kernel_rfl) [(0, .d)] rfl ?_
          refine r_d rfl rfl rfl (s_assign rfl rfl) ?_
          refine r_end ?_
          obtain rfl := Option.some.inj hr
          refine g_ret Try.func45 _ (.cons (resTmp rfl (Wk.refl _)) .nil) ?_
          rfl
        ·
          refine g_condF rfl ?_
          refine g_skip ?_
          refine g_inBlock ?_
          refine g_run (by kernel_rfl) [(0, .d), (1, .d), (2, .d)] rfl ?_
          refine r_d rfl rfl rfl (s_move rfl rfl) ?_
          refine r_d rfl rfl rfl (s_ar (r := ((i_3 + 1 : Nat) : Int)) rfl rfl rfl (by simp [iar]) (by omega)) ?_
          refine r_d rfl rfl rfl (s_assign rfl rfl) ?_
          refine r_end ?_
          refine g_sub [(0, .lst (l_a0.map encT)), (3, .int .i64 (wr (n_2 + r_5))), (4, .int .i64 ((i_3 + 1 : Nat) : Int))] (Sub.cons' rfl (Sub.cons' rfl (Sub.cons' rfl (Sub.nil _)))) ?_
          exact IH0 _ _ _ (by omega) ⟨(wr (n_2 + r_5)), (i_3 + 1), rfl, rfl, rfl, (by omega), hr⟩

noncomputable def lf_constraintlaw23_Atoms_L0 (k : Option (Bool)) : List At → Option (Bool)
  | [] =>
  k
  | q_2 :: rest =>
  ((lf_constraintlaw23_tiny q_2.ts).bind fun r_3 =>
  (bif (!r_3) then
  some (false)
  else
  (lf_constraintlaw23_Atoms_L0 k rest)))
noncomputable def lf_constraintlaw23_Atoms (l_a0 : (List At)) : Option (Bool) :=
  (lf_constraintlaw23_Atoms_L0 (some (true)) l_a0)

set_option maxHeartbeats 1000000 in
theorem lg_constraintlaw23_Atoms (l_a0 : (List At)) (res : Bool) (hr : lf_constraintlaw23_Atoms l_a0 = some res) : Gives Try.prog 33 [.lst (l_a0.map encA)] (.bool res) := by
  unfold lf_constraintlaw23_Atoms at hr
  refine spec_env [(0, .lst (l_a0.map encA))] Try.func33 rfl rfl fun K hK => ?_
  refine g_seq ?_
  refine g_run (by kernel_rfl) [(0, .d)] rfl ?_
  refine r_d rfl rfl rfl (s_assign rfl rfl) ?_
  refine r_end ?_
  refine g_seq ?_
  refine g_seq ?_
  refine g_run (by kernel_rfl) [(0, .d)] rfl ?_
  refine r_d rfl rfl rfl (s_assign rfl rfl) ?_
  refine r_end ?_
  obtain ⟨kk0, hkk0, hr⟩ := exK (fun k => lf_constraintlaw23_Atoms_L0 k l_a0) hr
  refine g_len 0 rfl (asl rfl) fun hla0 => ?_
  simp only [List.length_map] at hla0
  refine g_blockJ (fun env σ => env = [] ∧ σ = [] ∧ kk0 = some res) ?_ (fun HK0 => ?_)
  ·
    rintro _ _ ⟨rfl, rfl, hr⟩
    rw [hkk0] at hr
    refine g_seq ?_
    refine g_run (by kernel_rfl) [(0, .d)] rfl ?_
    refine r_d rfl rfl rfl (s_assign rfl rfl) ?_
    refine r_end ?_
    obtain rfl := Option.some.inj hr
    refine g_ret Try.func33 _ (.cons (resTmp rfl (Wk.refl _)) .nil) ?_
    rfl
  ·
    refine g_sub [(0, .lst (l_a0.map encA)), (3, .int .i64 ((0 : Nat) : Int))] (Sub.cons' rfl (Sub.cons' rfl (Sub.nil _))) ?_
    refine g_loop (fun n env σ => ∃ (i_1 : Nat), (n = l_a0.length - i_1) ∧ (env = [(0, .lst (l_a0.map encA)), (3, .int .i64 (i_1 : Int))]) ∧ (σ = []) ∧ (i_1 ≤ l_a0.length) ∧ (lf_constraintlaw23_Atoms_L0 kk0 (l_a0.drop i_1) = some res)) _ ⟨0, rfl, rfl, rfl, Nat.zero_le _, hr⟩ ?_
    rintro n _ _ ⟨i_1, rfl, rfl, rfl, hi0, hr⟩ IH0
    rcases listStep l_a0 i_1 hi0 with ⟨ht0, hd0, he0⟩ | ⟨q_2, ht0, hd0, hq0, hlt0⟩
    ·
      rw [hd0, lf_constraintlaw23_Atoms_L0] at hr
      refine g_seq ?_
      refine g_seq ?_
      refine g_run (by kernel_rfl) [(0, .d), (1, .d), (2, .d), (3, .d)] rfl ?_
      refine r_d rfl rfl rfl (s_move rfl rfl) ?_
      refine r_d rfl rfl rfl (s_move rfl rfl) ?_
      refine r_d rfl rfl rfl (m_len (f := encA) l_a0 rfl el_L_api_Atom rfl (asl rfl)) ?_
      refine r_d rfl rfl rfl (s_cmp rfl rfl rfl rfl) ?_
      refine r_end ?_
      refine g_known 7 false rfl ht0 ?_
      refine g_condF rfl ?_
      refine g_exit rfl ?_
      refine g_sub [] (Sub.nil _) ?_
      exact HK0 _ _ ⟨rfl, rfl, hr⟩
    ·
      rw [hd0, lf_constraintlaw23_Atoms_L0] at hr
      refine g_seq ?_
      refine g_seq ?_
      refine g_run (by kernel_rfl) [(0, .d), (1, .d), (2, .d), (3, .d)] rfl ?_
      refine r_d rfl rfl rfl (s_move rfl rfl) ?_
      refine r_d rfl rfl rfl (s_move rfl rfl) ?_
      refine r_d rfl rfl rfl (m_len (f := encA) l_a0 rfl el_L_api_Atom rfl (asl rfl)) ?_
      refine r_d rfl rfl rfl (s_cmp rfl rfl rfl rfl) ?_
      refine r_end ?_
      refine g_known 7 true rfl ht0 ?_
      refine g_condT rfl ?_
      refine g_skip ?_
      refine g_seq ?_
      refine g_block ?_
      refine g_seq ?_
      refine g_run (by kernel_rfl) [(0, .d), (1, .d), (2, .d), (3, .d), (4, .d), (5, .d), (6, .d)] rfl ?_
      refine r_d rfl rfl rfl (s_move rfl rfl) ?_
      refine r_d rfl rfl rfl (s_move rfl rfl) ?_
      refine r_d rfl rfl rfl (m_index (f := encA) l_a0 rfl el_L_api_Atom rfl (asl rfl) rfl hq0 sz_encA rfl) ?_
      refine r_d rfl rfl rfl (s_fieldAddr rfl fl_api_Atom_1 rfl rfl rfl rfl) ?_
      refine r_d rfl rfl rfl (s_load rfl rfl (by exact ty_L_api_Term) rfl) ?_
      obtain ⟨r_3, hr_3, hr⟩ := bindS hr
      refine r_d rfl rfl rfl (s_callD rfl cl_constraintlaw23_tiny (.cons rfl (Wk.refl _) .nil) (lg_constraintlaw23_tiny _ _ hr_3)) ?_
      refine r_d rfl rfl rfl (s_not rfl rfl) ?_
      refine r_end ?_
      refine g_sB 16 rfl hr (fun h16_3 hr => ?_) (fun h16_3 hr => ?_)
      ·
        refine g_condT rfl ?_
        refine g_seq ?_
        refine g_run (by kernel_rfl) [(0, .d)] rfl ?_
        refine r_d rfl rfl rfl (s_assign rfl rfl) ?_
        refine r_end ?_
        obtain rfl := Option.some.inj hr
        refine g_ret Try.func33 _ (.cons (resTmp rfl (Wk.refl _)) .nil) ?_
        rfl
      ·
        refine g_condF rfl ?_
        refine g_skip ?_
        refine g_inBlock ?_
        refine g_run (by kernel_rfl) [(0, .d), (1, .d), (2, .d)] rfl ?_
        refine r_d rfl rfl rfl (s_move rfl rfl) ?_
        refine r_d rfl rfl rfl (s_ar (r := ((i_1 + 1 : Nat) : Int)) rfl rfl rfl (by simp [iar]) (by omega)) ?_
        refine r_d rfl rfl rfl (s_assign rfl rfl) ?_
        refine r_end ?_
        refine g_sub [(0, .lst (l_a0.map encA)), (3, .int .i64 ((i_1 + 1 : Nat) : Int))] (Sub.cons' rfl (Sub.cons' rfl (Sub.nil _))) ?_
        exact IH0 _ _ _ (by omega) ⟨(i_1 + 1), rfl, rfl, rfl, (by omega), hr⟩

noncomputable def lf_constraintlaw23_Goals_L0 (k : Option (Bool)) : List Gl → Option (Bool)
  | [] =>
  k
  | q_3 :: rest =>
  ((lf_constraintlaw23_tiny q_3.ts).bind fun r_4 =>
  (bif (!r_4) then
  some (false)
  else
  (lf_constraintlaw23_Goals_L0 k rest)))
noncomputable def lf_constraintlaw23_Goals (l_a0 : (List Gl)) (most_a1 : Int) : Option (Bool) :=
  (bif (decide ((l_a0.length : Int) > most_a1)) then
  some (false)
  else
  (lf_constraintlaw23_Goals_L0 (some (true)) l_a0))

set_option maxHeartbeats 1000000 in
theorem lg_constraintlaw23_Goals (l_a0 : (List Gl)) (most_a1 : Int) (res : Bool) (hr : lf_constraintlaw23_Goals l_a0 most_a1 = some res) : Gives Try.prog 34 [.lst (l_a0.map encG), .int .i64 most_a1] (.bool res) := by
  unfold lf_constraintlaw23_Goals at hr
  refine spec_env [(0, .lst (l_a0.map encG)), (1, .int .i64 most_a1)] Try.func34 rfl rfl fun K hK => ?_
  refine g_seq ?_
  refine g_run (by kernel_rfl) [(0, .d)] rfl ?_
  refine r_d rfl rfl rfl (s_assign rfl rfl) ?_
  refine r_end ?_
  refine g_seq ?_
  refine g_seq ?_
  refine g_run (by kernel_rfl) [(0, .d), (1, .d), (2, .d), (3, .d)] rfl ?_
  refine r_d rfl rfl rfl (s_move rfl rfl) ?_
  refine r_d rfl rfl rfl (m_len (f := encG) l_a0 rfl el_L_api_Goal rfl (asl rfl)) ?_
  refine r_d rfl rfl rfl (s_move rfl rfl) ?_
  refine r_d rfl rfl rfl (s_cmp rfl rfl rfl rfl) ?_
  refine r_end ?_
  refine g_sB 9 rfl hr (fun h9_0 hr => ?_) (fun h9_0 hr => ?_)
  ·
    refine g_condT rfl ?_
    refine g_seq ?_
    refine g_run (by kernel_rfl) [(0, .d)] rfl ?_
    refine r_d rfl rfl rfl (s_assign rfl rfl) ?_
    refine r_end ?_
    obtain rfl := Option.some.inj hr
    refine g_ret Try.func34 _ (.cons (resTmp rfl (Wk.refl _)) .nil) ?_
    rfl
  ·
    refine g_condF rfl ?_
    refine g_skip ?_
    refine g_seq ?_
    refine g_seq ?_
    refine g_run (by kernel_rfl) [(0, .d)] rfl ?_
    refine r_d rfl rfl rfl (s_assign rfl rfl) ?_
    refine r_end ?_
    obtain ⟨kk0, hkk0, hr⟩ := exK (fun k => lf_constraintlaw23_Goals_L0 k l_a0) hr
    refine g_len 0 rfl (asl rfl) fun hla0 => ?_
    simp only [List.length_map] at hla0
    refine g_blockJ (fun env σ => env = [] ∧ σ = [] ∧ kk0 = some res) ?_ (fun HK0 => ?_)
    ·
      rintro _ _ ⟨rfl, rfl, hr⟩
      rw [hkk0] at hr
      refine g_seq ?_
      refine g_run (by kernel_rfl) [(0, .d)] rfl ?_
      refine r_d rfl rfl rfl (s_assign rfl rfl) ?_
      refine r_end ?_
      obtain rfl := Option.some.inj hr
      refine g_ret Try.func34 _ (.cons (resTmp rfl (Wk.refl _)) .nil) ?_
      rfl
    ·
      refine g_sub [(0, .lst (l_a0.map encG)), (5, .int .i64 ((0 : Nat) : Int))] (Sub.cons' rfl (Sub.cons' rfl (Sub.nil _))) ?_
      refine g_loop (fun n env σ => ∃ (i_2 : Nat), (n = l_a0.length - i_2) ∧ (env = [(0, .lst (l_a0.map encG)), (5, .int .i64 (i_2 : Int))]) ∧ (σ = []) ∧ (i_2 ≤ l_a0.length) ∧ (lf_constraintlaw23_Goals_L0 kk0 (l_a0.drop i_2) = some res)) _ ⟨0, rfl, rfl, rfl, Nat.zero_le _, hr⟩ ?_
      rintro n _ _ ⟨i_2, rfl, rfl, rfl, hi0, hr⟩ IH0
      rcases listStep l_a0 i_2 hi0 with ⟨ht0, hd0, he0⟩ | ⟨q_3, ht0, hd0, hq0, hlt0⟩
      ·
        rw [hd0, lf_constraintlaw23_Goals_L0] at hr
        refine g_seq ?_
        refine g_seq ?_
        refine g_run (by kernel_rfl) [(0, .d), (1, .d), (2, .d), (3, .d)] rfl ?_
        refine r_d rfl rfl rfl (s_move rfl rfl) ?_
        refine r_d rfl rfl rfl (s_move rfl rfl) ?_
        refine r_d rfl rfl rfl (m_len (f := encG) l_a0 rfl el_L_api_Goal rfl (asl rfl)) ?_
        refine r_d rfl rfl rfl (s_cmp rfl rfl rfl rfl) ?_
        refine r_end ?_
        refine g_known 13 false rfl ht0 ?_
        refine g_condF rfl ?_
        refine g_exit rfl ?_
        refine g_sub [] (Sub.nil _) ?_
        exact HK0 _ _ ⟨rfl, rfl, hr⟩
      ·
        rw [hd0, lf_constraintlaw23_Goals_L0] at hr
        refine g_seq ?_
        refine g_seq ?_
        refine g_run (by kernel_rfl) [(0, .d), (1, .d), (2, .d), (3, .d)] rfl ?_
        refine r_d rfl rfl rfl (s_move rfl rfl) ?_
        refine r_d rfl rfl rfl (s_move rfl rfl) ?_
        refine r_d rfl rfl rfl (m_len (f := encG) l_a0 rfl el_L_api_Goal rfl (asl rfl)) ?_
        refine r_d rfl rfl rfl (s_cmp rfl rfl rfl rfl) ?_
        refine r_end ?_
        refine g_known 13 true rfl ht0 ?_
        refine g_condT rfl ?_
        refine g_skip ?_
        refine g_seq ?_
        refine g_block ?_
        refine g_seq ?_
        refine g_run (by kernel_rfl) [(0, .d), (1, .d), (2, .d), (3, .d), (4, .d), (5, .d), (6, .d)] rfl ?_
        refine r_d rfl rfl rfl (s_move rfl rfl) ?_
        refine r_d rfl rfl rfl (s_move rfl rfl) ?_
        refine r_d rfl rfl rfl (m_index (f := encG) l_a0 rfl el_L_api_Goal rfl (asl rfl) rfl hq0 sz_encG rfl) ?_
        refine r_d rfl rfl rfl (s_fieldAddr rfl fl_api_Goal_2 rfl rfl rfl rfl) ?_
        refine r_d rfl rfl rfl (s_load rfl rfl (by exact ty_L_api_Term) rfl) ?_
        obtain ⟨r_4, hr_4, hr⟩ := bindS hr
        refine r_d rfl rfl rfl (s_callD rfl cl_constraintlaw23_tiny (.cons rfl (Wk.refl _) .nil) (lg_constraintlaw23_tiny _ _ hr_4)) ?_
        refine r_d rfl rfl rfl (s_not rfl rfl) ?_
        refine r_end ?_
        refine g_sB 22 rfl hr (fun h22_4 hr => ?_) (fun h22_4 hr => ?_)
        ·
          refine g_condT rfl ?_
          refine g_seq ?_
          refine g_run (by kernel_rfl) [(0, .d)] rfl ?_
          refine r_d rfl rfl rfl (s_assign rfl rfl) ?_
          refine r_end ?_
          obtain rfl := Option.some.inj hr
          refine g_ret Try.func34 _ (.cons (resTmp rfl (Wk.refl _)) .nil) ?_
          rfl
        ·
          refine g_condF rfl ?_
          refine g_skip ?_
          refine g_inBlock ?_
          refine g_run (by kernel_rfl) [(0, .d), (1, .d), (2, .d)] rfl ?_
          refine r_d rfl rfl rfl (s_move rfl rfl) ?_
          refine r_d rfl rfl rfl (s_ar (r := ((i_2 + 1 : Nat) : Int)) rfl rfl rfl (by simp [iar]) (by omega)) ?_
          refine r_d rfl rfl rfl (s_assign rfl rfl) ?_
          refine r_end ?_
          refine g_sub [(0, .lst (l_a0.map encG)), (5, .int .i64 ((i_2 + 1 : Nat) : Int))] (Sub.cons' rfl (Sub.cons' rfl (Sub.nil _))) ?_
          exact IH0 _ _ _ (by omega) ⟨(i_2 + 1), rfl, rfl, rfl, (by omega), hr⟩

noncomputable def lf_constraintlaw23_Programs_L0 (k : Option (Bool)) : List S_api_Rule → Option (Bool)
  | [] =>
  k
  | q_4 :: rest =>
  (bif (decide ((q_4.f1_Keep.length : Int) > (3 : Int))) then
  some (false)
  else
  (bif (decide ((q_4.f2_Remove.length : Int) > (3 : Int))) then
  some (false)
  else
  (bif (decide ((wr ((q_4.f1_Keep.length : Int) + (q_4.f2_Remove.length : Int))) > (3 : Int))) then
  some (false)
  else
  (bif (decide ((q_4.f3_Guard.length : Int) > (6 : Int))) then
  some (false)
  else
  (bif (decide ((q_4.f4_Body.length : Int) > (6 : Int))) then
  some (false)
  else
  ((lf_constraintlaw23_Atoms q_4.f1_Keep).bind fun r_11 =>
  (bif (!r_11) then
  some (false)
  else
  ((lf_constraintlaw23_Atoms q_4.f2_Remove).bind fun r_13 =>
  (bif (!r_13) then
  some (false)
  else
  ((lf_constraintlaw23_Goals q_4.f3_Guard 6).bind fun r_15 =>
  (bif (!r_15) then
  some (false)
  else
  ((lf_constraintlaw23_Goals q_4.f4_Body 6).bind fun r_17 =>
  (bif (!r_17) then
  some (false)
  else
  (lf_constraintlaw23_Programs_L0 k rest))))))))))))))
noncomputable def lf_constraintlaw23_Programs (p_a0 : S_api_Program) : Option (Bool) :=
  (bif (decide ((p_a0.f0_Decls.length : Int) > (12 : Int))) then
  some (false)
  else
  (bif (decide ((p_a0.f1_Rules.length : Int) > (8 : Int))) then
  some (false)
  else
  (lf_constraintlaw23_Programs_L0 (some (true)) p_a0.f1_Rules)))

set_option maxHeartbeats 1000000 in
theorem lg_constraintlaw23_Programs (p_a0 : S_api_Program) (res : Bool) (hr : lf_constraintlaw23_Programs p_a0 = some res) : Gives Try.prog 19 [enc_S_api_Program p_a0] (.bool res) := by
  unfold lf_constraintlaw23_Programs at hr
  refine spec_env [(0, enc_S_api_Program p_a0)] Try.func19 rfl rfl fun K hK => ?_
  refine g_seq ?_
  refine g_run (by kernel_rfl) [(0, .d), (1, .d)] rfl ?_
  refine r_d rfl rfl rfl (s_box rfl rfl rfl) ?_
  refine r_d rfl rfl rfl (s_assign rfl rfl) ?_
  refine r_end ?_
  refine g_seq ?_
  refine g_seq ?_
  refine g_run (by kernel_rfl) [(0, .d), (1, .d), (2, .d), (3, .d), (4, .d), (5, .d), (6, .d), (7, .d), (8, .d), (9, .d)] rfl ?_
  refine r_d rfl rfl rfl (s_fieldAddr rfl fl_api_Program_0 rfl rfl rfl rfl) ?_
  refine r_d rfl rfl rfl (s_load rfl rfl (by exact ty_L_api_Decl) rfl) ?_
  refine r_d rfl rfl rfl (m_len (f := enc_S_api_Decl) p_a0.f0_Decls rfl el_L_api_Decl rfl (asl rfl)) ?_
  refine r_d rfl rfl rfl (s_cmp rfl rfl rfl rfl) ?_
  refine r_d rfl rfl rfl (s_move rfl rfl) ?_
  refine r_sB 9 rfl hr (fun h9_0 hr => ?_) (fun h9_0 hr => ?_)
  ·
    refine r_skip rfl rfl rfl ?_
    refine r_skip rfl rfl rfl ?_
    refine r_skip rfl rfl rfl ?_
    refine r_skip rfl rfl rfl ?_
    refine r_d rfl rfl rfl (s_pickT rfl rfl rfl) ?_
    refine r_end ?_
    refine g_condT rfl ?_
    refine g_seq ?_
    refine g_run (by kernel_rfl) [(0, .d)] rfl ?_
    refine r_d rfl rfl rfl (s_assign rfl rfl) ?_
    refine r_end ?_
    obtain rfl := Option.some.inj hr
    refine g_ret Try.func19 _ (.cons (resTmp rfl (Wk.refl _)) .nil) ?_
    rfl
  ·
    refine r_d rfl rfl rfl (s_fieldAddr rfl fl_api_Program_1 rfl rfl rfl rfl) ?_
    refine r_d rfl rfl rfl (s_load rfl rfl (by exact ty_L_api_Rule) rfl) ?_
    refine r_d rfl rfl rfl (m_len (f := enc_S_api_Rule) p_a0.f1_Rules rfl el_L_api_Rule rfl (asl rfl)) ?_
    refine r_d rfl rfl rfl (s_cmp rfl rfl rfl rfl) ?_
    refine r_d rfl rfl rfl (s_pickF rfl rfl rfl) ?_
    refine r_end ?_
    refine g_sB 14 rfl hr (fun h14_1 hr => ?_) (fun h14_1 hr => ?_)
    ·
      refine g_condT rfl ?_
      refine g_seq ?_
      refine g_run (by kernel_rfl) [(0, .d)] rfl ?_
      refine r_d rfl rfl rfl (s_assign rfl rfl) ?_
      refine r_end ?_
      obtain rfl := Option.some.inj hr
      refine g_ret Try.func19 _ (.cons (resTmp rfl (Wk.refl _)) .nil) ?_
      rfl
    ·
      refine g_condF rfl ?_
      refine g_skip ?_
      refine g_seq ?_
      refine g_seq ?_
      refine g_run (by kernel_rfl) [(0, .d)] rfl ?_
      refine r_d rfl rfl rfl (s_assign rfl rfl) ?_
      refine r_end ?_
      obtain ⟨kk0, hkk0, hr⟩ := exK (fun k => lf_constraintlaw23_Programs_L0 k p_a0.f1_Rules) hr
      refine g_len 11 rfl (asl rfl) fun hla0 => ?_
      simp only [List.length_map] at hla0
      refine g_blockJ (fun env σ => env = [] ∧ σ = [] ∧ kk0 = some res) ?_ (fun HK0 => ?_)
      ·
        rintro _ _ ⟨rfl, rfl, hr⟩
        rw [hkk0] at hr
        refine g_seq ?_
        refine g_run (by kernel_rfl) [(0, .d)] rfl ?_
        refine r_d rfl rfl rfl (s_assign rfl rfl) ?_
        refine r_end ?_
        obtain rfl := Option.some.inj hr
        refine g_ret Try.func19 _ (.cons (resTmp rfl (Wk.refl _)) .nil) ?_
        rfl
      ·
        refine g_sub [(1, .ptr (enc_S_api_Program p_a0)), (3, .int .i64 ((0 : Nat) : Int))] (Sub.cons' rfl (Sub.cons' rfl (Sub.nil _))) ?_
        refine g_loop (fun n env σ => ∃ (i_3 : Nat), (n = p_a0.f1_Rules.length - i_3) ∧ (env = [(1, .ptr (enc_S_api_Program p_a0)), (3, .int .i64 (i_3 : Int))]) ∧ (σ = []) ∧ (i_3 ≤ p_a0.f1_Rules.length) ∧ (lf_constraintlaw23_Programs_L0 kk0 (p_a0.f1_Rules.drop i_3) = some res)) _ ⟨0, rfl, rfl, rfl, Nat.zero_le _, hr⟩ ?_
        rintro n _ _ ⟨i_3, rfl, rfl, rfl, hi0, hr⟩ IH0
        rcases listStep p_a0.f1_Rules i_3 hi0 with ⟨ht0, hd0, he0⟩ | ⟨q_4, ht0, hd0, hq0, hlt0⟩
        ·
          rw [hd0, lf_constraintlaw23_Programs_L0] at hr
          refine g_seq ?_
          refine g_seq ?_
          refine g_run (by kernel_rfl) [(0, .d), (1, .d), (2, .d), (3, .d), (4, .d)] rfl ?_
          refine r_d rfl rfl rfl (s_move rfl rfl) ?_
          refine r_d rfl rfl rfl (s_fieldAddr rfl fl_api_Program_1 rfl rfl rfl rfl) ?_
          refine r_d rfl rfl rfl (s_load rfl rfl (by exact ty_L_api_Rule) rfl) ?_
          refine r_d rfl rfl rfl (m_len (f := enc_S_api_Rule) p_a0.f1_Rules rfl el_L_api_Rule rfl (asl rfl)) ?_
          refine r_d rfl rfl rfl (s_cmp rfl rfl rfl rfl) ?_
          refine r_end ?_
          refine g_known 19 false rfl ht0 ?_
          refine g_condF rfl ?_
          refine g_exit rfl ?_
          refine g_sub [] (Sub.nil _) ?_
          exact HK0 _ _ ⟨rfl, rfl, hr⟩
        ·
          rw [hd0, lf_constraintlaw23_Programs_L0] at hr
          refine g_seq ?_
          refine g_seq ?_
          refine g_run (by kernel_rfl) [(0, .d), (1, .d), (2, .d), (3, .d), (4, .d)] rfl ?_
          refine r_d rfl rfl rfl (s_move rfl rfl) ?_
          refine r_d rfl rfl rfl (s_fieldAddr rfl fl_api_Program_1 rfl rfl rfl rfl) ?_
          refine r_d rfl rfl rfl (s_load rfl rfl (by exact ty_L_api_Rule) rfl) ?_
          refine r_d rfl rfl rfl (m_len (f := enc_S_api_Rule) p_a0.f1_Rules rfl el_L_api_Rule rfl (asl rfl)) ?_
          refine r_d rfl rfl rfl (s_cmp rfl rfl rfl rfl) ?_
          refine r_end ?_
          refine g_known 19 true rfl ht0 ?_
          refine g_condT rfl ?_
          refine g_skip ?_
          refine g_seq ?_
          refine g_block ?_
          refine g_seq ?_
          refine g_run (by kernel_rfl) [(0, .d), (1, .d), (2, .d), (3, .d), (4, .d), (5, .w), (6, .w)] rfl ?_
          refine r_d rfl rfl rfl (s_fieldAddr rfl fl_api_Program_1 rfl rfl rfl rfl) ?_
          refine r_d rfl rfl rfl (s_load rfl rfl (by exact ty_L_api_Rule) rfl) ?_
          refine r_d rfl rfl rfl (s_move rfl rfl) ?_
          refine r_d rfl rfl rfl (m_index (f := enc_S_api_Rule) p_a0.f1_Rules rfl el_L_api_Rule rfl (asl rfl) rfl hq0 sz_S_api_Rule rfl) ?_
          refine r_d rfl rfl rfl (s_load rfl rfl (by exact ty_api_Rule) (sz_S_api_Rule _)) ?_
          refine r_w rfl rfl rfl (s_alloc rfl zv_api_Rule) ?_
          rintro _ _ ⟨b4_4, rfl, rfl⟩
          refine r_w01 rfl rfl rfl (t_store0 _ rfl rfl rfl (Wk.refl _) (pf0 _) (by exact ty_api_Rule) (sz_S_api_Rule _) rfl rfl) ?_
          refine r_end ?_
          refine g_freeze 4 b4_4 rfl (pf0 _) ?_
          refine g_seq ?_
          refine g_seq ?_
          refine g_run (by kernel_rfl) [(0, .d), (1, .d), (2, .d), (3, .d), (4, .d), (5, .d), (6, .d), (7, .d), (8, .d), (9, .d), (10, .d), (11, .d), (12, .d), (13, .d), (14, .d), (15, .d), (16, .d), (17, .d), (18, .d), (19, .d), (20, .d), (21, .d), (22, .d), (23, .d), (24, .d), (25, .d), (26, .d), (27, .d), (28, .d), (29, .d), (30, .d), (31, .d)] rfl ?_
          refine r_d rfl rfl rfl (s_fieldAddr rfl fl_api_Rule_1 rfl rfl rfl rfl) ?_
          refine r_d rfl rfl rfl (s_load rfl rfl (by exact ty_L_api_Atom) rfl) ?_
          refine r_d rfl rfl rfl (m_len (f := encA) q_4.f1_Keep rfl el_L_api_Atom rfl (asl rfl)) ?_
          refine r_d rfl rfl rfl (s_cmp rfl rfl rfl rfl) ?_
          refine r_d rfl rfl rfl (s_move rfl rfl) ?_
          refine r_sB 31 rfl hr (fun h31_5 hr => ?_) (fun h31_5 hr => ?_)
          ·
            refine r_skip rfl rfl rfl ?_
            refine r_skip rfl rfl rfl ?_
            refine r_skip rfl rfl rfl ?_
            refine r_skip rfl rfl rfl ?_
            refine r_d rfl rfl rfl (s_pickT rfl rfl rfl) ?_
            refine r_d rfl rfl rfl (s_move rfl rfl) ?_
            refine r_skip rfl rfl rfl ?_
            refine r_skip rfl rfl rfl ?_
            refine r_skip rfl rfl rfl ?_
            refine r_skip rfl rfl rfl ?_
            refine r_skip rfl rfl rfl ?_
            refine r_skip rfl rfl rfl ?_
            refine r_skip rfl rfl rfl ?_
            refine r_skip rfl rfl rfl ?_
            refine r_d rfl rfl rfl (s_pickT rfl rfl rfl) ?_
            refine r_d rfl rfl rfl (s_move rfl rfl) ?_
            refine r_skip rfl rfl rfl ?_
            refine r_skip rfl rfl rfl ?_
            refine r_skip rfl rfl rfl ?_
            refine r_skip rfl rfl rfl ?_
            refine r_d rfl rfl rfl (s_pickT rfl rfl rfl) ?_
            refine r_d rfl rfl rfl (s_move rfl rfl) ?_
            refine r_skip rfl rfl rfl ?_
            refine r_skip rfl rfl rfl ?_
            refine r_skip rfl rfl rfl ?_
            refine r_skip rfl rfl rfl ?_
            refine r_d rfl rfl rfl (s_pickT rfl rfl rfl) ?_
            refine r_end ?_
            refine g_condT rfl ?_
            refine g_seq ?_
            refine g_run (by kernel_rfl) [(0, .d)] rfl ?_
            refine r_d rfl rfl rfl (s_assign rfl rfl) ?_
            refine r_end ?_
            obtain rfl := Option.some.inj hr
            refine g_ret Try.func19 _ (.cons (resTmp rfl (Wk.refl _)) .nil) ?_
            rfl
          ·
            refine r_d rfl rfl rfl (s_fieldAddr rfl fl_api_Rule_2 rfl rfl rfl rfl) ?_
            refine r_d rfl rfl rfl (s_load rfl rfl (by exact ty_L_api_Atom) rfl) ?_
            refine r_d rfl rfl rfl (m_len (f := encA) q_4.f2_Remove rfl el_L_api_Atom rfl (asl rfl)) ?_
            refine r_d rfl rfl rfl (s_cmp rfl rfl rfl rfl) ?_
            refine r_d rfl rfl rfl (s_pickF rfl rfl rfl) ?_
            refine r_d rfl rfl rfl (s_move rfl rfl) ?_
            refine r_sB 37 rfl hr (fun h37_6 hr => ?_) (fun h37_6 hr => ?_)
            ·
              refine r_skip rfl rfl rfl ?_
              refine r_skip rfl rfl rfl ?_
              refine r_skip rfl rfl rfl ?_
              refine r_skip rfl rfl rfl ?_
              refine r_skip rfl rfl rfl ?_
              refine r_skip rfl rfl rfl ?_
              refine r_skip rfl rfl rfl ?_
              refine r_skip rfl rfl rfl ?_
              refine r_d rfl rfl rfl (s_pickT rfl rfl rfl) ?_
              refine r_d rfl rfl rfl (s_move rfl rfl) ?_
              refine r_skip rfl rfl rfl ?_
              refine r_skip rfl rfl rfl ?_
              refine r_skip rfl rfl rfl ?_
              refine r_skip rfl rfl rfl ?_
              refine r_d rfl rfl rfl (s_pickT rfl rfl rfl) ?_
              refine r_d rfl rfl rfl (s_move rfl rfl) ?_
              refine r_skip rfl rfl rfl ?_
              refine r_skip rfl rfl rfl ?_
              refine r_skip rfl rfl rfl ?_
              refine r_skip rfl rfl rfl ?_
              refine r_d rfl rfl rfl (s_pickT rfl rfl rfl) ?_
              refine r_end ?_
              refine g_condT rfl ?_
              refine g_seq ?_
              refine g_run (by kernel_rfl) [(0, .d)] rfl ?_
              refine r_d rfl rfl rfl (s_assign rfl rfl) ?_
              refine r_end ?_
              obtain rfl := Option.some.inj hr
              refine g_ret Try.func19 _ (.cons (resTmp rfl (Wk.refl _)) .nil) ?_
              rfl
            ·
              refine r_d rfl rfl rfl (s_fieldAddr rfl fl_api_Rule_1 rfl rfl rfl rfl) ?_
              refine r_d rfl rfl rfl (s_load rfl rfl (by exact ty_L_api_Atom) rfl) ?_
              refine r_d rfl rfl rfl (m_len (f := encA) q_4.f1_Keep rfl el_L_api_Atom rfl (asl rfl)) ?_
              refine r_d rfl rfl rfl (s_fieldAddr rfl fl_api_Rule_2 rfl rfl rfl rfl) ?_
              refine r_d rfl rfl rfl (s_load rfl rfl (by exact ty_L_api_Atom) rfl) ?_
              refine r_d rfl rfl rfl (m_len (f := encA) q_4.f2_Remove rfl el_L_api_Atom rfl (asl rfl)) ?_
              refine r_d rfl rfl rfl (s_arW rfl rfl rfl rfl) ?_
              refine r_d rfl rfl rfl (s_cmp rfl rfl rfl rfl) ?_
              refine r_d rfl rfl rfl (s_pickF rfl rfl rfl) ?_
              refine r_d rfl rfl rfl (s_move rfl rfl) ?_
              refine r_sB 47 rfl hr (fun h47_7 hr => ?_) (fun h47_7 hr => ?_)
              ·
                refine r_skip rfl rfl rfl ?_
                refine r_skip rfl rfl rfl ?_
                refine r_skip rfl rfl rfl ?_
                refine r_skip rfl rfl rfl ?_
                refine r_d rfl rfl rfl (s_pickT rfl rfl rfl) ?_
                refine r_d rfl rfl rfl (s_move rfl rfl) ?_
                refine r_skip rfl rfl rfl ?_
                refine r_skip rfl rfl rfl ?_
                refine r_skip rfl rfl rfl ?_
                refine r_skip rfl rfl rfl ?_
                refine r_d rfl rfl rfl (s_pickT rfl rfl rfl) ?_
                refine r_end ?_
                refine g_condT rfl ?_
                refine g_seq ?_
                refine g_run (by kernel_rfl) [(0, .d)] rfl ?_
                refine r_d rfl rfl rfl (s_assign rfl rfl) ?_
                refine r_end ?_
                obtain rfl := Option.some.inj hr
                refine g_ret Try.func19 _ (.cons (resTmp rfl (Wk.refl _)) .nil) ?_
                rfl
              ·
                refine r_d rfl rfl rfl (s_fieldAddr rfl fl_api_Rule_3 rfl rfl rfl rfl) ?_
                refine r_d rfl rfl rfl (s_load rfl rfl (by exact ty_L_api_Goal) rfl) ?_
                refine r_d rfl rfl rfl (m_len (f := encG) q_4.f3_Guard rfl el_L_api_Goal rfl (asl rfl)) ?_
                refine r_d rfl rfl rfl (s_cmp rfl rfl rfl rfl) ?_
                refine r_d rfl rfl rfl (s_pickF rfl rfl rfl) ?_
                refine r_d rfl rfl rfl (s_move rfl rfl) ?_
                refine r_sB 53 rfl hr (fun h53_8 hr => ?_) (fun h53_8 hr => ?_)
                ·
                  refine r_skip rfl rfl rfl ?_
                  refine r_skip rfl rfl rfl ?_
                  refine r_skip rfl rfl rfl ?_
                  refine r_skip rfl rfl rfl ?_
                  refine r_d rfl rfl rfl (s_pickT rfl rfl rfl) ?_
                  refine r_end ?_
                  refine g_condT rfl ?_
                  refine g_seq ?_
                  refine g_run (by kernel_rfl) [(0, .d)] rfl ?_
                  refine r_d rfl rfl rfl (s_assign rfl rfl) ?_
                  refine r_end ?_
                  obtain rfl := Option.some.inj hr
                  refine g_ret Try.func19 _ (.cons (resTmp rfl (Wk.refl _)) .nil) ?_
                  rfl
                ·
                  refine r_d rfl rfl rfl (s_fieldAddr rfl fl_api_Rule_4 rfl rfl rfl rfl) ?_
                  refine r_d rfl rfl rfl (s_load rfl rfl (by exact ty_L_api_Goal) rfl) ?_
                  refine r_d rfl rfl rfl (m_len (f := encG) q_4.f4_Body rfl el_L_api_Goal rfl (asl rfl)) ?_
                  refine r_d rfl rfl rfl (s_cmp rfl rfl rfl rfl) ?_
                  refine r_d rfl rfl rfl (s_pickF rfl rfl rfl) ?_
                  refine r_end ?_
                  refine g_sB 58 rfl hr (fun h58_9 hr => ?_) (fun h58_9 hr => ?_)
                  ·
                    refine g_condT rfl ?_
                    refine g_seq ?_
                    refine g_run (by kernel_rfl) [(0, .d)] rfl ?_
                    refine r_d rfl rfl rfl (s_assign rfl rfl) ?_
                    refine r_end ?_
                    obtain rfl := Option.some.inj hr
                    refine g_ret Try.func19 _ (.cons (resTmp rfl (Wk.refl _)) .nil) ?_
                    rfl
                  ·
                    refine g_condF rfl ?_
                    refine g_skip ?_
                    refine g_seq ?_
                    refine g_run (by kernel_rfl) [(0, .d), (1, .d), (2, .d), (3, .d), (4, .d), (5, .d), (6, .d), (7, .d), (8, .d), (9, .d), (10, .d), (11, .d), (12, .d), (13, .d), (14, .d), (15, .d), (16, .d), (17, .d), (18, .d), (19, .d), (20, .d), (21, .d)] rfl ?_
                    refine r_d rfl rfl rfl (s_fieldAddr rfl fl_api_Rule_1 rfl rfl rfl rfl) ?_
                    refine r_d rfl rfl rfl (s_load rfl rfl (by exact ty_L_api_Atom) rfl) ?_
                    obtain ⟨r_11, hr_11, hr⟩ := bindS hr
                    refine r_d rfl rfl rfl (s_callD rfl cl_constraintlaw23_Atoms (.cons rfl (Wk.refl _) .nil) (lg_constraintlaw23_Atoms _ _ hr_11)) ?_
                    refine r_d rfl rfl rfl (s_not rfl rfl) ?_
                    refine r_d rfl rfl rfl (s_move rfl rfl) ?_
                    refine r_sB 63 rfl hr (fun h63_11 hr => ?_) (fun h63_11 hr => ?_)
                    ·
                      refine r_skip rfl rfl rfl ?_
                      refine r_skip rfl rfl rfl ?_
                      refine r_skip rfl rfl rfl ?_
                      refine r_skip rfl rfl rfl ?_
                      refine r_d rfl rfl rfl (s_pickT rfl rfl rfl) ?_
                      refine r_d rfl rfl rfl (s_move rfl rfl) ?_
                      refine r_skip rfl rfl rfl ?_
                      refine r_skip rfl rfl rfl ?_
                      refine r_skip rfl rfl rfl ?_
                      refine r_skip rfl rfl rfl ?_
                      refine r_d rfl rfl rfl (s_pickT rfl rfl rfl) ?_
                      refine r_d rfl rfl rfl (s_move rfl rfl) ?_
                      refine r_skip rfl rfl rfl ?_
                      refine r_skip rfl rfl rfl ?_
                      refine r_skip rfl rfl rfl ?_
                      refine r_skip rfl rfl rfl ?_
                      refine r_d rfl rfl rfl (s_pickT rfl rfl rfl) ?_
                      refine r_end ?_
                      refine g_condT rfl ?_
                      refine g_seq ?_
                      refine g_run (by kernel_rfl) [(0, .d)] rfl ?_
                      refine r_d rfl rfl rfl (s_assign rfl rfl) ?_
                      refine r_end ?_
                      obtain rfl := Option.some.inj hr
                      refine g_ret Try.func19 _ (.cons (resTmp rfl (Wk.refl _)) .nil) ?_
                      rfl
                    ·
                      refine r_d rfl rfl rfl (s_fieldAddr rfl fl_api_Rule_2 rfl rfl rfl rfl) ?_
                      refine r_d rfl rfl rfl (s_load rfl rfl (by exact ty_L_api_Atom) rfl) ?_
                      obtain ⟨r_13, hr_13, hr⟩ := bindS hr
                      refine r_d rfl rfl rfl (s_callD rfl cl_constraintlaw23_Atoms (.cons rfl (Wk.refl _) .nil) (lg_constraintlaw23_Atoms _ _ hr_13)) ?_
                      refine r_d rfl rfl rfl (s_not rfl rfl) ?_
                      refine r_d rfl rfl rfl (s_pickF rfl rfl rfl) ?_
                      refine r_d rfl rfl rfl (s_move rfl rfl) ?_
                      refine r_sB 69 rfl hr (fun h69_13 hr => ?_) (fun h69_13 hr => ?_)
                      ·
                        refine r_skip rfl rfl rfl ?_
                        refine r_skip rfl rfl rfl ?_
                        refine r_skip rfl rfl rfl ?_
                        refine r_skip rfl rfl rfl ?_
                        refine r_d rfl rfl rfl (s_pickT rfl rfl rfl) ?_
                        refine r_d rfl rfl rfl (s_move rfl rfl) ?_
                        refine r_skip rfl rfl rfl ?_
                        refine r_skip rfl rfl rfl ?_
                        refine r_skip rfl rfl rfl ?_
                        refine r_skip rfl rfl rfl ?_
                        refine r_d rfl rfl rfl (s_pickT rfl rfl rfl) ?_
                        refine r_end ?_
                        refine g_condT rfl ?_
                        refine g_seq ?_
                        refine g_run (by kernel_rfl) [(0, .d)] rfl ?_
                        refine r_d rfl rfl rfl (s_assign rfl rfl) ?_
                        refine r_end ?_
                        obtain rfl := Option.some.inj hr
                        refine g_ret Try.func19 _ (.cons (resTmp rfl (Wk.refl _)) .nil) ?_
                        rfl
                      ·
                        refine r_d rfl rfl rfl (s_fieldAddr rfl fl_api_Rule_3 rfl rfl rfl rfl) ?_
                        refine r_d rfl rfl rfl (s_load rfl rfl (by exact ty_L_api_Goal) rfl) ?_
                        obtain ⟨r_15, hr_15, hr⟩ := bindS hr
                        refine r_d rfl rfl rfl (s_callD rfl cl_constraintlaw23_Goals (.cons rfl (Wk.refl _) (.cons rfl (Wk.refl _) .nil)) (lg_constraintlaw23_Goals _ _ _ hr_15)) ?_
                        refine r_d rfl rfl rfl (s_not rfl rfl) ?_
                        refine r_d rfl rfl rfl (s_pickF rfl rfl rfl) ?_
                        refine r_d rfl rfl rfl (s_move rfl rfl) ?_
                        refine r_sB 75 rfl hr (fun h75_15 hr => ?_) (fun h75_15 hr => ?_)
                        ·
                          refine r_skip rfl rfl rfl ?_
                          refine r_skip rfl rfl rfl ?_
                          refine r_skip rfl rfl rfl ?_
                          refine r_skip rfl rfl rfl ?_
                          refine r_d rfl rfl rfl (s_pickT rfl rfl rfl) ?_
                          refine r_end ?_
                          refine g_condT rfl ?_
                          refine g_seq ?_
                          refine g_run (by kernel_rfl) [(0, .d)] rfl ?_
                          refine r_d rfl rfl rfl (s_assign rfl rfl) ?_
                          refine r_end ?_
                          obtain rfl := Option.some.inj hr
                          refine g_ret Try.func19 _ (.cons (resTmp rfl (Wk.refl _)) .nil) ?_
                          rfl
                        ·
                          refine r_d rfl rfl rfl (s_fieldAddr rfl fl_api_Rule_4 rfl rfl rfl rfl) ?_
                          refine r_d rfl rfl rfl (s_load rfl rfl (by exact ty_L_api_Goal) rfl) ?_
                          obtain ⟨r_17, hr_17, hr⟩ := bindS hr
                          refine r_d rfl rfl rfl (s_callD rfl cl_constraintlaw23_Goals (.cons rfl (Wk.refl _) (.cons rfl (Wk.refl _) .nil)) (lg_constraintlaw23_Goals _ _ _ hr_17)) ?_
                          refine r_d rfl rfl rfl (s_not rfl rfl) ?_
                          refine r_d rfl rfl rfl (s_pickF rfl rfl rfl) ?_
                          refine r_end ?_
                          refine g_sB 80 rfl hr (fun h80_17 hr => ?_) (fun h80_17 hr => ?_)
                          ·
                            refine g_condT rfl ?_
                            refine g_seq ?_
                            refine g_run (by kernel_rfl) [(0, .d)] rfl ?_
                            refine r_d rfl rfl rfl (s_assign rfl rfl) ?_
                            refine r_end ?_
                            obtain rfl := Option.some.inj hr
                            refine g_ret Try.func19 _ (.cons (resTmp rfl (Wk.refl _)) .nil) ?_
                            rfl
                          ·
                            refine g_condF rfl ?_
                            refine g_skip ?_
                            refine g_inBlock ?_
                            refine g_run (by kernel_rfl) [(0, .d), (1, .d), (2, .d)] rfl ?_
                            refine r_d rfl rfl rfl (s_move rfl rfl) ?_
                            refine r_d rfl rfl rfl (s_ar (r := ((i_3 + 1 : Nat) : Int)) rfl rfl rfl (by simp [iar]) (by omega)) ?_
                            refine r_d rfl rfl rfl (s_assign rfl rfl) ?_
                            refine r_end ?_
                            refine g_sub [(1, .ptr (enc_S_api_Program p_a0)), (3, .int .i64 ((i_3 + 1 : Nat) : Int))] (Sub.cons' rfl (Sub.cons' rfl (Sub.nil _))) ?_
                            exact IH0 _ _ _ (by omega) ⟨(i_3 + 1), rfl, rfl, rfl, (by omega), hr⟩

noncomputable def lf_constraintlaw42_size_L0 (k : (Int) → Option (Int)) : List S_api_Decl → Int → Nat → Option (Int)
  | [], n_1, i_2 =>
  (k n_1)
  | q_4 :: rest, n_1, i_2 =>
  (bif (decide ((i_2 : Int) < (12 : Int))) then
  (bif (decide (q_4.f1_Arity > (6 : Int))) then
  (lf_constraintlaw42_size_L0 k rest n_1 (i_2 + 1))
  else
  (bif (decide (q_4.f1_Arity < (0 : Int))) then
  (lf_constraintlaw42_size_L0 k rest n_1 (i_2 + 1))
  else
  (lf_constraintlaw42_size_L0 k rest (wr ((wr (n_1 + (1 : Int))) + q_4.f1_Arity)) (i_2 + 1))))
  else
  (k n_1))
noncomputable def lf_constraintlaw42_size (l_a0 : (List S_api_Decl)) : Option (Int) :=
  (lf_constraintlaw42_size_L0 (fun n_3 =>
  some (n_3)) l_a0 0 0)

set_option maxHeartbeats 1000000 in
theorem lg_constraintlaw42_size (l_a0 : (List S_api_Decl)) (res : Int) (hr : lf_constraintlaw42_size l_a0 = some res) : Gives Try.prog 17 [.lst (l_a0.map enc_S_api_Decl)] (.int .i64 res) := by
  unfold lf_constraintlaw42_size at hr
  refine spec_env [(0, .lst (l_a0.map enc_S_api_Decl))] Try.func17 rfl rfl fun K hK => ?_
  refine g_seq ?_
  refine g_run (by kernel_rfl) [(0, .d)] rfl ?_
  refine r_d rfl rfl rfl (s_assign rfl rfl) ?_
  refine r_end ?_
  refine g_seq ?_
  refine g_run (by kernel_rfl) [(0, .d)] rfl ?_
  refine r_d rfl rfl rfl (s_assign rfl rfl) ?_
  refine r_end ?_
  refine g_seq ?_
  refine g_seq ?_
  refine g_run (by kernel_rfl) [(0, .d)] rfl ?_
  refine r_d rfl rfl rfl (s_assign rfl rfl) ?_
  refine r_end ?_
  obtain ⟨kk0, hkk0, hr⟩ := exK (fun k => lf_constraintlaw42_size_L0 k l_a0 0 0) hr
  refine g_len 0 rfl (asl rfl) fun hla0 => ?_
  simp only [List.length_map] at hla0
  refine g_blockJ (fun env σ => ∃ (n_3 : Int), env = [(3, .int .i64 n_3)] ∧ σ = [] ∧ kk0 n_3 = some res) ?_ (fun HK0 => ?_)
  ·
    rintro _ _ ⟨n_3, rfl, rfl, hr⟩
    rw [hkk0] at hr
    refine g_seq ?_
    refine g_run (by kernel_rfl) [(0, .d), (1, .d)] rfl ?_
    refine r_d rfl rfl rfl (s_move rfl rfl) ?_
    refine r_d rfl rfl rfl (s_assign rfl rfl) ?_
    refine r_end ?_
    obtain rfl := Option.some.inj hr
    refine g_ret Try.func17 _ (.cons (resTmp rfl (Wk.refl _)) .nil) ?_
    rfl
  ·
    refine g_sub [(0, .lst (l_a0.map enc_S_api_Decl)), (3, .int .i64 0), (4, .int .i64 ((0 : Nat) : Int))] (Sub.cons' rfl (Sub.cons' rfl (Sub.cons' rfl (Sub.nil _)))) ?_
    refine g_loop (fun n env σ => ∃ (n_1 : Int) (i_2 : Nat), (n = l_a0.length - i_2) ∧ (env = [(0, .lst (l_a0.map enc_S_api_Decl)), (3, .int .i64 n_1), (4, .int .i64 (i_2 : Int))]) ∧ (σ = []) ∧ (i_2 ≤ l_a0.length) ∧ (lf_constraintlaw42_size_L0 kk0 (l_a0.drop i_2) n_1 i_2 = some res)) _ ⟨0, 0, rfl, rfl, rfl, Nat.zero_le _, hr⟩ ?_
    rintro n _ _ ⟨n_1, i_2, rfl, rfl, rfl, hi0, hr⟩ IH0
    rcases listStep l_a0 i_2 hi0 with ⟨ht0, hd0, he0⟩ | ⟨q_4, ht0, hd0, hq0, hlt0⟩
    ·
      rw [hd0, lf_constraintlaw42_size_L0] at hr
      refine g_seq ?_
      refine g_seq ?_
      refine g_run (by kernel_rfl) [(0, .d), (1, .d), (2, .d), (3, .d), (4, .d), (5, .d), (6, .d), (7, .d)] rfl ?_
      refine r_d rfl rfl rfl (s_move rfl rfl) ?_
      refine r_d rfl rfl rfl (s_move rfl rfl) ?_
      refine r_d rfl rfl rfl (m_len (f := enc_S_api_Decl) l_a0 rfl el_L_api_Decl rfl (asl rfl)) ?_
      refine r_d rfl rfl rfl (s_cmp rfl rfl rfl rfl) ?_
      refine r_d rfl rfl rfl (s_move rfl rfl) ?_
      refine r_known 9 false rfl ht0 ?_
      refine r_skip rfl rfl rfl ?_
      refine r_skip rfl rfl rfl ?_
      refine r_d rfl rfl rfl (s_pickF rfl rfl rfl) ?_
      refine r_end ?_
      refine g_condF rfl ?_
      refine g_exit rfl ?_
      refine g_sub [(3, .int .i64 n_1)] (Sub.cons' rfl (Sub.nil _)) ?_
      exact HK0 _ _ ⟨n_1, rfl, rfl, hr⟩
    ·
      rw [hd0, lf_constraintlaw42_size_L0] at hr
      refine g_seq ?_
      refine g_seq ?_
      refine g_run (by kernel_rfl) [(0, .d), (1, .d), (2, .d), (3, .d), (4, .d), (5, .d), (6, .d), (7, .d)] rfl ?_
      refine r_d rfl rfl rfl (s_move rfl rfl) ?_
      refine r_d rfl rfl rfl (s_move rfl rfl) ?_
      refine r_d rfl rfl rfl (m_len (f := enc_S_api_Decl) l_a0 rfl el_L_api_Decl rfl (asl rfl)) ?_
      refine r_d rfl rfl rfl (s_cmp rfl rfl rfl rfl) ?_
      refine r_d rfl rfl rfl (s_move rfl rfl) ?_
      refine r_known 9 true rfl ht0 ?_
      refine r_d rfl rfl rfl (s_move rfl rfl) ?_
      refine r_d rfl rfl rfl (s_cmp rfl rfl rfl rfl) ?_
      refine r_d rfl rfl rfl (s_pickT rfl rfl rfl) ?_
      refine r_end ?_
      refine g_sB 12 rfl hr (fun h12_4 hr => ?_) (fun h12_4 hr => ?_)
      ·
        refine g_condT rfl ?_
        refine g_skip ?_
        refine g_seq ?_
        refine g_block ?_
        refine g_seq ?_
        refine g_seq ?_
        refine g_run (by kernel_rfl) [(0, .d), (1, .d), (2, .d), (3, .d), (4, .d), (5, .d), (6, .d), (7, .d), (8, .d), (9, .d), (10, .d), (11, .d), (12, .d), (13, .d)] rfl ?_
        refine r_d rfl rfl rfl (s_move rfl rfl) ?_
        refine r_d rfl rfl rfl (s_move rfl rfl) ?_
        refine r_d rfl rfl rfl (m_index (f := enc_S_api_Decl) l_a0 rfl el_L_api_Decl rfl (asl rfl) rfl hq0 sz_S_api_Decl rfl) ?_
        refine r_d rfl rfl rfl (s_fieldAddr rfl fl_api_Decl_1 rfl rfl rfl rfl) ?_
        refine r_d rfl rfl rfl (s_load rfl rfl (by exact ty_int) rfl) ?_
        refine r_d rfl rfl rfl (s_cmp rfl rfl rfl rfl) ?_
        refine r_d rfl rfl rfl (s_move rfl rfl) ?_
        refine r_sB 21 rfl hr (fun h21_5 hr => ?_) (fun h21_5 hr => ?_)
        ·
          refine r_skip rfl rfl rfl ?_
          refine r_skip rfl rfl rfl ?_
          refine r_skip rfl rfl rfl ?_
          refine r_skip rfl rfl rfl ?_
          refine r_skip rfl rfl rfl ?_
          refine r_skip rfl rfl rfl ?_
          refine r_d rfl rfl rfl (s_pickT rfl rfl rfl) ?_
          refine r_end ?_
          refine g_condT rfl ?_
          refine g_exit rfl ?_
          refine g_run (by kernel_rfl) [(0, .d), (1, .d), (2, .d)] rfl ?_
          refine r_d rfl rfl rfl (s_move rfl rfl) ?_
          refine r_d rfl rfl rfl (s_ar (r := ((i_2 + 1 : Nat) : Int)) rfl rfl rfl (by simp [iar]) (by omega)) ?_
          refine r_d rfl rfl rfl (s_assign rfl rfl) ?_
          refine r_end ?_
          refine g_sub [(0, .lst (l_a0.map enc_S_api_Decl)), (3, .int .i64 n_1), (4, .int .i64 ((i_2 + 1 : Nat) : Int))] (Sub.cons' rfl (Sub.cons' rfl (Sub.cons' rfl (Sub.nil _)))) ?_
          exact IH0 _ _ _ (by omega) ⟨n_1, (i_2 + 1), rfl, rfl, rfl, (by omega), hr⟩
        ·
          refine r_d rfl rfl rfl (s_move rfl rfl) ?_
          refine r_d rfl rfl rfl (s_move rfl rfl) ?_
          refine r_d rfl rfl rfl (m_index (f := enc_S_api_Decl) l_a0 rfl el_L_api_Decl rfl (asl rfl) rfl hq0 sz_S_api_Decl rfl) ?_
          refine r_d rfl rfl rfl (s_fieldAddr rfl fl_api_Decl_1 rfl rfl rfl rfl) ?_
          refine r_d rfl rfl rfl (s_load rfl rfl (by exact ty_int) rfl) ?_
          refine r_d rfl rfl rfl (s_cmp rfl rfl rfl rfl) ?_
          refine r_d rfl rfl rfl (s_pickF rfl rfl rfl) ?_
          refine r_end ?_
          refine g_sB 28 rfl hr (fun h28_6 hr => ?_) (fun h28_6 hr => ?_)
          ·
            refine g_condT rfl ?_
            refine g_exit rfl ?_
            refine g_run (by kernel_rfl) [(0, .d), (1, .d), (2, .d)] rfl ?_
            refine r_d rfl rfl rfl (s_move rfl rfl) ?_
            refine r_d rfl rfl rfl (s_ar (r := ((i_2 + 1 : Nat) : Int)) rfl rfl rfl (by simp [iar]) (by omega)) ?_
            refine r_d rfl rfl rfl (s_assign rfl rfl) ?_
            refine r_end ?_
            refine g_sub [(0, .lst (l_a0.map enc_S_api_Decl)), (3, .int .i64 n_1), (4, .int .i64 ((i_2 + 1 : Nat) : Int))] (Sub.cons' rfl (Sub.cons' rfl (Sub.cons' rfl (Sub.nil _)))) ?_
            exact IH0 _ _ _ (by omega) ⟨n_1, (i_2 + 1), rfl, rfl, rfl, (by omega), hr⟩
          ·
            refine g_condF rfl ?_
            refine g_skip ?_
            refine g_run (by kernel_rfl) [(0, .d), (1, .d), (2, .d), (3, .d), (4, .d), (5, .d), (6, .d), (7, .d), (8, .d)] rfl ?_
            refine r_d rfl rfl rfl (s_move rfl rfl) ?_
            refine r_d rfl rfl rfl (s_arW rfl rfl rfl rfl) ?_
            refine r_d rfl rfl rfl (s_move rfl rfl) ?_
            refine r_d rfl rfl rfl (s_move rfl rfl) ?_
            refine r_d rfl rfl rfl (m_index (f := enc_S_api_Decl) l_a0 rfl el_L_api_Decl rfl (asl rfl) rfl hq0 sz_S_api_Decl rfl) ?_
            refine r_d rfl rfl rfl (s_fieldAddr rfl fl_api_Decl_1 rfl rfl rfl rfl) ?_
            refine r_d rfl rfl rfl (s_load rfl rfl (by exact ty_int) rfl) ?_
            refine r_d rfl rfl rfl (s_arW rfl rfl rfl rfl) ?_
            refine r_d rfl rfl rfl (s_assign rfl rfl) ?_
            refine r_end ?_
            refine g_inBlock ?_
            refine g_run (by kernel_rfl) [(0, .d), (1, .d), (2, .d)] rfl ?_
            refine r_d rfl rfl rfl (s_move rfl rfl) ?_
            refine r_d rfl rfl rfl (s_ar (r := ((i_2 + 1 : Nat) : Int)) rfl rfl rfl (by simp [iar]) (by omega)) ?_
            refine r_d rfl rfl rfl (s_assign rfl rfl) ?_
            refine r_end ?_
            refine g_sub [(0, .lst (l_a0.map enc_S_api_Decl)), (3, .int .i64 (wr ((wr (n_1 + (1 : Int))) + q_4.f1_Arity))), (4, .int .i64 ((i_2 + 1 : Nat) : Int))] (Sub.cons' rfl (Sub.cons' rfl (Sub.cons' rfl (Sub.nil _)))) ?_
            exact IH0 _ _ _ (by omega) ⟨(wr ((wr (n_1 + (1 : Int))) + q_4.f1_Arity)), (i_2 + 1), rfl, rfl, rfl, (by omega), hr⟩
      ·
        refine g_condF rfl ?_
        refine g_exit rfl ?_
        refine g_sub [(3, .int .i64 n_1)] (Sub.cons' rfl (Sub.nil _)) ?_
        exact HK0 _ _ ⟨n_1, rfl, rfl, hr⟩

noncomputable def lf_constraintlaw42_light (p_a0 : S_api_Program) (most_a1 : Int) : Option (Bool) :=
  ((lf_constraintlaw23_Programs p_a0).bind fun r_1 =>
  (bif r_1 then
  ((lf_constraintlaw42_size p_a0.f0_Decls).bind fun r_3 =>
  (bif (decide (r_3 ≤ (4 : Int))) then
  (bif (decide (most_a1 ≤ (3 : Int))) then
  some (true)
  else
  (bif (decide (r_3 ≤ (6 : Int))) then
  (bif (decide (most_a1 ≤ (1 : Int))) then
  some (true)
  else
  (bif (decide (r_3 > (8 : Int))) then
  some (true)
  else
  some ((decide (most_a1 > (3 : Int))))))
  else
  (bif (decide (r_3 > (8 : Int))) then
  some (true)
  else
  some ((decide (most_a1 > (3 : Int)))))))
  else
  (bif (decide (r_3 ≤ (6 : Int))) then
  (bif (decide (most_a1 ≤ (1 : Int))) then
  some (true)
  else
  (bif (decide (r_3 > (8 : Int))) then
  some (true)
  else
  some ((decide (most_a1 > (3 : Int))))))
  else
  (bif (decide (r_3 > (8 : Int))) then
  some (true)
  else
  some ((decide (most_a1 > (3 : Int))))))))
  else
  some (false)))

set_option maxHeartbeats 1000000 in
theorem lg_constraintlaw42_light (p_a0 : S_api_Program) (most_a1 : Int) (res : Bool) (hr : lf_constraintlaw42_light p_a0 most_a1 = some res) : Gives Try.prog 7 [enc_S_api_Program p_a0, .int .i64 most_a1] (.bool res) := by
  unfold lf_constraintlaw42_light at hr
  refine spec_env [(0, enc_S_api_Program p_a0), (1, .int .i64 most_a1)] Try.func7 rfl rfl fun K hK => ?_
  refine g_seq ?_
  refine g_run (by kernel_rfl) [(0, .d), (1, .d)] rfl ?_
  refine r_d rfl rfl rfl (s_box rfl rfl rfl) ?_
  refine r_d rfl rfl rfl (s_assign rfl rfl) ?_
  refine r_end ?_
  refine g_seq ?_
  refine g_run (by kernel_rfl) [(0, .d), (1, .d), (2, .d), (3, .d), (4, .d), (5, .d), (6, .d), (7, .d), (8, .d), (9, .d), (10, .d), (11, .d), (12, .d), (13, .d), (14, .d), (15, .d), (16, .d), (17, .d), (18, .d), (19, .d), (20, .d), (21, .d), (22, .d), (23, .d), (24, .d), (25, .d), (26, .d), (27, .d), (28, .d), (29, .d), (30, .d), (31, .d), (32, .d)] rfl ?_
  refine r_d rfl rfl rfl (s_load rfl rfl (by exact ty_api_Program) (sz_S_api_Program _)) ?_
  obtain ⟨r_1, hr_1, hr⟩ := bindS hr
  refine r_d rfl rfl rfl (s_callD rfl cl_constraintlaw23_Programs (.cons rfl (Wk.refl _) .nil) (lg_constraintlaw23_Programs _ _ hr_1)) ?_
  refine r_d rfl rfl rfl (s_move rfl rfl) ?_
  refine r_sB 7 rfl hr (fun h7_1 hr => ?_) (fun h7_1 hr => ?_)
  ·
    refine r_d rfl rfl rfl (s_fieldAddr rfl fl_api_Program_0 rfl rfl rfl rfl) ?_
    refine r_d rfl rfl rfl (s_load rfl rfl (by exact ty_L_api_Decl) rfl) ?_
    obtain ⟨r_3, hr_3, hr⟩ := bindS hr
    refine r_d rfl rfl rfl (s_callD rfl cl_constraintlaw42_size (.cons rfl (Wk.refl _) .nil) (lg_constraintlaw42_size _ _ hr_3)) ?_
    refine r_d rfl rfl rfl (s_cmp rfl rfl rfl rfl) ?_
    refine r_d rfl rfl rfl (s_move rfl rfl) ?_
    refine r_sB 12 rfl hr (fun h12_3 hr => ?_) (fun h12_3 hr => ?_)
    ·
      refine r_d rfl rfl rfl (s_move rfl rfl) ?_
      refine r_d rfl rfl rfl (s_cmp rfl rfl rfl rfl) ?_
      refine r_d rfl rfl rfl (s_pickT rfl rfl rfl) ?_
      refine r_d rfl rfl rfl (s_move rfl rfl) ?_
      refine r_sB 16 rfl hr (fun h16_4 hr => ?_) (fun h16_4 hr => ?_)
      ·
        refine r_skip rfl rfl rfl ?_
        refine r_skip rfl rfl rfl ?_
        refine r_skip rfl rfl rfl ?_
        refine r_skip rfl rfl rfl ?_
        refine r_skip rfl rfl rfl ?_
        refine r_skip rfl rfl rfl ?_
        refine r_skip rfl rfl rfl ?_
        refine r_skip rfl rfl rfl ?_
        refine r_d rfl rfl rfl (s_pickT rfl rfl rfl) ?_
        refine r_d rfl rfl rfl (s_move rfl rfl) ?_
        refine r_skip rfl rfl rfl ?_
        refine r_skip rfl rfl rfl ?_
        refine r_skip rfl rfl rfl ?_
        refine r_skip rfl rfl rfl ?_
        refine r_d rfl rfl rfl (s_pickT rfl rfl rfl) ?_
        refine r_d rfl rfl rfl (s_move rfl rfl) ?_
        refine r_skip rfl rfl rfl ?_
        refine r_skip rfl rfl rfl ?_
        refine r_d rfl rfl rfl (s_pickT rfl rfl rfl) ?_
        refine r_d rfl rfl rfl (s_pickT rfl rfl rfl) ?_
        refine r_d rfl rfl rfl (s_assign rfl rfl) ?_
        refine r_end ?_
        obtain rfl := Option.some.inj hr
        refine g_ret Try.func7 _ (.cons (resTmp rfl (Wk.refl _)) .nil) ?_
        rfl
      ·
        refine r_d rfl rfl rfl (s_fieldAddr rfl fl_api_Program_0 rfl rfl rfl rfl) ?_
        refine r_d rfl rfl rfl (s_load rfl rfl (by exact ty_L_api_Decl) rfl) ?_
        refine r_d rfl rfl rfl (s_callD rfl cl_constraintlaw42_size (.cons rfl (Wk.refl _) .nil) (lg_constraintlaw42_size _ _ hr_3)) ?_
        refine r_d rfl rfl rfl (s_cmp rfl rfl rfl rfl) ?_
        refine r_d rfl rfl rfl (s_move rfl rfl) ?_
        refine r_sB 21 rfl hr (fun h21_5 hr => ?_) (fun h21_5 hr => ?_)
        ·
          refine r_d rfl rfl rfl (s_move rfl rfl) ?_
          refine r_d rfl rfl rfl (s_cmp rfl rfl rfl rfl) ?_
          refine r_d rfl rfl rfl (s_pickT rfl rfl rfl) ?_
          refine r_d rfl rfl rfl (s_pickF rfl rfl rfl) ?_
          refine r_d rfl rfl rfl (s_move rfl rfl) ?_
          refine r_sB 26 rfl hr (fun h26_6 hr => ?_) (fun h26_6 hr => ?_)
          ·
            refine r_skip rfl rfl rfl ?_
            refine r_skip rfl rfl rfl ?_
            refine r_skip rfl rfl rfl ?_
            refine r_skip rfl rfl rfl ?_
            refine r_d rfl rfl rfl (s_pickT rfl rfl rfl) ?_
            refine r_d rfl rfl rfl (s_move rfl rfl) ?_
            refine r_skip rfl rfl rfl ?_
            refine r_skip rfl rfl rfl ?_
            refine r_d rfl rfl rfl (s_pickT rfl rfl rfl) ?_
            refine r_d rfl rfl rfl (s_pickT rfl rfl rfl) ?_
            refine r_d rfl rfl rfl (s_assign rfl rfl) ?_
            refine r_end ?_
            obtain rfl := Option.some.inj hr
            refine g_ret Try.func7 _ (.cons (resTmp rfl (Wk.refl _)) .nil) ?_
            rfl
          ·
            refine r_d rfl rfl rfl (s_fieldAddr rfl fl_api_Program_0 rfl rfl rfl rfl) ?_
            refine r_d rfl rfl rfl (s_load rfl rfl (by exact ty_L_api_Decl) rfl) ?_
            refine r_d rfl rfl rfl (s_callD rfl cl_constraintlaw42_size (.cons rfl (Wk.refl _) .nil) (lg_constraintlaw42_size _ _ hr_3)) ?_
            refine r_d rfl rfl rfl (s_cmp rfl rfl rfl rfl) ?_
            refine r_d rfl rfl rfl (s_pickF rfl rfl rfl) ?_
            refine r_d rfl rfl rfl (s_move rfl rfl) ?_
            refine r_sB 32 rfl hr (fun h32_7 hr => ?_) (fun h32_7 hr => ?_)
            ·
              refine r_skip rfl rfl rfl ?_
              refine r_skip rfl rfl rfl ?_
              refine r_d rfl rfl rfl (s_pickT rfl rfl rfl) ?_
              refine r_d rfl rfl rfl (s_pickT rfl rfl rfl) ?_
              refine r_d rfl rfl rfl (s_assign rfl rfl) ?_
              refine r_end ?_
              obtain rfl := Option.some.inj hr
              refine g_ret Try.func7 _ (.cons (resTmp rfl (Wk.refl _)) .nil) ?_
              rfl
            ·
              refine r_d rfl rfl rfl (s_move rfl rfl) ?_
              refine r_d rfl rfl rfl (s_cmp rfl rfl rfl rfl) ?_
              refine r_d rfl rfl rfl (s_pickF rfl rfl rfl) ?_
              refine r_d rfl rfl rfl (s_pickT rfl rfl rfl) ?_
              refine r_d rfl rfl rfl (s_assign rfl rfl) ?_
              refine r_end ?_
              obtain rfl := Option.some.inj hr
              refine g_ret Try.func7 _ (.cons (resTmp rfl (Wk.refl _)) .nil) ?_
              rfl
        ·
          refine r_skip rfl rfl rfl ?_
          refine r_skip rfl rfl rfl ?_
          refine r_d rfl rfl rfl (s_pickF rfl rfl rfl) ?_
          refine r_d rfl rfl rfl (s_pickF rfl rfl rfl) ?_
          refine r_d rfl rfl rfl (s_move rfl rfl) ?_
          refine r_d rfl rfl rfl (s_fieldAddr rfl fl_api_Program_0 rfl rfl rfl rfl) ?_
          refine r_d rfl rfl rfl (s_load rfl rfl (by exact ty_L_api_Decl) rfl) ?_
          refine r_d rfl rfl rfl (s_callD rfl cl_constraintlaw42_size (.cons rfl (Wk.refl _) .nil) (lg_constraintlaw42_size _ _ hr_3)) ?_
          refine r_d rfl rfl rfl (s_cmp rfl rfl rfl rfl) ?_
          refine r_d rfl rfl rfl (s_pickF rfl rfl rfl) ?_
          refine r_d rfl rfl rfl (s_move rfl rfl) ?_
          refine r_sB 32 rfl hr (fun h32_8 hr => ?_) (fun h32_8 hr => ?_)
          ·
            refine r_skip rfl rfl rfl ?_
            refine r_skip rfl rfl rfl ?_
            refine r_d rfl rfl rfl (s_pickT rfl rfl rfl) ?_
            refine r_d rfl rfl rfl (s_pickT rfl rfl rfl) ?_
            refine r_d rfl rfl rfl (s_assign rfl rfl) ?_
            refine r_end ?_
            obtain rfl := Option.some.inj hr
            refine g_ret Try.func7 _ (.cons (resTmp rfl (Wk.refl _)) .nil) ?_
            rfl
          ·
            refine r_d rfl rfl rfl (s_move rfl rfl) ?_
            refine r_d rfl rfl rfl (s_cmp rfl rfl rfl rfl) ?_
            refine r_d rfl rfl rfl (s_pickF rfl rfl rfl) ?_
            refine r_d rfl rfl rfl (s_pickT rfl rfl rfl) ?_
            refine r_d rfl rfl rfl (s_assign rfl rfl) ?_
            refine r_end ?_
            obtain rfl := Option.some.inj hr
            refine g_ret Try.func7 _ (.cons (resTmp rfl (Wk.refl _)) .nil) ?_
            rfl
    ·
      refine r_skip rfl rfl rfl ?_
      refine r_skip rfl rfl rfl ?_
      refine r_d rfl rfl rfl (s_pickF rfl rfl rfl) ?_
      refine r_d rfl rfl rfl (s_move rfl rfl) ?_
      refine r_d rfl rfl rfl (s_fieldAddr rfl fl_api_Program_0 rfl rfl rfl rfl) ?_
      refine r_d rfl rfl rfl (s_load rfl rfl (by exact ty_L_api_Decl) rfl) ?_
      refine r_d rfl rfl rfl (s_callD rfl cl_constraintlaw42_size (.cons rfl (Wk.refl _) .nil) (lg_constraintlaw42_size _ _ hr_3)) ?_
      refine r_d rfl rfl rfl (s_cmp rfl rfl rfl rfl) ?_
      refine r_d rfl rfl rfl (s_move rfl rfl) ?_
      refine r_sB 21 rfl hr (fun h21_9 hr => ?_) (fun h21_9 hr => ?_)
      ·
        refine r_d rfl rfl rfl (s_move rfl rfl) ?_
        refine r_d rfl rfl rfl (s_cmp rfl rfl rfl rfl) ?_
        refine r_d rfl rfl rfl (s_pickT rfl rfl rfl) ?_
        refine r_d rfl rfl rfl (s_pickF rfl rfl rfl) ?_
        refine r_d rfl rfl rfl (s_move rfl rfl) ?_
        refine r_sB 26 rfl hr (fun h26_10 hr => ?_) (fun h26_10 hr => ?_)
        ·
          refine r_skip rfl rfl rfl ?_
          refine r_skip rfl rfl rfl ?_
          refine r_skip rfl rfl rfl ?_
          refine r_skip rfl rfl rfl ?_
          refine r_d rfl rfl rfl (s_pickT rfl rfl rfl) ?_
          refine r_d rfl rfl rfl (s_move rfl rfl) ?_
          refine r_skip rfl rfl rfl ?_
          refine r_skip rfl rfl rfl ?_
          refine r_d rfl rfl rfl (s_pickT rfl rfl rfl) ?_
          refine r_d rfl rfl rfl (s_pickT rfl rfl rfl) ?_
          refine r_d rfl rfl rfl (s_assign rfl rfl) ?_
          refine r_end ?_
          obtain rfl := Option.some.inj hr
          refine g_ret Try.func7 _ (.cons (resTmp rfl (Wk.refl _)) .nil) ?_
          rfl
        ·
          refine r_d rfl rfl rfl (s_fieldAddr rfl fl_api_Program_0 rfl rfl rfl rfl) ?_
          refine r_d rfl rfl rfl (s_load rfl rfl (by exact ty_L_api_Decl) rfl) ?_
          refine r_d rfl rfl rfl (s_callD rfl cl_constraintlaw42_size (.cons rfl (Wk.refl _) .nil) (lg_constraintlaw42_size _ _ hr_3)) ?_
          refine r_d rfl rfl rfl (s_cmp rfl rfl rfl rfl) ?_
          refine r_d rfl rfl rfl (s_pickF rfl rfl rfl) ?_
          refine r_d rfl rfl rfl (s_move rfl rfl) ?_
          refine r_sB 32 rfl hr (fun h32_11 hr => ?_) (fun h32_11 hr => ?_)
          ·
            refine r_skip rfl rfl rfl ?_
            refine r_skip rfl rfl rfl ?_
            refine r_d rfl rfl rfl (s_pickT rfl rfl rfl) ?_
            refine r_d rfl rfl rfl (s_pickT rfl rfl rfl) ?_
            refine r_d rfl rfl rfl (s_assign rfl rfl) ?_
            refine r_end ?_
            obtain rfl := Option.some.inj hr
            refine g_ret Try.func7 _ (.cons (resTmp rfl (Wk.refl _)) .nil) ?_
            rfl
          ·
            refine r_d rfl rfl rfl (s_move rfl rfl) ?_
            refine r_d rfl rfl rfl (s_cmp rfl rfl rfl rfl) ?_
            refine r_d rfl rfl rfl (s_pickF rfl rfl rfl) ?_
            refine r_d rfl rfl rfl (s_pickT rfl rfl rfl) ?_
            refine r_d rfl rfl rfl (s_assign rfl rfl) ?_
            refine r_end ?_
            obtain rfl := Option.some.inj hr
            refine g_ret Try.func7 _ (.cons (resTmp rfl (Wk.refl _)) .nil) ?_
            rfl
      ·
        refine r_skip rfl rfl rfl ?_
        refine r_skip rfl rfl rfl ?_
        refine r_d rfl rfl rfl (s_pickF rfl rfl rfl) ?_
        refine r_d rfl rfl rfl (s_pickF rfl rfl rfl) ?_
        refine r_d rfl rfl rfl (s_move rfl rfl) ?_
        refine r_d rfl rfl rfl (s_fieldAddr rfl fl_api_Program_0 rfl rfl rfl rfl) ?_
        refine r_d rfl rfl rfl (s_load rfl rfl (by exact ty_L_api_Decl) rfl) ?_
        refine r_d rfl rfl rfl (s_callD rfl cl_constraintlaw42_size (.cons rfl (Wk.refl _) .nil) (lg_constraintlaw42_size _ _ hr_3)) ?_
        refine r_d rfl rfl rfl (s_cmp rfl rfl rfl rfl) ?_
        refine r_d rfl rfl rfl (s_pickF rfl rfl rfl) ?_
        refine r_d rfl rfl rfl (s_move rfl rfl) ?_
        refine r_sB 32 rfl hr (fun h32_12 hr => ?_) (fun h32_12 hr => ?_)
        ·
          refine r_skip rfl rfl rfl ?_
          refine r_skip rfl rfl rfl ?_
          refine r_d rfl rfl rfl (s_pickT rfl rfl rfl) ?_
          refine r_d rfl rfl rfl (s_pickT rfl rfl rfl) ?_
          refine r_d rfl rfl rfl (s_assign rfl rfl) ?_
          refine r_end ?_
          obtain rfl := Option.some.inj hr
          refine g_ret Try.func7 _ (.cons (resTmp rfl (Wk.refl _)) .nil) ?_
          rfl
        ·
          refine r_d rfl rfl rfl (s_move rfl rfl) ?_
          refine r_d rfl rfl rfl (s_cmp rfl rfl rfl rfl) ?_
          refine r_d rfl rfl rfl (s_pickF rfl rfl rfl) ?_
          refine r_d rfl rfl rfl (s_pickT rfl rfl rfl) ?_
          refine r_d rfl rfl rfl (s_assign rfl rfl) ?_
          refine r_end ?_
          obtain rfl := Option.some.inj hr
          refine g_ret Try.func7 _ (.cons (resTmp rfl (Wk.refl _)) .nil) ?_
          rfl
  ·
    refine r_skip rfl rfl rfl ?_
    refine r_skip rfl rfl rfl ?_
    refine r_skip rfl rfl rfl ?_
    refine r_skip rfl rfl rfl ?_
    refine r_skip rfl rfl rfl ?_
    refine r_skip rfl rfl rfl ?_
    refine r_skip rfl rfl rfl ?_
    refine r_skip rfl rfl rfl ?_
    refine r_skip rfl rfl rfl ?_
    refine r_skip rfl rfl rfl ?_
    refine r_skip rfl rfl rfl ?_
    refine r_skip rfl rfl rfl ?_
    refine r_skip rfl rfl rfl ?_
    refine r_skip rfl rfl rfl ?_
    refine r_skip rfl rfl rfl ?_
    refine r_skip rfl rfl rfl ?_
    refine r_skip rfl rfl rfl ?_
    refine r_skip rfl rfl rfl ?_
    refine r_skip rfl rfl rfl ?_
    refine r_skip rfl rfl rfl ?_
    refine r_skip rfl rfl rfl ?_
    refine r_skip rfl rfl rfl ?_
    refine r_skip rfl rfl rfl ?_
    refine r_skip rfl rfl rfl ?_
    refine r_skip rfl rfl rfl ?_
    refine r_skip rfl rfl rfl ?_
    refine r_skip rfl rfl rfl ?_
    refine r_skip rfl rfl rfl ?_
    refine r_d rfl rfl rfl (s_pickF rfl rfl rfl) ?_
    refine r_d rfl rfl rfl (s_assign rfl rfl) ?_
    refine r_end ?_
    obtain rfl := Option.some.inj hr
    refine g_ret Try.func7 _ (.cons (resTmp rfl (Wk.refl _)) .nil) ?_
    rfl

noncomputable def lf_constraintref42_Find_L1 (k : Option ((List S_api_Rank) × Int)) (fuel : Nat) (most_a1 : Int) (p_a0 : S_api_Program) : Nat → (List Int) → Bool → Option ((List S_api_Rank) × Int)
  | 0, digits_9, more_10 =>
  none
  | rest + 1, digits_9, more_10 =>
  (bif more_10 then
  ((lf_constraintref42_Ranks p_a0.f0_Decls digits_9).bind fun r_12 =>
  ((lf_constraintref41_Check fuel p_a0 r_12).bind fun r_13 =>
  (bif (r_13 == (0 : Int)) then
  some (r_12, 0)
  else
  ((lf_constraintref42_Next digits_9 most_a1).bind fun r_15 =>
  (lf_constraintref42_Find_L1 k fuel most_a1 p_a0 rest r_15.1 r_15.2)))))
  else
  k)

noncomputable def lf_constraintref42_Find_L0 (k : (Int) → Option ((List S_api_Rank) × Int)) : List S_api_Decl → Int → Option ((List S_api_Rank) × Int)
  | [], n_1 =>
  (k n_1)
  | q_16 :: rest, n_1 =>
  (bif (decide (q_16.f1_Arity < (0 : Int))) then
  some ([], 2)
  else
  (bif (decide (q_16.f1_Arity > (6 : Int))) then
  some ([], 2)
  else
  (lf_constraintref42_Find_L0 k rest (wr ((wr (n_1 + (1 : Int))) + q_16.f1_Arity)))))
noncomputable def lf_constraintref42_Find (fuel : Nat) (p_a0 : S_api_Program) (most_a1 : Int) : Option ((List S_api_Rank) × Int) :=
  (lf_constraintref42_Find_L0 (fun n_3 =>
  (bif (decide (n_3 > (8 : Int))) then
  some ([], 6)
  else
  (bif (decide (most_a1 < (1 : Int))) then
  some ([], 6)
  else
  (bif (decide (most_a1 > (3 : Int))) then
  some ([], 6)
  else
  ((makeO 8 n_3).bind fun n_7 =>
  (lf_constraintref42_Find_L1 (some ([], 13)) fuel most_a1 p_a0 fuel (List.replicate n_7 0) true)))))) p_a0.f0_Decls 0)

set_option maxHeartbeats 1000000 in
theorem lg_constraintref42_Find (fuel : Nat) (p_a0 : S_api_Program) (most_a1 : Int) (res : (List S_api_Rank) × Int) (hr : lf_constraintref42_Find fuel p_a0 most_a1 = some res) : Gives Try.prog 10 [enc_S_api_Program p_a0, .int .i64 most_a1] (.tup [.lst (res.1.map enc_S_api_Rank), .int .i64 res.2]) := by
  unfold lf_constraintref42_Find at hr
  refine spec_env [(0, enc_S_api_Program p_a0), (1, .int .i64 most_a1)] Try.func10 rfl rfl fun K hK => ?_
  refine g_seq ?_
  refine g_run (by kernel_rfl) [(0, .d), (1, .d), (2, .d)] rfl ?_
  refine r_d rfl rfl rfl (s_box rfl rfl rfl) ?_
  refine r_d rfl rfl rfl (s_assign rfl rfl) ?_
  refine r_d rfl rfl rfl (s_assign rfl rfl) ?_
  refine r_end ?_
  refine g_seq ?_
  refine g_run (by kernel_rfl) [(0, .d)] rfl ?_
  refine r_d rfl rfl rfl (s_assign rfl rfl) ?_
  refine r_end ?_
  refine g_seq ?_
  refine g_seq ?_
  refine g_run (by kernel_rfl) [(0, .d)] rfl ?_
  refine r_d rfl rfl rfl (s_assign rfl rfl) ?_
  refine r_end ?_
  obtain ⟨kk0, hkk0, hr⟩ := exK (fun k => lf_constraintref42_Find_L0 k p_a0.f0_Decls 0) hr
  refine g_lenS 0 [0] (l := p_a0.f0_Decls.map enc_S_api_Decl) rfl rfl (asl rfl) fun hla0 => ?_
  simp only [List.length_map] at hla0
  refine g_blockJ (fun env σ => ∃ (n_3 : Int), env = [(1, .int .i64 most_a1), (2, .ptr (enc_S_api_Program p_a0)), (6, .int .i64 n_3)] ∧ σ = [] ∧ kk0 n_3 = some res) ?_ (fun HK0 => ?_)
  ·
    rintro _ _ ⟨n_3, rfl, rfl, hr⟩
    rw [hkk0] at hr
    refine g_seq ?_
    refine g_seq ?_
    refine g_run (by kernel_rfl) [(0, .d), (1, .d), (2, .d), (3, .d), (4, .d), (5, .d), (6, .d), (7, .d), (8, .d), (9, .d)] rfl ?_
    refine r_d rfl rfl rfl (s_move rfl rfl) ?_
    refine r_d rfl rfl rfl (s_cmp rfl rfl rfl rfl) ?_
    refine r_d rfl rfl rfl (s_move rfl rfl) ?_
    refine r_sB 45 rfl hr (fun h45_3 hr => ?_) (fun h45_3 hr => ?_)
    ·
      refine r_skip rfl rfl rfl ?_
      refine r_skip rfl rfl rfl ?_
      refine r_d rfl rfl rfl (s_pickT rfl rfl rfl) ?_
      refine r_d rfl rfl rfl (s_move rfl rfl) ?_
      refine r_skip rfl rfl rfl ?_
      refine r_skip rfl rfl rfl ?_
      refine r_d rfl rfl rfl (s_pickT rfl rfl rfl) ?_
      refine r_end ?_
      refine g_condT rfl ?_
      refine g_seq ?_
      refine g_run (by kernel_rfl) [(0, .d), (1, .d)] rfl ?_
      refine r_d rfl rfl rfl (s_assign rfl rfl) ?_
      refine r_d rfl rfl rfl (s_assign rfl rfl) ?_
      refine r_end ?_
      obtain rfl := Option.some.inj hr
      refine g_ret Try.func10 _ (.cons (resTmp rfl (Wk.full _)) (.cons (resTmp rfl (Wk.refl _)) .nil)) ?_
      rfl
    ·
      refine r_d rfl rfl rfl (s_move rfl rfl) ?_
      refine r_d rfl rfl rfl (s_cmp rfl rfl rfl rfl) ?_
      refine r_d rfl rfl rfl (s_pickF rfl rfl rfl) ?_
      refine r_d rfl rfl rfl (s_move rfl rfl) ?_
      refine r_sB 49 rfl hr (fun h49_4 hr => ?_) (fun h49_4 hr => ?_)
      ·
        refine r_skip rfl rfl rfl ?_
        refine r_skip rfl rfl rfl ?_
        refine r_d rfl rfl rfl (s_pickT rfl rfl rfl) ?_
        refine r_end ?_
        refine g_condT rfl ?_
        refine g_seq ?_
        refine g_run (by kernel_rfl) [(0, .d), (1, .d)] rfl ?_
        refine r_d rfl rfl rfl (s_assign rfl rfl) ?_
        refine r_d rfl rfl rfl (s_assign rfl rfl) ?_
        refine r_end ?_
        obtain rfl := Option.some.inj hr
        refine g_ret Try.func10 _ (.cons (resTmp rfl (Wk.full _)) (.cons (resTmp rfl (Wk.refl _)) .nil)) ?_
        rfl
      ·
        refine r_d rfl rfl rfl (s_move rfl rfl) ?_
        refine r_d rfl rfl rfl (s_cmp rfl rfl rfl rfl) ?_
        refine r_d rfl rfl rfl (s_pickF rfl rfl rfl) ?_
        refine r_end ?_
        refine g_sB 52 rfl hr (fun h52_5 hr => ?_) (fun h52_5 hr => ?_)
        ·
          refine g_condT rfl ?_
          refine g_seq ?_
          refine g_run (by kernel_rfl) [(0, .d), (1, .d)] rfl ?_
          refine r_d rfl rfl rfl (s_assign rfl rfl) ?_
          refine r_d rfl rfl rfl (s_assign rfl rfl) ?_
          refine r_end ?_
          obtain rfl := Option.some.inj hr
          refine g_ret Try.func10 _ (.cons (resTmp rfl (Wk.full _)) (.cons (resTmp rfl (Wk.refl _)) .nil)) ?_
          rfl
        ·
          refine g_condF rfl ?_
          refine g_skip ?_
          refine g_seq ?_
          refine g_run (by kernel_rfl) [(0, .d), (1, .w), (2, .d), (3, .d)] rfl ?_
          refine r_d rfl rfl rfl (s_move rfl rfl) ?_
          obtain ⟨n_7, hn_7, hr⟩ := bindS hr
          refine r_w rfl rfl rfl (m_makeArr (f := (D.int .i64)) 0 rfl el_L_int zv_int rfl rfl hn_7) ?_
          rintro _ _ ⟨b54_7, rfl, rfl⟩
          refine r_d rfl rfl rfl (s_assign rfl rfl) ?_
          refine r_d rfl rfl rfl (s_assign rfl rfl) ?_
          refine r_end ?_
          refine g_freezeArr (l := (List.replicate n_7 0).map (D.int .i64)) 8 rfl (pf0 _) (by simp) ?_
          refine g_seq ?_
          obtain ⟨kk1, hkk1, hr⟩ := exK (fun k => lf_constraintref42_Find_L1 k fuel most_a1 p_a0 fuel (List.replicate n_7 0) true) hr
          refine g_blockJ (fun env σ => env = [] ∧ σ = [] ∧ kk1 = some res) ?_ (fun HK1 => ?_)
          ·
            rintro _ _ ⟨rfl, rfl, hr⟩
            rw [hkk1] at hr
            refine g_seq ?_
            refine g_run (by kernel_rfl) [(0, .d), (1, .d)] rfl ?_
            refine r_d rfl rfl rfl (s_assign rfl rfl) ?_
            refine r_d rfl rfl rfl (s_assign rfl rfl) ?_
            refine r_end ?_
            obtain rfl := Option.some.inj hr
            refine g_ret Try.func10 _ (.cons (resTmp rfl (Wk.full _)) (.cons (resTmp rfl (Wk.refl _)) .nil)) ?_
            rfl
          ·
            refine g_sub [(1, .int .i64 most_a1), (2, .ptr (enc_S_api_Program p_a0)), (8, .lst ((List.replicate n_7 0).map (D.int .i64))), (9, .bool true)] (Sub.cons' rfl (Sub.cons' rfl (Sub.cons' rfl (Sub.cons' rfl (Sub.nil _))))) ?_
            refine g_loop (fun n env σ => ∃ (digits_9 : (List Int)) (more_10 : Bool) (n1 : Nat), (n1 = n) ∧ (env = [(1, .int .i64 most_a1), (2, .ptr (enc_S_api_Program p_a0)), (8, .lst (digits_9.map (D.int .i64))), (9, .bool more_10)]) ∧ (σ = []) ∧ (lf_constraintref42_Find_L1 kk1 fuel most_a1 p_a0 n1 digits_9 more_10 = some res)) _ ⟨(List.replicate n_7 0), true, _, rfl, rfl, rfl, hr⟩ ?_
            rintro n _ _ ⟨digits_9, more_10, n1, rfl, rfl, rfl, hr⟩ IH1
            cases n1 with
            | zero => rw [lf_constraintref42_Find_L1] at hr; cases hr
            | succ n1 =>
              rw [lf_constraintref42_Find_L1] at hr
              refine g_seq ?_
              refine g_seq ?_
              refine g_run (by kernel_rfl) [(0, .d)] rfl ?_
              refine r_d rfl rfl rfl (s_move rfl rfl) ?_
              refine r_end ?_
              refine g_sB 55 rfl hr (fun h55_10 hr => ?_) (fun h55_10 hr => ?_)
              ·
                refine g_condT rfl ?_
                refine g_skip ?_
                refine g_block ?_
                refine g_seq ?_
                refine g_run (by kernel_rfl) [(0, .d), (1, .d), (2, .d), (3, .d), (4, .d)] rfl ?_
                refine r_d rfl rfl rfl (s_fieldAddr rfl fl_api_Program_0 rfl rfl rfl rfl) ?_
                refine r_d rfl rfl rfl (s_load rfl rfl (by exact ty_L_api_Decl) rfl) ?_
                refine r_d rfl rfl rfl (s_move rfl rfl) ?_
                obtain ⟨r_12, hr_12, hr⟩ := bindS hr
                refine r_d rfl rfl rfl (s_callD rfl cl_constraintref42_Ranks (.cons rfl (Wk.refl _) (.cons rfl (Wk.refl _) .nil)) (lg_constraintref42_Ranks _ _ _ hr_12)) ?_
                refine r_d rfl rfl rfl (s_assign rfl rfl) ?_
                refine r_end ?_
                refine g_seq ?_
                refine g_seq ?_
                refine g_run (by kernel_rfl) [(0, .d), (1, .d), (2, .d), (3, .d)] rfl ?_
                refine r_d rfl rfl rfl (s_load rfl rfl (by exact ty_api_Program) (sz_S_api_Program _)) ?_
                refine r_d rfl rfl rfl (s_move rfl rfl) ?_
                obtain ⟨r_13, hr_13, hr⟩ := bindS hr
                refine r_d rfl rfl rfl (s_callD rfl cl_constraintref41_Check (.cons rfl (Wk.refl _) (.cons rfl (Wk.refl _) .nil)) (lg_constraintref41_Check fuel _ _ _ hr_13)) ?_
                refine r_d rfl rfl rfl (s_cmp rfl rfl rfl rfl) ?_
                refine r_end ?_
                refine g_sB 63 rfl hr (fun h63_13 hr => ?_) (fun h63_13 hr => ?_)
                ·
                  refine g_condT rfl ?_
                  refine g_seq ?_
                  refine g_run (by kernel_rfl) [(0, .d), (1, .d), (2, .d)] rfl ?_
                  refine r_d rfl rfl rfl (s_move rfl rfl) ?_
                  refine r_d rfl rfl rfl (s_assign rfl rfl) ?_
                  refine r_d rfl rfl rfl (s_assign rfl rfl) ?_
                  refine r_end ?_
                  obtain rfl := Option.some.inj hr
                  refine g_ret Try.func10 _ (.cons (resTmp rfl (Wk.refl _)) (.cons (resTmp rfl (Wk.refl _)) .nil)) ?_
                  rfl
                ·
                  refine g_condF rfl ?_
                  refine g_skip ?_
                  refine g_run (by kernel_rfl) [(0, .d), (1, .d), (2, .d), (3, .d), (4, .d), (5, .d), (6, .d), (7, .d)] rfl ?_
                  refine r_d rfl rfl rfl (s_move rfl rfl) ?_
                  refine r_d rfl rfl rfl (s_move rfl rfl) ?_
                  obtain ⟨r_15, hr_15, hr⟩ := bindS hr
                  refine r_d rfl rfl rfl (s_callD rfl cl_constraintref42_Next (.cons rfl (Wk.refl _) (.cons rfl (Wk.refl _) .nil)) (lg_constraintref42_Next _ _ _ hr_15)) ?_
                  refine r_d rfl rfl rfl (s_move rfl rfl) ?_
                  refine r_d rfl rfl rfl (s_extract rfl rfl rfl) ?_
                  refine r_d rfl rfl rfl (s_extract rfl rfl rfl) ?_
                  refine r_d rfl rfl rfl (s_assign rfl rfl) ?_
                  refine r_d rfl rfl rfl (s_assign rfl rfl) ?_
                  refine r_end ?_
                  refine g_inBlock ?_
                  refine g_sub [(1, .int .i64 most_a1), (2, .ptr (enc_S_api_Program p_a0)), (8, .lst (r_15.1.map (D.int .i64))), (9, .bool r_15.2)] (Sub.cons' rfl (Sub.cons' rfl (Sub.cons' rfl (Sub.cons' rfl (Sub.nil _))))) ?_
                  exact IH1 _ _ _ (by omega) ⟨r_15.1, r_15.2, _, rfl, rfl, rfl, hr⟩
              ·
                refine g_condF rfl ?_
                refine g_exit rfl ?_
                refine g_sub [] (Sub.nil _) ?_
                exact HK1 _ _ ⟨rfl, rfl, hr⟩
  ·
    refine g_sub [(1, .int .i64 most_a1), (2, .ptr (enc_S_api_Program p_a0)), (6, .int .i64 0), (7, .int .i64 ((0 : Nat) : Int))] (Sub.cons' rfl (Sub.cons' rfl (Sub.cons' rfl (Sub.cons' rfl (Sub.nil _))))) ?_
    refine g_loop (fun n env σ => ∃ (n_1 : Int) (i_2 : Nat), (n = p_a0.f0_Decls.length - i_2) ∧ (env = [(1, .int .i64 most_a1), (2, .ptr (enc_S_api_Program p_a0)), (6, .int .i64 n_1), (7, .int .i64 (i_2 : Int))]) ∧ (σ = []) ∧ (i_2 ≤ p_a0.f0_Decls.length) ∧ (lf_constraintref42_Find_L0 kk0 (p_a0.f0_Decls.drop i_2) n_1 = some res)) _ ⟨0, 0, rfl, rfl, rfl, Nat.zero_le _, hr⟩ ?_
    rintro n _ _ ⟨n_1, i_2, rfl, rfl, rfl, hi0, hr⟩ IH0
    rcases listStep p_a0.f0_Decls i_2 hi0 with ⟨ht0, hd0, he0⟩ | ⟨q_16, ht0, hd0, hq0, hlt0⟩
    ·
      rw [hd0, lf_constraintref42_Find_L0] at hr
      refine g_seq ?_
      refine g_seq ?_
      refine g_run (by kernel_rfl) [(0, .d), (1, .d), (2, .d), (3, .d), (4, .d)] rfl ?_
      refine r_d rfl rfl rfl (s_move rfl rfl) ?_
      refine r_d rfl rfl rfl (s_fieldAddr rfl fl_api_Program_0 rfl rfl rfl rfl) ?_
      refine r_d rfl rfl rfl (s_load rfl rfl (by exact ty_L_api_Decl) rfl) ?_
      refine r_d rfl rfl rfl (m_len (f := enc_S_api_Decl) p_a0.f0_Decls rfl el_L_api_Decl rfl (asl rfl)) ?_
      refine r_d rfl rfl rfl (s_cmp rfl rfl rfl rfl) ?_
      refine r_end ?_
      refine g_known 15 false rfl ht0 ?_
      refine g_condF rfl ?_
      refine g_exit rfl ?_
      refine g_sub [(1, .int .i64 most_a1), (2, .ptr (enc_S_api_Program p_a0)), (6, .int .i64 n_1)] (Sub.cons' rfl (Sub.cons' rfl (Sub.cons' rfl (Sub.nil _)))) ?_
      exact HK0 _ _ ⟨n_1, rfl, rfl, hr⟩
    ·
      rw [hd0, lf_constraintref42_Find_L0] at hr
      refine g_seq ?_
      refine g_seq ?_
      refine g_run (by kernel_rfl) [(0, .d), (1, .d), (2, .d), (3, .d), (4, .d)] rfl ?_
      refine r_d rfl rfl rfl (s_move rfl rfl) ?_
      refine r_d rfl rfl rfl (s_fieldAddr rfl fl_api_Program_0 rfl rfl rfl rfl) ?_
      refine r_d rfl rfl rfl (s_load rfl rfl (by exact ty_L_api_Decl) rfl) ?_
      refine r_d rfl rfl rfl (m_len (f := enc_S_api_Decl) p_a0.f0_Decls rfl el_L_api_Decl rfl (asl rfl)) ?_
      refine r_d rfl rfl rfl (s_cmp rfl rfl rfl rfl) ?_
      refine r_end ?_
      refine g_known 15 true rfl ht0 ?_
      refine g_condT rfl ?_
      refine g_skip ?_
      refine g_seq ?_
      refine g_block ?_
      refine g_seq ?_
      refine g_seq ?_
      refine g_run (by kernel_rfl) [(0, .d), (1, .d), (2, .d), (3, .d), (4, .d), (5, .d), (6, .d), (7, .d), (8, .d), (9, .d), (10, .d), (11, .d), (12, .d), (13, .d), (14, .d), (15, .d)] rfl ?_
      refine r_d rfl rfl rfl (s_fieldAddr rfl fl_api_Program_0 rfl rfl rfl rfl) ?_
      refine r_d rfl rfl rfl (s_load rfl rfl (by exact ty_L_api_Decl) rfl) ?_
      refine r_d rfl rfl rfl (s_move rfl rfl) ?_
      refine r_d rfl rfl rfl (m_index (f := enc_S_api_Decl) p_a0.f0_Decls rfl el_L_api_Decl rfl (asl rfl) rfl hq0 sz_S_api_Decl rfl) ?_
      refine r_d rfl rfl rfl (s_fieldAddr rfl fl_api_Decl_1 rfl rfl rfl rfl) ?_
      refine r_d rfl rfl rfl (s_load rfl rfl (by exact ty_int) rfl) ?_
      refine r_d rfl rfl rfl (s_cmp rfl rfl rfl rfl) ?_
      refine r_d rfl rfl rfl (s_move rfl rfl) ?_
      refine r_sB 25 rfl hr (fun h25_16 hr => ?_) (fun h25_16 hr => ?_)
      ·
        refine r_skip rfl rfl rfl ?_
        refine r_skip rfl rfl rfl ?_
        refine r_skip rfl rfl rfl ?_
        refine r_skip rfl rfl rfl ?_
        refine r_skip rfl rfl rfl ?_
        refine r_skip rfl rfl rfl ?_
        refine r_skip rfl rfl rfl ?_
        refine r_d rfl rfl rfl (s_pickT rfl rfl rfl) ?_
        refine r_end ?_
        refine g_condT rfl ?_
        refine g_seq ?_
        refine g_run (by kernel_rfl) [(0, .d), (1, .d)] rfl ?_
        refine r_d rfl rfl rfl (s_assign rfl rfl) ?_
        refine r_d rfl rfl rfl (s_assign rfl rfl) ?_
        refine r_end ?_
        obtain rfl := Option.some.inj hr
        refine g_ret Try.func10 _ (.cons (resTmp rfl (Wk.full _)) (.cons (resTmp rfl (Wk.refl _)) .nil)) ?_
        rfl
      ·
        refine r_d rfl rfl rfl (s_fieldAddr rfl fl_api_Program_0 rfl rfl rfl rfl) ?_
        refine r_d rfl rfl rfl (s_load rfl rfl (by exact ty_L_api_Decl) rfl) ?_
        refine r_d rfl rfl rfl (s_move rfl rfl) ?_
        refine r_d rfl rfl rfl (m_index (f := enc_S_api_Decl) p_a0.f0_Decls rfl el_L_api_Decl rfl (asl rfl) rfl hq0 sz_S_api_Decl rfl) ?_
        refine r_d rfl rfl rfl (s_fieldAddr rfl fl_api_Decl_1 rfl rfl rfl rfl) ?_
        refine r_d rfl rfl rfl (s_load rfl rfl (by exact ty_int) rfl) ?_
        refine r_d rfl rfl rfl (s_cmp rfl rfl rfl rfl) ?_
        refine r_d rfl rfl rfl (s_pickF rfl rfl rfl) ?_
        refine r_end ?_
        refine g_sB 33 rfl hr (fun h33_17 hr => ?_) (fun h33_17 hr => ?_)
        ·
          refine g_condT rfl ?_
          refine g_seq ?_
          refine g_run (by kernel_rfl) [(0, .d), (1, .d)] rfl ?_
          refine r_d rfl rfl rfl (s_assign rfl rfl) ?_
          refine r_d rfl rfl rfl (s_assign rfl rfl) ?_
          refine r_end ?_
          obtain rfl := Option.some.inj hr
          refine g_ret Try.func10 _ (.cons (resTmp rfl (Wk.full _)) (.cons (resTmp rfl (Wk.refl _)) .nil)) ?_
          rfl
        ·
          refine g_condF rfl ?_
          refine g_skip ?_
          refine g_run (by kernel_rfl) [(0, .d), (1, .d), (2, .d), (3, .d), (4, .d), (5, .d), (6, .d), (7, .d), (8, .d), (9, .d)] rfl ?_
          refine r_d rfl rfl rfl (s_move rfl rfl) ?_
          refine r_d rfl rfl rfl (s_arW rfl rfl rfl rfl) ?_
          refine r_d rfl rfl rfl (s_fieldAddr rfl fl_api_Program_0 rfl rfl rfl rfl) ?_
          refine r_d rfl rfl rfl (s_load rfl rfl (by exact ty_L_api_Decl) rfl) ?_
          refine r_d rfl rfl rfl (s_move rfl rfl) ?_
          refine r_d rfl rfl rfl (m_index (f := enc_S_api_Decl) p_a0.f0_Decls rfl el_L_api_Decl rfl (asl rfl) rfl hq0 sz_S_api_Decl rfl) ?_
          refine r_d rfl rfl rfl (s_fieldAddr rfl fl_api_Decl_1 rfl rfl rfl rfl) ?_
          refine r_d rfl rfl rfl (s_load rfl rfl (by exact ty_int) rfl) ?_
          refine r_d rfl rfl rfl (s_arW rfl rfl rfl rfl) ?_
          refine r_d rfl rfl rfl (s_assign rfl rfl) ?_
          refine r_end ?_
          refine g_inBlock ?_
          refine g_run (by kernel_rfl) [(0, .d), (1, .d), (2, .d)] rfl ?_
          refine r_d rfl rfl rfl (s_move rfl rfl) ?_
          refine r_d rfl rfl rfl (s_ar (r := ((i_2 + 1 : Nat) : Int)) rfl rfl rfl (by simp [iar]) (by omega)) ?_
          refine r_d rfl rfl rfl (s_assign rfl rfl) ?_
          refine r_end ?_
          refine g_sub [(1, .int .i64 most_a1), (2, .ptr (enc_S_api_Program p_a0)), (6, .int .i64 (wr ((wr (n_1 + (1 : Int))) + q_16.f1_Arity))), (7, .int .i64 ((i_2 + 1 : Nat) : Int))] (Sub.cons' rfl (Sub.cons' rfl (Sub.cons' rfl (Sub.cons' rfl (Sub.nil _))))) ?_
          exact IH0 _ _ _ (by omega) ⟨(wr ((wr (n_1 + (1 : Int))) + q_16.f1_Arity)), (i_2 + 1), rfl, rfl, rfl, (by omega), hr⟩

noncomputable def lf_constraintlaw42_TerminateFinds (fuel : Nat) (p_a0 : S_api_Program) (most_a1 : Int) : Option (Bool) :=
  ((lf_constraintlaw42_light p_a0 most_a1).bind fun r_1 =>
  (bif (!r_1) then
  ((lf_constraintlaw42_exampleHolds fuel).bind fun r_3 =>
  some (r_3))
  else
  ((lf_terminate_Find fuel p_a0 most_a1).bind fun r_4 =>
  ((lf_constraintref42_Find fuel p_a0 most_a1).bind fun r_5 =>
  (bif (r_4.2 == r_5.2) then
  ((lf_constraintref42_Same r_4.1 r_5.1).bind fun r_7 =>
  (bif r_7 then
  ((lf_constraintlaw42_exampleHolds fuel).bind fun r_9 =>
  some (r_9))
  else
  some (false)))
  else
  some (false))))))

set_option maxHeartbeats 1000000 in
theorem lg_constraintlaw42_TerminateFinds (fuel : Nat) (p_a0 : S_api_Program) (most_a1 : Int) (res : Bool) (hr : lf_constraintlaw42_TerminateFinds fuel p_a0 most_a1 = some res) : Gives Try.prog 3 [enc_S_api_Program p_a0, .int .i64 most_a1] (.bool res) := by
  unfold lf_constraintlaw42_TerminateFinds at hr
  refine spec_env [(0, enc_S_api_Program p_a0), (1, .int .i64 most_a1)] Try.func3 rfl rfl fun K hK => ?_
  refine g_seq ?_
  refine g_run (by kernel_rfl) [(0, .d), (1, .d)] rfl ?_
  refine r_d rfl rfl rfl (s_box rfl rfl rfl) ?_
  refine r_d rfl rfl rfl (s_assign rfl rfl) ?_
  refine r_end ?_
  refine g_seq ?_
  refine g_seq ?_
  refine g_run (by kernel_rfl) [(0, .d), (1, .d), (2, .d), (3, .d)] rfl ?_
  refine r_d rfl rfl rfl (s_load rfl rfl (by exact ty_api_Program) (sz_S_api_Program _)) ?_
  refine r_d rfl rfl rfl (s_move rfl rfl) ?_
  obtain ⟨r_1, hr_1, hr⟩ := bindS hr
  refine r_d rfl rfl rfl (s_callD rfl cl_constraintlaw42_light (.cons rfl (Wk.refl _) (.cons rfl (Wk.refl _) .nil)) (lg_constraintlaw42_light _ _ _ hr_1)) ?_
  refine r_d rfl rfl rfl (s_not rfl rfl) ?_
  refine r_end ?_
  refine g_sB 12 rfl hr (fun h12_1 hr => ?_) (fun h12_1 hr => ?_)
  ·
    refine g_condT rfl ?_
    refine g_seq ?_
    refine g_run (by kernel_rfl) [(0, .d), (1, .d)] rfl ?_
    obtain ⟨r_3, hr_3, hr⟩ := bindS hr
    refine r_d rfl rfl rfl (s_callD rfl cl_constraintlaw42_exampleHolds .nil (lg_constraintlaw42_exampleHolds fuel _ hr_3)) ?_
    refine r_d rfl rfl rfl (s_assign rfl rfl) ?_
    refine r_end ?_
    obtain rfl := Option.some.inj hr
    refine g_ret Try.func3 _ (.cons (resTmp rfl (Wk.refl _)) .nil) ?_
    rfl
  ·
    refine g_condF rfl ?_
    refine g_skip ?_
    refine g_seq ?_
    refine g_run (by kernel_rfl) [(0, .d), (1, .d), (2, .d), (3, .d), (4, .d), (5, .d), (6, .d), (7, .d)] rfl ?_
    refine r_d rfl rfl rfl (s_load rfl rfl (by exact ty_api_Program) (sz_S_api_Program _)) ?_
    refine r_d rfl rfl rfl (s_move rfl rfl) ?_
    obtain ⟨r_4, hr_4, hr⟩ := bindS hr
    refine r_d rfl rfl rfl (s_callD rfl cl_terminate_Find (.cons rfl (Wk.refl _) (.cons rfl (Wk.refl _) .nil)) (lg_terminate_Find fuel _ _ _ hr_4)) ?_
    refine r_d rfl rfl rfl (s_move rfl rfl) ?_
    refine r_d rfl rfl rfl (s_extract rfl rfl rfl) ?_
    refine r_d rfl rfl rfl (s_extract rfl rfl rfl) ?_
    refine r_d rfl rfl rfl (s_assign rfl rfl) ?_
    refine r_d rfl rfl rfl (s_assign rfl rfl) ?_
    refine r_end ?_
    refine g_seq ?_
    refine g_run (by kernel_rfl) [(0, .d), (1, .d), (2, .d), (3, .d), (4, .d), (5, .d), (6, .d), (7, .d)] rfl ?_
    refine r_d rfl rfl rfl (s_load rfl rfl (by exact ty_api_Program) (sz_S_api_Program _)) ?_
    refine r_d rfl rfl rfl (s_move rfl rfl) ?_
    obtain ⟨r_5, hr_5, hr⟩ := bindS hr
    refine r_d rfl rfl rfl (s_callD rfl cl_constraintref42_Find (.cons rfl (Wk.refl _) (.cons rfl (Wk.refl _) .nil)) (lg_constraintref42_Find fuel _ _ _ hr_5)) ?_
    refine r_d rfl rfl rfl (s_move rfl rfl) ?_
    refine r_d rfl rfl rfl (s_extract rfl rfl rfl) ?_
    refine r_d rfl rfl rfl (s_extract rfl rfl rfl) ?_
    refine r_d rfl rfl rfl (s_assign rfl rfl) ?_
    refine r_d rfl rfl rfl (s_assign rfl rfl) ?_
    refine r_end ?_
    refine g_seq ?_
    refine g_run (by kernel_rfl) [(0, .d), (1, .d), (2, .d), (3, .d), (4, .d), (5, .d), (6, .d), (7, .d), (8, .d), (9, .d), (10, .d), (11, .d)] rfl ?_
    refine r_d rfl rfl rfl (s_move rfl rfl) ?_
    refine r_d rfl rfl rfl (s_move rfl rfl) ?_
    refine r_d rfl rfl rfl (s_cmp rfl rfl rfl rfl) ?_
    refine r_d rfl rfl rfl (s_move rfl rfl) ?_
    refine r_sB 29 rfl hr (fun h29_5 hr => ?_) (fun h29_5 hr => ?_)
    ·
      refine r_d rfl rfl rfl (s_move rfl rfl) ?_
      refine r_d rfl rfl rfl (s_move rfl rfl) ?_
      obtain ⟨r_7, hr_7, hr⟩ := bindS hr
      refine r_d rfl rfl rfl (s_callD rfl cl_constraintref42_Same (.cons rfl (Wk.refl _) (.cons rfl (Wk.refl _) .nil)) (lg_constraintref42_Same _ _ _ hr_7)) ?_
      refine r_d rfl rfl rfl (s_pickT rfl rfl rfl) ?_
      refine r_d rfl rfl rfl (s_move rfl rfl) ?_
      refine r_sB 34 rfl hr (fun h34_7 hr => ?_) (fun h34_7 hr => ?_)
      ·
        obtain ⟨r_9, hr_9, hr⟩ := bindS hr
        refine r_d rfl rfl rfl (s_callD rfl cl_constraintlaw42_exampleHolds .nil (lg_constraintlaw42_exampleHolds fuel _ hr_9)) ?_
        refine r_d rfl rfl rfl (s_pickT rfl rfl rfl) ?_
        refine r_d rfl rfl rfl (s_assign rfl rfl) ?_
        refine r_end ?_
        obtain rfl := Option.some.inj hr
        refine g_ret Try.func3 _ (.cons (resTmp rfl (Wk.refl _)) .nil) ?_
        rfl
      ·
        refine r_skip rfl rfl rfl ?_
        refine r_d rfl rfl rfl (s_pickF rfl rfl rfl) ?_
        refine r_d rfl rfl rfl (s_assign rfl rfl) ?_
        refine r_end ?_
        obtain rfl := Option.some.inj hr
        refine g_ret Try.func3 _ (.cons (resTmp rfl (Wk.refl _)) .nil) ?_
        rfl
    ·
      refine r_skip rfl rfl rfl ?_
      refine r_skip rfl rfl rfl ?_
      refine r_skip rfl rfl rfl ?_
      refine r_d rfl rfl rfl (s_pickF rfl rfl rfl) ?_
      refine r_d rfl rfl rfl (s_move rfl rfl) ?_
      refine r_skip rfl rfl rfl ?_
      refine r_d rfl rfl rfl (s_pickF rfl rfl rfl) ?_
      refine r_d rfl rfl rfl (s_assign rfl rfl) ?_
      refine r_end ?_
      obtain rfl := Option.some.inj hr
      refine g_ret Try.func3 _ (.cons (resTmp rfl (Wk.refl _)) .nil) ?_
      rfl

noncomputable def lf_constraintlaw42_TerminateFirst_L0 (k : Option (Bool)) (fuel : Nat) (most_a1 : Int) (p_a0 : S_api_Program) (r_11 : (List S_api_Rank) × Int) : Nat → (List Int) → Bool → Option (Bool)
  | 0, digits_20, ok_21 =>
  none
  | rest + 1, digits_20, ok_21 =>
  (bif ok_21 then
  ((lf_terminate_Ranks p_a0.f0_Decls digits_20).bind fun r_26 =>
  (bif (r_11.2 == (0 : Int)) then
  ((lf_constraintref42_Same r_26 r_11.1).bind fun r_28 =>
  (bif r_28 then
  ((lf_constraintlaw42_exampleHolds fuel).bind fun r_30 =>
  some (r_30))
  else
  ((lf_rank_Check fuel p_a0 r_26).bind fun r_31 =>
  (bif (r_31 == (0 : Int)) then
  some (false)
  else
  ((lf_constraintref42_Next digits_20 most_a1).bind fun r_33 =>
  (lf_constraintlaw42_TerminateFirst_L0 k fuel most_a1 p_a0 r_11 rest r_33.1 r_33.2))))))
  else
  ((lf_rank_Check fuel p_a0 r_26).bind fun r_34 =>
  (bif (r_34 == (0 : Int)) then
  some (false)
  else
  ((lf_constraintref42_Next digits_20 most_a1).bind fun r_36 =>
  (lf_constraintlaw42_TerminateFirst_L0 k fuel most_a1 p_a0 r_11 rest r_36.1 r_36.2))))))
  else
  k)

noncomputable def lf_constraintlaw42_TerminateFirst_J0 (k : Option (Bool)) (fuel : Nat) (p_a0 : S_api_Program) (r_11 : (List S_api_Rank) × Int) : Option (Bool) :=
  (bif (r_11.2 == (0 : Int)) then
  ((lf_rank_Check fuel p_a0 r_11.1).bind fun r_38 =>
  (bif (r_38 != (0 : Int)) then
  some (false)
  else
  k))
  else
  k)
noncomputable def lf_constraintlaw42_TerminateFirst (fuel : Nat) (p_a0 : S_api_Program) (most_a1 : Int) : Option (Bool) :=
  ((lf_constraintlaw42_light p_a0 most_a1).bind fun r_1 =>
  (bif (!r_1) then
  ((lf_constraintlaw42_exampleHolds fuel).bind fun r_3 =>
  some (r_3))
  else
  ((lf_constraintlaw42_size p_a0.f0_Decls).bind fun r_4 =>
  (bif (decide (r_4 > (6 : Int))) then
  ((lf_constraintlaw42_exampleHolds fuel).bind fun r_6 =>
  some (r_6))
  else
  (bif (decide (most_a1 < (1 : Int))) then
  ((lf_constraintlaw42_exampleHolds fuel).bind fun r_8 =>
  some (r_8))
  else
  (bif (decide (most_a1 > (3 : Int))) then
  ((lf_constraintlaw42_exampleHolds fuel).bind fun r_10 =>
  some (r_10))
  else
  ((lf_terminate_Find fuel p_a0 most_a1).bind fun r_11 =>
  (bif (r_11.2 == (2 : Int)) then
  (bif ((r_11.1.length : Int) == (0 : Int)) then
  ((lf_constraintlaw42_exampleHolds fuel).bind fun r_14 =>
  some (r_14))
  else
  some (false))
  else
  (bif (r_11.2 == (6 : Int)) then
  (bif ((r_11.1.length : Int) == (0 : Int)) then
  ((lf_constraintlaw42_exampleHolds fuel).bind fun r_17 =>
  some (r_17))
  else
  some (false))
  else
  (lf_constraintlaw42_TerminateFirst_J0 (((makeO 8 r_4).bind fun n_18 =>
  (lf_constraintlaw42_TerminateFirst_L0 ((bif (r_11.2 == (13 : Int)) then
  (bif ((r_11.1.length : Int) == (0 : Int)) then
  ((lf_constraintlaw42_exampleHolds fuel).bind fun r_24 =>
  some (r_24))
  else
  some (false))
  else
  some (false))) fuel most_a1 p_a0 r_11 fuel (List.replicate n_18 0) true))) fuel p_a0 r_11))))))))))

set_option maxHeartbeats 1000000 in
theorem lg_constraintlaw42_TerminateFirst (fuel : Nat) (p_a0 : S_api_Program) (most_a1 : Int) (res : Bool) (hr : lf_constraintlaw42_TerminateFirst fuel p_a0 most_a1 = some res) : Gives Try.prog 6 [enc_S_api_Program p_a0, .int .i64 most_a1] (.bool res) := by
  unfold lf_constraintlaw42_TerminateFirst at hr
  refine spec_env [(0, enc_S_api_Program p_a0), (1, .int .i64 most_a1)] Try.func6 rfl rfl fun K hK => ?_
  refine g_seq ?_
  refine g_run (by kernel_rfl) [(0, .d), (1, .d)] rfl ?_
  refine r_d rfl rfl rfl (s_box rfl rfl rfl) ?_
  refine r_d rfl rfl rfl (s_assign rfl rfl) ?_
  refine r_end ?_
  refine g_seq ?_
  refine g_seq ?_
  refine g_run (by kernel_rfl) [(0, .d), (1, .d), (2, .d), (3, .d), (4, .d), (5, .d), (6, .d), (7, .d), (8, .d), (9, .d), (10, .d), (11, .d), (12, .d), (13, .d), (14, .d), (15, .d), (16, .d), (17, .d)] rfl ?_
  refine r_d rfl rfl rfl (s_load rfl rfl (by exact ty_api_Program) (sz_S_api_Program _)) ?_
  refine r_d rfl rfl rfl (s_move rfl rfl) ?_
  obtain ⟨r_1, hr_1, hr⟩ := bindS hr
  refine r_d rfl rfl rfl (s_callD rfl cl_constraintlaw42_light (.cons rfl (Wk.refl _) (.cons rfl (Wk.refl _) .nil)) (lg_constraintlaw42_light _ _ _ hr_1)) ?_
  refine r_d rfl rfl rfl (s_not rfl rfl) ?_
  refine r_d rfl rfl rfl (s_move rfl rfl) ?_
  refine r_sB 14 rfl hr (fun h14_1 hr => ?_) (fun h14_1 hr => ?_)
  ·
    refine r_skip rfl rfl rfl ?_
    refine r_skip rfl rfl rfl ?_
    refine r_skip rfl rfl rfl ?_
    refine r_skip rfl rfl rfl ?_
    refine r_d rfl rfl rfl (s_pickT rfl rfl rfl) ?_
    refine r_d rfl rfl rfl (s_move rfl rfl) ?_
    refine r_skip rfl rfl rfl ?_
    refine r_skip rfl rfl rfl ?_
    refine r_d rfl rfl rfl (s_pickT rfl rfl rfl) ?_
    refine r_d rfl rfl rfl (s_move rfl rfl) ?_
    refine r_skip rfl rfl rfl ?_
    refine r_skip rfl rfl rfl ?_
    refine r_d rfl rfl rfl (s_pickT rfl rfl rfl) ?_
    refine r_end ?_
    refine g_condT rfl ?_
    refine g_seq ?_
    refine g_run (by kernel_rfl) [(0, .d), (1, .d)] rfl ?_
    obtain ⟨r_3, hr_3, hr⟩ := bindS hr
    refine r_d rfl rfl rfl (s_callD rfl cl_constraintlaw42_exampleHolds .nil (lg_constraintlaw42_exampleHolds fuel _ hr_3)) ?_
    refine r_d rfl rfl rfl (s_assign rfl rfl) ?_
    refine r_end ?_
    obtain rfl := Option.some.inj hr
    refine g_ret Try.func6 _ (.cons (resTmp rfl (Wk.refl _)) .nil) ?_
    rfl
  ·
    refine r_d rfl rfl rfl (s_fieldAddr rfl fl_api_Program_0 rfl rfl rfl rfl) ?_
    refine r_d rfl rfl rfl (s_load rfl rfl (by exact ty_L_api_Decl) rfl) ?_
    obtain ⟨r_4, hr_4, hr⟩ := bindS hr
    refine r_d rfl rfl rfl (s_callD rfl cl_constraintlaw42_size (.cons rfl (Wk.refl _) .nil) (lg_constraintlaw42_size _ _ hr_4)) ?_
    refine r_d rfl rfl rfl (s_cmp rfl rfl rfl rfl) ?_
    refine r_d rfl rfl rfl (s_pickF rfl rfl rfl) ?_
    refine r_d rfl rfl rfl (s_move rfl rfl) ?_
    refine r_sB 20 rfl hr (fun h20_4 hr => ?_) (fun h20_4 hr => ?_)
    ·
      refine r_skip rfl rfl rfl ?_
      refine r_skip rfl rfl rfl ?_
      refine r_d rfl rfl rfl (s_pickT rfl rfl rfl) ?_
      refine r_d rfl rfl rfl (s_move rfl rfl) ?_
      refine r_skip rfl rfl rfl ?_
      refine r_skip rfl rfl rfl ?_
      refine r_d rfl rfl rfl (s_pickT rfl rfl rfl) ?_
      refine r_end ?_
      refine g_condT rfl ?_
      refine g_seq ?_
      refine g_run (by kernel_rfl) [(0, .d), (1, .d)] rfl ?_
      obtain ⟨r_6, hr_6, hr⟩ := bindS hr
      refine r_d rfl rfl rfl (s_callD rfl cl_constraintlaw42_exampleHolds .nil (lg_constraintlaw42_exampleHolds fuel _ hr_6)) ?_
      refine r_d rfl rfl rfl (s_assign rfl rfl) ?_
      refine r_end ?_
      obtain rfl := Option.some.inj hr
      refine g_ret Try.func6 _ (.cons (resTmp rfl (Wk.refl _)) .nil) ?_
      rfl
    ·
      refine r_d rfl rfl rfl (s_move rfl rfl) ?_
      refine r_d rfl rfl rfl (s_cmp rfl rfl rfl rfl) ?_
      refine r_d rfl rfl rfl (s_pickF rfl rfl rfl) ?_
      refine r_d rfl rfl rfl (s_move rfl rfl) ?_
      refine r_sB 24 rfl hr (fun h24_6 hr => ?_) (fun h24_6 hr => ?_)
      ·
        refine r_skip rfl rfl rfl ?_
        refine r_skip rfl rfl rfl ?_
        refine r_d rfl rfl rfl (s_pickT rfl rfl rfl) ?_
        refine r_end ?_
        refine g_condT rfl ?_
        refine g_seq ?_
        refine g_run (by kernel_rfl) [(0, .d), (1, .d)] rfl ?_
        obtain ⟨r_8, hr_8, hr⟩ := bindS hr
        refine r_d rfl rfl rfl (s_callD rfl cl_constraintlaw42_exampleHolds .nil (lg_constraintlaw42_exampleHolds fuel _ hr_8)) ?_
        refine r_d rfl rfl rfl (s_assign rfl rfl) ?_
        refine r_end ?_
        obtain rfl := Option.some.inj hr
        refine g_ret Try.func6 _ (.cons (resTmp rfl (Wk.refl _)) .nil) ?_
        rfl
      ·
        refine r_d rfl rfl rfl (s_move rfl rfl) ?_
        refine r_d rfl rfl rfl (s_cmp rfl rfl rfl rfl) ?_
        refine r_d rfl rfl rfl (s_pickF rfl rfl rfl) ?_
        refine r_end ?_
        refine g_sB 27 rfl hr (fun h27_8 hr => ?_) (fun h27_8 hr => ?_)
        ·
          refine g_condT rfl ?_
          refine g_seq ?_
          refine g_run (by kernel_rfl) [(0, .d), (1, .d)] rfl ?_
          obtain ⟨r_10, hr_10, hr⟩ := bindS hr
          refine r_d rfl rfl rfl (s_callD rfl cl_constraintlaw42_exampleHolds .nil (lg_constraintlaw42_exampleHolds fuel _ hr_10)) ?_
          refine r_d rfl rfl rfl (s_assign rfl rfl) ?_
          refine r_end ?_
          obtain rfl := Option.some.inj hr
          refine g_ret Try.func6 _ (.cons (resTmp rfl (Wk.refl _)) .nil) ?_
          rfl
        ·
          refine g_condF rfl ?_
          refine g_skip ?_
          refine g_seq ?_
          refine g_run (by kernel_rfl) [(0, .d), (1, .d), (2, .d), (3, .d), (4, .d), (5, .d), (6, .d), (7, .d)] rfl ?_
          refine r_d rfl rfl rfl (s_load rfl rfl (by exact ty_api_Program) (sz_S_api_Program _)) ?_
          refine r_d rfl rfl rfl (s_move rfl rfl) ?_
          obtain ⟨r_11, hr_11, hr⟩ := bindS hr
          refine r_d rfl rfl rfl (s_callD rfl cl_terminate_Find (.cons rfl (Wk.refl _) (.cons rfl (Wk.refl _) .nil)) (lg_terminate_Find fuel _ _ _ hr_11)) ?_
          refine r_d rfl rfl rfl (s_move rfl rfl) ?_
          refine r_d rfl rfl rfl (s_extract rfl rfl rfl) ?_
          refine r_d rfl rfl rfl (s_extract rfl rfl rfl) ?_
          refine r_d rfl rfl rfl (s_assign rfl rfl) ?_
          refine r_d rfl rfl rfl (s_assign rfl rfl) ?_
          refine r_end ?_
          refine g_seq ?_
          refine g_seq ?_
          refine g_run (by kernel_rfl) [(0, .d), (1, .d), (2, .d), (3, .d), (4, .d), (5, .d)] rfl ?_
          refine r_d rfl rfl rfl (s_move rfl rfl) ?_
          refine r_d rfl rfl rfl (s_cmp rfl rfl rfl rfl) ?_
          refine r_d rfl rfl rfl (s_move rfl rfl) ?_
          refine r_sB 37 rfl hr (fun h37_11 hr => ?_) (fun h37_11 hr => ?_)
          ·
            refine r_skip rfl rfl rfl ?_
            refine r_skip rfl rfl rfl ?_
            refine r_d rfl rfl rfl (s_pickT rfl rfl rfl) ?_
            refine r_end ?_
            refine g_condT rfl ?_
            refine g_seq ?_
            refine g_run (by kernel_rfl) [(0, .d), (1, .d), (2, .d), (3, .d), (4, .d), (5, .d), (6, .d)] rfl ?_
            refine r_d rfl rfl rfl (s_move rfl rfl) ?_
            refine r_d rfl rfl rfl (m_len (f := enc_S_api_Rank) r_11.1 rfl el_L_api_Rank rfl (asl rfl)) ?_
            refine r_d rfl rfl rfl (s_cmp rfl rfl rfl rfl) ?_
            refine r_d rfl rfl rfl (s_move rfl rfl) ?_
            refine r_sB 44 rfl hr (fun h44_12 hr => ?_) (fun h44_12 hr => ?_)
            ·
              obtain ⟨r_14, hr_14, hr⟩ := bindS hr
              refine r_d rfl rfl rfl (s_callD rfl cl_constraintlaw42_exampleHolds .nil (lg_constraintlaw42_exampleHolds fuel _ hr_14)) ?_
              refine r_d rfl rfl rfl (s_pickT rfl rfl rfl) ?_
              refine r_d rfl rfl rfl (s_assign rfl rfl) ?_
              refine r_end ?_
              obtain rfl := Option.some.inj hr
              refine g_ret Try.func6 _ (.cons (resTmp rfl (Wk.refl _)) .nil) ?_
              rfl
            ·
              refine r_skip rfl rfl rfl ?_
              refine r_d rfl rfl rfl (s_pickF rfl rfl rfl) ?_
              refine r_d rfl rfl rfl (s_assign rfl rfl) ?_
              refine r_end ?_
              obtain rfl := Option.some.inj hr
              refine g_ret Try.func6 _ (.cons (resTmp rfl (Wk.refl _)) .nil) ?_
              rfl
          ·
            refine r_d rfl rfl rfl (s_move rfl rfl) ?_
            refine r_d rfl rfl rfl (s_cmp rfl rfl rfl rfl) ?_
            refine r_d rfl rfl rfl (s_pickF rfl rfl rfl) ?_
            refine r_end ?_
            refine g_sB 40 rfl hr (fun h40_14 hr => ?_) (fun h40_14 hr => ?_)
            ·
              refine g_condT rfl ?_
              refine g_seq ?_
              refine g_run (by kernel_rfl) [(0, .d), (1, .d), (2, .d), (3, .d), (4, .d), (5, .d), (6, .d)] rfl ?_
              refine r_d rfl rfl rfl (s_move rfl rfl) ?_
              refine r_d rfl rfl rfl (m_len (f := enc_S_api_Rank) r_11.1 rfl el_L_api_Rank rfl (asl rfl)) ?_
              refine r_d rfl rfl rfl (s_cmp rfl rfl rfl rfl) ?_
              refine r_d rfl rfl rfl (s_move rfl rfl) ?_
              refine r_sB 44 rfl hr (fun h44_15 hr => ?_) (fun h44_15 hr => ?_)
              ·
                obtain ⟨r_17, hr_17, hr⟩ := bindS hr
                refine r_d rfl rfl rfl (s_callD rfl cl_constraintlaw42_exampleHolds .nil (lg_constraintlaw42_exampleHolds fuel _ hr_17)) ?_
                refine r_d rfl rfl rfl (s_pickT rfl rfl rfl) ?_
                refine r_d rfl rfl rfl (s_assign rfl rfl) ?_
                refine r_end ?_
                obtain rfl := Option.some.inj hr
                refine g_ret Try.func6 _ (.cons (resTmp rfl (Wk.refl _)) .nil) ?_
                rfl
              ·
                refine r_skip rfl rfl rfl ?_
                refine r_d rfl rfl rfl (s_pickF rfl rfl rfl) ?_
                refine r_d rfl rfl rfl (s_assign rfl rfl) ?_
                refine r_end ?_
                obtain rfl := Option.some.inj hr
                refine g_ret Try.func6 _ (.cons (resTmp rfl (Wk.refl _)) .nil) ?_
                rfl
            ·
              refine g_condF rfl ?_
              refine g_skip ?_
              obtain ⟨kkJ0, hkkJ0, hr⟩ := exK (fun k => lf_constraintlaw42_TerminateFirst_J0 k fuel p_a0 r_11) hr
              refine g_seqJ (fun env σ => env = [(1, .int .i64 most_a1), (2, .ptr (enc_S_api_Program p_a0)), (5, .lst (r_11.1.map enc_S_api_Rank)), (6, .int .i64 r_11.2)] ∧ σ = [] ∧ kkJ0 = some res) ?_ (fun HKJ0 => ?_)
              ·
                rintro _ _ ⟨rfl, rfl, hr⟩
                rw [hkkJ0] at hr
                refine g_seq ?_
                refine g_run (by kernel_rfl) [(0, .d), (1, .d), (2, .d), (3, .w), (4, .d), (5, .d)] rfl ?_
                refine r_d rfl rfl rfl (s_fieldAddr rfl fl_api_Program_0 rfl rfl rfl rfl) ?_
                refine r_d rfl rfl rfl (s_load rfl rfl (by exact ty_L_api_Decl) rfl) ?_
                refine r_d rfl rfl rfl (s_callD rfl cl_constraintlaw42_size (.cons rfl (Wk.refl _) .nil) (lg_constraintlaw42_size _ _ hr_4)) ?_
                obtain ⟨n_18, hn_18, hr⟩ := bindS hr
                refine r_w rfl rfl rfl (m_makeArr (f := (D.int .i64)) 0 rfl el_L_int zv_int rfl rfl hn_18) ?_
                rintro _ _ ⟨b58_18, rfl, rfl⟩
                refine r_d rfl rfl rfl (s_assign rfl rfl) ?_
                refine r_d rfl rfl rfl (s_assign rfl rfl) ?_
                refine r_end ?_
                refine g_freezeArr (l := (List.replicate n_18 0).map (D.int .i64)) 7 rfl (pf0 _) (by simp) ?_
                refine g_seq ?_
                obtain ⟨kk0, hkk0, hr⟩ := exK (fun k => lf_constraintlaw42_TerminateFirst_L0 k fuel most_a1 p_a0 r_11 fuel (List.replicate n_18 0) true) hr
                refine g_blockJ (fun env σ => env = [(5, .lst (r_11.1.map enc_S_api_Rank)), (6, .int .i64 r_11.2)] ∧ σ = [] ∧ kk0 = some res) ?_ (fun HK0 => ?_)
                ·
                  rintro _ _ ⟨rfl, rfl, hr⟩
                  rw [hkk0] at hr
                  refine g_seq ?_
                  refine g_run (by kernel_rfl) [(0, .d), (1, .d), (2, .d), (3, .d), (4, .d), (5, .d), (6, .d), (7, .d), (8, .d), (9, .d), (10, .d)] rfl ?_
                  refine r_d rfl rfl rfl (s_move rfl rfl) ?_
                  refine r_d rfl rfl rfl (s_cmp rfl rfl rfl rfl) ?_
                  refine r_d rfl rfl rfl (s_move rfl rfl) ?_
                  refine r_sB 84 rfl hr (fun h84_21 hr => ?_) (fun h84_21 hr => ?_)
                  ·
                    refine r_d rfl rfl rfl (s_move rfl rfl) ?_
                    refine r_d rfl rfl rfl (m_len (f := enc_S_api_Rank) r_11.1 rfl el_L_api_Rank rfl (asl rfl)) ?_
                    refine r_d rfl rfl rfl (s_cmp rfl rfl rfl rfl) ?_
                    refine r_d rfl rfl rfl (s_pickT rfl rfl rfl) ?_
                    refine r_d rfl rfl rfl (s_move rfl rfl) ?_
                    refine r_sB 89 rfl hr (fun h89_22 hr => ?_) (fun h89_22 hr => ?_)
                    ·
                      obtain ⟨r_24, hr_24, hr⟩ := bindS hr
                      refine r_d rfl rfl rfl (s_callD rfl cl_constraintlaw42_exampleHolds .nil (lg_constraintlaw42_exampleHolds fuel _ hr_24)) ?_
                      refine r_d rfl rfl rfl (s_pickT rfl rfl rfl) ?_
                      refine r_d rfl rfl rfl (s_assign rfl rfl) ?_
                      refine r_end ?_
                      obtain rfl := Option.some.inj hr
                      refine g_ret Try.func6 _ (.cons (resTmp rfl (Wk.refl _)) .nil) ?_
                      rfl
                    ·
                      refine r_skip rfl rfl rfl ?_
                      refine r_d rfl rfl rfl (s_pickF rfl rfl rfl) ?_
                      refine r_d rfl rfl rfl (s_assign rfl rfl) ?_
                      refine r_end ?_
                      obtain rfl := Option.some.inj hr
                      refine g_ret Try.func6 _ (.cons (resTmp rfl (Wk.refl _)) .nil) ?_
                      rfl
                  ·
                    refine r_skip rfl rfl rfl ?_
                    refine r_skip rfl rfl rfl ?_
                    refine r_skip rfl rfl rfl ?_
                    refine r_d rfl rfl rfl (s_pickF rfl rfl rfl) ?_
                    refine r_d rfl rfl rfl (s_move rfl rfl) ?_
                    refine r_skip rfl rfl rfl ?_
                    refine r_d rfl rfl rfl (s_pickF rfl rfl rfl) ?_
                    refine r_d rfl rfl rfl (s_assign rfl rfl) ?_
                    refine r_end ?_
                    obtain rfl := Option.some.inj hr
                    refine g_ret Try.func6 _ (.cons (resTmp rfl (Wk.refl _)) .nil) ?_
                    rfl
                ·
                  refine g_sub [(1, .int .i64 most_a1), (2, .ptr (enc_S_api_Program p_a0)), (5, .lst (r_11.1.map enc_S_api_Rank)), (6, .int .i64 r_11.2), (7, .lst ((List.replicate n_18 0).map (D.int .i64))), (8, .bool true)] (Sub.cons' rfl (Sub.cons' rfl (Sub.cons' rfl (Sub.cons' rfl (Sub.cons' rfl (Sub.cons' rfl (Sub.nil _))))))) ?_
                  refine g_loop (fun n env σ => ∃ (digits_20 : (List Int)) (ok_21 : Bool) (n0 : Nat), (n0 = n) ∧ (env = [(1, .int .i64 most_a1), (2, .ptr (enc_S_api_Program p_a0)), (5, .lst (r_11.1.map enc_S_api_Rank)), (6, .int .i64 r_11.2), (7, .lst (digits_20.map (D.int .i64))), (8, .bool ok_21)]) ∧ (σ = []) ∧ (lf_constraintlaw42_TerminateFirst_L0 kk0 fuel most_a1 p_a0 r_11 n0 digits_20 ok_21 = some res)) _ ⟨(List.replicate n_18 0), true, _, rfl, rfl, rfl, hr⟩ ?_
                  rintro n _ _ ⟨digits_20, ok_21, n0, rfl, rfl, rfl, hr⟩ IH0
                  cases n0 with
                  | zero => rw [lf_constraintlaw42_TerminateFirst_L0] at hr; cases hr
                  | succ n0 =>
                    rw [lf_constraintlaw42_TerminateFirst_L0] at hr
                    refine g_seq ?_
                    refine g_seq ?_
                    refine g_run (by kernel_rfl) [(0, .d)] rfl ?_
                    refine r_d rfl rfl rfl (s_move rfl rfl) ?_
                    refine r_end ?_
                    refine g_sB 59 rfl hr (fun h59_24 hr => ?_) (fun h59_24 hr => ?_)
                    ·
                      refine g_condT rfl ?_
                      refine g_skip ?_
                      refine g_block ?_
                      refine g_seq ?_
                      refine g_run (by kernel_rfl) [(0, .d), (1, .d), (2, .d), (3, .d), (4, .d)] rfl ?_
                      refine r_d rfl rfl rfl (s_fieldAddr rfl fl_api_Program_0 rfl rfl rfl rfl) ?_
                      refine r_d rfl rfl rfl (s_load rfl rfl (by exact ty_L_api_Decl) rfl) ?_
                      refine r_d rfl rfl rfl (s_move rfl rfl) ?_
                      obtain ⟨r_26, hr_26, hr⟩ := bindS hr
                      refine r_d rfl rfl rfl (s_callD rfl cl_terminate_Ranks (.cons rfl (Wk.refl _) (.cons rfl (Wk.refl _) .nil)) (lg_terminate_Ranks _ _ _ hr_26)) ?_
                      refine r_d rfl rfl rfl (s_assign rfl rfl) ?_
                      refine r_end ?_
                      refine g_seq ?_
                      refine g_seq ?_
                      refine g_run (by kernel_rfl) [(0, .d), (1, .d), (2, .d), (3, .d), (4, .d), (5, .d), (6, .d)] rfl ?_
                      refine r_d rfl rfl rfl (s_move rfl rfl) ?_
                      refine r_d rfl rfl rfl (s_cmp rfl rfl rfl rfl) ?_
                      refine r_d rfl rfl rfl (s_move rfl rfl) ?_
                      refine r_sB 66 rfl hr (fun h66_26 hr => ?_) (fun h66_26 hr => ?_)
                      ·
                        refine r_d rfl rfl rfl (s_move rfl rfl) ?_
                        refine r_d rfl rfl rfl (s_move rfl rfl) ?_
                        obtain ⟨r_28, hr_28, hr⟩ := bindS hr
                        refine r_d rfl rfl rfl (s_callD rfl cl_constraintref42_Same (.cons rfl (Wk.refl _) (.cons rfl (Wk.refl _) .nil)) (lg_constraintref42_Same _ _ _ hr_28)) ?_
                        refine r_d rfl rfl rfl (s_pickT rfl rfl rfl) ?_
                        refine r_end ?_
                        refine g_sB 70 rfl hr (fun h70_28 hr => ?_) (fun h70_28 hr => ?_)
                        ·
                          refine g_condT rfl ?_
                          refine g_seq ?_
                          refine g_run (by kernel_rfl) [(0, .d), (1, .d)] rfl ?_
                          obtain ⟨r_30, hr_30, hr⟩ := bindS hr
                          refine r_d rfl rfl rfl (s_callD rfl cl_constraintlaw42_exampleHolds .nil (lg_constraintlaw42_exampleHolds fuel _ hr_30)) ?_
                          refine r_d rfl rfl rfl (s_assign rfl rfl) ?_
                          refine r_end ?_
                          obtain rfl := Option.some.inj hr
                          refine g_ret Try.func6 _ (.cons (resTmp rfl (Wk.refl _)) .nil) ?_
                          rfl
                        ·
                          refine g_condF rfl ?_
                          refine g_skip ?_
                          refine g_seq ?_
                          refine g_seq ?_
                          refine g_run (by kernel_rfl) [(0, .d), (1, .d), (2, .d), (3, .d)] rfl ?_
                          refine r_d rfl rfl rfl (s_load rfl rfl (by exact ty_api_Program) (sz_S_api_Program _)) ?_
                          refine r_d rfl rfl rfl (s_move rfl rfl) ?_
                          obtain ⟨r_31, hr_31, hr⟩ := bindS hr
                          refine r_d rfl rfl rfl (s_callD rfl cl_rank_Check (.cons rfl (Wk.refl _) (.cons rfl (Wk.refl _) .nil)) (lg_rank_Check fuel _ _ _ hr_31)) ?_
                          refine r_d rfl rfl rfl (s_cmp rfl rfl rfl rfl) ?_
                          refine r_end ?_
                          refine g_sB 75 rfl hr (fun h75_31 hr => ?_) (fun h75_31 hr => ?_)
                          ·
                            refine g_condT rfl ?_
                            refine g_seq ?_
                            refine g_run (by kernel_rfl) [(0, .d)] rfl ?_
                            refine r_d rfl rfl rfl (s_assign rfl rfl) ?_
                            refine r_end ?_
                            obtain rfl := Option.some.inj hr
                            refine g_ret Try.func6 _ (.cons (resTmp rfl (Wk.refl _)) .nil) ?_
                            rfl
                          ·
                            refine g_condF rfl ?_
                            refine g_skip ?_
                            refine g_run (by kernel_rfl) [(0, .d), (1, .d), (2, .d), (3, .d), (4, .d), (5, .d), (6, .d), (7, .d)] rfl ?_
                            refine r_d rfl rfl rfl (s_move rfl rfl) ?_
                            refine r_d rfl rfl rfl (s_move rfl rfl) ?_
                            obtain ⟨r_33, hr_33, hr⟩ := bindS hr
                            refine r_d rfl rfl rfl (s_callD rfl cl_constraintref42_Next (.cons rfl (Wk.refl _) (.cons rfl (Wk.refl _) .nil)) (lg_constraintref42_Next _ _ _ hr_33)) ?_
                            refine r_d rfl rfl rfl (s_move rfl rfl) ?_
                            refine r_d rfl rfl rfl (s_extract rfl rfl rfl) ?_
                            refine r_d rfl rfl rfl (s_extract rfl rfl rfl) ?_
                            refine r_d rfl rfl rfl (s_assign rfl rfl) ?_
                            refine r_d rfl rfl rfl (s_assign rfl rfl) ?_
                            refine r_end ?_
                            refine g_inBlock ?_
                            refine g_sub [(1, .int .i64 most_a1), (2, .ptr (enc_S_api_Program p_a0)), (5, .lst (r_11.1.map enc_S_api_Rank)), (6, .int .i64 r_11.2), (7, .lst (r_33.1.map (D.int .i64))), (8, .bool r_33.2)] (Sub.cons' rfl (Sub.cons' rfl (Sub.cons' rfl (Sub.cons' rfl (Sub.cons' rfl (Sub.cons' rfl (Sub.nil _))))))) ?_
                            exact IH0 _ _ _ (by omega) ⟨r_33.1, r_33.2, _, rfl, rfl, rfl, hr⟩
                      ·
                        refine r_skip rfl rfl rfl ?_
                        refine r_skip rfl rfl rfl ?_
                        refine r_skip rfl rfl rfl ?_
                        refine r_d rfl rfl rfl (s_pickF rfl rfl rfl) ?_
                        refine r_end ?_
                        refine g_condF rfl ?_
                        refine g_skip ?_
                        refine g_seq ?_
                        refine g_seq ?_
                        refine g_run (by kernel_rfl) [(0, .d), (1, .d), (2, .d), (3, .d)] rfl ?_
                        refine r_d rfl rfl rfl (s_load rfl rfl (by exact ty_api_Program) (sz_S_api_Program _)) ?_
                        refine r_d rfl rfl rfl (s_move rfl rfl) ?_
                        obtain ⟨r_34, hr_34, hr⟩ := bindS hr
                        refine r_d rfl rfl rfl (s_callD rfl cl_rank_Check (.cons rfl (Wk.refl _) (.cons rfl (Wk.refl _) .nil)) (lg_rank_Check fuel _ _ _ hr_34)) ?_
                        refine r_d rfl rfl rfl (s_cmp rfl rfl rfl rfl) ?_
                        refine r_end ?_
                        refine g_sB 75 rfl hr (fun h75_34 hr => ?_) (fun h75_34 hr => ?_)
                        ·
                          refine g_condT rfl ?_
                          refine g_seq ?_
                          refine g_run (by kernel_rfl) [(0, .d)] rfl ?_
                          refine r_d rfl rfl rfl (s_assign rfl rfl) ?_
                          refine r_end ?_
                          obtain rfl := Option.some.inj hr
                          refine g_ret Try.func6 _ (.cons (resTmp rfl (Wk.refl _)) .nil) ?_
                          rfl
                        ·
                          refine g_condF rfl ?_
                          refine g_skip ?_
                          refine g_run (by kernel_rfl) [(0, .d), (1, .d), (2, .d), (3, .d), (4, .d), (5, .d), (6, .d), (7, .d)] rfl ?_
                          refine r_d rfl rfl rfl (s_move rfl rfl) ?_
                          refine r_d rfl rfl rfl (s_move rfl rfl) ?_
                          obtain ⟨r_36, hr_36, hr⟩ := bindS hr
                          refine r_d rfl rfl rfl (s_callD rfl cl_constraintref42_Next (.cons rfl (Wk.refl _) (.cons rfl (Wk.refl _) .nil)) (lg_constraintref42_Next _ _ _ hr_36)) ?_
                          refine r_d rfl rfl rfl (s_move rfl rfl) ?_
                          refine r_d rfl rfl rfl (s_extract rfl rfl rfl) ?_
                          refine r_d rfl rfl rfl (s_extract rfl rfl rfl) ?_
                          refine r_d rfl rfl rfl (s_assign rfl rfl) ?_
                          refine r_d rfl rfl rfl (s_assign rfl rfl) ?_
                          refine r_end ?_
                          refine g_inBlock ?_
                          refine g_sub [(1, .int .i64 most_a1), (2, .ptr (enc_S_api_Program p_a0)), (5, .lst (r_11.1.map enc_S_api_Rank)), (6, .int .i64 r_11.2), (7, .lst (r_36.1.map (D.int .i64))), (8, .bool r_36.2)] (Sub.cons' rfl (Sub.cons' rfl (Sub.cons' rfl (Sub.cons' rfl (Sub.cons' rfl (Sub.cons' rfl (Sub.nil _))))))) ?_
                          exact IH0 _ _ _ (by omega) ⟨r_36.1, r_36.2, _, rfl, rfl, rfl, hr⟩
                    ·
                      refine g_condF rfl ?_
                      refine g_exit rfl ?_
                      refine g_sub [(5, .lst (r_11.1.map enc_S_api_Rank)), (6, .int .i64 r_11.2)] (Sub.cons' rfl (Sub.cons' rfl (Sub.nil _))) ?_
                      exact HK0 _ _ ⟨rfl, rfl, hr⟩
              ·
                unfold lf_constraintlaw42_TerminateFirst_J0 at hr
                refine g_seq ?_
                refine g_run (by kernel_rfl) [(0, .d), (1, .d), (2, .d), (3, .d), (4, .d), (5, .d), (6, .d), (7, .d)] rfl ?_
                refine r_d rfl rfl rfl (s_move rfl rfl) ?_
                refine r_d rfl rfl rfl (s_cmp rfl rfl rfl rfl) ?_
                refine r_d rfl rfl rfl (s_move rfl rfl) ?_
                refine r_sB 49 rfl hr (fun h49_36 hr => ?_) (fun h49_36 hr => ?_)
                ·
                  refine r_d rfl rfl rfl (s_load rfl rfl (by exact ty_api_Program) (sz_S_api_Program _)) ?_
                  refine r_d rfl rfl rfl (s_move rfl rfl) ?_
                  obtain ⟨r_38, hr_38, hr⟩ := bindS hr
                  refine r_d rfl rfl rfl (s_callD rfl cl_rank_Check (.cons rfl (Wk.refl _) (.cons rfl (Wk.refl _) .nil)) (lg_rank_Check fuel _ _ _ hr_38)) ?_
                  refine r_d rfl rfl rfl (s_cmp rfl rfl rfl rfl) ?_
                  refine r_d rfl rfl rfl (s_pickT rfl rfl rfl) ?_
                  refine r_end ?_
                  refine g_sB 54 rfl hr (fun h54_38 hr => ?_) (fun h54_38 hr => ?_)
                  ·
                    refine g_condT rfl ?_
                    refine g_seq ?_
                    refine g_run (by kernel_rfl) [(0, .d)] rfl ?_
                    refine r_d rfl rfl rfl (s_assign rfl rfl) ?_
                    refine r_end ?_
                    obtain rfl := Option.some.inj hr
                    refine g_ret Try.func6 _ (.cons (resTmp rfl (Wk.refl _)) .nil) ?_
                    rfl
                  ·
                    refine g_condF rfl ?_
                    refine g_skip ?_
                    refine g_sub [(1, .int .i64 most_a1), (2, .ptr (enc_S_api_Program p_a0)), (5, .lst (r_11.1.map enc_S_api_Rank)), (6, .int .i64 r_11.2)] (Sub.cons' rfl (Sub.cons' rfl (Sub.cons' rfl (Sub.cons' rfl (Sub.nil _))))) ?_
                    exact HKJ0 _ _ ⟨rfl, rfl, hr⟩
                ·
                  refine r_skip rfl rfl rfl ?_
                  refine r_skip rfl rfl rfl ?_
                  refine r_skip rfl rfl rfl ?_
                  refine r_skip rfl rfl rfl ?_
                  refine r_d rfl rfl rfl (s_pickF rfl rfl rfl) ?_
                  refine r_end ?_
                  refine g_condF rfl ?_
                  refine g_skip ?_
                  refine g_sub [(1, .int .i64 most_a1), (2, .ptr (enc_S_api_Program p_a0)), (5, .lst (r_11.1.map enc_S_api_Rank)), (6, .int .i64 r_11.2)] (Sub.cons' rfl (Sub.cons' rfl (Sub.cons' rfl (Sub.cons' rfl (Sub.nil _))))) ?_
                  exact HKJ0 _ _ ⟨rfl, rfl, hr⟩

end Go.Proofs.Ythcgefbigimgoaa

