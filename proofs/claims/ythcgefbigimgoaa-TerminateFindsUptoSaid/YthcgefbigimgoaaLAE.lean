/-
  Texts of the seat, merged.
-/
import Derived.Test.YthcgefbigimgoaaLAA
import Derived.Test.YthcgefbigimgoaaLAB
import Derived.Test.YthcgefbigimgoaaLAC
import Derived.Test.YthcgefbigimgoaaLAD
import Derived.Test.YthcgefbigimgoaaChecked
import Derived.WalkKit
import Derived.Lib.Hide
import Derived.Lib.AppendStr
import Derived.Deep.AppendLies
import Derived.Deep.AppendSrc
import Derived.Deep.Draws
import Derived.Deep.QuietTactic
import Derived.BigQuiet
import Derived.Deep.RegionWith
import Derived.Maps.AppendAt
import Derived.WalkSpells
import Derived.Orders
import Derived.Deep.Slices
import Derived.Deep.Fields
import Derived.ChangeArms
import Derived.Lib.OthersKept
import Derived.Lib.TrimU
import Derived.Lib.IndexAny
import Derived.Deep.LoopGhost
import Derived.Lib.Bytealg
import Derived.RangeFuncBox
import Derived.RangeFuncNested
import Derived.RangeFuncBound
import Derived.RangeFuncCalls
import Derived.RangeFuncLeaves
import Derived.Shelf.Abstract
import Derived.OwnWalkIn
import Derived.TacticsInMore
import Derived.LoopNIn
import Derived.LoopIn
import Derived.RangeFuncWrites
import Derived.Maps.OwnIn
import Derived.Maps.Views
import Derived.Laws.OwnMore
import Derived.Maps.OwnSet
import Derived.Test.YthcgefbigimgoaaRows
import Derived.ProofKit
import Derived.OpenShut
import Derived.Carry
import Derived.Great.BuildSlice
import Derived.ArgAppend
import Derived.Laws.MakeOwn
import Derived.Laws.Cover3
import Derived.Laws.CopyRow
import Derived.MapKept
import Derived.Maps.RangeRun
set_option linter.unusedVariables false
set_option linter.unusedSimpArgs false
set_option linter.unnecessarySimpa false
set_option linter.all false

namespace Go.Proofs.Ythcgefbigimgoaa
set_option maxRecDepth 100000
open Go.RowKit

set_option maxHeartbeats 1000000 in
theorem lg_constraintref41_right (x_a0 : S_api_Rank) (res : Bool) (hr : lf_constraintref41_right x_a0 = some res) : Gives Try.prog 46 [enc_S_api_Rank x_a0] (.bool res) := by
  unfold lf_constraintref41_right at hr
  refine spec_env [(0, enc_S_api_Rank x_a0)] Try.func46 rfl rfl fun K hK => ?_
  refine g_seq ?_
  refine g_run (by kernel_rfl) [(0, .d), (1, .d)] rfl ?_
  refine r_d rfl rfl rfl (s_box rfl rfl rfl) ?_
  refine r_d rfl rfl rfl (s_assign rfl rfl) ?_
  refine r_end ?_
  refine g_seq ?_
  refine g_seq ?_
  refine g_run (by kernel_rfl) [(0, .d), (1, .d), (2, .d), (3, .d), (4, .d), (5, .d), (6, .d), (7, .d), (8, .d), (9, .d), (10, .d), (11, .d), (12, .d), (13, .d)] rfl ?_
  refine r_d rfl rfl rfl (s_fieldAddr rfl fl_api_Rank_1 rfl rfl rfl rfl) ?_
  refine r_d rfl rfl rfl (s_load rfl rfl (by exact ty_int) rfl) ?_
  refine r_d rfl rfl rfl (s_cmp rfl rfl rfl rfl) ?_
  refine r_d rfl rfl rfl (s_move rfl rfl) ?_
  refine r_sB 7 rfl hr (fun h7_0 hr => ?_) (fun h7_0 hr => ?_)
  ·
    refine r_skip rfl rfl rfl ?_
    refine r_skip rfl rfl rfl ?_
    refine r_skip rfl rfl rfl ?_
    refine r_d rfl rfl rfl (s_pickT rfl rfl rfl) ?_
    refine r_d rfl rfl rfl (s_move rfl rfl) ?_
    refine r_skip rfl rfl rfl ?_
    refine r_skip rfl rfl rfl ?_
    refine r_skip rfl rfl rfl ?_
    refine r_skip rfl rfl rfl ?_
    refine r_d rfl rfl rfl (s_pickT rfl rfl rfl) ?_
    refine r_end ?_
    refine g_condT rfl ?_
    refine g_seq ?_
    refine g_run (by kernel_rfl) [(0, .d)] rfl ?_
    refine r_d rfl rfl rfl (s_assign rfl rfl) ?_
    refine r_end ?_
    obtain rfl := Option.some.inj hr
    refine g_ret Try.func46 _ (.cons (resTmp rfl (Wk.refl _)) .nil) ?_
    rfl
  ·
    refine r_d rfl rfl rfl (s_fieldAddr rfl fl_api_Rank_1 rfl rfl rfl rfl) ?_
    refine r_d rfl rfl rfl (s_load rfl rfl (by exact ty_int) rfl) ?_
    refine r_d rfl rfl rfl (s_cmp rfl rfl rfl rfl) ?_
    refine r_d rfl rfl rfl (s_pickF rfl rfl rfl) ?_
    refine r_d rfl rfl rfl (s_move rfl rfl) ?_
    refine r_sB 12 rfl hr (fun h12_1 hr => ?_) (fun h12_1 hr => ?_)
    ·
      refine r_skip rfl rfl rfl ?_
      refine r_skip rfl rfl rfl ?_
      refine r_skip rfl rfl rfl ?_
      refine r_skip rfl rfl rfl ?_
      refine r_d rfl rfl rfl (s_pickT rfl rfl rfl) ?_
      refine r_end ?_
      refine g_condT rfl ?_
      refine g_seq ?_
      refine g_run (by kernel_rfl) [(0, .d)] rfl ?_
      refine r_d rfl rfl rfl (s_assign rfl rfl) ?_
      refine r_end ?_
      obtain rfl := Option.some.inj hr
      refine g_ret Try.func46 _ (.cons (resTmp rfl (Wk.refl _)) .nil) ?_
      rfl
    ·
      refine r_d rfl rfl rfl (s_fieldAddr rfl fl_api_Rank_2 rfl rfl rfl rfl) ?_
      refine r_d rfl rfl rfl (s_load rfl rfl (by exact ty_L_int) rfl) ?_
      refine r_d rfl rfl rfl (m_len (f := (D.int .i64)) x_a0.f2_Factors rfl el_L_int rfl (asl rfl)) ?_
      refine r_d rfl rfl rfl (s_cmp rfl rfl rfl rfl) ?_
      refine r_d rfl rfl rfl (s_pickF rfl rfl rfl) ?_
      refine r_end ?_
      refine g_sB 17 rfl hr (fun h17_2 hr => ?_) (fun h17_2 hr => ?_)
      ·
        refine g_condT rfl ?_
        refine g_seq ?_
        refine g_run (by kernel_rfl) [(0, .d)] rfl ?_
        refine r_d rfl rfl rfl (s_assign rfl rfl) ?_
        refine r_end ?_
        obtain rfl := Option.some.inj hr
        refine g_ret Try.func46 _ (.cons (resTmp rfl (Wk.refl _)) .nil) ?_
        rfl
      ·
        refine g_condF rfl ?_
        refine g_skip ?_
        refine g_seq ?_
        refine g_seq ?_
        refine g_run (by kernel_rfl) [(0, .d)] rfl ?_
        refine r_d rfl rfl rfl (s_assign rfl rfl) ?_
        refine r_end ?_
        obtain ⟨kk0, hkk0, hr⟩ := exK (fun k => lf_constraintref41_right_L0 k x_a0.f2_Factors) hr
        refine g_len 14 rfl (asl rfl) fun hla0 => ?_
        simp only [List.length_map] at hla0
        refine g_blockJ (fun env σ => env = [] ∧ σ = [] ∧ kk0 = some res) ?_ (fun HK0 => ?_)
        ·
          rintro _ _ ⟨rfl, rfl, hr⟩
          rw [hkk0] at hr
          refine g_seq ?_
          refine g_run (by kernel_rfl) [(0, .d)] rfl ?_
          refine r_d rfl rfl rfl (s_assign rfl rfl) ?_
          refine r_end ?_
          obtain rfl := Option.some.inj hr
          refine g_ret Try.func46 _ (.cons (resTmp rfl (Wk.refl _)) .nil) ?_
          rfl
        ·
          refine g_sub [(1, .ptr (enc_S_api_Rank x_a0)), (3, .int .i64 ((0 : Nat) : Int))] (Sub.cons' rfl (Sub.cons' rfl (Sub.nil _))) ?_
          refine g_loop (fun n env σ => ∃ (i_4 : Nat), (n = x_a0.f2_Factors.length - i_4) ∧ (env = [(1, .ptr (enc_S_api_Rank x_a0)), (3, .int .i64 (i_4 : Int))]) ∧ (σ = []) ∧ (i_4 ≤ x_a0.f2_Factors.length) ∧ (lf_constraintref41_right_L0 kk0 (x_a0.f2_Factors.drop i_4) = some res)) _ ⟨0, rfl, rfl, rfl, Nat.zero_le _, hr⟩ ?_
          rintro n _ _ ⟨i_4, rfl, rfl, rfl, hi0, hr⟩ IH0
          rcases listStep x_a0.f2_Factors i_4 hi0 with ⟨ht0, hd0, he0⟩ | ⟨q_5, ht0, hd0, hq0, hlt0⟩
          ·
            rw [hd0, lf_constraintref41_right_L0] at hr
            refine g_seq ?_
            refine g_seq ?_
            refine g_run (by kernel_rfl) [(0, .d), (1, .d), (2, .d), (3, .d), (4, .d)] rfl ?_
            refine r_d rfl rfl rfl (s_move rfl rfl) ?_
            refine r_d rfl rfl rfl (s_fieldAddr rfl fl_api_Rank_2 rfl rfl rfl rfl) ?_
            refine r_d rfl rfl rfl (s_load rfl rfl (by exact ty_L_int) rfl) ?_
            refine r_d rfl rfl rfl (m_len (f := (D.int .i64)) x_a0.f2_Factors rfl el_L_int rfl (asl rfl)) ?_
            refine r_d rfl rfl rfl (s_cmp rfl rfl rfl rfl) ?_
            refine r_end ?_
            refine g_known 22 false rfl ht0 ?_
            refine g_condF rfl ?_
            refine g_exit rfl ?_
            refine g_sub [] (Sub.nil _) ?_
            exact HK0 _ _ ⟨rfl, rfl, hr⟩
          ·
            rw [hd0, lf_constraintref41_right_L0] at hr
            refine g_seq ?_
            refine g_seq ?_
            refine g_run (by kernel_rfl) [(0, .d), (1, .d), (2, .d), (3, .d), (4, .d)] rfl ?_
            refine r_d rfl rfl rfl (s_move rfl rfl) ?_
            refine r_d rfl rfl rfl (s_fieldAddr rfl fl_api_Rank_2 rfl rfl rfl rfl) ?_
            refine r_d rfl rfl rfl (s_load rfl rfl (by exact ty_L_int) rfl) ?_
            refine r_d rfl rfl rfl (m_len (f := (D.int .i64)) x_a0.f2_Factors rfl el_L_int rfl (asl rfl)) ?_
            refine r_d rfl rfl rfl (s_cmp rfl rfl rfl rfl) ?_
            refine r_end ?_
            refine g_known 22 true rfl ht0 ?_
            refine g_condT rfl ?_
            refine g_skip ?_
            refine g_seq ?_
            refine g_block ?_
            refine g_seq ?_
            refine g_run (by kernel_rfl) [(0, .d), (1, .d), (2, .d), (3, .d), (4, .d), (5, .d), (6, .d), (7, .d), (8, .d), (9, .d), (10, .d), (11, .d), (12, .d), (13, .d)] rfl ?_
            refine r_d rfl rfl rfl (s_fieldAddr rfl fl_api_Rank_2 rfl rfl rfl rfl) ?_
            refine r_d rfl rfl rfl (s_load rfl rfl (by exact ty_L_int) rfl) ?_
            refine r_d rfl rfl rfl (s_move rfl rfl) ?_
            refine r_d rfl rfl rfl (m_index (f := (D.int .i64)) x_a0.f2_Factors rfl el_L_int rfl (asl rfl) rfl hq0 (fun _ => rfl) rfl) ?_
            refine r_d rfl rfl rfl (s_load rfl rfl (by exact ty_int) rfl) ?_
            refine r_d rfl rfl rfl (s_cmp rfl rfl rfl rfl) ?_
            refine r_d rfl rfl rfl (s_move rfl rfl) ?_
            refine r_sB 31 rfl hr (fun h31_5 hr => ?_) (fun h31_5 hr => ?_)
            ·
              refine r_skip rfl rfl rfl ?_
              refine r_skip rfl rfl rfl ?_
              refine r_skip rfl rfl rfl ?_
              refine r_skip rfl rfl rfl ?_
              refine r_skip rfl rfl rfl ?_
              refine r_skip rfl rfl rfl ?_
              refine r_d rfl rfl rfl (s_pickT rfl rfl rfl) ?_
              refine r_end ?_
              refine g_condT rfl ?_
              refine g_seq ?_
              refine g_run (by kernel_rfl) [(0, .d)] rfl ?_
              refine r_d rfl rfl rfl (s_assign rfl rfl) ?_
              refine r_end ?_
              obtain rfl := Option.some.inj hr
              refine g_ret Try.func46 _ (.cons (resTmp rfl (Wk.refl _)) .nil) ?_
              rfl
            ·
              refine r_d rfl rfl rfl (s_fieldAddr rfl fl_api_Rank_2 rfl rfl rfl rfl) ?_
              refine r_d rfl rfl rfl (s_load rfl rfl (by exact ty_L_int) rfl) ?_
              refine r_d rfl rfl rfl (s_move rfl rfl) ?_
              refine r_d rfl rfl rfl (m_index (f := (D.int .i64)) x_a0.f2_Factors rfl el_L_int rfl (asl rfl) rfl hq0 (fun _ => rfl) rfl) ?_
              refine r_d rfl rfl rfl (s_load rfl rfl (by exact ty_int) rfl) ?_
              refine r_d rfl rfl rfl (s_cmp rfl rfl rfl rfl) ?_
              refine r_d rfl rfl rfl (s_pickF rfl rfl rfl) ?_
              refine r_end ?_
              refine g_sB 38 rfl hr (fun h38_6 hr => ?_) (fun h38_6 hr => ?_)
              ·
                refine g_condT rfl ?_
                refine g_seq ?_
                refine g_run (by kernel_rfl) [(0, .d)] rfl ?_
                refine r_d rfl rfl rfl (s_assign rfl rfl) ?_
                refine r_end ?_
                obtain rfl := Option.some.inj hr
                refine g_ret Try.func46 _ (.cons (resTmp rfl (Wk.refl _)) .nil) ?_
                rfl
              ·
                refine g_condF rfl ?_
                refine g_skip ?_
                refine g_inBlock ?_
                refine g_run (by kernel_rfl) [(0, .d), (1, .d), (2, .d)] rfl ?_
                refine r_d rfl rfl rfl (s_move rfl rfl) ?_
                refine r_d rfl rfl rfl (s_ar (r := ((i_4 + 1 : Nat) : Int)) rfl rfl rfl (by simp [iar]) (by omega)) ?_
                refine r_d rfl rfl rfl (s_assign rfl rfl) ?_
                refine r_end ?_
                refine g_sub [(1, .ptr (enc_S_api_Rank x_a0)), (3, .int .i64 ((i_4 + 1 : Nat) : Int))] (Sub.cons' rfl (Sub.cons' rfl (Sub.nil _))) ?_
                exact IH0 _ _ _ (by omega) ⟨(i_4 + 1), rfl, rfl, rfl, (by omega), hr⟩

noncomputable def lf_constraintref41_valid_L0 (k : Option (Bool)) : List S_api_Rank → Option (Bool)
  | [] =>
  k
  | q_2 :: rest =>
  ((lf_constraintref41_right q_2).bind fun r_3 =>
  (bif (!r_3) then
  some (false)
  else
  (lf_constraintref41_valid_L0 k rest)))
noncomputable def lf_constraintref41_valid (ranks_a0 : (List S_api_Rank)) : Option (Bool) :=
  (lf_constraintref41_valid_L0 (some (true)) ranks_a0)

set_option maxHeartbeats 1000000 in
theorem lg_constraintref41_valid (ranks_a0 : (List S_api_Rank)) (res : Bool) (hr : lf_constraintref41_valid ranks_a0 = some res) : Gives Try.prog 35 [.lst (ranks_a0.map enc_S_api_Rank)] (.bool res) := by
  unfold lf_constraintref41_valid at hr
  refine spec_env [(0, .lst (ranks_a0.map enc_S_api_Rank))] Try.func35 rfl rfl fun K hK => ?_
  refine g_seq ?_
  refine g_run (by kernel_rfl) [(0, .d)] rfl ?_
  refine r_d rfl rfl rfl (s_assign rfl rfl) ?_
  refine r_end ?_
  refine g_seq ?_
  refine g_seq ?_
  refine g_run (by kernel_rfl) [(0, .d)] rfl ?_
  refine r_d rfl rfl rfl (s_assign rfl rfl) ?_
  refine r_end ?_
  obtain ⟨kk0, hkk0, hr⟩ := exK (fun k => lf_constraintref41_valid_L0 k ranks_a0) hr
  refine g_len 0 rfl (asl rfl) fun hla0 => ?_
  simp only [List.length_map] at hla0
  refine g_blockJ (fun env σ => env = [] ∧ σ = [] ∧ kk0 = some res) ?_ (fun HK0 => ?_)
  ·
    rintro _ _ ⟨rfl, rfl, hr⟩
    rw [hkk0] at hr
    refine g_seq ?_
    refine g_run (by kernel_rfl) [(0, .d)] rfl ?_
    refine r_d rfl rfl rfl (s_assign rfl rfl) ?_
    refine r_end ?_
    obtain rfl := Option.some.inj hr
    refine g_ret Try.func35 _ (.cons (resTmp rfl (Wk.refl _)) .nil) ?_
    rfl
  ·
    refine g_sub [(0, .lst (ranks_a0.map enc_S_api_Rank)), (3, .int .i64 ((0 : Nat) : Int))] (Sub.cons' rfl (Sub.cons' rfl (Sub.nil _))) ?_
    refine g_loop (fun n env σ => ∃ (i_1 : Nat), (n = ranks_a0.length - i_1) ∧ (env = [(0, .lst (ranks_a0.map enc_S_api_Rank)), (3, .int .i64 (i_1 : Int))]) ∧ (σ = []) ∧ (i_1 ≤ ranks_a0.length) ∧ (lf_constraintref41_valid_L0 kk0 (ranks_a0.drop i_1) = some res)) _ ⟨0, rfl, rfl, rfl, Nat.zero_le _, hr⟩ ?_
    rintro n _ _ ⟨i_1, rfl, rfl, rfl, hi0, hr⟩ IH0
    rcases listStep ranks_a0 i_1 hi0 with ⟨ht0, hd0, he0⟩ | ⟨q_2, ht0, hd0, hq0, hlt0⟩
    ·
      rw [hd0, lf_constraintref41_valid_L0] at hr
      refine g_seq ?_
      refine g_seq ?_
      refine g_run (by kernel_rfl) [(0, .d), (1, .d), (2, .d), (3, .d)] rfl ?_
      refine r_d rfl rfl rfl (s_move rfl rfl) ?_
      refine r_d rfl rfl rfl (s_move rfl rfl) ?_
      refine r_d rfl rfl rfl (m_len (f := enc_S_api_Rank) ranks_a0 rfl el_L_api_Rank rfl (asl rfl)) ?_
      refine r_d rfl rfl rfl (s_cmp rfl rfl rfl rfl) ?_
      refine r_end ?_
      refine g_known 7 false rfl ht0 ?_
      refine g_condF rfl ?_
      refine g_exit rfl ?_
      refine g_sub [] (Sub.nil _) ?_
      exact HK0 _ _ ⟨rfl, rfl, hr⟩
    ·
      rw [hd0, lf_constraintref41_valid_L0] at hr
      refine g_seq ?_
      refine g_seq ?_
      refine g_run (by kernel_rfl) [(0, .d), (1, .d), (2, .d), (3, .d)] rfl ?_
      refine r_d rfl rfl rfl (s_move rfl rfl) ?_
      refine r_d rfl rfl rfl (s_move rfl rfl) ?_
      refine r_d rfl rfl rfl (m_len (f := enc_S_api_Rank) ranks_a0 rfl el_L_api_Rank rfl (asl rfl)) ?_
      refine r_d rfl rfl rfl (s_cmp rfl rfl rfl rfl) ?_
      refine r_end ?_
      refine g_known 7 true rfl ht0 ?_
      refine g_condT rfl ?_
      refine g_skip ?_
      refine g_seq ?_
      refine g_block ?_
      refine g_seq ?_
      refine g_run (by kernel_rfl) [(0, .d), (1, .d), (2, .d), (3, .d), (4, .d), (5, .d)] rfl ?_
      refine r_d rfl rfl rfl (s_move rfl rfl) ?_
      refine r_d rfl rfl rfl (s_move rfl rfl) ?_
      refine r_d rfl rfl rfl (m_index (f := enc_S_api_Rank) ranks_a0 rfl el_L_api_Rank rfl (asl rfl) rfl hq0 sz_S_api_Rank rfl) ?_
      refine r_d rfl rfl rfl (s_load rfl rfl (by exact ty_api_Rank) (sz_S_api_Rank _)) ?_
      obtain ⟨r_3, hr_3, hr⟩ := bindS hr
      refine r_d rfl rfl rfl (s_callD rfl cl_constraintref41_right (.cons rfl (Wk.refl _) .nil) (lg_constraintref41_right _ _ hr_3)) ?_
      refine r_d rfl rfl rfl (s_not rfl rfl) ?_
      refine r_end ?_
      refine g_sB 15 rfl hr (fun h15_3 hr => ?_) (fun h15_3 hr => ?_)
      ·
        refine g_condT rfl ?_
        refine g_seq ?_
        refine g_run (by kernel_rfl) [(0, .d)] rfl ?_
        refine r_d rfl rfl rfl (s_assign rfl rfl) ?_
        refine r_end ?_
        obtain rfl := Option.some.inj hr
        refine g_ret Try.func35 _ (.cons (resTmp rfl (Wk.refl _)) .nil) ?_
        rfl
      ·
        refine g_condF rfl ?_
        refine g_skip ?_
        refine g_inBlock ?_
        refine g_run (by kernel_rfl) [(0, .d), (1, .d), (2, .d)] rfl ?_
        refine r_d rfl rfl rfl (s_move rfl rfl) ?_
        refine r_d rfl rfl rfl (s_ar (r := ((i_1 + 1 : Nat) : Int)) rfl rfl rfl (by simp [iar]) (by omega)) ?_
        refine r_d rfl rfl rfl (s_assign rfl rfl) ?_
        refine r_end ?_
        refine g_sub [(0, .lst (ranks_a0.map enc_S_api_Rank)), (3, .int .i64 ((i_1 + 1 : Nat) : Int))] (Sub.cons' rfl (Sub.cons' rfl (Sub.nil _))) ?_
        exact IH0 _ _ _ (by omega) ⟨(i_1 + 1), rfl, rfl, rfl, (by omega), hr⟩

noncomputable def lf_constraintref41_in_L0 (k : Option (Bool)) (n_a1 : Int) : List Int → Option (Bool)
  | [] =>
  k
  | q_2 :: rest =>
  (bif (q_2 == n_a1) then
  some (true)
  else
  (lf_constraintref41_in_L0 k n_a1 rest))
noncomputable def lf_constraintref41_in (l_a0 : (List Int)) (n_a1 : Int) : Option (Bool) :=
  (lf_constraintref41_in_L0 (some (false)) n_a1 l_a0)

set_option maxHeartbeats 1000000 in
theorem lg_constraintref41_in (l_a0 : (List Int)) (n_a1 : Int) (res : Bool) (hr : lf_constraintref41_in l_a0 n_a1 = some res) : Gives Try.prog 48 [.lst (l_a0.map (D.int .i64)), .int .i64 n_a1] (.bool res) := by
  unfold lf_constraintref41_in at hr
  refine spec_env [(0, .lst (l_a0.map (D.int .i64))), (1, .int .i64 n_a1)] Try.func48 rfl rfl fun K hK => ?_
  refine g_seq ?_
  refine g_run (by kernel_rfl) [(0, .d)] rfl ?_
  refine r_d rfl rfl rfl (s_assign rfl rfl) ?_
  refine r_end ?_
  refine g_seq ?_
  refine g_seq ?_
  refine g_run (by kernel_rfl) [(0, .d)] rfl ?_
  refine r_d rfl rfl rfl (s_assign rfl rfl) ?_
  refine r_end ?_
  obtain ⟨kk0, hkk0, hr⟩ := exK (fun k => lf_constraintref41_in_L0 k n_a1 l_a0) hr
  refine g_len 0 rfl (asl rfl) fun hla0 => ?_
  simp only [List.length_map] at hla0
  refine g_blockJ (fun env σ => env = [] ∧ σ = [] ∧ kk0 = some res) ?_ (fun HK0 => ?_)
  ·
    rintro _ _ ⟨rfl, rfl, hr⟩
    rw [hkk0] at hr
    refine g_seq ?_
    refine g_run (by kernel_rfl) [(0, .d)] rfl ?_
    refine r_d rfl rfl rfl (s_assign rfl rfl) ?_
    refine r_end ?_
    obtain rfl := Option.some.inj hr
    refine g_ret Try.func48 _ (.cons (resTmp rfl (Wk.refl _)) .nil) ?_
    rfl
  ·
    refine g_sub [(0, .lst (l_a0.map (D.int .i64))), (1, .int .i64 n_a1), (5, .int .i64 ((0 : Nat) : Int))] (Sub.cons' rfl (Sub.cons' rfl (Sub.cons' rfl (Sub.nil _)))) ?_
    refine g_loop (fun n env σ => ∃ (i_1 : Nat), (n = l_a0.length - i_1) ∧ (env = [(0, .lst (l_a0.map (D.int .i64))), (1, .int .i64 n_a1), (5, .int .i64 (i_1 : Int))]) ∧ (σ = []) ∧ (i_1 ≤ l_a0.length) ∧ (lf_constraintref41_in_L0 kk0 n_a1 (l_a0.drop i_1) = some res)) _ ⟨0, rfl, rfl, rfl, Nat.zero_le _, hr⟩ ?_
    rintro n _ _ ⟨i_1, rfl, rfl, rfl, hi0, hr⟩ IH0
    rcases listStep l_a0 i_1 hi0 with ⟨ht0, hd0, he0⟩ | ⟨q_2, ht0, hd0, hq0, hlt0⟩
    ·
      rw [hd0, lf_constraintref41_in_L0] at hr
      refine g_seq ?_
      refine g_seq ?_
      refine g_run (by kernel_rfl) [(0, .d), (1, .d), (2, .d), (3, .d)] rfl ?_
      refine r_d rfl rfl rfl (s_move rfl rfl) ?_
      refine r_d rfl rfl rfl (s_move rfl rfl) ?_
      refine r_d rfl rfl rfl (m_len (f := (D.int .i64)) l_a0 rfl el_L_int rfl (asl rfl)) ?_
      refine r_d rfl rfl rfl (s_cmp rfl rfl rfl rfl) ?_
      refine r_end ?_
      refine g_known 9 false rfl ht0 ?_
      refine g_condF rfl ?_
      refine g_exit rfl ?_
      refine g_sub [] (Sub.nil _) ?_
      exact HK0 _ _ ⟨rfl, rfl, hr⟩
    ·
      rw [hd0, lf_constraintref41_in_L0] at hr
      refine g_seq ?_
      refine g_seq ?_
      refine g_run (by kernel_rfl) [(0, .d), (1, .d), (2, .d), (3, .d)] rfl ?_
      refine r_d rfl rfl rfl (s_move rfl rfl) ?_
      refine r_d rfl rfl rfl (s_move rfl rfl) ?_
      refine r_d rfl rfl rfl (m_len (f := (D.int .i64)) l_a0 rfl el_L_int rfl (asl rfl)) ?_
      refine r_d rfl rfl rfl (s_cmp rfl rfl rfl rfl) ?_
      refine r_end ?_
      refine g_known 9 true rfl ht0 ?_
      refine g_condT rfl ?_
      refine g_skip ?_
      refine g_seq ?_
      refine g_block ?_
      refine g_seq ?_
      refine g_run (by kernel_rfl) [(0, .d), (1, .d), (2, .d), (3, .d), (4, .d), (5, .d)] rfl ?_
      refine r_d rfl rfl rfl (s_move rfl rfl) ?_
      refine r_d rfl rfl rfl (s_move rfl rfl) ?_
      refine r_d rfl rfl rfl (m_index (f := (D.int .i64)) l_a0 rfl el_L_int rfl (asl rfl) rfl hq0 (fun _ => rfl) rfl) ?_
      refine r_d rfl rfl rfl (s_load rfl rfl (by exact ty_int) rfl) ?_
      refine r_d rfl rfl rfl (s_move rfl rfl) ?_
      refine r_d rfl rfl rfl (s_cmp rfl rfl rfl rfl) ?_
      refine r_end ?_
      refine g_sB 17 rfl hr (fun h17_2 hr => ?_) (fun h17_2 hr => ?_)
      ·
        refine g_condT rfl ?_
        refine g_seq ?_
        refine g_run (by kernel_rfl) [(0, .d)] rfl ?_
        refine r_d rfl rfl rfl (s_assign rfl rfl) ?_
        refine r_end ?_
        obtain rfl := Option.some.inj hr
        refine g_ret Try.func48 _ (.cons (resTmp rfl (Wk.refl _)) .nil) ?_
        rfl
      ·
        refine g_condF rfl ?_
        refine g_skip ?_
        refine g_inBlock ?_
        refine g_run (by kernel_rfl) [(0, .d), (1, .d), (2, .d)] rfl ?_
        refine r_d rfl rfl rfl (s_move rfl rfl) ?_
        refine r_d rfl rfl rfl (s_ar (r := ((i_1 + 1 : Nat) : Int)) rfl rfl rfl (by simp [iar]) (by omega)) ?_
        refine r_d rfl rfl rfl (s_assign rfl rfl) ?_
        refine r_end ?_
        refine g_sub [(0, .lst (l_a0.map (D.int .i64))), (1, .int .i64 n_a1), (5, .int .i64 ((i_1 + 1 : Nat) : Int))] (Sub.cons' rfl (Sub.cons' rfl (Sub.cons' rfl (Sub.nil _)))) ?_
        exact IH0 _ _ _ (by omega) ⟨(i_1 + 1), rfl, rfl, rfl, (by omega), hr⟩

noncomputable def lf_Pconstraintref41_form_add_s1_L0 (k : (Int) → ((List Int)) → ((List Int)) → Option (Int × (List Int) × (List Int))) (rec : T → Int → (List Int) → Int → (List Int) → (List Int) → Option (Int × (List Int) × (List Int))) (factor_a2 : Int) (ones_a3 : (List Int)) : List T → Int → (List Int) → (List Int) → Option (Int × (List Int) × (List Int))
  | [], f_5, f_6, f_7 =>
  (k f_5 f_6 f_7)
  | q_13 :: rest, f_5, f_6, f_7 =>
  ((rec q_13 factor_a2 ones_a3 f_5 f_6 f_7).bind fun r_14 =>
  (lf_Pconstraintref41_form_add_s1_L0 k rec factor_a2 ones_a3 rest r_14.1 r_14.2.1 r_14.2.2))

noncomputable def lf_Pconstraintref41_form_add_s1_L1 (k : (Int) → ((List Int)) → ((List Int)) → Option (Int × (List Int) × (List Int))) (rec : T → Int → (List Int) → Int → (List Int) → (List Int) → Option (Int × (List Int) × (List Int))) (factor_a2 : Int) (ones_a3 : (List Int)) : List T → Int → (List Int) → (List Int) → Option (Int × (List Int) × (List Int))
  | [], f_22, f_23, f_24 =>
  (k f_22 f_23 f_24)
  | q_30 :: rest, f_22, f_23, f_24 =>
  ((rec q_30 factor_a2 ones_a3 f_22 f_23 f_24).bind fun r_31 =>
  (lf_Pconstraintref41_form_add_s1_L1 k rec factor_a2 ones_a3 rest r_31.1 r_31.2.1 r_31.2.2))

noncomputable def lf_Pconstraintref41_form_add_s1_L2 (k : Option (Int × (List Int) × (List Int))) (c_0_0 : Int) (c_0_1 : (List Int)) (c_0_2 : (List Int)) (factor_a2 : Int) (t_a1 : T) : List Int → Nat → Option (Int × (List Int) × (List Int))
  | [], i_36 =>
  k
  | q_43 :: rest, i_36 =>
  (bif (q_43 == t_a1.i) then
  ((getI c_0_2 (i_36 : Int)).bind fun q_45 =>
  some (c_0_0, c_0_1, (c_0_2.set (i_36 : Int).toNat (wr (q_45 + factor_a2)))))
  else
  (lf_Pconstraintref41_form_add_s1_L2 k c_0_0 c_0_1 c_0_2 factor_a2 t_a1 rest (i_36 + 1)))
noncomputable def lf_Pconstraintref41_form_add_s1 : Nat → T → Int → (List Int) → Int → (List Int) → (List Int) → Option (Int × (List Int) × (List Int))
  | 0, _, _, _, _, _, _ => none
  | fuel + 1, t_a1, factor_a2, ones_a3, c_0_0, c_0_1, c_0_2 =>
    (fun (rec : T → Int → (List Int) → Int → (List Int) → (List Int) → Option (Int × (List Int) × (List Int))) =>
      (bif (t_a1.k != (1 : Int)) then
      (lf_Pconstraintref41_form_add_s1_L0 (fun f_10 f_11 f_12 =>
      some (f_10, f_11, f_12)) rec factor_a2 ones_a3 t_a1.ar (wr (c_0_0 + factor_a2)) c_0_1 c_0_2)
      else
      ((lf_constraintref41_in ones_a3 t_a1.i).bind fun r_17 =>
      (bif r_17 then
      (lf_Pconstraintref41_form_add_s1_L1 (fun f_27 f_28 f_29 =>
      some (f_27, f_28, f_29)) rec factor_a2 ones_a3 t_a1.ar (wr (c_0_0 + factor_a2)) c_0_1 c_0_2)
      else
      (lf_Pconstraintref41_form_add_s1_L2 (((appO 8 c_0_1 [t_a1.i]).bind fun l_39 =>
      ((appO 8 c_0_2 [factor_a2]).bind fun l_41 =>
      some (c_0_0, l_39, l_41)))) c_0_0 c_0_1 c_0_2 factor_a2 t_a1 c_0_1 0))))) (lf_Pconstraintref41_form_add_s1 fuel)

set_option maxHeartbeats 1000000 in
theorem lgs_Pconstraintref41_form_add_s1 (fuel : Nat) (rec : T → Int → (List Int) → Int → (List Int) → (List Int) → Option (Int × (List Int) × (List Int))) (IHR : ∀ (t_a1 : T) (factor_a2 : Int) (ones_a3 : (List Int)) (c_0_0 : Int) (c_0_1 : (List Int)) (c_0_2 : (List Int)) (b_o0 : Nat) (u_o1 : Value) (u_o2 : Value) (res : Int × (List Int) × (List Int)), rec t_a1 factor_a2 ones_a3 c_0_0 c_0_1 c_0_2 = some res → Spec Try.prog 59 [.ref b_o0 0 [], encT t_a1, .int .i64 factor_a2, .lst (ones_a3.map (D.int .i64))] [.cell b_o0 (.agg [.int .i64 c_0_0, .own u_o1 (c_0_1.map (D.int .i64)), .vec u_o2 c_0_2.length]), .row u_o1 c_0_1.length 3 1, .vec u_o2 (c_0_2.map (D.int .i64)) 3 1] (fun d σ => ∃ (u_o1' : Value) (u_o2' : Value), d = .tup [] ∧ σ = [.cell b_o0 (.agg [.int .i64 res.1, .own u_o1' (res.2.1.map (D.int .i64)), .vec u_o2' res.2.2.length]), .row u_o1' res.2.1.length 3 1, .vec u_o2' (res.2.2.map (D.int .i64)) 3 1])) (t_a1 : T) (factor_a2 : Int) (ones_a3 : (List Int)) (c_0_0 : Int) (c_0_1 : (List Int)) (c_0_2 : (List Int)) (b_o0 : Nat) (u_o1 : Value) (u_o2 : Value) (res : Int × (List Int) × (List Int))
    (hr : (bif (t_a1.k != (1 : Int)) then
(lf_Pconstraintref41_form_add_s1_L0 (fun f_10 f_11 f_12 =>
some (f_10, f_11, f_12)) rec factor_a2 ones_a3 t_a1.ar (wr (c_0_0 + factor_a2)) c_0_1 c_0_2)
else
((lf_constraintref41_in ones_a3 t_a1.i).bind fun r_17 =>
(bif r_17 then
(lf_Pconstraintref41_form_add_s1_L1 (fun f_27 f_28 f_29 =>
some (f_27, f_28, f_29)) rec factor_a2 ones_a3 t_a1.ar (wr (c_0_0 + factor_a2)) c_0_1 c_0_2)
else
(lf_Pconstraintref41_form_add_s1_L2 (((appO 8 c_0_1 [t_a1.i]).bind fun l_39 =>
((appO 8 c_0_2 [factor_a2]).bind fun l_41 =>
some (c_0_0, l_39, l_41)))) c_0_0 c_0_1 c_0_2 factor_a2 t_a1 c_0_1 0)))) = some res) : Spec Try.prog 59 [.ref b_o0 0 [], encT t_a1, .int .i64 factor_a2, .lst (ones_a3.map (D.int .i64))] [.cell b_o0 (.agg [.int .i64 c_0_0, .own u_o1 (c_0_1.map (D.int .i64)), .vec u_o2 c_0_2.length]), .row u_o1 c_0_1.length 3 1, .vec u_o2 (c_0_2.map (D.int .i64)) 3 1] (fun d σ => ∃ (u_o1' : Value) (u_o2' : Value), d = .tup [] ∧ σ = [.cell b_o0 (.agg [.int .i64 res.1, .own u_o1' (res.2.1.map (D.int .i64)), .vec u_o2' res.2.2.length]), .row u_o1' res.2.1.length 3 1, .vec u_o2' (res.2.2.map (D.int .i64)) 3 1]) := by
  refine spec_env [(0, .ref b_o0 0 []), (1, encT t_a1), (2, .int .i64 factor_a2), (3, .lst (ones_a3.map (D.int .i64)))] Try.func59 rfl rfl fun K hK => ?_
  refine g_seq ?_
  refine g_run (by kernel_rfl) [(0, .d)] rfl ?_
  refine r_d rfl rfl rfl (s_box rfl rfl rfl) ?_
  refine r_end ?_
  refine g_seq ?_
  refine g_seq ?_
  refine g_run (by kernel_rfl) [(0, .d), (1, .d), (2, .d), (3, .d), (4, .d), (5, .d), (6, .d), (7, .d), (8, .d)] rfl ?_
  refine r_d rfl rfl rfl (s_fieldAddr rfl fl_api_Term_0 rfl (fsT_get0 _) (fsT_off0 _) rfl) ?_
  refine r_d rfl rfl rfl (s_load rfl rfl (by exact ty_int) rfl) ?_
  refine r_d rfl rfl rfl (s_cmp rfl rfl rfl rfl) ?_
  refine r_d rfl rfl rfl (s_move rfl rfl) ?_
  refine r_sB 13 rfl hr (fun h13_0 hr => ?_) (fun h13_0 hr => ?_)
  ·
    refine r_skip rfl rfl rfl ?_
    refine r_skip rfl rfl rfl ?_
    refine r_skip rfl rfl rfl ?_
    refine r_skip rfl rfl rfl ?_
    refine r_d rfl rfl rfl (s_pickT rfl rfl rfl) ?_
    refine r_end ?_
    refine g_condT rfl ?_
    refine g_seq ?_
    refine g_run (by kernel_rfl) [(0, .d), (1, .d), (2, .d), (3, .r), (4, .d), (5, .d), (6, .d), (7, .d), (8, .w)] rfl ?_
    refine r_d rfl rfl rfl (s_move rfl rfl) ?_
    refine r_d rfl rfl rfl (s_nilCheckR rfl rfl) ?_
    refine r_d rfl rfl rfl (s_fieldRef rfl fl_constraintref41_form_0 rfl) ?_
    refine r_r rfl rfl rfl (t_loadRef rfl rfl (.head _) rfl rfl (by exact ty_int) rfl) ?_
    refine r_d rfl rfl rfl (s_move rfl rfl) ?_
    refine r_d rfl rfl rfl (s_arW rfl rfl rfl rfl) ?_
    refine r_d rfl rfl rfl (s_nilCheckR rfl rfl) ?_
    refine r_d rfl rfl rfl (s_fieldRef rfl fl_constraintref41_form_0 rfl) ?_
    refine r_w01 rfl rfl rfl (t_store _ rfl rfl rfl (Wk.refl _) (pf0 _) rfl rfl (by exact ty_int) rfl rfl rfl) ?_
    refine r_end ?_
    refine g_seq ?_
    refine g_seq ?_
    refine g_run (by kernel_rfl) [(0, .d)] rfl ?_
    refine r_d rfl rfl rfl (s_assign rfl rfl) ?_
    refine r_end ?_
    obtain ⟨kk0, hkk0, hr⟩ := exK (fun k => lf_Pconstraintref41_form_add_s1_L0 k rec factor_a2 ones_a3 t_a1.ar (wr (c_0_0 + factor_a2)) c_0_1 c_0_2) hr
    refine g_lenS 1 [3] (l := t_a1.ar.map encT) rfl (subT3 _) (asl rfl) fun hla0 => ?_
    simp only [List.length_map] at hla0
    refine g_blockJ (fun env σ => ∃ (f_10 : Int) (f_11 : (List Int)) (f_12 : (List Int)) (u_8 : Value) (u_9 : Value), env = [] ∧ σ = [.cell b_o0 (.agg [.int .i64 f_10, .own u_8 (f_11.map (D.int .i64)), .vec u_9 f_12.length]), .row u_8 f_11.length 3 1, .vec u_9 (f_12.map (D.int .i64)) 3 1] ∧ kk0 f_10 f_11 f_12 = some res) ?_ (fun HK0 => ?_)
    ·
      rintro _ _ ⟨f_10, f_11, f_12, u_8, u_9, rfl, rfl, hr⟩
      rw [hkk0] at hr
      obtain rfl := Option.some.inj hr
      refine g_ret Try.func59 _ .nil ?_
      exact ⟨u_8, u_9, rfl, rfl⟩
    ·
      refine g_sub [(0, .ref b_o0 0 []), (2, .int .i64 factor_a2), (3, .lst (ones_a3.map (D.int .i64))), (5, .ptr (encT t_a1)), (8, .int .i64 ((0 : Nat) : Int))] (Sub.cons' rfl (Sub.cons' rfl (Sub.cons' rfl (Sub.cons' rfl (Sub.cons' rfl (Sub.nil _)))))) ?_
      refine g_loop (fun n env σ => ∃ (i_4 : Nat) (f_5 : Int) (f_6 : (List Int)) (f_7 : (List Int)) (u_2 : Value) (u_3 : Value), (n = t_a1.ar.length - i_4) ∧ (env = [(0, .ref b_o0 0 []), (2, .int .i64 factor_a2), (3, .lst (ones_a3.map (D.int .i64))), (5, .ptr (encT t_a1)), (8, .int .i64 (i_4 : Int))]) ∧ (σ = [.cell b_o0 (.agg [.int .i64 f_5, .own u_2 (f_6.map (D.int .i64)), .vec u_3 f_7.length]), .row u_2 f_6.length 3 1, .vec u_3 (f_7.map (D.int .i64)) 3 1]) ∧ (i_4 ≤ t_a1.ar.length) ∧ (lf_Pconstraintref41_form_add_s1_L0 kk0 rec factor_a2 ones_a3 (t_a1.ar.drop i_4) f_5 f_6 f_7 = some res)) _ ⟨0, (wr (c_0_0 + factor_a2)), c_0_1, c_0_2, u_o1, u_o2, rfl, rfl, rfl, Nat.zero_le _, hr⟩ ?_
      rintro n _ _ ⟨i_4, f_5, f_6, f_7, u_2, u_3, rfl, rfl, rfl, hi0, hr⟩ IH0
      rcases listStep t_a1.ar i_4 hi0 with ⟨ht0, hd0, he0⟩ | ⟨q_13, ht0, hd0, hq0, hlt0⟩
      ·
        rw [hd0, lf_Pconstraintref41_form_add_s1_L0] at hr
        refine g_seq ?_
        refine g_seq ?_
        refine g_run (by kernel_rfl) [(0, .d), (1, .d), (2, .d), (3, .d), (4, .d)] rfl ?_
        refine r_d rfl rfl rfl (s_move rfl rfl) ?_
        refine r_d rfl rfl rfl (s_fieldAddr rfl fl_api_Term_3 rfl (fsT_get3 _) (fsT_off3 _) rfl) ?_
        refine r_d rfl rfl rfl (s_load rfl rfl (by exact ty_L_api_Term) rfl) ?_
        refine r_d rfl rfl rfl (m_len (f := encT) t_a1.ar rfl el_L_api_Term rfl (asl rfl)) ?_
        refine r_d rfl rfl rfl (s_cmp rfl rfl rfl rfl) ?_
        refine r_end ?_
        refine g_known 31 false rfl ht0 ?_
        refine g_condF rfl ?_
        refine g_exit rfl ?_
        refine g_sub [] (Sub.nil _) ?_
        exact HK0 _ _ ⟨f_5, f_6, f_7, u_2, u_3, rfl, rfl, hr⟩
      ·
        rw [hd0, lf_Pconstraintref41_form_add_s1_L0] at hr
        refine g_seq ?_
        refine g_seq ?_
        refine g_run (by kernel_rfl) [(0, .d), (1, .d), (2, .d), (3, .d), (4, .d)] rfl ?_
        refine r_d rfl rfl rfl (s_move rfl rfl) ?_
        refine r_d rfl rfl rfl (s_fieldAddr rfl fl_api_Term_3 rfl (fsT_get3 _) (fsT_off3 _) rfl) ?_
        refine r_d rfl rfl rfl (s_load rfl rfl (by exact ty_L_api_Term) rfl) ?_
        refine r_d rfl rfl rfl (m_len (f := encT) t_a1.ar rfl el_L_api_Term rfl (asl rfl)) ?_
        refine r_d rfl rfl rfl (s_cmp rfl rfl rfl rfl) ?_
        refine r_end ?_
        refine g_known 31 true rfl ht0 ?_
        refine g_condT rfl ?_
        refine g_skip ?_
        refine g_seq ?_
        refine g_block ?_
        refine g_run (by kernel_rfl) [(0, .d), (1, .d), (2, .d), (3, .d), (4, .d), (5, .d), (6, .d), (7, .d), (8, .w)] rfl ?_
        refine r_d rfl rfl rfl (s_move rfl rfl) ?_
        refine r_d rfl rfl rfl (s_fieldAddr rfl fl_api_Term_3 rfl (fsT_get3 _) (fsT_off3 _) rfl) ?_
        refine r_d rfl rfl rfl (s_load rfl rfl (by exact ty_L_api_Term) rfl) ?_
        refine r_d rfl rfl rfl (s_move rfl rfl) ?_
        refine r_d rfl rfl rfl (m_index (f := encT) t_a1.ar rfl el_L_api_Term rfl (asl rfl) rfl hq0 sz_encT rfl) ?_
        refine r_d rfl rfl rfl (s_load rfl rfl (by exact ty_api_Term) (sz_encT _)) ?_
        refine r_d rfl rfl rfl (s_move rfl rfl) ?_
        refine r_d rfl rfl rfl (s_move rfl rfl) ?_
        obtain ⟨r_14, hr_14, hr⟩ := bindS hr
        refine r_w rfl rfl rfl (s_call _ rfl cl_Pconstraintref41_form_add (.cons rfl (Wk.refl _) (.cons rfl (Wk.refl _) (.cons rfl (Wk.refl _) (.cons rfl (Wk.refl _) .nil)))) (by exact (((pf2 _ _ _ _).trans (pf2 _ _ _ _)).trans (pf2 _ _ _ _))) (IHR _ _ _ _ _ _ _ _ _ _ hr_14)) ?_
        rintro _ _ ⟨_, ⟨u42_14, u42_15, rfl, rfl⟩, rfl⟩
        refine r_st ((.cell b_o0 (.agg [.int .i64 r_14.1, .own u42_14 (r_14.2.1.map (D.int .i64)), .vec u42_15 r_14.2.2.length])) :: (.row u42_14 r_14.2.1.length 3 1) :: (.vec u42_15 (r_14.2.2.map (D.int .i64)) 3 1) :: _) rfl ?_
        refine r_end ?_
        refine g_inBlock ?_
        refine g_run (by kernel_rfl) [(0, .d), (1, .d), (2, .d)] rfl ?_
        refine r_d rfl rfl rfl (s_move rfl rfl) ?_
        refine r_d rfl rfl rfl (s_ar (r := ((i_4 + 1 : Nat) : Int)) rfl rfl rfl (by simp [iar]) (by omega)) ?_
        refine r_d rfl rfl rfl (s_assign rfl rfl) ?_
        refine r_end ?_
        refine g_sub [(0, .ref b_o0 0 []), (2, .int .i64 factor_a2), (3, .lst (ones_a3.map (D.int .i64))), (5, .ptr (encT t_a1)), (8, .int .i64 ((i_4 + 1 : Nat) : Int))] (Sub.cons' rfl (Sub.cons' rfl (Sub.cons' rfl (Sub.cons' rfl (Sub.cons' rfl (Sub.nil _)))))) ?_
        exact IH0 _ _ _ (by omega) ⟨(i_4 + 1), r_14.1, r_14.2.1, r_14.2.2, u42_14, u42_15, rfl, rfl, rfl, (by omega), hr⟩
  ·
    refine r_d rfl rfl rfl (s_move rfl rfl) ?_
    refine r_d rfl rfl rfl (s_fieldAddr rfl fl_api_Term_1 rfl (fsT_get1 _) (fsT_off1 _) rfl) ?_
    refine r_d rfl rfl rfl (s_load rfl rfl (by exact ty_int) rfl) ?_
    obtain ⟨r_17, hr_17, hr⟩ := bindS hr
    refine r_d rfl rfl rfl (s_callD rfl cl_constraintref41_in (.cons rfl (Wk.refl _) (.cons rfl (Wk.refl _) .nil)) (lg_constraintref41_in _ _ _ hr_17)) ?_
    refine r_d rfl rfl rfl (s_pickF rfl rfl rfl) ?_
    refine r_end ?_
    refine g_sB 18 rfl hr (fun h18_17 hr => ?_) (fun h18_17 hr => ?_)
    ·
      refine g_condT rfl ?_
      refine g_seq ?_
      refine g_run (by kernel_rfl) [(0, .d), (1, .d), (2, .d), (3, .r), (4, .d), (5, .d), (6, .d), (7, .d), (8, .w)] rfl ?_
      refine r_d rfl rfl rfl (s_move rfl rfl) ?_
      refine r_d rfl rfl rfl (s_nilCheckR rfl rfl) ?_
      refine r_d rfl rfl rfl (s_fieldRef rfl fl_constraintref41_form_0 rfl) ?_
      refine r_r rfl rfl rfl (t_loadRef rfl rfl (.head _) rfl rfl (by exact ty_int) rfl) ?_
      refine r_d rfl rfl rfl (s_move rfl rfl) ?_
      refine r_d rfl rfl rfl (s_arW rfl rfl rfl rfl) ?_
      refine r_d rfl rfl rfl (s_nilCheckR rfl rfl) ?_
      refine r_d rfl rfl rfl (s_fieldRef rfl fl_constraintref41_form_0 rfl) ?_
      refine r_w01 rfl rfl rfl (t_store _ rfl rfl rfl (Wk.refl _) (pf0 _) rfl rfl (by exact ty_int) rfl rfl rfl) ?_
      refine r_end ?_
      refine g_seq ?_
      refine g_seq ?_
      refine g_run (by kernel_rfl) [(0, .d)] rfl ?_
      refine r_d rfl rfl rfl (s_assign rfl rfl) ?_
      refine r_end ?_
      obtain ⟨kk1, hkk1, hr⟩ := exK (fun k => lf_Pconstraintref41_form_add_s1_L1 k rec factor_a2 ones_a3 t_a1.ar (wr (c_0_0 + factor_a2)) c_0_1 c_0_2) hr
      refine g_lenS 1 [3] (l := t_a1.ar.map encT) rfl (subT3 _) (asl rfl) fun hla1 => ?_
      simp only [List.length_map] at hla1
      refine g_blockJ (fun env σ => ∃ (f_27 : Int) (f_28 : (List Int)) (f_29 : (List Int)) (u_25 : Value) (u_26 : Value), env = [] ∧ σ = [.cell b_o0 (.agg [.int .i64 f_27, .own u_25 (f_28.map (D.int .i64)), .vec u_26 f_29.length]), .row u_25 f_28.length 3 1, .vec u_26 (f_29.map (D.int .i64)) 3 1] ∧ kk1 f_27 f_28 f_29 = some res) ?_ (fun HK1 => ?_)
      ·
        rintro _ _ ⟨f_27, f_28, f_29, u_25, u_26, rfl, rfl, hr⟩
        rw [hkk1] at hr
        obtain rfl := Option.some.inj hr
        refine g_ret Try.func59 _ .nil ?_
        exact ⟨u_25, u_26, rfl, rfl⟩
      ·
        refine g_sub [(0, .ref b_o0 0 []), (2, .int .i64 factor_a2), (3, .lst (ones_a3.map (D.int .i64))), (5, .ptr (encT t_a1)), (8, .int .i64 ((0 : Nat) : Int))] (Sub.cons' rfl (Sub.cons' rfl (Sub.cons' rfl (Sub.cons' rfl (Sub.cons' rfl (Sub.nil _)))))) ?_
        refine g_loop (fun n env σ => ∃ (i_21 : Nat) (f_22 : Int) (f_23 : (List Int)) (f_24 : (List Int)) (u_19 : Value) (u_20 : Value), (n = t_a1.ar.length - i_21) ∧ (env = [(0, .ref b_o0 0 []), (2, .int .i64 factor_a2), (3, .lst (ones_a3.map (D.int .i64))), (5, .ptr (encT t_a1)), (8, .int .i64 (i_21 : Int))]) ∧ (σ = [.cell b_o0 (.agg [.int .i64 f_22, .own u_19 (f_23.map (D.int .i64)), .vec u_20 f_24.length]), .row u_19 f_23.length 3 1, .vec u_20 (f_24.map (D.int .i64)) 3 1]) ∧ (i_21 ≤ t_a1.ar.length) ∧ (lf_Pconstraintref41_form_add_s1_L1 kk1 rec factor_a2 ones_a3 (t_a1.ar.drop i_21) f_22 f_23 f_24 = some res)) _ ⟨0, (wr (c_0_0 + factor_a2)), c_0_1, c_0_2, u_o1, u_o2, rfl, rfl, rfl, Nat.zero_le _, hr⟩ ?_
        rintro n _ _ ⟨i_21, f_22, f_23, f_24, u_19, u_20, rfl, rfl, rfl, hi1, hr⟩ IH1
        rcases listStep t_a1.ar i_21 hi1 with ⟨ht1, hd1, he1⟩ | ⟨q_30, ht1, hd1, hq1, hlt1⟩
        ·
          rw [hd1, lf_Pconstraintref41_form_add_s1_L1] at hr
          refine g_seq ?_
          refine g_seq ?_
          refine g_run (by kernel_rfl) [(0, .d), (1, .d), (2, .d), (3, .d), (4, .d)] rfl ?_
          refine r_d rfl rfl rfl (s_move rfl rfl) ?_
          refine r_d rfl rfl rfl (s_fieldAddr rfl fl_api_Term_3 rfl (fsT_get3 _) (fsT_off3 _) rfl) ?_
          refine r_d rfl rfl rfl (s_load rfl rfl (by exact ty_L_api_Term) rfl) ?_
          refine r_d rfl rfl rfl (m_len (f := encT) t_a1.ar rfl el_L_api_Term rfl (asl rfl)) ?_
          refine r_d rfl rfl rfl (s_cmp rfl rfl rfl rfl) ?_
          refine r_end ?_
          refine g_known 31 false rfl ht1 ?_
          refine g_condF rfl ?_
          refine g_exit rfl ?_
          refine g_sub [] (Sub.nil _) ?_
          exact HK1 _ _ ⟨f_22, f_23, f_24, u_19, u_20, rfl, rfl, hr⟩
        ·
          rw [hd1, lf_Pconstraintref41_form_add_s1_L1] at hr
          refine g_seq ?_
          refine g_seq ?_
          refine g_run (by kernel_rfl) [(0, .d), (1, .d), (2, .d), (3, .d), (4, .d)] rfl ?_
          refine r_d rfl rfl rfl (s_move rfl rfl) ?_
          refine r_d rfl rfl rfl (s_fieldAddr rfl fl_api_Term_3 rfl (fsT_get3 _) (fsT_off3 _) rfl) ?_
          refine r_d rfl rfl rfl (s_load rfl rfl (by exact ty_L_api_Term) rfl) ?_
          refine r_d rfl rfl rfl (m_len (f := encT) t_a1.ar rfl el_L_api_Term rfl (asl rfl)) ?_
          refine r_d rfl rfl rfl (s_cmp rfl rfl rfl rfl) ?_
          refine r_end ?_
          refine g_known 31 true rfl ht1 ?_
          refine g_condT rfl ?_
          refine g_skip ?_
          refine g_seq ?_
          refine g_block ?_
          refine g_run (by kernel_rfl) [(0, .d), (1, .d), (2, .d), (3, .d), (4, .d), (5, .d), (6, .d), (7, .d), (8, .w)] rfl ?_
          refine r_d rfl rfl rfl (s_move rfl rfl) ?_
          refine r_d rfl rfl rfl (s_fieldAddr rfl fl_api_Term_3 rfl (fsT_get3 _) (fsT_off3 _) rfl) ?_
          refine r_d rfl rfl rfl (s_load rfl rfl (by exact ty_L_api_Term) rfl) ?_
          refine r_d rfl rfl rfl (s_move rfl rfl) ?_
          refine r_d rfl rfl rfl (m_index (f := encT) t_a1.ar rfl el_L_api_Term rfl (asl rfl) rfl hq1 sz_encT rfl) ?_
          refine r_d rfl rfl rfl (s_load rfl rfl (by exact ty_api_Term) (sz_encT _)) ?_
          refine r_d rfl rfl rfl (s_move rfl rfl) ?_
          refine r_d rfl rfl rfl (s_move rfl rfl) ?_
          obtain ⟨r_31, hr_31, hr⟩ := bindS hr
          refine r_w rfl rfl rfl (s_call _ rfl cl_Pconstraintref41_form_add (.cons rfl (Wk.refl _) (.cons rfl (Wk.refl _) (.cons rfl (Wk.refl _) (.cons rfl (Wk.refl _) .nil)))) (by exact (((pf2 _ _ _ _).trans (pf2 _ _ _ _)).trans (pf2 _ _ _ _))) (IHR _ _ _ _ _ _ _ _ _ _ hr_31)) ?_
          rintro _ _ ⟨_, ⟨u42_31, u42_32, rfl, rfl⟩, rfl⟩
          refine r_st ((.cell b_o0 (.agg [.int .i64 r_31.1, .own u42_31 (r_31.2.1.map (D.int .i64)), .vec u42_32 r_31.2.2.length])) :: (.row u42_31 r_31.2.1.length 3 1) :: (.vec u42_32 (r_31.2.2.map (D.int .i64)) 3 1) :: _) rfl ?_
          refine r_end ?_
          refine g_inBlock ?_
          refine g_run (by kernel_rfl) [(0, .d), (1, .d), (2, .d)] rfl ?_
          refine r_d rfl rfl rfl (s_move rfl rfl) ?_
          refine r_d rfl rfl rfl (s_ar (r := ((i_21 + 1 : Nat) : Int)) rfl rfl rfl (by simp [iar]) (by omega)) ?_
          refine r_d rfl rfl rfl (s_assign rfl rfl) ?_
          refine r_end ?_
          refine g_sub [(0, .ref b_o0 0 []), (2, .int .i64 factor_a2), (3, .lst (ones_a3.map (D.int .i64))), (5, .ptr (encT t_a1)), (8, .int .i64 ((i_21 + 1 : Nat) : Int))] (Sub.cons' rfl (Sub.cons' rfl (Sub.cons' rfl (Sub.cons' rfl (Sub.cons' rfl (Sub.nil _)))))) ?_
          exact IH1 _ _ _ (by omega) ⟨(i_21 + 1), r_31.1, r_31.2.1, r_31.2.2, u42_31, u42_32, rfl, rfl, rfl, (by omega), hr⟩
    ·
      refine g_condF rfl ?_
      refine g_skip ?_
      refine g_seq ?_
      refine g_seq ?_
      refine g_run (by kernel_rfl) [(0, .d)] rfl ?_
      refine r_d rfl rfl rfl (s_assign rfl rfl) ?_
      refine r_end ?_
      obtain ⟨kk2, hkk2, hr⟩ := exK (fun k => lf_Pconstraintref41_form_add_s1_L2 k c_0_0 c_0_1 c_0_2 factor_a2 t_a1 c_0_1 0) hr
      refine g_lenC [1] (l := c_0_1.map (D.int .i64)) (.head _) (by first | rfl | simp [subD, fsT_eq]) (asl rfl) fun hla2 => ?_
      simp only [List.length_map] at hla2
      refine g_blockJ (fun env σ => ∃ (u_37 : Value) (u_38 : Value), env = [(0, .ref b_o0 0 []), (2, .int .i64 factor_a2), (5, .ptr (encT t_a1))] ∧ σ = [.cell b_o0 (.agg [.int .i64 c_0_0, .own u_37 (c_0_1.map (D.int .i64)), .vec u_38 c_0_2.length]), .row u_37 c_0_1.length 3 1, .vec u_38 (c_0_2.map (D.int .i64)) 3 1] ∧ kk2 = some res) ?_ (fun HK2 => ?_)
      ·
        rintro _ _ ⟨u_37, u_38, rfl, rfl, hr⟩
        rw [hkk2] at hr
        refine g_seq ?_
        refine g_any (by kernel_rfl) (by kernel_rfl) [(0, .d), (1, .d), (2, .d), (3, .d), (4, .r), (5, .d), (6, .d), (7, .d), (8, .w), (9, .d), (10, .d), (11, .w)] (by kernel_rfl) ?_
        refine r_d rfl rfl rfl (s_move rfl rfl) ?_
        refine r_d rfl rfl rfl (s_move rfl rfl) ?_
        refine r_d rfl rfl rfl (s_nilCheckR rfl rfl) ?_
        refine r_d rfl rfl rfl (s_fieldRef rfl fl_constraintref41_form_1 rfl) ?_
        refine r_r rfl rfl rfl (t_loadRef rfl rfl (.head _) rfl rfl (by exact ty_L_int) rfl) ?_
        refine r_d rfl rfl rfl (s_fieldAddr rfl fl_api_Term_1 rfl (fsT_get1 _) (fsT_off1 _) rfl) ?_
        refine r_d rfl rfl rfl (s_load rfl rfl (by exact ty_int) rfl) ?_
        refine r_d rfl rfl rfl (m_lit (f := (D.int .i64)) [.tmp 78] [t_a1.i] rfl el_L_int rfl rfl (by decide) (by decide) (.cons rfl (Wk.refl _) .nil) (fun _ => rfl) (fun _ => rfl)) ?_
        obtain ⟨l_39, hl_39, hr⟩ := bindS hr
        refine r_w rfl rfl rfl (m_appOwn (f := (D.int .i64)) c_0_1 [t_a1.i] rfl el_L_int rfl rfl (asl rfl) (pf1 _ _ _) rfl (fun _ => rfl) hl_39) ?_
        rintro _ _ ⟨u80_39, rfl, rfl⟩
        refine r_d rfl rfl rfl (s_nilCheckR rfl rfl) ?_
        refine r_d rfl rfl rfl (s_fieldRef rfl fl_constraintref41_form_1 rfl) ?_
        refine r_w01 rfl rfl rfl (t_store _ rfl rfl rfl (Wk.refl _) (pf1 _ _ _) rfl rfl (by exact ty_L_int) rfl rfl rfl) ?_
        refine r_end ?_
        refine g_run (by kernel_rfl) [(0, .d), (1, .d), (2, .d), (3, .d), (4, .r), (5, .d), (6, .d), (7, .w), (8, .d), (9, .d), (10, .w)] rfl ?_
        refine r_d rfl rfl rfl (s_move rfl rfl) ?_
        refine r_d rfl rfl rfl (s_move rfl rfl) ?_
        refine r_d rfl rfl rfl (s_nilCheckR rfl rfl) ?_
        refine r_d rfl rfl rfl (s_fieldRef rfl fl_constraintref41_form_2 rfl) ?_
        refine r_r rfl rfl rfl (t_loadRef rfl rfl (.head _) rfl rfl (by exact ty_L_int) rfl) ?_
        refine r_d rfl rfl rfl (s_move rfl rfl) ?_
        refine r_d rfl rfl rfl (m_lit (f := (D.int .i64)) [.tmp 88] [factor_a2] rfl el_L_int rfl rfl (by decide) (by decide) (.cons rfl (Wk.refl _) .nil) (fun _ => rfl) (fun _ => rfl)) ?_
        obtain ⟨l_41, hl_41, hr⟩ := bindS hr
        refine r_w rfl rfl rfl (m_appVec (f := (D.int .i64)) c_0_2 [factor_a2] rfl el_L_int rfl rfl (asl rfl) (pf2 _ _ _ _) (fun _ => rfl) hl_41) ?_
        rintro _ _ ⟨u90_41, rfl, rfl⟩
        refine r_d rfl rfl rfl (s_nilCheckR rfl rfl) ?_
        refine r_d rfl rfl rfl (s_fieldRef rfl fl_constraintref41_form_2 rfl) ?_
        refine r_w01 rfl rfl rfl (t_store _ rfl rfl rfl (Wk.refl _) (pf1 _ _ _) rfl rfl (by exact ty_L_int) rfl rfl rfl) ?_
        refine r_end ?_
        refine g_perm [_, _, _] _ (((pf1 _ _ _).trans (pf2 _ _ _ _)).trans (pf2 _ _ _ _)) ?_
        obtain rfl := Option.some.inj hr
        refine g_end Try.func59 _ .nil ?_
        exact ⟨u80_39, u90_41, rfl, rfl⟩
      ·
        refine g_sub [(0, .ref b_o0 0 []), (2, .int .i64 factor_a2), (5, .ptr (encT t_a1)), (9, .int .i64 ((0 : Nat) : Int))] (Sub.cons' rfl (Sub.cons' rfl (Sub.cons' rfl (Sub.cons' rfl (Sub.nil _))))) ?_
        refine g_loop (fun n env σ => ∃ (i_36 : Nat) (u_34 : Value) (u_35 : Value), (n = c_0_1.length - i_36) ∧ (env = [(0, .ref b_o0 0 []), (2, .int .i64 factor_a2), (5, .ptr (encT t_a1)), (9, .int .i64 (i_36 : Int))]) ∧ (σ = [.cell b_o0 (.agg [.int .i64 c_0_0, .own u_34 (c_0_1.map (D.int .i64)), .vec u_35 c_0_2.length]), .row u_34 c_0_1.length 3 1, .vec u_35 (c_0_2.map (D.int .i64)) 3 1]) ∧ (i_36 ≤ c_0_1.length) ∧ (lf_Pconstraintref41_form_add_s1_L2 kk2 c_0_0 c_0_1 c_0_2 factor_a2 t_a1 (c_0_1.drop i_36) i_36 = some res)) _ ⟨0, u_o1, u_o2, rfl, rfl, rfl, Nat.zero_le _, hr⟩ ?_
        rintro n _ _ ⟨i_36, u_34, u_35, rfl, rfl, rfl, hi2, hr⟩ IH2
        rcases listStep c_0_1 i_36 hi2 with ⟨ht2, hd2, he2⟩ | ⟨q_43, ht2, hd2, hq2, hlt2⟩
        ·
          rw [hd2, lf_Pconstraintref41_form_add_s1_L2] at hr
          refine g_seq ?_
          refine g_seq ?_
          refine g_run (by kernel_rfl) [(0, .d), (1, .d), (2, .d), (3, .d), (4, .r), (5, .d), (6, .d)] rfl ?_
          refine r_d rfl rfl rfl (s_move rfl rfl) ?_
          refine r_d rfl rfl rfl (s_move rfl rfl) ?_
          refine r_d rfl rfl rfl (s_nilCheckR rfl rfl) ?_
          refine r_d rfl rfl rfl (s_fieldRef rfl fl_constraintref41_form_1 rfl) ?_
          refine r_r rfl rfl rfl (t_loadRef rfl rfl (.head _) rfl rfl (by exact ty_L_int) rfl) ?_
          refine r_d rfl rfl rfl (m_len (f := (D.int .i64)) c_0_1 rfl el_L_int rfl (asl rfl)) ?_
          refine r_d rfl rfl rfl (s_cmp rfl rfl rfl rfl) ?_
          refine r_end ?_
          refine g_known 49 false rfl ht2 ?_
          refine g_condF rfl ?_
          refine g_exit rfl ?_
          refine g_sub [(0, .ref b_o0 0 []), (2, .int .i64 factor_a2), (5, .ptr (encT t_a1))] (Sub.cons' rfl (Sub.cons' rfl (Sub.cons' rfl (Sub.nil _)))) ?_
          exact HK2 _ _ ⟨u_34, u_35, rfl, rfl, hr⟩
        ·
          rw [hd2, lf_Pconstraintref41_form_add_s1_L2] at hr
          refine g_seq ?_
          refine g_seq ?_
          refine g_run (by kernel_rfl) [(0, .d), (1, .d), (2, .d), (3, .d), (4, .r), (5, .d), (6, .d)] rfl ?_
          refine r_d rfl rfl rfl (s_move rfl rfl) ?_
          refine r_d rfl rfl rfl (s_move rfl rfl) ?_
          refine r_d rfl rfl rfl (s_nilCheckR rfl rfl) ?_
          refine r_d rfl rfl rfl (s_fieldRef rfl fl_constraintref41_form_1 rfl) ?_
          refine r_r rfl rfl rfl (t_loadRef rfl rfl (.head _) rfl rfl (by exact ty_L_int) rfl) ?_
          refine r_d rfl rfl rfl (m_len (f := (D.int .i64)) c_0_1 rfl el_L_int rfl (asl rfl)) ?_
          refine r_d rfl rfl rfl (s_cmp rfl rfl rfl rfl) ?_
          refine r_end ?_
          refine g_known 49 true rfl ht2 ?_
          refine g_condT rfl ?_
          refine g_skip ?_
          refine g_seq ?_
          refine g_block ?_
          refine g_seq ?_
          refine g_any (by kernel_rfl) (by kernel_rfl) [(0, .d), (1, .d), (2, .d), (3, .r), (4, .d), (5, .d), (6, .d), (7, .d), (8, .d), (9, .d)] (by kernel_rfl) ?_
          refine r_d rfl rfl rfl (s_move rfl rfl) ?_
          refine r_d rfl rfl rfl (s_nilCheckR rfl rfl) ?_
          refine r_d rfl rfl rfl (s_fieldRef rfl fl_constraintref41_form_1 rfl) ?_
          refine r_r rfl rfl rfl (t_loadRef rfl rfl (.head _) rfl rfl (by exact ty_L_int) rfl) ?_
          refine r_d rfl rfl rfl (s_move rfl rfl) ?_
          refine r_d rfl rfl rfl (m_index (f := (D.int .i64)) c_0_1 rfl el_L_int rfl (asl rfl) rfl hq2 (fun _ => rfl) rfl) ?_
          refine r_d rfl rfl rfl (s_load rfl rfl (by exact ty_int) rfl) ?_
          refine r_d rfl rfl rfl (s_fieldAddr rfl fl_api_Term_1 rfl (fsT_get1 _) (fsT_off1 _) rfl) ?_
          refine r_d rfl rfl rfl (s_load rfl rfl (by exact ty_int) rfl) ?_
          refine r_d rfl rfl rfl (s_cmp rfl rfl rfl rfl) ?_
          refine r_end ?_
          refine g_sB 61 rfl hr (fun h61_43 hr => ?_) (fun h61_43 hr => ?_)
          ·
            refine g_condT rfl ?_
            refine g_seq ?_
            refine g_run (by kernel_rfl) [(0, .d), (1, .d), (2, .d), (3, .r), (4, .d), (5, .r), (6, .r), (7, .d), (8, .d), (9, .r), (10, .w)] rfl ?_
            refine r_d rfl rfl rfl (s_move rfl rfl) ?_
            refine r_d rfl rfl rfl (s_nilCheckR rfl rfl) ?_
            refine r_d rfl rfl rfl (s_fieldRef rfl fl_constraintref41_form_2 rfl) ?_
            refine r_r rfl rfl rfl (t_loadRef rfl rfl (.head _) rfl rfl (by exact ty_L_int) rfl) ?_
            refine r_d rfl rfl rfl (s_move rfl rfl) ?_
            obtain ⟨q_45, hq_45, hr⟩ := bindS hr
            have hq_45_n := (getI_some hq_45).2
            refine r_r rfl rfl rfl (m_indexVec (f := (D.int .i64)) c_0_2 rfl el_L_int rfl rfl hq_45 (.tail _ (.tail _ (.head _)))) ?_
            refine r_r rfl rfl rfl (t_loadV rfl rfl (.tail _ (.tail _ (.head _))) (getm hq_45_n) rfl rfl (by exact ty_int) rfl) ?_
            refine r_d rfl rfl rfl (s_move rfl rfl) ?_
            refine r_d rfl rfl rfl (s_arW rfl rfl rfl rfl) ?_
            have hq_45_n := (getI_some hq_45).2
            refine r_r rfl rfl rfl (m_indexVec (f := (D.int .i64)) c_0_2 rfl el_L_int rfl rfl hq_45 (.tail _ (.tail _ (.head _)))) ?_
            refine r_w01 rfl rfl rfl (t_storeV _ rfl rfl rfl (Wk.refl _) (pf2 _ _ _ _) (getm hq_45_n) rfl rfl rfl (by exact ty_int) rfl rfl rfl) ?_
            refine r_st [.vec u_35 ((c_0_2.set (i_36 : Int).toNat (wr (q_45 + factor_a2))).map (D.int .i64)) 3 1, .cell b_o0 (.agg [.int .i64 c_0_0, .own u_34 (c_0_1.map (D.int .i64)), .vec u_35 (c_0_2.set (i_36 : Int).toNat (wr (q_45 + factor_a2))).length]), .row u_34 c_0_1.length 3 1] (by simp [List.map_set, setD_nil]) ?_
            refine r_end ?_
            refine g_perm [_, _, _] _ (((pf0 _).trans (pf2 _ _ _ _)).trans (pf2 _ _ _ _)) ?_
            obtain rfl := Option.some.inj hr
            refine g_ret Try.func59 _ .nil ?_
            exact ⟨u_34, u_35, rfl, rfl⟩
          ·
            refine g_condF rfl ?_
            refine g_skip ?_
            refine g_inBlock ?_
            refine g_run (by kernel_rfl) [(0, .d), (1, .d), (2, .d)] rfl ?_
            refine r_d rfl rfl rfl (s_move rfl rfl) ?_
            refine r_d rfl rfl rfl (s_ar (r := ((i_36 + 1 : Nat) : Int)) rfl rfl rfl (by simp [iar]) (by omega)) ?_
            refine r_d rfl rfl rfl (s_assign rfl rfl) ?_
            refine r_end ?_
            refine g_sub [(0, .ref b_o0 0 []), (2, .int .i64 factor_a2), (5, .ptr (encT t_a1)), (9, .int .i64 ((i_36 + 1 : Nat) : Int))] (Sub.cons' rfl (Sub.cons' rfl (Sub.cons' rfl (Sub.cons' rfl (Sub.nil _))))) ?_
            exact IH2 _ _ _ (by omega) ⟨(i_36 + 1), u_34, u_35, rfl, rfl, rfl, (by omega), hr⟩
theorem lg_Pconstraintref41_form_add_s1 : ∀ (fuel : Nat) (t_a1 : T) (factor_a2 : Int) (ones_a3 : (List Int)) (c_0_0 : Int) (c_0_1 : (List Int)) (c_0_2 : (List Int)) (b_o0 : Nat) (u_o1 : Value) (u_o2 : Value) (res : Int × (List Int) × (List Int)), lf_Pconstraintref41_form_add_s1 fuel t_a1 factor_a2 ones_a3 c_0_0 c_0_1 c_0_2 = some res → Spec Try.prog 59 [.ref b_o0 0 [], encT t_a1, .int .i64 factor_a2, .lst (ones_a3.map (D.int .i64))] [.cell b_o0 (.agg [.int .i64 c_0_0, .own u_o1 (c_0_1.map (D.int .i64)), .vec u_o2 c_0_2.length]), .row u_o1 c_0_1.length 3 1, .vec u_o2 (c_0_2.map (D.int .i64)) 3 1] (fun d σ => ∃ (u_o1' : Value) (u_o2' : Value), d = .tup [] ∧ σ = [.cell b_o0 (.agg [.int .i64 res.1, .own u_o1' (res.2.1.map (D.int .i64)), .vec u_o2' res.2.2.length]), .row u_o1' res.2.1.length 3 1, .vec u_o2' (res.2.2.map (D.int .i64)) 3 1])
  | 0, _, _, _, _, _, _, _, _, _, _, h => by cases h
  | fuel + 1, t_a1, factor_a2, ones_a3, c_0_0, c_0_1, c_0_2, b_o0, u_o1, u_o2, res, h => lgs_Pconstraintref41_form_add_s1 fuel (lf_Pconstraintref41_form_add_s1 fuel) (lg_Pconstraintref41_form_add_s1 fuel) t_a1 factor_a2 ones_a3 c_0_0 c_0_1 c_0_2 b_o0 u_o1 u_o2 res h

noncomputable def lf_Pconstraintref41_form_put_s1_L0 (k : (Int) → ((List Int)) → ((List Int)) → Option (Bool × Int × (List Int) × (List Int))) (fuel : Nat) (ones_a4 : (List Int)) (r_1 : S_api_Rank × Bool) (sign_a3 : Int) : List T → Nat → Int → (List Int) → (List Int) → Option (Bool × Int × (List Int) × (List Int))
  | [], i_10, f_11, f_12, f_13 =>
  (k f_11 f_12 f_13)
  | q_19 :: rest, i_10, f_11, f_12, f_13 =>
  ((getI r_1.1.f2_Factors (i_10 : Int)).bind fun q_20 =>
  ((lf_Pconstraintref41_form_add_s1 fuel q_19 (wr (sign_a3 * q_20)) ones_a4 f_11 f_12 f_13).bind fun r_21 =>
  (lf_Pconstraintref41_form_put_s1_L0 k fuel ones_a4 r_1 sign_a3 rest (i_10 + 1) r_21.1 r_21.2.1 r_21.2.2)))
noncomputable def lf_Pconstraintref41_form_put_s1 (fuel : Nat) (ranks_a1 : (List S_api_Rank)) (a_a2 : At) (sign_a3 : Int) (ones_a4 : (List Int)) (c_0_0 : Int) (c_0_1 : (List Int)) (c_0_2 : (List Int)) : Option (Bool × Int × (List Int) × (List Int)) :=
  ((lf_constraintref41_find ranks_a1 a_a2.n (a_a2.ts.length : Int)).bind fun r_1 =>
  (bif (!r_1.2) then
  some (false, c_0_0, c_0_1, c_0_2)
  else
  ((lf_constraintref41_right r_1.1).bind fun r_4 =>
  (bif (!r_4) then
  some (false, c_0_0, c_0_1, c_0_2)
  else
  ((x_rightA a_a2).bind fun r_6 =>
  (bif (!r_6) then
  some (false, c_0_0, c_0_1, c_0_2)
  else
  (lf_Pconstraintref41_form_put_s1_L0 (fun f_16 f_17 f_18 =>
  some (true, f_16, f_17, f_18)) fuel ones_a4 r_1 sign_a3 a_a2.ts 0 (wr (c_0_0 + (wr (sign_a3 * r_1.1.f1_Const)))) c_0_1 c_0_2)))))))

set_option maxHeartbeats 1000000 in
theorem lg_Pconstraintref41_form_put_s1 (fuel : Nat) (ranks_a1 : (List S_api_Rank)) (a_a2 : At) (sign_a3 : Int) (ones_a4 : (List Int)) (c_0_0 : Int) (c_0_1 : (List Int)) (c_0_2 : (List Int)) (b_o0 : Nat) (u_o1 : Value) (u_o2 : Value) (res : Bool × Int × (List Int) × (List Int)) (hr : lf_Pconstraintref41_form_put_s1 fuel ranks_a1 a_a2 sign_a3 ones_a4 c_0_0 c_0_1 c_0_2 = some res) : Spec Try.prog 49 [.ref b_o0 0 [], .lst (ranks_a1.map enc_S_api_Rank), encA a_a2, .int .i64 sign_a3, .lst (ones_a4.map (D.int .i64))] [.cell b_o0 (.agg [.int .i64 c_0_0, .own u_o1 (c_0_1.map (D.int .i64)), .vec u_o2 c_0_2.length]), .row u_o1 c_0_1.length 3 1, .vec u_o2 (c_0_2.map (D.int .i64)) 3 1] (fun d σ => ∃ (u_o1' : Value) (u_o2' : Value), d = .bool res.1 ∧ σ = [.cell b_o0 (.agg [.int .i64 res.2.1, .own u_o1' (res.2.2.1.map (D.int .i64)), .vec u_o2' res.2.2.2.length]), .row u_o1' res.2.2.1.length 3 1, .vec u_o2' (res.2.2.2.map (D.int .i64)) 3 1]) := by
  unfold lf_Pconstraintref41_form_put_s1 at hr
  refine spec_env [(0, .ref b_o0 0 []), (1, .lst (ranks_a1.map enc_S_api_Rank)), (2, encA a_a2), (3, .int .i64 sign_a3), (4, .lst (ones_a4.map (D.int .i64)))] Try.func49 rfl rfl fun K hK => ?_
  refine g_seq ?_
  refine g_run (by kernel_rfl) [(0, .d), (1, .d)] rfl ?_
  refine r_d rfl rfl rfl (s_box rfl rfl rfl) ?_
  refine r_d rfl rfl rfl (s_assign rfl rfl) ?_
  refine r_end ?_
  refine g_seq ?_
  refine g_run (by kernel_rfl) [(0, .d), (1, .d), (2, .d), (3, .d), (4, .d), (5, .d), (6, .d), (7, .d), (8, .d), (9, .d), (10, .w), (11, .w), (12, .d)] rfl ?_
  refine r_d rfl rfl rfl (s_move rfl rfl) ?_
  refine r_d rfl rfl rfl (s_fieldAddr rfl fl_api_Atom_0 rfl rfl rfl rfl) ?_
  refine r_d rfl rfl rfl (s_load rfl rfl (by exact ty_string) rfl) ?_
  refine r_d rfl rfl rfl (s_fieldAddr rfl fl_api_Atom_1 rfl rfl rfl rfl) ?_
  refine r_d rfl rfl rfl (s_load rfl rfl (by exact ty_L_api_Term) rfl) ?_
  refine r_d rfl rfl rfl (m_len (f := encT) a_a2.ts rfl el_L_api_Term rfl (asl rfl)) ?_
  obtain ⟨r_1, hr_1, hr⟩ := bindS hr
  refine r_d rfl rfl rfl (s_callD rfl cl_constraintref41_find (.cons rfl (Wk.refl _) (.cons rfl (Wk.refl _) (.cons rfl (Wk.refl _) .nil))) (lg_constraintref41_find _ _ _ _ hr_1)) ?_
  refine r_d rfl rfl rfl (s_move rfl rfl) ?_
  refine r_d rfl rfl rfl (s_extract rfl rfl rfl) ?_
  refine r_d rfl rfl rfl (s_extract rfl rfl rfl) ?_
  refine r_w rfl rfl rfl (s_alloc rfl zv_api_Rank) ?_
  rintro _ _ ⟨b11_1, rfl, rfl⟩
  refine r_w01 rfl rfl rfl (t_store0 _ rfl rfl rfl (Wk.refl _) (pf0 _) (by exact ty_api_Rank) (sz_S_api_Rank _) rfl rfl) ?_
  refine r_d rfl rfl rfl (s_assign rfl rfl) ?_
  refine r_end ?_
  refine g_freeze 11 b11_1 rfl (pf0 _) ?_
  refine g_seq ?_
  refine g_seq ?_
  refine g_run (by kernel_rfl) [(0, .d), (1, .d), (2, .d), (3, .d), (4, .d), (5, .d), (6, .d), (7, .d), (8, .d), (9, .d), (10, .d), (11, .d)] rfl ?_
  refine r_d rfl rfl rfl (s_move rfl rfl) ?_
  refine r_d rfl rfl rfl (s_not rfl rfl) ?_
  refine r_d rfl rfl rfl (s_move rfl rfl) ?_
  refine r_sB 26 rfl hr (fun h26_2 hr => ?_) (fun h26_2 hr => ?_)
  ·
    refine r_skip rfl rfl rfl ?_
    refine r_skip rfl rfl rfl ?_
    refine r_skip rfl rfl rfl ?_
    refine r_d rfl rfl rfl (s_pickT rfl rfl rfl) ?_
    refine r_d rfl rfl rfl (s_move rfl rfl) ?_
    refine r_skip rfl rfl rfl ?_
    refine r_skip rfl rfl rfl ?_
    refine r_skip rfl rfl rfl ?_
    refine r_d rfl rfl rfl (s_pickT rfl rfl rfl) ?_
    refine r_end ?_
    refine g_condT rfl ?_
    refine g_seq ?_
    refine g_run (by kernel_rfl) [(0, .d)] rfl ?_
    refine r_d rfl rfl rfl (s_assign rfl rfl) ?_
    refine r_end ?_
    obtain rfl := Option.some.inj hr
    refine g_ret Try.func49 _ (.cons (resTmp rfl (Wk.refl _)) .nil) ?_
    exact ⟨u_o1, u_o2, rfl, rfl⟩
  ·
    refine r_d rfl rfl rfl (s_load rfl rfl (by exact ty_api_Rank) (sz_S_api_Rank _)) ?_
    obtain ⟨r_4, hr_4, hr⟩ := bindS hr
    refine r_d rfl rfl rfl (s_callD rfl cl_constraintref41_right (.cons rfl (Wk.refl _) .nil) (lg_constraintref41_right _ _ hr_4)) ?_
    refine r_d rfl rfl rfl (s_not rfl rfl) ?_
    refine r_d rfl rfl rfl (s_pickF rfl rfl rfl) ?_
    refine r_d rfl rfl rfl (s_move rfl rfl) ?_
    refine r_sB 31 rfl hr (fun h31_4 hr => ?_) (fun h31_4 hr => ?_)
    ·
      refine r_skip rfl rfl rfl ?_
      refine r_skip rfl rfl rfl ?_
      refine r_skip rfl rfl rfl ?_
      refine r_d rfl rfl rfl (s_pickT rfl rfl rfl) ?_
      refine r_end ?_
      refine g_condT rfl ?_
      refine g_seq ?_
      refine g_run (by kernel_rfl) [(0, .d)] rfl ?_
      refine r_d rfl rfl rfl (s_assign rfl rfl) ?_
      refine r_end ?_
      obtain rfl := Option.some.inj hr
      refine g_ret Try.func49 _ (.cons (resTmp rfl (Wk.refl _)) .nil) ?_
      exact ⟨u_o1, u_o2, rfl, rfl⟩
    ·
      refine r_d rfl rfl rfl (s_load rfl rfl (by exact ty_api_Atom) (sz_encA _)) ?_
      obtain ⟨r_6, hr_6, hr⟩ := bindS hr
      refine r_d rfl rfl rfl (s_callD rfl cl_constraintref03_RightAtom (.cons rfl (Wk.refl _) .nil) (lx_constraintref03_RightAtom _ _ hr_6)) ?_
      refine r_d rfl rfl rfl (s_not rfl rfl) ?_
      refine r_d rfl rfl rfl (s_pickF rfl rfl rfl) ?_
      refine r_end ?_
      refine g_sB 35 rfl hr (fun h35_6 hr => ?_) (fun h35_6 hr => ?_)
      ·
        refine g_condT rfl ?_
        refine g_seq ?_
        refine g_run (by kernel_rfl) [(0, .d)] rfl ?_
        refine r_d rfl rfl rfl (s_assign rfl rfl) ?_
        refine r_end ?_
        obtain rfl := Option.some.inj hr
        refine g_ret Try.func49 _ (.cons (resTmp rfl (Wk.refl _)) .nil) ?_
        exact ⟨u_o1, u_o2, rfl, rfl⟩
      ·
        refine g_condF rfl ?_
        refine g_skip ?_
        refine g_seq ?_
        refine g_any (by kernel_rfl) (by kernel_rfl) [(0, .d), (1, .d), (2, .d), (3, .r), (4, .d), (5, .d), (6, .d), (7, .d), (8, .d), (9, .d), (10, .d), (11, .w)] (by kernel_rfl) ?_
        refine r_d rfl rfl rfl (s_move rfl rfl) ?_
        refine r_d rfl rfl rfl (s_nilCheckR rfl rfl) ?_
        refine r_d rfl rfl rfl (s_fieldRef rfl fl_constraintref41_form_0 rfl) ?_
        refine r_r rfl rfl rfl (t_loadRef rfl rfl (.head _) rfl rfl (by exact ty_int) rfl) ?_
        refine r_d rfl rfl rfl (s_move rfl rfl) ?_
        refine r_d rfl rfl rfl (s_fieldAddr rfl fl_api_Rank_1 rfl rfl rfl rfl) ?_
        refine r_d rfl rfl rfl (s_load rfl rfl (by exact ty_int) rfl) ?_
        refine r_d rfl rfl rfl (s_arW rfl rfl rfl rfl) ?_
        refine r_d rfl rfl rfl (s_arW rfl rfl rfl rfl) ?_
        refine r_d rfl rfl rfl (s_nilCheckR rfl rfl) ?_
        refine r_d rfl rfl rfl (s_fieldRef rfl fl_constraintref41_form_0 rfl) ?_
        refine r_w01 rfl rfl rfl (t_store _ rfl rfl rfl (Wk.refl _) (pf0 _) rfl rfl (by exact ty_int) rfl rfl rfl) ?_
        refine r_end ?_
        refine g_seq ?_
        refine g_seq ?_
        refine g_run (by kernel_rfl) [(0, .d)] rfl ?_
        refine r_d rfl rfl rfl (s_assign rfl rfl) ?_
        refine r_end ?_
        obtain ⟨kk0, hkk0, hr⟩ := exK (fun k => lf_Pconstraintref41_form_put_s1_L0 k fuel ones_a4 r_1 sign_a3 a_a2.ts 0 (wr (c_0_0 + (wr (sign_a3 * r_1.1.f1_Const)))) c_0_1 c_0_2) hr
        refine g_len 19 rfl (asl rfl) fun hla0 => ?_
        simp only [List.length_map] at hla0
        refine g_blockJ (fun env σ => ∃ (f_16 : Int) (f_17 : (List Int)) (f_18 : (List Int)) (u_14 : Value) (u_15 : Value), env = [] ∧ σ = [.cell b_o0 (.agg [.int .i64 f_16, .own u_14 (f_17.map (D.int .i64)), .vec u_15 f_18.length]), .row u_14 f_17.length 3 1, .vec u_15 (f_18.map (D.int .i64)) 3 1] ∧ kk0 f_16 f_17 f_18 = some res) ?_ (fun HK0 => ?_)
        ·
          rintro _ _ ⟨f_16, f_17, f_18, u_14, u_15, rfl, rfl, hr⟩
          rw [hkk0] at hr
          refine g_seq ?_
          refine g_run (by kernel_rfl) [(0, .d)] rfl ?_
          refine r_d rfl rfl rfl (s_assign rfl rfl) ?_
          refine r_end ?_
          obtain rfl := Option.some.inj hr
          refine g_ret Try.func49 _ (.cons (resTmp rfl (Wk.refl _)) .nil) ?_
          exact ⟨u_14, u_15, rfl, rfl⟩
        ·
          refine g_sub [(0, .ref b_o0 0 []), (3, .int .i64 sign_a3), (4, .lst (ones_a4.map (D.int .i64))), (7, .ptr (encA a_a2)), (11, .ptr (enc_S_api_Rank r_1.1)), (13, .int .i64 ((0 : Nat) : Int))] (Sub.cons' rfl (Sub.cons' rfl (Sub.cons' rfl (Sub.cons' rfl (Sub.cons' rfl (Sub.cons' rfl (Sub.nil _))))))) ?_
          refine g_loop (fun n env σ => ∃ (i_10 : Nat) (f_11 : Int) (f_12 : (List Int)) (f_13 : (List Int)) (u_8 : Value) (u_9 : Value), (n = a_a2.ts.length - i_10) ∧ (env = [(0, .ref b_o0 0 []), (3, .int .i64 sign_a3), (4, .lst (ones_a4.map (D.int .i64))), (7, .ptr (encA a_a2)), (11, .ptr (enc_S_api_Rank r_1.1)), (13, .int .i64 (i_10 : Int))]) ∧ (σ = [.cell b_o0 (.agg [.int .i64 f_11, .own u_8 (f_12.map (D.int .i64)), .vec u_9 f_13.length]), .row u_8 f_12.length 3 1, .vec u_9 (f_13.map (D.int .i64)) 3 1]) ∧ (i_10 ≤ a_a2.ts.length) ∧ (lf_Pconstraintref41_form_put_s1_L0 kk0 fuel ones_a4 r_1 sign_a3 (a_a2.ts.drop i_10) i_10 f_11 f_12 f_13 = some res)) _ ⟨0, (wr (c_0_0 + (wr (sign_a3 * r_1.1.f1_Const)))), c_0_1, c_0_2, u_o1, u_o2, rfl, rfl, rfl, Nat.zero_le _, hr⟩ ?_
          rintro n _ _ ⟨i_10, f_11, f_12, f_13, u_8, u_9, rfl, rfl, rfl, hi0, hr⟩ IH0
          rcases listStep a_a2.ts i_10 hi0 with ⟨ht0, hd0, he0⟩ | ⟨q_19, ht0, hd0, hq0, hlt0⟩
          ·
            rw [hd0, lf_Pconstraintref41_form_put_s1_L0] at hr
            refine g_seq ?_
            refine g_seq ?_
            refine g_run (by kernel_rfl) [(0, .d), (1, .d), (2, .d), (3, .d), (4, .d)] rfl ?_
            refine r_d rfl rfl rfl (s_move rfl rfl) ?_
            refine r_d rfl rfl rfl (s_fieldAddr rfl fl_api_Atom_1 rfl rfl rfl rfl) ?_
            refine r_d rfl rfl rfl (s_load rfl rfl (by exact ty_L_api_Term) rfl) ?_
            refine r_d rfl rfl rfl (m_len (f := encT) a_a2.ts rfl el_L_api_Term rfl (asl rfl)) ?_
            refine r_d rfl rfl rfl (s_cmp rfl rfl rfl rfl) ?_
            refine r_end ?_
            refine g_known 51 false rfl ht0 ?_
            refine g_condF rfl ?_
            refine g_exit rfl ?_
            refine g_sub [] (Sub.nil _) ?_
            exact HK0 _ _ ⟨f_11, f_12, f_13, u_8, u_9, rfl, rfl, hr⟩
          ·
            rw [hd0, lf_Pconstraintref41_form_put_s1_L0] at hr
            refine g_seq ?_
            refine g_seq ?_
            refine g_run (by kernel_rfl) [(0, .d), (1, .d), (2, .d), (3, .d), (4, .d)] rfl ?_
            refine r_d rfl rfl rfl (s_move rfl rfl) ?_
            refine r_d rfl rfl rfl (s_fieldAddr rfl fl_api_Atom_1 rfl rfl rfl rfl) ?_
            refine r_d rfl rfl rfl (s_load rfl rfl (by exact ty_L_api_Term) rfl) ?_
            refine r_d rfl rfl rfl (m_len (f := encT) a_a2.ts rfl el_L_api_Term rfl (asl rfl)) ?_
            refine r_d rfl rfl rfl (s_cmp rfl rfl rfl rfl) ?_
            refine r_end ?_
            refine g_known 51 true rfl ht0 ?_
            refine g_condT rfl ?_
            refine g_skip ?_
            refine g_seq ?_
            refine g_block ?_
            refine g_any (by kernel_rfl) (by kernel_rfl) [(0, .d), (1, .d), (2, .d), (3, .d), (4, .d), (5, .d), (6, .d), (7, .d), (8, .d), (9, .d), (10, .d), (11, .d), (12, .d), (13, .d), (14, .w)] (by kernel_rfl) ?_
            refine r_d rfl rfl rfl (s_move rfl rfl) ?_
            refine r_d rfl rfl rfl (s_fieldAddr rfl fl_api_Atom_1 rfl rfl rfl rfl) ?_
            refine r_d rfl rfl rfl (s_load rfl rfl (by exact ty_L_api_Term) rfl) ?_
            refine r_d rfl rfl rfl (s_move rfl rfl) ?_
            refine r_d rfl rfl rfl (m_index (f := encT) a_a2.ts rfl el_L_api_Term rfl (asl rfl) rfl hq0 sz_encT rfl) ?_
            refine r_d rfl rfl rfl (s_load rfl rfl (by exact ty_api_Term) (sz_encT _)) ?_
            refine r_d rfl rfl rfl (s_move rfl rfl) ?_
            refine r_d rfl rfl rfl (s_fieldAddr rfl fl_api_Rank_2 rfl rfl rfl rfl) ?_
            refine r_d rfl rfl rfl (s_load rfl rfl (by exact ty_L_int) rfl) ?_
            refine r_d rfl rfl rfl (s_move rfl rfl) ?_
            obtain ⟨q_20, hq_20, hr⟩ := bindS hr
            refine r_d rfl rfl rfl (m_index (f := (D.int .i64)) r_1.1.f2_Factors rfl el_L_int rfl (asl rfl) rfl hq_20 (fun _ => rfl) rfl) ?_
            refine r_d rfl rfl rfl (s_load rfl rfl (by exact ty_int) rfl) ?_
            refine r_d rfl rfl rfl (s_arW rfl rfl rfl rfl) ?_
            refine r_d rfl rfl rfl (s_move rfl rfl) ?_
            obtain ⟨r_21, hr_21, hr⟩ := bindS hr
            refine r_w rfl rfl rfl (s_call _ rfl cl_Pconstraintref41_form_add (.cons rfl (Wk.refl _) (.cons rfl (Wk.refl _) (.cons rfl (Wk.refl _) (.cons rfl (Wk.refl _) .nil)))) (by exact (((pf2 _ _ _ _).trans (pf2 _ _ _ _)).trans (pf2 _ _ _ _))) (lg_Pconstraintref41_form_add_s1 fuel _ _ _ _ _ _ _ _ _ _ hr_21)) ?_
            rintro _ _ ⟨_, ⟨u68_21, u68_22, rfl, rfl⟩, rfl⟩
            refine r_st ((.cell b_o0 (.agg [.int .i64 r_21.1, .own u68_21 (r_21.2.1.map (D.int .i64)), .vec u68_22 r_21.2.2.length])) :: (.row u68_21 r_21.2.1.length 3 1) :: (.vec u68_22 (r_21.2.2.map (D.int .i64)) 3 1) :: _) rfl ?_
            refine r_end ?_
            refine g_inBlock ?_
            refine g_run (by kernel_rfl) [(0, .d), (1, .d), (2, .d)] rfl ?_
            refine r_d rfl rfl rfl (s_move rfl rfl) ?_
            refine r_d rfl rfl rfl (s_ar (r := ((i_10 + 1 : Nat) : Int)) rfl rfl rfl (by simp [iar]) (by omega)) ?_
            refine r_d rfl rfl rfl (s_assign rfl rfl) ?_
            refine r_end ?_
            refine g_sub [(0, .ref b_o0 0 []), (3, .int .i64 sign_a3), (4, .lst (ones_a4.map (D.int .i64))), (7, .ptr (encA a_a2)), (11, .ptr (enc_S_api_Rank r_1.1)), (13, .int .i64 ((i_10 + 1 : Nat) : Int))] (Sub.cons' rfl (Sub.cons' rfl (Sub.cons' rfl (Sub.cons' rfl (Sub.cons' rfl (Sub.cons' rfl (Sub.nil _))))))) ?_
            exact IH0 _ _ _ (by omega) ⟨(i_10 + 1), r_21.1, r_21.2.1, r_21.2.2, u68_21, u68_22, rfl, rfl, rfl, (by omega), hr⟩

noncomputable def lf_constraintref41_Decreases_L6 (k : (Int) → Option (Bool)) : List Int → Int → Option (Bool)
  | [], n_59 =>
  (k n_59)
  | q_62 :: rest, n_59 =>
  (bif (decide (q_62 < (0 : Int))) then
  some (false)
  else
  (lf_constraintref41_Decreases_L6 k rest (wr (n_59 + q_62))))

noncomputable def lf_constraintref41_Decreases_L7 (k : Option (Bool)) (head_19 : (List Int)) (ones_27 : (List Int)) : List Int → Option (Bool)
  | [] =>
  k
  | q_81 :: rest =>
  ((lf_constraintref41_in head_19 q_81).bind fun r_82 =>
  (bif (!r_82) then
  ((lf_constraintref41_in ones_27 q_81).bind fun r_84 =>
  (bif (!r_84) then
  some (false)
  else
  (lf_constraintref41_Decreases_L7 k head_19 ones_27 rest)))
  else
  (lf_constraintref41_Decreases_L7 k head_19 ones_27 rest)))

noncomputable def lf_constraintref41_Decreases_L5 (k : (Int) → ((List Int)) → ((List Int)) → Option (Bool)) (fuel : Nat) (head_19 : (List Int)) (ones_27 : (List Int)) (ranks_a0 : (List S_api_Rank)) : List Gl → Int → (List Int) → (List Int) → Option (Bool)
  | [], f_49, f_50, f_51 =>
  (k f_49 f_50 f_51)
  | q_64 :: rest, f_49, f_50, f_51 =>
  (bif (q_64.op != (0 : Int)) then
  (lf_constraintref41_Decreases_L5 k fuel head_19 ones_27 ranks_a0 rest f_49 f_50 f_51)
  else
  ((lf_Pconstraintref41_form_put_s1 fuel ranks_a0 (⟨q_64.n, q_64.ts⟩ : At) (-1) ones_27 f_49 f_50 f_51).bind fun r_67 =>
  (bif (!r_67.1) then
  some (false)
  else
  ((lf_constraintref03_AtomVars fuel (⟨q_64.n, q_64.ts⟩ : At)).bind fun r_71 =>
  (lf_constraintref41_Decreases_L7 ((lf_constraintref41_Decreases_L5 k fuel head_19 ones_27 ranks_a0 rest r_67.2.1 r_67.2.2.1 r_67.2.2.2)) head_19 ones_27 r_71)))))

noncomputable def lf_constraintref41_Decreases_L4 (k : (Int) → ((List Int)) → ((List Int)) → Option (Bool)) (fuel : Nat) (ones_27 : (List Int)) (ranks_a0 : (List S_api_Rank)) : List At → Int → (List Int) → (List Int) → Option (Bool)
  | [], t128_34, t128_35, t128_36 =>
  (k t128_34 t128_35 t128_36)
  | q_86 :: rest, t128_34, t128_35, t128_36 =>
  ((lf_Pconstraintref41_form_put_s1 fuel ranks_a0 q_86 1 ones_27 t128_34 t128_35 t128_36).bind fun r_87 =>
  (bif (!r_87.1) then
  some (false)
  else
  (lf_constraintref41_Decreases_L4 k fuel ones_27 ranks_a0 rest r_87.2.1 r_87.2.2.1 r_87.2.2.2)))

noncomputable def lf_constraintref41_Decreases_L3 (k : ((List Int)) → Option (Bool)) (head_19 : (List Int)) : List Gl → (List Int) → Option (Bool)
  | [], ones_23 =>
  (k ones_23)
  | q_91 :: rest, ones_23 =>
  (bif (q_91.op == (4 : Int)) then
  (bif (decide ((q_91.ts.length : Int) > (0 : Int))) then
  ((getI q_91.ts 0).bind fun q_95 =>
  (bif (q_95.k == (1 : Int)) then
  ((lf_constraintref41_in head_19 q_95.i).bind fun r_97 =>
  (bif (!r_97) then
  ((appO 8 ones_23 [q_95.i]).bind fun l_99 =>
  (lf_constraintref41_Decreases_L3 k head_19 rest l_99))
  else
  (lf_constraintref41_Decreases_L3 k head_19 rest ones_23)))
  else
  (lf_constraintref41_Decreases_L3 k head_19 rest ones_23)))
  else
  (lf_constraintref41_Decreases_L3 k head_19 rest ones_23))
  else
  (lf_constraintref41_Decreases_L3 k head_19 rest ones_23))

noncomputable def lf_constraintref41_Decreases_L2 (k : ((List Int)) → Option (Bool)) (fuel : Nat) : List At → (List Int) → Option (Bool)
  | [], head_16 =>
  (k head_16)
  | q_101 :: rest, head_16 =>
  ((lf_constraintref03_AtomVars fuel q_101).bind fun r_102 =>
  ((appO 8 head_16 r_102).bind fun l_103 =>
  (lf_constraintref41_Decreases_L2 k fuel rest l_103)))

noncomputable def lf_constraintref41_Decreases_L1 (k : ((List Int)) → Option (Bool)) (fuel : Nat) : List At → (List Int) → Option (Bool)
  | [], head_9 =>
  (k head_9)
  | q_105 :: rest, head_9 =>
  ((lf_constraintref03_AtomVars fuel q_105).bind fun r_106 =>
  ((appO 8 head_9 r_106).bind fun l_107 =>
  (lf_constraintref41_Decreases_L1 k fuel rest l_107)))

noncomputable def lf_constraintref41_Decreases_L0 (k : (Int) → Option (Bool)) : List Gl → Int → Option (Bool)
  | [], calls_1 =>
  (k calls_1)
  | q_109 :: rest, calls_1 =>
  (bif (q_109.op == (3 : Int)) then
  some (false)
  else
  (bif (q_109.op == (0 : Int)) then
  (lf_constraintref41_Decreases_L0 k rest (wr (calls_1 + (1 : Int))))
  else
  (lf_constraintref41_Decreases_L0 k rest calls_1)))
noncomputable def lf_constraintref41_Decreases (fuel : Nat) (ranks_a0 : (List S_api_Rank)) (r_a1 : S_api_Rule) : Option (Bool) :=
  (lf_constraintref41_Decreases_L0 (fun calls_3 =>
  (bif ((r_a1.f2_Remove.length : Int) == (0 : Int)) then
  some ((calls_3 == (0 : Int)))
  else
  (lf_constraintref41_Decreases_L1 (fun head_12 =>
  (lf_constraintref41_Decreases_L2 (fun head_19 =>
  (lf_constraintref41_Decreases_L3 (fun ones_27 =>
  (lf_constraintref41_Decreases_L4 (fun t128_41 t128_42 t128_43 =>
  (lf_constraintref41_Decreases_L5 (fun f_54 f_55 f_56 =>
  (lf_constraintref41_Decreases_L6 (fun n_61 =>
  some ((decide (n_61 ≥ (1 : Int))))) f_56 f_54)) fuel head_19 ones_27 ranks_a0 r_a1.f4_Body t128_41 t128_42 t128_43)) fuel ones_27 ranks_a0 r_a1.f2_Remove 0 [] [])) head_19 r_a1.f4_Body [])) fuel r_a1.f2_Remove head_12)) fuel r_a1.f1_Keep []))) r_a1.f4_Body 0)

set_option maxHeartbeats 1000000 in
theorem lg_constraintref41_Decreases (fuel : Nat) (ranks_a0 : (List S_api_Rank)) (r_a1 : S_api_Rule) (res : Bool) (hr : lf_constraintref41_Decreases fuel ranks_a0 r_a1 = some res) : Gives Try.prog 37 [.lst (ranks_a0.map enc_S_api_Rank), enc_S_api_Rule r_a1] (.bool res) := by
  unfold lf_constraintref41_Decreases at hr
  refine spec_env [(0, .lst (ranks_a0.map enc_S_api_Rank)), (1, enc_S_api_Rule r_a1)] Try.func37 rfl rfl fun K hK => ?_
  refine g_seq ?_
  refine g_run (by kernel_rfl) [(0, .d), (1, .d)] rfl ?_
  refine r_d rfl rfl rfl (s_box rfl rfl rfl) ?_
  refine r_d rfl rfl rfl (s_assign rfl rfl) ?_
  refine r_end ?_
  refine g_seq ?_
  refine g_run (by kernel_rfl) [(0, .d)] rfl ?_
  refine r_d rfl rfl rfl (s_assign rfl rfl) ?_
  refine r_end ?_
  refine g_seq ?_
  refine g_seq ?_
  refine g_run (by kernel_rfl) [(0, .d)] rfl ?_
  refine r_d rfl rfl rfl (s_assign rfl rfl) ?_
  refine r_end ?_
  obtain ⟨kk0, hkk0, hr⟩ := exK (fun k => lf_constraintref41_Decreases_L0 k r_a1.f4_Body 0) hr
  refine g_lenS 1 [4] (l := r_a1.f4_Body.map encG) rfl rfl (asl rfl) fun hla0 => ?_
  simp only [List.length_map] at hla0
  refine g_blockJ (fun env σ => ∃ (calls_3 : Int), env = [(0, .lst (ranks_a0.map enc_S_api_Rank)), (3, .ptr (enc_S_api_Rule r_a1)), (5, .int .i64 calls_3)] ∧ σ = [] ∧ kk0 calls_3 = some res) ?_ (fun HK0 => ?_)
  ·
    rintro _ _ ⟨calls_3, rfl, rfl, hr⟩
    rw [hkk0] at hr
    refine g_seq ?_
    refine g_seq ?_
    refine g_run (by kernel_rfl) [(0, .d), (1, .d), (2, .d), (3, .d)] rfl ?_
    refine r_d rfl rfl rfl (s_fieldAddr rfl fl_api_Rule_2 rfl rfl rfl rfl) ?_
    refine r_d rfl rfl rfl (s_load rfl rfl (by exact ty_L_api_Atom) rfl) ?_
    refine r_d rfl rfl rfl (m_len (f := encA) r_a1.f2_Remove rfl el_L_api_Atom rfl (asl rfl)) ?_
    refine r_d rfl rfl rfl (s_cmp rfl rfl rfl rfl) ?_
    refine r_end ?_
    refine g_sB 47 rfl hr (fun h47_3 hr => ?_) (fun h47_3 hr => ?_)
    ·
      refine g_condT rfl ?_
      refine g_seq ?_
      refine g_run (by kernel_rfl) [(0, .d), (1, .d), (2, .d)] rfl ?_
      refine r_d rfl rfl rfl (s_move rfl rfl) ?_
      refine r_d rfl rfl rfl (s_cmp rfl rfl rfl rfl) ?_
      refine r_d rfl rfl rfl (s_assign rfl rfl) ?_
      refine r_end ?_
      obtain rfl := Option.some.inj hr
      refine g_ret Try.func37 _ (.cons (resTmp rfl (Wk.refl _)) .nil) ?_
      rfl
    ·
      refine g_condF rfl ?_
      refine g_skip ?_
      refine g_seq ?_
      refine g_run (by kernel_rfl) [(0, .w), (1, .w)] rfl ?_
      refine r_w rfl rfl rfl (s_nilOwn 3 1 (.inl rfl)) ?_
      rintro _ _ ⟨u7_4, rfl, rfl⟩
      refine r_w rfl rfl rfl (s_nilOwn 3 1 (.inl rfl)) ?_
      rintro _ _ ⟨u8_5, rfl, rfl⟩
      refine r_end ?_
      refine g_seq ?_
      refine g_seq ?_
      refine g_run (by kernel_rfl) [(0, .d)] rfl ?_
      refine r_d rfl rfl rfl (s_assign rfl rfl) ?_
      refine r_end ?_
      obtain ⟨kk1, hkk1, hr⟩ := exK (fun k => lf_constraintref41_Decreases_L1 k fuel r_a1.f1_Keep []) hr
      refine g_lenP 3 [1] (l := r_a1.f1_Keep.map encA) rfl rfl (asl rfl) fun hla1 => ?_
      simp only [List.length_map] at hla1
      refine g_blockJ (fun env σ => ∃ (head_12 : (List Int)) (u_11 : Value) (u_13 : Value), env = [(0, .lst (ranks_a0.map enc_S_api_Rank)), (3, .ptr (enc_S_api_Rule r_a1)), (7, .own u_11 (head_12.map (D.int .i64))), (8, .own u_13 ([].map (D.int .i64)))] ∧ σ = [.row u_11 head_12.length 3 1, .row u_13 ([] : (List Int)).length 3 1] ∧ kk1 head_12 = some res) ?_ (fun HK1 => ?_)
      ·
        rintro _ _ ⟨head_12, u_11, u_13, rfl, rfl, hr⟩
        rw [hkk1] at hr
        refine g_seq ?_
        refine g_seq ?_
        refine g_run (by kernel_rfl) [(0, .d)] rfl ?_
        refine r_d rfl rfl rfl (s_assign rfl rfl) ?_
        refine r_end ?_
        obtain ⟨kk2, hkk2, hr⟩ := exK (fun k => lf_constraintref41_Decreases_L2 k fuel r_a1.f2_Remove head_12) hr
        refine g_lenP 3 [2] (l := r_a1.f2_Remove.map encA) rfl rfl (asl rfl) fun hla2 => ?_
        simp only [List.length_map] at hla2
        refine g_blockJ (fun env σ => ∃ (head_19 : (List Int)) (u_18 : Value) (u_20 : Value), env = [(0, .lst (ranks_a0.map enc_S_api_Rank)), (3, .ptr (enc_S_api_Rule r_a1)), (7, .own u_18 (head_19.map (D.int .i64))), (8, .own u_20 ([].map (D.int .i64)))] ∧ σ = [.row u_18 head_19.length 3 1, .row u_20 ([] : (List Int)).length 3 1] ∧ kk2 head_19 = some res) ?_ (fun HK2 => ?_)
        ·
          rintro _ _ ⟨head_19, u_18, u_20, rfl, rfl, hr⟩
          rw [hkk2] at hr
          refine g_seq ?_
          refine g_seq ?_
          refine g_run (by kernel_rfl) [(0, .d)] rfl ?_
          refine r_d rfl rfl rfl (s_assign rfl rfl) ?_
          refine r_end ?_
          obtain ⟨kk3, hkk3, hr⟩ := exK (fun k => lf_constraintref41_Decreases_L3 k head_19 r_a1.f4_Body []) hr
          refine g_lenP 3 [4] (l := r_a1.f4_Body.map encG) rfl rfl (asl rfl) fun hla3 => ?_
          simp only [List.length_map] at hla3
          refine g_blockJ (fun env σ => ∃ (ones_27 : (List Int)) (u_25 : Value) (u_26 : Value), env = [(0, .lst (ranks_a0.map enc_S_api_Rank)), (3, .ptr (enc_S_api_Rule r_a1)), (7, .own u_25 (head_19.map (D.int .i64))), (8, .own u_26 (ones_27.map (D.int .i64)))] ∧ σ = [.row u_25 head_19.length 3 1, .row u_26 ones_27.length 3 1] ∧ kk3 ones_27 = some res) ?_ (fun HK3 => ?_)
          ·
            rintro _ _ ⟨ones_27, u_25, u_26, rfl, rfl, hr⟩
            rw [hkk3] at hr
            refine g_seq ?_
            refine g_nilRow 3 1 ?_
            refine g_nilVec 3 1 (by decide) ?_
            refine g_run (by kernel_rfl) [(0, .d), (1, .w), (2, .d)] rfl ?_
            refine r_d rfl rfl rfl (s_build rfl bo_constraintref41_form_1_2v .nil (.nil _)) ?_
            refine r_w rfl rfl rfl (s_boxRef rfl rfl rfl) ?_
            rintro _ _ ⟨b128_27, rfl, rfl⟩
            refine r_d rfl rfl rfl (s_assign rfl rfl) ?_
            refine r_end ?_
            refine g_seq ?_
            refine g_seq ?_
            refine g_run (by kernel_rfl) [(0, .d)] rfl ?_
            refine r_d rfl rfl rfl (s_assign rfl rfl) ?_
            refine r_end ?_
            obtain ⟨kk4, hkk4, hr⟩ := exK (fun k => lf_constraintref41_Decreases_L4 k fuel ones_27 ranks_a0 r_a1.f2_Remove 0 [] []) hr
            refine g_lenP 3 [2] (l := r_a1.f2_Remove.map encA) rfl rfl (asl rfl) fun hla4 => ?_
            simp only [List.length_map] at hla4
            refine g_blockJ (fun env σ => ∃ (t128_41 : Int) (t128_42 : (List Int)) (t128_43 : (List Int)) (u_37 : Value) (u_38 : Value) (u_39 : Value) (u_40 : Value), env = [(0, .lst (ranks_a0.map enc_S_api_Rank)), (3, .ptr (enc_S_api_Rule r_a1)), (7, .own u_37 (head_19.map (D.int .i64))), (8, .own u_38 (ones_27.map (D.int .i64))), (13, .ref b128_27 0 [])] ∧ σ = [.row u_37 head_19.length 3 1, .row u_38 ones_27.length 3 1, .cell b128_27 (.agg [.int .i64 t128_41, .own u_39 (t128_42.map (D.int .i64)), .vec u_40 t128_43.length]), .row u_39 t128_42.length 3 1, .vec u_40 (t128_43.map (D.int .i64)) 3 1] ∧ kk4 t128_41 t128_42 t128_43 = some res) ?_ (fun HK4 => ?_)
            ·
              rintro _ _ ⟨t128_41, t128_42, t128_43, u_37, u_38, u_39, u_40, rfl, rfl, hr⟩
              rw [hkk4] at hr
              refine g_seq ?_
              refine g_seq ?_
              refine g_run (by kernel_rfl) [(0, .d)] rfl ?_
              refine r_d rfl rfl rfl (s_assign rfl rfl) ?_
              refine r_end ?_
              obtain ⟨kk5, hkk5, hr⟩ := exK (fun k => lf_constraintref41_Decreases_L5 k fuel head_19 ones_27 ranks_a0 r_a1.f4_Body t128_41 t128_42 t128_43) hr
              refine g_lenP 3 [4] (l := r_a1.f4_Body.map encG) rfl rfl (asl rfl) fun hla5 => ?_
              simp only [List.length_map] at hla5
              refine g_blockJ (fun env σ => ∃ (f_54 : Int) (f_55 : (List Int)) (f_56 : (List Int)) (u_52 : Value) (u_53 : Value), env = [(13, .ref b128_27 0 [])] ∧ σ = [.cell b128_27 (.agg [.int .i64 f_54, .own u_52 (f_55.map (D.int .i64)), .vec u_53 f_56.length]), .row u_52 f_55.length 3 1, .vec u_53 (f_56.map (D.int .i64)) 3 1] ∧ kk5 f_54 f_55 f_56 = some res) ?_ (fun HK5 => ?_)
              ·
                rintro _ _ ⟨f_54, f_55, f_56, u_52, u_53, rfl, rfl, hr⟩
                rw [hkk5] at hr
                refine g_seq ?_
                refine g_run (by kernel_rfl) [(0, .d), (1, .d), (2, .d), (3, .r), (4, .d)] rfl ?_
                refine r_d rfl rfl rfl (s_move rfl rfl) ?_
                refine r_d rfl rfl rfl (s_nilCheckR rfl rfl) ?_
                refine r_d rfl rfl rfl (s_fieldRef rfl fl_constraintref41_form_0 rfl) ?_
                refine r_r rfl rfl rfl (t_loadRef rfl rfl (.head _) rfl rfl (by exact ty_int) rfl) ?_
                refine r_d rfl rfl rfl (s_assign rfl rfl) ?_
                refine r_end ?_
                refine g_seq ?_
                refine g_seq ?_
                refine g_run (by kernel_rfl) [(0, .d)] rfl ?_
                refine r_d rfl rfl rfl (s_assign rfl rfl) ?_
                refine r_end ?_
                obtain ⟨kk6, hkk6, hr⟩ := exK (fun k => lf_constraintref41_Decreases_L6 k f_56 f_54) hr
                refine g_lenCV [2] (.head _) (by first | rfl | simp [subD, fsT_eq]) fun hla6 => ?_
                refine g_blockJ (fun env σ => ∃ (n_61 : Int), env = [(19, .int .i64 n_61)] ∧ σ = [] ∧ kk6 n_61 = some res) ?_ (fun HK6 => ?_)
                ·
                  rintro _ _ ⟨n_61, rfl, rfl, hr⟩
                  rw [hkk6] at hr
                  refine g_seq ?_
                  refine g_run (by kernel_rfl) [(0, .d), (1, .d), (2, .d)] rfl ?_
                  refine r_d rfl rfl rfl (s_move rfl rfl) ?_
                  refine r_d rfl rfl rfl (s_cmp rfl rfl rfl rfl) ?_
                  refine r_d rfl rfl rfl (s_assign rfl rfl) ?_
                  refine r_end ?_
                  obtain rfl := Option.some.inj hr
                  refine g_ret Try.func37 _ (.cons (resTmp rfl (Wk.refl _)) .nil) ?_
                  rfl
                ·
                  refine g_sub [(13, .ref b128_27 0 []), (19, .int .i64 f_54), (20, .int .i64 ((0 : Nat) : Int))] (Sub.cons' rfl (Sub.cons' rfl (Sub.cons' rfl (Sub.nil _)))) ?_
                  refine g_loop (fun n env σ => ∃ (n_59 : Int) (i_60 : Nat) (u_57 : Value) (u_58 : Value), (n = f_56.length - i_60) ∧ (env = [(13, .ref b128_27 0 []), (19, .int .i64 n_59), (20, .int .i64 (i_60 : Int))]) ∧ (σ = [.cell b128_27 (.agg [.int .i64 f_54, .own u_57 (f_55.map (D.int .i64)), .vec u_58 f_56.length]), .row u_57 f_55.length 3 1, .vec u_58 (f_56.map (D.int .i64)) 3 1]) ∧ (i_60 ≤ f_56.length) ∧ (lf_constraintref41_Decreases_L6 kk6 (f_56.drop i_60) n_59 = some res)) _ ⟨f_54, 0, u_52, u_53, rfl, rfl, rfl, Nat.zero_le _, hr⟩ ?_
                  rintro n _ _ ⟨n_59, i_60, u_57, u_58, rfl, rfl, rfl, hi6, hr⟩ IH6
                  rcases listStep f_56 i_60 hi6 with ⟨ht6, hd6, he6⟩ | ⟨q_62, ht6, hd6, hq6, hlt6⟩
                  ·
                    rw [hd6, lf_constraintref41_Decreases_L6] at hr
                    refine g_seq ?_
                    refine g_seq ?_
                    refine g_run (by kernel_rfl) [(0, .d), (1, .d), (2, .d), (3, .d), (4, .r), (5, .d), (6, .d)] rfl ?_
                    refine r_d rfl rfl rfl (s_move rfl rfl) ?_
                    refine r_d rfl rfl rfl (s_move rfl rfl) ?_
                    refine r_d rfl rfl rfl (s_nilCheckR rfl rfl) ?_
                    refine r_d rfl rfl rfl (s_fieldRef rfl fl_constraintref41_form_2 rfl) ?_
                    refine r_r rfl rfl rfl (t_loadRef rfl rfl (.head _) rfl rfl (by exact ty_L_int) rfl) ?_
                    refine r_d rfl rfl rfl (s_lenV rfl Try.underlying33 rfl) ?_
                    refine r_d rfl rfl rfl (s_cmp rfl rfl rfl rfl) ?_
                    refine r_end ?_
                    refine g_known 213 false rfl ht6 ?_
                    refine g_condF rfl ?_
                    refine g_exit rfl ?_
                    refine g_sub [(19, .int .i64 n_59)] (Sub.cons' rfl (Sub.nil _)) ?_
                    refine g_perm [] _ (pf0 _) ?_
                    exact HK6 _ _ ⟨n_59, rfl, rfl, hr⟩
                  ·
                    rw [hd6, lf_constraintref41_Decreases_L6] at hr
                    refine g_seq ?_
                    refine g_seq ?_
                    refine g_run (by kernel_rfl) [(0, .d), (1, .d), (2, .d), (3, .d), (4, .r), (5, .d), (6, .d)] rfl ?_
                    refine r_d rfl rfl rfl (s_move rfl rfl) ?_
                    refine r_d rfl rfl rfl (s_move rfl rfl) ?_
                    refine r_d rfl rfl rfl (s_nilCheckR rfl rfl) ?_
                    refine r_d rfl rfl rfl (s_fieldRef rfl fl_constraintref41_form_2 rfl) ?_
                    refine r_r rfl rfl rfl (t_loadRef rfl rfl (.head _) rfl rfl (by exact ty_L_int) rfl) ?_
                    refine r_d rfl rfl rfl (s_lenV rfl Try.underlying33 rfl) ?_
                    refine r_d rfl rfl rfl (s_cmp rfl rfl rfl rfl) ?_
                    refine r_end ?_
                    refine g_known 213 true rfl ht6 ?_
                    refine g_condT rfl ?_
                    refine g_skip ?_
                    refine g_seq ?_
                    refine g_block ?_
                    refine g_seq ?_
                    refine g_seq ?_
                    refine g_run (by kernel_rfl) [(0, .d), (1, .d), (2, .d), (3, .r), (4, .d), (5, .r), (6, .r), (7, .d)] rfl ?_
                    refine r_d rfl rfl rfl (s_move rfl rfl) ?_
                    refine r_d rfl rfl rfl (s_nilCheckR rfl rfl) ?_
                    refine r_d rfl rfl rfl (s_fieldRef rfl fl_constraintref41_form_2 rfl) ?_
                    refine r_r rfl rfl rfl (t_loadRef rfl rfl (.head _) rfl rfl (by exact ty_L_int) rfl) ?_
                    refine r_d rfl rfl rfl (s_move rfl rfl) ?_
                    have hq_62_n := (getI_some hq6).2
                    refine r_r rfl rfl rfl (m_indexVec (f := (D.int .i64)) f_56 rfl el_L_int rfl rfl hq6 (.tail _ (.tail _ (.head _)))) ?_
                    refine r_r rfl rfl rfl (t_loadV rfl rfl (.tail _ (.tail _ (.head _))) (getm hq_62_n) rfl rfl (by exact ty_int) rfl) ?_
                    refine r_d rfl rfl rfl (s_cmp rfl rfl rfl rfl) ?_
                    refine r_end ?_
                    refine g_sB 223 rfl hr (fun h223_62 hr => ?_) (fun h223_62 hr => ?_)
                    ·
                      refine g_condT rfl ?_
                      refine g_seq ?_
                      refine g_run (by kernel_rfl) [(0, .d)] rfl ?_
                      refine r_d rfl rfl rfl (s_assign rfl rfl) ?_
                      refine r_end ?_
                      obtain rfl := Option.some.inj hr
                      refine g_ret Try.func37 _ (.cons (resTmp rfl (Wk.refl _)) .nil) ?_
                      rfl
                    ·
                      refine g_condF rfl ?_
                      refine g_skip ?_
                      refine g_run (by kernel_rfl) [(0, .d), (1, .d), (2, .d), (3, .d), (4, .r), (5, .d), (6, .r), (7, .r), (8, .d), (9, .d)] rfl ?_
                      refine r_d rfl rfl rfl (s_move rfl rfl) ?_
                      refine r_d rfl rfl rfl (s_move rfl rfl) ?_
                      refine r_d rfl rfl rfl (s_nilCheckR rfl rfl) ?_
                      refine r_d rfl rfl rfl (s_fieldRef rfl fl_constraintref41_form_2 rfl) ?_
                      refine r_r rfl rfl rfl (t_loadRef rfl rfl (.head _) rfl rfl (by exact ty_L_int) rfl) ?_
                      refine r_d rfl rfl rfl (s_move rfl rfl) ?_
                      have hq_62_n := (getI_some hq6).2
                      refine r_r rfl rfl rfl (m_indexVec (f := (D.int .i64)) f_56 rfl el_L_int rfl rfl hq6 (.tail _ (.tail _ (.head _)))) ?_
                      refine r_r rfl rfl rfl (t_loadV rfl rfl (.tail _ (.tail _ (.head _))) (getm hq_62_n) rfl rfl (by exact ty_int) rfl) ?_
                      refine r_d rfl rfl rfl (s_arW rfl rfl rfl rfl) ?_
                      refine r_d rfl rfl rfl (s_assign rfl rfl) ?_
                      refine r_end ?_
                      refine g_inBlock ?_
                      refine g_run (by kernel_rfl) [(0, .d), (1, .d), (2, .d)] rfl ?_
                      refine r_d rfl rfl rfl (s_move rfl rfl) ?_
                      refine r_d rfl rfl rfl (s_ar (r := ((i_60 + 1 : Nat) : Int)) rfl rfl rfl (by simp [iar]) (by omega)) ?_
                      refine r_d rfl rfl rfl (s_assign rfl rfl) ?_
                      refine r_end ?_
                      refine g_sub [(13, .ref b128_27 0 []), (19, .int .i64 (wr (n_59 + q_62))), (20, .int .i64 ((i_60 + 1 : Nat) : Int))] (Sub.cons' rfl (Sub.cons' rfl (Sub.cons' rfl (Sub.nil _)))) ?_
                      exact IH6 _ _ _ (by omega) ⟨(wr (n_59 + q_62)), (i_60 + 1), u_57, u_58, rfl, rfl, rfl, (by omega), hr⟩
              ·
                refine g_sub [(0, .lst (ranks_a0.map enc_S_api_Rank)), (3, .ptr (enc_S_api_Rule r_a1)), (7, .own u_37 (head_19.map (D.int .i64))), (8, .own u_38 (ones_27.map (D.int .i64))), (13, .ref b128_27 0 []), (15, .int .i64 ((0 : Nat) : Int))] (Sub.cons' rfl (Sub.cons' rfl (Sub.cons' rfl (Sub.cons' rfl (Sub.cons' rfl (Sub.cons' rfl (Sub.nil _))))))) ?_
                refine g_loop (fun n env σ => ∃ (i_48 : Nat) (f_49 : Int) (f_50 : (List Int)) (f_51 : (List Int)) (u_44 : Value) (u_45 : Value) (u_46 : Value) (u_47 : Value), (n = r_a1.f4_Body.length - i_48) ∧ (env = [(0, .lst (ranks_a0.map enc_S_api_Rank)), (3, .ptr (enc_S_api_Rule r_a1)), (7, .own u_44 (head_19.map (D.int .i64))), (8, .own u_45 (ones_27.map (D.int .i64))), (13, .ref b128_27 0 []), (15, .int .i64 (i_48 : Int))]) ∧ (σ = [.row u_44 head_19.length 3 1, .row u_45 ones_27.length 3 1, .cell b128_27 (.agg [.int .i64 f_49, .own u_46 (f_50.map (D.int .i64)), .vec u_47 f_51.length]), .row u_46 f_50.length 3 1, .vec u_47 (f_51.map (D.int .i64)) 3 1]) ∧ (i_48 ≤ r_a1.f4_Body.length) ∧ (lf_constraintref41_Decreases_L5 kk5 fuel head_19 ones_27 ranks_a0 (r_a1.f4_Body.drop i_48) f_49 f_50 f_51 = some res)) _ ⟨0, t128_41, t128_42, t128_43, u_37, u_38, u_39, u_40, rfl, rfl, rfl, Nat.zero_le _, hr⟩ ?_
                rintro n _ _ ⟨i_48, f_49, f_50, f_51, u_44, u_45, u_46, u_47, rfl, rfl, rfl, hi5, hr⟩ IH5
                rcases listStep r_a1.f4_Body i_48 hi5 with ⟨ht5, hd5, he5⟩ | ⟨q_64, ht5, hd5, hq5, hlt5⟩
                ·
                  rw [hd5, lf_constraintref41_Decreases_L5] at hr
                  refine g_seq ?_
                  refine g_seq ?_
                  refine g_run (by kernel_rfl) [(0, .d), (1, .d), (2, .d), (3, .d), (4, .d)] rfl ?_
                  refine r_d rfl rfl rfl (s_move rfl rfl) ?_
                  refine r_d rfl rfl rfl (s_fieldAddr rfl fl_api_Rule_4 rfl rfl rfl rfl) ?_
                  refine r_d rfl rfl rfl (s_load rfl rfl (by exact ty_L_api_Goal) rfl) ?_
                  refine r_d rfl rfl rfl (m_len (f := encG) r_a1.f4_Body rfl el_L_api_Goal rfl (asl rfl)) ?_
                  refine r_d rfl rfl rfl (s_cmp rfl rfl rfl rfl) ?_
                  refine r_end ?_
                  refine g_known 150 false rfl ht5 ?_
                  refine g_condF rfl ?_
                  refine g_exit rfl ?_
                  refine g_sub [(13, .ref b128_27 0 [])] (Sub.cons' rfl (Sub.nil _)) ?_
                  refine g_perm [_, _, _] _ (((pf4 _ _ _ _ _ _).trans (pf4 _ _ _ _ _ _)).trans (pf4 _ _ _ _ _ _)) ?_
                  exact HK5 _ _ ⟨f_49, f_50, f_51, u_46, u_47, rfl, rfl, hr⟩
                ·
                  rw [hd5, lf_constraintref41_Decreases_L5] at hr
                  refine g_seq ?_
                  refine g_seq ?_
                  refine g_run (by kernel_rfl) [(0, .d), (1, .d), (2, .d), (3, .d), (4, .d)] rfl ?_
                  refine r_d rfl rfl rfl (s_move rfl rfl) ?_
                  refine r_d rfl rfl rfl (s_fieldAddr rfl fl_api_Rule_4 rfl rfl rfl rfl) ?_
                  refine r_d rfl rfl rfl (s_load rfl rfl (by exact ty_L_api_Goal) rfl) ?_
                  refine r_d rfl rfl rfl (m_len (f := encG) r_a1.f4_Body rfl el_L_api_Goal rfl (asl rfl)) ?_
                  refine r_d rfl rfl rfl (s_cmp rfl rfl rfl rfl) ?_
                  refine r_end ?_
                  refine g_known 150 true rfl ht5 ?_
                  refine g_condT rfl ?_
                  refine g_skip ?_
                  refine g_seq ?_
                  refine g_block ?_
                  refine g_seq ?_
                  refine g_seq ?_
                  refine g_run (by kernel_rfl) [(0, .d), (1, .d), (2, .d), (3, .d), (4, .d), (5, .d), (6, .d)] rfl ?_
                  refine r_d rfl rfl rfl (s_fieldAddr rfl fl_api_Rule_4 rfl rfl rfl rfl) ?_
                  refine r_d rfl rfl rfl (s_load rfl rfl (by exact ty_L_api_Goal) rfl) ?_
                  refine r_d rfl rfl rfl (s_move rfl rfl) ?_
                  refine r_d rfl rfl rfl (m_index (f := encG) r_a1.f4_Body rfl el_L_api_Goal rfl (asl rfl) rfl hq5 sz_encG rfl) ?_
                  refine r_d rfl rfl rfl (s_fieldAddr rfl fl_api_Goal_0 rfl rfl rfl rfl) ?_
                  refine r_d rfl rfl rfl (s_load rfl rfl (by exact ty_int) rfl) ?_
                  refine r_d rfl rfl rfl (s_cmp rfl rfl rfl rfl) ?_
                  refine r_end ?_
                  refine g_sB 159 rfl hr (fun h159_64 hr => ?_) (fun h159_64 hr => ?_)
                  ·
                    refine g_condT rfl ?_
                    refine g_exit rfl ?_
                    refine g_run (by kernel_rfl) [(0, .d), (1, .d), (2, .d)] rfl ?_
                    refine r_d rfl rfl rfl (s_move rfl rfl) ?_
                    refine r_d rfl rfl rfl (s_ar (r := ((i_48 + 1 : Nat) : Int)) rfl rfl rfl (by simp [iar]) (by omega)) ?_
                    refine r_d rfl rfl rfl (s_assign rfl rfl) ?_
                    refine r_end ?_
                    refine g_sub [(0, .lst (ranks_a0.map enc_S_api_Rank)), (3, .ptr (enc_S_api_Rule r_a1)), (7, .own u_44 (head_19.map (D.int .i64))), (8, .own u_45 (ones_27.map (D.int .i64))), (13, .ref b128_27 0 []), (15, .int .i64 ((i_48 + 1 : Nat) : Int))] (Sub.cons' rfl (Sub.cons' rfl (Sub.cons' rfl (Sub.cons' rfl (Sub.cons' rfl (Sub.cons' rfl (Sub.nil _))))))) ?_
                    exact IH5 _ _ _ (by omega) ⟨(i_48 + 1), f_49, f_50, f_51, u_44, u_45, u_46, u_47, rfl, rfl, rfl, (by omega), hr⟩
                  ·
                    refine g_condF rfl ?_
                    refine g_skip ?_
                    refine g_seq ?_
                    refine g_any (by kernel_rfl) (by kernel_rfl) [(0, .d), (1, .d), (2, .d), (3, .d), (4, .d), (5, .d), (6, .d), (7, .d), (8, .d), (9, .d), (10, .d), (11, .d), (12, .d), (13, .w), (14, .w)] (by kernel_rfl) ?_
                    refine r_d rfl rfl rfl (s_fieldAddr rfl fl_api_Rule_4 rfl rfl rfl rfl) ?_
                    refine r_d rfl rfl rfl (s_load rfl rfl (by exact ty_L_api_Goal) rfl) ?_
                    refine r_d rfl rfl rfl (s_move rfl rfl) ?_
                    refine r_d rfl rfl rfl (m_index (f := encG) r_a1.f4_Body rfl el_L_api_Goal rfl (asl rfl) rfl hq5 sz_encG rfl) ?_
                    refine r_d rfl rfl rfl (s_fieldAddr rfl fl_api_Goal_1 rfl rfl rfl rfl) ?_
                    refine r_d rfl rfl rfl (s_load rfl rfl (by exact ty_string) rfl) ?_
                    refine r_d rfl rfl rfl (s_fieldAddr rfl fl_api_Rule_4 rfl rfl rfl rfl) ?_
                    refine r_d rfl rfl rfl (s_load rfl rfl (by exact ty_L_api_Goal) rfl) ?_
                    refine r_d rfl rfl rfl (s_move rfl rfl) ?_
                    refine r_d rfl rfl rfl (m_index (f := encG) r_a1.f4_Body rfl el_L_api_Goal rfl (asl rfl) rfl hq5 sz_encG rfl) ?_
                    refine r_d rfl rfl rfl (s_fieldAddr rfl fl_api_Goal_2 rfl rfl rfl rfl) ?_
                    refine r_d rfl rfl rfl (s_load rfl rfl (by exact ty_L_api_Term) rfl) ?_
                    refine r_d rfl rfl rfl (s_build rfl bt_api_Atom (.cons rfl (Wk.refl _) (.cons rfl (Wk.refl _) .nil)) (.cons rfl rfl rfl (.cons rfl rfl rfl (.nil _)))) ?_
                    refine r_w rfl rfl rfl (s_alloc rfl zv_api_Atom) ?_
                    rintro _ _ ⟨b16_65, rfl, rfl⟩
                    refine r_w01 rfl rfl rfl (t_store0 _ rfl rfl rfl (Wk.refl _) (pf0 _) (by exact ty_api_Atom) rfl rfl rfl) ?_
                    refine r_end ?_
                    refine g_freeze 16 b16_65 rfl (pf0 _) ?_
                    refine g_seq ?_
                    refine g_seq ?_
                    refine g_run (by kernel_rfl) [(0, .d), (1, .d), (2, .d), (3, .d), (4, .w), (5, .d)] rfl ?_
                    refine r_d rfl rfl rfl (s_move rfl rfl) ?_
                    refine r_d rfl rfl rfl (s_move rfl rfl) ?_
                    refine r_d rfl rfl rfl (s_load rfl rfl (by exact ty_api_Atom) rfl) ?_
                    refine r_d rfl rfl rfl (s_move rfl rfl) ?_
                    obtain ⟨r_67, hr_67, hr⟩ := bindS hr
                    refine r_w rfl rfl rfl (s_call _ rfl cl_Pconstraintref41_form_put (.cons rfl (Wk.refl _) (.cons rfl (Wk.refl _) (.cons rfl (Wk.refl _) (.cons rfl (Wk.refl _) (.cons rfl (Wk.own _ _) .nil))))) (by exact (((pf4 _ _ _ _ _ _).trans (pf4 _ _ _ _ _ _)).trans (pf4 _ _ _ _ _ _))) (lg_Pconstraintref41_form_put_s1 fuel _ _ _ _ _ _ _ _ _ _ _ hr_67)) ?_
                    rintro _ _ ⟨_, ⟨u177_67, u177_68, rfl, rfl⟩, rfl⟩
                    refine r_st ((.cell b128_27 (.agg [.int .i64 r_67.2.1, .own u177_67 (r_67.2.2.1.map (D.int .i64)), .vec u177_68 r_67.2.2.2.length])) :: (.row u177_67 r_67.2.2.1.length 3 1) :: (.vec u177_68 (r_67.2.2.2.map (D.int .i64)) 3 1) :: _) rfl ?_
                    refine r_d rfl rfl rfl (s_not rfl rfl) ?_
                    refine r_end ?_
                    refine g_sB 178 rfl hr (fun h178_69 hr => ?_) (fun h178_69 hr => ?_)
                    ·
                      refine g_condT rfl ?_
                      refine g_seq ?_
                      refine g_run (by kernel_rfl) [(0, .d)] rfl ?_
                      refine r_d rfl rfl rfl (s_assign rfl rfl) ?_
                      refine r_end ?_
                      obtain rfl := Option.some.inj hr
                      refine g_ret Try.func37 _ (.cons (resTmp rfl (Wk.refl _)) .nil) ?_
                      rfl
                    ·
                      refine g_condF rfl ?_
                      refine g_skip ?_
                      refine g_seq ?_
                      refine g_run (by kernel_rfl) [(0, .d), (1, .d), (2, .d)] rfl ?_
                      refine r_d rfl rfl rfl (s_load rfl rfl (by exact ty_api_Atom) rfl) ?_
                      obtain ⟨r_71, hr_71, hr⟩ := bindS hr
                      refine r_d rfl rfl rfl (s_callD rfl cl_constraintref03_AtomVars (.cons rfl (Wk.refl _) .nil) (lg_constraintref03_AtomVars fuel _ _ hr_71)) ?_
                      refine r_d rfl rfl rfl (s_assign rfl rfl) ?_
                      refine r_end ?_
                      refine g_seq ?_
                      refine g_run (by kernel_rfl) [(0, .d)] rfl ?_
                      refine r_d rfl rfl rfl (s_assign rfl rfl) ?_
                      refine r_end ?_
                      obtain ⟨kk7, hkk7, hr⟩ := exK (fun k => lf_constraintref41_Decreases_L7 k head_19 ones_27 r_71) hr
                      refine g_len 180 rfl (asl rfl) fun hla7 => ?_
                      simp only [List.length_map] at hla7
                      refine g_blockJ (fun env σ => ∃ (u_77 : Value) (u_78 : Value) (u_79 : Value) (u_80 : Value), env = [(0, .lst (ranks_a0.map enc_S_api_Rank)), (3, .ptr (enc_S_api_Rule r_a1)), (7, .own u_77 (head_19.map (D.int .i64))), (8, .own u_78 (ones_27.map (D.int .i64))), (13, .ref b128_27 0 []), (15, .int .i64 (i_48 : Int))] ∧ σ = [.row u_77 head_19.length 3 1, .row u_78 ones_27.length 3 1, .cell b128_27 (.agg [.int .i64 r_67.2.1, .own u_79 (r_67.2.2.1.map (D.int .i64)), .vec u_80 r_67.2.2.2.length]), .row u_79 r_67.2.2.1.length 3 1, .vec u_80 (r_67.2.2.2.map (D.int .i64)) 3 1] ∧ kk7 = some res) ?_ (fun HK7 => ?_)
                      ·
                        rintro _ _ ⟨u_77, u_78, u_79, u_80, rfl, rfl, hr⟩
                        rw [hkk7] at hr
                        refine g_inBlock ?_
                        refine g_run (by kernel_rfl) [(0, .d), (1, .d), (2, .d)] rfl ?_
                        refine r_d rfl rfl rfl (s_move rfl rfl) ?_
                        refine r_d rfl rfl rfl (s_ar (r := ((i_48 + 1 : Nat) : Int)) rfl rfl rfl (by simp [iar]) (by omega)) ?_
                        refine r_d rfl rfl rfl (s_assign rfl rfl) ?_
                        refine r_end ?_
                        refine g_sub [(0, .lst (ranks_a0.map enc_S_api_Rank)), (3, .ptr (enc_S_api_Rule r_a1)), (7, .own u_77 (head_19.map (D.int .i64))), (8, .own u_78 (ones_27.map (D.int .i64))), (13, .ref b128_27 0 []), (15, .int .i64 ((i_48 + 1 : Nat) : Int))] (Sub.cons' rfl (Sub.cons' rfl (Sub.cons' rfl (Sub.cons' rfl (Sub.cons' rfl (Sub.cons' rfl (Sub.nil _))))))) ?_
                        exact IH5 _ _ _ (by omega) ⟨(i_48 + 1), r_67.2.1, r_67.2.2.1, r_67.2.2.2, u_77, u_78, u_79, u_80, rfl, rfl, rfl, (by omega), hr⟩
                      ·
                        refine g_sub [(0, .lst (ranks_a0.map enc_S_api_Rank)), (3, .ptr (enc_S_api_Rule r_a1)), (7, .own u_44 (head_19.map (D.int .i64))), (8, .own u_45 (ones_27.map (D.int .i64))), (13, .ref b128_27 0 []), (15, .int .i64 ((i_48 : Nat) : Int)), (17, .lst (r_71.map (D.int .i64))), (18, .int .i64 ((0 : Nat) : Int))] (Sub.cons' rfl (Sub.cons' rfl (Sub.cons' rfl (Sub.cons' rfl (Sub.cons' rfl (Sub.cons' rfl (Sub.cons' rfl (Sub.cons' rfl (Sub.nil _))))))))) ?_
                        refine g_perm [_, _, _, _, _] _ (((((pf2 _ _ _ _).trans (pf2 _ _ _ _)).trans (pf2 _ _ _ _)).trans (pf4 _ _ _ _ _ _)).trans (pf4 _ _ _ _ _ _)) ?_
                        refine g_loop (fun n env σ => ∃ (k_76 : Nat) (u_72 : Value) (u_73 : Value) (u_74 : Value) (u_75 : Value), (n = r_71.length - k_76) ∧ (env = [(0, .lst (ranks_a0.map enc_S_api_Rank)), (3, .ptr (enc_S_api_Rule r_a1)), (7, .own u_72 (head_19.map (D.int .i64))), (8, .own u_73 (ones_27.map (D.int .i64))), (13, .ref b128_27 0 []), (15, .int .i64 (i_48 : Int)), (17, .lst (r_71.map (D.int .i64))), (18, .int .i64 (k_76 : Int))]) ∧ (σ = [.row u_72 head_19.length 3 1, .row u_73 ones_27.length 3 1, .cell b128_27 (.agg [.int .i64 r_67.2.1, .own u_74 (r_67.2.2.1.map (D.int .i64)), .vec u_75 r_67.2.2.2.length]), .row u_74 r_67.2.2.1.length 3 1, .vec u_75 (r_67.2.2.2.map (D.int .i64)) 3 1]) ∧ (k_76 ≤ r_71.length) ∧ (lf_constraintref41_Decreases_L7 kk7 head_19 ones_27 (r_71.drop k_76) = some res)) _ ⟨0, u_44, u_45, u177_67, u177_68, rfl, rfl, rfl, Nat.zero_le _, hr⟩ ?_
                        rintro n _ _ ⟨k_76, u_72, u_73, u_74, u_75, rfl, rfl, rfl, hi7, hr⟩ IH7
                        rcases listStep r_71 k_76 hi7 with ⟨ht7, hd7, he7⟩ | ⟨q_81, ht7, hd7, hq7, hlt7⟩
                        ·
                          rw [hd7, lf_constraintref41_Decreases_L7] at hr
                          refine g_seq ?_
                          refine g_seq ?_
                          refine g_run (by kernel_rfl) [(0, .d), (1, .d), (2, .d), (3, .d)] rfl ?_
                          refine r_d rfl rfl rfl (s_move rfl rfl) ?_
                          refine r_d rfl rfl rfl (s_move rfl rfl) ?_
                          refine r_d rfl rfl rfl (m_len (f := (D.int .i64)) r_71 rfl el_L_int rfl (asl rfl)) ?_
                          refine r_d rfl rfl rfl (s_cmp rfl rfl rfl rfl) ?_
                          refine r_end ?_
                          refine g_known 184 false rfl ht7 ?_
                          refine g_condF rfl ?_
                          refine g_exit rfl ?_
                          refine g_sub [(0, .lst (ranks_a0.map enc_S_api_Rank)), (3, .ptr (enc_S_api_Rule r_a1)), (7, .own u_72 (head_19.map (D.int .i64))), (8, .own u_73 (ones_27.map (D.int .i64))), (13, .ref b128_27 0 []), (15, .int .i64 (i_48 : Int))] (Sub.cons' rfl (Sub.cons' rfl (Sub.cons' rfl (Sub.cons' rfl (Sub.cons' rfl (Sub.cons' rfl (Sub.nil _))))))) ?_
                          exact HK7 _ _ ⟨u_72, u_73, u_74, u_75, rfl, rfl, hr⟩
                        ·
                          rw [hd7, lf_constraintref41_Decreases_L7] at hr
                          refine g_seq ?_
                          refine g_seq ?_
                          refine g_run (by kernel_rfl) [(0, .d), (1, .d), (2, .d), (3, .d)] rfl ?_
                          refine r_d rfl rfl rfl (s_move rfl rfl) ?_
                          refine r_d rfl rfl rfl (s_move rfl rfl) ?_
                          refine r_d rfl rfl rfl (m_len (f := (D.int .i64)) r_71 rfl el_L_int rfl (asl rfl)) ?_
                          refine r_d rfl rfl rfl (s_cmp rfl rfl rfl rfl) ?_
                          refine r_end ?_
                          refine g_known 184 true rfl ht7 ?_
                          refine g_condT rfl ?_
                          refine g_skip ?_
                          refine g_seq ?_
                          refine g_block ?_
                          refine g_seq ?_
                          refine g_run (by kernel_rfl) [(0, .d), (1, .d), (2, .d), (3, .d), (4, .d), (5, .d), (6, .d), (7, .d), (8, .d), (9, .d), (10, .d), (11, .d), (12, .d), (13, .d), (14, .d), (15, .d)] rfl ?_
                          refine r_d rfl rfl rfl (s_move rfl rfl) ?_
                          refine r_d rfl rfl rfl (s_move rfl rfl) ?_
                          refine r_d rfl rfl rfl (s_move rfl rfl) ?_
                          refine r_d rfl rfl rfl (m_index (f := (D.int .i64)) r_71 rfl el_L_int rfl (asl rfl) rfl hq7 (fun _ => rfl) rfl) ?_
                          refine r_d rfl rfl rfl (s_load rfl rfl (by exact ty_int) rfl) ?_
                          obtain ⟨r_82, hr_82, hr⟩ := bindS hr
                          refine r_d rfl rfl rfl (s_callD rfl cl_constraintref41_in (.cons rfl (Wk.own _ _) (.cons rfl (Wk.refl _) .nil)) (lg_constraintref41_in _ _ _ hr_82)) ?_
                          refine r_d rfl rfl rfl (s_not rfl rfl) ?_
                          refine r_d rfl rfl rfl (s_move rfl rfl) ?_
                          refine r_sB 194 rfl hr (fun h194_82 hr => ?_) (fun h194_82 hr => ?_)
                          ·
                            refine r_d rfl rfl rfl (s_move rfl rfl) ?_
                            refine r_d rfl rfl rfl (s_move rfl rfl) ?_
                            refine r_d rfl rfl rfl (s_move rfl rfl) ?_
                            refine r_d rfl rfl rfl (m_index (f := (D.int .i64)) r_71 rfl el_L_int rfl (asl rfl) rfl hq7 (fun _ => rfl) rfl) ?_
                            refine r_d rfl rfl rfl (s_load rfl rfl (by exact ty_int) rfl) ?_
                            obtain ⟨r_84, hr_84, hr⟩ := bindS hr
                            refine r_d rfl rfl rfl (s_callD rfl cl_constraintref41_in (.cons rfl (Wk.own _ _) (.cons rfl (Wk.refl _) .nil)) (lg_constraintref41_in _ _ _ hr_84)) ?_
                            refine r_d rfl rfl rfl (s_not rfl rfl) ?_
                            refine r_d rfl rfl rfl (s_pickT rfl rfl rfl) ?_
                            refine r_end ?_
                            refine g_sB 202 rfl hr (fun h202_84 hr => ?_) (fun h202_84 hr => ?_)
                            ·
                              refine g_condT rfl ?_
                              refine g_seq ?_
                              refine g_run (by kernel_rfl) [(0, .d)] rfl ?_
                              refine r_d rfl rfl rfl (s_assign rfl rfl) ?_
                              refine r_end ?_
                              obtain rfl := Option.some.inj hr
                              refine g_ret Try.func37 _ (.cons (resTmp rfl (Wk.refl _)) .nil) ?_
                              rfl
                            ·
                              refine g_condF rfl ?_
                              refine g_skip ?_
                              refine g_inBlock ?_
                              refine g_run (by kernel_rfl) [(0, .d), (1, .d), (2, .d)] rfl ?_
                              refine r_d rfl rfl rfl (s_move rfl rfl) ?_
                              refine r_d rfl rfl rfl (s_ar (r := ((k_76 + 1 : Nat) : Int)) rfl rfl rfl (by simp [iar]) (by omega)) ?_
                              refine r_d rfl rfl rfl (s_assign rfl rfl) ?_
                              refine r_end ?_
                              refine g_sub [(0, .lst (ranks_a0.map enc_S_api_Rank)), (3, .ptr (enc_S_api_Rule r_a1)), (7, .own u_72 (head_19.map (D.int .i64))), (8, .own u_73 (ones_27.map (D.int .i64))), (13, .ref b128_27 0 []), (15, .int .i64 ((i_48 : Nat) : Int)), (17, .lst (r_71.map (D.int .i64))), (18, .int .i64 ((k_76 + 1 : Nat) : Int))] (Sub.cons' rfl (Sub.cons' rfl (Sub.cons' rfl (Sub.cons' rfl (Sub.cons' rfl (Sub.cons' rfl (Sub.cons' rfl (Sub.cons' rfl (Sub.nil _))))))))) ?_
                              exact IH7 _ _ _ (by omega) ⟨(k_76 + 1), u_72, u_73, u_74, u_75, rfl, rfl, rfl, (by omega), hr⟩
                          ·
                            refine r_skip rfl rfl rfl ?_
                            refine r_skip rfl rfl rfl ?_
                            refine r_skip rfl rfl rfl ?_
                            refine r_skip rfl rfl rfl ?_
                            refine r_skip rfl rfl rfl ?_
                            refine r_skip rfl rfl rfl ?_
                            refine r_skip rfl rfl rfl ?_
                            refine r_d rfl rfl rfl (s_pickF rfl rfl rfl) ?_
                            refine r_end ?_
                            refine g_condF rfl ?_
                            refine g_skip ?_
                            refine g_inBlock ?_
                            refine g_run (by kernel_rfl) [(0, .d), (1, .d), (2, .d)] rfl ?_
                            refine r_d rfl rfl rfl (s_move rfl rfl) ?_
                            refine r_d rfl rfl rfl (s_ar (r := ((k_76 + 1 : Nat) : Int)) rfl rfl rfl (by simp [iar]) (by omega)) ?_
                            refine r_d rfl rfl rfl (s_assign rfl rfl) ?_
                            refine r_end ?_
                            refine g_sub [(0, .lst (ranks_a0.map enc_S_api_Rank)), (3, .ptr (enc_S_api_Rule r_a1)), (7, .own u_72 (head_19.map (D.int .i64))), (8, .own u_73 (ones_27.map (D.int .i64))), (13, .ref b128_27 0 []), (15, .int .i64 ((i_48 : Nat) : Int)), (17, .lst (r_71.map (D.int .i64))), (18, .int .i64 ((k_76 + 1 : Nat) : Int))] (Sub.cons' rfl (Sub.cons' rfl (Sub.cons' rfl (Sub.cons' rfl (Sub.cons' rfl (Sub.cons' rfl (Sub.cons' rfl (Sub.cons' rfl (Sub.nil _))))))))) ?_
                            exact IH7 _ _ _ (by omega) ⟨(k_76 + 1), u_72, u_73, u_74, u_75, rfl, rfl, rfl, (by omega), hr⟩
            ·
              refine g_sub [(0, .lst (ranks_a0.map enc_S_api_Rank)), (3, .ptr (enc_S_api_Rule r_a1)), (7, .own u_25 (head_19.map (D.int .i64))), (8, .own u_26 (ones_27.map (D.int .i64))), (13, .ref b128_27 0 []), (14, .int .i64 ((0 : Nat) : Int))] (Sub.cons' rfl (Sub.cons' rfl (Sub.cons' rfl (Sub.cons' rfl (Sub.cons' rfl (Sub.cons' rfl (Sub.nil _))))))) ?_
              refine g_perm [_, _, _, _, _] _ (((((pf1 _ _ _).trans (pf2 _ _ _ _)).trans (pf2 _ _ _ _)).trans (pf4 _ _ _ _ _ _)).trans (pf4 _ _ _ _ _ _)) ?_
              refine g_loop (fun n env σ => ∃ (i_33 : Nat) (t128_34 : Int) (t128_35 : (List Int)) (t128_36 : (List Int)) (u_29 : Value) (u_30 : Value) (u_31 : Value) (u_32 : Value), (n = r_a1.f2_Remove.length - i_33) ∧ (env = [(0, .lst (ranks_a0.map enc_S_api_Rank)), (3, .ptr (enc_S_api_Rule r_a1)), (7, .own u_29 (head_19.map (D.int .i64))), (8, .own u_30 (ones_27.map (D.int .i64))), (13, .ref b128_27 0 []), (14, .int .i64 (i_33 : Int))]) ∧ (σ = [.row u_29 head_19.length 3 1, .row u_30 ones_27.length 3 1, .cell b128_27 (.agg [.int .i64 t128_34, .own u_31 (t128_35.map (D.int .i64)), .vec u_32 t128_36.length]), .row u_31 t128_35.length 3 1, .vec u_32 (t128_36.map (D.int .i64)) 3 1]) ∧ (i_33 ≤ r_a1.f2_Remove.length) ∧ (lf_constraintref41_Decreases_L4 kk4 fuel ones_27 ranks_a0 (r_a1.f2_Remove.drop i_33) t128_34 t128_35 t128_36 = some res)) _ ⟨0, 0, [], [], u_25, u_26, (.slice none 0 0 ), (.slice none 0 0  ), rfl, rfl, rfl, Nat.zero_le _, hr⟩ ?_
              rintro n _ _ ⟨i_33, t128_34, t128_35, t128_36, u_29, u_30, u_31, u_32, rfl, rfl, rfl, hi4, hr⟩ IH4
              rcases listStep r_a1.f2_Remove i_33 hi4 with ⟨ht4, hd4, he4⟩ | ⟨q_86, ht4, hd4, hq4, hlt4⟩
              ·
                rw [hd4, lf_constraintref41_Decreases_L4] at hr
                refine g_seq ?_
                refine g_seq ?_
                refine g_run (by kernel_rfl) [(0, .d), (1, .d), (2, .d), (3, .d), (4, .d)] rfl ?_
                refine r_d rfl rfl rfl (s_move rfl rfl) ?_
                refine r_d rfl rfl rfl (s_fieldAddr rfl fl_api_Rule_2 rfl rfl rfl rfl) ?_
                refine r_d rfl rfl rfl (s_load rfl rfl (by exact ty_L_api_Atom) rfl) ?_
                refine r_d rfl rfl rfl (m_len (f := encA) r_a1.f2_Remove rfl el_L_api_Atom rfl (asl rfl)) ?_
                refine r_d rfl rfl rfl (s_cmp rfl rfl rfl rfl) ?_
                refine r_end ?_
                refine g_known 133 false rfl ht4 ?_
                refine g_condF rfl ?_
                refine g_exit rfl ?_
                refine g_sub [(0, .lst (ranks_a0.map enc_S_api_Rank)), (3, .ptr (enc_S_api_Rule r_a1)), (7, .own u_29 (head_19.map (D.int .i64))), (8, .own u_30 (ones_27.map (D.int .i64))), (13, .ref b128_27 0 [])] (Sub.cons' rfl (Sub.cons' rfl (Sub.cons' rfl (Sub.cons' rfl (Sub.cons' rfl (Sub.nil _)))))) ?_
                exact HK4 _ _ ⟨t128_34, t128_35, t128_36, u_29, u_30, u_31, u_32, rfl, rfl, hr⟩
              ·
                rw [hd4, lf_constraintref41_Decreases_L4] at hr
                refine g_seq ?_
                refine g_seq ?_
                refine g_run (by kernel_rfl) [(0, .d), (1, .d), (2, .d), (3, .d), (4, .d)] rfl ?_
                refine r_d rfl rfl rfl (s_move rfl rfl) ?_
                refine r_d rfl rfl rfl (s_fieldAddr rfl fl_api_Rule_2 rfl rfl rfl rfl) ?_
                refine r_d rfl rfl rfl (s_load rfl rfl (by exact ty_L_api_Atom) rfl) ?_
                refine r_d rfl rfl rfl (m_len (f := encA) r_a1.f2_Remove rfl el_L_api_Atom rfl (asl rfl)) ?_
                refine r_d rfl rfl rfl (s_cmp rfl rfl rfl rfl) ?_
                refine r_end ?_
                refine g_known 133 true rfl ht4 ?_
                refine g_condT rfl ?_
                refine g_skip ?_
                refine g_seq ?_
                refine g_block ?_
                refine g_seq ?_
                refine g_run (by kernel_rfl) [(0, .d), (1, .d), (2, .d), (3, .d), (4, .d), (5, .d), (6, .d), (7, .d), (8, .w), (9, .d)] rfl ?_
                refine r_d rfl rfl rfl (s_move rfl rfl) ?_
                refine r_d rfl rfl rfl (s_move rfl rfl) ?_
                refine r_d rfl rfl rfl (s_fieldAddr rfl fl_api_Rule_2 rfl rfl rfl rfl) ?_
                refine r_d rfl rfl rfl (s_load rfl rfl (by exact ty_L_api_Atom) rfl) ?_
                refine r_d rfl rfl rfl (s_move rfl rfl) ?_
                refine r_d rfl rfl rfl (m_index (f := encA) r_a1.f2_Remove rfl el_L_api_Atom rfl (asl rfl) rfl hq4 sz_encA rfl) ?_
                refine r_d rfl rfl rfl (s_load rfl rfl (by exact ty_api_Atom) (sz_encA _)) ?_
                refine r_d rfl rfl rfl (s_move rfl rfl) ?_
                obtain ⟨r_87, hr_87, hr⟩ := bindS hr
                refine r_w rfl rfl rfl (s_call _ rfl cl_Pconstraintref41_form_put (.cons rfl (Wk.refl _) (.cons rfl (Wk.refl _) (.cons rfl (Wk.refl _) (.cons rfl (Wk.refl _) (.cons rfl (Wk.own _ _) .nil))))) (by exact (((pf4 _ _ _ _ _ _).trans (pf4 _ _ _ _ _ _)).trans (pf4 _ _ _ _ _ _))) (lg_Pconstraintref41_form_put_s1 fuel _ _ _ _ _ _ _ _ _ _ _ hr_87)) ?_
                rintro _ _ ⟨_, ⟨u144_87, u144_88, rfl, rfl⟩, rfl⟩
                refine r_st ((.cell b128_27 (.agg [.int .i64 r_87.2.1, .own u144_87 (r_87.2.2.1.map (D.int .i64)), .vec u144_88 r_87.2.2.2.length])) :: (.row u144_87 r_87.2.2.1.length 3 1) :: (.vec u144_88 (r_87.2.2.2.map (D.int .i64)) 3 1) :: _) rfl ?_
                refine r_d rfl rfl rfl (s_not rfl rfl) ?_
                refine r_end ?_
                refine g_sB 145 rfl hr (fun h145_89 hr => ?_) (fun h145_89 hr => ?_)
                ·
                  refine g_condT rfl ?_
                  refine g_seq ?_
                  refine g_run (by kernel_rfl) [(0, .d)] rfl ?_
                  refine r_d rfl rfl rfl (s_assign rfl rfl) ?_
                  refine r_end ?_
                  obtain rfl := Option.some.inj hr
                  refine g_ret Try.func37 _ (.cons (resTmp rfl (Wk.refl _)) .nil) ?_
                  rfl
                ·
                  refine g_condF rfl ?_
                  refine g_skip ?_
                  refine g_inBlock ?_
                  refine g_run (by kernel_rfl) [(0, .d), (1, .d), (2, .d)] rfl ?_
                  refine r_d rfl rfl rfl (s_move rfl rfl) ?_
                  refine r_d rfl rfl rfl (s_ar (r := ((i_33 + 1 : Nat) : Int)) rfl rfl rfl (by simp [iar]) (by omega)) ?_
                  refine r_d rfl rfl rfl (s_assign rfl rfl) ?_
                  refine r_end ?_
                  refine g_sub [(0, .lst (ranks_a0.map enc_S_api_Rank)), (3, .ptr (enc_S_api_Rule r_a1)), (7, .own u_29 (head_19.map (D.int .i64))), (8, .own u_30 (ones_27.map (D.int .i64))), (13, .ref b128_27 0 []), (14, .int .i64 ((i_33 + 1 : Nat) : Int))] (Sub.cons' rfl (Sub.cons' rfl (Sub.cons' rfl (Sub.cons' rfl (Sub.cons' rfl (Sub.cons' rfl (Sub.nil _))))))) ?_
                  refine g_perm [_, _, _, _, _] _ (((((pf2 _ _ _ _).trans (pf2 _ _ _ _)).trans (pf2 _ _ _ _)).trans (pf4 _ _ _ _ _ _)).trans (pf4 _ _ _ _ _ _)) ?_
                  exact IH4 _ _ _ (by omega) ⟨(i_33 + 1), r_87.2.1, r_87.2.2.1, r_87.2.2.2, u_29, u_30, u144_87, u144_88, rfl, rfl, rfl, (by omega), hr⟩
          ·
            refine g_sub [(0, .lst (ranks_a0.map enc_S_api_Rank)), (3, .ptr (enc_S_api_Rule r_a1)), (7, .own u_18 (head_19.map (D.int .i64))), (8, .own u_20 ([].map (D.int .i64))), (11, .int .i64 ((0 : Nat) : Int))] (Sub.cons' rfl (Sub.cons' rfl (Sub.cons' rfl (Sub.cons' rfl (Sub.cons' rfl (Sub.nil _)))))) ?_
            refine g_loop (fun n env σ => ∃ (ones_23 : (List Int)) (i_24 : Nat) (u_21 : Value) (u_22 : Value), (n = r_a1.f4_Body.length - i_24) ∧ (env = [(0, .lst (ranks_a0.map enc_S_api_Rank)), (3, .ptr (enc_S_api_Rule r_a1)), (7, .own u_21 (head_19.map (D.int .i64))), (8, .own u_22 (ones_23.map (D.int .i64))), (11, .int .i64 (i_24 : Int))]) ∧ (σ = [.row u_21 head_19.length 3 1, .row u_22 ones_23.length 3 1]) ∧ (i_24 ≤ r_a1.f4_Body.length) ∧ (lf_constraintref41_Decreases_L3 kk3 head_19 (r_a1.f4_Body.drop i_24) ones_23 = some res)) _ ⟨[], 0, u_18, u_20, rfl, rfl, rfl, Nat.zero_le _, hr⟩ ?_
            rintro n _ _ ⟨ones_23, i_24, u_21, u_22, rfl, rfl, rfl, hi3, hr⟩ IH3
            rcases listStep r_a1.f4_Body i_24 hi3 with ⟨ht3, hd3, he3⟩ | ⟨q_91, ht3, hd3, hq3, hlt3⟩
            ·
              rw [hd3, lf_constraintref41_Decreases_L3] at hr
              refine g_seq ?_
              refine g_seq ?_
              refine g_run (by kernel_rfl) [(0, .d), (1, .d), (2, .d), (3, .d), (4, .d)] rfl ?_
              refine r_d rfl rfl rfl (s_move rfl rfl) ?_
              refine r_d rfl rfl rfl (s_fieldAddr rfl fl_api_Rule_4 rfl rfl rfl rfl) ?_
              refine r_d rfl rfl rfl (s_load rfl rfl (by exact ty_L_api_Goal) rfl) ?_
              refine r_d rfl rfl rfl (m_len (f := encG) r_a1.f4_Body rfl el_L_api_Goal rfl (asl rfl)) ?_
              refine r_d rfl rfl rfl (s_cmp rfl rfl rfl rfl) ?_
              refine r_end ?_
              refine g_known 84 false rfl ht3 ?_
              refine g_condF rfl ?_
              refine g_exit rfl ?_
              refine g_sub [(0, .lst (ranks_a0.map enc_S_api_Rank)), (3, .ptr (enc_S_api_Rule r_a1)), (7, .own u_21 (head_19.map (D.int .i64))), (8, .own u_22 (ones_23.map (D.int .i64)))] (Sub.cons' rfl (Sub.cons' rfl (Sub.cons' rfl (Sub.cons' rfl (Sub.nil _))))) ?_
              exact HK3 _ _ ⟨ones_23, u_21, u_22, rfl, rfl, hr⟩
            ·
              rw [hd3, lf_constraintref41_Decreases_L3] at hr
              refine g_seq ?_
              refine g_seq ?_
              refine g_run (by kernel_rfl) [(0, .d), (1, .d), (2, .d), (3, .d), (4, .d)] rfl ?_
              refine r_d rfl rfl rfl (s_move rfl rfl) ?_
              refine r_d rfl rfl rfl (s_fieldAddr rfl fl_api_Rule_4 rfl rfl rfl rfl) ?_
              refine r_d rfl rfl rfl (s_load rfl rfl (by exact ty_L_api_Goal) rfl) ?_
              refine r_d rfl rfl rfl (m_len (f := encG) r_a1.f4_Body rfl el_L_api_Goal rfl (asl rfl)) ?_
              refine r_d rfl rfl rfl (s_cmp rfl rfl rfl rfl) ?_
              refine r_end ?_
              refine g_known 84 true rfl ht3 ?_
              refine g_condT rfl ?_
              refine g_skip ?_
              refine g_seq ?_
              refine g_block ?_
              refine g_seq ?_
              refine g_run (by kernel_rfl) [(0, .d), (1, .d), (2, .d), (3, .d), (4, .d), (5, .w), (6, .w)] rfl ?_
              refine r_d rfl rfl rfl (s_fieldAddr rfl fl_api_Rule_4 rfl rfl rfl rfl) ?_
              refine r_d rfl rfl rfl (s_load rfl rfl (by exact ty_L_api_Goal) rfl) ?_
              refine r_d rfl rfl rfl (s_move rfl rfl) ?_
              refine r_d rfl rfl rfl (m_index (f := encG) r_a1.f4_Body rfl el_L_api_Goal rfl (asl rfl) rfl hq3 sz_encG rfl) ?_
              refine r_d rfl rfl rfl (s_load rfl rfl (by exact ty_api_Goal) (sz_encG _)) ?_
              refine r_w rfl rfl rfl (s_alloc rfl zv_api_Goal) ?_
              rintro _ _ ⟨b12_91, rfl, rfl⟩
              refine r_w01 rfl rfl rfl (t_store0 _ rfl rfl rfl (Wk.refl _) (pf0 _) (by exact ty_api_Goal) (sz_encG _) rfl rfl) ?_
              refine r_end ?_
              refine g_freeze 12 b12_91 rfl (pf0 _) ?_
              refine g_seq ?_
              refine g_run (by kernel_rfl) [(0, .d), (1, .d), (2, .d), (3, .d), (4, .d), (5, .d), (6, .d), (7, .d), (8, .d), (9, .d), (10, .d), (11, .d), (12, .d), (13, .d), (14, .d), (15, .d), (16, .d), (17, .d), (18, .d), (19, .d), (20, .d), (21, .d), (22, .d), (23, .d), (24, .d), (25, .d), (26, .d)] rfl ?_
              refine r_d rfl rfl rfl (s_fieldAddr rfl fl_api_Goal_0 rfl rfl rfl rfl) ?_
              refine r_d rfl rfl rfl (s_load rfl rfl (by exact ty_int) rfl) ?_
              refine r_d rfl rfl rfl (s_cmp rfl rfl rfl rfl) ?_
              refine r_d rfl rfl rfl (s_move rfl rfl) ?_
              refine r_sB 95 rfl hr (fun h95_92 hr => ?_) (fun h95_92 hr => ?_)
              ·
                refine r_d rfl rfl rfl (s_fieldAddr rfl fl_api_Goal_2 rfl rfl rfl rfl) ?_
                refine r_d rfl rfl rfl (s_load rfl rfl (by exact ty_L_api_Term) rfl) ?_
                refine r_d rfl rfl rfl (m_len (f := encT) q_91.ts rfl el_L_api_Term rfl (asl rfl)) ?_
                refine r_d rfl rfl rfl (s_cmp rfl rfl rfl rfl) ?_
                refine r_d rfl rfl rfl (s_pickT rfl rfl rfl) ?_
                refine r_d rfl rfl rfl (s_move rfl rfl) ?_
                refine r_sB 101 rfl hr (fun h101_93 hr => ?_) (fun h101_93 hr => ?_)
                ·
                  refine r_d rfl rfl rfl (s_fieldAddr rfl fl_api_Goal_2 rfl rfl rfl rfl) ?_
                  refine r_d rfl rfl rfl (s_load rfl rfl (by exact ty_L_api_Term) rfl) ?_
                  obtain ⟨q_95, hq_95, hr⟩ := bindS hr
                  refine r_d rfl rfl rfl (m_index (f := encT) q_91.ts rfl el_L_api_Term rfl (asl rfl) rfl hq_95 sz_encT rfl) ?_
                  refine r_d rfl rfl rfl (s_fieldAddr rfl fl_api_Term_0 rfl (fsT_get0 _) (fsT_off0 _) rfl) ?_
                  refine r_d rfl rfl rfl (s_load rfl rfl (by exact ty_int) rfl) ?_
                  refine r_d rfl rfl rfl (s_cmp rfl rfl rfl rfl) ?_
                  refine r_d rfl rfl rfl (s_pickT rfl rfl rfl) ?_
                  refine r_d rfl rfl rfl (s_move rfl rfl) ?_
                  refine r_sB 109 rfl hr (fun h109_95 hr => ?_) (fun h109_95 hr => ?_)
                  ·
                    refine r_d rfl rfl rfl (s_move rfl rfl) ?_
                    refine r_d rfl rfl rfl (s_fieldAddr rfl fl_api_Goal_2 rfl rfl rfl rfl) ?_
                    refine r_d rfl rfl rfl (s_load rfl rfl (by exact ty_L_api_Term) rfl) ?_
                    refine r_d rfl rfl rfl (m_index (f := encT) q_91.ts rfl el_L_api_Term rfl (asl rfl) rfl hq_95 sz_encT rfl) ?_
                    refine r_d rfl rfl rfl (s_fieldAddr rfl fl_api_Term_1 rfl (fsT_get1 _) (fsT_off1 _) rfl) ?_
                    refine r_d rfl rfl rfl (s_load rfl rfl (by exact ty_int) rfl) ?_
                    obtain ⟨r_97, hr_97, hr⟩ := bindS hr
                    refine r_d rfl rfl rfl (s_callD rfl cl_constraintref41_in (.cons rfl (Wk.own _ _) (.cons rfl (Wk.refl _) .nil)) (lg_constraintref41_in _ _ _ hr_97)) ?_
                    refine r_d rfl rfl rfl (s_not rfl rfl) ?_
                    refine r_d rfl rfl rfl (s_pickT rfl rfl rfl) ?_
                    refine r_end ?_
                    refine g_sB 118 rfl hr (fun h118_97 hr => ?_) (fun h118_97 hr => ?_)
                    ·
                      refine g_condT rfl ?_
                      refine g_run (by kernel_rfl) [(0, .d), (1, .d), (2, .d), (3, .d), (4, .d), (5, .d), (6, .d), (7, .w), (8, .d)] rfl ?_
                      refine r_d rfl rfl rfl (s_move rfl rfl) ?_
                      refine r_d rfl rfl rfl (s_fieldAddr rfl fl_api_Goal_2 rfl rfl rfl rfl) ?_
                      refine r_d rfl rfl rfl (s_load rfl rfl (by exact ty_L_api_Term) rfl) ?_
                      refine r_d rfl rfl rfl (m_index (f := encT) q_91.ts rfl el_L_api_Term rfl (asl rfl) rfl hq_95 sz_encT rfl) ?_
                      refine r_d rfl rfl rfl (s_fieldAddr rfl fl_api_Term_1 rfl (fsT_get1 _) (fsT_off1 _) rfl) ?_
                      refine r_d rfl rfl rfl (s_load rfl rfl (by exact ty_int) rfl) ?_
                      refine r_d rfl rfl rfl (m_lit (f := (D.int .i64)) [.tmp 124] [q_95.i] rfl el_L_int rfl rfl (by decide) (by decide) (.cons rfl (Wk.refl _) .nil) (fun _ => rfl) (fun _ => rfl)) ?_
                      obtain ⟨l_99, hl_99, hr⟩ := bindS hr
                      refine r_w rfl rfl rfl (m_appOwn (f := (D.int .i64)) ones_23 [q_95.i] rfl el_L_int rfl rfl (asl rfl) (pf1 _ _ _) rfl (fun _ => rfl) hl_99) ?_
                      rintro _ _ ⟨u126_99, rfl, rfl⟩
                      refine r_d rfl rfl rfl (s_assign rfl rfl) ?_
                      refine r_end ?_
                      refine g_inBlock ?_
                      refine g_run (by kernel_rfl) [(0, .d), (1, .d), (2, .d)] rfl ?_
                      refine r_d rfl rfl rfl (s_move rfl rfl) ?_
                      refine r_d rfl rfl rfl (s_ar (r := ((i_24 + 1 : Nat) : Int)) rfl rfl rfl (by simp [iar]) (by omega)) ?_
                      refine r_d rfl rfl rfl (s_assign rfl rfl) ?_
                      refine r_end ?_
                      refine g_sub [(0, .lst (ranks_a0.map enc_S_api_Rank)), (3, .ptr (enc_S_api_Rule r_a1)), (7, .own u_21 (head_19.map (D.int .i64))), (8, .own u126_99 (l_99.map (D.int .i64))), (11, .int .i64 ((i_24 + 1 : Nat) : Int))] (Sub.cons' rfl (Sub.cons' rfl (Sub.cons' rfl (Sub.cons' rfl (Sub.cons' rfl (Sub.nil _)))))) ?_
                      refine g_perm [_, _] _ ((pf0 _).trans (pf1 _ _ _)) ?_
                      exact IH3 _ _ _ (by omega) ⟨l_99, (i_24 + 1), u_21, u126_99, rfl, rfl, rfl, (by omega), hr⟩
                    ·
                      refine g_condF rfl ?_
                      refine g_skip ?_
                      refine g_inBlock ?_
                      refine g_run (by kernel_rfl) [(0, .d), (1, .d), (2, .d)] rfl ?_
                      refine r_d rfl rfl rfl (s_move rfl rfl) ?_
                      refine r_d rfl rfl rfl (s_ar (r := ((i_24 + 1 : Nat) : Int)) rfl rfl rfl (by simp [iar]) (by omega)) ?_
                      refine r_d rfl rfl rfl (s_assign rfl rfl) ?_
                      refine r_end ?_
                      refine g_sub [(0, .lst (ranks_a0.map enc_S_api_Rank)), (3, .ptr (enc_S_api_Rule r_a1)), (7, .own u_21 (head_19.map (D.int .i64))), (8, .own u_22 (ones_23.map (D.int .i64))), (11, .int .i64 ((i_24 + 1 : Nat) : Int))] (Sub.cons' rfl (Sub.cons' rfl (Sub.cons' rfl (Sub.cons' rfl (Sub.cons' rfl (Sub.nil _)))))) ?_
                      exact IH3 _ _ _ (by omega) ⟨ones_23, (i_24 + 1), u_21, u_22, rfl, rfl, rfl, (by omega), hr⟩
                  ·
                    refine r_skip rfl rfl rfl ?_
                    refine r_skip rfl rfl rfl ?_
                    refine r_skip rfl rfl rfl ?_
                    refine r_skip rfl rfl rfl ?_
                    refine r_skip rfl rfl rfl ?_
                    refine r_skip rfl rfl rfl ?_
                    refine r_skip rfl rfl rfl ?_
                    refine r_skip rfl rfl rfl ?_
                    refine r_d rfl rfl rfl (s_pickF rfl rfl rfl) ?_
                    refine r_end ?_
                    refine g_condF rfl ?_
                    refine g_skip ?_
                    refine g_inBlock ?_
                    refine g_run (by kernel_rfl) [(0, .d), (1, .d), (2, .d)] rfl ?_
                    refine r_d rfl rfl rfl (s_move rfl rfl) ?_
                    refine r_d rfl rfl rfl (s_ar (r := ((i_24 + 1 : Nat) : Int)) rfl rfl rfl (by simp [iar]) (by omega)) ?_
                    refine r_d rfl rfl rfl (s_assign rfl rfl) ?_
                    refine r_end ?_
                    refine g_sub [(0, .lst (ranks_a0.map enc_S_api_Rank)), (3, .ptr (enc_S_api_Rule r_a1)), (7, .own u_21 (head_19.map (D.int .i64))), (8, .own u_22 (ones_23.map (D.int .i64))), (11, .int .i64 ((i_24 + 1 : Nat) : Int))] (Sub.cons' rfl (Sub.cons' rfl (Sub.cons' rfl (Sub.cons' rfl (Sub.cons' rfl (Sub.nil _)))))) ?_
                    exact IH3 _ _ _ (by omega) ⟨ones_23, (i_24 + 1), u_21, u_22, rfl, rfl, rfl, (by omega), hr⟩
                ·
                  refine r_skip rfl rfl rfl ?_
                  refine r_skip rfl rfl rfl ?_
                  refine r_skip rfl rfl rfl ?_
                  refine r_skip rfl rfl rfl ?_
                  refine r_skip rfl rfl rfl ?_
                  refine r_skip rfl rfl rfl ?_
                  refine r_d rfl rfl rfl (s_pickF rfl rfl rfl) ?_
                  refine r_d rfl rfl rfl (s_move rfl rfl) ?_
                  refine r_skip rfl rfl rfl ?_
                  refine r_skip rfl rfl rfl ?_
                  refine r_skip rfl rfl rfl ?_
                  refine r_skip rfl rfl rfl ?_
                  refine r_skip rfl rfl rfl ?_
                  refine r_skip rfl rfl rfl ?_
                  refine r_skip rfl rfl rfl ?_
                  refine r_skip rfl rfl rfl ?_
                  refine r_d rfl rfl rfl (s_pickF rfl rfl rfl) ?_
                  refine r_end ?_
                  refine g_condF rfl ?_
                  refine g_skip ?_
                  refine g_inBlock ?_
                  refine g_run (by kernel_rfl) [(0, .d), (1, .d), (2, .d)] rfl ?_
                  refine r_d rfl rfl rfl (s_move rfl rfl) ?_
                  refine r_d rfl rfl rfl (s_ar (r := ((i_24 + 1 : Nat) : Int)) rfl rfl rfl (by simp [iar]) (by omega)) ?_
                  refine r_d rfl rfl rfl (s_assign rfl rfl) ?_
                  refine r_end ?_
                  refine g_sub [(0, .lst (ranks_a0.map enc_S_api_Rank)), (3, .ptr (enc_S_api_Rule r_a1)), (7, .own u_21 (head_19.map (D.int .i64))), (8, .own u_22 (ones_23.map (D.int .i64))), (11, .int .i64 ((i_24 + 1 : Nat) : Int))] (Sub.cons' rfl (Sub.cons' rfl (Sub.cons' rfl (Sub.cons' rfl (Sub.cons' rfl (Sub.nil _)))))) ?_
                  exact IH3 _ _ _ (by omega) ⟨ones_23, (i_24 + 1), u_21, u_22, rfl, rfl, rfl, (by omega), hr⟩
              ·
                refine r_skip rfl rfl rfl ?_
                refine r_skip rfl rfl rfl ?_
                refine r_skip rfl rfl rfl ?_
                refine r_skip rfl rfl rfl ?_
                refine r_d rfl rfl rfl (s_pickF rfl rfl rfl) ?_
                refine r_d rfl rfl rfl (s_move rfl rfl) ?_
                refine r_skip rfl rfl rfl ?_
                refine r_skip rfl rfl rfl ?_
                refine r_skip rfl rfl rfl ?_
                refine r_skip rfl rfl rfl ?_
                refine r_skip rfl rfl rfl ?_
                refine r_skip rfl rfl rfl ?_
                refine r_d rfl rfl rfl (s_pickF rfl rfl rfl) ?_
                refine r_d rfl rfl rfl (s_move rfl rfl) ?_
                refine r_skip rfl rfl rfl ?_
                refine r_skip rfl rfl rfl ?_
                refine r_skip rfl rfl rfl ?_
                refine r_skip rfl rfl rfl ?_
                refine r_skip rfl rfl rfl ?_
                refine r_skip rfl rfl rfl ?_
                refine r_skip rfl rfl rfl ?_
                refine r_skip rfl rfl rfl ?_
                refine r_d rfl rfl rfl (s_pickF rfl rfl rfl) ?_
                refine r_end ?_
                refine g_condF rfl ?_
                refine g_skip ?_
                refine g_inBlock ?_
                refine g_run (by kernel_rfl) [(0, .d), (1, .d), (2, .d)] rfl ?_
                refine r_d rfl rfl rfl (s_move rfl rfl) ?_
                refine r_d rfl rfl rfl (s_ar (r := ((i_24 + 1 : Nat) : Int)) rfl rfl rfl (by simp [iar]) (by omega)) ?_
                refine r_d rfl rfl rfl (s_assign rfl rfl) ?_
                refine r_end ?_
                refine g_sub [(0, .lst (ranks_a0.map enc_S_api_Rank)), (3, .ptr (enc_S_api_Rule r_a1)), (7, .own u_21 (head_19.map (D.int .i64))), (8, .own u_22 (ones_23.map (D.int .i64))), (11, .int .i64 ((i_24 + 1 : Nat) : Int))] (Sub.cons' rfl (Sub.cons' rfl (Sub.cons' rfl (Sub.cons' rfl (Sub.cons' rfl (Sub.nil _)))))) ?_
                exact IH3 _ _ _ (by omega) ⟨ones_23, (i_24 + 1), u_21, u_22, rfl, rfl, rfl, (by omega), hr⟩
        ·
          refine g_sub [(0, .lst (ranks_a0.map enc_S_api_Rank)), (3, .ptr (enc_S_api_Rule r_a1)), (8, .own u_13 ([].map (D.int .i64))), (7, .own u_11 (head_12.map (D.int .i64))), (10, .int .i64 ((0 : Nat) : Int))] (Sub.cons' rfl (Sub.cons' rfl (Sub.cons' rfl (Sub.cons' rfl (Sub.cons' rfl (Sub.nil _)))))) ?_
          refine g_perm [_, _] _ ((pf0 _).trans (pf1 _ _ _)) ?_
          refine g_loop (fun n env σ => ∃ (head_16 : (List Int)) (i_17 : Nat) (u_14 : Value) (u_15 : Value), (n = r_a1.f2_Remove.length - i_17) ∧ (env = [(0, .lst (ranks_a0.map enc_S_api_Rank)), (3, .ptr (enc_S_api_Rule r_a1)), (8, .own u_14 ([].map (D.int .i64))), (7, .own u_15 (head_16.map (D.int .i64))), (10, .int .i64 (i_17 : Int))]) ∧ (σ = [.row u_14 ([] : (List Int)).length 3 1, .row u_15 head_16.length 3 1]) ∧ (i_17 ≤ r_a1.f2_Remove.length) ∧ (lf_constraintref41_Decreases_L2 kk2 fuel (r_a1.f2_Remove.drop i_17) head_16 = some res)) _ ⟨head_12, 0, u_13, u_11, rfl, rfl, rfl, Nat.zero_le _, hr⟩ ?_
          rintro n _ _ ⟨head_16, i_17, u_14, u_15, rfl, rfl, rfl, hi2, hr⟩ IH2
          rcases listStep r_a1.f2_Remove i_17 hi2 with ⟨ht2, hd2, he2⟩ | ⟨q_101, ht2, hd2, hq2, hlt2⟩
          ·
            rw [hd2, lf_constraintref41_Decreases_L2] at hr
            refine g_seq ?_
            refine g_seq ?_
            refine g_run (by kernel_rfl) [(0, .d), (1, .d), (2, .d), (3, .d), (4, .d)] rfl ?_
            refine r_d rfl rfl rfl (s_move rfl rfl) ?_
            refine r_d rfl rfl rfl (s_fieldAddr rfl fl_api_Rule_2 rfl rfl rfl rfl) ?_
            refine r_d rfl rfl rfl (s_load rfl rfl (by exact ty_L_api_Atom) rfl) ?_
            refine r_d rfl rfl rfl (m_len (f := encA) r_a1.f2_Remove rfl el_L_api_Atom rfl (asl rfl)) ?_
            refine r_d rfl rfl rfl (s_cmp rfl rfl rfl rfl) ?_
            refine r_end ?_
            refine g_known 69 false rfl ht2 ?_
            refine g_condF rfl ?_
            refine g_exit rfl ?_
            refine g_sub [(0, .lst (ranks_a0.map enc_S_api_Rank)), (3, .ptr (enc_S_api_Rule r_a1)), (7, .own u_15 (head_16.map (D.int .i64))), (8, .own u_14 ([].map (D.int .i64)))] (Sub.cons' rfl (Sub.cons' rfl (Sub.cons' rfl (Sub.cons' rfl (Sub.nil _))))) ?_
            refine g_perm [_, _] _ ((pf0 _).trans (pf1 _ _ _)) ?_
            exact HK2 _ _ ⟨head_16, u_15, u_14, rfl, rfl, hr⟩
          ·
            rw [hd2, lf_constraintref41_Decreases_L2] at hr
            refine g_seq ?_
            refine g_seq ?_
            refine g_run (by kernel_rfl) [(0, .d), (1, .d), (2, .d), (3, .d), (4, .d)] rfl ?_
            refine r_d rfl rfl rfl (s_move rfl rfl) ?_
            refine r_d rfl rfl rfl (s_fieldAddr rfl fl_api_Rule_2 rfl rfl rfl rfl) ?_
            refine r_d rfl rfl rfl (s_load rfl rfl (by exact ty_L_api_Atom) rfl) ?_
            refine r_d rfl rfl rfl (m_len (f := encA) r_a1.f2_Remove rfl el_L_api_Atom rfl (asl rfl)) ?_
            refine r_d rfl rfl rfl (s_cmp rfl rfl rfl rfl) ?_
            refine r_end ?_
            refine g_known 69 true rfl ht2 ?_
            refine g_condT rfl ?_
            refine g_skip ?_
            refine g_seq ?_
            refine g_block ?_
            refine g_run (by kernel_rfl) [(0, .d), (1, .d), (2, .d), (3, .d), (4, .d), (5, .d), (6, .d), (7, .w), (8, .d)] rfl ?_
            refine r_d rfl rfl rfl (s_move rfl rfl) ?_
            refine r_d rfl rfl rfl (s_fieldAddr rfl fl_api_Rule_2 rfl rfl rfl rfl) ?_
            refine r_d rfl rfl rfl (s_load rfl rfl (by exact ty_L_api_Atom) rfl) ?_
            refine r_d rfl rfl rfl (s_move rfl rfl) ?_
            refine r_d rfl rfl rfl (m_index (f := encA) r_a1.f2_Remove rfl el_L_api_Atom rfl (asl rfl) rfl hq2 sz_encA rfl) ?_
            refine r_d rfl rfl rfl (s_load rfl rfl (by exact ty_api_Atom) (sz_encA _)) ?_
            obtain ⟨r_102, hr_102, hr⟩ := bindS hr
            refine r_d rfl rfl rfl (s_callD rfl cl_constraintref03_AtomVars (.cons rfl (Wk.refl _) .nil) (lg_constraintref03_AtomVars fuel _ _ hr_102)) ?_
            obtain ⟨l_103, hl_103, hr⟩ := bindS hr
            refine r_w rfl rfl rfl (m_appOwn (f := (D.int .i64)) head_16 r_102 rfl el_L_int rfl rfl (asl rfl) (pf1 _ _ _) rfl (fun _ => rfl) hl_103) ?_
            rintro _ _ ⟨u79_103, rfl, rfl⟩
            refine r_d rfl rfl rfl (s_assign rfl rfl) ?_
            refine r_end ?_
            refine g_inBlock ?_
            refine g_run (by kernel_rfl) [(0, .d), (1, .d), (2, .d)] rfl ?_
            refine r_d rfl rfl rfl (s_move rfl rfl) ?_
            refine r_d rfl rfl rfl (s_ar (r := ((i_17 + 1 : Nat) : Int)) rfl rfl rfl (by simp [iar]) (by omega)) ?_
            refine r_d rfl rfl rfl (s_assign rfl rfl) ?_
            refine r_end ?_
            refine g_sub [(0, .lst (ranks_a0.map enc_S_api_Rank)), (3, .ptr (enc_S_api_Rule r_a1)), (8, .own u_14 ([].map (D.int .i64))), (7, .own u79_103 (l_103.map (D.int .i64))), (10, .int .i64 ((i_17 + 1 : Nat) : Int))] (Sub.cons' rfl (Sub.cons' rfl (Sub.cons' rfl (Sub.cons' rfl (Sub.cons' rfl (Sub.nil _)))))) ?_
            refine g_perm [_, _] _ ((pf0 _).trans (pf1 _ _ _)) ?_
            exact IH2 _ _ _ (by omega) ⟨l_103, (i_17 + 1), u_14, u79_103, rfl, rfl, rfl, (by omega), hr⟩
      ·
        refine g_sub [(0, .lst (ranks_a0.map enc_S_api_Rank)), (3, .ptr (enc_S_api_Rule r_a1)), (8, .own u8_5 ([].map (D.int .i64))), (7, .own u7_4 ([].map (D.int .i64))), (9, .int .i64 ((0 : Nat) : Int))] (Sub.cons' rfl (Sub.cons' rfl (Sub.cons' rfl (Sub.cons' rfl (Sub.cons' rfl (Sub.nil _)))))) ?_
        refine g_loop (fun n env σ => ∃ (head_9 : (List Int)) (i_10 : Nat) (u_7 : Value) (u_8 : Value), (n = r_a1.f1_Keep.length - i_10) ∧ (env = [(0, .lst (ranks_a0.map enc_S_api_Rank)), (3, .ptr (enc_S_api_Rule r_a1)), (8, .own u_7 ([].map (D.int .i64))), (7, .own u_8 (head_9.map (D.int .i64))), (9, .int .i64 (i_10 : Int))]) ∧ (σ = [.row u_7 ([] : (List Int)).length 3 1, .row u_8 head_9.length 3 1]) ∧ (i_10 ≤ r_a1.f1_Keep.length) ∧ (lf_constraintref41_Decreases_L1 kk1 fuel (r_a1.f1_Keep.drop i_10) head_9 = some res)) _ ⟨[], 0, u8_5, u7_4, rfl, rfl, rfl, Nat.zero_le _, hr⟩ ?_
        rintro n _ _ ⟨head_9, i_10, u_7, u_8, rfl, rfl, rfl, hi1, hr⟩ IH1
        rcases listStep r_a1.f1_Keep i_10 hi1 with ⟨ht1, hd1, he1⟩ | ⟨q_105, ht1, hd1, hq1, hlt1⟩
        ·
          rw [hd1, lf_constraintref41_Decreases_L1] at hr
          refine g_seq ?_
          refine g_seq ?_
          refine g_run (by kernel_rfl) [(0, .d), (1, .d), (2, .d), (3, .d), (4, .d)] rfl ?_
          refine r_d rfl rfl rfl (s_move rfl rfl) ?_
          refine r_d rfl rfl rfl (s_fieldAddr rfl fl_api_Rule_1 rfl rfl rfl rfl) ?_
          refine r_d rfl rfl rfl (s_load rfl rfl (by exact ty_L_api_Atom) rfl) ?_
          refine r_d rfl rfl rfl (m_len (f := encA) r_a1.f1_Keep rfl el_L_api_Atom rfl (asl rfl)) ?_
          refine r_d rfl rfl rfl (s_cmp rfl rfl rfl rfl) ?_
          refine r_end ?_
          refine g_known 54 false rfl ht1 ?_
          refine g_condF rfl ?_
          refine g_exit rfl ?_
          refine g_sub [(0, .lst (ranks_a0.map enc_S_api_Rank)), (3, .ptr (enc_S_api_Rule r_a1)), (7, .own u_8 (head_9.map (D.int .i64))), (8, .own u_7 ([].map (D.int .i64)))] (Sub.cons' rfl (Sub.cons' rfl (Sub.cons' rfl (Sub.cons' rfl (Sub.nil _))))) ?_
          refine g_perm [_, _] _ ((pf0 _).trans (pf1 _ _ _)) ?_
          exact HK1 _ _ ⟨head_9, u_8, u_7, rfl, rfl, hr⟩
        ·
          rw [hd1, lf_constraintref41_Decreases_L1] at hr
          refine g_seq ?_
          refine g_seq ?_
          refine g_run (by kernel_rfl) [(0, .d), (1, .d), (2, .d), (3, .d), (4, .d)] rfl ?_
          refine r_d rfl rfl rfl (s_move rfl rfl) ?_
          refine r_d rfl rfl rfl (s_fieldAddr rfl fl_api_Rule_1 rfl rfl rfl rfl) ?_
          refine r_d rfl rfl rfl (s_load rfl rfl (by exact ty_L_api_Atom) rfl) ?_
          refine r_d rfl rfl rfl (m_len (f := encA) r_a1.f1_Keep rfl el_L_api_Atom rfl (asl rfl)) ?_
          refine r_d rfl rfl rfl (s_cmp rfl rfl rfl rfl) ?_
          refine r_end ?_
          refine g_known 54 true rfl ht1 ?_
          refine g_condT rfl ?_
          refine g_skip ?_
          refine g_seq ?_
          refine g_block ?_
          refine g_run (by kernel_rfl) [(0, .d), (1, .d), (2, .d), (3, .d), (4, .d), (5, .d), (6, .d), (7, .w), (8, .d)] rfl ?_
          refine r_d rfl rfl rfl (s_move rfl rfl) ?_
          refine r_d rfl rfl rfl (s_fieldAddr rfl fl_api_Rule_1 rfl rfl rfl rfl) ?_
          refine r_d rfl rfl rfl (s_load rfl rfl (by exact ty_L_api_Atom) rfl) ?_
          refine r_d rfl rfl rfl (s_move rfl rfl) ?_
          refine r_d rfl rfl rfl (m_index (f := encA) r_a1.f1_Keep rfl el_L_api_Atom rfl (asl rfl) rfl hq1 sz_encA rfl) ?_
          refine r_d rfl rfl rfl (s_load rfl rfl (by exact ty_api_Atom) (sz_encA _)) ?_
          obtain ⟨r_106, hr_106, hr⟩ := bindS hr
          refine r_d rfl rfl rfl (s_callD rfl cl_constraintref03_AtomVars (.cons rfl (Wk.refl _) .nil) (lg_constraintref03_AtomVars fuel _ _ hr_106)) ?_
          obtain ⟨l_107, hl_107, hr⟩ := bindS hr
          refine r_w rfl rfl rfl (m_appOwn (f := (D.int .i64)) head_9 r_106 rfl el_L_int rfl rfl (asl rfl) (pf1 _ _ _) rfl (fun _ => rfl) hl_107) ?_
          rintro _ _ ⟨u64_107, rfl, rfl⟩
          refine r_d rfl rfl rfl (s_assign rfl rfl) ?_
          refine r_end ?_
          refine g_inBlock ?_
          refine g_run (by kernel_rfl) [(0, .d), (1, .d), (2, .d)] rfl ?_
          refine r_d rfl rfl rfl (s_move rfl rfl) ?_
          refine r_d rfl rfl rfl (s_ar (r := ((i_10 + 1 : Nat) : Int)) rfl rfl rfl (by simp [iar]) (by omega)) ?_
          refine r_d rfl rfl rfl (s_assign rfl rfl) ?_
          refine r_end ?_
          refine g_sub [(0, .lst (ranks_a0.map enc_S_api_Rank)), (3, .ptr (enc_S_api_Rule r_a1)), (8, .own u_7 ([].map (D.int .i64))), (7, .own u64_107 (l_107.map (D.int .i64))), (9, .int .i64 ((i_10 + 1 : Nat) : Int))] (Sub.cons' rfl (Sub.cons' rfl (Sub.cons' rfl (Sub.cons' rfl (Sub.cons' rfl (Sub.nil _)))))) ?_
          refine g_perm [_, _] _ ((pf0 _).trans (pf1 _ _ _)) ?_
          exact IH1 _ _ _ (by omega) ⟨l_107, (i_10 + 1), u_7, u64_107, rfl, rfl, rfl, (by omega), hr⟩
  ·
    refine g_sub [(0, .lst (ranks_a0.map enc_S_api_Rank)), (3, .ptr (enc_S_api_Rule r_a1)), (5, .int .i64 0), (6, .int .i64 ((0 : Nat) : Int))] (Sub.cons' rfl (Sub.cons' rfl (Sub.cons' rfl (Sub.cons' rfl (Sub.nil _))))) ?_
    refine g_loop (fun n env σ => ∃ (calls_1 : Int) (i_2 : Nat), (n = r_a1.f4_Body.length - i_2) ∧ (env = [(0, .lst (ranks_a0.map enc_S_api_Rank)), (3, .ptr (enc_S_api_Rule r_a1)), (5, .int .i64 calls_1), (6, .int .i64 (i_2 : Int))]) ∧ (σ = []) ∧ (i_2 ≤ r_a1.f4_Body.length) ∧ (lf_constraintref41_Decreases_L0 kk0 (r_a1.f4_Body.drop i_2) calls_1 = some res)) _ ⟨0, 0, rfl, rfl, rfl, Nat.zero_le _, hr⟩ ?_
    rintro n _ _ ⟨calls_1, i_2, rfl, rfl, rfl, hi0, hr⟩ IH0
    rcases listStep r_a1.f4_Body i_2 hi0 with ⟨ht0, hd0, he0⟩ | ⟨q_109, ht0, hd0, hq0, hlt0⟩
    ·
      rw [hd0, lf_constraintref41_Decreases_L0] at hr
      refine g_seq ?_
      refine g_seq ?_
      refine g_run (by kernel_rfl) [(0, .d), (1, .d), (2, .d), (3, .d), (4, .d)] rfl ?_
      refine r_d rfl rfl rfl (s_move rfl rfl) ?_
      refine r_d rfl rfl rfl (s_fieldAddr rfl fl_api_Rule_4 rfl rfl rfl rfl) ?_
      refine r_d rfl rfl rfl (s_load rfl rfl (by exact ty_L_api_Goal) rfl) ?_
      refine r_d rfl rfl rfl (m_len (f := encG) r_a1.f4_Body rfl el_L_api_Goal rfl (asl rfl)) ?_
      refine r_d rfl rfl rfl (s_cmp rfl rfl rfl rfl) ?_
      refine r_end ?_
      refine g_known 25 false rfl ht0 ?_
      refine g_condF rfl ?_
      refine g_exit rfl ?_
      refine g_sub [(0, .lst (ranks_a0.map enc_S_api_Rank)), (3, .ptr (enc_S_api_Rule r_a1)), (5, .int .i64 calls_1)] (Sub.cons' rfl (Sub.cons' rfl (Sub.cons' rfl (Sub.nil _)))) ?_
      exact HK0 _ _ ⟨calls_1, rfl, rfl, hr⟩
    ·
      rw [hd0, lf_constraintref41_Decreases_L0] at hr
      refine g_seq ?_
      refine g_seq ?_
      refine g_run (by kernel_rfl) [(0, .d), (1, .d), (2, .d), (3, .d), (4, .d)] rfl ?_
      refine r_d rfl rfl rfl (s_move rfl rfl) ?_
      refine r_d rfl rfl rfl (s_fieldAddr rfl fl_api_Rule_4 rfl rfl rfl rfl) ?_
      refine r_d rfl rfl rfl (s_load rfl rfl (by exact ty_L_api_Goal) rfl) ?_
      refine r_d rfl rfl rfl (m_len (f := encG) r_a1.f4_Body rfl el_L_api_Goal rfl (asl rfl)) ?_
      refine r_d rfl rfl rfl (s_cmp rfl rfl rfl rfl) ?_
      refine r_end ?_
      refine g_known 25 true rfl ht0 ?_
      refine g_condT rfl ?_
      refine g_skip ?_
      refine g_seq ?_
      refine g_block ?_
      refine g_seq ?_
      refine g_seq ?_
      refine g_run (by kernel_rfl) [(0, .d), (1, .d), (2, .d), (3, .d), (4, .d), (5, .d), (6, .d)] rfl ?_
      refine r_d rfl rfl rfl (s_fieldAddr rfl fl_api_Rule_4 rfl rfl rfl rfl) ?_
      refine r_d rfl rfl rfl (s_load rfl rfl (by exact ty_L_api_Goal) rfl) ?_
      refine r_d rfl rfl rfl (s_move rfl rfl) ?_
      refine r_d rfl rfl rfl (m_index (f := encG) r_a1.f4_Body rfl el_L_api_Goal rfl (asl rfl) rfl hq0 sz_encG rfl) ?_
      refine r_d rfl rfl rfl (s_fieldAddr rfl fl_api_Goal_0 rfl rfl rfl rfl) ?_
      refine r_d rfl rfl rfl (s_load rfl rfl (by exact ty_int) rfl) ?_
      refine r_d rfl rfl rfl (s_cmp rfl rfl rfl rfl) ?_
      refine r_end ?_
      refine g_sB 34 rfl hr (fun h34_109 hr => ?_) (fun h34_109 hr => ?_)
      ·
        refine g_condT rfl ?_
        refine g_seq ?_
        refine g_run (by kernel_rfl) [(0, .d)] rfl ?_
        refine r_d rfl rfl rfl (s_assign rfl rfl) ?_
        refine r_end ?_
        obtain rfl := Option.some.inj hr
        refine g_ret Try.func37 _ (.cons (resTmp rfl (Wk.refl _)) .nil) ?_
        rfl
      ·
        refine g_condF rfl ?_
        refine g_skip ?_
        refine g_seq ?_
        refine g_run (by kernel_rfl) [(0, .d), (1, .d), (2, .d), (3, .d), (4, .d), (5, .d), (6, .d)] rfl ?_
        refine r_d rfl rfl rfl (s_fieldAddr rfl fl_api_Rule_4 rfl rfl rfl rfl) ?_
        refine r_d rfl rfl rfl (s_load rfl rfl (by exact ty_L_api_Goal) rfl) ?_
        refine r_d rfl rfl rfl (s_move rfl rfl) ?_
        refine r_d rfl rfl rfl (m_index (f := encG) r_a1.f4_Body rfl el_L_api_Goal rfl (asl rfl) rfl hq0 sz_encG rfl) ?_
        refine r_d rfl rfl rfl (s_fieldAddr rfl fl_api_Goal_0 rfl rfl rfl rfl) ?_
        refine r_d rfl rfl rfl (s_load rfl rfl (by exact ty_int) rfl) ?_
        refine r_d rfl rfl rfl (s_cmp rfl rfl rfl rfl) ?_
        refine r_end ?_
        refine g_sB 41 rfl hr (fun h41_110 hr => ?_) (fun h41_110 hr => ?_)
        ·
          refine g_condT rfl ?_
          refine g_run (by kernel_rfl) [(0, .d), (1, .d), (2, .d)] rfl ?_
          refine r_d rfl rfl rfl (s_move rfl rfl) ?_
          refine r_d rfl rfl rfl (s_arW rfl rfl rfl rfl) ?_
          refine r_d rfl rfl rfl (s_assign rfl rfl) ?_
          refine r_end ?_
          refine g_inBlock ?_
          refine g_run (by kernel_rfl) [(0, .d), (1, .d), (2, .d)] rfl ?_
          refine r_d rfl rfl rfl (s_move rfl rfl) ?_
          refine r_d rfl rfl rfl (s_ar (r := ((i_2 + 1 : Nat) : Int)) rfl rfl rfl (by simp [iar]) (by omega)) ?_
          refine r_d rfl rfl rfl (s_assign rfl rfl) ?_
          refine r_end ?_
          refine g_sub [(0, .lst (ranks_a0.map enc_S_api_Rank)), (3, .ptr (enc_S_api_Rule r_a1)), (5, .int .i64 (wr (calls_1 + (1 : Int)))), (6, .int .i64 ((i_2 + 1 : Nat) : Int))] (Sub.cons' rfl (Sub.cons' rfl (Sub.cons' rfl (Sub.cons' rfl (Sub.nil _))))) ?_
          exact IH0 _ _ _ (by omega) ⟨(wr (calls_1 + (1 : Int))), (i_2 + 1), rfl, rfl, rfl, (by omega), hr⟩
        ·
          refine g_condF rfl ?_
          refine g_skip ?_
          refine g_inBlock ?_
          refine g_run (by kernel_rfl) [(0, .d), (1, .d), (2, .d)] rfl ?_
          refine r_d rfl rfl rfl (s_move rfl rfl) ?_
          refine r_d rfl rfl rfl (s_ar (r := ((i_2 + 1 : Nat) : Int)) rfl rfl rfl (by simp [iar]) (by omega)) ?_
          refine r_d rfl rfl rfl (s_assign rfl rfl) ?_
          refine r_end ?_
          refine g_sub [(0, .lst (ranks_a0.map enc_S_api_Rank)), (3, .ptr (enc_S_api_Rule r_a1)), (5, .int .i64 calls_1), (6, .int .i64 ((i_2 + 1 : Nat) : Int))] (Sub.cons' rfl (Sub.cons' rfl (Sub.cons' rfl (Sub.cons' rfl (Sub.nil _))))) ?_
          exact IH0 _ _ _ (by omega) ⟨calls_1, (i_2 + 1), rfl, rfl, rfl, (by omega), hr⟩

noncomputable def lf_constraintref41_Check_L1 (k : Option (Int)) (fuel : Nat) (ranks_a1 : (List S_api_Rank)) : List S_api_Rule → Option (Int)
  | [] =>
  k
  | q_5 :: rest =>
  ((lf_constraintref41_Decreases fuel ranks_a1 q_5).bind fun r_6 =>
  (bif (!r_6) then
  some (19)
  else
  (lf_constraintref41_Check_L1 k fuel ranks_a1 rest)))

noncomputable def lf_constraintref41_Check_L0 (k : Option (Int)) (ranks_a1 : (List S_api_Rank)) : List S_api_Decl → Option (Int)
  | [] =>
  k
  | q_8 :: rest =>
  ((lf_constraintref41_find ranks_a1 q_8.f0_Name q_8.f1_Arity).bind fun r_9 =>
  (bif (!r_9.2) then
  some (13)
  else
  (lf_constraintref41_Check_L0 k ranks_a1 rest)))
noncomputable def lf_constraintref41_Check (fuel : Nat) (p_a0 : S_api_Program) (ranks_a1 : (List S_api_Rank)) : Option (Int) :=
  ((lf_constraintref41_valid ranks_a1).bind fun r_1 =>
  (bif (!r_1) then
  some (2)
  else
  (lf_constraintref41_Check_L0 ((lf_constraintref41_Check_L1 (some (0)) fuel ranks_a1 p_a0.f1_Rules)) ranks_a1 p_a0.f0_Decls)))

set_option maxHeartbeats 1000000 in
theorem lg_constraintref41_Check (fuel : Nat) (p_a0 : S_api_Program) (ranks_a1 : (List S_api_Rank)) (res : Int) (hr : lf_constraintref41_Check fuel p_a0 ranks_a1 = some res) : Gives Try.prog 24 [enc_S_api_Program p_a0, .lst (ranks_a1.map enc_S_api_Rank)] (.int .i64 res) := by
  unfold lf_constraintref41_Check at hr
  refine spec_env [(0, enc_S_api_Program p_a0), (1, .lst (ranks_a1.map enc_S_api_Rank))] Try.func24 rfl rfl fun K hK => ?_
  refine g_seq ?_
  refine g_run (by kernel_rfl) [(0, .d), (1, .d)] rfl ?_
  refine r_d rfl rfl rfl (s_box rfl rfl rfl) ?_
  refine r_d rfl rfl rfl (s_assign rfl rfl) ?_
  refine r_end ?_
  refine g_seq ?_
  refine g_seq ?_
  refine g_run (by kernel_rfl) [(0, .d), (1, .d), (2, .d)] rfl ?_
  refine r_d rfl rfl rfl (s_move rfl rfl) ?_
  obtain ⟨r_1, hr_1, hr⟩ := bindS hr
  refine r_d rfl rfl rfl (s_callD rfl cl_constraintref41_valid (.cons rfl (Wk.refl _) .nil) (lg_constraintref41_valid _ _ hr_1)) ?_
  refine r_d rfl rfl rfl (s_not rfl rfl) ?_
  refine r_end ?_
  refine g_sB 11 rfl hr (fun h11_1 hr => ?_) (fun h11_1 hr => ?_)
  ·
    refine g_condT rfl ?_
    refine g_seq ?_
    refine g_run (by kernel_rfl) [(0, .d)] rfl ?_
    refine r_d rfl rfl rfl (s_assign rfl rfl) ?_
    refine r_end ?_
    obtain rfl := Option.some.inj hr
    refine g_ret Try.func24 _ (.cons (resTmp rfl (Wk.refl _)) .nil) ?_
    rfl
  ·
    refine g_condF rfl ?_
    refine g_skip ?_
    refine g_seq ?_
    refine g_seq ?_
    refine g_run (by kernel_rfl) [(0, .d)] rfl ?_
    refine r_d rfl rfl rfl (s_assign rfl rfl) ?_
    refine r_end ?_
    obtain ⟨kk0, hkk0, hr⟩ := exK (fun k => lf_constraintref41_Check_L0 k ranks_a1 p_a0.f0_Decls) hr
    refine g_lenS 0 [0] (l := p_a0.f0_Decls.map enc_S_api_Decl) rfl rfl (asl rfl) fun hla0 => ?_
    simp only [List.length_map] at hla0
    refine g_blockJ (fun env σ => env = [(1, .lst (ranks_a1.map enc_S_api_Rank)), (2, .ptr (enc_S_api_Program p_a0))] ∧ σ = [] ∧ kk0 = some res) ?_ (fun HK0 => ?_)
    ·
      rintro _ _ ⟨rfl, rfl, hr⟩
      rw [hkk0] at hr
      refine g_seq ?_
      refine g_seq ?_
      refine g_run (by kernel_rfl) [(0, .d)] rfl ?_
      refine r_d rfl rfl rfl (s_assign rfl rfl) ?_
      refine r_end ?_
      obtain ⟨kk1, hkk1, hr⟩ := exK (fun k => lf_constraintref41_Check_L1 k fuel ranks_a1 p_a0.f1_Rules) hr
      refine g_lenP 2 [1] (l := p_a0.f1_Rules.map enc_S_api_Rule) rfl rfl (asl rfl) fun hla1 => ?_
      simp only [List.length_map] at hla1
      refine g_blockJ (fun env σ => env = [] ∧ σ = [] ∧ kk1 = some res) ?_ (fun HK1 => ?_)
      ·
        rintro _ _ ⟨rfl, rfl, hr⟩
        rw [hkk1] at hr
        refine g_seq ?_
        refine g_run (by kernel_rfl) [(0, .d)] rfl ?_
        refine r_d rfl rfl rfl (s_assign rfl rfl) ?_
        refine r_end ?_
        obtain rfl := Option.some.inj hr
        refine g_ret Try.func24 _ (.cons (resTmp rfl (Wk.refl _)) .nil) ?_
        rfl
      ·
        refine g_sub [(1, .lst (ranks_a1.map enc_S_api_Rank)), (2, .ptr (enc_S_api_Program p_a0)), (8, .int .i64 ((0 : Nat) : Int))] (Sub.cons' rfl (Sub.cons' rfl (Sub.cons' rfl (Sub.nil _)))) ?_
        refine g_loop (fun n env σ => ∃ (i_4 : Nat), (n = p_a0.f1_Rules.length - i_4) ∧ (env = [(1, .lst (ranks_a1.map enc_S_api_Rank)), (2, .ptr (enc_S_api_Program p_a0)), (8, .int .i64 (i_4 : Int))]) ∧ (σ = []) ∧ (i_4 ≤ p_a0.f1_Rules.length) ∧ (lf_constraintref41_Check_L1 kk1 fuel ranks_a1 (p_a0.f1_Rules.drop i_4) = some res)) _ ⟨0, rfl, rfl, rfl, Nat.zero_le _, hr⟩ ?_
        rintro n _ _ ⟨i_4, rfl, rfl, rfl, hi1, hr⟩ IH1
        rcases listStep p_a0.f1_Rules i_4 hi1 with ⟨ht1, hd1, he1⟩ | ⟨q_5, ht1, hd1, hq1, hlt1⟩
        ·
          rw [hd1, lf_constraintref41_Check_L1] at hr
          refine g_seq ?_
          refine g_seq ?_
          refine g_run (by kernel_rfl) [(0, .d), (1, .d), (2, .d), (3, .d), (4, .d)] rfl ?_
          refine r_d rfl rfl rfl (s_move rfl rfl) ?_
          refine r_d rfl rfl rfl (s_fieldAddr rfl fl_api_Program_1 rfl rfl rfl rfl) ?_
          refine r_d rfl rfl rfl (s_load rfl rfl (by exact ty_L_api_Rule) rfl) ?_
          refine r_d rfl rfl rfl (m_len (f := enc_S_api_Rule) p_a0.f1_Rules rfl el_L_api_Rule rfl (asl rfl)) ?_
          refine r_d rfl rfl rfl (s_cmp rfl rfl rfl rfl) ?_
          refine r_end ?_
          refine g_known 42 false rfl ht1 ?_
          refine g_condF rfl ?_
          refine g_exit rfl ?_
          refine g_sub [] (Sub.nil _) ?_
          exact HK1 _ _ ⟨rfl, rfl, hr⟩
        ·
          rw [hd1, lf_constraintref41_Check_L1] at hr
          refine g_seq ?_
          refine g_seq ?_
          refine g_run (by kernel_rfl) [(0, .d), (1, .d), (2, .d), (3, .d), (4, .d)] rfl ?_
          refine r_d rfl rfl rfl (s_move rfl rfl) ?_
          refine r_d rfl rfl rfl (s_fieldAddr rfl fl_api_Program_1 rfl rfl rfl rfl) ?_
          refine r_d rfl rfl rfl (s_load rfl rfl (by exact ty_L_api_Rule) rfl) ?_
          refine r_d rfl rfl rfl (m_len (f := enc_S_api_Rule) p_a0.f1_Rules rfl el_L_api_Rule rfl (asl rfl)) ?_
          refine r_d rfl rfl rfl (s_cmp rfl rfl rfl rfl) ?_
          refine r_end ?_
          refine g_known 42 true rfl ht1 ?_
          refine g_condT rfl ?_
          refine g_skip ?_
          refine g_seq ?_
          refine g_block ?_
          refine g_seq ?_
          refine g_run (by kernel_rfl) [(0, .d), (1, .d), (2, .d), (3, .d), (4, .d), (5, .d), (6, .d), (7, .d)] rfl ?_
          refine r_d rfl rfl rfl (s_move rfl rfl) ?_
          refine r_d rfl rfl rfl (s_fieldAddr rfl fl_api_Program_1 rfl rfl rfl rfl) ?_
          refine r_d rfl rfl rfl (s_load rfl rfl (by exact ty_L_api_Rule) rfl) ?_
          refine r_d rfl rfl rfl (s_move rfl rfl) ?_
          refine r_d rfl rfl rfl (m_index (f := enc_S_api_Rule) p_a0.f1_Rules rfl el_L_api_Rule rfl (asl rfl) rfl hq1 sz_S_api_Rule rfl) ?_
          refine r_d rfl rfl rfl (s_load rfl rfl (by exact ty_api_Rule) (sz_S_api_Rule _)) ?_
          obtain ⟨r_6, hr_6, hr⟩ := bindS hr
          refine r_d rfl rfl rfl (s_callD rfl cl_constraintref41_Decreases (.cons rfl (Wk.refl _) (.cons rfl (Wk.refl _) .nil)) (lg_constraintref41_Decreases fuel _ _ _ hr_6)) ?_
          refine r_d rfl rfl rfl (s_not rfl rfl) ?_
          refine r_end ?_
          refine g_sB 52 rfl hr (fun h52_6 hr => ?_) (fun h52_6 hr => ?_)
          ·
            refine g_condT rfl ?_
            refine g_seq ?_
            refine g_run (by kernel_rfl) [(0, .d)] rfl ?_
            refine r_d rfl rfl rfl (s_assign rfl rfl) ?_
            refine r_end ?_
            obtain rfl := Option.some.inj hr
            refine g_ret Try.func24 _ (.cons (resTmp rfl (Wk.refl _)) .nil) ?_
            rfl
          ·
            refine g_condF rfl ?_
            refine g_skip ?_
            refine g_inBlock ?_
            refine g_run (by kernel_rfl) [(0, .d), (1, .d), (2, .d)] rfl ?_
            refine r_d rfl rfl rfl (s_move rfl rfl) ?_
            refine r_d rfl rfl rfl (s_ar (r := ((i_4 + 1 : Nat) : Int)) rfl rfl rfl (by simp [iar]) (by omega)) ?_
            refine r_d rfl rfl rfl (s_assign rfl rfl) ?_
            refine r_end ?_
            refine g_sub [(1, .lst (ranks_a1.map enc_S_api_Rank)), (2, .ptr (enc_S_api_Program p_a0)), (8, .int .i64 ((i_4 + 1 : Nat) : Int))] (Sub.cons' rfl (Sub.cons' rfl (Sub.cons' rfl (Sub.nil _)))) ?_
            exact IH1 _ _ _ (by omega) ⟨(i_4 + 1), rfl, rfl, rfl, (by omega), hr⟩
    ·
      refine g_sub [(1, .lst (ranks_a1.map enc_S_api_Rank)), (2, .ptr (enc_S_api_Program p_a0)), (5, .int .i64 ((0 : Nat) : Int))] (Sub.cons' rfl (Sub.cons' rfl (Sub.cons' rfl (Sub.nil _)))) ?_
      refine g_loop (fun n env σ => ∃ (i_3 : Nat), (n = p_a0.f0_Decls.length - i_3) ∧ (env = [(1, .lst (ranks_a1.map enc_S_api_Rank)), (2, .ptr (enc_S_api_Program p_a0)), (5, .int .i64 (i_3 : Int))]) ∧ (σ = []) ∧ (i_3 ≤ p_a0.f0_Decls.length) ∧ (lf_constraintref41_Check_L0 kk0 ranks_a1 (p_a0.f0_Decls.drop i_3) = some res)) _ ⟨0, rfl, rfl, rfl, Nat.zero_le _, hr⟩ ?_
      rintro n _ _ ⟨i_3, rfl, rfl, rfl, hi0, hr⟩ IH0
      rcases listStep p_a0.f0_Decls i_3 hi0 with ⟨ht0, hd0, he0⟩ | ⟨q_8, ht0, hd0, hq0, hlt0⟩
      ·
        rw [hd0, lf_constraintref41_Check_L0] at hr
        refine g_seq ?_
        refine g_seq ?_
        refine g_run (by kernel_rfl) [(0, .d), (1, .d), (2, .d), (3, .d), (4, .d)] rfl ?_
        refine r_d rfl rfl rfl (s_move rfl rfl) ?_
        refine r_d rfl rfl rfl (s_fieldAddr rfl fl_api_Program_0 rfl rfl rfl rfl) ?_
        refine r_d rfl rfl rfl (s_load rfl rfl (by exact ty_L_api_Decl) rfl) ?_
        refine r_d rfl rfl rfl (m_len (f := enc_S_api_Decl) p_a0.f0_Decls rfl el_L_api_Decl rfl (asl rfl)) ?_
        refine r_d rfl rfl rfl (s_cmp rfl rfl rfl rfl) ?_
        refine r_end ?_
        refine g_known 16 false rfl ht0 ?_
        refine g_condF rfl ?_
        refine g_exit rfl ?_
        refine g_sub [(1, .lst (ranks_a1.map enc_S_api_Rank)), (2, .ptr (enc_S_api_Program p_a0))] (Sub.cons' rfl (Sub.cons' rfl (Sub.nil _))) ?_
        exact HK0 _ _ ⟨rfl, rfl, hr⟩
      ·
        rw [hd0, lf_constraintref41_Check_L0] at hr
        refine g_seq ?_
        refine g_seq ?_
        refine g_run (by kernel_rfl) [(0, .d), (1, .d), (2, .d), (3, .d), (4, .d)] rfl ?_
        refine r_d rfl rfl rfl (s_move rfl rfl) ?_
        refine r_d rfl rfl rfl (s_fieldAddr rfl fl_api_Program_0 rfl rfl rfl rfl) ?_
        refine r_d rfl rfl rfl (s_load rfl rfl (by exact ty_L_api_Decl) rfl) ?_
        refine r_d rfl rfl rfl (m_len (f := enc_S_api_Decl) p_a0.f0_Decls rfl el_L_api_Decl rfl (asl rfl)) ?_
        refine r_d rfl rfl rfl (s_cmp rfl rfl rfl rfl) ?_
        refine r_end ?_
        refine g_known 16 true rfl ht0 ?_
        refine g_condT rfl ?_
        refine g_skip ?_
        refine g_seq ?_
        refine g_block ?_
        refine g_seq ?_
        refine g_any (by kernel_rfl) (by kernel_rfl) [(0, .d), (1, .d), (2, .d), (3, .d), (4, .d), (5, .d), (6, .d), (7, .d), (8, .d), (9, .d), (10, .d), (11, .d), (12, .d), (13, .d), (14, .d), (15, .d), (16, .d), (17, .w), (18, .w), (19, .d)] (by kernel_rfl) ?_
        refine r_d rfl rfl rfl (s_move rfl rfl) ?_
        refine r_d rfl rfl rfl (s_fieldAddr rfl fl_api_Program_0 rfl rfl rfl rfl) ?_
        refine r_d rfl rfl rfl (s_load rfl rfl (by exact ty_L_api_Decl) rfl) ?_
        refine r_d rfl rfl rfl (s_move rfl rfl) ?_
        refine r_d rfl rfl rfl (m_index (f := enc_S_api_Decl) p_a0.f0_Decls rfl el_L_api_Decl rfl (asl rfl) rfl hq0 sz_S_api_Decl rfl) ?_
        refine r_d rfl rfl rfl (s_fieldAddr rfl fl_api_Decl_0 rfl rfl rfl rfl) ?_
        refine r_d rfl rfl rfl (s_load rfl rfl (by exact ty_string) rfl) ?_
        refine r_d rfl rfl rfl (s_fieldAddr rfl fl_api_Program_0 rfl rfl rfl rfl) ?_
        refine r_d rfl rfl rfl (s_load rfl rfl (by exact ty_L_api_Decl) rfl) ?_
        refine r_d rfl rfl rfl (s_move rfl rfl) ?_
        refine r_d rfl rfl rfl (m_index (f := enc_S_api_Decl) p_a0.f0_Decls rfl el_L_api_Decl rfl (asl rfl) rfl hq0 sz_S_api_Decl rfl) ?_
        refine r_d rfl rfl rfl (s_fieldAddr rfl fl_api_Decl_1 rfl rfl rfl rfl) ?_
        refine r_d rfl rfl rfl (s_load rfl rfl (by exact ty_int) rfl) ?_
        obtain ⟨r_9, hr_9, hr⟩ := bindS hr
        refine r_d rfl rfl rfl (s_callD rfl cl_constraintref41_find (.cons rfl (Wk.refl _) (.cons rfl (Wk.refl _) (.cons rfl (Wk.refl _) .nil))) (lg_constraintref41_find _ _ _ _ hr_9)) ?_
        refine r_d rfl rfl rfl (s_move rfl rfl) ?_
        refine r_d rfl rfl rfl (s_extract rfl rfl rfl) ?_
        refine r_d rfl rfl rfl (s_extract rfl rfl rfl) ?_
        refine r_w rfl rfl rfl (s_alloc rfl zv_api_Rank) ?_
        rintro _ _ ⟨b6_9, rfl, rfl⟩
        refine r_w01 rfl rfl rfl (t_store0 _ rfl rfl rfl (Wk.refl _) (pf0 _) (by exact ty_api_Rank) (sz_S_api_Rank _) rfl rfl) ?_
        refine r_d rfl rfl rfl (s_assign rfl rfl) ?_
        refine r_end ?_
        refine g_freeze 6 b6_9 rfl (pf0 _) ?_
        refine g_seq ?_
        refine g_run (by kernel_rfl) [(0, .d), (1, .d)] rfl ?_
        refine r_d rfl rfl rfl (s_move rfl rfl) ?_
        refine r_d rfl rfl rfl (s_not rfl rfl) ?_
        refine r_end ?_
        refine g_sB 37 rfl hr (fun h37_10 hr => ?_) (fun h37_10 hr => ?_)
        ·
          refine g_condT rfl ?_
          refine g_seq ?_
          refine g_run (by kernel_rfl) [(0, .d)] rfl ?_
          refine r_d rfl rfl rfl (s_assign rfl rfl) ?_
          refine r_end ?_
          obtain rfl := Option.some.inj hr
          refine g_ret Try.func24 _ (.cons (resTmp rfl (Wk.refl _)) .nil) ?_
          rfl
        ·
          refine g_condF rfl ?_
          refine g_skip ?_
          refine g_inBlock ?_
          refine g_run (by kernel_rfl) [(0, .d), (1, .d), (2, .d)] rfl ?_
          refine r_d rfl rfl rfl (s_move rfl rfl) ?_
          refine r_d rfl rfl rfl (s_ar (r := ((i_3 + 1 : Nat) : Int)) rfl rfl rfl (by simp [iar]) (by omega)) ?_
          refine r_d rfl rfl rfl (s_assign rfl rfl) ?_
          refine r_end ?_
          refine g_sub [(1, .lst (ranks_a1.map enc_S_api_Rank)), (2, .ptr (enc_S_api_Program p_a0)), (5, .int .i64 ((i_3 + 1 : Nat) : Int))] (Sub.cons' rfl (Sub.cons' rfl (Sub.cons' rfl (Sub.nil _)))) ?_
          exact IH0 _ _ _ (by omega) ⟨(i_3 + 1), rfl, rfl, rfl, (by omega), hr⟩

end Go.Proofs.Ythcgefbigimgoaa

