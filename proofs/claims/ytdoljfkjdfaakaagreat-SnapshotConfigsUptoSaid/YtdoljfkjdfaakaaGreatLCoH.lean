/-
  Texts of the seat, merged.
-/
import Derived.Test.YtdoljfkjdfaakaaGreatLCA
import Derived.Test.YtdoljfkjdfaakaaGreatLCB
import Derived.Test.YtdoljfkjdfaakaaGreatLCC
import Derived.Test.YtdoljfkjdfaakaaGreatLCD
import Derived.Test.YtdoljfkjdfaakaaGreatLCE
import Derived.Test.YtdoljfkjdfaakaaGreatLCF
import Derived.Test.YtdoljfkjdfaakaaGreatLCoG
import Derived.Test.YtdoljfkjdfaakaaGreatChecked
import Derived.WalkKit
import Derived.Lib.Hide
import Derived.Lib.AppendStr
import Derived.Deep.AppendLies
import Derived.Deep.AppendSrc
import Derived.Deep.Draws
import Derived.Deep.QuietTactic
import Derived.BigQuiet
import Derived.Deep.RegionWith
import Derived.Maps.AppendAt
import Derived.WalkSpells
import Derived.Orders
import Derived.Deep.Slices
import Derived.Deep.Fields
import Derived.ChangeArms
import Derived.Lib.OthersKept
import Derived.Lib.TrimU
import Derived.Lib.IndexAny
import Derived.Deep.LoopGhost
import Derived.Lib.Bytealg
import Derived.RangeFuncBox
import Derived.RangeFuncNested
import Derived.RangeFuncBound
import Derived.RangeFuncCalls
import Derived.RangeFuncLeaves
import Derived.Shelf.Abstract
import Derived.OwnWalkIn
import Derived.TacticsInMore
import Derived.LoopNIn
import Derived.LoopIn
import Derived.RangeFuncWrites
import Derived.Maps.OwnIn
import Derived.Maps.Views
import Derived.Laws.OwnMore
import Derived.Maps.OwnSet
import Derived.Laws.IdiomStrings
import Derived.Test.YtdoljfkjdfaakaaGreatRows
import Derived.ProofKit
import Derived.OpenShut
import Derived.Carry
import Derived.OrdersIn
import Derived.Great.BuildSlice
import Derived.ArgAppend
import Derived.Laws.MakeOwn
import Derived.Laws.Cover3
import Derived.Laws.CopyRow
import Derived.MapKept
import Derived.Maps.RangeRun
import Derived.DeepKeys5
import Derived.WideKeyRuns
import Derived.RangeFuncOwn
import Derived.Defers
import Derived.Recover
import Derived.Tactics
import Derived.Tactics2
import Derived.KernelRfl
import Derived.ChangeSlices
import Derived.JoinedCond
set_option linter.unusedVariables false
set_option linter.unusedSimpArgs false
set_option linter.unnecessarySimpa false
set_option linter.all false

namespace Go.Proofs.YtdoljfkjdfaakaaGreat
set_option maxRecDepth 100000
open Go.RowKit

noncomputable def lf_constraintlaw52_goals_L0 (k : ((List Gl)) → Option ((List Gl))) : List S_api_Frame → (List Gl) → Option ((List Gl))
  | [], out_4 =>
  (k out_4)
  | q_8 :: rest, out_4 =>
  ((appO 48 out_4 [q_8.f0_Goal]).bind fun l_9 =>
  (lf_constraintlaw52_goals_L0 k rest l_9))
noncomputable def lf_constraintlaw52_goals (l_a0 : (List S_api_Frame)) : Option ((List Gl)) :=
  (lf_constraintlaw52_goals_L0 (fun out_7 =>
  some (out_7)) l_a0 [])

set_option maxHeartbeats 1000000 in
theorem lg_constraintlaw52_goals (l_a0 : (List S_api_Frame)) (res : (List Gl)) (hr : lf_constraintlaw52_goals l_a0 = some res) : Gives Tryz.prog 56 [.lst (l_a0.map enc_S_api_Frame)] (.lst (res.map encG)) := by
  unfold lf_constraintlaw52_goals at hr
  refine spec_env [(0, .lst (l_a0.map enc_S_api_Frame))] Tryz.func56 rfl rfl fun K hK => ?_
  refine g_seq ?_
  refine g_run (by kernel_rfl) [(0, .w)] rfl ?_
  refine r_w rfl rfl rfl (s_nilOwn 73 3 (.inl rfl)) ?_
  rintro _ _ ⟨u2_0, rfl, rfl⟩
  refine r_end ?_
  refine g_seq ?_
  refine g_run (by kernel_rfl) [(0, .w)] rfl ?_
  refine r_w rfl rfl rfl (s_nilOwn 73 3 (.inl rfl)) ?_
  rintro _ _ ⟨u3_1, rfl, rfl⟩
  refine r_end ?_
  refine g_seq ?_
  refine g_seq ?_
  refine g_run (by kernel_rfl) [(0, .d)] rfl ?_
  refine r_d rfl rfl rfl (s_assign rfl rfl) ?_
  refine r_end ?_
  obtain ⟨kk0, hkk0, hr⟩ := exK (fun k => lf_constraintlaw52_goals_L0 k l_a0 []) hr
  refine g_len 0 rfl (asl rfl) fun hla0 => ?_
  simp only [List.length_map] at hla0
  refine g_blockJ (fun env σ => ∃ (out_7 : (List Gl)) (u_6 : Value), env = [(3, .own u_6 (out_7.map encG))] ∧ σ = [.row u_6 out_7.length 73 3] ∧ kk0 out_7 = some res) ?_ (fun HK0 => ?_)
  ·
   rintro _ _ ⟨out_7, u_6, rfl, rfl, hr⟩
   rw [hkk0] at hr
   refine g_seq ?_
   refine g_run (by kernel_rfl) [(0, .d), (1, .d)] rfl ?_
   refine r_d rfl rfl rfl (s_move rfl rfl) ?_
   refine r_d rfl rfl rfl (s_assign rfl rfl) ?_
   refine r_end ?_
   obtain rfl := Option.some.inj hr
   refine g_ret Tryz.func56 _ (.cons (resTmp rfl (Wk.own _ _)) .nil) ?_
   rfl
  ·
   refine g_sub [(0, .lst (l_a0.map enc_S_api_Frame)), (3, .own u3_1 ([].map encG)), (4, .int .i64 ((0 : Nat) : Int))] (Sub.cons' rfl (Sub.cons' rfl (Sub.cons' rfl (Sub.nil _)))) ?_
   refine g_perm [_] _ (pf0 _) ?_
   refine g_loop (fun n env σ => ∃ (out_4 : (List Gl)) (i_5 : Nat) (u_3 : Value), (n = l_a0.length - i_5) ∧ (env = [(0, .lst (l_a0.map enc_S_api_Frame)), (3, .own u_3 (out_4.map encG)), (4, .int .i64 (i_5 : Int))]) ∧ (σ = [.row u_3 out_4.length 73 3]) ∧ (i_5 ≤ l_a0.length) ∧ (lf_constraintlaw52_goals_L0 kk0 (l_a0.drop i_5) out_4 = some res)) _ ⟨[], 0, u3_1, rfl, rfl, rfl, Nat.zero_le _, hr⟩ ?_
   rintro n _ _ ⟨out_4, i_5, u_3, rfl, rfl, rfl, hi0, hr⟩ IH0
   rcases listStep l_a0 i_5 hi0 with ⟨ht0, hd0, he0⟩ | ⟨q_8, ht0, hd0, hq0, hlt0⟩
   ·
    rw [hd0, lf_constraintlaw52_goals_L0] at hr
    refine g_seq ?_
    refine g_seq ?_
    refine g_run (by kernel_rfl) [(0, .d), (1, .d), (2, .d), (3, .d)] rfl ?_
    refine r_d rfl rfl rfl (s_move rfl rfl) ?_
    refine r_d rfl rfl rfl (s_move rfl rfl) ?_
    refine r_d rfl rfl rfl (m_len (f := enc_S_api_Frame) l_a0 rfl el_L_api_Frame rfl (asl rfl)) ?_
    refine r_d rfl rfl rfl (s_cmp rfl rfl rfl rfl) ?_
    refine r_end ?_
    refine g_known 8 false rfl ht0 ?_
    refine g_condF rfl ?_
    refine g_exit rfl ?_
    refine g_sub [(3, .own u_3 (out_4.map encG))] (Sub.cons' rfl (Sub.nil _)) ?_
    exact HK0 _ _ ⟨out_4, u_3, rfl, rfl, hr⟩
   ·
    rw [hd0, lf_constraintlaw52_goals_L0] at hr
    refine g_seq ?_
    refine g_seq ?_
    refine g_run (by kernel_rfl) [(0, .d), (1, .d), (2, .d), (3, .d)] rfl ?_
    refine r_d rfl rfl rfl (s_move rfl rfl) ?_
    refine r_d rfl rfl rfl (s_move rfl rfl) ?_
    refine r_d rfl rfl rfl (m_len (f := enc_S_api_Frame) l_a0 rfl el_L_api_Frame rfl (asl rfl)) ?_
    refine r_d rfl rfl rfl (s_cmp rfl rfl rfl rfl) ?_
    refine r_end ?_
    refine g_known 8 true rfl ht0 ?_
    refine g_condT rfl ?_
    refine g_skip ?_
    refine g_seq ?_
    refine g_block ?_
    refine g_run (by kernel_rfl) [(0, .d), (1, .d), (2, .d), (3, .d), (4, .d), (5, .d), (6, .d), (7, .w), (8, .d)] rfl ?_
    refine r_d rfl rfl rfl (s_move rfl rfl) ?_
    refine r_d rfl rfl rfl (s_move rfl rfl) ?_
    refine r_d rfl rfl rfl (s_move rfl rfl) ?_
    refine r_d rfl rfl rfl (m_index (f := enc_S_api_Frame) l_a0 rfl el_L_api_Frame rfl (asl rfl) rfl hq0 sz_S_api_Frame rfl) ?_
    refine r_d rfl rfl rfl (s_fieldAddr rfl fl_api_Frame_0 rfl rfl rfl rfl) ?_
    refine r_d rfl rfl rfl (s_load rfl rfl (by exact ty_api_Goal) (sz_encG _)) ?_
    refine r_d rfl rfl rfl (m_lit (f := encG) [.tmp 16] [q_8.f0_Goal] rfl el_L_api_Goal rfl rfl (by decide) (by decide) (.cons rfl (Wk.refl _) .nil) sz_encG (fun _ => rfl)) ?_
    obtain ⟨l_9, hl_9, hr⟩ := bindS hr
    refine r_w rfl rfl rfl (m_appOwn (f := encG) out_4 [q_8.f0_Goal] rfl el_L_api_Goal rfl rfl (asl rfl) (pf0 _) rfl sz_encG hl_9) ?_
    rintro _ _ ⟨u18_9, rfl, rfl⟩
    refine r_d rfl rfl rfl (s_assign rfl rfl) ?_
    refine r_end ?_
    refine g_inBlock ?_
    refine g_run (by kernel_rfl) [(0, .d), (1, .d), (2, .d)] rfl ?_
    refine r_d rfl rfl rfl (s_move rfl rfl) ?_
    refine r_d rfl rfl rfl (s_ar (r := ((i_5 + 1 : Nat) : Int)) rfl rfl rfl (by simp [iar]) (by omega)) ?_
    refine r_d rfl rfl rfl (s_assign rfl rfl) ?_
    refine r_end ?_
    refine g_sub [(0, .lst (l_a0.map enc_S_api_Frame)), (3, .own u18_9 (l_9.map encG)), (4, .int .i64 ((i_5 + 1 : Nat) : Int))] (Sub.cons' rfl (Sub.cons' rfl (Sub.cons' rfl (Sub.nil _)))) ?_
    exact IH0 _ _ _ (by omega) ⟨l_9, (i_5 + 1), u18_9, rfl, rfl, rfl, (by omega), hr⟩

noncomputable def lf_constraintlaw23_tiny_L0 (k : Option (Bool)) : List T → Int → Option (Bool)
  | [], n_2 =>
  k
  | q_4 :: rest, n_2 =>
  ((x_sizeT q_4).bind fun r_5 =>
  (bif (decide ((wr (n_2 + r_5)) > (60 : Int))) then
  some (false)
  else
  (lf_constraintlaw23_tiny_L0 k rest (wr (n_2 + r_5)))))
noncomputable def lf_constraintlaw23_tiny (l_a0 : (List T)) : Option (Bool) :=
  (bif (decide ((l_a0.length : Int) > (8 : Int))) then
  some (false)
  else
  (lf_constraintlaw23_tiny_L0 (some (true)) l_a0 0))

set_option maxHeartbeats 1000000 in
theorem lg_constraintlaw23_tiny (l_a0 : (List T)) (res : Bool) (hr : lf_constraintlaw23_tiny l_a0 = some res) : Gives Tryz.prog 149 [.lst (l_a0.map encT)] (.bool res) := by
  unfold lf_constraintlaw23_tiny at hr
  refine spec_env [(0, .lst (l_a0.map encT))] Tryz.func149 rfl rfl fun K hK => ?_
  refine g_seq ?_
  refine g_run (by kernel_rfl) [(0, .d)] rfl ?_
  refine r_d rfl rfl rfl (s_assign rfl rfl) ?_
  refine r_end ?_
  refine g_seq ?_
  refine g_seq ?_
  refine g_run (by kernel_rfl) [(0, .d), (1, .d), (2, .d)] rfl ?_
  refine r_d rfl rfl rfl (s_move rfl rfl) ?_
  refine r_d rfl rfl rfl (m_len (f := encT) l_a0 rfl el_L_api_Term rfl (asl rfl)) ?_
  refine r_d rfl rfl rfl (s_cmp rfl rfl rfl rfl) ?_
  refine r_end ?_
  refine g_sB 7 rfl hr (fun h7_0 hr => ?_) (fun h7_0 hr => ?_)
  ·
   refine g_condT rfl ?_
   refine g_seq ?_
   refine g_run (by kernel_rfl) [(0, .d)] rfl ?_
   refine r_d rfl rfl rfl (s_assign rfl rfl) ?_
   refine r_end ?_
   obtain rfl := Option.some.inj hr
   refine g_ret Tryz.func149 _ (.cons (resTmp rfl (Wk.refl _)) .nil) ?_
   rfl
  ·
   refine g_condF rfl ?_
   refine g_skip ?_
   refine g_seq ?_
   refine g_run (by kernel_rfl) [(0, .d)] rfl ?_
   refine r_d rfl rfl rfl (s_assign rfl rfl) ?_
   refine r_end ?_
   refine g_seq ?_
   refine g_seq ?_
   refine g_run (by kernel_rfl) [(0, .d)] rfl ?_
   refine r_d rfl rfl rfl (s_assign rfl rfl) ?_
   refine r_end ?_
   obtain ⟨kk0, hkk0, hr⟩ := exK (fun k => lf_constraintlaw23_tiny_L0 k l_a0 0) hr
   refine g_len 0 rfl (asl rfl) fun hla0 => ?_
   simp only [List.length_map] at hla0
   refine g_blockJ (fun env σ => env = [] ∧ σ = [] ∧ kk0 = some res) ?_ (fun HK0 => ?_)
   ·
    rintro _ _ ⟨rfl, rfl, hr⟩
    rw [hkk0] at hr
    refine g_seq ?_
    refine g_run (by kernel_rfl) [(0, .d)] rfl ?_
    refine r_d rfl rfl rfl (s_assign rfl rfl) ?_
    refine r_end ?_
    obtain rfl := Option.some.inj hr
    refine g_ret Tryz.func149 _ (.cons (resTmp rfl (Wk.refl _)) .nil) ?_
    rfl
   ·
    refine g_sub [(0, .lst (l_a0.map encT)), (3, .int .i64 0), (4, .int .i64 ((0 : Nat) : Int))] (Sub.cons' rfl (Sub.cons' rfl (Sub.cons' rfl (Sub.nil _)))) ?_
    refine g_loop (fun n env σ => ∃ (n_2 : Int) (i_3 : Nat), (n = l_a0.length - i_3) ∧ (env = [(0, .lst (l_a0.map encT)), (3, .int .i64 n_2), (4, .int .i64 (i_3 : Int))]) ∧ (σ = []) ∧ (i_3 ≤ l_a0.length) ∧ (lf_constraintlaw23_tiny_L0 kk0 (l_a0.drop i_3) n_2 = some res)) _ ⟨0, 0, rfl, rfl, rfl, Nat.zero_le _, hr⟩ ?_
    rintro n _ _ ⟨n_2, i_3, rfl, rfl, rfl, hi0, hr⟩ IH0
    rcases listStep l_a0 i_3 hi0 with ⟨ht0, hd0, he0⟩ | ⟨q_4, ht0, hd0, hq0, hlt0⟩
    ·
     rw [hd0, lf_constraintlaw23_tiny_L0] at hr
     refine g_seq ?_
     refine g_seq ?_
     refine g_run (by kernel_rfl) [(0, .d), (1, .d), (2, .d), (3, .d)] rfl ?_
     refine r_d rfl rfl rfl (s_move rfl rfl) ?_
     refine r_d rfl rfl rfl (s_move rfl rfl) ?_
     refine r_d rfl rfl rfl (m_len (f := encT) l_a0 rfl el_L_api_Term rfl (asl rfl)) ?_
     refine r_d rfl rfl rfl (s_cmp rfl rfl rfl rfl) ?_
     refine r_end ?_
     refine g_known 11 false rfl ht0 ?_
     refine g_condF rfl ?_
     refine g_exit rfl ?_
     refine g_sub [] (Sub.nil _) ?_
     exact HK0 _ _ ⟨rfl, rfl, hr⟩
    ·
     rw [hd0, lf_constraintlaw23_tiny_L0] at hr
     refine g_seq ?_
     refine g_seq ?_
     refine g_run (by kernel_rfl) [(0, .d), (1, .d), (2, .d), (3, .d)] rfl ?_
     refine r_d rfl rfl rfl (s_move rfl rfl) ?_
     refine r_d rfl rfl rfl (s_move rfl rfl) ?_
     refine r_d rfl rfl rfl (m_len (f := encT) l_a0 rfl el_L_api_Term rfl (asl rfl)) ?_
     refine r_d rfl rfl rfl (s_cmp rfl rfl rfl rfl) ?_
     refine r_end ?_
     refine g_known 11 true rfl ht0 ?_
     refine g_condT rfl ?_
     refine g_skip ?_
     refine g_seq ?_
     refine g_block ?_
     refine g_seq ?_
     refine g_run (by kernel_rfl) [(0, .d), (1, .d), (2, .d), (3, .d), (4, .d), (5, .d), (6, .d), (7, .d)] rfl ?_
     refine r_d rfl rfl rfl (s_move rfl rfl) ?_
     refine r_d rfl rfl rfl (s_move rfl rfl) ?_
     refine r_d rfl rfl rfl (s_move rfl rfl) ?_
     refine r_d rfl rfl rfl (m_index (f := encT) l_a0 rfl el_L_api_Term rfl (asl rfl) rfl hq0 sz_encT rfl) ?_
     refine r_d rfl rfl rfl (s_load rfl rfl (by exact ty_api_Term) (sz_encT _)) ?_
     obtain ⟨r_5, hr_5, hr⟩ := bindS hr
     refine r_d rfl rfl rfl (s_callD rfl cl_constraintref03_Size (.cons rfl (Wk.refl _) .nil) (lx_constraintref03_Size _ _ hr_5)) ?_
     refine r_d rfl rfl rfl (s_arW rfl rfl rfl rfl) ?_
     refine r_d rfl rfl rfl (s_assign rfl rfl) ?_
     refine r_end ?_
     refine g_seq ?_
     refine g_run (by kernel_rfl) [(0, .d), (1, .d)] rfl ?_
     refine r_d rfl rfl rfl (s_move rfl rfl) ?_
     refine r_d rfl rfl rfl (s_cmp rfl rfl rfl rfl) ?_
     refine r_end ?_
     refine g_sB 22 rfl hr (fun h22_5 hr => ?_) (fun h22_5 hr => ?_)
     ·
      refine g_condT rfl ?_
      refine g_seq ?_
      refine g_run (by kernel_rfl) [(0, .d)] rfl ?_
      refine r_d rfl rfl rfl (s_assign rfl rfl) ?_
      refine r_end ?_
      obtain rfl := Option.some.inj hr
      refine g_ret Tryz.func149 _ (.cons (resTmp rfl (Wk.refl _)) .nil) ?_
      rfl
     ·
      refine g_condF rfl ?_
      refine g_skip ?_
      refine g_inBlock ?_
      refine g_run (by kernel_rfl) [(0, .d), (1, .d), (2, .d)] rfl ?_
      refine r_d rfl rfl rfl (s_move rfl rfl) ?_
      refine r_d rfl rfl rfl (s_ar (r := ((i_3 + 1 : Nat) : Int)) rfl rfl rfl (by simp [iar]) (by omega)) ?_
      refine r_d rfl rfl rfl (s_assign rfl rfl) ?_
      refine r_end ?_
      refine g_sub [(0, .lst (l_a0.map encT)), (3, .int .i64 (wr (n_2 + r_5))), (4, .int .i64 ((i_3 + 1 : Nat) : Int))] (Sub.cons' rfl (Sub.cons' rfl (Sub.cons' rfl (Sub.nil _)))) ?_
      exact IH0 _ _ _ (by omega) ⟨(wr (n_2 + r_5)), (i_3 + 1), rfl, rfl, rfl, (by omega), hr⟩

noncomputable def lf_constraintlaw23_Goals_L0 (k : Option (Bool)) : List Gl → Option (Bool)
  | [] =>
  k
  | q_3 :: rest =>
  ((lf_constraintlaw23_tiny q_3.ts).bind fun r_4 =>
  (bif (!r_4) then
  some (false)
  else
  (lf_constraintlaw23_Goals_L0 k rest)))
noncomputable def lf_constraintlaw23_Goals (l_a0 : (List Gl)) (most_a1 : Int) : Option (Bool) :=
  (bif (decide ((l_a0.length : Int) > most_a1)) then
  some (false)
  else
  (lf_constraintlaw23_Goals_L0 (some (true)) l_a0))

set_option maxHeartbeats 1000000 in
theorem lg_constraintlaw23_Goals (l_a0 : (List Gl)) (most_a1 : Int) (res : Bool) (hr : lf_constraintlaw23_Goals l_a0 most_a1 = some res) : Gives Tryz.prog 55 [.lst (l_a0.map encG), .int .i64 most_a1] (.bool res) := by
  unfold lf_constraintlaw23_Goals at hr
  refine spec_env [(0, .lst (l_a0.map encG)), (1, .int .i64 most_a1)] Tryz.func55 rfl rfl fun K hK => ?_
  refine g_seq ?_
  refine g_run (by kernel_rfl) [(0, .d)] rfl ?_
  refine r_d rfl rfl rfl (s_assign rfl rfl) ?_
  refine r_end ?_
  refine g_seq ?_
  refine g_seq ?_
  refine g_run (by kernel_rfl) [(0, .d), (1, .d), (2, .d), (3, .d)] rfl ?_
  refine r_d rfl rfl rfl (s_move rfl rfl) ?_
  refine r_d rfl rfl rfl (m_len (f := encG) l_a0 rfl el_L_api_Goal rfl (asl rfl)) ?_
  refine r_d rfl rfl rfl (s_move rfl rfl) ?_
  refine r_d rfl rfl rfl (s_cmp rfl rfl rfl rfl) ?_
  refine r_end ?_
  refine g_sB 9 rfl hr (fun h9_0 hr => ?_) (fun h9_0 hr => ?_)
  ·
   refine g_condT rfl ?_
   refine g_seq ?_
   refine g_run (by kernel_rfl) [(0, .d)] rfl ?_
   refine r_d rfl rfl rfl (s_assign rfl rfl) ?_
   refine r_end ?_
   obtain rfl := Option.some.inj hr
   refine g_ret Tryz.func55 _ (.cons (resTmp rfl (Wk.refl _)) .nil) ?_
   rfl
  ·
   refine g_condF rfl ?_
   refine g_skip ?_
   refine g_seq ?_
   refine g_seq ?_
   refine g_run (by kernel_rfl) [(0, .d)] rfl ?_
   refine r_d rfl rfl rfl (s_assign rfl rfl) ?_
   refine r_end ?_
   obtain ⟨kk0, hkk0, hr⟩ := exK (fun k => lf_constraintlaw23_Goals_L0 k l_a0) hr
   refine g_len 0 rfl (asl rfl) fun hla0 => ?_
   simp only [List.length_map] at hla0
   refine g_blockJ (fun env σ => env = [] ∧ σ = [] ∧ kk0 = some res) ?_ (fun HK0 => ?_)
   ·
    rintro _ _ ⟨rfl, rfl, hr⟩
    rw [hkk0] at hr
    refine g_seq ?_
    refine g_run (by kernel_rfl) [(0, .d)] rfl ?_
    refine r_d rfl rfl rfl (s_assign rfl rfl) ?_
    refine r_end ?_
    obtain rfl := Option.some.inj hr
    refine g_ret Tryz.func55 _ (.cons (resTmp rfl (Wk.refl _)) .nil) ?_
    rfl
   ·
    refine g_sub [(0, .lst (l_a0.map encG)), (5, .int .i64 ((0 : Nat) : Int))] (Sub.cons' rfl (Sub.cons' rfl (Sub.nil _))) ?_
    refine g_loop (fun n env σ => ∃ (i_2 : Nat), (n = l_a0.length - i_2) ∧ (env = [(0, .lst (l_a0.map encG)), (5, .int .i64 (i_2 : Int))]) ∧ (σ = []) ∧ (i_2 ≤ l_a0.length) ∧ (lf_constraintlaw23_Goals_L0 kk0 (l_a0.drop i_2) = some res)) _ ⟨0, rfl, rfl, rfl, Nat.zero_le _, hr⟩ ?_
    rintro n _ _ ⟨i_2, rfl, rfl, rfl, hi0, hr⟩ IH0
    rcases listStep l_a0 i_2 hi0 with ⟨ht0, hd0, he0⟩ | ⟨q_3, ht0, hd0, hq0, hlt0⟩
    ·
     rw [hd0, lf_constraintlaw23_Goals_L0] at hr
     refine g_seq ?_
     refine g_seq ?_
     refine g_run (by kernel_rfl) [(0, .d), (1, .d), (2, .d), (3, .d)] rfl ?_
     refine r_d rfl rfl rfl (s_move rfl rfl) ?_
     refine r_d rfl rfl rfl (s_move rfl rfl) ?_
     refine r_d rfl rfl rfl (m_len (f := encG) l_a0 rfl el_L_api_Goal rfl (asl rfl)) ?_
     refine r_d rfl rfl rfl (s_cmp rfl rfl rfl rfl) ?_
     refine r_end ?_
     refine g_known 13 false rfl ht0 ?_
     refine g_condF rfl ?_
     refine g_exit rfl ?_
     refine g_sub [] (Sub.nil _) ?_
     exact HK0 _ _ ⟨rfl, rfl, hr⟩
    ·
     rw [hd0, lf_constraintlaw23_Goals_L0] at hr
     refine g_seq ?_
     refine g_seq ?_
     refine g_run (by kernel_rfl) [(0, .d), (1, .d), (2, .d), (3, .d)] rfl ?_
     refine r_d rfl rfl rfl (s_move rfl rfl) ?_
     refine r_d rfl rfl rfl (s_move rfl rfl) ?_
     refine r_d rfl rfl rfl (m_len (f := encG) l_a0 rfl el_L_api_Goal rfl (asl rfl)) ?_
     refine r_d rfl rfl rfl (s_cmp rfl rfl rfl rfl) ?_
     refine r_end ?_
     refine g_known 13 true rfl ht0 ?_
     refine g_condT rfl ?_
     refine g_skip ?_
     refine g_seq ?_
     refine g_block ?_
     refine g_seq ?_
     refine g_run (by kernel_rfl) [(0, .d), (1, .d), (2, .d), (3, .d), (4, .d), (5, .d), (6, .d)] rfl ?_
     refine r_d rfl rfl rfl (s_move rfl rfl) ?_
     refine r_d rfl rfl rfl (s_move rfl rfl) ?_
     refine r_d rfl rfl rfl (m_index (f := encG) l_a0 rfl el_L_api_Goal rfl (asl rfl) rfl hq0 sz_encG rfl) ?_
     refine r_d rfl rfl rfl (s_fieldAddr rfl fl_api_Goal_2 rfl rfl rfl rfl) ?_
     refine r_d rfl rfl rfl (s_load rfl rfl (by exact ty_L_api_Term) rfl) ?_
     obtain ⟨r_4, hr_4, hr⟩ := bindS hr
     refine r_d rfl rfl rfl (s_callD rfl cl_constraintlaw23_tiny (.cons rfl (Wk.refl _) .nil) (lg_constraintlaw23_tiny _ _ hr_4)) ?_
     refine r_d rfl rfl rfl (s_not rfl rfl) ?_
     refine r_end ?_
     refine g_sB 22 rfl hr (fun h22_4 hr => ?_) (fun h22_4 hr => ?_)
     ·
      refine g_condT rfl ?_
      refine g_seq ?_
      refine g_run (by kernel_rfl) [(0, .d)] rfl ?_
      refine r_d rfl rfl rfl (s_assign rfl rfl) ?_
      refine r_end ?_
      obtain rfl := Option.some.inj hr
      refine g_ret Tryz.func55 _ (.cons (resTmp rfl (Wk.refl _)) .nil) ?_
      rfl
     ·
      refine g_condF rfl ?_
      refine g_skip ?_
      refine g_inBlock ?_
      refine g_run (by kernel_rfl) [(0, .d), (1, .d), (2, .d)] rfl ?_
      refine r_d rfl rfl rfl (s_move rfl rfl) ?_
      refine r_d rfl rfl rfl (s_ar (r := ((i_2 + 1 : Nat) : Int)) rfl rfl rfl (by simp [iar]) (by omega)) ?_
      refine r_d rfl rfl rfl (s_assign rfl rfl) ?_
      refine r_end ?_
      refine g_sub [(0, .lst (l_a0.map encG)), (5, .int .i64 ((i_2 + 1 : Nat) : Int))] (Sub.cons' rfl (Sub.cons' rfl (Sub.nil _))) ?_
      exact IH0 _ _ _ (by omega) ⟨(i_2 + 1), rfl, rfl, rfl, (by omega), hr⟩

noncomputable def lf_constraintlaw23_Parts_L2 (k : Option (Bool)) : List S_api_Fire → Option (Bool)
  | [] =>
  k
  | q_7 :: rest =>
  (bif (decide ((q_7.f1_IDs.length : Int) > (8 : Int))) then
  some (false)
  else
  (lf_constraintlaw23_Parts_L2 k rest))

noncomputable def lf_constraintlaw23_Parts_L1 (k : Option (Bool)) : List (Int × T) → Option (Bool)
  | [] =>
  k
  | q_9 :: rest =>
  ((x_sizeT q_9.2).bind fun r_10 =>
  (bif (decide (r_10 > (60 : Int))) then
  some (false)
  else
  (lf_constraintlaw23_Parts_L1 k rest)))

noncomputable def lf_constraintlaw23_Parts_L0 (k : Option (Bool)) : List (Int × At) → Option (Bool)
  | [] =>
  k
  | q_12 :: rest =>
  ((lf_constraintlaw23_tiny q_12.2.ts).bind fun r_13 =>
  (bif (!r_13) then
  some (false)
  else
  (lf_constraintlaw23_Parts_L0 k rest)))
noncomputable def lf_constraintlaw23_Parts (l_a0 : (List (Int × At))) (b_a1 : (List (Int × T))) (h_a2 : (List S_api_Fire)) : Option (Bool) :=
  (bif (decide ((l_a0.length : Int) > (9 : Int))) then
  some (false)
  else
  (bif (decide ((b_a1.length : Int) > (20 : Int))) then
  some (false)
  else
  (bif (decide ((h_a2.length : Int) > (30 : Int))) then
  some (false)
  else
  (lf_constraintlaw23_Parts_L0 ((lf_constraintlaw23_Parts_L1 ((lf_constraintlaw23_Parts_L2 (some (true)) h_a2)) b_a1)) l_a0))))

set_option maxHeartbeats 1000000 in
theorem lg_constraintlaw23_Parts (l_a0 : (List (Int × At))) (b_a1 : (List (Int × T))) (h_a2 : (List S_api_Fire)) (res : Bool) (hr : lf_constraintlaw23_Parts l_a0 b_a1 h_a2 = some res) : Gives Tryz.prog 57 [.lst (l_a0.map encIt), .lst (b_a1.map encP), .lst (h_a2.map enc_S_api_Fire)] (.bool res) := by
  unfold lf_constraintlaw23_Parts at hr
  refine spec_env [(0, .lst (l_a0.map encIt)), (1, .lst (b_a1.map encP)), (2, .lst (h_a2.map enc_S_api_Fire))] Tryz.func57 rfl rfl fun K hK => ?_
  refine g_seq ?_
  refine g_run (by kernel_rfl) [(0, .d)] rfl ?_
  refine r_d rfl rfl rfl (s_assign rfl rfl) ?_
  refine r_end ?_
  refine g_seq ?_
  refine g_seq ?_
  refine g_run (by kernel_rfl) [(0, .d), (1, .d), (2, .d), (3, .d), (4, .d), (5, .d), (6, .d), (7, .d), (8, .d), (9, .d), (10, .d), (11, .d), (12, .d)] rfl ?_
  refine r_d rfl rfl rfl (s_move rfl rfl) ?_
  refine r_d rfl rfl rfl (m_len (f := encIt) l_a0 rfl el_L_api_Item rfl (asl rfl)) ?_
  refine r_d rfl rfl rfl (s_cmp rfl rfl rfl rfl) ?_
  refine r_d rfl rfl rfl (s_move rfl rfl) ?_
  refine r_sB 13 rfl hr (fun h13_0 hr => ?_) (fun h13_0 hr => ?_)
  ·
   refine r_skip rfl rfl rfl ?_
   refine r_skip rfl rfl rfl ?_
   refine r_skip rfl rfl rfl ?_
   refine r_d rfl rfl rfl (s_pickT rfl rfl rfl) ?_
   refine r_d rfl rfl rfl (s_move rfl rfl) ?_
   refine r_skip rfl rfl rfl ?_
   refine r_skip rfl rfl rfl ?_
   refine r_skip rfl rfl rfl ?_
   refine r_d rfl rfl rfl (s_pickT rfl rfl rfl) ?_
   refine r_end ?_
   refine g_condT rfl ?_
   refine g_seq ?_
   refine g_run (by kernel_rfl) [(0, .d)] rfl ?_
   refine r_d rfl rfl rfl (s_assign rfl rfl) ?_
   refine r_end ?_
   obtain rfl := Option.some.inj hr
   refine g_ret Tryz.func57 _ (.cons (resTmp rfl (Wk.refl _)) .nil) ?_
   rfl
  ·
   refine r_d rfl rfl rfl (s_move rfl rfl) ?_
   refine r_d rfl rfl rfl (m_len (f := encP) b_a1 rfl el_api_Binds rfl (asl rfl)) ?_
   refine r_d rfl rfl rfl (s_cmp rfl rfl rfl rfl) ?_
   refine r_d rfl rfl rfl (s_pickF rfl rfl rfl) ?_
   refine r_d rfl rfl rfl (s_move rfl rfl) ?_
   refine r_sB 18 rfl hr (fun h18_1 hr => ?_) (fun h18_1 hr => ?_)
   ·
    refine r_skip rfl rfl rfl ?_
    refine r_skip rfl rfl rfl ?_
    refine r_skip rfl rfl rfl ?_
    refine r_d rfl rfl rfl (s_pickT rfl rfl rfl) ?_
    refine r_end ?_
    refine g_condT rfl ?_
    refine g_seq ?_
    refine g_run (by kernel_rfl) [(0, .d)] rfl ?_
    refine r_d rfl rfl rfl (s_assign rfl rfl) ?_
    refine r_end ?_
    obtain rfl := Option.some.inj hr
    refine g_ret Tryz.func57 _ (.cons (resTmp rfl (Wk.refl _)) .nil) ?_
    rfl
   ·
    refine r_d rfl rfl rfl (s_move rfl rfl) ?_
    refine r_d rfl rfl rfl (m_len (f := enc_S_api_Fire) h_a2 rfl el_L_api_Fire rfl (asl rfl)) ?_
    refine r_d rfl rfl rfl (s_cmp rfl rfl rfl rfl) ?_
    refine r_d rfl rfl rfl (s_pickF rfl rfl rfl) ?_
    refine r_end ?_
    refine g_sB 22 rfl hr (fun h22_2 hr => ?_) (fun h22_2 hr => ?_)
    ·
     refine g_condT rfl ?_
     refine g_seq ?_
     refine g_run (by kernel_rfl) [(0, .d)] rfl ?_
     refine r_d rfl rfl rfl (s_assign rfl rfl) ?_
     refine r_end ?_
     obtain rfl := Option.some.inj hr
     refine g_ret Tryz.func57 _ (.cons (resTmp rfl (Wk.refl _)) .nil) ?_
     rfl
    ·
     refine g_condF rfl ?_
     refine g_skip ?_
     refine g_seq ?_
     refine g_seq ?_
     refine g_run (by kernel_rfl) [(0, .d)] rfl ?_
     refine r_d rfl rfl rfl (s_assign rfl rfl) ?_
     refine r_end ?_
     obtain ⟨kk0, hkk0, hr⟩ := exK (fun k => lf_constraintlaw23_Parts_L0 k l_a0) hr
     refine g_len 0 rfl (asl rfl) fun hla0 => ?_
     simp only [List.length_map] at hla0
     refine g_blockJ (fun env σ => env = [(1, .lst (b_a1.map encP)), (2, .lst (h_a2.map enc_S_api_Fire))] ∧ σ = [] ∧ kk0 = some res) ?_ (fun HK0 => ?_)
     ·
      rintro _ _ ⟨rfl, rfl, hr⟩
      rw [hkk0] at hr
      refine g_seq ?_
      refine g_seq ?_
      refine g_run (by kernel_rfl) [(0, .d)] rfl ?_
      refine r_d rfl rfl rfl (s_assign rfl rfl) ?_
      refine r_end ?_
      obtain ⟨kk1, hkk1, hr⟩ := exK (fun k => lf_constraintlaw23_Parts_L1 k b_a1) hr
      refine g_len 1 rfl (asl rfl) fun hla1 => ?_
      simp only [List.length_map] at hla1
      refine g_blockJ (fun env σ => env = [(2, .lst (h_a2.map enc_S_api_Fire))] ∧ σ = [] ∧ kk1 = some res) ?_ (fun HK1 => ?_)
      ·
       rintro _ _ ⟨rfl, rfl, hr⟩
       rw [hkk1] at hr
       refine g_seq ?_
       refine g_seq ?_
       refine g_run (by kernel_rfl) [(0, .d)] rfl ?_
       refine r_d rfl rfl rfl (s_assign rfl rfl) ?_
       refine r_end ?_
       obtain ⟨kk2, hkk2, hr⟩ := exK (fun k => lf_constraintlaw23_Parts_L2 k h_a2) hr
       refine g_len 2 rfl (asl rfl) fun hla2 => ?_
       simp only [List.length_map] at hla2
       refine g_blockJ (fun env σ => env = [] ∧ σ = [] ∧ kk2 = some res) ?_ (fun HK2 => ?_)
       ·
        rintro _ _ ⟨rfl, rfl, hr⟩
        rw [hkk2] at hr
        refine g_seq ?_
        refine g_run (by kernel_rfl) [(0, .d)] rfl ?_
        refine r_d rfl rfl rfl (s_assign rfl rfl) ?_
        refine r_end ?_
        obtain rfl := Option.some.inj hr
        refine g_ret Tryz.func57 _ (.cons (resTmp rfl (Wk.refl _)) .nil) ?_
        rfl
       ·
        refine g_sub [(2, .lst (h_a2.map enc_S_api_Fire)), (9, .int .i64 ((0 : Nat) : Int))] (Sub.cons' rfl (Sub.cons' rfl (Sub.nil _))) ?_
        refine g_loop (fun n env σ => ∃ (i_6 : Nat), (n = h_a2.length - i_6) ∧ (env = [(2, .lst (h_a2.map enc_S_api_Fire)), (9, .int .i64 (i_6 : Int))]) ∧ (σ = []) ∧ (i_6 ≤ h_a2.length) ∧ (lf_constraintlaw23_Parts_L2 kk2 (h_a2.drop i_6) = some res)) _ ⟨0, rfl, rfl, rfl, Nat.zero_le _, hr⟩ ?_
        rintro n _ _ ⟨i_6, rfl, rfl, rfl, hi2, hr⟩ IH2
        rcases listStep h_a2 i_6 hi2 with ⟨ht2, hd2, he2⟩ | ⟨q_7, ht2, hd2, hq2, hlt2⟩
        ·
         rw [hd2, lf_constraintlaw23_Parts_L2] at hr
         refine g_seq ?_
         refine g_seq ?_
         refine g_run (by kernel_rfl) [(0, .d), (1, .d), (2, .d), (3, .d)] rfl ?_
         refine r_d rfl rfl rfl (s_move rfl rfl) ?_
         refine r_d rfl rfl rfl (s_move rfl rfl) ?_
         refine r_d rfl rfl rfl (m_len (f := enc_S_api_Fire) h_a2 rfl el_L_api_Fire rfl (asl rfl)) ?_
         refine r_d rfl rfl rfl (s_cmp rfl rfl rfl rfl) ?_
         refine r_end ?_
         refine g_known 53 false rfl ht2 ?_
         refine g_condF rfl ?_
         refine g_exit rfl ?_
         refine g_sub [] (Sub.nil _) ?_
         exact HK2 _ _ ⟨rfl, rfl, hr⟩
        ·
         rw [hd2, lf_constraintlaw23_Parts_L2] at hr
         refine g_seq ?_
         refine g_seq ?_
         refine g_run (by kernel_rfl) [(0, .d), (1, .d), (2, .d), (3, .d)] rfl ?_
         refine r_d rfl rfl rfl (s_move rfl rfl) ?_
         refine r_d rfl rfl rfl (s_move rfl rfl) ?_
         refine r_d rfl rfl rfl (m_len (f := enc_S_api_Fire) h_a2 rfl el_L_api_Fire rfl (asl rfl)) ?_
         refine r_d rfl rfl rfl (s_cmp rfl rfl rfl rfl) ?_
         refine r_end ?_
         refine g_known 53 true rfl ht2 ?_
         refine g_condT rfl ?_
         refine g_skip ?_
         refine g_seq ?_
         refine g_block ?_
         refine g_seq ?_
         refine g_run (by kernel_rfl) [(0, .d), (1, .d), (2, .d), (3, .d), (4, .d), (5, .d), (6, .d)] rfl ?_
         refine r_d rfl rfl rfl (s_move rfl rfl) ?_
         refine r_d rfl rfl rfl (s_move rfl rfl) ?_
         refine r_d rfl rfl rfl (m_index (f := enc_S_api_Fire) h_a2 rfl el_L_api_Fire rfl (asl rfl) rfl hq2 sz_S_api_Fire rfl) ?_
         refine r_d rfl rfl rfl (s_fieldAddr rfl fl_api_Fire_1 rfl rfl rfl rfl) ?_
         refine r_d rfl rfl rfl (s_load rfl rfl (by exact ty_L_int) rfl) ?_
         refine r_d rfl rfl rfl (m_len (f := (D.int .i64)) q_7.f1_IDs rfl el_L_int rfl (asl rfl)) ?_
         refine r_d rfl rfl rfl (s_cmp rfl rfl rfl rfl) ?_
         refine r_end ?_
         refine g_sB 62 rfl hr (fun h62_7 hr => ?_) (fun h62_7 hr => ?_)
         ·
          refine g_condT rfl ?_
          refine g_seq ?_
          refine g_run (by kernel_rfl) [(0, .d)] rfl ?_
          refine r_d rfl rfl rfl (s_assign rfl rfl) ?_
          refine r_end ?_
          obtain rfl := Option.some.inj hr
          refine g_ret Tryz.func57 _ (.cons (resTmp rfl (Wk.refl _)) .nil) ?_
          rfl
         ·
          refine g_condF rfl ?_
          refine g_skip ?_
          refine g_inBlock ?_
          refine g_run (by kernel_rfl) [(0, .d), (1, .d), (2, .d)] rfl ?_
          refine r_d rfl rfl rfl (s_move rfl rfl) ?_
          refine r_d rfl rfl rfl (s_ar (r := ((i_6 + 1 : Nat) : Int)) rfl rfl rfl (by simp [iar]) (by omega)) ?_
          refine r_d rfl rfl rfl (s_assign rfl rfl) ?_
          refine r_end ?_
          refine g_sub [(2, .lst (h_a2.map enc_S_api_Fire)), (9, .int .i64 ((i_6 + 1 : Nat) : Int))] (Sub.cons' rfl (Sub.cons' rfl (Sub.nil _))) ?_
          exact IH2 _ _ _ (by omega) ⟨(i_6 + 1), rfl, rfl, rfl, (by omega), hr⟩
      ·
       refine g_sub [(1, .lst (b_a1.map encP)), (2, .lst (h_a2.map enc_S_api_Fire)), (8, .int .i64 ((0 : Nat) : Int))] (Sub.cons' rfl (Sub.cons' rfl (Sub.cons' rfl (Sub.nil _)))) ?_
       refine g_loop (fun n env σ => ∃ (i_5 : Nat), (n = b_a1.length - i_5) ∧ (env = [(1, .lst (b_a1.map encP)), (2, .lst (h_a2.map enc_S_api_Fire)), (8, .int .i64 (i_5 : Int))]) ∧ (σ = []) ∧ (i_5 ≤ b_a1.length) ∧ (lf_constraintlaw23_Parts_L1 kk1 (b_a1.drop i_5) = some res)) _ ⟨0, rfl, rfl, rfl, Nat.zero_le _, hr⟩ ?_
       rintro n _ _ ⟨i_5, rfl, rfl, rfl, hi1, hr⟩ IH1
       rcases listStep b_a1 i_5 hi1 with ⟨ht1, hd1, he1⟩ | ⟨q_9, ht1, hd1, hq1, hlt1⟩
       ·
        rw [hd1, lf_constraintlaw23_Parts_L1] at hr
        refine g_seq ?_
        refine g_seq ?_
        refine g_run (by kernel_rfl) [(0, .d), (1, .d), (2, .d), (3, .d)] rfl ?_
        refine r_d rfl rfl rfl (s_move rfl rfl) ?_
        refine r_d rfl rfl rfl (s_move rfl rfl) ?_
        refine r_d rfl rfl rfl (m_len (f := encP) b_a1 rfl el_api_Binds rfl (asl rfl)) ?_
        refine r_d rfl rfl rfl (s_cmp rfl rfl rfl rfl) ?_
        refine r_end ?_
        refine g_known 40 false rfl ht1 ?_
        refine g_condF rfl ?_
        refine g_exit rfl ?_
        refine g_sub [(2, .lst (h_a2.map enc_S_api_Fire))] (Sub.cons' rfl (Sub.nil _)) ?_
        exact HK1 _ _ ⟨rfl, rfl, hr⟩
       ·
        rw [hd1, lf_constraintlaw23_Parts_L1] at hr
        refine g_seq ?_
        refine g_seq ?_
        refine g_run (by kernel_rfl) [(0, .d), (1, .d), (2, .d), (3, .d)] rfl ?_
        refine r_d rfl rfl rfl (s_move rfl rfl) ?_
        refine r_d rfl rfl rfl (s_move rfl rfl) ?_
        refine r_d rfl rfl rfl (m_len (f := encP) b_a1 rfl el_api_Binds rfl (asl rfl)) ?_
        refine r_d rfl rfl rfl (s_cmp rfl rfl rfl rfl) ?_
        refine r_end ?_
        refine g_known 40 true rfl ht1 ?_
        refine g_condT rfl ?_
        refine g_skip ?_
        refine g_seq ?_
        refine g_block ?_
        refine g_seq ?_
        refine g_run (by kernel_rfl) [(0, .d), (1, .d), (2, .d), (3, .d), (4, .d), (5, .d), (6, .d)] rfl ?_
        refine r_d rfl rfl rfl (s_move rfl rfl) ?_
        refine r_d rfl rfl rfl (s_move rfl rfl) ?_
        refine r_d rfl rfl rfl (m_index (f := encP) b_a1 rfl el_api_Binds rfl (asl rfl) rfl hq1 sz_encP rfl) ?_
        refine r_d rfl rfl rfl (s_fieldAddr rfl fl_api_Bind_1 rfl rfl rfl rfl) ?_
        refine r_d rfl rfl rfl (s_load rfl rfl (by exact ty_api_Term) (sz_encT _)) ?_
        obtain ⟨r_10, hr_10, hr⟩ := bindS hr
        refine r_d rfl rfl rfl (s_callD rfl cl_constraintref03_Size (.cons rfl (Wk.refl _) .nil) (lx_constraintref03_Size _ _ hr_10)) ?_
        refine r_d rfl rfl rfl (s_cmp rfl rfl rfl rfl) ?_
        refine r_end ?_
        refine g_sB 49 rfl hr (fun h49_10 hr => ?_) (fun h49_10 hr => ?_)
        ·
         refine g_condT rfl ?_
         refine g_seq ?_
         refine g_run (by kernel_rfl) [(0, .d)] rfl ?_
         refine r_d rfl rfl rfl (s_assign rfl rfl) ?_
         refine r_end ?_
         obtain rfl := Option.some.inj hr
         refine g_ret Tryz.func57 _ (.cons (resTmp rfl (Wk.refl _)) .nil) ?_
         rfl
        ·
         refine g_condF rfl ?_
         refine g_skip ?_
         refine g_inBlock ?_
         refine g_run (by kernel_rfl) [(0, .d), (1, .d), (2, .d)] rfl ?_
         refine r_d rfl rfl rfl (s_move rfl rfl) ?_
         refine r_d rfl rfl rfl (s_ar (r := ((i_5 + 1 : Nat) : Int)) rfl rfl rfl (by simp [iar]) (by omega)) ?_
         refine r_d rfl rfl rfl (s_assign rfl rfl) ?_
         refine r_end ?_
         refine g_sub [(1, .lst (b_a1.map encP)), (2, .lst (h_a2.map enc_S_api_Fire)), (8, .int .i64 ((i_5 + 1 : Nat) : Int))] (Sub.cons' rfl (Sub.cons' rfl (Sub.cons' rfl (Sub.nil _)))) ?_
         exact IH1 _ _ _ (by omega) ⟨(i_5 + 1), rfl, rfl, rfl, (by omega), hr⟩
     ·
      refine g_sub [(0, .lst (l_a0.map encIt)), (1, .lst (b_a1.map encP)), (2, .lst (h_a2.map enc_S_api_Fire)), (7, .int .i64 ((0 : Nat) : Int))] (Sub.cons' rfl (Sub.cons' rfl (Sub.cons' rfl (Sub.cons' rfl (Sub.nil _))))) ?_
      refine g_loop (fun n env σ => ∃ (i_4 : Nat), (n = l_a0.length - i_4) ∧ (env = [(0, .lst (l_a0.map encIt)), (1, .lst (b_a1.map encP)), (2, .lst (h_a2.map enc_S_api_Fire)), (7, .int .i64 (i_4 : Int))]) ∧ (σ = []) ∧ (i_4 ≤ l_a0.length) ∧ (lf_constraintlaw23_Parts_L0 kk0 (l_a0.drop i_4) = some res)) _ ⟨0, rfl, rfl, rfl, Nat.zero_le _, hr⟩ ?_
      rintro n _ _ ⟨i_4, rfl, rfl, rfl, hi0, hr⟩ IH0
      rcases listStep l_a0 i_4 hi0 with ⟨ht0, hd0, he0⟩ | ⟨q_12, ht0, hd0, hq0, hlt0⟩
      ·
       rw [hd0, lf_constraintlaw23_Parts_L0] at hr
       refine g_seq ?_
       refine g_seq ?_
       refine g_run (by kernel_rfl) [(0, .d), (1, .d), (2, .d), (3, .d)] rfl ?_
       refine r_d rfl rfl rfl (s_move rfl rfl) ?_
       refine r_d rfl rfl rfl (s_move rfl rfl) ?_
       refine r_d rfl rfl rfl (m_len (f := encIt) l_a0 rfl el_L_api_Item rfl (asl rfl)) ?_
       refine r_d rfl rfl rfl (s_cmp rfl rfl rfl rfl) ?_
       refine r_end ?_
       refine g_known 26 false rfl ht0 ?_
       refine g_condF rfl ?_
       refine g_exit rfl ?_
       refine g_sub [(1, .lst (b_a1.map encP)), (2, .lst (h_a2.map enc_S_api_Fire))] (Sub.cons' rfl (Sub.cons' rfl (Sub.nil _))) ?_
       exact HK0 _ _ ⟨rfl, rfl, hr⟩
      ·
       rw [hd0, lf_constraintlaw23_Parts_L0] at hr
       refine g_seq ?_
       refine g_seq ?_
       refine g_run (by kernel_rfl) [(0, .d), (1, .d), (2, .d), (3, .d)] rfl ?_
       refine r_d rfl rfl rfl (s_move rfl rfl) ?_
       refine r_d rfl rfl rfl (s_move rfl rfl) ?_
       refine r_d rfl rfl rfl (m_len (f := encIt) l_a0 rfl el_L_api_Item rfl (asl rfl)) ?_
       refine r_d rfl rfl rfl (s_cmp rfl rfl rfl rfl) ?_
       refine r_end ?_
       refine g_known 26 true rfl ht0 ?_
       refine g_condT rfl ?_
       refine g_skip ?_
       refine g_seq ?_
       refine g_block ?_
       refine g_seq ?_
       refine g_run (by kernel_rfl) [(0, .d), (1, .d), (2, .d), (3, .d), (4, .d), (5, .d), (6, .d), (7, .d)] rfl ?_
       refine r_d rfl rfl rfl (s_move rfl rfl) ?_
       refine r_d rfl rfl rfl (s_move rfl rfl) ?_
       refine r_d rfl rfl rfl (m_index (f := encIt) l_a0 rfl el_L_api_Item rfl (asl rfl) rfl hq0 sz_encIt rfl) ?_
       refine r_d rfl rfl rfl (s_fieldAddr rfl fl_api_Item_1 rfl rfl rfl rfl) ?_
       refine r_d rfl rfl rfl (s_fieldAddr rfl fl_api_Atom_1 rfl rfl rfl rfl) ?_
       refine r_d rfl rfl rfl (s_load rfl rfl (by exact ty_L_api_Term) rfl) ?_
       obtain ⟨r_13, hr_13, hr⟩ := bindS hr
       refine r_d rfl rfl rfl (s_callD rfl cl_constraintlaw23_tiny (.cons rfl (Wk.refl _) .nil) (lg_constraintlaw23_tiny _ _ hr_13)) ?_
       refine r_d rfl rfl rfl (s_not rfl rfl) ?_
       refine r_end ?_
       refine g_sB 36 rfl hr (fun h36_13 hr => ?_) (fun h36_13 hr => ?_)
       ·
        refine g_condT rfl ?_
        refine g_seq ?_
        refine g_run (by kernel_rfl) [(0, .d)] rfl ?_
        refine r_d rfl rfl rfl (s_assign rfl rfl) ?_
        refine r_end ?_
        obtain rfl := Option.some.inj hr
        refine g_ret Tryz.func57 _ (.cons (resTmp rfl (Wk.refl _)) .nil) ?_
        rfl
       ·
        refine g_condF rfl ?_
        refine g_skip ?_
        refine g_inBlock ?_
        refine g_run (by kernel_rfl) [(0, .d), (1, .d), (2, .d)] rfl ?_
        refine r_d rfl rfl rfl (s_move rfl rfl) ?_
        refine r_d rfl rfl rfl (s_ar (r := ((i_4 + 1 : Nat) : Int)) rfl rfl rfl (by simp [iar]) (by omega)) ?_
        refine r_d rfl rfl rfl (s_assign rfl rfl) ?_
        refine r_end ?_
        refine g_sub [(0, .lst (l_a0.map encIt)), (1, .lst (b_a1.map encP)), (2, .lst (h_a2.map enc_S_api_Fire)), (7, .int .i64 ((i_4 + 1 : Nat) : Int))] (Sub.cons' rfl (Sub.cons' rfl (Sub.cons' rfl (Sub.cons' rfl (Sub.nil _))))) ?_
        exact IH0 _ _ _ (by omega) ⟨(i_4 + 1), rfl, rfl, rfl, (by omega), hr⟩

noncomputable def lf_constraintlaw52_small (c_a0 : S_api_Config) : Option (Bool) :=
  (bif (decide ((c_a0.f0_Stack.length : Int) ≤ (30 : Int))) then
  ((lf_constraintlaw52_goals c_a0.f0_Stack).bind fun r_2 =>
  ((lf_constraintlaw23_Goals r_2 30).bind fun r_3 =>
  (bif r_3 then
  ((lf_constraintlaw23_Parts c_a0.f1_Store c_a0.f2_Binds c_a0.f3_Fired).bind fun r_5 =>
  some (r_5))
  else
  some (false))))
  else
  some (false))

set_option maxHeartbeats 1000000 in
theorem lg_constraintlaw52_small (c_a0 : S_api_Config) (res : Bool) (hr : lf_constraintlaw52_small c_a0 = some res) : Gives Tryz.prog 16 [enc_S_api_Config c_a0] (.bool res) := by
  unfold lf_constraintlaw52_small at hr
  refine spec_env [(0, enc_S_api_Config c_a0)] Tryz.func16 rfl rfl fun K hK => ?_
  refine g_seq ?_
  refine g_run (by kernel_rfl) [(0, .d), (1, .d)] rfl ?_
  refine r_d rfl rfl rfl (s_box rfl rfl rfl) ?_
  refine r_d rfl rfl rfl (s_assign rfl rfl) ?_
  refine r_end ?_
  refine g_seq ?_
  refine g_run (by kernel_rfl) [(0, .d), (1, .d), (2, .d), (3, .d), (4, .d), (5, .d), (6, .d), (7, .d), (8, .d), (9, .d), (10, .d), (11, .d), (12, .d), (13, .d), (14, .d), (15, .d), (16, .d), (17, .d), (18, .d), (19, .d)] rfl ?_
  refine r_d rfl rfl rfl (s_fieldAddr rfl fl_api_Config_0 rfl rfl rfl rfl) ?_
  refine r_d rfl rfl rfl (s_load rfl rfl (by exact ty_L_api_Frame) rfl) ?_
  refine r_d rfl rfl rfl (m_len (f := enc_S_api_Frame) c_a0.f0_Stack rfl el_L_api_Frame rfl (asl rfl)) ?_
  refine r_d rfl rfl rfl (s_cmp rfl rfl rfl rfl) ?_
  refine r_d rfl rfl rfl (s_move rfl rfl) ?_
  refine r_sB 7 rfl hr (fun h7_0 hr => ?_) (fun h7_0 hr => ?_)
  ·
   refine r_d rfl rfl rfl (s_fieldAddr rfl fl_api_Config_0 rfl rfl rfl rfl) ?_
   refine r_d rfl rfl rfl (s_load rfl rfl (by exact ty_L_api_Frame) rfl) ?_
   obtain ⟨r_2, hr_2, hr⟩ := bindS hr
   refine r_d rfl rfl rfl (s_callD rfl cl_constraintlaw52_goals (.cons rfl (Wk.refl _) .nil) (lg_constraintlaw52_goals _ _ hr_2)) ?_
   obtain ⟨r_3, hr_3, hr⟩ := bindS hr
   refine r_d rfl rfl rfl (s_callD rfl cl_constraintlaw23_Goals (.cons rfl (Wk.refl _) (.cons rfl (Wk.refl _) .nil)) (lg_constraintlaw23_Goals _ _ _ hr_3)) ?_
   refine r_d rfl rfl rfl (s_pickT rfl rfl rfl) ?_
   refine r_d rfl rfl rfl (s_move rfl rfl) ?_
   refine r_sB 13 rfl hr (fun h13_3 hr => ?_) (fun h13_3 hr => ?_)
   ·
    refine r_d rfl rfl rfl (s_fieldAddr rfl fl_api_Config_1 rfl rfl rfl rfl) ?_
    refine r_d rfl rfl rfl (s_load rfl rfl (by exact ty_L_api_Item) rfl) ?_
    refine r_d rfl rfl rfl (s_fieldAddr rfl fl_api_Config_2 rfl rfl rfl rfl) ?_
    refine r_d rfl rfl rfl (s_load rfl rfl (by exact ty_api_Binds) rfl) ?_
    refine r_d rfl rfl rfl (s_fieldAddr rfl fl_api_Config_3 rfl rfl rfl rfl) ?_
    refine r_d rfl rfl rfl (s_load rfl rfl (by exact ty_L_api_Fire) rfl) ?_
    obtain ⟨r_5, hr_5, hr⟩ := bindS hr
    refine r_d rfl rfl rfl (s_callD rfl cl_constraintlaw23_Parts (.cons rfl (Wk.refl _) (.cons rfl (Wk.refl _) (.cons rfl (Wk.refl _) .nil))) (lg_constraintlaw23_Parts _ _ _ _ hr_5)) ?_
    refine r_d rfl rfl rfl (s_pickT rfl rfl rfl) ?_
    refine r_d rfl rfl rfl (s_assign rfl rfl) ?_
    refine r_end ?_
    obtain rfl := Option.some.inj hr
    refine g_ret Tryz.func16 _ (.cons (resTmp rfl (Wk.refl _)) .nil) ?_
    rfl
   ·
    refine r_skip rfl rfl rfl ?_
    refine r_skip rfl rfl rfl ?_
    refine r_skip rfl rfl rfl ?_
    refine r_skip rfl rfl rfl ?_
    refine r_skip rfl rfl rfl ?_
    refine r_skip rfl rfl rfl ?_
    refine r_skip rfl rfl rfl ?_
    refine r_d rfl rfl rfl (s_pickF rfl rfl rfl) ?_
    refine r_d rfl rfl rfl (s_assign rfl rfl) ?_
    refine r_end ?_
    obtain rfl := Option.some.inj hr
    refine g_ret Tryz.func16 _ (.cons (resTmp rfl (Wk.refl _)) .nil) ?_
    rfl
  ·
   refine r_skip rfl rfl rfl ?_
   refine r_skip rfl rfl rfl ?_
   refine r_skip rfl rfl rfl ?_
   refine r_skip rfl rfl rfl ?_
   refine r_d rfl rfl rfl (s_pickF rfl rfl rfl) ?_
   refine r_d rfl rfl rfl (s_move rfl rfl) ?_
   refine r_skip rfl rfl rfl ?_
   refine r_skip rfl rfl rfl ?_
   refine r_skip rfl rfl rfl ?_
   refine r_skip rfl rfl rfl ?_
   refine r_skip rfl rfl rfl ?_
   refine r_skip rfl rfl rfl ?_
   refine r_skip rfl rfl rfl ?_
   refine r_d rfl rfl rfl (s_pickF rfl rfl rfl) ?_
   refine r_d rfl rfl rfl (s_assign rfl rfl) ?_
   refine r_end ?_
   obtain rfl := Option.some.inj hr
   refine g_ret Tryz.func16 _ (.cons (resTmp rfl (Wk.refl _)) .nil) ?_
   rfl

noncomputable def lf_constraintref26_sameFrames_L0 (k : Option (Bool)) (b_a1 : (List S_api_Frame)) : List S_api_Frame → Nat → Option (Bool)
  | [], i_2 =>
  k
  | q_3 :: rest, i_2 =>
  ((getI b_a1 (i_2 : Int)).bind fun q_4 =>
  (bif (q_3.f1_ID != q_4.f1_ID) then
  some (false)
  else
  (bif (q_3.f2_Occ != q_4.f2_Occ) then
  some (false)
  else
  ((x_sameG q_3.f0_Goal q_4.f0_Goal).bind fun r_7 =>
  (bif (!r_7) then
  some (false)
  else
  (lf_constraintref26_sameFrames_L0 k b_a1 rest (i_2 + 1)))))))
noncomputable def lf_constraintref26_sameFrames (a_a0 : (List S_api_Frame)) (b_a1 : (List S_api_Frame)) : Option (Bool) :=
  (bif ((a_a0.length : Int) != (b_a1.length : Int)) then
  some (false)
  else
  (lf_constraintref26_sameFrames_L0 (some (true)) b_a1 a_a0 0))

set_option maxHeartbeats 1000000 in
theorem lg_constraintref26_sameFrames (a_a0 : (List S_api_Frame)) (b_a1 : (List S_api_Frame)) (res : Bool) (hr : lf_constraintref26_sameFrames a_a0 b_a1 = some res) : Gives Tryz.prog 89 [.lst (a_a0.map enc_S_api_Frame), .lst (b_a1.map enc_S_api_Frame)] (.bool res) := by
  unfold lf_constraintref26_sameFrames at hr
  refine spec_env [(0, .lst (a_a0.map enc_S_api_Frame)), (1, .lst (b_a1.map enc_S_api_Frame))] Tryz.func89 rfl rfl fun K hK => ?_
  refine g_seq ?_
  refine g_run (by kernel_rfl) [(0, .d)] rfl ?_
  refine r_d rfl rfl rfl (s_assign rfl rfl) ?_
  refine r_end ?_
  refine g_seq ?_
  refine g_seq ?_
  refine g_run (by kernel_rfl) [(0, .d), (1, .d), (2, .d), (3, .d), (4, .d)] rfl ?_
  refine r_d rfl rfl rfl (s_move rfl rfl) ?_
  refine r_d rfl rfl rfl (m_len (f := enc_S_api_Frame) a_a0 rfl el_L_api_Frame rfl (asl rfl)) ?_
  refine r_d rfl rfl rfl (s_move rfl rfl) ?_
  refine r_d rfl rfl rfl (m_len (f := enc_S_api_Frame) b_a1 rfl el_L_api_Frame rfl (asl rfl)) ?_
  refine r_d rfl rfl rfl (s_cmp rfl rfl rfl rfl) ?_
  refine r_end ?_
  refine g_sB 10 rfl hr (fun h10_0 hr => ?_) (fun h10_0 hr => ?_)
  ·
   refine g_condT rfl ?_
   refine g_seq ?_
   refine g_run (by kernel_rfl) [(0, .d)] rfl ?_
   refine r_d rfl rfl rfl (s_assign rfl rfl) ?_
   refine r_end ?_
   obtain rfl := Option.some.inj hr
   refine g_ret Tryz.func89 _ (.cons (resTmp rfl (Wk.refl _)) .nil) ?_
   rfl
  ·
   refine g_condF rfl ?_
   refine g_skip ?_
   refine g_seq ?_
   refine g_seq ?_
   refine g_run (by kernel_rfl) [(0, .d)] rfl ?_
   refine r_d rfl rfl rfl (s_assign rfl rfl) ?_
   refine r_end ?_
   obtain ⟨kk0, hkk0, hr⟩ := exK (fun k => lf_constraintref26_sameFrames_L0 k b_a1 a_a0 0) hr
   refine g_len 0 rfl (asl rfl) fun hla0 => ?_
   simp only [List.length_map] at hla0
   refine g_blockJ (fun env σ => env = [] ∧ σ = [] ∧ kk0 = some res) ?_ (fun HK0 => ?_)
   ·
    rintro _ _ ⟨rfl, rfl, hr⟩
    rw [hkk0] at hr
    refine g_seq ?_
    refine g_run (by kernel_rfl) [(0, .d)] rfl ?_
    refine r_d rfl rfl rfl (s_assign rfl rfl) ?_
    refine r_end ?_
    obtain rfl := Option.some.inj hr
    refine g_ret Tryz.func89 _ (.cons (resTmp rfl (Wk.refl _)) .nil) ?_
    rfl
   ·
    refine g_sub [(0, .lst (a_a0.map enc_S_api_Frame)), (1, .lst (b_a1.map enc_S_api_Frame)), (5, .int .i64 ((0 : Nat) : Int))] (Sub.cons' rfl (Sub.cons' rfl (Sub.cons' rfl (Sub.nil _)))) ?_
    refine g_loop (fun n env σ => ∃ (i_2 : Nat), (n = a_a0.length - i_2) ∧ (env = [(0, .lst (a_a0.map enc_S_api_Frame)), (1, .lst (b_a1.map enc_S_api_Frame)), (5, .int .i64 (i_2 : Int))]) ∧ (σ = []) ∧ (i_2 ≤ a_a0.length) ∧ (lf_constraintref26_sameFrames_L0 kk0 b_a1 (a_a0.drop i_2) i_2 = some res)) _ ⟨0, rfl, rfl, rfl, Nat.zero_le _, hr⟩ ?_
    rintro n _ _ ⟨i_2, rfl, rfl, rfl, hi0, hr⟩ IH0
    rcases listStep a_a0 i_2 hi0 with ⟨ht0, hd0, he0⟩ | ⟨q_3, ht0, hd0, hq0, hlt0⟩
    ·
     rw [hd0, lf_constraintref26_sameFrames_L0] at hr
     refine g_seq ?_
     refine g_seq ?_
     refine g_run (by kernel_rfl) [(0, .d), (1, .d), (2, .d), (3, .d)] rfl ?_
     refine r_d rfl rfl rfl (s_move rfl rfl) ?_
     refine r_d rfl rfl rfl (s_move rfl rfl) ?_
     refine r_d rfl rfl rfl (m_len (f := enc_S_api_Frame) a_a0 rfl el_L_api_Frame rfl (asl rfl)) ?_
     refine r_d rfl rfl rfl (s_cmp rfl rfl rfl rfl) ?_
     refine r_end ?_
     refine g_known 14 false rfl ht0 ?_
     refine g_condF rfl ?_
     refine g_exit rfl ?_
     refine g_sub [] (Sub.nil _) ?_
     exact HK0 _ _ ⟨rfl, rfl, hr⟩
    ·
     rw [hd0, lf_constraintref26_sameFrames_L0] at hr
     refine g_seq ?_
     refine g_seq ?_
     refine g_run (by kernel_rfl) [(0, .d), (1, .d), (2, .d), (3, .d)] rfl ?_
     refine r_d rfl rfl rfl (s_move rfl rfl) ?_
     refine r_d rfl rfl rfl (s_move rfl rfl) ?_
     refine r_d rfl rfl rfl (m_len (f := enc_S_api_Frame) a_a0 rfl el_L_api_Frame rfl (asl rfl)) ?_
     refine r_d rfl rfl rfl (s_cmp rfl rfl rfl rfl) ?_
     refine r_end ?_
     refine g_known 14 true rfl ht0 ?_
     refine g_condT rfl ?_
     refine g_skip ?_
     refine g_seq ?_
     refine g_block ?_
     refine g_seq ?_
     refine g_any (by kernel_rfl) (by kernel_rfl) [(0, .d), (1, .d), (2, .d), (3, .d), (4, .d), (5, .d), (6, .d), (7, .d), (8, .d), (9, .d), (10, .d), (11, .d), (12, .d), (13, .d), (14, .d), (15, .d), (16, .d), (17, .d), (18, .d), (19, .d), (20, .d), (21, .d), (22, .d), (23, .d), (24, .d), (25, .d), (26, .d), (27, .d), (28, .d), (29, .d), (30, .d), (31, .d), (32, .d), (33, .d), (34, .d), (35, .d), (36, .d), (37, .d)] (by kernel_rfl) ?_
     refine r_d rfl rfl rfl (s_move rfl rfl) ?_
     refine r_d rfl rfl rfl (s_move rfl rfl) ?_
     refine r_d rfl rfl rfl (m_index (f := enc_S_api_Frame) a_a0 rfl el_L_api_Frame rfl (asl rfl) rfl hq0 sz_S_api_Frame rfl) ?_
     refine r_d rfl rfl rfl (s_fieldAddr rfl fl_api_Frame_1 rfl rfl (by simp [szs, sz, sz_encG]) rfl) ?_
     refine r_d rfl rfl rfl (s_load rfl rfl (by exact ty_int) rfl) ?_
     refine r_d rfl rfl rfl (s_move rfl rfl) ?_
     refine r_d rfl rfl rfl (s_move rfl rfl) ?_
     obtain ⟨q_4, hq_4, hr⟩ := bindS hr
     refine r_d rfl rfl rfl (m_index (f := enc_S_api_Frame) b_a1 rfl el_L_api_Frame rfl (asl rfl) rfl hq_4 sz_S_api_Frame rfl) ?_
     refine r_d rfl rfl rfl (s_fieldAddr rfl fl_api_Frame_1 rfl rfl (by simp [szs, sz, sz_encG]) rfl) ?_
     refine r_d rfl rfl rfl (s_load rfl rfl (by exact ty_int) rfl) ?_
     refine r_d rfl rfl rfl (s_cmp rfl rfl rfl rfl) ?_
     refine r_d rfl rfl rfl (s_move rfl rfl) ?_
     refine r_sB 28 rfl hr (fun h28_4 hr => ?_) (fun h28_4 hr => ?_)
     ·
      refine r_skip rfl rfl rfl ?_
      refine r_skip rfl rfl rfl ?_
      refine r_skip rfl rfl rfl ?_
      refine r_skip rfl rfl rfl ?_
      refine r_skip rfl rfl rfl ?_
      refine r_skip rfl rfl rfl ?_
      refine r_skip rfl rfl rfl ?_
      refine r_skip rfl rfl rfl ?_
      refine r_skip rfl rfl rfl ?_
      refine r_skip rfl rfl rfl ?_
      refine r_skip rfl rfl rfl ?_
      refine r_d rfl rfl rfl (s_pickT rfl rfl rfl) ?_
      refine r_d rfl rfl rfl (s_move rfl rfl) ?_
      refine r_skip rfl rfl rfl ?_
      refine r_skip rfl rfl rfl ?_
      refine r_skip rfl rfl rfl ?_
      refine r_skip rfl rfl rfl ?_
      refine r_skip rfl rfl rfl ?_
      refine r_skip rfl rfl rfl ?_
      refine r_skip rfl rfl rfl ?_
      refine r_skip rfl rfl rfl ?_
      refine r_skip rfl rfl rfl ?_
      refine r_skip rfl rfl rfl ?_
      refine r_skip rfl rfl rfl ?_
      refine r_skip rfl rfl rfl ?_
      refine r_d rfl rfl rfl (s_pickT rfl rfl rfl) ?_
      refine r_end ?_
      refine g_condT rfl ?_
      refine g_seq ?_
      refine g_run (by kernel_rfl) [(0, .d)] rfl ?_
      refine r_d rfl rfl rfl (s_assign rfl rfl) ?_
      refine r_end ?_
      obtain rfl := Option.some.inj hr
      refine g_ret Tryz.func89 _ (.cons (resTmp rfl (Wk.refl _)) .nil) ?_
      rfl
     ·
      refine r_d rfl rfl rfl (s_move rfl rfl) ?_
      refine r_d rfl rfl rfl (s_move rfl rfl) ?_
      refine r_d rfl rfl rfl (m_index (f := enc_S_api_Frame) a_a0 rfl el_L_api_Frame rfl (asl rfl) rfl hq0 sz_S_api_Frame rfl) ?_
      refine r_d rfl rfl rfl (s_fieldAddr rfl fl_api_Frame_2 rfl rfl (by simp [szs, sz, sz_encG]) rfl) ?_
      refine r_d rfl rfl rfl (s_load rfl rfl (by exact ty_int) rfl) ?_
      refine r_d rfl rfl rfl (s_move rfl rfl) ?_
      refine r_d rfl rfl rfl (s_move rfl rfl) ?_
      refine r_d rfl rfl rfl (m_index (f := enc_S_api_Frame) b_a1 rfl el_L_api_Frame rfl (asl rfl) rfl hq_4 sz_S_api_Frame rfl) ?_
      refine r_d rfl rfl rfl (s_fieldAddr rfl fl_api_Frame_2 rfl rfl (by simp [szs, sz, sz_encG]) rfl) ?_
      refine r_d rfl rfl rfl (s_load rfl rfl (by exact ty_int) rfl) ?_
      refine r_d rfl rfl rfl (s_cmp rfl rfl rfl rfl) ?_
      refine r_d rfl rfl rfl (s_pickF rfl rfl rfl) ?_
      refine r_d rfl rfl rfl (s_move rfl rfl) ?_
      refine r_sB 41 rfl hr (fun h41_5 hr => ?_) (fun h41_5 hr => ?_)
      ·
       refine r_skip rfl rfl rfl ?_
       refine r_skip rfl rfl rfl ?_
       refine r_skip rfl rfl rfl ?_
       refine r_skip rfl rfl rfl ?_
       refine r_skip rfl rfl rfl ?_
       refine r_skip rfl rfl rfl ?_
       refine r_skip rfl rfl rfl ?_
       refine r_skip rfl rfl rfl ?_
       refine r_skip rfl rfl rfl ?_
       refine r_skip rfl rfl rfl ?_
       refine r_skip rfl rfl rfl ?_
       refine r_skip rfl rfl rfl ?_
       refine r_d rfl rfl rfl (s_pickT rfl rfl rfl) ?_
       refine r_end ?_
       refine g_condT rfl ?_
       refine g_seq ?_
       refine g_run (by kernel_rfl) [(0, .d)] rfl ?_
       refine r_d rfl rfl rfl (s_assign rfl rfl) ?_
       refine r_end ?_
       obtain rfl := Option.some.inj hr
       refine g_ret Tryz.func89 _ (.cons (resTmp rfl (Wk.refl _)) .nil) ?_
       rfl
      ·
       refine r_d rfl rfl rfl (s_move rfl rfl) ?_
       refine r_d rfl rfl rfl (s_move rfl rfl) ?_
       refine r_d rfl rfl rfl (m_index (f := enc_S_api_Frame) a_a0 rfl el_L_api_Frame rfl (asl rfl) rfl hq0 sz_S_api_Frame rfl) ?_
       refine r_d rfl rfl rfl (s_fieldAddr rfl fl_api_Frame_0 rfl rfl rfl rfl) ?_
       refine r_d rfl rfl rfl (s_load rfl rfl (by exact ty_api_Goal) (sz_encG _)) ?_
       refine r_d rfl rfl rfl (s_move rfl rfl) ?_
       refine r_d rfl rfl rfl (s_move rfl rfl) ?_
       refine r_d rfl rfl rfl (m_index (f := enc_S_api_Frame) b_a1 rfl el_L_api_Frame rfl (asl rfl) rfl hq_4 sz_S_api_Frame rfl) ?_
       refine r_d rfl rfl rfl (s_fieldAddr rfl fl_api_Frame_0 rfl rfl rfl rfl) ?_
       refine r_d rfl rfl rfl (s_load rfl rfl (by exact ty_api_Goal) (sz_encG _)) ?_
       obtain ⟨r_7, hr_7, hr⟩ := bindS hr
       refine r_d rfl rfl rfl (s_callD rfl cl_constraintref03_SameGoal (.cons rfl (Wk.refl _) (.cons rfl (Wk.refl _) .nil)) (lx_constraintref03_SameGoal _ _ _ hr_7)) ?_
       refine r_d rfl rfl rfl (s_not rfl rfl) ?_
       refine r_d rfl rfl rfl (s_pickF rfl rfl rfl) ?_
       refine r_end ?_
       refine g_sB 54 rfl hr (fun h54_7 hr => ?_) (fun h54_7 hr => ?_)
       ·
        refine g_condT rfl ?_
        refine g_seq ?_
        refine g_run (by kernel_rfl) [(0, .d)] rfl ?_
        refine r_d rfl rfl rfl (s_assign rfl rfl) ?_
        refine r_end ?_
        obtain rfl := Option.some.inj hr
        refine g_ret Tryz.func89 _ (.cons (resTmp rfl (Wk.refl _)) .nil) ?_
        rfl
       ·
        refine g_condF rfl ?_
        refine g_skip ?_
        refine g_inBlock ?_
        refine g_run (by kernel_rfl) [(0, .d), (1, .d), (2, .d)] rfl ?_
        refine r_d rfl rfl rfl (s_move rfl rfl) ?_
        refine r_d rfl rfl rfl (s_ar (r := ((i_2 + 1 : Nat) : Int)) rfl rfl rfl (by simp [iar]) (by omega)) ?_
        refine r_d rfl rfl rfl (s_assign rfl rfl) ?_
        refine r_end ?_
        refine g_sub [(0, .lst (a_a0.map enc_S_api_Frame)), (1, .lst (b_a1.map enc_S_api_Frame)), (5, .int .i64 ((i_2 + 1 : Nat) : Int))] (Sub.cons' rfl (Sub.cons' rfl (Sub.cons' rfl (Sub.nil _)))) ?_
        exact IH0 _ _ _ (by omega) ⟨(i_2 + 1), rfl, rfl, rfl, (by omega), hr⟩

noncomputable def lf_constraintref19_Same_L0 (k : Option (Bool)) (b_a1 : (List (Int × At))) : List (Int × At) → Nat → Option (Bool)
  | [], i_2 =>
  k
  | q_3 :: rest, i_2 =>
  ((getI b_a1 (i_2 : Int)).bind fun q_4 =>
  (bif (q_3.1 != q_4.1) then
  some (false)
  else
  ((x_sameA q_3.2 q_4.2).bind fun r_6 =>
  (bif (!r_6) then
  some (false)
  else
  (lf_constraintref19_Same_L0 k b_a1 rest (i_2 + 1))))))
noncomputable def lf_constraintref19_Same (a_a0 : (List (Int × At))) (b_a1 : (List (Int × At))) : Option (Bool) :=
  (bif ((a_a0.length : Int) != (b_a1.length : Int)) then
  some (false)
  else
  (lf_constraintref19_Same_L0 (some (true)) b_a1 a_a0 0))

set_option maxHeartbeats 1000000 in
theorem lg_constraintref19_Same (a_a0 : (List (Int × At))) (b_a1 : (List (Int × At))) (res : Bool) (hr : lf_constraintref19_Same a_a0 b_a1 = some res) : Gives Tryz.prog 90 [.lst (a_a0.map encIt), .lst (b_a1.map encIt)] (.bool res) := by
  unfold lf_constraintref19_Same at hr
  refine spec_env [(0, .lst (a_a0.map encIt)), (1, .lst (b_a1.map encIt))] Tryz.func90 rfl rfl fun K hK => ?_
  refine g_seq ?_
  refine g_run (by kernel_rfl) [(0, .d)] rfl ?_
  refine r_d rfl rfl rfl (s_assign rfl rfl) ?_
  refine r_end ?_
  refine g_seq ?_
  refine g_seq ?_
  refine g_run (by kernel_rfl) [(0, .d), (1, .d), (2, .d), (3, .d), (4, .d)] rfl ?_
  refine r_d rfl rfl rfl (s_move rfl rfl) ?_
  refine r_d rfl rfl rfl (m_len (f := encIt) a_a0 rfl el_L_api_Item rfl (asl rfl)) ?_
  refine r_d rfl rfl rfl (s_move rfl rfl) ?_
  refine r_d rfl rfl rfl (m_len (f := encIt) b_a1 rfl el_L_api_Item rfl (asl rfl)) ?_
  refine r_d rfl rfl rfl (s_cmp rfl rfl rfl rfl) ?_
  refine r_end ?_
  refine g_sB 10 rfl hr (fun h10_0 hr => ?_) (fun h10_0 hr => ?_)
  ·
   refine g_condT rfl ?_
   refine g_seq ?_
   refine g_run (by kernel_rfl) [(0, .d)] rfl ?_
   refine r_d rfl rfl rfl (s_assign rfl rfl) ?_
   refine r_end ?_
   obtain rfl := Option.some.inj hr
   refine g_ret Tryz.func90 _ (.cons (resTmp rfl (Wk.refl _)) .nil) ?_
   rfl
  ·
   refine g_condF rfl ?_
   refine g_skip ?_
   refine g_seq ?_
   refine g_seq ?_
   refine g_run (by kernel_rfl) [(0, .d)] rfl ?_
   refine r_d rfl rfl rfl (s_assign rfl rfl) ?_
   refine r_end ?_
   obtain ⟨kk0, hkk0, hr⟩ := exK (fun k => lf_constraintref19_Same_L0 k b_a1 a_a0 0) hr
   refine g_len 0 rfl (asl rfl) fun hla0 => ?_
   simp only [List.length_map] at hla0
   refine g_blockJ (fun env σ => env = [] ∧ σ = [] ∧ kk0 = some res) ?_ (fun HK0 => ?_)
   ·
    rintro _ _ ⟨rfl, rfl, hr⟩
    rw [hkk0] at hr
    refine g_seq ?_
    refine g_run (by kernel_rfl) [(0, .d)] rfl ?_
    refine r_d rfl rfl rfl (s_assign rfl rfl) ?_
    refine r_end ?_
    obtain rfl := Option.some.inj hr
    refine g_ret Tryz.func90 _ (.cons (resTmp rfl (Wk.refl _)) .nil) ?_
    rfl
   ·
    refine g_sub [(0, .lst (a_a0.map encIt)), (1, .lst (b_a1.map encIt)), (5, .int .i64 ((0 : Nat) : Int))] (Sub.cons' rfl (Sub.cons' rfl (Sub.cons' rfl (Sub.nil _)))) ?_
    refine g_loop (fun n env σ => ∃ (i_2 : Nat), (n = a_a0.length - i_2) ∧ (env = [(0, .lst (a_a0.map encIt)), (1, .lst (b_a1.map encIt)), (5, .int .i64 (i_2 : Int))]) ∧ (σ = []) ∧ (i_2 ≤ a_a0.length) ∧ (lf_constraintref19_Same_L0 kk0 b_a1 (a_a0.drop i_2) i_2 = some res)) _ ⟨0, rfl, rfl, rfl, Nat.zero_le _, hr⟩ ?_
    rintro n _ _ ⟨i_2, rfl, rfl, rfl, hi0, hr⟩ IH0
    rcases listStep a_a0 i_2 hi0 with ⟨ht0, hd0, he0⟩ | ⟨q_3, ht0, hd0, hq0, hlt0⟩
    ·
     rw [hd0, lf_constraintref19_Same_L0] at hr
     refine g_seq ?_
     refine g_seq ?_
     refine g_run (by kernel_rfl) [(0, .d), (1, .d), (2, .d), (3, .d)] rfl ?_
     refine r_d rfl rfl rfl (s_move rfl rfl) ?_
     refine r_d rfl rfl rfl (s_move rfl rfl) ?_
     refine r_d rfl rfl rfl (m_len (f := encIt) a_a0 rfl el_L_api_Item rfl (asl rfl)) ?_
     refine r_d rfl rfl rfl (s_cmp rfl rfl rfl rfl) ?_
     refine r_end ?_
     refine g_known 14 false rfl ht0 ?_
     refine g_condF rfl ?_
     refine g_exit rfl ?_
     refine g_sub [] (Sub.nil _) ?_
     exact HK0 _ _ ⟨rfl, rfl, hr⟩
    ·
     rw [hd0, lf_constraintref19_Same_L0] at hr
     refine g_seq ?_
     refine g_seq ?_
     refine g_run (by kernel_rfl) [(0, .d), (1, .d), (2, .d), (3, .d)] rfl ?_
     refine r_d rfl rfl rfl (s_move rfl rfl) ?_
     refine r_d rfl rfl rfl (s_move rfl rfl) ?_
     refine r_d rfl rfl rfl (m_len (f := encIt) a_a0 rfl el_L_api_Item rfl (asl rfl)) ?_
     refine r_d rfl rfl rfl (s_cmp rfl rfl rfl rfl) ?_
     refine r_end ?_
     refine g_known 14 true rfl ht0 ?_
     refine g_condT rfl ?_
     refine g_skip ?_
     refine g_seq ?_
     refine g_block ?_
     refine g_seq ?_
     refine g_any (by kernel_rfl) (by kernel_rfl) [(0, .d), (1, .d), (2, .d), (3, .d), (4, .d), (5, .d), (6, .d), (7, .d), (8, .d), (9, .d), (10, .d), (11, .d), (12, .d), (13, .d), (14, .d), (15, .d), (16, .d), (17, .d), (18, .d), (19, .d), (20, .d), (21, .d), (22, .d), (23, .d), (24, .d)] (by kernel_rfl) ?_
     refine r_d rfl rfl rfl (s_move rfl rfl) ?_
     refine r_d rfl rfl rfl (s_move rfl rfl) ?_
     refine r_d rfl rfl rfl (m_index (f := encIt) a_a0 rfl el_L_api_Item rfl (asl rfl) rfl hq0 sz_encIt rfl) ?_
     refine r_d rfl rfl rfl (s_fieldAddr rfl fl_api_Item_0 rfl rfl rfl rfl) ?_
     refine r_d rfl rfl rfl (s_load rfl rfl (by exact ty_int) rfl) ?_
     refine r_d rfl rfl rfl (s_move rfl rfl) ?_
     refine r_d rfl rfl rfl (s_move rfl rfl) ?_
     obtain ⟨q_4, hq_4, hr⟩ := bindS hr
     refine r_d rfl rfl rfl (m_index (f := encIt) b_a1 rfl el_L_api_Item rfl (asl rfl) rfl hq_4 sz_encIt rfl) ?_
     refine r_d rfl rfl rfl (s_fieldAddr rfl fl_api_Item_0 rfl rfl rfl rfl) ?_
     refine r_d rfl rfl rfl (s_load rfl rfl (by exact ty_int) rfl) ?_
     refine r_d rfl rfl rfl (s_cmp rfl rfl rfl rfl) ?_
     refine r_d rfl rfl rfl (s_move rfl rfl) ?_
     refine r_sB 28 rfl hr (fun h28_4 hr => ?_) (fun h28_4 hr => ?_)
     ·
      refine r_skip rfl rfl rfl ?_
      refine r_skip rfl rfl rfl ?_
      refine r_skip rfl rfl rfl ?_
      refine r_skip rfl rfl rfl ?_
      refine r_skip rfl rfl rfl ?_
      refine r_skip rfl rfl rfl ?_
      refine r_skip rfl rfl rfl ?_
      refine r_skip rfl rfl rfl ?_
      refine r_skip rfl rfl rfl ?_
      refine r_skip rfl rfl rfl ?_
      refine r_skip rfl rfl rfl ?_
      refine r_skip rfl rfl rfl ?_
      refine r_d rfl rfl rfl (s_pickT rfl rfl rfl) ?_
      refine r_end ?_
      refine g_condT rfl ?_
      refine g_seq ?_
      refine g_run (by kernel_rfl) [(0, .d)] rfl ?_
      refine r_d rfl rfl rfl (s_assign rfl rfl) ?_
      refine r_end ?_
      obtain rfl := Option.some.inj hr
      refine g_ret Tryz.func90 _ (.cons (resTmp rfl (Wk.refl _)) .nil) ?_
      rfl
     ·
      refine r_d rfl rfl rfl (s_move rfl rfl) ?_
      refine r_d rfl rfl rfl (s_move rfl rfl) ?_
      refine r_d rfl rfl rfl (m_index (f := encIt) a_a0 rfl el_L_api_Item rfl (asl rfl) rfl hq0 sz_encIt rfl) ?_
      refine r_d rfl rfl rfl (s_fieldAddr rfl fl_api_Item_1 rfl rfl rfl rfl) ?_
      refine r_d rfl rfl rfl (s_load rfl rfl (by exact ty_api_Atom) (sz_encA _)) ?_
      refine r_d rfl rfl rfl (s_move rfl rfl) ?_
      refine r_d rfl rfl rfl (s_move rfl rfl) ?_
      refine r_d rfl rfl rfl (m_index (f := encIt) b_a1 rfl el_L_api_Item rfl (asl rfl) rfl hq_4 sz_encIt rfl) ?_
      refine r_d rfl rfl rfl (s_fieldAddr rfl fl_api_Item_1 rfl rfl rfl rfl) ?_
      refine r_d rfl rfl rfl (s_load rfl rfl (by exact ty_api_Atom) (sz_encA _)) ?_
      obtain ⟨r_6, hr_6, hr⟩ := bindS hr
      refine r_d rfl rfl rfl (s_callD rfl cl_constraintref03_SameAtom (.cons rfl (Wk.refl _) (.cons rfl (Wk.refl _) .nil)) (lx_constraintref03_SameAtom _ _ _ hr_6)) ?_
      refine r_d rfl rfl rfl (s_not rfl rfl) ?_
      refine r_d rfl rfl rfl (s_pickF rfl rfl rfl) ?_
      refine r_end ?_
      refine g_sB 41 rfl hr (fun h41_6 hr => ?_) (fun h41_6 hr => ?_)
      ·
       refine g_condT rfl ?_
       refine g_seq ?_
       refine g_run (by kernel_rfl) [(0, .d)] rfl ?_
       refine r_d rfl rfl rfl (s_assign rfl rfl) ?_
       refine r_end ?_
       obtain rfl := Option.some.inj hr
       refine g_ret Tryz.func90 _ (.cons (resTmp rfl (Wk.refl _)) .nil) ?_
       rfl
      ·
       refine g_condF rfl ?_
       refine g_skip ?_
       refine g_inBlock ?_
       refine g_run (by kernel_rfl) [(0, .d), (1, .d), (2, .d)] rfl ?_
       refine r_d rfl rfl rfl (s_move rfl rfl) ?_
       refine r_d rfl rfl rfl (s_ar (r := ((i_2 + 1 : Nat) : Int)) rfl rfl rfl (by simp [iar]) (by omega)) ?_
       refine r_d rfl rfl rfl (s_assign rfl rfl) ?_
       refine r_end ?_
       refine g_sub [(0, .lst (a_a0.map encIt)), (1, .lst (b_a1.map encIt)), (5, .int .i64 ((i_2 + 1 : Nat) : Int))] (Sub.cons' rfl (Sub.cons' rfl (Sub.cons' rfl (Sub.nil _)))) ?_
       exact IH0 _ _ _ (by omega) ⟨(i_2 + 1), rfl, rfl, rfl, (by omega), hr⟩

noncomputable def lf_constraintref06_Same_L0 (k : Option (Bool)) (c_a1 : (List (Int × T))) : List (Int × T) → Nat → Option (Bool)
  | [], i_2 =>
  k
  | q_3 :: rest, i_2 =>
  (bif (decide ((i_2 : Int) < (c_a1.length : Int))) then
  ((getI c_a1 (i_2 : Int)).bind fun q_5 =>
  (bif (q_3.1 != q_5.1) then
  some (false)
  else
  ((x_sameT q_3.2 q_5.2).bind fun r_7 =>
  (bif (!r_7) then
  some (false)
  else
  (lf_constraintref06_Same_L0 k c_a1 rest (i_2 + 1))))))
  else
  k)
noncomputable def lf_constraintref06_Same (a_a0 : (List (Int × T))) (c_a1 : (List (Int × T))) : Option (Bool) :=
  (bif ((a_a0.length : Int) != (c_a1.length : Int)) then
  some (false)
  else
  (lf_constraintref06_Same_L0 (some (true)) c_a1 a_a0 0))

set_option maxHeartbeats 1000000 in
theorem lg_constraintref06_Same (a_a0 : (List (Int × T))) (c_a1 : (List (Int × T))) (res : Bool) (hr : lf_constraintref06_Same a_a0 c_a1 = some res) : Gives Tryz.prog 91 [.lst (a_a0.map encP), .lst (c_a1.map encP)] (.bool res) := by
  unfold lf_constraintref06_Same at hr
  refine spec_env [(0, .lst (a_a0.map encP)), (1, .lst (c_a1.map encP))] Tryz.func91 rfl rfl fun K hK => ?_
  refine g_seq ?_
  refine g_run (by kernel_rfl) [(0, .d)] rfl ?_
  refine r_d rfl rfl rfl (s_assign rfl rfl) ?_
  refine r_end ?_
  refine g_seq ?_
  refine g_seq ?_
  refine g_run (by kernel_rfl) [(0, .d), (1, .d), (2, .d), (3, .d), (4, .d)] rfl ?_
  refine r_d rfl rfl rfl (s_move rfl rfl) ?_
  refine r_d rfl rfl rfl (m_len (f := encP) a_a0 rfl el_api_Binds rfl (asl rfl)) ?_
  refine r_d rfl rfl rfl (s_move rfl rfl) ?_
  refine r_d rfl rfl rfl (m_len (f := encP) c_a1 rfl el_api_Binds rfl (asl rfl)) ?_
  refine r_d rfl rfl rfl (s_cmp rfl rfl rfl rfl) ?_
  refine r_end ?_
  refine g_sB 10 rfl hr (fun h10_0 hr => ?_) (fun h10_0 hr => ?_)
  ·
   refine g_condT rfl ?_
   refine g_seq ?_
   refine g_run (by kernel_rfl) [(0, .d)] rfl ?_
   refine r_d rfl rfl rfl (s_assign rfl rfl) ?_
   refine r_end ?_
   obtain rfl := Option.some.inj hr
   refine g_ret Tryz.func91 _ (.cons (resTmp rfl (Wk.refl _)) .nil) ?_
   rfl
  ·
   refine g_condF rfl ?_
   refine g_skip ?_
   refine g_seq ?_
   refine g_seq ?_
   refine g_run (by kernel_rfl) [(0, .d)] rfl ?_
   refine r_d rfl rfl rfl (s_assign rfl rfl) ?_
   refine r_end ?_
   obtain ⟨kk0, hkk0, hr⟩ := exK (fun k => lf_constraintref06_Same_L0 k c_a1 a_a0 0) hr
   refine g_len 0 rfl (asl rfl) fun hla0 => ?_
   simp only [List.length_map] at hla0
   refine g_blockJ (fun env σ => env = [] ∧ σ = [] ∧ kk0 = some res) ?_ (fun HK0 => ?_)
   ·
    rintro _ _ ⟨rfl, rfl, hr⟩
    rw [hkk0] at hr
    refine g_seq ?_
    refine g_run (by kernel_rfl) [(0, .d)] rfl ?_
    refine r_d rfl rfl rfl (s_assign rfl rfl) ?_
    refine r_end ?_
    obtain rfl := Option.some.inj hr
    refine g_ret Tryz.func91 _ (.cons (resTmp rfl (Wk.refl _)) .nil) ?_
    rfl
   ·
    refine g_sub [(0, .lst (a_a0.map encP)), (1, .lst (c_a1.map encP)), (5, .int .i64 ((0 : Nat) : Int))] (Sub.cons' rfl (Sub.cons' rfl (Sub.cons' rfl (Sub.nil _)))) ?_
    refine g_loop (fun n env σ => ∃ (i_2 : Nat), (n = a_a0.length - i_2) ∧ (env = [(0, .lst (a_a0.map encP)), (1, .lst (c_a1.map encP)), (5, .int .i64 (i_2 : Int))]) ∧ (σ = []) ∧ (i_2 ≤ a_a0.length) ∧ (lf_constraintref06_Same_L0 kk0 c_a1 (a_a0.drop i_2) i_2 = some res)) _ ⟨0, rfl, rfl, rfl, Nat.zero_le _, hr⟩ ?_
    rintro n _ _ ⟨i_2, rfl, rfl, rfl, hi0, hr⟩ IH0
    rcases listStep a_a0 i_2 hi0 with ⟨ht0, hd0, he0⟩ | ⟨q_3, ht0, hd0, hq0, hlt0⟩
    ·
     rw [hd0, lf_constraintref06_Same_L0] at hr
     refine g_seq ?_
     refine g_seq ?_
     refine g_run (by kernel_rfl) [(0, .d), (1, .d), (2, .d), (3, .d), (4, .d), (5, .d), (6, .d), (7, .d), (8, .d), (9, .d)] rfl ?_
     refine r_d rfl rfl rfl (s_move rfl rfl) ?_
     refine r_d rfl rfl rfl (s_move rfl rfl) ?_
     refine r_d rfl rfl rfl (m_len (f := encP) a_a0 rfl el_api_Binds rfl (asl rfl)) ?_
     refine r_d rfl rfl rfl (s_cmp rfl rfl rfl rfl) ?_
     refine r_d rfl rfl rfl (s_move rfl rfl) ?_
     refine r_known 15 false rfl ht0 ?_
     refine r_skip rfl rfl rfl ?_
     refine r_skip rfl rfl rfl ?_
     refine r_skip rfl rfl rfl ?_
     refine r_skip rfl rfl rfl ?_
     refine r_d rfl rfl rfl (s_pickF rfl rfl rfl) ?_
     refine r_end ?_
     refine g_condF rfl ?_
     refine g_exit rfl ?_
     refine g_sub [] (Sub.nil _) ?_
     exact HK0 _ _ ⟨rfl, rfl, hr⟩
    ·
     rw [hd0, lf_constraintref06_Same_L0] at hr
     refine g_seq ?_
     refine g_seq ?_
     refine g_run (by kernel_rfl) [(0, .d), (1, .d), (2, .d), (3, .d), (4, .d), (5, .d), (6, .d), (7, .d), (8, .d), (9, .d)] rfl ?_
     refine r_d rfl rfl rfl (s_move rfl rfl) ?_
     refine r_d rfl rfl rfl (s_move rfl rfl) ?_
     refine r_d rfl rfl rfl (m_len (f := encP) a_a0 rfl el_api_Binds rfl (asl rfl)) ?_
     refine r_d rfl rfl rfl (s_cmp rfl rfl rfl rfl) ?_
     refine r_d rfl rfl rfl (s_move rfl rfl) ?_
     refine r_known 15 true rfl ht0 ?_
     refine r_d rfl rfl rfl (s_move rfl rfl) ?_
     refine r_d rfl rfl rfl (s_move rfl rfl) ?_
     refine r_d rfl rfl rfl (m_len (f := encP) c_a1 rfl el_api_Binds rfl (asl rfl)) ?_
     refine r_d rfl rfl rfl (s_cmp rfl rfl rfl rfl) ?_
     refine r_d rfl rfl rfl (s_pickT rfl rfl rfl) ?_
     refine r_end ?_
     refine g_sB 20 rfl hr (fun h20_3 hr => ?_) (fun h20_3 hr => ?_)
     ·
      refine g_condT rfl ?_
      refine g_skip ?_
      refine g_seq ?_
      refine g_block ?_
      refine g_seq ?_
      refine g_any (by kernel_rfl) (by kernel_rfl) [(0, .d), (1, .d), (2, .d), (3, .d), (4, .d), (5, .d), (6, .d), (7, .d), (8, .d), (9, .d), (10, .d), (11, .d), (12, .d), (13, .d), (14, .d), (15, .d), (16, .d), (17, .d), (18, .d), (19, .d), (20, .d), (21, .d), (22, .d), (23, .d), (24, .d)] (by kernel_rfl) ?_
      refine r_d rfl rfl rfl (s_move rfl rfl) ?_
      refine r_d rfl rfl rfl (s_move rfl rfl) ?_
      refine r_d rfl rfl rfl (m_index (f := encP) a_a0 rfl el_api_Binds rfl (asl rfl) rfl hq0 sz_encP rfl) ?_
      refine r_d rfl rfl rfl (s_fieldAddr rfl fl_api_Bind_0 rfl rfl rfl rfl) ?_
      refine r_d rfl rfl rfl (s_load rfl rfl (by exact ty_int) rfl) ?_
      refine r_d rfl rfl rfl (s_move rfl rfl) ?_
      refine r_d rfl rfl rfl (s_move rfl rfl) ?_
      obtain ⟨q_5, hq_5, hr⟩ := bindS hr
      refine r_d rfl rfl rfl (m_index (f := encP) c_a1 rfl el_api_Binds rfl (asl rfl) rfl hq_5 sz_encP rfl) ?_
      refine r_d rfl rfl rfl (s_fieldAddr rfl fl_api_Bind_0 rfl rfl rfl rfl) ?_
      refine r_d rfl rfl rfl (s_load rfl rfl (by exact ty_int) rfl) ?_
      refine r_d rfl rfl rfl (s_cmp rfl rfl rfl rfl) ?_
      refine r_d rfl rfl rfl (s_move rfl rfl) ?_
      refine r_sB 34 rfl hr (fun h34_5 hr => ?_) (fun h34_5 hr => ?_)
      ·
       refine r_skip rfl rfl rfl ?_
       refine r_skip rfl rfl rfl ?_
       refine r_skip rfl rfl rfl ?_
       refine r_skip rfl rfl rfl ?_
       refine r_skip rfl rfl rfl ?_
       refine r_skip rfl rfl rfl ?_
       refine r_skip rfl rfl rfl ?_
       refine r_skip rfl rfl rfl ?_
       refine r_skip rfl rfl rfl ?_
       refine r_skip rfl rfl rfl ?_
       refine r_skip rfl rfl rfl ?_
       refine r_skip rfl rfl rfl ?_
       refine r_d rfl rfl rfl (s_pickT rfl rfl rfl) ?_
       refine r_end ?_
       refine g_condT rfl ?_
       refine g_seq ?_
       refine g_run (by kernel_rfl) [(0, .d)] rfl ?_
       refine r_d rfl rfl rfl (s_assign rfl rfl) ?_
       refine r_end ?_
       obtain rfl := Option.some.inj hr
       refine g_ret Tryz.func91 _ (.cons (resTmp rfl (Wk.refl _)) .nil) ?_
       rfl
      ·
       refine r_d rfl rfl rfl (s_move rfl rfl) ?_
       refine r_d rfl rfl rfl (s_move rfl rfl) ?_
       refine r_d rfl rfl rfl (m_index (f := encP) a_a0 rfl el_api_Binds rfl (asl rfl) rfl hq0 sz_encP rfl) ?_
       refine r_d rfl rfl rfl (s_fieldAddr rfl fl_api_Bind_1 rfl rfl rfl rfl) ?_
       refine r_d rfl rfl rfl (s_load rfl rfl (by exact ty_api_Term) (sz_encT _)) ?_
       refine r_d rfl rfl rfl (s_move rfl rfl) ?_
       refine r_d rfl rfl rfl (s_move rfl rfl) ?_
       refine r_d rfl rfl rfl (m_index (f := encP) c_a1 rfl el_api_Binds rfl (asl rfl) rfl hq_5 sz_encP rfl) ?_
       refine r_d rfl rfl rfl (s_fieldAddr rfl fl_api_Bind_1 rfl rfl rfl rfl) ?_
       refine r_d rfl rfl rfl (s_load rfl rfl (by exact ty_api_Term) (sz_encT _)) ?_
       obtain ⟨r_7, hr_7, hr⟩ := bindS hr
       refine r_d rfl rfl rfl (s_callD rfl cl_constraintref03_Same (.cons rfl (Wk.refl _) (.cons rfl (Wk.refl _) .nil)) (lx_constraintref03_Same _ _ _ hr_7)) ?_
       refine r_d rfl rfl rfl (s_not rfl rfl) ?_
       refine r_d rfl rfl rfl (s_pickF rfl rfl rfl) ?_
       refine r_end ?_
       refine g_sB 47 rfl hr (fun h47_7 hr => ?_) (fun h47_7 hr => ?_)
       ·
        refine g_condT rfl ?_
        refine g_seq ?_
        refine g_run (by kernel_rfl) [(0, .d)] rfl ?_
        refine r_d rfl rfl rfl (s_assign rfl rfl) ?_
        refine r_end ?_
        obtain rfl := Option.some.inj hr
        refine g_ret Tryz.func91 _ (.cons (resTmp rfl (Wk.refl _)) .nil) ?_
        rfl
       ·
        refine g_condF rfl ?_
        refine g_skip ?_
        refine g_inBlock ?_
        refine g_run (by kernel_rfl) [(0, .d), (1, .d), (2, .d)] rfl ?_
        refine r_d rfl rfl rfl (s_move rfl rfl) ?_
        refine r_d rfl rfl rfl (s_ar (r := ((i_2 + 1 : Nat) : Int)) rfl rfl rfl (by simp [iar]) (by omega)) ?_
        refine r_d rfl rfl rfl (s_assign rfl rfl) ?_
        refine r_end ?_
        refine g_sub [(0, .lst (a_a0.map encP)), (1, .lst (c_a1.map encP)), (5, .int .i64 ((i_2 + 1 : Nat) : Int))] (Sub.cons' rfl (Sub.cons' rfl (Sub.cons' rfl (Sub.nil _)))) ?_
        exact IH0 _ _ _ (by omega) ⟨(i_2 + 1), rfl, rfl, rfl, (by omega), hr⟩
     ·
      refine g_condF rfl ?_
      refine g_exit rfl ?_
      refine g_sub [] (Sub.nil _) ?_
      exact HK0 _ _ ⟨rfl, rfl, hr⟩

noncomputable def lf_constraintref21_ints (a_a0 : Int) (b_a1 : Int) : Option (Int) :=
  (bif (decide (a_a0 < b_a1)) then
  some ((-1))
  else
  (bif (decide (a_a0 > b_a1)) then
  some (1)
  else
  some (0)))

set_option maxHeartbeats 1000000 in
theorem lg_constraintref21_ints (a_a0 : Int) (b_a1 : Int) (res : Int) (hr : lf_constraintref21_ints a_a0 b_a1 = some res) : Gives Tryz.prog 210 [.int .i64 a_a0, .int .i64 b_a1] (.int .i64 res) := by
  unfold lf_constraintref21_ints at hr
  refine spec_env [(0, .int .i64 a_a0), (1, .int .i64 b_a1)] Tryz.func210 rfl rfl fun K hK => ?_
  refine g_seq ?_
  refine g_run (by kernel_rfl) [(0, .d)] rfl ?_
  refine r_d rfl rfl rfl (s_assign rfl rfl) ?_
  refine r_end ?_
  refine g_seq ?_
  refine g_block ?_
  refine g_seq ?_
  refine g_run (by kernel_rfl) [(0, .d), (1, .d), (2, .d), (3, .d)] rfl ?_
  refine r_d rfl rfl rfl (s_move rfl rfl) ?_
  refine r_d rfl rfl rfl (s_move rfl rfl) ?_
  refine r_d rfl rfl rfl (s_cmp rfl rfl rfl rfl) ?_
  refine r_d rfl rfl rfl (s_assign rfl rfl) ?_
  refine r_end ?_
  refine g_sB 5 rfl hr (fun h5_0 hr => ?_) (fun h5_0 hr => ?_)
  ·
   refine g_condT rfl ?_
   refine g_seq ?_
   refine g_run (by kernel_rfl) [(0, .d)] rfl ?_
   refine r_d rfl rfl rfl (s_assign rfl rfl) ?_
   refine r_end ?_
   obtain rfl := Option.some.inj hr
   refine g_ret Tryz.func210 _ (.cons (resTmp rfl (Wk.refl _)) .nil) ?_
   rfl
  ·
   refine g_condF rfl ?_
   refine g_seq ?_
   refine g_run (by kernel_rfl) [(0, .d), (1, .d), (2, .d), (3, .d)] rfl ?_
   refine r_d rfl rfl rfl (s_move rfl rfl) ?_
   refine r_d rfl rfl rfl (s_move rfl rfl) ?_
   refine r_d rfl rfl rfl (s_cmp rfl rfl rfl rfl) ?_
   refine r_d rfl rfl rfl (s_assign rfl rfl) ?_
   refine r_end ?_
   refine g_sB 9 rfl hr (fun h9_1 hr => ?_) (fun h9_1 hr => ?_)
   ·
    refine g_condT rfl ?_
    refine g_seq ?_
    refine g_run (by kernel_rfl) [(0, .d)] rfl ?_
    refine r_d rfl rfl rfl (s_assign rfl rfl) ?_
    refine r_end ?_
    obtain rfl := Option.some.inj hr
    refine g_ret Tryz.func210 _ (.cons (resTmp rfl (Wk.refl _)) .nil) ?_
    rfl
   ·
    refine g_condF rfl ?_
    refine g_skip ?_
    refine g_inBlock ?_
    refine g_seq ?_
    refine g_run (by kernel_rfl) [(0, .d)] rfl ?_
    refine r_d rfl rfl rfl (s_assign rfl rfl) ?_
    refine r_end ?_
    obtain rfl := Option.some.inj hr
    refine g_ret Tryz.func210 _ (.cons (resTmp rfl (Wk.refl _)) .nil) ?_
    rfl

noncomputable def lf_constraintref21_Compare_L0 (k : (Int) → Option (Int)) (b_a1 : S_api_Fire) : List Int → Int → Nat → Option (Int)
  | [], c_3, i_4 =>
  (k c_3)
  | q_6 :: rest, c_3, i_4 =>
  (bif (decide ((i_4 : Int) < (b_a1.f1_IDs.length : Int))) then
  (bif (c_3 == (0 : Int)) then
  ((getI b_a1.f1_IDs (i_4 : Int)).bind fun q_9 =>
  ((lf_constraintref21_ints q_6 q_9).bind fun r_10 =>
  (lf_constraintref21_Compare_L0 k b_a1 rest r_10 (i_4 + 1))))
  else
  (k c_3))
  else
  (k c_3))

noncomputable def lf_constraintref21_Compare_J0 (k : (Int) → Option (Int)) (a_a0 : S_api_Fire) (b_a1 : S_api_Fire) (r_1 : Int) : Option (Int) :=
  (bif (r_1 == (0 : Int)) then
  ((lf_constraintref21_ints (a_a0.f1_IDs.length : Int) (b_a1.f1_IDs.length : Int)).bind fun r_12 =>
  (k r_12))
  else
  (k r_1))
noncomputable def lf_constraintref21_Compare (a_a0 : S_api_Fire) (b_a1 : S_api_Fire) : Option (Int) :=
  ((lf_constraintref21_ints a_a0.f0_Rule b_a1.f0_Rule).bind fun r_1 =>
  (lf_constraintref21_Compare_J0 (fun c_2 =>
  (lf_constraintref21_Compare_L0 (fun c_5 =>
  some (c_5)) b_a1 a_a0.f1_IDs c_2 0)) a_a0 b_a1 r_1))

set_option maxHeartbeats 1000000 in
theorem lg_constraintref21_Compare (a_a0 : S_api_Fire) (b_a1 : S_api_Fire) (res : Int) (hr : lf_constraintref21_Compare a_a0 b_a1 = some res) : Gives Tryz.prog 168 [enc_S_api_Fire a_a0, enc_S_api_Fire b_a1] (.int .i64 res) := by
  unfold lf_constraintref21_Compare at hr
  refine spec_env [(0, enc_S_api_Fire a_a0), (1, enc_S_api_Fire b_a1)] Tryz.func168 rfl rfl fun K hK => ?_
  refine g_seq ?_
  refine g_run (by kernel_rfl) [(0, .d), (1, .d), (2, .d)] rfl ?_
  refine r_d rfl rfl rfl (s_box rfl rfl rfl) ?_
  refine r_d rfl rfl rfl (s_box rfl rfl rfl) ?_
  refine r_d rfl rfl rfl (s_assign rfl rfl) ?_
  refine r_end ?_
  refine g_seq ?_
  refine g_run (by kernel_rfl) [(0, .d), (1, .d), (2, .d), (3, .d), (4, .d), (5, .d)] rfl ?_
  refine r_d rfl rfl rfl (s_fieldAddr rfl fl_api_Fire_0 rfl rfl rfl rfl) ?_
  refine r_d rfl rfl rfl (s_load rfl rfl (by exact ty_int) rfl) ?_
  refine r_d rfl rfl rfl (s_fieldAddr rfl fl_api_Fire_0 rfl rfl rfl rfl) ?_
  refine r_d rfl rfl rfl (s_load rfl rfl (by exact ty_int) rfl) ?_
  obtain ⟨r_1, hr_1, hr⟩ := bindS hr
  refine r_d rfl rfl rfl (s_callD rfl cl_constraintref21_ints (.cons rfl (Wk.refl _) (.cons rfl (Wk.refl _) .nil)) (lg_constraintref21_ints _ _ _ hr_1)) ?_
  refine r_d rfl rfl rfl (s_assign rfl rfl) ?_
  refine r_end ?_
  obtain ⟨kkJ0, hkkJ0, hr⟩ := exK (fun k => lf_constraintref21_Compare_J0 k a_a0 b_a1 r_1) hr
  refine g_seqJ (fun env σ => ∃ (c_2 : Int), env = [(2, .ptr (enc_S_api_Fire a_a0)), (3, .ptr (enc_S_api_Fire b_a1)), (5, .int .i64 c_2)] ∧ σ = [] ∧ kkJ0 c_2 = some res) ?_ (fun HKJ0 => ?_)
  ·
   rintro _ _ ⟨c_2, rfl, rfl, hr⟩
   rw [hkkJ0] at hr
   refine g_seq ?_
   refine g_seq ?_
   refine g_run (by kernel_rfl) [(0, .d)] rfl ?_
   refine r_d rfl rfl rfl (s_assign rfl rfl) ?_
   refine r_end ?_
   obtain ⟨kk0, hkk0, hr⟩ := exK (fun k => lf_constraintref21_Compare_L0 k b_a1 a_a0.f1_IDs c_2 0) hr
   refine g_lenP 2 [1] (l := a_a0.f1_IDs.map (D.int .i64)) rfl rfl (asl rfl) fun hla0 => ?_
   simp only [List.length_map] at hla0
   refine g_blockJ (fun env σ => ∃ (c_5 : Int), env = [(5, .int .i64 c_5)] ∧ σ = [] ∧ kk0 c_5 = some res) ?_ (fun HK0 => ?_)
   ·
    rintro _ _ ⟨c_5, rfl, rfl, hr⟩
    rw [hkk0] at hr
    refine g_seq ?_
    refine g_run (by kernel_rfl) [(0, .d), (1, .d)] rfl ?_
    refine r_d rfl rfl rfl (s_move rfl rfl) ?_
    refine r_d rfl rfl rfl (s_assign rfl rfl) ?_
    refine r_end ?_
    obtain rfl := Option.some.inj hr
    refine g_ret Tryz.func168 _ (.cons (resTmp rfl (Wk.refl _)) .nil) ?_
    rfl
   ·
    refine g_sub [(2, .ptr (enc_S_api_Fire a_a0)), (3, .ptr (enc_S_api_Fire b_a1)), (5, .int .i64 c_2), (6, .int .i64 ((0 : Nat) : Int))] (Sub.cons' rfl (Sub.cons' rfl (Sub.cons' rfl (Sub.cons' rfl (Sub.nil _))))) ?_
    refine g_loop (fun n env σ => ∃ (c_3 : Int) (i_4 : Nat), (n = a_a0.f1_IDs.length - i_4) ∧ (env = [(2, .ptr (enc_S_api_Fire a_a0)), (3, .ptr (enc_S_api_Fire b_a1)), (5, .int .i64 c_3), (6, .int .i64 (i_4 : Int))]) ∧ (σ = []) ∧ (i_4 ≤ a_a0.f1_IDs.length) ∧ (lf_constraintref21_Compare_L0 kk0 b_a1 (a_a0.f1_IDs.drop i_4) c_3 i_4 = some res)) _ ⟨c_2, 0, rfl, rfl, rfl, Nat.zero_le _, hr⟩ ?_
    rintro n _ _ ⟨c_3, i_4, rfl, rfl, rfl, hi0, hr⟩ IH0
    rcases listStep a_a0.f1_IDs i_4 hi0 with ⟨ht0, hd0, he0⟩ | ⟨q_6, ht0, hd0, hq0, hlt0⟩
    ·
     rw [hd0, lf_constraintref21_Compare_L0] at hr
     refine g_seq ?_
     refine g_seq ?_
     refine g_run (by kernel_rfl) [(0, .d), (1, .d), (2, .d), (3, .d), (4, .d), (5, .d), (6, .d), (7, .d), (8, .d), (9, .d), (10, .d), (11, .d), (12, .d), (13, .d), (14, .d), (15, .d)] rfl ?_
     refine r_d rfl rfl rfl (s_move rfl rfl) ?_
     refine r_d rfl rfl rfl (s_fieldAddr rfl fl_api_Fire_1 rfl rfl rfl rfl) ?_
     refine r_d rfl rfl rfl (s_load rfl rfl (by exact ty_L_int) rfl) ?_
     refine r_d rfl rfl rfl (m_len (f := (D.int .i64)) a_a0.f1_IDs rfl el_L_int rfl (asl rfl)) ?_
     refine r_d rfl rfl rfl (s_cmp rfl rfl rfl rfl) ?_
     refine r_d rfl rfl rfl (s_move rfl rfl) ?_
     refine r_known 26 false rfl ht0 ?_
     refine r_skip rfl rfl rfl ?_
     refine r_skip rfl rfl rfl ?_
     refine r_skip rfl rfl rfl ?_
     refine r_skip rfl rfl rfl ?_
     refine r_skip rfl rfl rfl ?_
     refine r_d rfl rfl rfl (s_pickF rfl rfl rfl) ?_
     refine r_d rfl rfl rfl (s_move rfl rfl) ?_
     refine r_skip rfl rfl rfl ?_
     refine r_skip rfl rfl rfl ?_
     refine r_d rfl rfl rfl (s_pickF rfl rfl rfl) ?_
     refine r_end ?_
     refine g_condF rfl ?_
     refine g_exit rfl ?_
     refine g_sub [(5, .int .i64 c_3)] (Sub.cons' rfl (Sub.nil _)) ?_
     exact HK0 _ _ ⟨c_3, rfl, rfl, hr⟩
    ·
     rw [hd0, lf_constraintref21_Compare_L0] at hr
     refine g_seq ?_
     refine g_seq ?_
     refine g_run (by kernel_rfl) [(0, .d), (1, .d), (2, .d), (3, .d), (4, .d), (5, .d), (6, .d), (7, .d), (8, .d), (9, .d), (10, .d), (11, .d), (12, .d), (13, .d), (14, .d), (15, .d)] rfl ?_
     refine r_d rfl rfl rfl (s_move rfl rfl) ?_
     refine r_d rfl rfl rfl (s_fieldAddr rfl fl_api_Fire_1 rfl rfl rfl rfl) ?_
     refine r_d rfl rfl rfl (s_load rfl rfl (by exact ty_L_int) rfl) ?_
     refine r_d rfl rfl rfl (m_len (f := (D.int .i64)) a_a0.f1_IDs rfl el_L_int rfl (asl rfl)) ?_
     refine r_d rfl rfl rfl (s_cmp rfl rfl rfl rfl) ?_
     refine r_d rfl rfl rfl (s_move rfl rfl) ?_
     refine r_known 26 true rfl ht0 ?_
     refine r_d rfl rfl rfl (s_move rfl rfl) ?_
     refine r_d rfl rfl rfl (s_fieldAddr rfl fl_api_Fire_1 rfl rfl rfl rfl) ?_
     refine r_d rfl rfl rfl (s_load rfl rfl (by exact ty_L_int) rfl) ?_
     refine r_d rfl rfl rfl (m_len (f := (D.int .i64)) b_a1.f1_IDs rfl el_L_int rfl (asl rfl)) ?_
     refine r_d rfl rfl rfl (s_cmp rfl rfl rfl rfl) ?_
     refine r_d rfl rfl rfl (s_pickT rfl rfl rfl) ?_
     refine r_d rfl rfl rfl (s_move rfl rfl) ?_
     refine r_sB 33 rfl hr (fun h33_6 hr => ?_) (fun h33_6 hr => ?_)
     ·
      refine r_d rfl rfl rfl (s_move rfl rfl) ?_
      refine r_d rfl rfl rfl (s_cmp rfl rfl rfl rfl) ?_
      refine r_d rfl rfl rfl (s_pickT rfl rfl rfl) ?_
      refine r_end ?_
      refine g_sB 36 rfl hr (fun h36_7 hr => ?_) (fun h36_7 hr => ?_)
      ·
       refine g_condT rfl ?_
       refine g_skip ?_
       refine g_seq ?_
       refine g_block ?_
       refine g_any (by kernel_rfl) (by kernel_rfl) [(0, .d), (1, .d), (2, .d), (3, .d), (4, .d), (5, .d), (6, .d), (7, .d), (8, .d), (9, .d), (10, .d), (11, .d)] (by kernel_rfl) ?_
       refine r_d rfl rfl rfl (s_fieldAddr rfl fl_api_Fire_1 rfl rfl rfl rfl) ?_
       refine r_d rfl rfl rfl (s_load rfl rfl (by exact ty_L_int) rfl) ?_
       refine r_d rfl rfl rfl (s_move rfl rfl) ?_
       refine r_d rfl rfl rfl (m_index (f := (D.int .i64)) a_a0.f1_IDs rfl el_L_int rfl (asl rfl) rfl hq0 (fun _ => rfl) rfl) ?_
       refine r_d rfl rfl rfl (s_load rfl rfl (by exact ty_int) rfl) ?_
       refine r_d rfl rfl rfl (s_fieldAddr rfl fl_api_Fire_1 rfl rfl rfl rfl) ?_
       refine r_d rfl rfl rfl (s_load rfl rfl (by exact ty_L_int) rfl) ?_
       refine r_d rfl rfl rfl (s_move rfl rfl) ?_
       obtain ⟨q_9, hq_9, hr⟩ := bindS hr
       refine r_d rfl rfl rfl (m_index (f := (D.int .i64)) b_a1.f1_IDs rfl el_L_int rfl (asl rfl) rfl hq_9 (fun _ => rfl) rfl) ?_
       refine r_d rfl rfl rfl (s_load rfl rfl (by exact ty_int) rfl) ?_
       obtain ⟨r_10, hr_10, hr⟩ := bindS hr
       refine r_d rfl rfl rfl (s_callD rfl cl_constraintref21_ints (.cons rfl (Wk.refl _) (.cons rfl (Wk.refl _) .nil)) (lg_constraintref21_ints _ _ _ hr_10)) ?_
       refine r_d rfl rfl rfl (s_assign rfl rfl) ?_
       refine r_end ?_
       refine g_inBlock ?_
       refine g_run (by kernel_rfl) [(0, .d), (1, .d), (2, .d)] rfl ?_
       refine r_d rfl rfl rfl (s_move rfl rfl) ?_
       refine r_d rfl rfl rfl (s_ar (r := ((i_4 + 1 : Nat) : Int)) rfl rfl rfl (by simp [iar]) (by omega)) ?_
       refine r_d rfl rfl rfl (s_assign rfl rfl) ?_
       refine r_end ?_
       refine g_sub [(2, .ptr (enc_S_api_Fire a_a0)), (3, .ptr (enc_S_api_Fire b_a1)), (5, .int .i64 r_10), (6, .int .i64 ((i_4 + 1 : Nat) : Int))] (Sub.cons' rfl (Sub.cons' rfl (Sub.cons' rfl (Sub.cons' rfl (Sub.nil _))))) ?_
       exact IH0 _ _ _ (by omega) ⟨r_10, (i_4 + 1), rfl, rfl, rfl, (by omega), hr⟩
      ·
       refine g_condF rfl ?_
       refine g_exit rfl ?_
       refine g_sub [(5, .int .i64 c_3)] (Sub.cons' rfl (Sub.nil _)) ?_
       exact HK0 _ _ ⟨c_3, rfl, rfl, hr⟩
     ·
      refine r_skip rfl rfl rfl ?_
      refine r_skip rfl rfl rfl ?_
      refine r_d rfl rfl rfl (s_pickF rfl rfl rfl) ?_
      refine r_end ?_
      refine g_condF rfl ?_
      refine g_exit rfl ?_
      refine g_sub [(5, .int .i64 c_3)] (Sub.cons' rfl (Sub.nil _)) ?_
      exact HK0 _ _ ⟨c_3, rfl, rfl, hr⟩
  ·
   unfold lf_constraintref21_Compare_J0 at hr
   refine g_seq ?_
   refine g_run (by kernel_rfl) [(0, .d), (1, .d)] rfl ?_
   refine r_d rfl rfl rfl (s_move rfl rfl) ?_
   refine r_d rfl rfl rfl (s_cmp rfl rfl rfl rfl) ?_
   refine r_end ?_
   refine g_sB 13 rfl hr (fun h13_10 hr => ?_) (fun h13_10 hr => ?_)
   ·
    refine g_condT rfl ?_
    refine g_run (by kernel_rfl) [(0, .d), (1, .d), (2, .d), (3, .d), (4, .d), (5, .d), (6, .d), (7, .d)] rfl ?_
    refine r_d rfl rfl rfl (s_fieldAddr rfl fl_api_Fire_1 rfl rfl rfl rfl) ?_
    refine r_d rfl rfl rfl (s_load rfl rfl (by exact ty_L_int) rfl) ?_
    refine r_d rfl rfl rfl (m_len (f := (D.int .i64)) a_a0.f1_IDs rfl el_L_int rfl (asl rfl)) ?_
    refine r_d rfl rfl rfl (s_fieldAddr rfl fl_api_Fire_1 rfl rfl rfl rfl) ?_
    refine r_d rfl rfl rfl (s_load rfl rfl (by exact ty_L_int) rfl) ?_
    refine r_d rfl rfl rfl (m_len (f := (D.int .i64)) b_a1.f1_IDs rfl el_L_int rfl (asl rfl)) ?_
    obtain ⟨r_12, hr_12, hr⟩ := bindS hr
    refine r_d rfl rfl rfl (s_callD rfl cl_constraintref21_ints (.cons rfl (Wk.refl _) (.cons rfl (Wk.refl _) .nil)) (lg_constraintref21_ints _ _ _ hr_12)) ?_
    refine r_d rfl rfl rfl (s_assign rfl rfl) ?_
    refine r_end ?_
    refine g_sub [(2, .ptr (enc_S_api_Fire a_a0)), (3, .ptr (enc_S_api_Fire b_a1)), (5, .int .i64 r_12)] (Sub.cons' rfl (Sub.cons' rfl (Sub.cons' rfl (Sub.nil _)))) ?_
    exact HKJ0 _ _ ⟨r_12, rfl, rfl, hr⟩
   ·
    refine g_condF rfl ?_
    refine g_skip ?_
    refine g_sub [(2, .ptr (enc_S_api_Fire a_a0)), (3, .ptr (enc_S_api_Fire b_a1)), (5, .int .i64 r_1)] (Sub.cons' rfl (Sub.cons' rfl (Sub.cons' rfl (Sub.nil _)))) ?_
    exact HKJ0 _ _ ⟨r_1, rfl, rfl, hr⟩

noncomputable def lf_constraintref21_Same_L0 (k : Option (Bool)) (b_a1 : (List S_api_Fire)) : List S_api_Fire → Nat → Option (Bool)
  | [], i_2 =>
  k
  | q_3 :: rest, i_2 =>
  (bif (decide ((i_2 : Int) < (b_a1.length : Int))) then
  ((getI b_a1 (i_2 : Int)).bind fun q_5 =>
  ((lf_constraintref21_Compare q_3 q_5).bind fun r_6 =>
  (bif (r_6 != (0 : Int)) then
  some (false)
  else
  (lf_constraintref21_Same_L0 k b_a1 rest (i_2 + 1)))))
  else
  k)
noncomputable def lf_constraintref21_Same (a_a0 : (List S_api_Fire)) (b_a1 : (List S_api_Fire)) : Option (Bool) :=
  (bif ((a_a0.length : Int) != (b_a1.length : Int)) then
  some (false)
  else
  (lf_constraintref21_Same_L0 (some (true)) b_a1 a_a0 0))

set_option maxHeartbeats 1000000 in
theorem lg_constraintref21_Same (a_a0 : (List S_api_Fire)) (b_a1 : (List S_api_Fire)) (res : Bool) (hr : lf_constraintref21_Same a_a0 b_a1 = some res) : Gives Tryz.prog 92 [.lst (a_a0.map enc_S_api_Fire), .lst (b_a1.map enc_S_api_Fire)] (.bool res) := by
  unfold lf_constraintref21_Same at hr
  refine spec_env [(0, .lst (a_a0.map enc_S_api_Fire)), (1, .lst (b_a1.map enc_S_api_Fire))] Tryz.func92 rfl rfl fun K hK => ?_
  refine g_seq ?_
  refine g_run (by kernel_rfl) [(0, .d)] rfl ?_
  refine r_d rfl rfl rfl (s_assign rfl rfl) ?_
  refine r_end ?_
  refine g_seq ?_
  refine g_seq ?_
  refine g_run (by kernel_rfl) [(0, .d), (1, .d), (2, .d), (3, .d), (4, .d)] rfl ?_
  refine r_d rfl rfl rfl (s_move rfl rfl) ?_
  refine r_d rfl rfl rfl (m_len (f := enc_S_api_Fire) a_a0 rfl el_L_api_Fire rfl (asl rfl)) ?_
  refine r_d rfl rfl rfl (s_move rfl rfl) ?_
  refine r_d rfl rfl rfl (m_len (f := enc_S_api_Fire) b_a1 rfl el_L_api_Fire rfl (asl rfl)) ?_
  refine r_d rfl rfl rfl (s_cmp rfl rfl rfl rfl) ?_
  refine r_end ?_
  refine g_sB 10 rfl hr (fun h10_0 hr => ?_) (fun h10_0 hr => ?_)
  ·
   refine g_condT rfl ?_
   refine g_seq ?_
   refine g_run (by kernel_rfl) [(0, .d)] rfl ?_
   refine r_d rfl rfl rfl (s_assign rfl rfl) ?_
   refine r_end ?_
   obtain rfl := Option.some.inj hr
   refine g_ret Tryz.func92 _ (.cons (resTmp rfl (Wk.refl _)) .nil) ?_
   rfl
  ·
   refine g_condF rfl ?_
   refine g_skip ?_
   refine g_seq ?_
   refine g_seq ?_
   refine g_run (by kernel_rfl) [(0, .d)] rfl ?_
   refine r_d rfl rfl rfl (s_assign rfl rfl) ?_
   refine r_end ?_
   obtain ⟨kk0, hkk0, hr⟩ := exK (fun k => lf_constraintref21_Same_L0 k b_a1 a_a0 0) hr
   refine g_len 0 rfl (asl rfl) fun hla0 => ?_
   simp only [List.length_map] at hla0
   refine g_blockJ (fun env σ => env = [] ∧ σ = [] ∧ kk0 = some res) ?_ (fun HK0 => ?_)
   ·
    rintro _ _ ⟨rfl, rfl, hr⟩
    rw [hkk0] at hr
    refine g_seq ?_
    refine g_run (by kernel_rfl) [(0, .d)] rfl ?_
    refine r_d rfl rfl rfl (s_assign rfl rfl) ?_
    refine r_end ?_
    obtain rfl := Option.some.inj hr
    refine g_ret Tryz.func92 _ (.cons (resTmp rfl (Wk.refl _)) .nil) ?_
    rfl
   ·
    refine g_sub [(0, .lst (a_a0.map enc_S_api_Fire)), (1, .lst (b_a1.map enc_S_api_Fire)), (5, .int .i64 ((0 : Nat) : Int))] (Sub.cons' rfl (Sub.cons' rfl (Sub.cons' rfl (Sub.nil _)))) ?_
    refine g_loop (fun n env σ => ∃ (i_2 : Nat), (n = a_a0.length - i_2) ∧ (env = [(0, .lst (a_a0.map enc_S_api_Fire)), (1, .lst (b_a1.map enc_S_api_Fire)), (5, .int .i64 (i_2 : Int))]) ∧ (σ = []) ∧ (i_2 ≤ a_a0.length) ∧ (lf_constraintref21_Same_L0 kk0 b_a1 (a_a0.drop i_2) i_2 = some res)) _ ⟨0, rfl, rfl, rfl, Nat.zero_le _, hr⟩ ?_
    rintro n _ _ ⟨i_2, rfl, rfl, rfl, hi0, hr⟩ IH0
    rcases listStep a_a0 i_2 hi0 with ⟨ht0, hd0, he0⟩ | ⟨q_3, ht0, hd0, hq0, hlt0⟩
    ·
     rw [hd0, lf_constraintref21_Same_L0] at hr
     refine g_seq ?_
     refine g_seq ?_
     refine g_run (by kernel_rfl) [(0, .d), (1, .d), (2, .d), (3, .d), (4, .d), (5, .d), (6, .d), (7, .d), (8, .d), (9, .d)] rfl ?_
     refine r_d rfl rfl rfl (s_move rfl rfl) ?_
     refine r_d rfl rfl rfl (s_move rfl rfl) ?_
     refine r_d rfl rfl rfl (m_len (f := enc_S_api_Fire) a_a0 rfl el_L_api_Fire rfl (asl rfl)) ?_
     refine r_d rfl rfl rfl (s_cmp rfl rfl rfl rfl) ?_
     refine r_d rfl rfl rfl (s_move rfl rfl) ?_
     refine r_known 15 false rfl ht0 ?_
     refine r_skip rfl rfl rfl ?_
     refine r_skip rfl rfl rfl ?_
     refine r_skip rfl rfl rfl ?_
     refine r_skip rfl rfl rfl ?_
     refine r_d rfl rfl rfl (s_pickF rfl rfl rfl) ?_
     refine r_end ?_
     refine g_condF rfl ?_
     refine g_exit rfl ?_
     refine g_sub [] (Sub.nil _) ?_
     exact HK0 _ _ ⟨rfl, rfl, hr⟩
    ·
     rw [hd0, lf_constraintref21_Same_L0] at hr
     refine g_seq ?_
     refine g_seq ?_
     refine g_run (by kernel_rfl) [(0, .d), (1, .d), (2, .d), (3, .d), (4, .d), (5, .d), (6, .d), (7, .d), (8, .d), (9, .d)] rfl ?_
     refine r_d rfl rfl rfl (s_move rfl rfl) ?_
     refine r_d rfl rfl rfl (s_move rfl rfl) ?_
     refine r_d rfl rfl rfl (m_len (f := enc_S_api_Fire) a_a0 rfl el_L_api_Fire rfl (asl rfl)) ?_
     refine r_d rfl rfl rfl (s_cmp rfl rfl rfl rfl) ?_
     refine r_d rfl rfl rfl (s_move rfl rfl) ?_
     refine r_known 15 true rfl ht0 ?_
     refine r_d rfl rfl rfl (s_move rfl rfl) ?_
     refine r_d rfl rfl rfl (s_move rfl rfl) ?_
     refine r_d rfl rfl rfl (m_len (f := enc_S_api_Fire) b_a1 rfl el_L_api_Fire rfl (asl rfl)) ?_
     refine r_d rfl rfl rfl (s_cmp rfl rfl rfl rfl) ?_
     refine r_d rfl rfl rfl (s_pickT rfl rfl rfl) ?_
     refine r_end ?_
     refine g_sB 20 rfl hr (fun h20_3 hr => ?_) (fun h20_3 hr => ?_)
     ·
      refine g_condT rfl ?_
      refine g_skip ?_
      refine g_seq ?_
      refine g_block ?_
      refine g_seq ?_
      refine g_any (by kernel_rfl) (by kernel_rfl) [(0, .d), (1, .d), (2, .d), (3, .d), (4, .d), (5, .d), (6, .d), (7, .d), (8, .d), (9, .d)] (by kernel_rfl) ?_
      refine r_d rfl rfl rfl (s_move rfl rfl) ?_
      refine r_d rfl rfl rfl (s_move rfl rfl) ?_
      refine r_d rfl rfl rfl (m_index (f := enc_S_api_Fire) a_a0 rfl el_L_api_Fire rfl (asl rfl) rfl hq0 sz_S_api_Fire rfl) ?_
      refine r_d rfl rfl rfl (s_load rfl rfl (by exact ty_api_Fire) (sz_S_api_Fire _)) ?_
      refine r_d rfl rfl rfl (s_move rfl rfl) ?_
      refine r_d rfl rfl rfl (s_move rfl rfl) ?_
      obtain ⟨q_5, hq_5, hr⟩ := bindS hr
      refine r_d rfl rfl rfl (m_index (f := enc_S_api_Fire) b_a1 rfl el_L_api_Fire rfl (asl rfl) rfl hq_5 sz_S_api_Fire rfl) ?_
      refine r_d rfl rfl rfl (s_load rfl rfl (by exact ty_api_Fire) (sz_S_api_Fire _)) ?_
      obtain ⟨r_6, hr_6, hr⟩ := bindS hr
      refine r_d rfl rfl rfl (s_callD rfl cl_constraintref21_Compare (.cons rfl (Wk.refl _) (.cons rfl (Wk.refl _) .nil)) (lg_constraintref21_Compare _ _ _ hr_6)) ?_
      refine r_d rfl rfl rfl (s_cmp rfl rfl rfl rfl) ?_
      refine r_end ?_
      refine g_sB 32 rfl hr (fun h32_6 hr => ?_) (fun h32_6 hr => ?_)
      ·
       refine g_condT rfl ?_
       refine g_seq ?_
       refine g_run (by kernel_rfl) [(0, .d)] rfl ?_
       refine r_d rfl rfl rfl (s_assign rfl rfl) ?_
       refine r_end ?_
       obtain rfl := Option.some.inj hr
       refine g_ret Tryz.func92 _ (.cons (resTmp rfl (Wk.refl _)) .nil) ?_
       rfl
      ·
       refine g_condF rfl ?_
       refine g_skip ?_
       refine g_inBlock ?_
       refine g_run (by kernel_rfl) [(0, .d), (1, .d), (2, .d)] rfl ?_
       refine r_d rfl rfl rfl (s_move rfl rfl) ?_
       refine r_d rfl rfl rfl (s_ar (r := ((i_2 + 1 : Nat) : Int)) rfl rfl rfl (by simp [iar]) (by omega)) ?_
       refine r_d rfl rfl rfl (s_assign rfl rfl) ?_
       refine r_end ?_
       refine g_sub [(0, .lst (a_a0.map enc_S_api_Fire)), (1, .lst (b_a1.map enc_S_api_Fire)), (5, .int .i64 ((i_2 + 1 : Nat) : Int))] (Sub.cons' rfl (Sub.cons' rfl (Sub.cons' rfl (Sub.nil _)))) ?_
       exact IH0 _ _ _ (by omega) ⟨(i_2 + 1), rfl, rfl, rfl, (by omega), hr⟩
     ·
      refine g_condF rfl ?_
      refine g_exit rfl ?_
      refine g_sub [] (Sub.nil _) ?_
      exact HK0 _ _ ⟨rfl, rfl, hr⟩

noncomputable def lf_constraintref26_Same (a_a0 : S_api_Config) (b_a1 : S_api_Config) : Option (Bool) :=
  ((lf_constraintref26_sameFrames a_a0.f0_Stack b_a1.f0_Stack).bind fun r_1 =>
  (bif r_1 then
  ((lf_constraintref19_Same a_a0.f1_Store b_a1.f1_Store).bind fun r_3 =>
  (bif r_3 then
  ((lf_constraintref06_Same a_a0.f2_Binds b_a1.f2_Binds).bind fun r_5 =>
  (bif r_5 then
  ((lf_constraintref21_Same a_a0.f3_Fired b_a1.f3_Fired).bind fun r_7 =>
  (bif r_7 then
  (bif (a_a0.f4_Next == b_a1.f4_Next) then
  (bif (a_a0.f5_Fresh == b_a1.f5_Fresh) then
  some ((a_a0.f6_Failed == b_a1.f6_Failed))
  else
  some (false))
  else
  some (false))
  else
  some (false)))
  else
  some (false)))
  else
  some (false)))
  else
  some (false)))

set_option maxHeartbeats 1000000 in
theorem lg_constraintref26_Same (a_a0 : S_api_Config) (b_a1 : S_api_Config) (res : Bool) (hr : lf_constraintref26_Same a_a0 b_a1 = some res) : Gives Tryz.prog 20 [enc_S_api_Config a_a0, enc_S_api_Config b_a1] (.bool res) := by
  unfold lf_constraintref26_Same at hr
  refine spec_env [(0, enc_S_api_Config a_a0), (1, enc_S_api_Config b_a1)] Tryz.func20 rfl rfl fun K hK => ?_
  refine g_seq ?_
  refine g_run (by kernel_rfl) [(0, .d), (1, .d), (2, .d)] rfl ?_
  refine r_d rfl rfl rfl (s_box rfl rfl rfl) ?_
  refine r_d rfl rfl rfl (s_box rfl rfl rfl) ?_
  refine r_d rfl rfl rfl (s_assign rfl rfl) ?_
  refine r_end ?_
  refine g_seq ?_
  refine g_run (by kernel_rfl) [(0, .d), (1, .d), (2, .d), (3, .d), (4, .d), (5, .d), (6, .d), (7, .d), (8, .d), (9, .d), (10, .d), (11, .d), (12, .d), (13, .d), (14, .d), (15, .d), (16, .d), (17, .d), (18, .d), (19, .d), (20, .d), (21, .d), (22, .d), (23, .d), (24, .d), (25, .d), (26, .d), (27, .d), (28, .d), (29, .d), (30, .d), (31, .d), (32, .d), (33, .d), (34, .d), (35, .d), (36, .d), (37, .d), (38, .d), (39, .d), (40, .d), (41, .d), (42, .d), (43, .d), (44, .d), (45, .d), (46, .d), (47, .d)] rfl ?_
  refine r_d rfl rfl rfl (s_fieldAddr rfl fl_api_Config_0 rfl rfl rfl rfl) ?_
  refine r_d rfl rfl rfl (s_load rfl rfl (by exact ty_L_api_Frame) rfl) ?_
  refine r_d rfl rfl rfl (s_fieldAddr rfl fl_api_Config_0 rfl rfl rfl rfl) ?_
  refine r_d rfl rfl rfl (s_load rfl rfl (by exact ty_L_api_Frame) rfl) ?_
  obtain ⟨r_1, hr_1, hr⟩ := bindS hr
  refine r_d rfl rfl rfl (s_callD rfl cl_constraintref26_sameFrames (.cons rfl (Wk.refl _) (.cons rfl (Wk.refl _) .nil)) (lg_constraintref26_sameFrames _ _ _ hr_1)) ?_
  refine r_d rfl rfl rfl (s_move rfl rfl) ?_
  refine r_sB 10 rfl hr (fun h10_1 hr => ?_) (fun h10_1 hr => ?_)
  ·
   refine r_d rfl rfl rfl (s_fieldAddr rfl fl_api_Config_1 rfl rfl rfl rfl) ?_
   refine r_d rfl rfl rfl (s_load rfl rfl (by exact ty_L_api_Item) rfl) ?_
   refine r_d rfl rfl rfl (s_fieldAddr rfl fl_api_Config_1 rfl rfl rfl rfl) ?_
   refine r_d rfl rfl rfl (s_load rfl rfl (by exact ty_L_api_Item) rfl) ?_
   obtain ⟨r_3, hr_3, hr⟩ := bindS hr
   refine r_d rfl rfl rfl (s_callD rfl cl_constraintref19_Same (.cons rfl (Wk.refl _) (.cons rfl (Wk.refl _) .nil)) (lg_constraintref19_Same _ _ _ hr_3)) ?_
   refine r_d rfl rfl rfl (s_pickT rfl rfl rfl) ?_
   refine r_d rfl rfl rfl (s_move rfl rfl) ?_
   refine r_sB 17 rfl hr (fun h17_3 hr => ?_) (fun h17_3 hr => ?_)
   ·
    refine r_d rfl rfl rfl (s_fieldAddr rfl fl_api_Config_2 rfl rfl rfl rfl) ?_
    refine r_d rfl rfl rfl (s_load rfl rfl (by exact ty_api_Binds) rfl) ?_
    refine r_d rfl rfl rfl (s_fieldAddr rfl fl_api_Config_2 rfl rfl rfl rfl) ?_
    refine r_d rfl rfl rfl (s_load rfl rfl (by exact ty_api_Binds) rfl) ?_
    obtain ⟨r_5, hr_5, hr⟩ := bindS hr
    refine r_d rfl rfl rfl (s_callD rfl cl_constraintref06_Same (.cons rfl (Wk.refl _) (.cons rfl (Wk.refl _) .nil)) (lg_constraintref06_Same _ _ _ hr_5)) ?_
    refine r_d rfl rfl rfl (s_pickT rfl rfl rfl) ?_
    refine r_d rfl rfl rfl (s_move rfl rfl) ?_
    refine r_sB 24 rfl hr (fun h24_5 hr => ?_) (fun h24_5 hr => ?_)
    ·
     refine r_d rfl rfl rfl (s_fieldAddr rfl fl_api_Config_3 rfl rfl rfl rfl) ?_
     refine r_d rfl rfl rfl (s_load rfl rfl (by exact ty_L_api_Fire) rfl) ?_
     refine r_d rfl rfl rfl (s_fieldAddr rfl fl_api_Config_3 rfl rfl rfl rfl) ?_
     refine r_d rfl rfl rfl (s_load rfl rfl (by exact ty_L_api_Fire) rfl) ?_
     obtain ⟨r_7, hr_7, hr⟩ := bindS hr
     refine r_d rfl rfl rfl (s_callD rfl cl_constraintref21_Same (.cons rfl (Wk.refl _) (.cons rfl (Wk.refl _) .nil)) (lg_constraintref21_Same _ _ _ hr_7)) ?_
     refine r_d rfl rfl rfl (s_pickT rfl rfl rfl) ?_
     refine r_d rfl rfl rfl (s_move rfl rfl) ?_
     refine r_sB 31 rfl hr (fun h31_7 hr => ?_) (fun h31_7 hr => ?_)
     ·
      refine r_d rfl rfl rfl (s_fieldAddr rfl fl_api_Config_4 rfl rfl rfl rfl) ?_
      refine r_d rfl rfl rfl (s_load rfl rfl (by exact ty_int) rfl) ?_
      refine r_d rfl rfl rfl (s_fieldAddr rfl fl_api_Config_4 rfl rfl rfl rfl) ?_
      refine r_d rfl rfl rfl (s_load rfl rfl (by exact ty_int) rfl) ?_
      refine r_d rfl rfl rfl (s_cmp rfl rfl rfl rfl) ?_
      refine r_d rfl rfl rfl (s_pickT rfl rfl rfl) ?_
      refine r_d rfl rfl rfl (s_move rfl rfl) ?_
      refine r_sB 38 rfl hr (fun h38_8 hr => ?_) (fun h38_8 hr => ?_)
      ·
       refine r_d rfl rfl rfl (s_fieldAddr rfl fl_api_Config_5 rfl rfl rfl rfl) ?_
       refine r_d rfl rfl rfl (s_load rfl rfl (by exact ty_int) rfl) ?_
       refine r_d rfl rfl rfl (s_fieldAddr rfl fl_api_Config_5 rfl rfl rfl rfl) ?_
       refine r_d rfl rfl rfl (s_load rfl rfl (by exact ty_int) rfl) ?_
       refine r_d rfl rfl rfl (s_cmp rfl rfl rfl rfl) ?_
       refine r_d rfl rfl rfl (s_pickT rfl rfl rfl) ?_
       refine r_d rfl rfl rfl (s_move rfl rfl) ?_
       refine r_sB 45 rfl hr (fun h45_9 hr => ?_) (fun h45_9 hr => ?_)
       ·
        refine r_d rfl rfl rfl (s_fieldAddr rfl fl_api_Config_6 rfl rfl rfl rfl) ?_
        refine r_d rfl rfl rfl (s_load rfl rfl (by exact ty_bool) rfl) ?_
        refine r_d rfl rfl rfl (s_fieldAddr rfl fl_api_Config_6 rfl rfl rfl rfl) ?_
        refine r_d rfl rfl rfl (s_load rfl rfl (by exact ty_bool) rfl) ?_
        refine r_d rfl rfl rfl (s_cmpB rfl Tryz.underlying4 rfl rfl) ?_
        refine r_d rfl rfl rfl (s_pickT rfl rfl rfl) ?_
        refine r_d rfl rfl rfl (s_assign rfl rfl) ?_
        refine r_end ?_
        obtain rfl := Option.some.inj hr
        refine g_ret Tryz.func20 _ (.cons (resTmp rfl (Wk.refl _)) .nil) ?_
        rfl
       ·
        refine r_skip rfl rfl rfl ?_
        refine r_skip rfl rfl rfl ?_
        refine r_skip rfl rfl rfl ?_
        refine r_skip rfl rfl rfl ?_
        refine r_skip rfl rfl rfl ?_
        refine r_d rfl rfl rfl (s_pickF rfl rfl rfl) ?_
        refine r_d rfl rfl rfl (s_assign rfl rfl) ?_
        refine r_end ?_
        obtain rfl := Option.some.inj hr
        refine g_ret Tryz.func20 _ (.cons (resTmp rfl (Wk.refl _)) .nil) ?_
        rfl
      ·
       refine r_skip rfl rfl rfl ?_
       refine r_skip rfl rfl rfl ?_
       refine r_skip rfl rfl rfl ?_
       refine r_skip rfl rfl rfl ?_
       refine r_skip rfl rfl rfl ?_
       refine r_d rfl rfl rfl (s_pickF rfl rfl rfl) ?_
       refine r_d rfl rfl rfl (s_move rfl rfl) ?_
       refine r_skip rfl rfl rfl ?_
       refine r_skip rfl rfl rfl ?_
       refine r_skip rfl rfl rfl ?_
       refine r_skip rfl rfl rfl ?_
       refine r_skip rfl rfl rfl ?_
       refine r_d rfl rfl rfl (s_pickF rfl rfl rfl) ?_
       refine r_d rfl rfl rfl (s_assign rfl rfl) ?_
       refine r_end ?_
       obtain rfl := Option.some.inj hr
       refine g_ret Tryz.func20 _ (.cons (resTmp rfl (Wk.refl _)) .nil) ?_
       rfl
     ·
      refine r_skip rfl rfl rfl ?_
      refine r_skip rfl rfl rfl ?_
      refine r_skip rfl rfl rfl ?_
      refine r_skip rfl rfl rfl ?_
      refine r_skip rfl rfl rfl ?_
      refine r_d rfl rfl rfl (s_pickF rfl rfl rfl) ?_
      refine r_d rfl rfl rfl (s_move rfl rfl) ?_
      refine r_skip rfl rfl rfl ?_
      refine r_skip rfl rfl rfl ?_
      refine r_skip rfl rfl rfl ?_
      refine r_skip rfl rfl rfl ?_
      refine r_skip rfl rfl rfl ?_
      refine r_d rfl rfl rfl (s_pickF rfl rfl rfl) ?_
      refine r_d rfl rfl rfl (s_move rfl rfl) ?_
      refine r_skip rfl rfl rfl ?_
      refine r_skip rfl rfl rfl ?_
      refine r_skip rfl rfl rfl ?_
      refine r_skip rfl rfl rfl ?_
      refine r_skip rfl rfl rfl ?_
      refine r_d rfl rfl rfl (s_pickF rfl rfl rfl) ?_
      refine r_d rfl rfl rfl (s_assign rfl rfl) ?_
      refine r_end ?_
      obtain rfl := Option.some.inj hr
      refine g_ret Tryz.func20 _ (.cons (resTmp rfl (Wk.refl _)) .nil) ?_
      rfl
    ·
     refine r_skip rfl rfl rfl ?_
     refine r_skip rfl rfl rfl ?_
     refine r_skip rfl rfl rfl ?_
     refine r_skip rfl rfl rfl ?_
     refine r_skip rfl rfl rfl ?_
     refine r_d rfl rfl rfl (s_pickF rfl rfl rfl) ?_
     refine r_d rfl rfl rfl (s_move rfl rfl) ?_
     refine r_skip rfl rfl rfl ?_
     refine r_skip rfl rfl rfl ?_
     refine r_skip rfl rfl rfl ?_
     refine r_skip rfl rfl rfl ?_
     refine r_skip rfl rfl rfl ?_
     refine r_d rfl rfl rfl (s_pickF rfl rfl rfl) ?_
     refine r_d rfl rfl rfl (s_move rfl rfl) ?_
     refine r_skip rfl rfl rfl ?_
     refine r_skip rfl rfl rfl ?_
     refine r_skip rfl rfl rfl ?_
     refine r_skip rfl rfl rfl ?_
     refine r_skip rfl rfl rfl ?_
     refine r_d rfl rfl rfl (s_pickF rfl rfl rfl) ?_
     refine r_d rfl rfl rfl (s_move rfl rfl) ?_
     refine r_skip rfl rfl rfl ?_
     refine r_skip rfl rfl rfl ?_
     refine r_skip rfl rfl rfl ?_
     refine r_skip rfl rfl rfl ?_
     refine r_skip rfl rfl rfl ?_
     refine r_d rfl rfl rfl (s_pickF rfl rfl rfl) ?_
     refine r_d rfl rfl rfl (s_assign rfl rfl) ?_
     refine r_end ?_
     obtain rfl := Option.some.inj hr
     refine g_ret Tryz.func20 _ (.cons (resTmp rfl (Wk.refl _)) .nil) ?_
     rfl
   ·
    refine r_skip rfl rfl rfl ?_
    refine r_skip rfl rfl rfl ?_
    refine r_skip rfl rfl rfl ?_
    refine r_skip rfl rfl rfl ?_
    refine r_skip rfl rfl rfl ?_
    refine r_d rfl rfl rfl (s_pickF rfl rfl rfl) ?_
    refine r_d rfl rfl rfl (s_move rfl rfl) ?_
    refine r_skip rfl rfl rfl ?_
    refine r_skip rfl rfl rfl ?_
    refine r_skip rfl rfl rfl ?_
    refine r_skip rfl rfl rfl ?_
    refine r_skip rfl rfl rfl ?_
    refine r_d rfl rfl rfl (s_pickF rfl rfl rfl) ?_
    refine r_d rfl rfl rfl (s_move rfl rfl) ?_
    refine r_skip rfl rfl rfl ?_
    refine r_skip rfl rfl rfl ?_
    refine r_skip rfl rfl rfl ?_
    refine r_skip rfl rfl rfl ?_
    refine r_skip rfl rfl rfl ?_
    refine r_d rfl rfl rfl (s_pickF rfl rfl rfl) ?_
    refine r_d rfl rfl rfl (s_move rfl rfl) ?_
    refine r_skip rfl rfl rfl ?_
    refine r_skip rfl rfl rfl ?_
    refine r_skip rfl rfl rfl ?_
    refine r_skip rfl rfl rfl ?_
    refine r_skip rfl rfl rfl ?_
    refine r_d rfl rfl rfl (s_pickF rfl rfl rfl) ?_
    refine r_d rfl rfl rfl (s_move rfl rfl) ?_
    refine r_skip rfl rfl rfl ?_
    refine r_skip rfl rfl rfl ?_
    refine r_skip rfl rfl rfl ?_
    refine r_skip rfl rfl rfl ?_
    refine r_skip rfl rfl rfl ?_
    refine r_d rfl rfl rfl (s_pickF rfl rfl rfl) ?_
    refine r_d rfl rfl rfl (s_assign rfl rfl) ?_
    refine r_end ?_
    obtain rfl := Option.some.inj hr
    refine g_ret Tryz.func20 _ (.cons (resTmp rfl (Wk.refl _)) .nil) ?_
    rfl
  ·
   refine r_skip rfl rfl rfl ?_
   refine r_skip rfl rfl rfl ?_
   refine r_skip rfl rfl rfl ?_
   refine r_skip rfl rfl rfl ?_
   refine r_skip rfl rfl rfl ?_
   refine r_d rfl rfl rfl (s_pickF rfl rfl rfl) ?_
   refine r_d rfl rfl rfl (s_move rfl rfl) ?_
   refine r_skip rfl rfl rfl ?_
   refine r_skip rfl rfl rfl ?_
   refine r_skip rfl rfl rfl ?_
   refine r_skip rfl rfl rfl ?_
   refine r_skip rfl rfl rfl ?_
   refine r_d rfl rfl rfl (s_pickF rfl rfl rfl) ?_
   refine r_d rfl rfl rfl (s_move rfl rfl) ?_
   refine r_skip rfl rfl rfl ?_
   refine r_skip rfl rfl rfl ?_
   refine r_skip rfl rfl rfl ?_
   refine r_skip rfl rfl rfl ?_
   refine r_skip rfl rfl rfl ?_
   refine r_d rfl rfl rfl (s_pickF rfl rfl rfl) ?_
   refine r_d rfl rfl rfl (s_move rfl rfl) ?_
   refine r_skip rfl rfl rfl ?_
   refine r_skip rfl rfl rfl ?_
   refine r_skip rfl rfl rfl ?_
   refine r_skip rfl rfl rfl ?_
   refine r_skip rfl rfl rfl ?_
   refine r_d rfl rfl rfl (s_pickF rfl rfl rfl) ?_
   refine r_d rfl rfl rfl (s_move rfl rfl) ?_
   refine r_skip rfl rfl rfl ?_
   refine r_skip rfl rfl rfl ?_
   refine r_skip rfl rfl rfl ?_
   refine r_skip rfl rfl rfl ?_
   refine r_skip rfl rfl rfl ?_
   refine r_d rfl rfl rfl (s_pickF rfl rfl rfl) ?_
   refine r_d rfl rfl rfl (s_move rfl rfl) ?_
   refine r_skip rfl rfl rfl ?_
   refine r_skip rfl rfl rfl ?_
   refine r_skip rfl rfl rfl ?_
   refine r_skip rfl rfl rfl ?_
   refine r_skip rfl rfl rfl ?_
   refine r_d rfl rfl rfl (s_pickF rfl rfl rfl) ?_
   refine r_d rfl rfl rfl (s_assign rfl rfl) ?_
   refine r_end ?_
   obtain rfl := Option.some.inj hr
   refine g_ret Tryz.func20 _ (.cons (resTmp rfl (Wk.refl _)) .nil) ?_
   rfl

noncomputable def lf_constraintlaw52_SnapshotConfigs (fuel : Nat) (c_a0 : S_api_Config) : Option (Bool) :=
  ((lf_constraintlaw52_small c_a0).bind fun r_1 =>
  (bif (!r_1) then
  ((lf_constraintlaw52_exampleHolds fuel).bind fun r_3 =>
  some (r_3))
  else
  ((lf_snapshot_Config fuel c_a0).bind fun r_4 =>
  ((lf_constraintref52_Config fuel c_a0).bind fun r_5 =>
  ((lf_constraintlaw52_same r_4 r_5).bind fun r_6 =>
  (bif (!r_6) then
  some (false)
  else
  ((lf_snapshot_TakeConfig fuel r_4).bind fun r_8 =>
  (bif ((r_4.length : Int) == (0 : Int)) then
  (bif (r_8.2 == (4 : Int)) then
  ((lf_constraintlaw52_exampleHolds fuel).bind fun r_12 =>
  some (r_12))
  else
  some (false))
  else
  (bif (r_8.2 == (0 : Int)) then
  ((lf_constraintref26_Same c_a0 r_8.1).bind fun r_14 =>
  (bif r_14 then
  ((lf_constraintlaw52_exampleHolds fuel).bind fun r_16 =>
  some (r_16))
  else
  some (false)))
  else
  some (false))))))))))

set_option maxHeartbeats 1000000 in
theorem lg_constraintlaw52_SnapshotConfigs (fuel : Nat) (c_a0 : S_api_Config) (res : Bool) (hr : lf_constraintlaw52_SnapshotConfigs fuel c_a0 = some res) : Gives Tryz.prog 4 [enc_S_api_Config c_a0] (.bool res) := by
  unfold lf_constraintlaw52_SnapshotConfigs at hr
  refine spec_env [(0, enc_S_api_Config c_a0)] Tryz.func4 rfl rfl fun K hK => ?_
  refine g_seq ?_
  refine g_run (by kernel_rfl) [(0, .d), (1, .d)] rfl ?_
  refine r_d rfl rfl rfl (s_box rfl rfl rfl) ?_
  refine r_d rfl rfl rfl (s_assign rfl rfl) ?_
  refine r_end ?_
  refine g_seq ?_
  refine g_seq ?_
  refine g_run (by kernel_rfl) [(0, .d), (1, .d), (2, .d)] rfl ?_
  refine r_d rfl rfl rfl (s_load rfl rfl (by exact ty_api_Config) (sz_S_api_Config _)) ?_
  obtain ⟨r_1, hr_1, hr⟩ := bindS hr
  refine r_d rfl rfl rfl (s_callD rfl cl_constraintlaw52_small (.cons rfl (Wk.refl _) .nil) (lg_constraintlaw52_small _ _ hr_1)) ?_
  refine r_d rfl rfl rfl (s_not rfl rfl) ?_
  refine r_end ?_
  refine g_sB 8 rfl hr (fun h8_1 hr => ?_) (fun h8_1 hr => ?_)
  ·
   refine g_condT rfl ?_
   refine g_seq ?_
   refine g_run (by kernel_rfl) [(0, .d), (1, .d)] rfl ?_
   obtain ⟨r_3, hr_3, hr⟩ := bindS hr
   refine r_d rfl rfl rfl (s_callD rfl cl_constraintlaw52_exampleHolds .nil (lg_constraintlaw52_exampleHolds fuel _ hr_3)) ?_
   refine r_d rfl rfl rfl (s_assign rfl rfl) ?_
   refine r_end ?_
   obtain rfl := Option.some.inj hr
   refine g_ret Tryz.func4 _ (.cons (resTmp rfl (Wk.refl _)) .nil) ?_
   rfl
  ·
   refine g_condF rfl ?_
   refine g_skip ?_
   refine g_seq ?_
   refine g_run (by kernel_rfl) [(0, .d), (1, .d), (2, .d)] rfl ?_
   refine r_d rfl rfl rfl (s_load rfl rfl (by exact ty_api_Config) (sz_S_api_Config _)) ?_
   obtain ⟨r_4, hr_4, hr⟩ := bindS hr
   refine r_d rfl rfl rfl (s_callD rfl cl_snapshot_Config (.cons rfl (Wk.refl _) .nil) (lg_snapshot_Config fuel _ _ hr_4)) ?_
   refine r_d rfl rfl rfl (s_assign rfl rfl) ?_
   refine r_end ?_
   refine g_seq ?_
   refine g_seq ?_
   refine g_run (by kernel_rfl) [(0, .d), (1, .d), (2, .d), (3, .d), (4, .d)] rfl ?_
   refine r_d rfl rfl rfl (s_move rfl rfl) ?_
   refine r_d rfl rfl rfl (s_load rfl rfl (by exact ty_api_Config) (sz_S_api_Config _)) ?_
   obtain ⟨r_5, hr_5, hr⟩ := bindS hr
   refine r_d rfl rfl rfl (s_callD rfl cl_constraintref52_Config (.cons rfl (Wk.refl _) .nil) (lg_constraintref52_Config fuel _ _ hr_5)) ?_
   obtain ⟨r_6, hr_6, hr⟩ := bindS hr
   refine r_d rfl rfl rfl (s_callD rfl cl_constraintlaw52_same (.cons rfl (Wk.refl _) (.cons rfl (Wk.refl _) .nil)) (lg_constraintlaw52_same _ _ _ hr_6)) ?_
   refine r_d rfl rfl rfl (s_not rfl rfl) ?_
   refine r_end ?_
   refine g_sB 16 rfl hr (fun h16_6 hr => ?_) (fun h16_6 hr => ?_)
   ·
    refine g_condT rfl ?_
    refine g_seq ?_
    refine g_run (by kernel_rfl) [(0, .d)] rfl ?_
    refine r_d rfl rfl rfl (s_assign rfl rfl) ?_
    refine r_end ?_
    obtain rfl := Option.some.inj hr
    refine g_ret Tryz.func4 _ (.cons (resTmp rfl (Wk.refl _)) .nil) ?_
    rfl
   ·
    refine g_condF rfl ?_
    refine g_skip ?_
    refine g_seq ?_
    refine g_run (by kernel_rfl) [(0, .d), (1, .d), (2, .d), (3, .d), (4, .d), (5, .w), (6, .w), (7, .d)] rfl ?_
    refine r_d rfl rfl rfl (s_move rfl rfl) ?_
    obtain ⟨r_8, hr_8, hr⟩ := bindS hr
    refine r_d rfl rfl rfl (s_callD rfl cl_snapshot_TakeConfig (.cons rfl (Wk.refl _) .nil) (lg_snapshot_TakeConfig fuel _ _ hr_8)) ?_
    refine r_d rfl rfl rfl (s_move rfl rfl) ?_
    refine r_d rfl rfl rfl (s_extract rfl rfl rfl) ?_
    refine r_d rfl rfl rfl (s_extract rfl rfl rfl) ?_
    refine r_w rfl rfl rfl (s_alloc rfl zv_api_Config) ?_
    rintro _ _ ⟨b4_8, rfl, rfl⟩
    refine r_w01 rfl rfl rfl (t_store0 _ rfl rfl rfl (Wk.refl _) (pf0 _) (by exact ty_api_Config) (sz_S_api_Config _) rfl rfl) ?_
    refine r_d rfl rfl rfl (s_assign rfl rfl) ?_
    refine r_end ?_
    refine g_freeze 4 b4_8 rfl (pf0 _) ?_
    refine g_seq ?_
    refine g_seq ?_
    refine g_run (by kernel_rfl) [(0, .d), (1, .d), (2, .d)] rfl ?_
    refine r_d rfl rfl rfl (s_move rfl rfl) ?_
    refine r_d rfl rfl rfl (m_len (f := (D.int .u8)) r_4 rfl el_L_uint8 rfl (asl rfl)) ?_
    refine r_d rfl rfl rfl (s_cmp rfl rfl rfl rfl) ?_
    refine r_end ?_
    refine g_sB 24 rfl hr (fun h24_9 hr => ?_) (fun h24_9 hr => ?_)
    ·
     refine g_condT rfl ?_
     refine g_seq ?_
     refine g_run (by kernel_rfl) [(0, .d), (1, .d), (2, .d), (3, .d), (4, .d), (5, .d)] rfl ?_
     refine r_d rfl rfl rfl (s_move rfl rfl) ?_
     refine r_d rfl rfl rfl (s_cmp rfl rfl rfl rfl) ?_
     refine r_d rfl rfl rfl (s_move rfl rfl) ?_
     refine r_sB 27 rfl hr (fun h27_10 hr => ?_) (fun h27_10 hr => ?_)
     ·
      obtain ⟨r_12, hr_12, hr⟩ := bindS hr
      refine r_d rfl rfl rfl (s_callD rfl cl_constraintlaw52_exampleHolds .nil (lg_constraintlaw52_exampleHolds fuel _ hr_12)) ?_
      refine r_d rfl rfl rfl (s_pickT rfl rfl rfl) ?_
      refine r_d rfl rfl rfl (s_assign rfl rfl) ?_
      refine r_end ?_
      obtain rfl := Option.some.inj hr
      refine g_ret Tryz.func4 _ (.cons (resTmp rfl (Wk.refl _)) .nil) ?_
      rfl
     ·
      refine r_skip rfl rfl rfl ?_
      refine r_d rfl rfl rfl (s_pickF rfl rfl rfl) ?_
      refine r_d rfl rfl rfl (s_assign rfl rfl) ?_
      refine r_end ?_
      obtain rfl := Option.some.inj hr
      refine g_ret Tryz.func4 _ (.cons (resTmp rfl (Wk.refl _)) .nil) ?_
      rfl
    ·
     refine g_condF rfl ?_
     refine g_skip ?_
     refine g_seq ?_
     refine g_run (by kernel_rfl) [(0, .d), (1, .d), (2, .d), (3, .d), (4, .d), (5, .d), (6, .d), (7, .d), (8, .d), (9, .d), (10, .d)] rfl ?_
     refine r_d rfl rfl rfl (s_move rfl rfl) ?_
     refine r_d rfl rfl rfl (s_cmp rfl rfl rfl rfl) ?_
     refine r_d rfl rfl rfl (s_move rfl rfl) ?_
     refine r_sB 32 rfl hr (fun h32_12 hr => ?_) (fun h32_12 hr => ?_)
     ·
      refine r_d rfl rfl rfl (s_load rfl rfl (by exact ty_api_Config) (sz_S_api_Config _)) ?_
      refine r_d rfl rfl rfl (s_load rfl rfl (by exact ty_api_Config) (sz_S_api_Config _)) ?_
      obtain ⟨r_14, hr_14, hr⟩ := bindS hr
      refine r_d rfl rfl rfl (s_callD rfl cl_constraintref26_Same (.cons rfl (Wk.refl _) (.cons rfl (Wk.refl _) .nil)) (lg_constraintref26_Same _ _ _ hr_14)) ?_
      refine r_d rfl rfl rfl (s_pickT rfl rfl rfl) ?_
      refine r_d rfl rfl rfl (s_move rfl rfl) ?_
      refine r_sB 37 rfl hr (fun h37_14 hr => ?_) (fun h37_14 hr => ?_)
      ·
       obtain ⟨r_16, hr_16, hr⟩ := bindS hr
       refine r_d rfl rfl rfl (s_callD rfl cl_constraintlaw52_exampleHolds .nil (lg_constraintlaw52_exampleHolds fuel _ hr_16)) ?_
       refine r_d rfl rfl rfl (s_pickT rfl rfl rfl) ?_
       refine r_d rfl rfl rfl (s_assign rfl rfl) ?_
       refine r_end ?_
       obtain rfl := Option.some.inj hr
       refine g_ret Tryz.func4 _ (.cons (resTmp rfl (Wk.refl _)) .nil) ?_
       rfl
      ·
       refine r_skip rfl rfl rfl ?_
       refine r_d rfl rfl rfl (s_pickF rfl rfl rfl) ?_
       refine r_d rfl rfl rfl (s_assign rfl rfl) ?_
       refine r_end ?_
       obtain rfl := Option.some.inj hr
       refine g_ret Tryz.func4 _ (.cons (resTmp rfl (Wk.refl _)) .nil) ?_
       rfl
     ·
      refine r_skip rfl rfl rfl ?_
      refine r_skip rfl rfl rfl ?_
      refine r_skip rfl rfl rfl ?_
      refine r_d rfl rfl rfl (s_pickF rfl rfl rfl) ?_
      refine r_d rfl rfl rfl (s_move rfl rfl) ?_
      refine r_skip rfl rfl rfl ?_
      refine r_d rfl rfl rfl (s_pickF rfl rfl rfl) ?_
      refine r_d rfl rfl rfl (s_assign rfl rfl) ?_
      refine r_end ?_
      obtain rfl := Option.some.inj hr
      refine g_ret Tryz.func4 _ (.cons (resTmp rfl (Wk.refl _)) .nil) ?_
      rfl

end Go.Proofs.YtdoljfkjdfaakaaGreat


namespace Go.Proofs.YtdoljfkjdfaakaaGreat
set_option maxRecDepth 100000
open Go.RowKit

/-! ### names are strings of the machine -/
/-! ### memories that are few -/
/-! ### states that are small, of bulk at most 1048576 -/
theorem goals52_L0 (k : List Gl → Option (List Gl)) : ∀ (l : List S_api_Frame) (acc : List Gl), acc.length + l.length ≤ 1000 → lf_constraintlaw52_goals_L0 k l acc = k (acc ++ l.map S_api_Frame.f0_Goal)
  | [], acc, _ => by
    rw [lf_constraintlaw52_goals_L0]
    simp
  | x :: l, acc, hl => by
    rw [lf_constraintlaw52_goals_L0, appO_eq (by simp only [List.length_cons, List.length_nil] at hl ⊢; omega) (by simp only [List.length_cons, List.length_nil] at hl ⊢; omega), Option.bind_some, goals52_L0 k l _ (by simp only [List.length_append, List.length_cons, List.length_nil] at hl ⊢; omega)]
    simp
def AnyB : Bool → Prop := fun _ => True
theorem tiny_L0 (k : Option Bool) (hk : TotP k AnyB) : ∀ (l : List T) (n : Int), (∀ t ∈ l, wt t ≤ 1000000000) → TotP (lf_constraintlaw23_tiny_L0 k l n) AnyB
  | [], n, _ => by rw [lf_constraintlaw23_tiny_L0]; exact hk
  | t :: l, n, h => by
    rw [lf_constraintlaw23_tiny_L0, x_sizeT_eq _ (h t (by simp)), Option.bind_some]
    exact .cond (fun _ => .pure trivial) fun _ => tiny_L0 k hk l _ fun x hx => h x (by simp [hx])
theorem wt_memL {t : T} : ∀ {l : List T}, t ∈ l → wt t ≤ wtL l
  | x :: l, h => by
    simp only [wtL]
    rcases List.mem_cons.1 h with rfl | h
    · omega
    · have := wt_memL h
      omega
theorem tiny_lf (l : List T) (h : wtL l ≤ 1000000000) : TotP (lf_constraintlaw23_tiny l) AnyB := by
  unfold lf_constraintlaw23_tiny
  exact .cond (fun _ => .pure trivial) fun _ => tiny_L0 _ ⟨_, rfl, trivial⟩ l 0 fun t ht => Nat.le_trans (wt_memL ht) h
theorem goals23_L0 (k : Option Bool) (hk : TotP k AnyB) : ∀ (l : List Gl), (∀ g ∈ l, wtL g.ts ≤ 1000000000) → TotP (lf_constraintlaw23_Goals_L0 k l) AnyB
  | [], _ => by rw [lf_constraintlaw23_Goals_L0]; exact hk
  | g :: l, h => by
    rw [lf_constraintlaw23_Goals_L0]
    exact .bind (tiny_lf g.ts (h g (by simp))) fun _ _ => .cond (fun _ => .pure trivial) fun _ => goals23_L0 k hk l fun x hx => h x (by simp [hx])
theorem goals23_lf (l : List Gl) (m : Int) (h : ∀ g ∈ l, wtL g.ts ≤ 1000000000) : TotP (lf_constraintlaw23_Goals l m) AnyB := by
  unfold lf_constraintlaw23_Goals
  exact .cond (fun _ => .pure trivial) fun _ => goals23_L0 _ ⟨_, rfl, trivial⟩ l h
theorem parts_L2 (k : Option Bool) (hk : TotP k AnyB) : ∀ (l : List S_api_Fire), TotP (lf_constraintlaw23_Parts_L2 k l) AnyB
  | [] => by rw [lf_constraintlaw23_Parts_L2]; exact hk
  | g :: l => by
    rw [lf_constraintlaw23_Parts_L2]
    exact .cond (fun _ => .pure trivial) fun _ => parts_L2 k hk l
theorem parts_L1 (k : Option Bool) (hk : TotP k AnyB) : ∀ (l : List (Int × T)), (∀ x ∈ l, wt x.2 ≤ 1000000000) → TotP (lf_constraintlaw23_Parts_L1 k l) AnyB
  | [], _ => by rw [lf_constraintlaw23_Parts_L1]; exact hk
  | g :: l, h => by
    rw [lf_constraintlaw23_Parts_L1, x_sizeT_eq _ (h g (by simp)), Option.bind_some]
    exact .cond (fun _ => .pure trivial) fun _ => parts_L1 k hk l fun x hx => h x (by simp [hx])
theorem parts_L0 (k : Option Bool) (hk : TotP k AnyB) : ∀ (l : List (Int × At)), (∀ x ∈ l, wtL x.2.ts ≤ 1000000000) → TotP (lf_constraintlaw23_Parts_L0 k l) AnyB
  | [], _ => by rw [lf_constraintlaw23_Parts_L0]; exact hk
  | g :: l, h => by
    rw [lf_constraintlaw23_Parts_L0]
    exact .bind (tiny_lf _ (h g (by simp))) fun _ _ => .cond (fun _ => .pure trivial) fun _ => parts_L0 k hk l fun x hx => h x (by simp [hx])
/-- Few nodes in each part. -/
structure ConfigB (c : S_api_Config) : Prop where
  k : ∀ x ∈ c.f0_Stack, wtL x.f0_Goal.ts ≤ 1000000000
  s : ∀ x ∈ c.f1_Store, wtL x.2.ts ≤ 1000000000
  b : ∀ x ∈ c.f2_Binds, wt x.2 ≤ 1000000000
theorem parts_lf (l : List (Int × At)) (b : List (Int × T)) (f : List S_api_Fire) (h1 : ∀ x ∈ l, wtL x.2.ts ≤ 1000000000) (h2 : ∀ x ∈ b, wt x.2 ≤ 1000000000) : TotP (lf_constraintlaw23_Parts l b f) fun r => r = true → b.length ≤ 20 := by
  unfold lf_constraintlaw23_Parts
  refine .cond (fun _ => .pure fun h => by cases h) fun _ => .cond (fun _ => .pure fun h => by cases h) fun hb => .cond (fun _ => .pure fun h => by cases h) fun _ => ?_
  have hb := of_decide_eq_false hb
  exact (parts_L0 _ (parts_L1 _ (parts_L2 _ ⟨_, rfl, trivial⟩ f) b h2) l h1).mono fun _ _ _ => by omega
theorem small_lf (c : S_api_Config) (h : ConfigB c) : TotP (lf_constraintlaw52_small c) fun r => r = true → ConfigS c := by
  unfold lf_constraintlaw52_small
  refine .cond (fun h30 => ?_) fun _ => .pure fun h => by cases h
  have h30 := of_decide_eq_true h30
  unfold lf_constraintlaw52_goals
  rw [goals52_L0 _ _ _ (by simp only [List.length_nil]; omega), Option.bind_some, List.nil_append]
  refine .bind (goals23_lf _ 30 fun g hg => ?_) fun r _ => .cond (fun _ => ?_) fun _ => .pure fun h => by cases h
  · obtain ⟨x, hx, rfl⟩ := List.mem_map.1 hg
    exact h.k x hx
  · exact .bind (parts_lf _ _ _ h.s h.b) fun r hr => .pure fun h1 => ⟨h.k, h.s, h.b, by have := hr h1; omega⟩
end Go.Proofs.YtdoljfkjdfaakaaGreat


namespace Go.Proofs.YtdoljfkjdfaakaaGreat
set_option maxRecDepth 100000
open Go.RowKit

theorem at_pre {α : Type} (pre : List α) (q : α) (l : List α) : getI (pre ++ q :: l) (pre.length : Int) = some q := by
  rw [getI_nat]
  simp
theorem lt_pre {α : Type} (pre : List α) (q : α) (l : List α) : decide ((pre.length : Int) < ((pre ++ q :: l).length : Int)) = true := decide_eq_true (by simp only [List.length_append, List.length_cons]; omega)
theorem pre_snoc {α : Type} (pre : List α) (q : α) (l : List α) : pre ++ q :: l = (pre ++ [q]) ++ l := by simp
theorem len_snoc {α : Type} (pre : List α) (q : α) : pre.length + 1 = (pre ++ [q]).length := by simp
theorem eq_self (n : Int) : (n != n) = false := by simp
theorem cmpA_self (a : At) : (cmpA a a == 0) = true := by
  unfold cmpA
  rw [cmpS_eq, show cmpB a.n.toList a.n.toList = 0 by have := neg_B a.n.toList a.n.toList; omega, cmpI_self, cmpL_self]
  rfl
theorem sameG_self (g : Gl) : sameG g g = true := by unfold sameG; rw [cmpL_self]; simp
theorem sameT_self (t : T) : sameT t t = true := by unfold sameT; rw [cmp_self]; rfl
theorem xA_self (a : At) (h : wtL a.ts ≤ 1000000000) : x_sameA a a = some true := by rw [x_sameA_eq _ _ h, cmpA_self]
theorem xG_self (a : Gl) (h : wtL a.ts ≤ 1000000000) : x_sameG a a = some true := by rw [x_sameG_eq _ _ h, sameG_self]
theorem xT_self (a : T) (h : wt a ≤ 1000000000) : x_sameT a a = some true := by rw [x_sameT_eq _ _ h, sameT_self]
theorem ints21_self (n : Int) : lf_constraintref21_ints n n = some 0 := by
  unfold lf_constraintref21_ints
  simp

theorem len_self (n : Nat) : ((n : Int) != (n : Int)) = false := by simp
theorem frames_L (k : Option Bool) : ∀ (l pre : List S_api_Frame), (∀ q ∈ l, wtL q.f0_Goal.ts ≤ 1000000000) → lf_constraintref26_sameFrames_L0 k (pre ++ l) l pre.length = k
  | [], pre, _ => by rw [lf_constraintref26_sameFrames_L0]
  | q :: l, pre, h => by
    rw [lf_constraintref26_sameFrames_L0]
    have hq := h q (by simp)
    simp only [lt_pre, at_pre, Option.bind_some, eq_self, xG_self q.f0_Goal hq, Bool.not_true, cond_true, cond_false]
    have := frames_L k l (pre ++ [q]) fun x hx => h x (by simp [hx])
    rw [← pre_snoc, ← len_snoc] at this
    exact this
theorem items_L (k : Option Bool) : ∀ (l pre : List (Int × At)), (∀ q ∈ l, wtL q.2.ts ≤ 1000000000) → lf_constraintref19_Same_L0 k (pre ++ l) l pre.length = k
  | [], pre, _ => by rw [lf_constraintref19_Same_L0]
  | q :: l, pre, h => by
    rw [lf_constraintref19_Same_L0]
    have hq := h q (by simp)
    simp only [lt_pre, at_pre, Option.bind_some, eq_self, xA_self q.2 hq, Bool.not_true, cond_true, cond_false]
    have := items_L k l (pre ++ [q]) fun x hx => h x (by simp [hx])
    rw [← pre_snoc, ← len_snoc] at this
    exact this
theorem binds_L (k : Option Bool) : ∀ (l pre : List (Int × T)), (∀ q ∈ l, wt q.2 ≤ 1000000000) → lf_constraintref06_Same_L0 k (pre ++ l) l pre.length = k
  | [], pre, _ => by rw [lf_constraintref06_Same_L0]
  | q :: l, pre, h => by
    rw [lf_constraintref06_Same_L0]
    have hq := h q (by simp)
    simp only [lt_pre, at_pre, Option.bind_some, eq_self, xT_self q.2 hq, Bool.not_true, cond_true, cond_false]
    have := binds_L k l (pre ++ [q]) fun x hx => h x (by simp [hx])
    rw [← pre_snoc, ← len_snoc] at this
    exact this
theorem cmp21_L (k : Int → Option Int) (r : Int) : ∀ (l pre : List Int), lf_constraintref21_Compare_L0 k ⟨r, pre ++ l⟩ l 0 pre.length = k 0
  | [], pre => by rw [lf_constraintref21_Compare_L0]
  | q :: l, pre => by
    rw [lf_constraintref21_Compare_L0]
    simp only [lt_pre, at_pre, Option.bind_some, ints21_self, beq_self_eq_true, cond_true]
    have := cmp21_L k r l (pre ++ [q])
    rw [← pre_snoc, ← len_snoc] at this
    exact this
theorem fire_self (x : S_api_Fire) : lf_constraintref21_Compare x x = some 0 := by
  obtain ⟨r, l⟩ := x
  unfold lf_constraintref21_Compare lf_constraintref21_Compare_J0
  simp only [ints21_self, Option.bind_some, beq_self_eq_true, cond_true]
  exact cmp21_L (fun c => some c) r l []
theorem fired_L (k : Option Bool) : ∀ (l pre : List S_api_Fire), lf_constraintref21_Same_L0 k (pre ++ l) l pre.length = k
  | [], pre => by rw [lf_constraintref21_Same_L0]
  | q :: l, pre => by
    rw [lf_constraintref21_Same_L0]
    simp only [lt_pre, at_pre, Option.bind_some, fire_self q, eq_self, Bool.not_true, cond_true, cond_false]
    have := fired_L k l (pre ++ [q])
    rw [← pre_snoc, ← len_snoc] at this
    exact this
theorem config_self (c : S_api_Config) (h1 : ∀ q ∈ c.f0_Stack, wtL q.f0_Goal.ts ≤ 1000000000) (h2 : ∀ q ∈ c.f1_Store, wtL q.2.ts ≤ 1000000000) (h3 : ∀ q ∈ c.f2_Binds, wt q.2 ≤ 1000000000) : lf_constraintref26_Same c c = some true := by
  unfold lf_constraintref26_Same lf_constraintref26_sameFrames lf_constraintref19_Same lf_constraintref06_Same lf_constraintref21_Same
  simp only [len_self, cond_false]
  have e1 := frames_L (some true) c.f0_Stack [] h1
  have e2 := items_L (some true) c.f1_Store [] h2
  have e3 := binds_L (some true) c.f2_Binds [] h3
  have e4 := fired_L (some true) c.f3_Fired []
  simp only [List.nil_append, List.length_nil] at e1 e2 e3 e4
  simp only [e1, e2, e3, e4, Option.bind_some, cond_true, beq_self_eq_true]
end Go.Proofs.YtdoljfkjdfaakaaGreat


namespace Go.Proofs.YtdoljfkjdfaakaaGreat
set_option maxRecDepth 100000
open Go.RowKit

theorem same52_self (l : List Int) : lf_constraintlaw52_same l l = some true := by
  unfold lf_constraintlaw52_same
  simp
theorem take_Config (fuel : Nat) (b : List Int) : lf_snapshot_TakeConfig fuel b = lf_wholeR_Config fuel b 2 := by
  unfold lf_snapshot_TakeConfig
  cases lf_wholeR_Config fuel b 2 <;> rfl
theorem len_ne {e : List Int} (h : e ≠ []) : ((e.length : Int) == 0) = false := by
  rw [beq_eq_false_iff_ne]
  have := List.length_pos_iff.2 h
  omega
theorem configs_lf (c : S_api_Config) (hb : ConfigB c) : lf_constraintlaw52_SnapshotConfigs 30 c = some true := by
  unfold lf_constraintlaw52_SnapshotConfigs
  simp only [ex52, Option.bind_some]
  obtain ⟨b, e1, e2⟩ := small_lf c hb
  rw [e1, Option.bind_some]
  refine cT (fun _ => rfl) fun hb => ?_
  have hc := e2 (by simpa using hb)
  have hw := wr_Config (fuel := 30) (by omega) c hc
  simp only [hw, wrR_Config (fuel := 30) (by omega) c hc, same52_self, take_Config, Option.bind_some, Bool.not_true, cond_false]
  cases he : eConfig c with
  | none =>
    simp only [Option.getD_none, whole0_Config, Option.bind_some]
    rfl
  | some e =>
    rw [he] at hw
    have h := (whole_Config (fuel := 30) (by omega) he hw (len_Config (fuel := 30) (by omega) c hc e he)).1
    simp only [Option.getD_some, h, Option.bind_some, len_ne (catO_pos he), cond_false, config_self c hc.k hc.s hc.b]
    rfl
theorem gives_SnapshotConfigs (c : S_api_Config) (hb : ConfigB c) : Gives Tryz.prog 4 [enc_S_api_Config c] (.bool true) := lg_constraintlaw52_SnapshotConfigs 30 c true (configs_lf c hb)
/-! ### cuts -/
end Go.Proofs.YtdoljfkjdfaakaaGreat


namespace Go.Proofs.YtdoljfkjdfaakaaGreat
set_option maxRecDepth 100000
open Go.ChangeShapes Go.WideShapes Go.ChangeAt Go.RowKit

theorem op_bool {t : TypeId} (ht : (Tryz.prog).underlying t = some .bool) : Op t 1 fun d => ∃ b, d = .bool b := fun H enc W base sp hd fuel cs x hx => by
  obtain ⟨b, rfl, _⟩ := DataW.trod_bool ht hx
  refine ⟨.bool b, .bool b, ⟨b, rfl⟩, rfl, rfl, ?_, by simp [Value.cells]⟩
  simp only [Rep]

/-! ### terms -/
/-! ### a law's arguments -/
end Go.Proofs.YtdoljfkjdfaakaaGreat


namespace Go.Proofs.YtdoljfkjdfaakaaGreat
set_option maxRecDepth 100000
open Go.ChangeShapes Go.WideShapes Go.ChangeAt Go.RowKit

theorem ub_pos {H : Type} (d : DataW H) : 1 ≤ Rows.uptoBulk d := by
  cases d with
  | lit l => cases l <;> simp [Rows.uptoBulk]
  | nil => simp [Rows.uptoBulk]
  | ptr d => simp [Rows.uptoBulk]
  | slice elems spare => simp [Rows.uptoBulk]
  | agg parts => simp [Rows.uptoBulk]
  | iface t d => simp [Rows.uptoBulk]
  | map entries => simp [Rows.uptoBulk]
  | held h => simp [Rows.uptoBulk]
theorem opb_i64 {N : Nat} {t : TypeId} (ht : (Tryz.prog).underlying t = some (.int .i64)) : OpB N t 1 fun d => ∃ n, d = .int .i64 n := fun H enc W base sp hd fuel cs x _ hx => by
  obtain ⟨d, v, ⟨n, rfl⟩, h2, h3, h4, h5⟩ := op_i64 ht H enc W base sp hd fuel cs x hx
  exact ⟨_, v, ⟨n, rfl⟩, h2, h3, h4, h5, by simp only [bulkD]; exact ub_pos _⟩
theorem opb_str {N : Nat} {t : TypeId} (ht : (Tryz.prog).underlying t = some .string) : OpB N t 1 fun d => ∃ s, d = .str s := fun H enc W base sp hd fuel cs x _ hx => by
  obtain ⟨s, rfl, hxe, w0⟩ := DataW.trod_string ht hx
  refine ⟨.str s, .string s, ⟨s, rfl⟩, rfl, rfl, ?_, by simp [Value.cells], ?_⟩
  · simp only [Rep]
    exact ⟨trivial, by unfold maxLen at w0; omega⟩
  · rw [hxe]
    simp only [bulkD, Rows.uptoBulk]
    exact Nat.le_refl _
def OpsB (N : Nat) : List Field → List (D → Prop) → Prop
  | [], [] => True
  | f :: fs, S :: ss => OpB N f.type ((Tryz.prog).cellsOf f.type) S ∧ OpsB N fs ss
  | _, _ => False
theorem fields_openB {H : Type} {enc : TypeId × Value → H} {W : World} {base : Nat} {sp : Nat → Bool} {hd : Bool} {N n : Nat} (hn : n < N) {cs : List Value} :
    ∀ (fs : List Field) (ss : List (D → Prop)) (o : Nat) (xs : List (DataW H × List MemPlace)), OpsB N fs ss → tight Tryz.prog o fs = true → o + total Tryz.prog fs = cs.length → xs.length = fs.length →
      (∀ (i : Nat) (f : Field), fs[i]? = some f → DataW.trod enc Tryz.prog W base sp hd n f.type ((cs.drop f.offset).take ((Tryz.prog).cellsOf f.type)) = xs[i]?) →
      ∃ ds, Fits ss ds ∧ (∀ d ∈ ds, d.plain = true) ∧ szs ds = total Tryz.prog fs ∧ Reps (live W) W ds (cs.drop o) ∧ bulkDs ds ≤ Rows.uptoBulkAll (xs.map (·.1))
  | [], [], o, xs, _, _, hl, _, _ => ⟨[], trivial, by simp, rfl, by simp only [total] at hl; rw [List.drop_eq_nil_of_le (by omega)]; exact Reps.nil _ _, by simp [bulkDs]⟩
  | f :: fs, S :: ss, o, x :: xs, hop, ht, hl, hlen, hx => by
    simp only [tight, Bool.and_eq_true, beq_iff_eq] at ht
    simp only [total] at hl
    obtain ⟨ds, h1, h2, h3, h4, h5⟩ := fields_openB hn fs ss (o + (Tryz.prog).cellsOf f.type) xs hop.2 ht.2 (by omega) (by simpa using hlen) fun i g hg => hx (i + 1) g hg
    have h6 := hx 0 f rfl
    rw [ht.1] at h6
    obtain ⟨d, v, g1, g2, g3, g4, g5, g6⟩ := hop.1 H enc W base sp hd n _ x hn h6
    refine ⟨d :: ds, ⟨g1, h1⟩, ?_, by simp only [szs, total, g3, h3], ?_, ?_⟩
    · intro e he
      rcases List.mem_cons.1 he with rfl | he
      · exact g2
      · exact h2 e he
    · have := Reps.cons g4 h4
      rw [← g5, ← List.drop_drop, List.take_append_drop] at this
      exact this
    · simp only [bulkDs, List.map_cons, Rows.uptoBulkAll]
      omega
  | _ :: _, _ :: _, _, [], _, _, _, h, _ => by simp at h
  | [], _ :: _, _, _, h, _, _, _, _ => h.elim
  | _ :: _, [], _, _, h, _, _, _, _ => h.elim
theorem opb_struct {N : Nat} {t : TypeId} {fs : Array Field} {n : Nat} (ht : (Tryz.prog).underlying t = some (.struct fs)) (ss : List (D → Prop)) (hs : OpsB N fs.toList ss) (h1 : tight Tryz.prog 0 fs.toList = true) (h2 : total Tryz.prog fs.toList = n) (h3 : (Tryz.prog).cellsOf t = n) :
    OpB (N + 1) t n fun d => ∃ ds, d = .agg ds ∧ Fits ss ds := fun H enc W base sp hd fuel cs x hN hx => by
  obtain ⟨xs, m, hm, hxe, hl, hlen, hf⟩ := DataW.trod_struct ht hx
  obtain ⟨ds, g1, g2, g3, g4, g5⟩ := fields_openB (enc := enc) (W := W) (base := base) (sp := sp) (hd := hd) (N := N) (n := m) (by omega) (cs := cs) fs.toList ss 0 xs hs h1 (by omega) (by simpa using hlen) fun i f hi => hf i f (by simpa using hi)
  refine ⟨.agg ds, .agg cs.toArray, ⟨ds, rfl, g1⟩, rfl, by simp only [sz]; omega, ?_, by simp [Value.cells], ?_⟩
  · simp only [Rep]
    rw [List.drop_zero] at g4
    exact ⟨cs, rfl, g4, reps_ones g4 g2⟩
  · rw [hxe]
    simp only [bulkD, Rows.uptoBulk]
    omega
theorem collectB {n : Nat} {hn : 0 < n} {S : D → Prop} {w : World} {ad : Addr} (Q : Nat → D → Prop) : ∀ (len : Nat), (∀ i, i < len → ∃ a cs, Q i a ∧ (layD n hn S).C w a cs ∧ ∀ j, j < n → w.cell? (ad.add (i * n + j)) = cs[j]?) → ∃ l xs, l.length = len ∧ (∀ i d, l[i]? = some d → Q i d) ∧ (layD n hn S).Ls w l xs ∧ ∀ j u, xs[j]? = some u → w.cell? (ad.add j) = some u
  | 0, _ => ⟨[], [], rfl, by simp, Lay.Ls.nil w, by simp⟩
  | len + 1, h => by
    obtain ⟨l, xs, h1, h0, h2, h3⟩ := collectB (hn := hn) (S := S) (w := w) (ad := ad) Q len fun i hi => h i (by omega)
    obtain ⟨a, cs, h7, h4, h5⟩ := h len (by omega)
    refine ⟨l ++ [a], xs ++ cs, by simp [h1], fun i d hd => ?_, Lay.Ls.app h2 (Lay.Ls.single h4), fun j u hu => ?_⟩
    · by_cases hi : i < l.length
      · rw [List.getElem?_append_left hi] at hd
        exact h0 i d hd
      · rw [List.getElem?_append_right (by omega)] at hd
        have hlt := (List.getElem?_eq_some_iff.1 hd).1
        simp at hlt
        have hi' : i = len := by omega
        subst hi'
        rw [h1, Nat.sub_self] at hd
        injection hd with hd
        subst hd
        exact h7
    · have hx := Lay.Ls.len h2
      have hx : xs.length = l.length * n := hx
      by_cases hj : j < xs.length
      · rw [List.getElem?_append_left hj] at hu
        exact h3 j u hu
      · rw [List.getElem?_append_right (by omega)] at hu
        have hlt := (List.getElem?_eq_some_iff.1 hu).1
        rw [(layD n hn S).len h4] at hlt
        have h6 := h5 (j - xs.length) hlt
        rw [hu] at h6
        rw [← h6, hx, h1]
        rw [hx, h1] at hj
        congr 2
        omega
theorem bulk_sum {H : Type} : ∀ (l : List D) (es : List (DataW H)), l.length = es.length → (∀ (i : Nat) (d : D), l[i]? = some d → ∃ e : DataW H, es[i]? = some e ∧ bulkD d ≤ Rows.uptoBulk e) → bulkDs l ≤ Rows.uptoBulkAll es
  | [], es, _, _ => by simp [bulkDs]
  | d :: l, [], h, _ => by simp at h
  | d :: l, e :: es, h, hp => by
    obtain ⟨e', h1, h2⟩ := hp 0 d rfl
    have h1 : e = e' := by simpa using h1
    subst h1
    have := bulk_sum l es (by simpa using h) fun i x hx => by simpa using hp (i + 1) x (by simpa using hx)
    simp only [bulkDs, Rows.uptoBulkAll]
    omega
theorem opb_slice {N : Nat} {t e : TypeId} {n : Nat} {S : D → Prop} (ht : (Tryz.prog).underlying t = some (.slice e)) (hn : (Tryz.prog).cellsOf e = n) (hp : 0 < n) (he : OpB N e n S) : OpB (N + 1) t 1 fun d => ∃ l, d = .lst l ∧ ∀ x ∈ l, S x := fun H enc W base sp hd fuel cs x hN hx => by
  rcases DataW.trod_slice ht hx with ⟨rfl, hxe⟩ | ⟨a, len, cap, elems, rest, m, hf, rfl, hxe, _, hl, hm, hlen, hel, _, _⟩
  · refine ⟨.lst [], .slice none 0 0, ⟨[], rfl, by simp⟩, rfl, rfl, ?_, by simp [Value.cells], by rw [hxe]; simp [bulkD, bulkDs, Rows.uptoBulk]⟩
    simp only [Rep]
    exact ⟨none, 0, [], rfl, by simp, by omega, .inl rfl, Reps.nil _ _, by simp⟩
  · obtain ⟨l, xs, h1, h0, h2, h3⟩ := collectB (hn := hp) (S := S) (w := W) (ad := a) (fun i d => ∃ y, elems[i]? = some y ∧ bulkD d ≤ Rows.uptoBulk y.1) len fun i hi => by
      have g1 := hel i hi
      rw [List.getElem?_eq_getElem (by omega), hn] at g1
      obtain ⟨cs', g2, g3⟩ := Option.bind_eq_some_iff.1 g1
      obtain ⟨d, v, k1, k2, k3, k4, k5, k6⟩ := he H enc W base sp hd m cs' _ (by omega) g3
      obtain ⟨_, g5, g6⟩ := World.cells?_some g2
      refine ⟨d, cs', ⟨_, List.getElem?_eq_getElem (by omega), k6⟩, ⟨k1, k2, k3, v, k4, k5⟩, fun j hj => ?_⟩
      rw [← add_addE]
      exact g6 j hj
    obtain ⟨h6, h7⟩ := layD_ls h2
    refine ⟨.lst l, .slice (some a) l.length cap, ⟨l, rfl, fun d hd => (h6 d hd).1⟩, rfl, rfl, ?_, by rw [h1]; simp [Value.cells], ?_⟩
    · simp only [Rep]
      exact ⟨some a, cap, xs, rfl, by omega, by unfold maxLen at hm; omega, rd_live (.inr ⟨a, rfl, h3⟩), h7, reps_ones h7 fun d hd => (h6 d hd).2⟩
    · rw [hxe]
      simp only [bulkD, Rows.uptoBulk]
      have := bulk_sum l (elems.map (·.1)) (by simp [h1, hlen]) fun i d hd => by
        obtain ⟨y, y1, y2⟩ := h0 i d hd
        exact ⟨y.1, by simp [y1], y2⟩
      omega
theorem opb_list {α : Type} {f : α → D} {N : Nat} {t e : TypeId} {n : Nat} (ht : (Tryz.prog).underlying t = some (.slice e)) (hn : (Tryz.prog).cellsOf e = n) (hp : 0 < n) (he : OpB N e n fun d => ∃ a, d = f a) : OpB (N + 1) t 1 fun d => ∃ av : List α, d = .lst (av.map f) :=
  (opb_slice ht hn hp he).to fun d ⟨l, hl, h⟩ => by
    obtain ⟨av, rfl⟩ := list_img h
    exact ⟨av, hl⟩
theorem opb_term : ∀ N, OpB N 114 4 fun d => ∃ t, d = encT t
  | 0 => fun H enc W base sp hd fuel cs x hN => by omega
  | N + 1 => (opb_struct (N := N) Tryz.underlying114 [fun d => ∃ n, d = .int .i64 n, fun d => ∃ n, d = .int .i64 n, fun d => ∃ s, d = .str s, fun d => ∃ l : List T, d = .lst (l.map encT)] ⟨opb_i64 Tryz.underlying3, opb_i64 Tryz.underlying3, opb_str Tryz.underlying9, (opb_list Tryz.underlying71 cells_term (by omega) (opb_term N)).less (by omega), trivial⟩ (by kernel_rfl) (by kernel_rfl) (by kernel_rfl)).to fun d ⟨ds, hd, h⟩ => by
    match ds, h with
    | [_, _, _, _], ⟨⟨k, rfl⟩, ⟨i, rfl⟩, ⟨s, rfl⟩, ⟨l, rfl⟩, _⟩ => exact ⟨.mk k i s l, by rw [hd, encT, fsT_eq]; rfl⟩
theorem opb_terms (N : Nat) : OpB N 71 1 fun d => ∃ l : List T, d = .lst (l.map encT) := (opb_list Tryz.underlying71 cells_term (by omega) (opb_term N)).less (by omega)
theorem opb_atom (N : Nat) : OpB N 107 2 fun d => ∃ a, d = encA a :=
  ((opb_struct (N := N) Tryz.underlying107 [fun d => ∃ s, d = .str s, fun d => ∃ l : List T, d = .lst (l.map encT)] ⟨opb_str Tryz.underlying9, opb_terms N, trivial⟩ (by kernel_rfl) (by kernel_rfl) (by kernel_rfl)).less (by omega)).to fun d ⟨ds, hd, h⟩ => by
    match ds, h with
    | [_, _], ⟨⟨s, rfl⟩, ⟨l, rfl⟩, _⟩ => exact ⟨⟨s, l⟩, hd⟩
theorem opb_goal (N : Nat) : OpB N 73 3 fun d => ∃ g, d = encG g :=
  ((opb_struct (N := N) Tryz.underlying73 [fun d => ∃ n, d = .int .i64 n, fun d => ∃ s, d = .str s, fun d => ∃ l : List T, d = .lst (l.map encT)] ⟨opb_i64 Tryz.underlying3, opb_str Tryz.underlying9, opb_terms N, trivial⟩ (by kernel_rfl) (by kernel_rfl) cells_goal).less (by omega)).to fun d ⟨ds, hd, h⟩ => by
    match ds, h with
    | [_, _, _], ⟨⟨n, rfl⟩, ⟨s, rfl⟩, ⟨l, rfl⟩, _⟩ => exact ⟨⟨n, s, l⟩, hd⟩
/-! ### what the bulk bounds -/
mutual
theorem wt_bulk : ∀ t : T, wt t ≤ bulkD (encT t)
  | .mk k i s ar => by
    have := wtL_bulk ar
    rw [encT, fsT_eq]
    simp only [bulkD, bulkDs, wt, T.ar]
    omega
theorem wtL_bulk : ∀ l : List T, wtL l ≤ bulkDs (l.map encT)
  | [] => by simp [wtL]
  | t :: l => by
    have h1 := wt_bulk t
    have h2 := wtL_bulk l
    simp only [wtL, List.map_cons, bulkDs]
    omega
end
theorem bulk_mem {α : Type} {f : α → D} {a : α} : ∀ {l : List α}, a ∈ l → bulkD (f a) ≤ bulkDs (l.map f)
  | b :: l, h => by
    simp only [List.map_cons, bulkDs]
    rcases List.mem_cons.1 h with rfl | h
    · omega
    · have := bulk_mem (f := f) h; omega
theorem bf_bulk {a : At} (h : bulkD (encA a) ≤ 1048576) : wtL a.ts ≤ 1048576 := by
  have := wtL_bulk a.ts
  simp only [encA, bulkD, bulkDs] at h
  omega
theorem bg_bulk {g : Gl} (h : bulkD (encG g) ≤ 1048576) : wtL g.ts ≤ 1048576 := by
  have := wtL_bulk g.ts
  simp only [encG, bulkD, bulkDs] at h
  omega
/-! ### a law's arguments -/
end Go.Proofs.YtdoljfkjdfaakaaGreat


namespace Go.Proofs.YtdoljfkjdfaakaaGreat
set_option maxRecDepth 100000
open Go.ChangeShapes Go.WideShapes Go.ChangeAt Go.RowKit

theorem opb_bool {N : Nat} {t : TypeId} (ht : (Tryz.prog).underlying t = some .bool) : OpB N t 1 fun d => ∃ n, d = .bool n := fun H enc W base sp hd fuel cs x _ hx => by
  obtain ⟨d, v, ⟨n, rfl⟩, h2, h3, h4, h5⟩ := op_bool ht H enc W base sp hd fuel cs x hx
  exact ⟨_, v, ⟨n, rfl⟩, h2, h3, h4, h5, by simp only [bulkD]; exact ub_pos _⟩
theorem opb_ints52 (N : Nat) : OpB N 121 1 fun d => ∃ l : List Int, d = .lst (l.map (D.int .i64)) := (opb_list (f := D.int .i64) Tryz.underlying121 cells_int (by omega) (opb_i64 (N := N) Tryz.underlying3)).less (by omega)
theorem opb_frame (N : Nat) : OpB N 75 5 fun d => ∃ x, d = enc_S_api_Frame x :=
  ((opb_struct (N := N) Tryz.underlying75 [fun d => ∃ g, d = encG g, fun d => ∃ n, d = .int .i64 n, fun d => ∃ n, d = .int .i64 n] ⟨opb_goal N, opb_i64 Tryz.underlying3, opb_i64 Tryz.underlying3, trivial⟩ (by kernel_rfl) (by kernel_rfl) (by kernel_rfl)).less (by omega)).to fun d ⟨ds, hd, h⟩ => by
    match ds, h with
    | [_, _, _], ⟨⟨x0, rfl⟩, ⟨x1, rfl⟩, ⟨x2, rfl⟩, _⟩ => exact ⟨⟨x0, x1, x2⟩, hd⟩
theorem opb_stack (N : Nat) : OpB N 38 1 fun d => ∃ l : List S_api_Frame, d = .lst (l.map enc_S_api_Frame) := (opb_list Tryz.underlying38 (by kernel_rfl) (by omega) (opb_frame N)).less (by omega)
theorem opb_item (N : Nat) : OpB N 109 3 fun d => ∃ x : Int × At, d = encIt x :=
  ((opb_struct (N := N) Tryz.underlying109 [fun d => ∃ n, d = .int .i64 n, fun d => ∃ a, d = encA a] ⟨opb_i64 Tryz.underlying3, opb_atom N, trivial⟩ (by kernel_rfl) (by kernel_rfl) (by kernel_rfl)).less (by omega)).to fun d ⟨ds, hd, h⟩ => by
    match ds, h with
    | [_, _], ⟨⟨x0, rfl⟩, ⟨x1, rfl⟩, _⟩ => exact ⟨(x0, x1), hd⟩
theorem opb_items (N : Nat) : OpB N 39 1 fun d => ∃ l : List (Int × At), d = .lst (l.map encIt) := (opb_list Tryz.underlying39 (by kernel_rfl) (by omega) (opb_item N)).less (by omega)
theorem opb_bind (N : Nat) : OpB N 116 5 fun d => ∃ x : Int × T, d = encP x :=
  ((opb_struct (N := N) Tryz.underlying116 [fun d => ∃ n, d = .int .i64 n, fun d => ∃ t, d = encT t] ⟨opb_i64 Tryz.underlying3, opb_term N, trivial⟩ (by kernel_rfl) (by kernel_rfl) (by kernel_rfl)).less (by omega)).to fun d ⟨ds, hd, h⟩ => by
    match ds, h with
    | [_, _], ⟨⟨x0, rfl⟩, ⟨x1, rfl⟩, _⟩ => exact ⟨(x0, x1), hd⟩
theorem opb_binds52 (N : Nat) : OpB N 41 1 fun d => ∃ l : List (Int × T), d = .lst (l.map encP) := (opb_list Tryz.underlying41 (by kernel_rfl) (by omega) (opb_bind N)).less (by omega)
theorem opb_fire (N : Nat) : OpB N 123 2 fun d => ∃ x, d = enc_S_api_Fire x :=
  ((opb_struct (N := N) Tryz.underlying123 [fun d => ∃ n, d = .int .i64 n, fun d => ∃ l : List Int, d = .lst (l.map (D.int .i64))] ⟨opb_i64 Tryz.underlying3, opb_ints52 N, trivial⟩ (by kernel_rfl) (by kernel_rfl) (by kernel_rfl)).less (by omega)).to fun d ⟨ds, hd, h⟩ => by
    match ds, h with
    | [_, _], ⟨⟨x0, rfl⟩, ⟨x1, rfl⟩, _⟩ => exact ⟨⟨x0, x1⟩, hd⟩
theorem opb_fired (N : Nat) : OpB N 42 1 fun d => ∃ l : List S_api_Fire, d = .lst (l.map enc_S_api_Fire) := (opb_list Tryz.underlying42 (by kernel_rfl) (by omega) (opb_fire N)).less (by omega)
theorem opb_config (N : Nat) : OpB N 44 7 fun d => ∃ x, d = enc_S_api_Config x :=
  ((opb_struct (N := N) Tryz.underlying44 [fun d => ∃ l : List S_api_Frame, d = .lst (l.map enc_S_api_Frame), fun d => ∃ l : List (Int × At), d = .lst (l.map encIt), fun d => ∃ l : List (Int × T), d = .lst (l.map encP), fun d => ∃ l : List S_api_Fire, d = .lst (l.map enc_S_api_Fire), fun d => ∃ n, d = .int .i64 n, fun d => ∃ n, d = .int .i64 n, fun d => ∃ b, d = .bool b] ⟨opb_stack N, opb_items N, opb_binds52 N, opb_fired N, opb_i64 Tryz.underlying3, opb_i64 Tryz.underlying3, opb_bool Tryz.underlying4, trivial⟩ (by kernel_rfl) (by kernel_rfl) (by kernel_rfl)).less (by omega)).to fun d ⟨ds, hd, h⟩ => by
    match ds, h with
    | [_, _, _, _, _, _, _], ⟨⟨x0, rfl⟩, ⟨x1, rfl⟩, ⟨x2, rfl⟩, ⟨x3, rfl⟩, ⟨x4, rfl⟩, ⟨x5, rfl⟩, ⟨x6, rfl⟩, _⟩ => exact ⟨⟨x0, x1, x2, x3, x4, x5, x6⟩, hd⟩
def bConfig : ArgB := ⟨_, _, _, opb_config, (cl_struct Tryz.underlying44).to fun _ ⟨_, h⟩ => ⟨_, h⟩⟩
theorem config_bulk {c : S_api_Config} (h : bulkD (enc_S_api_Config c) ≤ 1048576) : ConfigB c := by
  simp only [enc_S_api_Config, bulkD, bulkDs] at h
  refine ⟨fun x hx => ?_, fun x hx => ?_, fun x hx => ?_⟩
  · have h1 := bulk_mem (f := enc_S_api_Frame) hx
    simp only [enc_S_api_Frame, bulkD, bulkDs] at h1
    have := bg_bulk (g := x.f0_Goal) (by omega)
    omega
  · have h1 := bulk_mem (f := encIt) hx
    simp only [encIt, bulkD, bulkDs] at h1
    have := bf_bulk (a := x.2) (by omega)
    omega
  · have h1 := bulk_mem (f := encP) hx
    have h2 : bulkD (encT x.2) + 2 ≤ bulkD (encP x) := by
      simp only [encP, bulkD, bulkDs]
      omega
    have h3 := wt_bulk x.2
    omega
end Go.Proofs.YtdoljfkjdfaakaaGreat

