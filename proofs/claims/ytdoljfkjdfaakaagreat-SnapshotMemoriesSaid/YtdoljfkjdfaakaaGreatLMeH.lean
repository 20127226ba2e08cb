/-
  Texts of the seat, merged.
-/
import Derived.Test.YtdoljfkjdfaakaaGreatLCA
import Derived.Test.YtdoljfkjdfaakaaGreatLCB
import Derived.Test.YtdoljfkjdfaakaaGreatLCC
import Derived.Test.YtdoljfkjdfaakaaGreatLCD
import Derived.Test.YtdoljfkjdfaakaaGreatLCE
import Derived.Test.YtdoljfkjdfaakaaGreatLCF
import Derived.Test.YtdoljfkjdfaakaaGreatLMeG
import Derived.Test.YtdoljfkjdfaakaaGreatChecked
import Derived.WalkKit
import Derived.Lib.Hide
import Derived.Lib.AppendStr
import Derived.Deep.AppendLies
import Derived.Deep.AppendSrc
import Derived.Deep.Draws
import Derived.Deep.QuietTactic
import Derived.BigQuiet
import Derived.Deep.RegionWith
import Derived.Maps.AppendAt
import Derived.WalkSpells
import Derived.Orders
import Derived.Deep.Slices
import Derived.Deep.Fields
import Derived.ChangeArms
import Derived.Lib.OthersKept
import Derived.Lib.TrimU
import Derived.Lib.IndexAny
import Derived.Deep.LoopGhost
import Derived.Lib.Bytealg
import Derived.RangeFuncBox
import Derived.RangeFuncNested
import Derived.RangeFuncBound
import Derived.RangeFuncCalls
import Derived.RangeFuncLeaves
import Derived.Shelf.Abstract
import Derived.OwnWalkIn
import Derived.TacticsInMore
import Derived.LoopNIn
import Derived.LoopIn
import Derived.RangeFuncWrites
import Derived.Maps.OwnIn
import Derived.Maps.Views
import Derived.Laws.OwnMore
import Derived.Maps.OwnSet
import Derived.Laws.IdiomStrings
import Derived.Test.YtdoljfkjdfaakaaGreatRows
import Derived.ProofKit
import Derived.OpenShut
import Derived.Carry
import Derived.OrdersIn
import Derived.Great.BuildSlice
import Derived.ArgAppend
import Derived.Laws.MakeOwn
import Derived.Laws.Cover3
import Derived.Laws.CopyRow
import Derived.MapKept
import Derived.Maps.RangeRun
import Derived.DeepKeys5
import Derived.WideKeyRuns
import Derived.RangeFuncOwn
import Derived.Defers
import Derived.Recover
import Derived.Tactics
import Derived.Tactics2
import Derived.KernelRfl
import Derived.ChangeSlices
import Derived.JoinedCond
set_option linter.unusedVariables false
set_option linter.unusedSimpArgs false
set_option linter.unnecessarySimpa false
set_option linter.all false

namespace Go.Proofs.YtdoljfkjdfaakaaGreat
set_option maxRecDepth 100000
open Go.RowKit

noncomputable def lf_constraintref03_GreatAtoms_L0 (k : (Int) → Option (Bool)) : List At → Int → Option (Bool)
  | [], most_1 =>
  (k most_1)
  | q_4 :: rest, most_1 =>
  (bif (decide (most_1 ≥ (0 : Int))) then
  ((x_weigh q_4.ts (wr ((wr (most_1 - (1 : Int))) - (wr (Int.tdiv (q_4.n.size : Int) 8)))) 64).bind fun r_6 =>
  (lf_constraintref03_GreatAtoms_L0 k rest r_6))
  else
  (k most_1))
noncomputable def lf_constraintref03_GreatAtoms (l_a0 : (List At)) (most_a1 : Int) : Option (Bool) :=
  (lf_constraintref03_GreatAtoms_L0 (fun most_3 =>
  some ((decide (most_3 < (0 : Int))))) l_a0 most_a1)

set_option maxHeartbeats 1000000 in
theorem lg_constraintref03_GreatAtoms (l_a0 : (List At)) (most_a1 : Int) (res : Bool) (hr : lf_constraintref03_GreatAtoms l_a0 most_a1 = some res) : Gives Tryz.prog 32 [.lst (l_a0.map encA), .int .i64 most_a1] (.bool res) := by
  unfold lf_constraintref03_GreatAtoms at hr
  refine spec_env [(0, .lst (l_a0.map encA)), (1, .int .i64 most_a1)] Tryz.func32 rfl rfl fun K hK => ?_
  refine g_seq ?_
  refine g_run (by kernel_rfl) [(0, .d)] rfl ?_
  refine r_d rfl rfl rfl (s_assign rfl rfl) ?_
  refine r_end ?_
  refine g_seq ?_
  refine g_seq ?_
  refine g_run (by kernel_rfl) [(0, .d)] rfl ?_
  refine r_d rfl rfl rfl (s_assign rfl rfl) ?_
  refine r_end ?_
  obtain ⟨kk0, hkk0, hr⟩ := exK (fun k => lf_constraintref03_GreatAtoms_L0 k l_a0 most_a1) hr
  refine g_len 0 rfl (asl rfl) fun hla0 => ?_
  simp only [List.length_map] at hla0
  refine g_blockJ (fun env σ => ∃ (most_3 : Int), env = [(1, .int .i64 most_3)] ∧ σ = [] ∧ kk0 most_3 = some res) ?_ (fun HK0 => ?_)
  ·
   rintro _ _ ⟨most_3, rfl, rfl, hr⟩
   rw [hkk0] at hr
   refine g_seq ?_
   refine g_run (by kernel_rfl) [(0, .d), (1, .d), (2, .d)] rfl ?_
   refine r_d rfl rfl rfl (s_move rfl rfl) ?_
   refine r_d rfl rfl rfl (s_cmp rfl rfl rfl rfl) ?_
   refine r_d rfl rfl rfl (s_assign rfl rfl) ?_
   refine r_end ?_
   obtain rfl := Option.some.inj hr
   refine g_ret Tryz.func32 _ (.cons (resTmp rfl (Wk.refl _)) .nil) ?_
   rfl
  ·
   refine g_sub [(0, .lst (l_a0.map encA)), (1, .int .i64 most_a1), (5, .int .i64 ((0 : Nat) : Int))] (Sub.cons' rfl (Sub.cons' rfl (Sub.cons' rfl (Sub.nil _)))) ?_
   refine g_loop (fun n env σ => ∃ (most_1 : Int) (i_2 : Nat), (n = l_a0.length - i_2) ∧ (env = [(0, .lst (l_a0.map encA)), (1, .int .i64 most_1), (5, .int .i64 (i_2 : Int))]) ∧ (σ = []) ∧ (i_2 ≤ l_a0.length) ∧ (lf_constraintref03_GreatAtoms_L0 kk0 (l_a0.drop i_2) most_1 = some res)) _ ⟨most_a1, 0, rfl, rfl, rfl, Nat.zero_le _, hr⟩ ?_
   rintro n _ _ ⟨most_1, i_2, rfl, rfl, rfl, hi0, hr⟩ IH0
   rcases listStep l_a0 i_2 hi0 with ⟨ht0, hd0, he0⟩ | ⟨q_4, ht0, hd0, hq0, hlt0⟩
   ·
    rw [hd0, lf_constraintref03_GreatAtoms_L0] at hr
    refine g_seq ?_
    refine g_seq ?_
    refine g_run (by kernel_rfl) [(0, .d), (1, .d), (2, .d), (3, .d), (4, .d), (5, .d), (6, .d), (7, .d)] rfl ?_
    refine r_d rfl rfl rfl (s_move rfl rfl) ?_
    refine r_d rfl rfl rfl (s_move rfl rfl) ?_
    refine r_d rfl rfl rfl (m_len (f := encA) l_a0 rfl el_L_api_Atom rfl (asl rfl)) ?_
    refine r_d rfl rfl rfl (s_cmp rfl rfl rfl rfl) ?_
    refine r_d rfl rfl rfl (s_move rfl rfl) ?_
    refine r_known 10 false rfl ht0 ?_
    refine r_skip rfl rfl rfl ?_
    refine r_skip rfl rfl rfl ?_
    refine r_d rfl rfl rfl (s_pickF rfl rfl rfl) ?_
    refine r_end ?_
    refine g_condF rfl ?_
    refine g_exit rfl ?_
    refine g_sub [(1, .int .i64 most_1)] (Sub.cons' rfl (Sub.nil _)) ?_
    exact HK0 _ _ ⟨most_1, rfl, rfl, hr⟩
   ·
    rw [hd0, lf_constraintref03_GreatAtoms_L0] at hr
    refine g_seq ?_
    refine g_seq ?_
    refine g_run (by kernel_rfl) [(0, .d), (1, .d), (2, .d), (3, .d), (4, .d), (5, .d), (6, .d), (7, .d)] rfl ?_
    refine r_d rfl rfl rfl (s_move rfl rfl) ?_
    refine r_d rfl rfl rfl (s_move rfl rfl) ?_
    refine r_d rfl rfl rfl (m_len (f := encA) l_a0 rfl el_L_api_Atom rfl (asl rfl)) ?_
    refine r_d rfl rfl rfl (s_cmp rfl rfl rfl rfl) ?_
    refine r_d rfl rfl rfl (s_move rfl rfl) ?_
    refine r_known 10 true rfl ht0 ?_
    refine r_d rfl rfl rfl (s_move rfl rfl) ?_
    refine r_d rfl rfl rfl (s_cmp rfl rfl rfl rfl) ?_
    refine r_d rfl rfl rfl (s_pickT rfl rfl rfl) ?_
    refine r_end ?_
    refine g_sB 13 rfl hr (fun h13_4 hr => ?_) (fun h13_4 hr => ?_)
    ·
     refine g_condT rfl ?_
     refine g_skip ?_
     refine g_seq ?_
     refine g_block ?_
     refine g_any (by kernel_rfl) (by kernel_rfl) [(0, .d), (1, .d), (2, .d), (3, .d), (4, .d), (5, .d), (6, .d), (7, .d), (8, .d), (9, .d), (10, .d), (11, .d), (12, .d), (13, .d), (14, .d), (15, .d), (16, .d)] (by kernel_rfl) ?_
     refine r_d rfl rfl rfl (s_move rfl rfl) ?_
     refine r_d rfl rfl rfl (s_move rfl rfl) ?_
     refine r_d rfl rfl rfl (m_index (f := encA) l_a0 rfl el_L_api_Atom rfl (asl rfl) rfl hq0 sz_encA rfl) ?_
     refine r_d rfl rfl rfl (s_fieldAddr rfl fl_api_Atom_1 rfl rfl rfl rfl) ?_
     refine r_d rfl rfl rfl (s_load rfl rfl (by exact ty_L_api_Term) rfl) ?_
     refine r_d rfl rfl rfl (s_move rfl rfl) ?_
     refine r_d rfl rfl rfl (s_arW rfl rfl rfl rfl) ?_
     refine r_d rfl rfl rfl (s_move rfl rfl) ?_
     refine r_d rfl rfl rfl (s_move rfl rfl) ?_
     refine r_d rfl rfl rfl (m_index (f := encA) l_a0 rfl el_L_api_Atom rfl (asl rfl) rfl hq0 sz_encA rfl) ?_
     refine r_d rfl rfl rfl (s_fieldAddr rfl fl_api_Atom_0 rfl rfl rfl rfl) ?_
     refine r_d rfl rfl rfl (s_load rfl rfl (by exact ty_string) rfl) ?_
     refine r_d rfl rfl rfl (s_lenS rfl Tryz.underlying9 rfl) ?_
     refine r_d rfl rfl rfl (s_quoC rfl rfl rfl (by decide)) ?_
     refine r_d rfl rfl rfl (s_arW rfl rfl rfl rfl) ?_
     obtain ⟨r_6, hr_6, hr⟩ := bindS hr
     refine r_d rfl rfl rfl (s_callD rfl cl_constraintref03_weigh (.cons rfl (Wk.refl _) (.cons rfl (Wk.refl _) (.cons rfl (Wk.refl _) .nil))) (lx_constraintref03_weigh _ _ _ _ hr_6)) ?_
     refine r_d rfl rfl rfl (s_assign rfl rfl) ?_
     refine r_end ?_
     refine g_inBlock ?_
     refine g_run (by kernel_rfl) [(0, .d), (1, .d), (2, .d)] rfl ?_
     refine r_d rfl rfl rfl (s_move rfl rfl) ?_
     refine r_d rfl rfl rfl (s_ar (r := ((i_2 + 1 : Nat) : Int)) rfl rfl rfl (by simp [iar]) (by omega)) ?_
     refine r_d rfl rfl rfl (s_assign rfl rfl) ?_
     refine r_end ?_
     refine g_sub [(0, .lst (l_a0.map encA)), (1, .int .i64 r_6), (5, .int .i64 ((i_2 + 1 : Nat) : Int))] (Sub.cons' rfl (Sub.cons' rfl (Sub.cons' rfl (Sub.nil _)))) ?_
     exact IH0 _ _ _ (by omega) ⟨r_6, (i_2 + 1), rfl, rfl, rfl, (by omega), hr⟩
    ·
     refine g_condF rfl ?_
     refine g_exit rfl ?_
     refine g_sub [(1, .int .i64 most_1)] (Sub.cons' rfl (Sub.nil _)) ?_
     exact HK0 _ _ ⟨most_1, rfl, rfl, hr⟩

noncomputable def lf_constraintlaw52_few_L2 (k : Option (Bool)) : List S_api_Applied → Option (Bool)
  | [] =>
  k
  | q_19 :: rest =>
  (bif (decide ((q_19.f1_Heads.length : Int) > (20 : Int))) then
  some (false)
  else
  (bif (decide ((q_19.f2_Gone.length : Int) > (20 : Int))) then
  some (false)
  else
  (bif (decide ((q_19.f3_Made.length : Int) > (20 : Int))) then
  some (false)
  else
  (bif (decide ((q_19.f5_Just.length : Int) > (80 : Int))) then
  some (false)
  else
  (lf_constraintlaw52_few_L2 k rest)))))

noncomputable def lf_constraintlaw52_few_L1 (k : ((List At)) → Option (Bool)) : List S_api_Fact → (List At) → Option (Bool)
  | [], l_11 =>
  (k l_11)
  | q_25 :: rest, l_11 =>
  ((appO 40 l_11 [q_25.f1_Atom]).bind fun l_26 =>
  (bif (decide ((q_25.f2_Just.length : Int) > (80 : Int))) then
  some (false)
  else
  (lf_constraintlaw52_few_L1 k rest l_26)))

noncomputable def lf_constraintlaw52_few_L0 (k : ((List At)) → Option (Bool)) : List S_api_Fact → (List At) → Option (Bool)
  | [], l_6 =>
  (k l_6)
  | q_29 :: rest, l_6 =>
  ((appO 40 l_6 [q_29.f1_Atom]).bind fun l_30 =>
  (bif (decide ((q_29.f2_Just.length : Int) > (80 : Int))) then
  some (false)
  else
  (lf_constraintlaw52_few_L0 k rest l_30)))
noncomputable def lf_constraintlaw52_few (m_a0 : S_api_Memory) : Option (Bool) :=
  (bif (decide ((m_a0.f0_Facts.length : Int) > (20 : Int))) then
  some (false)
  else
  (bif (decide ((m_a0.f1_Past.length : Int) > (20 : Int))) then
  some (false)
  else
  (bif (decide ((m_a0.f2_Log.length : Int) > (20 : Int))) then
  some (false)
  else
  (lf_constraintlaw52_few_L0 (fun l_9 =>
  (lf_constraintlaw52_few_L1 (fun l_14 =>
  (lf_constraintlaw52_few_L2 (((lf_constraintref03_GreatAtoms l_14 600).bind fun r_18 =>
  some ((!r_18)))) m_a0.f2_Log)) m_a0.f1_Past l_9)) m_a0.f0_Facts []))))

set_option maxHeartbeats 1000000 in
theorem lg_constraintlaw52_few (m_a0 : S_api_Memory) (res : Bool) (hr : lf_constraintlaw52_few m_a0 = some res) : Gives Tryz.prog 22 [enc_S_api_Memory m_a0] (.bool res) := by
  unfold lf_constraintlaw52_few at hr
  refine spec_env [(0, enc_S_api_Memory m_a0)] Tryz.func22 rfl rfl fun K hK => ?_
  refine g_seq ?_
  refine g_run (by kernel_rfl) [(0, .d), (1, .d)] rfl ?_
  refine r_d rfl rfl rfl (s_box rfl rfl rfl) ?_
  refine r_d rfl rfl rfl (s_assign rfl rfl) ?_
  refine r_end ?_
  refine g_seq ?_
  refine g_seq ?_
  refine g_run (by kernel_rfl) [(0, .d), (1, .d), (2, .d), (3, .d), (4, .d), (5, .d), (6, .d), (7, .d), (8, .d), (9, .d), (10, .d), (11, .d), (12, .d), (13, .d), (14, .d), (15, .d)] rfl ?_
  refine r_d rfl rfl rfl (s_fieldAddr rfl fl_api_Memory_0 rfl rfl rfl rfl) ?_
  refine r_d rfl rfl rfl (s_load rfl rfl (by exact ty_L_api_Fact) rfl) ?_
  refine r_d rfl rfl rfl (m_len (f := enc_S_api_Fact) m_a0.f0_Facts rfl el_L_api_Fact rfl (asl rfl)) ?_
  refine r_d rfl rfl rfl (s_cmp rfl rfl rfl rfl) ?_
  refine r_d rfl rfl rfl (s_move rfl rfl) ?_
  refine r_sB 12 rfl hr (fun h12_0 hr => ?_) (fun h12_0 hr => ?_)
  ·
   refine r_skip rfl rfl rfl ?_
   refine r_skip rfl rfl rfl ?_
   refine r_skip rfl rfl rfl ?_
   refine r_skip rfl rfl rfl ?_
   refine r_d rfl rfl rfl (s_pickT rfl rfl rfl) ?_
   refine r_d rfl rfl rfl (s_move rfl rfl) ?_
   refine r_skip rfl rfl rfl ?_
   refine r_skip rfl rfl rfl ?_
   refine r_skip rfl rfl rfl ?_
   refine r_skip rfl rfl rfl ?_
   refine r_d rfl rfl rfl (s_pickT rfl rfl rfl) ?_
   refine r_end ?_
   refine g_condT rfl ?_
   refine g_seq ?_
   refine g_run (by kernel_rfl) [(0, .d)] rfl ?_
   refine r_d rfl rfl rfl (s_assign rfl rfl) ?_
   refine r_end ?_
   obtain rfl := Option.some.inj hr
   refine g_ret Tryz.func22 _ (.cons (resTmp rfl (Wk.refl _)) .nil) ?_
   rfl
  ·
   refine r_d rfl rfl rfl (s_fieldAddr rfl fl_api_Memory_1 rfl rfl rfl rfl) ?_
   refine r_d rfl rfl rfl (s_load rfl rfl (by exact ty_L_api_Fact) rfl) ?_
   refine r_d rfl rfl rfl (m_len (f := enc_S_api_Fact) m_a0.f1_Past rfl el_L_api_Fact rfl (asl rfl)) ?_
   refine r_d rfl rfl rfl (s_cmp rfl rfl rfl rfl) ?_
   refine r_d rfl rfl rfl (s_pickF rfl rfl rfl) ?_
   refine r_d rfl rfl rfl (s_move rfl rfl) ?_
   refine r_sB 18 rfl hr (fun h18_1 hr => ?_) (fun h18_1 hr => ?_)
   ·
    refine r_skip rfl rfl rfl ?_
    refine r_skip rfl rfl rfl ?_
    refine r_skip rfl rfl rfl ?_
    refine r_skip rfl rfl rfl ?_
    refine r_d rfl rfl rfl (s_pickT rfl rfl rfl) ?_
    refine r_end ?_
    refine g_condT rfl ?_
    refine g_seq ?_
    refine g_run (by kernel_rfl) [(0, .d)] rfl ?_
    refine r_d rfl rfl rfl (s_assign rfl rfl) ?_
    refine r_end ?_
    obtain rfl := Option.some.inj hr
    refine g_ret Tryz.func22 _ (.cons (resTmp rfl (Wk.refl _)) .nil) ?_
    rfl
   ·
    refine r_d rfl rfl rfl (s_fieldAddr rfl fl_api_Memory_2 rfl rfl rfl rfl) ?_
    refine r_d rfl rfl rfl (s_load rfl rfl (by exact ty_L_api_Applied) rfl) ?_
    refine r_d rfl rfl rfl (m_len (f := enc_S_api_Applied) m_a0.f2_Log rfl el_L_api_Applied rfl (asl rfl)) ?_
    refine r_d rfl rfl rfl (s_cmp rfl rfl rfl rfl) ?_
    refine r_d rfl rfl rfl (s_pickF rfl rfl rfl) ?_
    refine r_end ?_
    refine g_sB 23 rfl hr (fun h23_2 hr => ?_) (fun h23_2 hr => ?_)
    ·
     refine g_condT rfl ?_
     refine g_seq ?_
     refine g_run (by kernel_rfl) [(0, .d)] rfl ?_
     refine r_d rfl rfl rfl (s_assign rfl rfl) ?_
     refine r_end ?_
     obtain rfl := Option.some.inj hr
     refine g_ret Tryz.func22 _ (.cons (resTmp rfl (Wk.refl _)) .nil) ?_
     rfl
    ·
     refine g_condF rfl ?_
     refine g_skip ?_
     refine g_seq ?_
     refine g_run (by kernel_rfl) [(0, .w)] rfl ?_
     refine r_w rfl rfl rfl (s_nilOwn 107 2 (.inl rfl)) ?_
     rintro _ _ ⟨u3_3, rfl, rfl⟩
     refine r_end ?_
     refine g_seq ?_
     refine g_seq ?_
     refine g_run (by kernel_rfl) [(0, .d)] rfl ?_
     refine r_d rfl rfl rfl (s_assign rfl rfl) ?_
     refine r_end ?_
     obtain ⟨kk0, hkk0, hr⟩ := exK (fun k => lf_constraintlaw52_few_L0 k m_a0.f0_Facts []) hr
     refine g_len 9 rfl (asl rfl) fun hla0 => ?_
     simp only [List.length_map] at hla0
     refine g_blockJ (fun env σ => ∃ (l_9 : (List At)) (u_8 : Value), env = [(1, .ptr (enc_S_api_Memory m_a0)), (3, .own u_8 (l_9.map encA))] ∧ σ = [.row u_8 l_9.length 107 2] ∧ kk0 l_9 = some res) ?_ (fun HK0 => ?_)
     ·
      rintro _ _ ⟨l_9, u_8, rfl, rfl, hr⟩
      rw [hkk0] at hr
      refine g_seq ?_
      refine g_seq ?_
      refine g_run (by kernel_rfl) [(0, .d)] rfl ?_
      refine r_d rfl rfl rfl (s_assign rfl rfl) ?_
      refine r_end ?_
      obtain ⟨kk1, hkk1, hr⟩ := exK (fun k => lf_constraintlaw52_few_L1 k m_a0.f1_Past l_9) hr
      refine g_lenP 1 [1] (l := m_a0.f1_Past.map enc_S_api_Fact) rfl rfl (asl rfl) fun hla1 => ?_
      simp only [List.length_map] at hla1
      refine g_blockJ (fun env σ => ∃ (l_14 : (List At)) (u_13 : Value), env = [(1, .ptr (enc_S_api_Memory m_a0)), (3, .own u_13 (l_14.map encA))] ∧ σ = [.row u_13 l_14.length 107 2] ∧ kk1 l_14 = some res) ?_ (fun HK1 => ?_)
      ·
       rintro _ _ ⟨l_14, u_13, rfl, rfl, hr⟩
       rw [hkk1] at hr
       refine g_seq ?_
       refine g_seq ?_
       refine g_run (by kernel_rfl) [(0, .d)] rfl ?_
       refine r_d rfl rfl rfl (s_assign rfl rfl) ?_
       refine r_end ?_
       obtain ⟨kk2, hkk2, hr⟩ := exK (fun k => lf_constraintlaw52_few_L2 k m_a0.f2_Log) hr
       refine g_lenP 1 [2] (l := m_a0.f2_Log.map enc_S_api_Applied) rfl rfl (asl rfl) fun hla2 => ?_
       simp only [List.length_map] at hla2
       refine g_blockJ (fun env σ => ∃ (u_17 : Value), env = [(3, .own u_17 (l_14.map encA))] ∧ σ = [.row u_17 l_14.length 107 2] ∧ kk2 = some res) ?_ (fun HK2 => ?_)
       ·
        rintro _ _ ⟨u_17, rfl, rfl, hr⟩
        rw [hkk2] at hr
        refine g_seq ?_
        refine g_run (by kernel_rfl) [(0, .d), (1, .d), (2, .d), (3, .d)] rfl ?_
        refine r_d rfl rfl rfl (s_move rfl rfl) ?_
        obtain ⟨r_18, hr_18, hr⟩ := bindS hr
        refine r_d rfl rfl rfl (s_callD rfl cl_constraintref03_GreatAtoms (.cons rfl (Wk.own _ _) (.cons rfl (Wk.refl _) .nil)) (lg_constraintref03_GreatAtoms _ _ _ hr_18)) ?_
        refine r_d rfl rfl rfl (s_not rfl rfl) ?_
        refine r_d rfl rfl rfl (s_assign rfl rfl) ?_
        refine r_end ?_
        obtain rfl := Option.some.inj hr
        refine g_ret Tryz.func22 _ (.cons (resTmp rfl (Wk.refl _)) .nil) ?_
        rfl
       ·
        refine g_sub [(1, .ptr (enc_S_api_Memory m_a0)), (3, .own u_13 (l_14.map encA)), (6, .int .i64 ((0 : Nat) : Int))] (Sub.cons' rfl (Sub.cons' rfl (Sub.cons' rfl (Sub.nil _)))) ?_
        refine g_loop (fun n env σ => ∃ (i_16 : Nat) (u_15 : Value), (n = m_a0.f2_Log.length - i_16) ∧ (env = [(1, .ptr (enc_S_api_Memory m_a0)), (3, .own u_15 (l_14.map encA)), (6, .int .i64 (i_16 : Int))]) ∧ (σ = [.row u_15 l_14.length 107 2]) ∧ (i_16 ≤ m_a0.f2_Log.length) ∧ (lf_constraintlaw52_few_L2 kk2 (m_a0.f2_Log.drop i_16) = some res)) _ ⟨0, u_13, rfl, rfl, rfl, Nat.zero_le _, hr⟩ ?_
        rintro n _ _ ⟨i_16, u_15, rfl, rfl, rfl, hi2, hr⟩ IH2
        rcases listStep m_a0.f2_Log i_16 hi2 with ⟨ht2, hd2, he2⟩ | ⟨q_19, ht2, hd2, hq2, hlt2⟩
        ·
         rw [hd2, lf_constraintlaw52_few_L2] at hr
         refine g_seq ?_
         refine g_seq ?_
         refine g_run (by kernel_rfl) [(0, .d), (1, .d), (2, .d), (3, .d), (4, .d)] rfl ?_
         refine r_d rfl rfl rfl (s_move rfl rfl) ?_
         refine r_d rfl rfl rfl (s_fieldAddr rfl fl_api_Memory_2 rfl rfl rfl rfl) ?_
         refine r_d rfl rfl rfl (s_load rfl rfl (by exact ty_L_api_Applied) rfl) ?_
         refine r_d rfl rfl rfl (m_len (f := enc_S_api_Applied) m_a0.f2_Log rfl el_L_api_Applied rfl (asl rfl)) ?_
         refine r_d rfl rfl rfl (s_cmp rfl rfl rfl rfl) ?_
         refine r_end ?_
         refine g_known 76 false rfl ht2 ?_
         refine g_condF rfl ?_
         refine g_exit rfl ?_
         refine g_sub [(3, .own u_15 (l_14.map encA))] (Sub.cons' rfl (Sub.nil _)) ?_
         exact HK2 _ _ ⟨u_15, rfl, rfl, hr⟩
        ·
         rw [hd2, lf_constraintlaw52_few_L2] at hr
         refine g_seq ?_
         refine g_seq ?_
         refine g_run (by kernel_rfl) [(0, .d), (1, .d), (2, .d), (3, .d), (4, .d)] rfl ?_
         refine r_d rfl rfl rfl (s_move rfl rfl) ?_
         refine r_d rfl rfl rfl (s_fieldAddr rfl fl_api_Memory_2 rfl rfl rfl rfl) ?_
         refine r_d rfl rfl rfl (s_load rfl rfl (by exact ty_L_api_Applied) rfl) ?_
         refine r_d rfl rfl rfl (m_len (f := enc_S_api_Applied) m_a0.f2_Log rfl el_L_api_Applied rfl (asl rfl)) ?_
         refine r_d rfl rfl rfl (s_cmp rfl rfl rfl rfl) ?_
         refine r_end ?_
         refine g_known 76 true rfl ht2 ?_
         refine g_condT rfl ?_
         refine g_skip ?_
         refine g_seq ?_
         refine g_block ?_
         refine g_seq ?_
         refine g_run (by kernel_rfl) [(0, .d), (1, .d), (2, .d), (3, .d), (4, .d), (5, .w), (6, .w)] rfl ?_
         refine r_d rfl rfl rfl (s_fieldAddr rfl fl_api_Memory_2 rfl rfl rfl rfl) ?_
         refine r_d rfl rfl rfl (s_load rfl rfl (by exact ty_L_api_Applied) rfl) ?_
         refine r_d rfl rfl rfl (s_move rfl rfl) ?_
         refine r_d rfl rfl rfl (m_index (f := enc_S_api_Applied) m_a0.f2_Log rfl el_L_api_Applied rfl (asl rfl) rfl hq2 sz_S_api_Applied rfl) ?_
         refine r_d rfl rfl rfl (s_load rfl rfl (by exact ty_api_Applied) (sz_S_api_Applied _)) ?_
         refine r_w rfl rfl rfl (s_alloc rfl zv_api_Applied) ?_
         rintro _ _ ⟨b7_19, rfl, rfl⟩
         refine r_w01 rfl rfl rfl (t_store0 _ rfl rfl rfl (Wk.refl _) (pf0 _) (by exact ty_api_Applied) (sz_S_api_Applied _) rfl rfl) ?_
         refine r_end ?_
         refine g_freeze 7 b7_19 rfl (pf0 _) ?_
         refine g_seq ?_
         refine g_run (by kernel_rfl) [(0, .d), (1, .d), (2, .d), (3, .d), (4, .d), (5, .d), (6, .d), (7, .d), (8, .d), (9, .d), (10, .d), (11, .d), (12, .d), (13, .d), (14, .d), (15, .d), (16, .d), (17, .d), (18, .d), (19, .d), (20, .d), (21, .d)] rfl ?_
         refine r_d rfl rfl rfl (s_fieldAddr rfl fl_api_Applied_1 rfl rfl rfl rfl) ?_
         refine r_d rfl rfl rfl (s_load rfl rfl (by exact ty_L_int) rfl) ?_
         refine r_d rfl rfl rfl (m_len (f := (D.int .i64)) q_19.f1_Heads rfl el_L_int rfl (asl rfl)) ?_
         refine r_d rfl rfl rfl (s_cmp rfl rfl rfl rfl) ?_
         refine r_d rfl rfl rfl (s_move rfl rfl) ?_
         refine r_sB 88 rfl hr (fun h88_20 hr => ?_) (fun h88_20 hr => ?_)
         ·
          refine r_skip rfl rfl rfl ?_
          refine r_skip rfl rfl rfl ?_
          refine r_skip rfl rfl rfl ?_
          refine r_skip rfl rfl rfl ?_
          refine r_d rfl rfl rfl (s_pickT rfl rfl rfl) ?_
          refine r_d rfl rfl rfl (s_move rfl rfl) ?_
          refine r_skip rfl rfl rfl ?_
          refine r_skip rfl rfl rfl ?_
          refine r_skip rfl rfl rfl ?_
          refine r_skip rfl rfl rfl ?_
          refine r_d rfl rfl rfl (s_pickT rfl rfl rfl) ?_
          refine r_d rfl rfl rfl (s_move rfl rfl) ?_
          refine r_skip rfl rfl rfl ?_
          refine r_skip rfl rfl rfl ?_
          refine r_skip rfl rfl rfl ?_
          refine r_skip rfl rfl rfl ?_
          refine r_d rfl rfl rfl (s_pickT rfl rfl rfl) ?_
          refine r_end ?_
          refine g_condT rfl ?_
          refine g_seq ?_
          refine g_run (by kernel_rfl) [(0, .d)] rfl ?_
          refine r_d rfl rfl rfl (s_assign rfl rfl) ?_
          refine r_end ?_
          obtain rfl := Option.some.inj hr
          refine g_ret Tryz.func22 _ (.cons (resTmp rfl (Wk.refl _)) .nil) ?_
          rfl
         ·
          refine r_d rfl rfl rfl (s_fieldAddr rfl fl_api_Applied_2 rfl rfl rfl rfl) ?_
          refine r_d rfl rfl rfl (s_load rfl rfl (by exact ty_L_int) rfl) ?_
          refine r_d rfl rfl rfl (m_len (f := (D.int .i64)) q_19.f2_Gone rfl el_L_int rfl (asl rfl)) ?_
          refine r_d rfl rfl rfl (s_cmp rfl rfl rfl rfl) ?_
          refine r_d rfl rfl rfl (s_pickF rfl rfl rfl) ?_
          refine r_d rfl rfl rfl (s_move rfl rfl) ?_
          refine r_sB 94 rfl hr (fun h94_21 hr => ?_) (fun h94_21 hr => ?_)
          ·
           refine r_skip rfl rfl rfl ?_
           refine r_skip rfl rfl rfl ?_
           refine r_skip rfl rfl rfl ?_
           refine r_skip rfl rfl rfl ?_
           refine r_d rfl rfl rfl (s_pickT rfl rfl rfl) ?_
           refine r_d rfl rfl rfl (s_move rfl rfl) ?_
           refine r_skip rfl rfl rfl ?_
           refine r_skip rfl rfl rfl ?_
           refine r_skip rfl rfl rfl ?_
           refine r_skip rfl rfl rfl ?_
           refine r_d rfl rfl rfl (s_pickT rfl rfl rfl) ?_
           refine r_end ?_
           refine g_condT rfl ?_
           refine g_seq ?_
           refine g_run (by kernel_rfl) [(0, .d)] rfl ?_
           refine r_d rfl rfl rfl (s_assign rfl rfl) ?_
           refine r_end ?_
           obtain rfl := Option.some.inj hr
           refine g_ret Tryz.func22 _ (.cons (resTmp rfl (Wk.refl _)) .nil) ?_
           rfl
          ·
           refine r_d rfl rfl rfl (s_fieldAddr rfl fl_api_Applied_3 rfl rfl rfl rfl) ?_
           refine r_d rfl rfl rfl (s_load rfl rfl (by exact ty_L_int) rfl) ?_
           refine r_d rfl rfl rfl (m_len (f := (D.int .i64)) q_19.f3_Made rfl el_L_int rfl (asl rfl)) ?_
           refine r_d rfl rfl rfl (s_cmp rfl rfl rfl rfl) ?_
           refine r_d rfl rfl rfl (s_pickF rfl rfl rfl) ?_
           refine r_d rfl rfl rfl (s_move rfl rfl) ?_
           refine r_sB 100 rfl hr (fun h100_22 hr => ?_) (fun h100_22 hr => ?_)
           ·
            refine r_skip rfl rfl rfl ?_
            refine r_skip rfl rfl rfl ?_
            refine r_skip rfl rfl rfl ?_
            refine r_skip rfl rfl rfl ?_
            refine r_d rfl rfl rfl (s_pickT rfl rfl rfl) ?_
            refine r_end ?_
            refine g_condT rfl ?_
            refine g_seq ?_
            refine g_run (by kernel_rfl) [(0, .d)] rfl ?_
            refine r_d rfl rfl rfl (s_assign rfl rfl) ?_
            refine r_end ?_
            obtain rfl := Option.some.inj hr
            refine g_ret Tryz.func22 _ (.cons (resTmp rfl (Wk.refl _)) .nil) ?_
            rfl
           ·
            refine r_d rfl rfl rfl (s_fieldAddr rfl fl_api_Applied_5 rfl rfl rfl rfl) ?_
            refine r_d rfl rfl rfl (s_load rfl rfl (by exact ty_L_int) rfl) ?_
            refine r_d rfl rfl rfl (m_len (f := (D.int .i64)) q_19.f5_Just rfl el_L_int rfl (asl rfl)) ?_
            refine r_d rfl rfl rfl (s_cmp rfl rfl rfl rfl) ?_
            refine r_d rfl rfl rfl (s_pickF rfl rfl rfl) ?_
            refine r_end ?_
            refine g_sB 105 rfl hr (fun h105_23 hr => ?_) (fun h105_23 hr => ?_)
            ·
             refine g_condT rfl ?_
             refine g_seq ?_
             refine g_run (by kernel_rfl) [(0, .d)] rfl ?_
             refine r_d rfl rfl rfl (s_assign rfl rfl) ?_
             refine r_end ?_
             obtain rfl := Option.some.inj hr
             refine g_ret Tryz.func22 _ (.cons (resTmp rfl (Wk.refl _)) .nil) ?_
             rfl
            ·
             refine g_condF rfl ?_
             refine g_skip ?_
             refine g_inBlock ?_
             refine g_run (by kernel_rfl) [(0, .d), (1, .d), (2, .d)] rfl ?_
             refine r_d rfl rfl rfl (s_move rfl rfl) ?_
             refine r_d rfl rfl rfl (s_ar (r := ((i_16 + 1 : Nat) : Int)) rfl rfl rfl (by simp [iar]) (by omega)) ?_
             refine r_d rfl rfl rfl (s_assign rfl rfl) ?_
             refine r_end ?_
             refine g_sub [(1, .ptr (enc_S_api_Memory m_a0)), (3, .own u_15 (l_14.map encA)), (6, .int .i64 ((i_16 + 1 : Nat) : Int))] (Sub.cons' rfl (Sub.cons' rfl (Sub.cons' rfl (Sub.nil _)))) ?_
             exact IH2 _ _ _ (by omega) ⟨(i_16 + 1), u_15, rfl, rfl, rfl, (by omega), hr⟩
      ·
       refine g_sub [(1, .ptr (enc_S_api_Memory m_a0)), (3, .own u_8 (l_9.map encA)), (5, .int .i64 ((0 : Nat) : Int))] (Sub.cons' rfl (Sub.cons' rfl (Sub.cons' rfl (Sub.nil _)))) ?_
       refine g_loop (fun n env σ => ∃ (l_11 : (List At)) (i_12 : Nat) (u_10 : Value), (n = m_a0.f1_Past.length - i_12) ∧ (env = [(1, .ptr (enc_S_api_Memory m_a0)), (3, .own u_10 (l_11.map encA)), (5, .int .i64 (i_12 : Int))]) ∧ (σ = [.row u_10 l_11.length 107 2]) ∧ (i_12 ≤ m_a0.f1_Past.length) ∧ (lf_constraintlaw52_few_L1 kk1 (m_a0.f1_Past.drop i_12) l_11 = some res)) _ ⟨l_9, 0, u_8, rfl, rfl, rfl, Nat.zero_le _, hr⟩ ?_
       rintro n _ _ ⟨l_11, i_12, u_10, rfl, rfl, rfl, hi1, hr⟩ IH1
       rcases listStep m_a0.f1_Past i_12 hi1 with ⟨ht1, hd1, he1⟩ | ⟨q_25, ht1, hd1, hq1, hlt1⟩
       ·
        rw [hd1, lf_constraintlaw52_few_L1] at hr
        refine g_seq ?_
        refine g_seq ?_
        refine g_run (by kernel_rfl) [(0, .d), (1, .d), (2, .d), (3, .d), (4, .d)] rfl ?_
        refine r_d rfl rfl rfl (s_move rfl rfl) ?_
        refine r_d rfl rfl rfl (s_fieldAddr rfl fl_api_Memory_1 rfl rfl rfl rfl) ?_
        refine r_d rfl rfl rfl (s_load rfl rfl (by exact ty_L_api_Fact) rfl) ?_
        refine r_d rfl rfl rfl (m_len (f := enc_S_api_Fact) m_a0.f1_Past rfl el_L_api_Fact rfl (asl rfl)) ?_
        refine r_d rfl rfl rfl (s_cmp rfl rfl rfl rfl) ?_
        refine r_end ?_
        refine g_known 52 false rfl ht1 ?_
        refine g_condF rfl ?_
        refine g_exit rfl ?_
        refine g_sub [(1, .ptr (enc_S_api_Memory m_a0)), (3, .own u_10 (l_11.map encA))] (Sub.cons' rfl (Sub.cons' rfl (Sub.nil _))) ?_
        exact HK1 _ _ ⟨l_11, u_10, rfl, rfl, hr⟩
       ·
        rw [hd1, lf_constraintlaw52_few_L1] at hr
        refine g_seq ?_
        refine g_seq ?_
        refine g_run (by kernel_rfl) [(0, .d), (1, .d), (2, .d), (3, .d), (4, .d)] rfl ?_
        refine r_d rfl rfl rfl (s_move rfl rfl) ?_
        refine r_d rfl rfl rfl (s_fieldAddr rfl fl_api_Memory_1 rfl rfl rfl rfl) ?_
        refine r_d rfl rfl rfl (s_load rfl rfl (by exact ty_L_api_Fact) rfl) ?_
        refine r_d rfl rfl rfl (m_len (f := enc_S_api_Fact) m_a0.f1_Past rfl el_L_api_Fact rfl (asl rfl)) ?_
        refine r_d rfl rfl rfl (s_cmp rfl rfl rfl rfl) ?_
        refine r_end ?_
        refine g_known 52 true rfl ht1 ?_
        refine g_condT rfl ?_
        refine g_skip ?_
        refine g_seq ?_
        refine g_block ?_
        refine g_seq ?_
        refine g_run (by kernel_rfl) [(0, .d), (1, .d), (2, .d), (3, .d), (4, .d), (5, .d), (6, .d), (7, .d), (8, .w), (9, .d)] rfl ?_
        refine r_d rfl rfl rfl (s_move rfl rfl) ?_
        refine r_d rfl rfl rfl (s_fieldAddr rfl fl_api_Memory_1 rfl rfl rfl rfl) ?_
        refine r_d rfl rfl rfl (s_load rfl rfl (by exact ty_L_api_Fact) rfl) ?_
        refine r_d rfl rfl rfl (s_move rfl rfl) ?_
        refine r_d rfl rfl rfl (m_index (f := enc_S_api_Fact) m_a0.f1_Past rfl el_L_api_Fact rfl (asl rfl) rfl hq1 sz_S_api_Fact rfl) ?_
        refine r_d rfl rfl rfl (s_fieldAddr rfl fl_api_Fact_1 rfl rfl rfl rfl) ?_
        refine r_d rfl rfl rfl (s_load rfl rfl (by exact ty_api_Atom) (sz_encA _)) ?_
        refine r_d rfl rfl rfl (m_lit (f := encA) [.tmp 61] [q_25.f1_Atom] rfl el_L_api_Atom rfl rfl (by decide) (by decide) (.cons rfl (Wk.refl _) .nil) sz_encA (fun _ => rfl)) ?_
        obtain ⟨l_26, hl_26, hr⟩ := bindS hr
        refine r_w rfl rfl rfl (m_appOwn (f := encA) l_11 [q_25.f1_Atom] rfl el_L_api_Atom rfl rfl (asl rfl) (pf0 _) rfl sz_encA hl_26) ?_
        rintro _ _ ⟨u63_26, rfl, rfl⟩
        refine r_d rfl rfl rfl (s_assign rfl rfl) ?_
        refine r_end ?_
        refine g_seq ?_
        refine g_run (by kernel_rfl) [(0, .d), (1, .d), (2, .d), (3, .d), (4, .d), (5, .d), (6, .d), (7, .d)] rfl ?_
        refine r_d rfl rfl rfl (s_fieldAddr rfl fl_api_Memory_1 rfl rfl rfl rfl) ?_
        refine r_d rfl rfl rfl (s_load rfl rfl (by exact ty_L_api_Fact) rfl) ?_
        refine r_d rfl rfl rfl (s_move rfl rfl) ?_
        refine r_d rfl rfl rfl (m_index (f := enc_S_api_Fact) m_a0.f1_Past rfl el_L_api_Fact rfl (asl rfl) rfl hq1 sz_S_api_Fact rfl) ?_
        refine r_d rfl rfl rfl (s_fieldAddr rfl fl_api_Fact_2 rfl rfl (by simp [szs, sz, sz_encA]) rfl) ?_
        refine r_d rfl rfl rfl (s_load rfl rfl (by exact ty_L_int) rfl) ?_
        refine r_d rfl rfl rfl (m_len (f := (D.int .i64)) q_25.f2_Just rfl el_L_int rfl (asl rfl)) ?_
        refine r_d rfl rfl rfl (s_cmp rfl rfl rfl rfl) ?_
        refine r_end ?_
        refine g_sB 71 rfl hr (fun h71_27 hr => ?_) (fun h71_27 hr => ?_)
        ·
         refine g_condT rfl ?_
         refine g_seq ?_
         refine g_run (by kernel_rfl) [(0, .d)] rfl ?_
         refine r_d rfl rfl rfl (s_assign rfl rfl) ?_
         refine r_end ?_
         obtain rfl := Option.some.inj hr
         refine g_ret Tryz.func22 _ (.cons (resTmp rfl (Wk.refl _)) .nil) ?_
         rfl
        ·
         refine g_condF rfl ?_
         refine g_skip ?_
         refine g_inBlock ?_
         refine g_run (by kernel_rfl) [(0, .d), (1, .d), (2, .d)] rfl ?_
         refine r_d rfl rfl rfl (s_move rfl rfl) ?_
         refine r_d rfl rfl rfl (s_ar (r := ((i_12 + 1 : Nat) : Int)) rfl rfl rfl (by simp [iar]) (by omega)) ?_
         refine r_d rfl rfl rfl (s_assign rfl rfl) ?_
         refine r_end ?_
         refine g_sub [(1, .ptr (enc_S_api_Memory m_a0)), (3, .own u63_26 (l_26.map encA)), (5, .int .i64 ((i_12 + 1 : Nat) : Int))] (Sub.cons' rfl (Sub.cons' rfl (Sub.cons' rfl (Sub.nil _)))) ?_
         exact IH1 _ _ _ (by omega) ⟨l_26, (i_12 + 1), u63_26, rfl, rfl, rfl, (by omega), hr⟩
     ·
      refine g_sub [(1, .ptr (enc_S_api_Memory m_a0)), (3, .own u3_3 ([].map encA)), (4, .int .i64 ((0 : Nat) : Int))] (Sub.cons' rfl (Sub.cons' rfl (Sub.cons' rfl (Sub.nil _)))) ?_
      refine g_loop (fun n env σ => ∃ (l_6 : (List At)) (i_7 : Nat) (u_5 : Value), (n = m_a0.f0_Facts.length - i_7) ∧ (env = [(1, .ptr (enc_S_api_Memory m_a0)), (3, .own u_5 (l_6.map encA)), (4, .int .i64 (i_7 : Int))]) ∧ (σ = [.row u_5 l_6.length 107 2]) ∧ (i_7 ≤ m_a0.f0_Facts.length) ∧ (lf_constraintlaw52_few_L0 kk0 (m_a0.f0_Facts.drop i_7) l_6 = some res)) _ ⟨[], 0, u3_3, rfl, rfl, rfl, Nat.zero_le _, hr⟩ ?_
      rintro n _ _ ⟨l_6, i_7, u_5, rfl, rfl, rfl, hi0, hr⟩ IH0
      rcases listStep m_a0.f0_Facts i_7 hi0 with ⟨ht0, hd0, he0⟩ | ⟨q_29, ht0, hd0, hq0, hlt0⟩
      ·
       rw [hd0, lf_constraintlaw52_few_L0] at hr
       refine g_seq ?_
       refine g_seq ?_
       refine g_run (by kernel_rfl) [(0, .d), (1, .d), (2, .d), (3, .d), (4, .d)] rfl ?_
       refine r_d rfl rfl rfl (s_move rfl rfl) ?_
       refine r_d rfl rfl rfl (s_fieldAddr rfl fl_api_Memory_0 rfl rfl rfl rfl) ?_
       refine r_d rfl rfl rfl (s_load rfl rfl (by exact ty_L_api_Fact) rfl) ?_
       refine r_d rfl rfl rfl (m_len (f := enc_S_api_Fact) m_a0.f0_Facts rfl el_L_api_Fact rfl (asl rfl)) ?_
       refine r_d rfl rfl rfl (s_cmp rfl rfl rfl rfl) ?_
       refine r_end ?_
       refine g_known 28 false rfl ht0 ?_
       refine g_condF rfl ?_
       refine g_exit rfl ?_
       refine g_sub [(1, .ptr (enc_S_api_Memory m_a0)), (3, .own u_5 (l_6.map encA))] (Sub.cons' rfl (Sub.cons' rfl (Sub.nil _))) ?_
       exact HK0 _ _ ⟨l_6, u_5, rfl, rfl, hr⟩
      ·
       rw [hd0, lf_constraintlaw52_few_L0] at hr
       refine g_seq ?_
       refine g_seq ?_
       refine g_run (by kernel_rfl) [(0, .d), (1, .d), (2, .d), (3, .d), (4, .d)] rfl ?_
       refine r_d rfl rfl rfl (s_move rfl rfl) ?_
       refine r_d rfl rfl rfl (s_fieldAddr rfl fl_api_Memory_0 rfl rfl rfl rfl) ?_
       refine r_d rfl rfl rfl (s_load rfl rfl (by exact ty_L_api_Fact) rfl) ?_
       refine r_d rfl rfl rfl (m_len (f := enc_S_api_Fact) m_a0.f0_Facts rfl el_L_api_Fact rfl (asl rfl)) ?_
       refine r_d rfl rfl rfl (s_cmp rfl rfl rfl rfl) ?_
       refine r_end ?_
       refine g_known 28 true rfl ht0 ?_
       refine g_condT rfl ?_
       refine g_skip ?_
       refine g_seq ?_
       refine g_block ?_
       refine g_seq ?_
       refine g_run (by kernel_rfl) [(0, .d), (1, .d), (2, .d), (3, .d), (4, .d), (5, .d), (6, .d), (7, .d), (8, .w), (9, .d)] rfl ?_
       refine r_d rfl rfl rfl (s_move rfl rfl) ?_
       refine r_d rfl rfl rfl (s_fieldAddr rfl fl_api_Memory_0 rfl rfl rfl rfl) ?_
       refine r_d rfl rfl rfl (s_load rfl rfl (by exact ty_L_api_Fact) rfl) ?_
       refine r_d rfl rfl rfl (s_move rfl rfl) ?_
       refine r_d rfl rfl rfl (m_index (f := enc_S_api_Fact) m_a0.f0_Facts rfl el_L_api_Fact rfl (asl rfl) rfl hq0 sz_S_api_Fact rfl) ?_
       refine r_d rfl rfl rfl (s_fieldAddr rfl fl_api_Fact_1 rfl rfl rfl rfl) ?_
       refine r_d rfl rfl rfl (s_load rfl rfl (by exact ty_api_Atom) (sz_encA _)) ?_
       refine r_d rfl rfl rfl (m_lit (f := encA) [.tmp 37] [q_29.f1_Atom] rfl el_L_api_Atom rfl rfl (by decide) (by decide) (.cons rfl (Wk.refl _) .nil) sz_encA (fun _ => rfl)) ?_
       obtain ⟨l_30, hl_30, hr⟩ := bindS hr
       refine r_w rfl rfl rfl (m_appOwn (f := encA) l_6 [q_29.f1_Atom] rfl el_L_api_Atom rfl rfl (asl rfl) (pf0 _) rfl sz_encA hl_30) ?_
       rintro _ _ ⟨u39_30, rfl, rfl⟩
       refine r_d rfl rfl rfl (s_assign rfl rfl) ?_
       refine r_end ?_
       refine g_seq ?_
       refine g_run (by kernel_rfl) [(0, .d), (1, .d), (2, .d), (3, .d), (4, .d), (5, .d), (6, .d), (7, .d)] rfl ?_
       refine r_d rfl rfl rfl (s_fieldAddr rfl fl_api_Memory_0 rfl rfl rfl rfl) ?_
       refine r_d rfl rfl rfl (s_load rfl rfl (by exact ty_L_api_Fact) rfl) ?_
       refine r_d rfl rfl rfl (s_move rfl rfl) ?_
       refine r_d rfl rfl rfl (m_index (f := enc_S_api_Fact) m_a0.f0_Facts rfl el_L_api_Fact rfl (asl rfl) rfl hq0 sz_S_api_Fact rfl) ?_
       refine r_d rfl rfl rfl (s_fieldAddr rfl fl_api_Fact_2 rfl rfl (by simp [szs, sz, sz_encA]) rfl) ?_
       refine r_d rfl rfl rfl (s_load rfl rfl (by exact ty_L_int) rfl) ?_
       refine r_d rfl rfl rfl (m_len (f := (D.int .i64)) q_29.f2_Just rfl el_L_int rfl (asl rfl)) ?_
       refine r_d rfl rfl rfl (s_cmp rfl rfl rfl rfl) ?_
       refine r_end ?_
       refine g_sB 47 rfl hr (fun h47_31 hr => ?_) (fun h47_31 hr => ?_)
       ·
        refine g_condT rfl ?_
        refine g_seq ?_
        refine g_run (by kernel_rfl) [(0, .d)] rfl ?_
        refine r_d rfl rfl rfl (s_assign rfl rfl) ?_
        refine r_end ?_
        obtain rfl := Option.some.inj hr
        refine g_ret Tryz.func22 _ (.cons (resTmp rfl (Wk.refl _)) .nil) ?_
        rfl
       ·
        refine g_condF rfl ?_
        refine g_skip ?_
        refine g_inBlock ?_
        refine g_run (by kernel_rfl) [(0, .d), (1, .d), (2, .d)] rfl ?_
        refine r_d rfl rfl rfl (s_move rfl rfl) ?_
        refine r_d rfl rfl rfl (s_ar (r := ((i_7 + 1 : Nat) : Int)) rfl rfl rfl (by simp [iar]) (by omega)) ?_
        refine r_d rfl rfl rfl (s_assign rfl rfl) ?_
        refine r_end ?_
        refine g_sub [(1, .ptr (enc_S_api_Memory m_a0)), (3, .own u39_30 (l_30.map encA)), (4, .int .i64 ((i_7 + 1 : Nat) : Int))] (Sub.cons' rfl (Sub.cons' rfl (Sub.cons' rfl (Sub.nil _)))) ?_
        exact IH0 _ _ _ (by omega) ⟨l_30, (i_7 + 1), u39_30, rfl, rfl, rfl, (by omega), hr⟩

noncomputable def lf_snapshot_TakeMemory (fuel : Nat) (b_a0 : (List Int)) : Option (S_api_Memory × Int) :=
  ((lf_wholeR_Memory fuel b_a0 3).bind fun r_2 =>
  some (r_2.1, r_2.2))

set_option maxHeartbeats 1000000 in
theorem lg_snapshot_TakeMemory (fuel : Nat) (b_a0 : (List Int)) (res : S_api_Memory × Int) (hr : lf_snapshot_TakeMemory fuel b_a0 = some res) : Gives Tryz.prog 27 [.lst (b_a0.map (D.int .u8))] (.tup [enc_S_api_Memory res.1, .int .i64 res.2]) := by
  unfold lf_snapshot_TakeMemory at hr
  refine spec_env [(0, .lst (b_a0.map (D.int .u8)))] Tryz.func27 rfl rfl fun K hK => ?_
  refine g_seq ?_
  refine g_run (by kernel_rfl) [(0, .w), (1, .d)] rfl ?_
  refine r_w rfl rfl rfl (s_alloc rfl zv_api_Memory) ?_
  rintro _ _ ⟨b2_0, rfl, rfl⟩
  refine r_d rfl rfl rfl (s_assign rfl rfl) ?_
  refine r_end ?_
  refine g_seq ?_
  refine g_run (by kernel_rfl) [(0, .d), (1, .d), (2, .d), (3, .d), (4, .w), (5, .d)] rfl ?_
  refine r_d rfl rfl rfl (s_move rfl rfl) ?_
  obtain ⟨r_2, hr_2, hr⟩ := bindS hr
  refine r_d rfl rfl rfl (s_callD rfl cl_snapshot_whole_api_Memory (.cons rfl (Wk.refl _) (.cons rfl (Wk.refl _) (.cons rfl (Wk.refl _) (.cons rfl (Wk.refl _) .nil)))) (lg_wholeR_Memory fuel _ _ _ hr_2)) ?_
  refine r_d rfl rfl rfl (s_extract rfl rfl rfl) ?_
  refine r_d rfl rfl rfl (s_extract rfl rfl rfl) ?_
  refine r_w01 rfl rfl rfl (t_store0 _ rfl rfl rfl (Wk.refl _) (pf0 _) (by exact ty_api_Memory) (sz_S_api_Memory _) rfl rfl) ?_
  refine r_d rfl rfl rfl (s_assign rfl rfl) ?_
  refine r_end ?_
  obtain rfl := Option.some.inj hr
  refine g_ret Tryz.func27 _ (.cons (resRef rfl (.head _) (by exact ty_api_Memory) (sz_S_api_Memory _) (Wk.refl _)) (.cons (resTmp rfl (Wk.refl _)) .nil)) ?_
  rfl

noncomputable def lf_constraintref03_SameInts_L0 (k : Option (Bool)) (b_a1 : (List Int)) : List Int → Nat → Option (Bool)
  | [], i_2 =>
  k
  | q_3 :: rest, i_2 =>
  (bif (decide ((i_2 : Int) < (b_a1.length : Int))) then
  ((getI b_a1 (i_2 : Int)).bind fun q_5 =>
  (bif (q_3 != q_5) then
  some (false)
  else
  (lf_constraintref03_SameInts_L0 k b_a1 rest (i_2 + 1))))
  else
  k)
noncomputable def lf_constraintref03_SameInts (a_a0 : (List Int)) (b_a1 : (List Int)) : Option (Bool) :=
  (bif ((a_a0.length : Int) != (b_a1.length : Int)) then
  some (false)
  else
  (lf_constraintref03_SameInts_L0 (some (true)) b_a1 a_a0 0))

set_option maxHeartbeats 1000000 in
theorem lg_constraintref03_SameInts (a_a0 : (List Int)) (b_a1 : (List Int)) (res : Bool) (hr : lf_constraintref03_SameInts a_a0 b_a1 = some res) : Gives Tryz.prog 226 [.lst (a_a0.map (D.int .i64)), .lst (b_a1.map (D.int .i64))] (.bool res) := by
  unfold lf_constraintref03_SameInts at hr
  refine spec_env [(0, .lst (a_a0.map (D.int .i64))), (1, .lst (b_a1.map (D.int .i64)))] Tryz.func226 rfl rfl fun K hK => ?_
  refine g_seq ?_
  refine g_run (by kernel_rfl) [(0, .d)] rfl ?_
  refine r_d rfl rfl rfl (s_assign rfl rfl) ?_
  refine r_end ?_
  refine g_seq ?_
  refine g_seq ?_
  refine g_run (by kernel_rfl) [(0, .d), (1, .d), (2, .d), (3, .d), (4, .d)] rfl ?_
  refine r_d rfl rfl rfl (s_move rfl rfl) ?_
  refine r_d rfl rfl rfl (m_len (f := (D.int .i64)) a_a0 rfl el_L_int rfl (asl rfl)) ?_
  refine r_d rfl rfl rfl (s_move rfl rfl) ?_
  refine r_d rfl rfl rfl (m_len (f := (D.int .i64)) b_a1 rfl el_L_int rfl (asl rfl)) ?_
  refine r_d rfl rfl rfl (s_cmp rfl rfl rfl rfl) ?_
  refine r_end ?_
  refine g_sB 10 rfl hr (fun h10_0 hr => ?_) (fun h10_0 hr => ?_)
  ·
   refine g_condT rfl ?_
   refine g_seq ?_
   refine g_run (by kernel_rfl) [(0, .d)] rfl ?_
   refine r_d rfl rfl rfl (s_assign rfl rfl) ?_
   refine r_end ?_
   obtain rfl := Option.some.inj hr
   refine g_ret Tryz.func226 _ (.cons (resTmp rfl (Wk.refl _)) .nil) ?_
   rfl
  ·
   refine g_condF rfl ?_
   refine g_skip ?_
   refine g_seq ?_
   refine g_seq ?_
   refine g_run (by kernel_rfl) [(0, .d)] rfl ?_
   refine r_d rfl rfl rfl (s_assign rfl rfl) ?_
   refine r_end ?_
   obtain ⟨kk0, hkk0, hr⟩ := exK (fun k => lf_constraintref03_SameInts_L0 k b_a1 a_a0 0) hr
   refine g_len 0 rfl (asl rfl) fun hla0 => ?_
   simp only [List.length_map] at hla0
   refine g_blockJ (fun env σ => env = [] ∧ σ = [] ∧ kk0 = some res) ?_ (fun HK0 => ?_)
   ·
    rintro _ _ ⟨rfl, rfl, hr⟩
    rw [hkk0] at hr
    refine g_seq ?_
    refine g_run (by kernel_rfl) [(0, .d)] rfl ?_
    refine r_d rfl rfl rfl (s_assign rfl rfl) ?_
    refine r_end ?_
    obtain rfl := Option.some.inj hr
    refine g_ret Tryz.func226 _ (.cons (resTmp rfl (Wk.refl _)) .nil) ?_
    rfl
   ·
    refine g_sub [(0, .lst (a_a0.map (D.int .i64))), (1, .lst (b_a1.map (D.int .i64))), (5, .int .i64 ((0 : Nat) : Int))] (Sub.cons' rfl (Sub.cons' rfl (Sub.cons' rfl (Sub.nil _)))) ?_
    refine g_loop (fun n env σ => ∃ (i_2 : Nat), (n = a_a0.length - i_2) ∧ (env = [(0, .lst (a_a0.map (D.int .i64))), (1, .lst (b_a1.map (D.int .i64))), (5, .int .i64 (i_2 : Int))]) ∧ (σ = []) ∧ (i_2 ≤ a_a0.length) ∧ (lf_constraintref03_SameInts_L0 kk0 b_a1 (a_a0.drop i_2) i_2 = some res)) _ ⟨0, rfl, rfl, rfl, Nat.zero_le _, hr⟩ ?_
    rintro n _ _ ⟨i_2, rfl, rfl, rfl, hi0, hr⟩ IH0
    rcases listStep a_a0 i_2 hi0 with ⟨ht0, hd0, he0⟩ | ⟨q_3, ht0, hd0, hq0, hlt0⟩
    ·
     rw [hd0, lf_constraintref03_SameInts_L0] at hr
     refine g_seq ?_
     refine g_seq ?_
     refine g_run (by kernel_rfl) [(0, .d), (1, .d), (2, .d), (3, .d), (4, .d), (5, .d), (6, .d), (7, .d), (8, .d), (9, .d)] rfl ?_
     refine r_d rfl rfl rfl (s_move rfl rfl) ?_
     refine r_d rfl rfl rfl (s_move rfl rfl) ?_
     refine r_d rfl rfl rfl (m_len (f := (D.int .i64)) a_a0 rfl el_L_int rfl (asl rfl)) ?_
     refine r_d rfl rfl rfl (s_cmp rfl rfl rfl rfl) ?_
     refine r_d rfl rfl rfl (s_move rfl rfl) ?_
     refine r_known 15 false rfl ht0 ?_
     refine r_skip rfl rfl rfl ?_
     refine r_skip rfl rfl rfl ?_
     refine r_skip rfl rfl rfl ?_
     refine r_skip rfl rfl rfl ?_
     refine r_d rfl rfl rfl (s_pickF rfl rfl rfl) ?_
     refine r_end ?_
     refine g_condF rfl ?_
     refine g_exit rfl ?_
     refine g_sub [] (Sub.nil _) ?_
     exact HK0 _ _ ⟨rfl, rfl, hr⟩
    ·
     rw [hd0, lf_constraintref03_SameInts_L0] at hr
     refine g_seq ?_
     refine g_seq ?_
     refine g_run (by kernel_rfl) [(0, .d), (1, .d), (2, .d), (3, .d), (4, .d), (5, .d), (6, .d), (7, .d), (8, .d), (9, .d)] rfl ?_
     refine r_d rfl rfl rfl (s_move rfl rfl) ?_
     refine r_d rfl rfl rfl (s_move rfl rfl) ?_
     refine r_d rfl rfl rfl (m_len (f := (D.int .i64)) a_a0 rfl el_L_int rfl (asl rfl)) ?_
     refine r_d rfl rfl rfl (s_cmp rfl rfl rfl rfl) ?_
     refine r_d rfl rfl rfl (s_move rfl rfl) ?_
     refine r_known 15 true rfl ht0 ?_
     refine r_d rfl rfl rfl (s_move rfl rfl) ?_
     refine r_d rfl rfl rfl (s_move rfl rfl) ?_
     refine r_d rfl rfl rfl (m_len (f := (D.int .i64)) b_a1 rfl el_L_int rfl (asl rfl)) ?_
     refine r_d rfl rfl rfl (s_cmp rfl rfl rfl rfl) ?_
     refine r_d rfl rfl rfl (s_pickT rfl rfl rfl) ?_
     refine r_end ?_
     refine g_sB 20 rfl hr (fun h20_3 hr => ?_) (fun h20_3 hr => ?_)
     ·
      refine g_condT rfl ?_
      refine g_skip ?_
      refine g_seq ?_
      refine g_block ?_
      refine g_seq ?_
      refine g_any (by kernel_rfl) (by kernel_rfl) [(0, .d), (1, .d), (2, .d), (3, .d), (4, .d), (5, .d), (6, .d), (7, .d), (8, .d)] (by kernel_rfl) ?_
      refine r_d rfl rfl rfl (s_move rfl rfl) ?_
      refine r_d rfl rfl rfl (s_move rfl rfl) ?_
      refine r_d rfl rfl rfl (m_index (f := (D.int .i64)) a_a0 rfl el_L_int rfl (asl rfl) rfl hq0 (fun _ => rfl) rfl) ?_
      refine r_d rfl rfl rfl (s_load rfl rfl (by exact ty_int) rfl) ?_
      refine r_d rfl rfl rfl (s_move rfl rfl) ?_
      refine r_d rfl rfl rfl (s_move rfl rfl) ?_
      obtain ⟨q_5, hq_5, hr⟩ := bindS hr
      refine r_d rfl rfl rfl (m_index (f := (D.int .i64)) b_a1 rfl el_L_int rfl (asl rfl) rfl hq_5 (fun _ => rfl) rfl) ?_
      refine r_d rfl rfl rfl (s_load rfl rfl (by exact ty_int) rfl) ?_
      refine r_d rfl rfl rfl (s_cmp rfl rfl rfl rfl) ?_
      refine r_end ?_
      refine g_sB 31 rfl hr (fun h31_5 hr => ?_) (fun h31_5 hr => ?_)
      ·
       refine g_condT rfl ?_
       refine g_seq ?_
       refine g_run (by kernel_rfl) [(0, .d)] rfl ?_
       refine r_d rfl rfl rfl (s_assign rfl rfl) ?_
       refine r_end ?_
       obtain rfl := Option.some.inj hr
       refine g_ret Tryz.func226 _ (.cons (resTmp rfl (Wk.refl _)) .nil) ?_
       rfl
      ·
       refine g_condF rfl ?_
       refine g_skip ?_
       refine g_inBlock ?_
       refine g_run (by kernel_rfl) [(0, .d), (1, .d), (2, .d)] rfl ?_
       refine r_d rfl rfl rfl (s_move rfl rfl) ?_
       refine r_d rfl rfl rfl (s_ar (r := ((i_2 + 1 : Nat) : Int)) rfl rfl rfl (by simp [iar]) (by omega)) ?_
       refine r_d rfl rfl rfl (s_assign rfl rfl) ?_
       refine r_end ?_
       refine g_sub [(0, .lst (a_a0.map (D.int .i64))), (1, .lst (b_a1.map (D.int .i64))), (5, .int .i64 ((i_2 + 1 : Nat) : Int))] (Sub.cons' rfl (Sub.cons' rfl (Sub.cons' rfl (Sub.nil _)))) ?_
       exact IH0 _ _ _ (by omega) ⟨(i_2 + 1), rfl, rfl, rfl, (by omega), hr⟩
     ·
      refine g_condF rfl ?_
      refine g_exit rfl ?_
      refine g_sub [] (Sub.nil _) ?_
      exact HK0 _ _ ⟨rfl, rfl, hr⟩

noncomputable def lf_constraintref49_Same (a_a0 : S_api_Fact) (b_a1 : S_api_Fact) : Option (Bool) :=
  (bif (a_a0.f0_ID == b_a1.f0_ID) then
  ((x_sameA a_a0.f1_Atom b_a1.f1_Atom).bind fun r_2 =>
  (bif r_2 then
  ((lf_constraintref03_SameInts a_a0.f2_Just b_a1.f2_Just).bind fun r_4 =>
  some (r_4))
  else
  some (false)))
  else
  some (false))

set_option maxHeartbeats 1000000 in
theorem lg_constraintref49_Same (a_a0 : S_api_Fact) (b_a1 : S_api_Fact) (res : Bool) (hr : lf_constraintref49_Same a_a0 b_a1 = some res) : Gives Tryz.prog 189 [enc_S_api_Fact a_a0, enc_S_api_Fact b_a1] (.bool res) := by
  unfold lf_constraintref49_Same at hr
  refine spec_env [(0, enc_S_api_Fact a_a0), (1, enc_S_api_Fact b_a1)] Tryz.func189 rfl rfl fun K hK => ?_
  refine g_seq ?_
  refine g_run (by kernel_rfl) [(0, .d), (1, .d), (2, .d)] rfl ?_
  refine r_d rfl rfl rfl (s_box rfl rfl rfl) ?_
  refine r_d rfl rfl rfl (s_box rfl rfl rfl) ?_
  refine r_d rfl rfl rfl (s_assign rfl rfl) ?_
  refine r_end ?_
  refine g_seq ?_
  refine g_run (by kernel_rfl) [(0, .d), (1, .d), (2, .d), (3, .d), (4, .d), (5, .d), (6, .d), (7, .d), (8, .d), (9, .d), (10, .d), (11, .d), (12, .d), (13, .d), (14, .d), (15, .d), (16, .d), (17, .d), (18, .d), (19, .d)] rfl ?_
  refine r_d rfl rfl rfl (s_fieldAddr rfl fl_api_Fact_0 rfl rfl rfl rfl) ?_
  refine r_d rfl rfl rfl (s_load rfl rfl (by exact ty_int) rfl) ?_
  refine r_d rfl rfl rfl (s_fieldAddr rfl fl_api_Fact_0 rfl rfl rfl rfl) ?_
  refine r_d rfl rfl rfl (s_load rfl rfl (by exact ty_int) rfl) ?_
  refine r_d rfl rfl rfl (s_cmp rfl rfl rfl rfl) ?_
  refine r_d rfl rfl rfl (s_move rfl rfl) ?_
  refine r_sB 10 rfl hr (fun h10_0 hr => ?_) (fun h10_0 hr => ?_)
  ·
   refine r_d rfl rfl rfl (s_fieldAddr rfl fl_api_Fact_1 rfl rfl rfl rfl) ?_
   refine r_d rfl rfl rfl (s_load rfl rfl (by exact ty_api_Atom) (sz_encA _)) ?_
   refine r_d rfl rfl rfl (s_fieldAddr rfl fl_api_Fact_1 rfl rfl rfl rfl) ?_
   refine r_d rfl rfl rfl (s_load rfl rfl (by exact ty_api_Atom) (sz_encA _)) ?_
   obtain ⟨r_2, hr_2, hr⟩ := bindS hr
   refine r_d rfl rfl rfl (s_callD rfl cl_constraintref03_SameAtom (.cons rfl (Wk.refl _) (.cons rfl (Wk.refl _) .nil)) (lx_constraintref03_SameAtom _ _ _ hr_2)) ?_
   refine r_d rfl rfl rfl (s_pickT rfl rfl rfl) ?_
   refine r_d rfl rfl rfl (s_move rfl rfl) ?_
   refine r_sB 17 rfl hr (fun h17_2 hr => ?_) (fun h17_2 hr => ?_)
   ·
    refine r_d rfl rfl rfl (s_fieldAddr rfl fl_api_Fact_2 rfl rfl (by simp [szs, sz, sz_encA]) rfl) ?_
    refine r_d rfl rfl rfl (s_load rfl rfl (by exact ty_L_int) rfl) ?_
    refine r_d rfl rfl rfl (s_fieldAddr rfl fl_api_Fact_2 rfl rfl (by simp [szs, sz, sz_encA]) rfl) ?_
    refine r_d rfl rfl rfl (s_load rfl rfl (by exact ty_L_int) rfl) ?_
    obtain ⟨r_4, hr_4, hr⟩ := bindS hr
    refine r_d rfl rfl rfl (s_callD rfl cl_constraintref03_SameInts (.cons rfl (Wk.refl _) (.cons rfl (Wk.refl _) .nil)) (lg_constraintref03_SameInts _ _ _ hr_4)) ?_
    refine r_d rfl rfl rfl (s_pickT rfl rfl rfl) ?_
    refine r_d rfl rfl rfl (s_assign rfl rfl) ?_
    refine r_end ?_
    obtain rfl := Option.some.inj hr
    refine g_ret Tryz.func189 _ (.cons (resTmp rfl (Wk.refl _)) .nil) ?_
    rfl
   ·
    refine r_skip rfl rfl rfl ?_
    refine r_skip rfl rfl rfl ?_
    refine r_skip rfl rfl rfl ?_
    refine r_skip rfl rfl rfl ?_
    refine r_skip rfl rfl rfl ?_
    refine r_d rfl rfl rfl (s_pickF rfl rfl rfl) ?_
    refine r_d rfl rfl rfl (s_assign rfl rfl) ?_
    refine r_end ?_
    obtain rfl := Option.some.inj hr
    refine g_ret Tryz.func189 _ (.cons (resTmp rfl (Wk.refl _)) .nil) ?_
    rfl
  ·
   refine r_skip rfl rfl rfl ?_
   refine r_skip rfl rfl rfl ?_
   refine r_skip rfl rfl rfl ?_
   refine r_skip rfl rfl rfl ?_
   refine r_skip rfl rfl rfl ?_
   refine r_d rfl rfl rfl (s_pickF rfl rfl rfl) ?_
   refine r_d rfl rfl rfl (s_move rfl rfl) ?_
   refine r_skip rfl rfl rfl ?_
   refine r_skip rfl rfl rfl ?_
   refine r_skip rfl rfl rfl ?_
   refine r_skip rfl rfl rfl ?_
   refine r_skip rfl rfl rfl ?_
   refine r_d rfl rfl rfl (s_pickF rfl rfl rfl) ?_
   refine r_d rfl rfl rfl (s_assign rfl rfl) ?_
   refine r_end ?_
   obtain rfl := Option.some.inj hr
   refine g_ret Tryz.func189 _ (.cons (resTmp rfl (Wk.refl _)) .nil) ?_
   rfl

noncomputable def lf_constraintref50_sameFacts_L0 (k : Option (Bool)) (b_a1 : (List S_api_Fact)) : List S_api_Fact → Nat → Option (Bool)
  | [], i_2 =>
  k
  | q_3 :: rest, i_2 =>
  ((getI b_a1 (i_2 : Int)).bind fun q_4 =>
  ((lf_constraintref49_Same q_3 q_4).bind fun r_5 =>
  (bif (!r_5) then
  some (false)
  else
  (lf_constraintref50_sameFacts_L0 k b_a1 rest (i_2 + 1)))))
noncomputable def lf_constraintref50_sameFacts (a_a0 : (List S_api_Fact)) (b_a1 : (List S_api_Fact)) : Option (Bool) :=
  (bif ((a_a0.length : Int) != (b_a1.length : Int)) then
  some (false)
  else
  (lf_constraintref50_sameFacts_L0 (some (true)) b_a1 a_a0 0))

set_option maxHeartbeats 1000000 in
theorem lg_constraintref50_sameFacts (a_a0 : (List S_api_Fact)) (b_a1 : (List S_api_Fact)) (res : Bool) (hr : lf_constraintref50_sameFacts a_a0 b_a1 = some res) : Gives Tryz.prog 116 [.lst (a_a0.map enc_S_api_Fact), .lst (b_a1.map enc_S_api_Fact)] (.bool res) := by
  unfold lf_constraintref50_sameFacts at hr
  refine spec_env [(0, .lst (a_a0.map enc_S_api_Fact)), (1, .lst (b_a1.map enc_S_api_Fact))] Tryz.func116 rfl rfl fun K hK => ?_
  refine g_seq ?_
  refine g_run (by kernel_rfl) [(0, .d)] rfl ?_
  refine r_d rfl rfl rfl (s_assign rfl rfl) ?_
  refine r_end ?_
  refine g_seq ?_
  refine g_seq ?_
  refine g_run (by kernel_rfl) [(0, .d), (1, .d), (2, .d), (3, .d), (4, .d)] rfl ?_
  refine r_d rfl rfl rfl (s_move rfl rfl) ?_
  refine r_d rfl rfl rfl (m_len (f := enc_S_api_Fact) a_a0 rfl el_L_api_Fact rfl (asl rfl)) ?_
  refine r_d rfl rfl rfl (s_move rfl rfl) ?_
  refine r_d rfl rfl rfl (m_len (f := enc_S_api_Fact) b_a1 rfl el_L_api_Fact rfl (asl rfl)) ?_
  refine r_d rfl rfl rfl (s_cmp rfl rfl rfl rfl) ?_
  refine r_end ?_
  refine g_sB 10 rfl hr (fun h10_0 hr => ?_) (fun h10_0 hr => ?_)
  ·
   refine g_condT rfl ?_
   refine g_seq ?_
   refine g_run (by kernel_rfl) [(0, .d)] rfl ?_
   refine r_d rfl rfl rfl (s_assign rfl rfl) ?_
   refine r_end ?_
   obtain rfl := Option.some.inj hr
   refine g_ret Tryz.func116 _ (.cons (resTmp rfl (Wk.refl _)) .nil) ?_
   rfl
  ·
   refine g_condF rfl ?_
   refine g_skip ?_
   refine g_seq ?_
   refine g_seq ?_
   refine g_run (by kernel_rfl) [(0, .d)] rfl ?_
   refine r_d rfl rfl rfl (s_assign rfl rfl) ?_
   refine r_end ?_
   obtain ⟨kk0, hkk0, hr⟩ := exK (fun k => lf_constraintref50_sameFacts_L0 k b_a1 a_a0 0) hr
   refine g_len 0 rfl (asl rfl) fun hla0 => ?_
   simp only [List.length_map] at hla0
   refine g_blockJ (fun env σ => env = [] ∧ σ = [] ∧ kk0 = some res) ?_ (fun HK0 => ?_)
   ·
    rintro _ _ ⟨rfl, rfl, hr⟩
    rw [hkk0] at hr
    refine g_seq ?_
    refine g_run (by kernel_rfl) [(0, .d)] rfl ?_
    refine r_d rfl rfl rfl (s_assign rfl rfl) ?_
    refine r_end ?_
    obtain rfl := Option.some.inj hr
    refine g_ret Tryz.func116 _ (.cons (resTmp rfl (Wk.refl _)) .nil) ?_
    rfl
   ·
    refine g_sub [(0, .lst (a_a0.map enc_S_api_Fact)), (1, .lst (b_a1.map enc_S_api_Fact)), (5, .int .i64 ((0 : Nat) : Int))] (Sub.cons' rfl (Sub.cons' rfl (Sub.cons' rfl (Sub.nil _)))) ?_
    refine g_loop (fun n env σ => ∃ (i_2 : Nat), (n = a_a0.length - i_2) ∧ (env = [(0, .lst (a_a0.map enc_S_api_Fact)), (1, .lst (b_a1.map enc_S_api_Fact)), (5, .int .i64 (i_2 : Int))]) ∧ (σ = []) ∧ (i_2 ≤ a_a0.length) ∧ (lf_constraintref50_sameFacts_L0 kk0 b_a1 (a_a0.drop i_2) i_2 = some res)) _ ⟨0, rfl, rfl, rfl, Nat.zero_le _, hr⟩ ?_
    rintro n _ _ ⟨i_2, rfl, rfl, rfl, hi0, hr⟩ IH0
    rcases listStep a_a0 i_2 hi0 with ⟨ht0, hd0, he0⟩ | ⟨q_3, ht0, hd0, hq0, hlt0⟩
    ·
     rw [hd0, lf_constraintref50_sameFacts_L0] at hr
     refine g_seq ?_
     refine g_seq ?_
     refine g_run (by kernel_rfl) [(0, .d), (1, .d), (2, .d), (3, .d)] rfl ?_
     refine r_d rfl rfl rfl (s_move rfl rfl) ?_
     refine r_d rfl rfl rfl (s_move rfl rfl) ?_
     refine r_d rfl rfl rfl (m_len (f := enc_S_api_Fact) a_a0 rfl el_L_api_Fact rfl (asl rfl)) ?_
     refine r_d rfl rfl rfl (s_cmp rfl rfl rfl rfl) ?_
     refine r_end ?_
     refine g_known 14 false rfl ht0 ?_
     refine g_condF rfl ?_
     refine g_exit rfl ?_
     refine g_sub [] (Sub.nil _) ?_
     exact HK0 _ _ ⟨rfl, rfl, hr⟩
    ·
     rw [hd0, lf_constraintref50_sameFacts_L0] at hr
     refine g_seq ?_
     refine g_seq ?_
     refine g_run (by kernel_rfl) [(0, .d), (1, .d), (2, .d), (3, .d)] rfl ?_
     refine r_d rfl rfl rfl (s_move rfl rfl) ?_
     refine r_d rfl rfl rfl (s_move rfl rfl) ?_
     refine r_d rfl rfl rfl (m_len (f := enc_S_api_Fact) a_a0 rfl el_L_api_Fact rfl (asl rfl)) ?_
     refine r_d rfl rfl rfl (s_cmp rfl rfl rfl rfl) ?_
     refine r_end ?_
     refine g_known 14 true rfl ht0 ?_
     refine g_condT rfl ?_
     refine g_skip ?_
     refine g_seq ?_
     refine g_block ?_
     refine g_seq ?_
     refine g_any (by kernel_rfl) (by kernel_rfl) [(0, .d), (1, .d), (2, .d), (3, .d), (4, .d), (5, .d), (6, .d), (7, .d), (8, .d), (9, .d)] (by kernel_rfl) ?_
     refine r_d rfl rfl rfl (s_move rfl rfl) ?_
     refine r_d rfl rfl rfl (s_move rfl rfl) ?_
     refine r_d rfl rfl rfl (m_index (f := enc_S_api_Fact) a_a0 rfl el_L_api_Fact rfl (asl rfl) rfl hq0 sz_S_api_Fact rfl) ?_
     refine r_d rfl rfl rfl (s_load rfl rfl (by exact ty_api_Fact) (sz_S_api_Fact _)) ?_
     refine r_d rfl rfl rfl (s_move rfl rfl) ?_
     refine r_d rfl rfl rfl (s_move rfl rfl) ?_
     obtain ⟨q_4, hq_4, hr⟩ := bindS hr
     refine r_d rfl rfl rfl (m_index (f := enc_S_api_Fact) b_a1 rfl el_L_api_Fact rfl (asl rfl) rfl hq_4 sz_S_api_Fact rfl) ?_
     refine r_d rfl rfl rfl (s_load rfl rfl (by exact ty_api_Fact) (sz_S_api_Fact _)) ?_
     obtain ⟨r_5, hr_5, hr⟩ := bindS hr
     refine r_d rfl rfl rfl (s_callD rfl cl_constraintref49_Same (.cons rfl (Wk.refl _) (.cons rfl (Wk.refl _) .nil)) (lg_constraintref49_Same _ _ _ hr_5)) ?_
     refine r_d rfl rfl rfl (s_not rfl rfl) ?_
     refine r_end ?_
     refine g_sB 26 rfl hr (fun h26_5 hr => ?_) (fun h26_5 hr => ?_)
     ·
      refine g_condT rfl ?_
      refine g_seq ?_
      refine g_run (by kernel_rfl) [(0, .d)] rfl ?_
      refine r_d rfl rfl rfl (s_assign rfl rfl) ?_
      refine r_end ?_
      obtain rfl := Option.some.inj hr
      refine g_ret Tryz.func116 _ (.cons (resTmp rfl (Wk.refl _)) .nil) ?_
      rfl
     ·
      refine g_condF rfl ?_
      refine g_skip ?_
      refine g_inBlock ?_
      refine g_run (by kernel_rfl) [(0, .d), (1, .d), (2, .d)] rfl ?_
      refine r_d rfl rfl rfl (s_move rfl rfl) ?_
      refine r_d rfl rfl rfl (s_ar (r := ((i_2 + 1 : Nat) : Int)) rfl rfl rfl (by simp [iar]) (by omega)) ?_
      refine r_d rfl rfl rfl (s_assign rfl rfl) ?_
      refine r_end ?_
      refine g_sub [(0, .lst (a_a0.map enc_S_api_Fact)), (1, .lst (b_a1.map enc_S_api_Fact)), (5, .int .i64 ((i_2 + 1 : Nat) : Int))] (Sub.cons' rfl (Sub.cons' rfl (Sub.cons' rfl (Sub.nil _)))) ?_
      exact IH0 _ _ _ (by omega) ⟨(i_2 + 1), rfl, rfl, rfl, (by omega), hr⟩

noncomputable def lf_constraintref50_same_L0 (k : Option (Bool)) (b_a1 : (List Int)) : List Int → Nat → Option (Bool)
  | [], i_2 =>
  k
  | q_3 :: rest, i_2 =>
  ((getI b_a1 (i_2 : Int)).bind fun q_4 =>
  (bif (q_3 != q_4) then
  some (false)
  else
  (lf_constraintref50_same_L0 k b_a1 rest (i_2 + 1))))
noncomputable def lf_constraintref50_same (a_a0 : (List Int)) (b_a1 : (List Int)) : Option (Bool) :=
  (bif ((a_a0.length : Int) != (b_a1.length : Int)) then
  some (false)
  else
  (lf_constraintref50_same_L0 (some (true)) b_a1 a_a0 0))

set_option maxHeartbeats 1000000 in
theorem lg_constraintref50_same (a_a0 : (List Int)) (b_a1 : (List Int)) (res : Bool) (hr : lf_constraintref50_same a_a0 b_a1 = some res) : Gives Tryz.prog 117 [.lst (a_a0.map (D.int .i64)), .lst (b_a1.map (D.int .i64))] (.bool res) := by
  unfold lf_constraintref50_same at hr
  refine spec_env [(0, .lst (a_a0.map (D.int .i64))), (1, .lst (b_a1.map (D.int .i64)))] Tryz.func117 rfl rfl fun K hK => ?_
  refine g_seq ?_
  refine g_run (by kernel_rfl) [(0, .d)] rfl ?_
  refine r_d rfl rfl rfl (s_assign rfl rfl) ?_
  refine r_end ?_
  refine g_seq ?_
  refine g_seq ?_
  refine g_run (by kernel_rfl) [(0, .d), (1, .d), (2, .d), (3, .d), (4, .d)] rfl ?_
  refine r_d rfl rfl rfl (s_move rfl rfl) ?_
  refine r_d rfl rfl rfl (m_len (f := (D.int .i64)) a_a0 rfl el_L_int rfl (asl rfl)) ?_
  refine r_d rfl rfl rfl (s_move rfl rfl) ?_
  refine r_d rfl rfl rfl (m_len (f := (D.int .i64)) b_a1 rfl el_L_int rfl (asl rfl)) ?_
  refine r_d rfl rfl rfl (s_cmp rfl rfl rfl rfl) ?_
  refine r_end ?_
  refine g_sB 10 rfl hr (fun h10_0 hr => ?_) (fun h10_0 hr => ?_)
  ·
   refine g_condT rfl ?_
   refine g_seq ?_
   refine g_run (by kernel_rfl) [(0, .d)] rfl ?_
   refine r_d rfl rfl rfl (s_assign rfl rfl) ?_
   refine r_end ?_
   obtain rfl := Option.some.inj hr
   refine g_ret Tryz.func117 _ (.cons (resTmp rfl (Wk.refl _)) .nil) ?_
   rfl
  ·
   refine g_condF rfl ?_
   refine g_skip ?_
   refine g_seq ?_
   refine g_seq ?_
   refine g_run (by kernel_rfl) [(0, .d)] rfl ?_
   refine r_d rfl rfl rfl (s_assign rfl rfl) ?_
   refine r_end ?_
   obtain ⟨kk0, hkk0, hr⟩ := exK (fun k => lf_constraintref50_same_L0 k b_a1 a_a0 0) hr
   refine g_len 0 rfl (asl rfl) fun hla0 => ?_
   simp only [List.length_map] at hla0
   refine g_blockJ (fun env σ => env = [] ∧ σ = [] ∧ kk0 = some res) ?_ (fun HK0 => ?_)
   ·
    rintro _ _ ⟨rfl, rfl, hr⟩
    rw [hkk0] at hr
    refine g_seq ?_
    refine g_run (by kernel_rfl) [(0, .d)] rfl ?_
    refine r_d rfl rfl rfl (s_assign rfl rfl) ?_
    refine r_end ?_
    obtain rfl := Option.some.inj hr
    refine g_ret Tryz.func117 _ (.cons (resTmp rfl (Wk.refl _)) .nil) ?_
    rfl
   ·
    refine g_sub [(0, .lst (a_a0.map (D.int .i64))), (1, .lst (b_a1.map (D.int .i64))), (5, .int .i64 ((0 : Nat) : Int))] (Sub.cons' rfl (Sub.cons' rfl (Sub.cons' rfl (Sub.nil _)))) ?_
    refine g_loop (fun n env σ => ∃ (i_2 : Nat), (n = a_a0.length - i_2) ∧ (env = [(0, .lst (a_a0.map (D.int .i64))), (1, .lst (b_a1.map (D.int .i64))), (5, .int .i64 (i_2 : Int))]) ∧ (σ = []) ∧ (i_2 ≤ a_a0.length) ∧ (lf_constraintref50_same_L0 kk0 b_a1 (a_a0.drop i_2) i_2 = some res)) _ ⟨0, rfl, rfl, rfl, Nat.zero_le _, hr⟩ ?_
    rintro n _ _ ⟨i_2, rfl, rfl, rfl, hi0, hr⟩ IH0
    rcases listStep a_a0 i_2 hi0 with ⟨ht0, hd0, he0⟩ | ⟨q_3, ht0, hd0, hq0, hlt0⟩
    ·
     rw [hd0, lf_constraintref50_same_L0] at hr
     refine g_seq ?_
     refine g_seq ?_
     refine g_run (by kernel_rfl) [(0, .d), (1, .d), (2, .d), (3, .d)] rfl ?_
     refine r_d rfl rfl rfl (s_move rfl rfl) ?_
     refine r_d rfl rfl rfl (s_move rfl rfl) ?_
     refine r_d rfl rfl rfl (m_len (f := (D.int .i64)) a_a0 rfl el_L_int rfl (asl rfl)) ?_
     refine r_d rfl rfl rfl (s_cmp rfl rfl rfl rfl) ?_
     refine r_end ?_
     refine g_known 14 false rfl ht0 ?_
     refine g_condF rfl ?_
     refine g_exit rfl ?_
     refine g_sub [] (Sub.nil _) ?_
     exact HK0 _ _ ⟨rfl, rfl, hr⟩
    ·
     rw [hd0, lf_constraintref50_same_L0] at hr
     refine g_seq ?_
     refine g_seq ?_
     refine g_run (by kernel_rfl) [(0, .d), (1, .d), (2, .d), (3, .d)] rfl ?_
     refine r_d rfl rfl rfl (s_move rfl rfl) ?_
     refine r_d rfl rfl rfl (s_move rfl rfl) ?_
     refine r_d rfl rfl rfl (m_len (f := (D.int .i64)) a_a0 rfl el_L_int rfl (asl rfl)) ?_
     refine r_d rfl rfl rfl (s_cmp rfl rfl rfl rfl) ?_
     refine r_end ?_
     refine g_known 14 true rfl ht0 ?_
     refine g_condT rfl ?_
     refine g_skip ?_
     refine g_seq ?_
     refine g_block ?_
     refine g_seq ?_
     refine g_any (by kernel_rfl) (by kernel_rfl) [(0, .d), (1, .d), (2, .d), (3, .d), (4, .d), (5, .d), (6, .d), (7, .d), (8, .d)] (by kernel_rfl) ?_
     refine r_d rfl rfl rfl (s_move rfl rfl) ?_
     refine r_d rfl rfl rfl (s_move rfl rfl) ?_
     refine r_d rfl rfl rfl (m_index (f := (D.int .i64)) a_a0 rfl el_L_int rfl (asl rfl) rfl hq0 (fun _ => rfl) rfl) ?_
     refine r_d rfl rfl rfl (s_load rfl rfl (by exact ty_int) rfl) ?_
     refine r_d rfl rfl rfl (s_move rfl rfl) ?_
     refine r_d rfl rfl rfl (s_move rfl rfl) ?_
     obtain ⟨q_4, hq_4, hr⟩ := bindS hr
     refine r_d rfl rfl rfl (m_index (f := (D.int .i64)) b_a1 rfl el_L_int rfl (asl rfl) rfl hq_4 (fun _ => rfl) rfl) ?_
     refine r_d rfl rfl rfl (s_load rfl rfl (by exact ty_int) rfl) ?_
     refine r_d rfl rfl rfl (s_cmp rfl rfl rfl rfl) ?_
     refine r_end ?_
     refine g_sB 25 rfl hr (fun h25_4 hr => ?_) (fun h25_4 hr => ?_)
     ·
      refine g_condT rfl ?_
      refine g_seq ?_
      refine g_run (by kernel_rfl) [(0, .d)] rfl ?_
      refine r_d rfl rfl rfl (s_assign rfl rfl) ?_
      refine r_end ?_
      obtain rfl := Option.some.inj hr
      refine g_ret Tryz.func117 _ (.cons (resTmp rfl (Wk.refl _)) .nil) ?_
      rfl
     ·
      refine g_condF rfl ?_
      refine g_skip ?_
      refine g_inBlock ?_
      refine g_run (by kernel_rfl) [(0, .d), (1, .d), (2, .d)] rfl ?_
      refine r_d rfl rfl rfl (s_move rfl rfl) ?_
      refine r_d rfl rfl rfl (s_ar (r := ((i_2 + 1 : Nat) : Int)) rfl rfl rfl (by simp [iar]) (by omega)) ?_
      refine r_d rfl rfl rfl (s_assign rfl rfl) ?_
      refine r_end ?_
      refine g_sub [(0, .lst (a_a0.map (D.int .i64))), (1, .lst (b_a1.map (D.int .i64))), (5, .int .i64 ((i_2 + 1 : Nat) : Int))] (Sub.cons' rfl (Sub.cons' rfl (Sub.cons' rfl (Sub.nil _)))) ?_
      exact IH0 _ _ _ (by omega) ⟨(i_2 + 1), rfl, rfl, rfl, (by omega), hr⟩

noncomputable def lf_constraintref50_Same_L0 (k : Option (Bool)) (b_a1 : S_api_Memory) : List S_api_Applied → Nat → Option (Bool)
  | [], i_8 =>
  k
  | q_9 :: rest, i_8 =>
  ((getI b_a1.f2_Log (i_8 : Int)).bind fun q_11 =>
  (bif (q_9.f0_Rule != q_11.f0_Rule) then
  some (false)
  else
  (bif (q_9.f4_Failed != q_11.f4_Failed) then
  some (false)
  else
  ((lf_constraintref50_same q_9.f1_Heads q_11.f1_Heads).bind fun r_15 =>
  (bif (!r_15) then
  some (false)
  else
  ((lf_constraintref50_same q_9.f2_Gone q_11.f2_Gone).bind fun r_17 =>
  (bif (!r_17) then
  some (false)
  else
  ((lf_constraintref50_same q_9.f3_Made q_11.f3_Made).bind fun r_19 =>
  (bif (!r_19) then
  some (false)
  else
  ((lf_constraintref50_same q_9.f5_Just q_11.f5_Just).bind fun r_21 =>
  (bif (!r_21) then
  some (false)
  else
  (lf_constraintref50_Same_L0 k b_a1 rest (i_8 + 1)))))))))))))
noncomputable def lf_constraintref50_Same (a_a0 : S_api_Memory) (b_a1 : S_api_Memory) : Option (Bool) :=
  ((lf_constraintref50_sameFacts a_a0.f0_Facts b_a1.f0_Facts).bind fun r_1 =>
  (bif (!r_1) then
  some (false)
  else
  ((lf_constraintref50_sameFacts a_a0.f1_Past b_a1.f1_Past).bind fun r_3 =>
  (bif (!r_3) then
  some (false)
  else
  (bif (a_a0.f3_Next != b_a1.f3_Next) then
  some (false)
  else
  (bif (a_a0.f4_Given != b_a1.f4_Given) then
  some (false)
  else
  (bif ((a_a0.f2_Log.length : Int) != (b_a1.f2_Log.length : Int)) then
  some (false)
  else
  (lf_constraintref50_Same_L0 (some (true)) b_a1 a_a0.f2_Log 0))))))))

set_option maxHeartbeats 1000000 in
theorem lg_constraintref50_Same (a_a0 : S_api_Memory) (b_a1 : S_api_Memory) (res : Bool) (hr : lf_constraintref50_Same a_a0 b_a1 = some res) : Gives Tryz.prog 28 [enc_S_api_Memory a_a0, enc_S_api_Memory b_a1] (.bool res) := by
  unfold lf_constraintref50_Same at hr
  refine spec_env [(0, enc_S_api_Memory a_a0), (1, enc_S_api_Memory b_a1)] Tryz.func28 rfl rfl fun K hK => ?_
  refine g_seq ?_
  refine g_run (by kernel_rfl) [(0, .d), (1, .d), (2, .d)] rfl ?_
  refine r_d rfl rfl rfl (s_box rfl rfl rfl) ?_
  refine r_d rfl rfl rfl (s_box rfl rfl rfl) ?_
  refine r_d rfl rfl rfl (s_assign rfl rfl) ?_
  refine r_end ?_
  refine g_seq ?_
  refine g_seq ?_
  refine g_run (by kernel_rfl) [(0, .d), (1, .d), (2, .d), (3, .d), (4, .d), (5, .d), (6, .d), (7, .d), (8, .d), (9, .d), (10, .d), (11, .d), (12, .d), (13, .d), (14, .d), (15, .d), (16, .d), (17, .d), (18, .d), (19, .d), (20, .d), (21, .d), (22, .d), (23, .d), (24, .d), (25, .d), (26, .d), (27, .d), (28, .d), (29, .d), (30, .d), (31, .d), (32, .d), (33, .d), (34, .d), (35, .d), (36, .d)] rfl ?_
  refine r_d rfl rfl rfl (s_fieldAddr rfl fl_api_Memory_0 rfl rfl rfl rfl) ?_
  refine r_d rfl rfl rfl (s_load rfl rfl (by exact ty_L_api_Fact) rfl) ?_
  refine r_d rfl rfl rfl (s_fieldAddr rfl fl_api_Memory_0 rfl rfl rfl rfl) ?_
  refine r_d rfl rfl rfl (s_load rfl rfl (by exact ty_L_api_Fact) rfl) ?_
  obtain ⟨r_1, hr_1, hr⟩ := bindS hr
  refine r_d rfl rfl rfl (s_callD rfl cl_constraintref50_sameFacts (.cons rfl (Wk.refl _) (.cons rfl (Wk.refl _) .nil)) (lg_constraintref50_sameFacts _ _ _ hr_1)) ?_
  refine r_d rfl rfl rfl (s_not rfl rfl) ?_
  refine r_d rfl rfl rfl (s_move rfl rfl) ?_
  refine r_sB 14 rfl hr (fun h14_1 hr => ?_) (fun h14_1 hr => ?_)
  ·
   refine r_skip rfl rfl rfl ?_
   refine r_skip rfl rfl rfl ?_
   refine r_skip rfl rfl rfl ?_
   refine r_skip rfl rfl rfl ?_
   refine r_skip rfl rfl rfl ?_
   refine r_skip rfl rfl rfl ?_
   refine r_d rfl rfl rfl (s_pickT rfl rfl rfl) ?_
   refine r_d rfl rfl rfl (s_move rfl rfl) ?_
   refine r_skip rfl rfl rfl ?_
   refine r_skip rfl rfl rfl ?_
   refine r_skip rfl rfl rfl ?_
   refine r_skip rfl rfl rfl ?_
   refine r_skip rfl rfl rfl ?_
   refine r_d rfl rfl rfl (s_pickT rfl rfl rfl) ?_
   refine r_d rfl rfl rfl (s_move rfl rfl) ?_
   refine r_skip rfl rfl rfl ?_
   refine r_skip rfl rfl rfl ?_
   refine r_skip rfl rfl rfl ?_
   refine r_skip rfl rfl rfl ?_
   refine r_skip rfl rfl rfl ?_
   refine r_d rfl rfl rfl (s_pickT rfl rfl rfl) ?_
   refine r_d rfl rfl rfl (s_move rfl rfl) ?_
   refine r_skip rfl rfl rfl ?_
   refine r_skip rfl rfl rfl ?_
   refine r_skip rfl rfl rfl ?_
   refine r_skip rfl rfl rfl ?_
   refine r_skip rfl rfl rfl ?_
   refine r_skip rfl rfl rfl ?_
   refine r_skip rfl rfl rfl ?_
   refine r_d rfl rfl rfl (s_pickT rfl rfl rfl) ?_
   refine r_end ?_
   refine g_condT rfl ?_
   refine g_seq ?_
   refine g_run (by kernel_rfl) [(0, .d)] rfl ?_
   refine r_d rfl rfl rfl (s_assign rfl rfl) ?_
   refine r_end ?_
   obtain rfl := Option.some.inj hr
   refine g_ret Tryz.func28 _ (.cons (resTmp rfl (Wk.refl _)) .nil) ?_
   rfl
  ·
   refine r_d rfl rfl rfl (s_fieldAddr rfl fl_api_Memory_1 rfl rfl rfl rfl) ?_
   refine r_d rfl rfl rfl (s_load rfl rfl (by exact ty_L_api_Fact) rfl) ?_
   refine r_d rfl rfl rfl (s_fieldAddr rfl fl_api_Memory_1 rfl rfl rfl rfl) ?_
   refine r_d rfl rfl rfl (s_load rfl rfl (by exact ty_L_api_Fact) rfl) ?_
   obtain ⟨r_3, hr_3, hr⟩ := bindS hr
   refine r_d rfl rfl rfl (s_callD rfl cl_constraintref50_sameFacts (.cons rfl (Wk.refl _) (.cons rfl (Wk.refl _) .nil)) (lg_constraintref50_sameFacts _ _ _ hr_3)) ?_
   refine r_d rfl rfl rfl (s_not rfl rfl) ?_
   refine r_d rfl rfl rfl (s_pickF rfl rfl rfl) ?_
   refine r_d rfl rfl rfl (s_move rfl rfl) ?_
   refine r_sB 22 rfl hr (fun h22_3 hr => ?_) (fun h22_3 hr => ?_)
   ·
    refine r_skip rfl rfl rfl ?_
    refine r_skip rfl rfl rfl ?_
    refine r_skip rfl rfl rfl ?_
    refine r_skip rfl rfl rfl ?_
    refine r_skip rfl rfl rfl ?_
    refine r_d rfl rfl rfl (s_pickT rfl rfl rfl) ?_
    refine r_d rfl rfl rfl (s_move rfl rfl) ?_
    refine r_skip rfl rfl rfl ?_
    refine r_skip rfl rfl rfl ?_
    refine r_skip rfl rfl rfl ?_
    refine r_skip rfl rfl rfl ?_
    refine r_skip rfl rfl rfl ?_
    refine r_d rfl rfl rfl (s_pickT rfl rfl rfl) ?_
    refine r_d rfl rfl rfl (s_move rfl rfl) ?_
    refine r_skip rfl rfl rfl ?_
    refine r_skip rfl rfl rfl ?_
    refine r_skip rfl rfl rfl ?_
    refine r_skip rfl rfl rfl ?_
    refine r_skip rfl rfl rfl ?_
    refine r_skip rfl rfl rfl ?_
    refine r_skip rfl rfl rfl ?_
    refine r_d rfl rfl rfl (s_pickT rfl rfl rfl) ?_
    refine r_end ?_
    refine g_condT rfl ?_
    refine g_seq ?_
    refine g_run (by kernel_rfl) [(0, .d)] rfl ?_
    refine r_d rfl rfl rfl (s_assign rfl rfl) ?_
    refine r_end ?_
    obtain rfl := Option.some.inj hr
    refine g_ret Tryz.func28 _ (.cons (resTmp rfl (Wk.refl _)) .nil) ?_
    rfl
   ·
    refine r_d rfl rfl rfl (s_fieldAddr rfl fl_api_Memory_3 rfl rfl rfl rfl) ?_
    refine r_d rfl rfl rfl (s_load rfl rfl (by exact ty_int) rfl) ?_
    refine r_d rfl rfl rfl (s_fieldAddr rfl fl_api_Memory_3 rfl rfl rfl rfl) ?_
    refine r_d rfl rfl rfl (s_load rfl rfl (by exact ty_int) rfl) ?_
    refine r_d rfl rfl rfl (s_cmp rfl rfl rfl rfl) ?_
    refine r_d rfl rfl rfl (s_pickF rfl rfl rfl) ?_
    refine r_d rfl rfl rfl (s_move rfl rfl) ?_
    refine r_sB 29 rfl hr (fun h29_4 hr => ?_) (fun h29_4 hr => ?_)
    ·
     refine r_skip rfl rfl rfl ?_
     refine r_skip rfl rfl rfl ?_
     refine r_skip rfl rfl rfl ?_
     refine r_skip rfl rfl rfl ?_
     refine r_skip rfl rfl rfl ?_
     refine r_d rfl rfl rfl (s_pickT rfl rfl rfl) ?_
     refine r_d rfl rfl rfl (s_move rfl rfl) ?_
     refine r_skip rfl rfl rfl ?_
     refine r_skip rfl rfl rfl ?_
     refine r_skip rfl rfl rfl ?_
     refine r_skip rfl rfl rfl ?_
     refine r_skip rfl rfl rfl ?_
     refine r_skip rfl rfl rfl ?_
     refine r_skip rfl rfl rfl ?_
     refine r_d rfl rfl rfl (s_pickT rfl rfl rfl) ?_
     refine r_end ?_
     refine g_condT rfl ?_
     refine g_seq ?_
     refine g_run (by kernel_rfl) [(0, .d)] rfl ?_
     refine r_d rfl rfl rfl (s_assign rfl rfl) ?_
     refine r_end ?_
     obtain rfl := Option.some.inj hr
     refine g_ret Tryz.func28 _ (.cons (resTmp rfl (Wk.refl _)) .nil) ?_
     rfl
    ·
     refine r_d rfl rfl rfl (s_fieldAddr rfl fl_api_Memory_4 rfl rfl rfl rfl) ?_
     refine r_d rfl rfl rfl (s_load rfl rfl (by exact ty_int) rfl) ?_
     refine r_d rfl rfl rfl (s_fieldAddr rfl fl_api_Memory_4 rfl rfl rfl rfl) ?_
     refine r_d rfl rfl rfl (s_load rfl rfl (by exact ty_int) rfl) ?_
     refine r_d rfl rfl rfl (s_cmp rfl rfl rfl rfl) ?_
     refine r_d rfl rfl rfl (s_pickF rfl rfl rfl) ?_
     refine r_d rfl rfl rfl (s_move rfl rfl) ?_
     refine r_sB 36 rfl hr (fun h36_5 hr => ?_) (fun h36_5 hr => ?_)
     ·
      refine r_skip rfl rfl rfl ?_
      refine r_skip rfl rfl rfl ?_
      refine r_skip rfl rfl rfl ?_
      refine r_skip rfl rfl rfl ?_
      refine r_skip rfl rfl rfl ?_
      refine r_skip rfl rfl rfl ?_
      refine r_skip rfl rfl rfl ?_
      refine r_d rfl rfl rfl (s_pickT rfl rfl rfl) ?_
      refine r_end ?_
      refine g_condT rfl ?_
      refine g_seq ?_
      refine g_run (by kernel_rfl) [(0, .d)] rfl ?_
      refine r_d rfl rfl rfl (s_assign rfl rfl) ?_
      refine r_end ?_
      obtain rfl := Option.some.inj hr
      refine g_ret Tryz.func28 _ (.cons (resTmp rfl (Wk.refl _)) .nil) ?_
      rfl
     ·
      refine r_d rfl rfl rfl (s_fieldAddr rfl fl_api_Memory_2 rfl rfl rfl rfl) ?_
      refine r_d rfl rfl rfl (s_load rfl rfl (by exact ty_L_api_Applied) rfl) ?_
      refine r_d rfl rfl rfl (m_len (f := enc_S_api_Applied) a_a0.f2_Log rfl el_L_api_Applied rfl (asl rfl)) ?_
      refine r_d rfl rfl rfl (s_fieldAddr rfl fl_api_Memory_2 rfl rfl rfl rfl) ?_
      refine r_d rfl rfl rfl (s_load rfl rfl (by exact ty_L_api_Applied) rfl) ?_
      refine r_d rfl rfl rfl (m_len (f := enc_S_api_Applied) b_a1.f2_Log rfl el_L_api_Applied rfl (asl rfl)) ?_
      refine r_d rfl rfl rfl (s_cmp rfl rfl rfl rfl) ?_
      refine r_d rfl rfl rfl (s_pickF rfl rfl rfl) ?_
      refine r_end ?_
      refine g_sB 44 rfl hr (fun h44_6 hr => ?_) (fun h44_6 hr => ?_)
      ·
       refine g_condT rfl ?_
       refine g_seq ?_
       refine g_run (by kernel_rfl) [(0, .d)] rfl ?_
       refine r_d rfl rfl rfl (s_assign rfl rfl) ?_
       refine r_end ?_
       obtain rfl := Option.some.inj hr
       refine g_ret Tryz.func28 _ (.cons (resTmp rfl (Wk.refl _)) .nil) ?_
       rfl
      ·
       refine g_condF rfl ?_
       refine g_skip ?_
       refine g_seq ?_
       refine g_seq ?_
       refine g_run (by kernel_rfl) [(0, .d)] rfl ?_
       refine r_d rfl rfl rfl (s_assign rfl rfl) ?_
       refine r_end ?_
       obtain ⟨kk0, hkk0, hr⟩ := exK (fun k => lf_constraintref50_Same_L0 k b_a1 a_a0.f2_Log 0) hr
       refine g_len 38 rfl (asl rfl) fun hla0 => ?_
       simp only [List.length_map] at hla0
       refine g_blockJ (fun env σ => env = [] ∧ σ = [] ∧ kk0 = some res) ?_ (fun HK0 => ?_)
       ·
        rintro _ _ ⟨rfl, rfl, hr⟩
        rw [hkk0] at hr
        refine g_seq ?_
        refine g_run (by kernel_rfl) [(0, .d)] rfl ?_
        refine r_d rfl rfl rfl (s_assign rfl rfl) ?_
        refine r_end ?_
        obtain rfl := Option.some.inj hr
        refine g_ret Tryz.func28 _ (.cons (resTmp rfl (Wk.refl _)) .nil) ?_
        rfl
       ·
        refine g_sub [(2, .ptr (enc_S_api_Memory a_a0)), (3, .ptr (enc_S_api_Memory b_a1)), (5, .int .i64 ((0 : Nat) : Int))] (Sub.cons' rfl (Sub.cons' rfl (Sub.cons' rfl (Sub.nil _)))) ?_
        refine g_loop (fun n env σ => ∃ (i_8 : Nat), (n = a_a0.f2_Log.length - i_8) ∧ (env = [(2, .ptr (enc_S_api_Memory a_a0)), (3, .ptr (enc_S_api_Memory b_a1)), (5, .int .i64 (i_8 : Int))]) ∧ (σ = []) ∧ (i_8 ≤ a_a0.f2_Log.length) ∧ (lf_constraintref50_Same_L0 kk0 b_a1 (a_a0.f2_Log.drop i_8) i_8 = some res)) _ ⟨0, rfl, rfl, rfl, Nat.zero_le _, hr⟩ ?_
        rintro n _ _ ⟨i_8, rfl, rfl, rfl, hi0, hr⟩ IH0
        rcases listStep a_a0.f2_Log i_8 hi0 with ⟨ht0, hd0, he0⟩ | ⟨q_9, ht0, hd0, hq0, hlt0⟩
        ·
         rw [hd0, lf_constraintref50_Same_L0] at hr
         refine g_seq ?_
         refine g_seq ?_
         refine g_run (by kernel_rfl) [(0, .d), (1, .d), (2, .d), (3, .d), (4, .d)] rfl ?_
         refine r_d rfl rfl rfl (s_move rfl rfl) ?_
         refine r_d rfl rfl rfl (s_fieldAddr rfl fl_api_Memory_2 rfl rfl rfl rfl) ?_
         refine r_d rfl rfl rfl (s_load rfl rfl (by exact ty_L_api_Applied) rfl) ?_
         refine r_d rfl rfl rfl (m_len (f := enc_S_api_Applied) a_a0.f2_Log rfl el_L_api_Applied rfl (asl rfl)) ?_
         refine r_d rfl rfl rfl (s_cmp rfl rfl rfl rfl) ?_
         refine r_end ?_
         refine g_known 49 false rfl ht0 ?_
         refine g_condF rfl ?_
         refine g_exit rfl ?_
         refine g_sub [] (Sub.nil _) ?_
         exact HK0 _ _ ⟨rfl, rfl, hr⟩
        ·
         rw [hd0, lf_constraintref50_Same_L0] at hr
         refine g_seq ?_
         refine g_seq ?_
         refine g_run (by kernel_rfl) [(0, .d), (1, .d), (2, .d), (3, .d), (4, .d)] rfl ?_
         refine r_d rfl rfl rfl (s_move rfl rfl) ?_
         refine r_d rfl rfl rfl (s_fieldAddr rfl fl_api_Memory_2 rfl rfl rfl rfl) ?_
         refine r_d rfl rfl rfl (s_load rfl rfl (by exact ty_L_api_Applied) rfl) ?_
         refine r_d rfl rfl rfl (m_len (f := enc_S_api_Applied) a_a0.f2_Log rfl el_L_api_Applied rfl (asl rfl)) ?_
         refine r_d rfl rfl rfl (s_cmp rfl rfl rfl rfl) ?_
         refine r_end ?_
         refine g_known 49 true rfl ht0 ?_
         refine g_condT rfl ?_
         refine g_skip ?_
         refine g_seq ?_
         refine g_block ?_
         refine g_seq ?_
         refine g_run (by kernel_rfl) [(0, .d), (1, .d), (2, .d), (3, .d), (4, .d), (5, .w), (6, .w)] rfl ?_
         refine r_d rfl rfl rfl (s_fieldAddr rfl fl_api_Memory_2 rfl rfl rfl rfl) ?_
         refine r_d rfl rfl rfl (s_load rfl rfl (by exact ty_L_api_Applied) rfl) ?_
         refine r_d rfl rfl rfl (s_move rfl rfl) ?_
         refine r_d rfl rfl rfl (m_index (f := enc_S_api_Applied) a_a0.f2_Log rfl el_L_api_Applied rfl (asl rfl) rfl hq0 sz_S_api_Applied rfl) ?_
         refine r_d rfl rfl rfl (s_load rfl rfl (by exact ty_api_Applied) (sz_S_api_Applied _)) ?_
         refine r_w rfl rfl rfl (s_alloc rfl zv_api_Applied) ?_
         rintro _ _ ⟨b6_9, rfl, rfl⟩
         refine r_w01 rfl rfl rfl (t_store0 _ rfl rfl rfl (Wk.refl _) (pf0 _) (by exact ty_api_Applied) (sz_S_api_Applied _) rfl rfl) ?_
         refine r_end ?_
         refine g_freeze 6 b6_9 rfl (pf0 _) ?_
         refine g_seq ?_
         refine g_run (by kernel_rfl) [(0, .d), (1, .d), (2, .d), (3, .d), (4, .d), (5, .w), (6, .w)] rfl ?_
         refine r_d rfl rfl rfl (s_fieldAddr rfl fl_api_Memory_2 rfl rfl rfl rfl) ?_
         refine r_d rfl rfl rfl (s_load rfl rfl (by exact ty_L_api_Applied) rfl) ?_
         refine r_d rfl rfl rfl (s_move rfl rfl) ?_
         obtain ⟨q_11, hq_11, hr⟩ := bindS hr
         refine r_d rfl rfl rfl (m_index (f := enc_S_api_Applied) b_a1.f2_Log rfl el_L_api_Applied rfl (asl rfl) rfl hq_11 sz_S_api_Applied rfl) ?_
         refine r_d rfl rfl rfl (s_load rfl rfl (by exact ty_api_Applied) (sz_S_api_Applied _)) ?_
         refine r_w rfl rfl rfl (s_alloc rfl zv_api_Applied) ?_
         rintro _ _ ⟨b7_11, rfl, rfl⟩
         refine r_w01 rfl rfl rfl (t_store0 _ rfl rfl rfl (Wk.refl _) (pf0 _) (by exact ty_api_Applied) (sz_S_api_Applied _) rfl rfl) ?_
         refine r_end ?_
         refine g_freeze 7 b7_11 rfl (pf0 _) ?_
         refine g_seq ?_
         refine g_run (by kernel_rfl) [(0, .d), (1, .d), (2, .d), (3, .d), (4, .d), (5, .d), (6, .d), (7, .d), (8, .d), (9, .d), (10, .d), (11, .d), (12, .d), (13, .d), (14, .d), (15, .d), (16, .d), (17, .d), (18, .d), (19, .d), (20, .d), (21, .d), (22, .d), (23, .d), (24, .d), (25, .d), (26, .d), (27, .d), (28, .d), (29, .d), (30, .d), (31, .d), (32, .d), (33, .d), (34, .d), (35, .d), (36, .d), (37, .d), (38, .d), (39, .d), (40, .d), (41, .d), (42, .d), (43, .d)] rfl ?_
         refine r_d rfl rfl rfl (s_fieldAddr rfl fl_api_Applied_0 rfl rfl rfl rfl) ?_
         refine r_d rfl rfl rfl (s_load rfl rfl (by exact ty_int) rfl) ?_
         refine r_d rfl rfl rfl (s_fieldAddr rfl fl_api_Applied_0 rfl rfl rfl rfl) ?_
         refine r_d rfl rfl rfl (s_load rfl rfl (by exact ty_int) rfl) ?_
         refine r_d rfl rfl rfl (s_cmp rfl rfl rfl rfl) ?_
         refine r_d rfl rfl rfl (s_move rfl rfl) ?_
         refine r_sB 67 rfl hr (fun h67_12 hr => ?_) (fun h67_12 hr => ?_)
         ·
          refine r_skip rfl rfl rfl ?_
          refine r_skip rfl rfl rfl ?_
          refine r_skip rfl rfl rfl ?_
          refine r_skip rfl rfl rfl ?_
          refine r_skip rfl rfl rfl ?_
          refine r_d rfl rfl rfl (s_pickT rfl rfl rfl) ?_
          refine r_d rfl rfl rfl (s_move rfl rfl) ?_
          refine r_skip rfl rfl rfl ?_
          refine r_skip rfl rfl rfl ?_
          refine r_skip rfl rfl rfl ?_
          refine r_skip rfl rfl rfl ?_
          refine r_skip rfl rfl rfl ?_
          refine r_skip rfl rfl rfl ?_
          refine r_d rfl rfl rfl (s_pickT rfl rfl rfl) ?_
          refine r_d rfl rfl rfl (s_move rfl rfl) ?_
          refine r_skip rfl rfl rfl ?_
          refine r_skip rfl rfl rfl ?_
          refine r_skip rfl rfl rfl ?_
          refine r_skip rfl rfl rfl ?_
          refine r_skip rfl rfl rfl ?_
          refine r_skip rfl rfl rfl ?_
          refine r_d rfl rfl rfl (s_pickT rfl rfl rfl) ?_
          refine r_d rfl rfl rfl (s_move rfl rfl) ?_
          refine r_skip rfl rfl rfl ?_
          refine r_skip rfl rfl rfl ?_
          refine r_skip rfl rfl rfl ?_
          refine r_skip rfl rfl rfl ?_
          refine r_skip rfl rfl rfl ?_
          refine r_skip rfl rfl rfl ?_
          refine r_d rfl rfl rfl (s_pickT rfl rfl rfl) ?_
          refine r_d rfl rfl rfl (s_move rfl rfl) ?_
          refine r_skip rfl rfl rfl ?_
          refine r_skip rfl rfl rfl ?_
          refine r_skip rfl rfl rfl ?_
          refine r_skip rfl rfl rfl ?_
          refine r_skip rfl rfl rfl ?_
          refine r_skip rfl rfl rfl ?_
          refine r_d rfl rfl rfl (s_pickT rfl rfl rfl) ?_
          refine r_end ?_
          refine g_condT rfl ?_
          refine g_seq ?_
          refine g_run (by kernel_rfl) [(0, .d)] rfl ?_
          refine r_d rfl rfl rfl (s_assign rfl rfl) ?_
          refine r_end ?_
          obtain rfl := Option.some.inj hr
          refine g_ret Tryz.func28 _ (.cons (resTmp rfl (Wk.refl _)) .nil) ?_
          rfl
         ·
          refine r_d rfl rfl rfl (s_fieldAddr rfl fl_api_Applied_4 rfl rfl rfl rfl) ?_
          refine r_d rfl rfl rfl (s_load rfl rfl (by exact ty_bool) rfl) ?_
          refine r_d rfl rfl rfl (s_fieldAddr rfl fl_api_Applied_4 rfl rfl rfl rfl) ?_
          refine r_d rfl rfl rfl (s_load rfl rfl (by exact ty_bool) rfl) ?_
          refine r_d rfl rfl rfl (s_neqB rfl Tryz.underlying4 rfl rfl) ?_
          refine r_d rfl rfl rfl (s_pickF rfl rfl rfl) ?_
          refine r_d rfl rfl rfl (s_move rfl rfl) ?_
          refine r_sB 74 rfl hr (fun h74_13 hr => ?_) (fun h74_13 hr => ?_)
          ·
           refine r_skip rfl rfl rfl ?_
           refine r_skip rfl rfl rfl ?_
           refine r_skip rfl rfl rfl ?_
           refine r_skip rfl rfl rfl ?_
           refine r_skip rfl rfl rfl ?_
           refine r_skip rfl rfl rfl ?_
           refine r_d rfl rfl rfl (s_pickT rfl rfl rfl) ?_
           refine r_d rfl rfl rfl (s_move rfl rfl) ?_
           refine r_skip rfl rfl rfl ?_
           refine r_skip rfl rfl rfl ?_
           refine r_skip rfl rfl rfl ?_
           refine r_skip rfl rfl rfl ?_
           refine r_skip rfl rfl rfl ?_
           refine r_skip rfl rfl rfl ?_
           refine r_d rfl rfl rfl (s_pickT rfl rfl rfl) ?_
           refine r_d rfl rfl rfl (s_move rfl rfl) ?_
           refine r_skip rfl rfl rfl ?_
           refine r_skip rfl rfl rfl ?_
           refine r_skip rfl rfl rfl ?_
           refine r_skip rfl rfl rfl ?_
           refine r_skip rfl rfl rfl ?_
           refine r_skip rfl rfl rfl ?_
           refine r_d rfl rfl rfl (s_pickT rfl rfl rfl) ?_
           refine r_d rfl rfl rfl (s_move rfl rfl) ?_
           refine r_skip rfl rfl rfl ?_
           refine r_skip rfl rfl rfl ?_
           refine r_skip rfl rfl rfl ?_
           refine r_skip rfl rfl rfl ?_
           refine r_skip rfl rfl rfl ?_
           refine r_skip rfl rfl rfl ?_
           refine r_d rfl rfl rfl (s_pickT rfl rfl rfl) ?_
           refine r_end ?_
           refine g_condT rfl ?_
           refine g_seq ?_
           refine g_run (by kernel_rfl) [(0, .d)] rfl ?_
           refine r_d rfl rfl rfl (s_assign rfl rfl) ?_
           refine r_end ?_
           obtain rfl := Option.some.inj hr
           refine g_ret Tryz.func28 _ (.cons (resTmp rfl (Wk.refl _)) .nil) ?_
           rfl
          ·
           refine r_d rfl rfl rfl (s_fieldAddr rfl fl_api_Applied_1 rfl rfl rfl rfl) ?_
           refine r_d rfl rfl rfl (s_load rfl rfl (by exact ty_L_int) rfl) ?_
           refine r_d rfl rfl rfl (s_fieldAddr rfl fl_api_Applied_1 rfl rfl rfl rfl) ?_
           refine r_d rfl rfl rfl (s_load rfl rfl (by exact ty_L_int) rfl) ?_
           obtain ⟨r_15, hr_15, hr⟩ := bindS hr
           refine r_d rfl rfl rfl (s_callD rfl cl_constraintref50_same (.cons rfl (Wk.refl _) (.cons rfl (Wk.refl _) .nil)) (lg_constraintref50_same _ _ _ hr_15)) ?_
           refine r_d rfl rfl rfl (s_not rfl rfl) ?_
           refine r_d rfl rfl rfl (s_pickF rfl rfl rfl) ?_
           refine r_d rfl rfl rfl (s_move rfl rfl) ?_
           refine r_sB 82 rfl hr (fun h82_15 hr => ?_) (fun h82_15 hr => ?_)
           ·
            refine r_skip rfl rfl rfl ?_
            refine r_skip rfl rfl rfl ?_
            refine r_skip rfl rfl rfl ?_
            refine r_skip rfl rfl rfl ?_
            refine r_skip rfl rfl rfl ?_
            refine r_skip rfl rfl rfl ?_
            refine r_d rfl rfl rfl (s_pickT rfl rfl rfl) ?_
            refine r_d rfl rfl rfl (s_move rfl rfl) ?_
            refine r_skip rfl rfl rfl ?_
            refine r_skip rfl rfl rfl ?_
            refine r_skip rfl rfl rfl ?_
            refine r_skip rfl rfl rfl ?_
            refine r_skip rfl rfl rfl ?_
            refine r_skip rfl rfl rfl ?_
            refine r_d rfl rfl rfl (s_pickT rfl rfl rfl) ?_
            refine r_d rfl rfl rfl (s_move rfl rfl) ?_
            refine r_skip rfl rfl rfl ?_
            refine r_skip rfl rfl rfl ?_
            refine r_skip rfl rfl rfl ?_
            refine r_skip rfl rfl rfl ?_
            refine r_skip rfl rfl rfl ?_
            refine r_skip rfl rfl rfl ?_
            refine r_d rfl rfl rfl (s_pickT rfl rfl rfl) ?_
            refine r_end ?_
            refine g_condT rfl ?_
            refine g_seq ?_
            refine g_run (by kernel_rfl) [(0, .d)] rfl ?_
            refine r_d rfl rfl rfl (s_assign rfl rfl) ?_
            refine r_end ?_
            obtain rfl := Option.some.inj hr
            refine g_ret Tryz.func28 _ (.cons (resTmp rfl (Wk.refl _)) .nil) ?_
            rfl
           ·
            refine r_d rfl rfl rfl (s_fieldAddr rfl fl_api_Applied_2 rfl rfl rfl rfl) ?_
            refine r_d rfl rfl rfl (s_load rfl rfl (by exact ty_L_int) rfl) ?_
            refine r_d rfl rfl rfl (s_fieldAddr rfl fl_api_Applied_2 rfl rfl rfl rfl) ?_
            refine r_d rfl rfl rfl (s_load rfl rfl (by exact ty_L_int) rfl) ?_
            obtain ⟨r_17, hr_17, hr⟩ := bindS hr
            refine r_d rfl rfl rfl (s_callD rfl cl_constraintref50_same (.cons rfl (Wk.refl _) (.cons rfl (Wk.refl _) .nil)) (lg_constraintref50_same _ _ _ hr_17)) ?_
            refine r_d rfl rfl rfl (s_not rfl rfl) ?_
            refine r_d rfl rfl rfl (s_pickF rfl rfl rfl) ?_
            refine r_d rfl rfl rfl (s_move rfl rfl) ?_
            refine r_sB 90 rfl hr (fun h90_17 hr => ?_) (fun h90_17 hr => ?_)
            ·
             refine r_skip rfl rfl rfl ?_
             refine r_skip rfl rfl rfl ?_
             refine r_skip rfl rfl rfl ?_
             refine r_skip rfl rfl rfl ?_
             refine r_skip rfl rfl rfl ?_
             refine r_skip rfl rfl rfl ?_
             refine r_d rfl rfl rfl (s_pickT rfl rfl rfl) ?_
             refine r_d rfl rfl rfl (s_move rfl rfl) ?_
             refine r_skip rfl rfl rfl ?_
             refine r_skip rfl rfl rfl ?_
             refine r_skip rfl rfl rfl ?_
             refine r_skip rfl rfl rfl ?_
             refine r_skip rfl rfl rfl ?_
             refine r_skip rfl rfl rfl ?_
             refine r_d rfl rfl rfl (s_pickT rfl rfl rfl) ?_
             refine r_end ?_
             refine g_condT rfl ?_
             refine g_seq ?_
             refine g_run (by kernel_rfl) [(0, .d)] rfl ?_
             refine r_d rfl rfl rfl (s_assign rfl rfl) ?_
             refine r_end ?_
             obtain rfl := Option.some.inj hr
             refine g_ret Tryz.func28 _ (.cons (resTmp rfl (Wk.refl _)) .nil) ?_
             rfl
            ·
             refine r_d rfl rfl rfl (s_fieldAddr rfl fl_api_Applied_3 rfl rfl rfl rfl) ?_
             refine r_d rfl rfl rfl (s_load rfl rfl (by exact ty_L_int) rfl) ?_
             refine r_d rfl rfl rfl (s_fieldAddr rfl fl_api_Applied_3 rfl rfl rfl rfl) ?_
             refine r_d rfl rfl rfl (s_load rfl rfl (by exact ty_L_int) rfl) ?_
             obtain ⟨r_19, hr_19, hr⟩ := bindS hr
             refine r_d rfl rfl rfl (s_callD rfl cl_constraintref50_same (.cons rfl (Wk.refl _) (.cons rfl (Wk.refl _) .nil)) (lg_constraintref50_same _ _ _ hr_19)) ?_
             refine r_d rfl rfl rfl (s_not rfl rfl) ?_
             refine r_d rfl rfl rfl (s_pickF rfl rfl rfl) ?_
             refine r_d rfl rfl rfl (s_move rfl rfl) ?_
             refine r_sB 98 rfl hr (fun h98_19 hr => ?_) (fun h98_19 hr => ?_)
             ·
              refine r_skip rfl rfl rfl ?_
              refine r_skip rfl rfl rfl ?_
              refine r_skip rfl rfl rfl ?_
              refine r_skip rfl rfl rfl ?_
              refine r_skip rfl rfl rfl ?_
              refine r_skip rfl rfl rfl ?_
              refine r_d rfl rfl rfl (s_pickT rfl rfl rfl) ?_
              refine r_end ?_
              refine g_condT rfl ?_
              refine g_seq ?_
              refine g_run (by kernel_rfl) [(0, .d)] rfl ?_
              refine r_d rfl rfl rfl (s_assign rfl rfl) ?_
              refine r_end ?_
              obtain rfl := Option.some.inj hr
              refine g_ret Tryz.func28 _ (.cons (resTmp rfl (Wk.refl _)) .nil) ?_
              rfl
             ·
              refine r_d rfl rfl rfl (s_fieldAddr rfl fl_api_Applied_5 rfl rfl rfl rfl) ?_
              refine r_d rfl rfl rfl (s_load rfl rfl (by exact ty_L_int) rfl) ?_
              refine r_d rfl rfl rfl (s_fieldAddr rfl fl_api_Applied_5 rfl rfl rfl rfl) ?_
              refine r_d rfl rfl rfl (s_load rfl rfl (by exact ty_L_int) rfl) ?_
              obtain ⟨r_21, hr_21, hr⟩ := bindS hr
              refine r_d rfl rfl rfl (s_callD rfl cl_constraintref50_same (.cons rfl (Wk.refl _) (.cons rfl (Wk.refl _) .nil)) (lg_constraintref50_same _ _ _ hr_21)) ?_
              refine r_d rfl rfl rfl (s_not rfl rfl) ?_
              refine r_d rfl rfl rfl (s_pickF rfl rfl rfl) ?_
              refine r_end ?_
              refine g_sB 105 rfl hr (fun h105_21 hr => ?_) (fun h105_21 hr => ?_)
              ·
               refine g_condT rfl ?_
               refine g_seq ?_
               refine g_run (by kernel_rfl) [(0, .d)] rfl ?_
               refine r_d rfl rfl rfl (s_assign rfl rfl) ?_
               refine r_end ?_
               obtain rfl := Option.some.inj hr
               refine g_ret Tryz.func28 _ (.cons (resTmp rfl (Wk.refl _)) .nil) ?_
               rfl
              ·
               refine g_condF rfl ?_
               refine g_skip ?_
               refine g_inBlock ?_
               refine g_run (by kernel_rfl) [(0, .d), (1, .d), (2, .d)] rfl ?_
               refine r_d rfl rfl rfl (s_move rfl rfl) ?_
               refine r_d rfl rfl rfl (s_ar (r := ((i_8 + 1 : Nat) : Int)) rfl rfl rfl (by simp [iar]) (by omega)) ?_
               refine r_d rfl rfl rfl (s_assign rfl rfl) ?_
               refine r_end ?_
               refine g_sub [(2, .ptr (enc_S_api_Memory a_a0)), (3, .ptr (enc_S_api_Memory b_a1)), (5, .int .i64 ((i_8 + 1 : Nat) : Int))] (Sub.cons' rfl (Sub.cons' rfl (Sub.cons' rfl (Sub.nil _)))) ?_
               exact IH0 _ _ _ (by omega) ⟨(i_8 + 1), rfl, rfl, rfl, (by omega), hr⟩

noncomputable def lf_constraintlaw52_SnapshotMemories (fuel : Nat) (m_a0 : S_api_Memory) : Option (Bool) :=
  ((lf_constraintlaw52_few m_a0).bind fun r_1 =>
  (bif (!r_1) then
  ((lf_constraintlaw52_exampleHolds fuel).bind fun r_3 =>
  some (r_3))
  else
  ((lf_snapshot_Memory fuel m_a0).bind fun r_4 =>
  ((lf_constraintref52_Memory fuel m_a0).bind fun r_5 =>
  ((lf_constraintlaw52_same r_4 r_5).bind fun r_6 =>
  (bif (!r_6) then
  some (false)
  else
  ((lf_snapshot_TakeMemory fuel r_4).bind fun r_8 =>
  (bif ((r_4.length : Int) == (0 : Int)) then
  (bif (r_8.2 == (4 : Int)) then
  ((lf_constraintlaw52_exampleHolds fuel).bind fun r_12 =>
  some (r_12))
  else
  some (false))
  else
  (bif (r_8.2 == (0 : Int)) then
  ((lf_constraintref50_Same m_a0 r_8.1).bind fun r_14 =>
  (bif r_14 then
  ((lf_constraintlaw52_exampleHolds fuel).bind fun r_16 =>
  some (r_16))
  else
  some (false)))
  else
  some (false))))))))))

set_option maxHeartbeats 1000000 in
theorem lg_constraintlaw52_SnapshotMemories (fuel : Nat) (m_a0 : S_api_Memory) (res : Bool) (hr : lf_constraintlaw52_SnapshotMemories fuel m_a0 = some res) : Gives Tryz.prog 7 [enc_S_api_Memory m_a0] (.bool res) := by
  unfold lf_constraintlaw52_SnapshotMemories at hr
  refine spec_env [(0, enc_S_api_Memory m_a0)] Tryz.func7 rfl rfl fun K hK => ?_
  refine g_seq ?_
  refine g_run (by kernel_rfl) [(0, .d), (1, .d)] rfl ?_
  refine r_d rfl rfl rfl (s_box rfl rfl rfl) ?_
  refine r_d rfl rfl rfl (s_assign rfl rfl) ?_
  refine r_end ?_
  refine g_seq ?_
  refine g_seq ?_
  refine g_run (by kernel_rfl) [(0, .d), (1, .d), (2, .d)] rfl ?_
  refine r_d rfl rfl rfl (s_load rfl rfl (by exact ty_api_Memory) (sz_S_api_Memory _)) ?_
  obtain ⟨r_1, hr_1, hr⟩ := bindS hr
  refine r_d rfl rfl rfl (s_callD rfl cl_constraintlaw52_few (.cons rfl (Wk.refl _) .nil) (lg_constraintlaw52_few _ _ hr_1)) ?_
  refine r_d rfl rfl rfl (s_not rfl rfl) ?_
  refine r_end ?_
  refine g_sB 8 rfl hr (fun h8_1 hr => ?_) (fun h8_1 hr => ?_)
  ·
   refine g_condT rfl ?_
   refine g_seq ?_
   refine g_run (by kernel_rfl) [(0, .d), (1, .d)] rfl ?_
   obtain ⟨r_3, hr_3, hr⟩ := bindS hr
   refine r_d rfl rfl rfl (s_callD rfl cl_constraintlaw52_exampleHolds .nil (lg_constraintlaw52_exampleHolds fuel _ hr_3)) ?_
   refine r_d rfl rfl rfl (s_assign rfl rfl) ?_
   refine r_end ?_
   obtain rfl := Option.some.inj hr
   refine g_ret Tryz.func7 _ (.cons (resTmp rfl (Wk.refl _)) .nil) ?_
   rfl
  ·
   refine g_condF rfl ?_
   refine g_skip ?_
   refine g_seq ?_
   refine g_run (by kernel_rfl) [(0, .d), (1, .d), (2, .d)] rfl ?_
   refine r_d rfl rfl rfl (s_load rfl rfl (by exact ty_api_Memory) (sz_S_api_Memory _)) ?_
   obtain ⟨r_4, hr_4, hr⟩ := bindS hr
   refine r_d rfl rfl rfl (s_callD rfl cl_snapshot_Memory (.cons rfl (Wk.refl _) .nil) (lg_snapshot_Memory fuel _ _ hr_4)) ?_
   refine r_d rfl rfl rfl (s_assign rfl rfl) ?_
   refine r_end ?_
   refine g_seq ?_
   refine g_seq ?_
   refine g_run (by kernel_rfl) [(0, .d), (1, .d), (2, .d), (3, .d), (4, .d)] rfl ?_
   refine r_d rfl rfl rfl (s_move rfl rfl) ?_
   refine r_d rfl rfl rfl (s_load rfl rfl (by exact ty_api_Memory) (sz_S_api_Memory _)) ?_
   obtain ⟨r_5, hr_5, hr⟩ := bindS hr
   refine r_d rfl rfl rfl (s_callD rfl cl_constraintref52_Memory (.cons rfl (Wk.refl _) .nil) (lg_constraintref52_Memory fuel _ _ hr_5)) ?_
   obtain ⟨r_6, hr_6, hr⟩ := bindS hr
   refine r_d rfl rfl rfl (s_callD rfl cl_constraintlaw52_same (.cons rfl (Wk.refl _) (.cons rfl (Wk.refl _) .nil)) (lg_constraintlaw52_same _ _ _ hr_6)) ?_
   refine r_d rfl rfl rfl (s_not rfl rfl) ?_
   refine r_end ?_
   refine g_sB 16 rfl hr (fun h16_6 hr => ?_) (fun h16_6 hr => ?_)
   ·
    refine g_condT rfl ?_
    refine g_seq ?_
    refine g_run (by kernel_rfl) [(0, .d)] rfl ?_
    refine r_d rfl rfl rfl (s_assign rfl rfl) ?_
    refine r_end ?_
    obtain rfl := Option.some.inj hr
    refine g_ret Tryz.func7 _ (.cons (resTmp rfl (Wk.refl _)) .nil) ?_
    rfl
   ·
    refine g_condF rfl ?_
    refine g_skip ?_
    refine g_seq ?_
    refine g_run (by kernel_rfl) [(0, .d), (1, .d), (2, .d), (3, .d), (4, .d), (5, .w), (6, .w), (7, .d)] rfl ?_
    refine r_d rfl rfl rfl (s_move rfl rfl) ?_
    obtain ⟨r_8, hr_8, hr⟩ := bindS hr
    refine r_d rfl rfl rfl (s_callD rfl cl_snapshot_TakeMemory (.cons rfl (Wk.refl _) .nil) (lg_snapshot_TakeMemory fuel _ _ hr_8)) ?_
    refine r_d rfl rfl rfl (s_move rfl rfl) ?_
    refine r_d rfl rfl rfl (s_extract rfl rfl rfl) ?_
    refine r_d rfl rfl rfl (s_extract rfl rfl rfl) ?_
    refine r_w rfl rfl rfl (s_alloc rfl zv_api_Memory) ?_
    rintro _ _ ⟨b4_8, rfl, rfl⟩
    refine r_w01 rfl rfl rfl (t_store0 _ rfl rfl rfl (Wk.refl _) (pf0 _) (by exact ty_api_Memory) (sz_S_api_Memory _) rfl rfl) ?_
    refine r_d rfl rfl rfl (s_assign rfl rfl) ?_
    refine r_end ?_
    refine g_freeze 4 b4_8 rfl (pf0 _) ?_
    refine g_seq ?_
    refine g_seq ?_
    refine g_run (by kernel_rfl) [(0, .d), (1, .d), (2, .d)] rfl ?_
    refine r_d rfl rfl rfl (s_move rfl rfl) ?_
    refine r_d rfl rfl rfl (m_len (f := (D.int .u8)) r_4 rfl el_L_uint8 rfl (asl rfl)) ?_
    refine r_d rfl rfl rfl (s_cmp rfl rfl rfl rfl) ?_
    refine r_end ?_
    refine g_sB 24 rfl hr (fun h24_9 hr => ?_) (fun h24_9 hr => ?_)
    ·
     refine g_condT rfl ?_
     refine g_seq ?_
     refine g_run (by kernel_rfl) [(0, .d), (1, .d), (2, .d), (3, .d), (4, .d), (5, .d)] rfl ?_
     refine r_d rfl rfl rfl (s_move rfl rfl) ?_
     refine r_d rfl rfl rfl (s_cmp rfl rfl rfl rfl) ?_
     refine r_d rfl rfl rfl (s_move rfl rfl) ?_
     refine r_sB 27 rfl hr (fun h27_10 hr => ?_) (fun h27_10 hr => ?_)
     ·
      obtain ⟨r_12, hr_12, hr⟩ := bindS hr
      refine r_d rfl rfl rfl (s_callD rfl cl_constraintlaw52_exampleHolds .nil (lg_constraintlaw52_exampleHolds fuel _ hr_12)) ?_
      refine r_d rfl rfl rfl (s_pickT rfl rfl rfl) ?_
      refine r_d rfl rfl rfl (s_assign rfl rfl) ?_
      refine r_end ?_
      obtain rfl := Option.some.inj hr
      refine g_ret Tryz.func7 _ (.cons (resTmp rfl (Wk.refl _)) .nil) ?_
      rfl
     ·
      refine r_skip rfl rfl rfl ?_
      refine r_d rfl rfl rfl (s_pickF rfl rfl rfl) ?_
      refine r_d rfl rfl rfl (s_assign rfl rfl) ?_
      refine r_end ?_
      obtain rfl := Option.some.inj hr
      refine g_ret Tryz.func7 _ (.cons (resTmp rfl (Wk.refl _)) .nil) ?_
      rfl
    ·
     refine g_condF rfl ?_
     refine g_skip ?_
     refine g_seq ?_
     refine g_run (by kernel_rfl) [(0, .d), (1, .d), (2, .d), (3, .d), (4, .d), (5, .d), (6, .d), (7, .d), (8, .d), (9, .d), (10, .d)] rfl ?_
     refine r_d rfl rfl rfl (s_move rfl rfl) ?_
     refine r_d rfl rfl rfl (s_cmp rfl rfl rfl rfl) ?_
     refine r_d rfl rfl rfl (s_move rfl rfl) ?_
     refine r_sB 32 rfl hr (fun h32_12 hr => ?_) (fun h32_12 hr => ?_)
     ·
      refine r_d rfl rfl rfl (s_load rfl rfl (by exact ty_api_Memory) (sz_S_api_Memory _)) ?_
      refine r_d rfl rfl rfl (s_load rfl rfl (by exact ty_api_Memory) (sz_S_api_Memory _)) ?_
      obtain ⟨r_14, hr_14, hr⟩ := bindS hr
      refine r_d rfl rfl rfl (s_callD rfl cl_constraintref50_Same (.cons rfl (Wk.refl _) (.cons rfl (Wk.refl _) .nil)) (lg_constraintref50_Same _ _ _ hr_14)) ?_
      refine r_d rfl rfl rfl (s_pickT rfl rfl rfl) ?_
      refine r_d rfl rfl rfl (s_move rfl rfl) ?_
      refine r_sB 37 rfl hr (fun h37_14 hr => ?_) (fun h37_14 hr => ?_)
      ·
       obtain ⟨r_16, hr_16, hr⟩ := bindS hr
       refine r_d rfl rfl rfl (s_callD rfl cl_constraintlaw52_exampleHolds .nil (lg_constraintlaw52_exampleHolds fuel _ hr_16)) ?_
       refine r_d rfl rfl rfl (s_pickT rfl rfl rfl) ?_
       refine r_d rfl rfl rfl (s_assign rfl rfl) ?_
       refine r_end ?_
       obtain rfl := Option.some.inj hr
       refine g_ret Tryz.func7 _ (.cons (resTmp rfl (Wk.refl _)) .nil) ?_
       rfl
      ·
       refine r_skip rfl rfl rfl ?_
       refine r_d rfl rfl rfl (s_pickF rfl rfl rfl) ?_
       refine r_d rfl rfl rfl (s_assign rfl rfl) ?_
       refine r_end ?_
       obtain rfl := Option.some.inj hr
       refine g_ret Tryz.func7 _ (.cons (resTmp rfl (Wk.refl _)) .nil) ?_
       rfl
     ·
      refine r_skip rfl rfl rfl ?_
      refine r_skip rfl rfl rfl ?_
      refine r_skip rfl rfl rfl ?_
      refine r_d rfl rfl rfl (s_pickF rfl rfl rfl) ?_
      refine r_d rfl rfl rfl (s_move rfl rfl) ?_
      refine r_skip rfl rfl rfl ?_
      refine r_d rfl rfl rfl (s_pickF rfl rfl rfl) ?_
      refine r_d rfl rfl rfl (s_assign rfl rfl) ?_
      refine r_end ?_
      obtain rfl := Option.some.inj hr
      refine g_ret Tryz.func7 _ (.cons (resTmp rfl (Wk.refl _)) .nil) ?_
      rfl

end Go.Proofs.YtdoljfkjdfaakaaGreat


namespace Go.Proofs.YtdoljfkjdfaakaaGreat
set_option maxRecDepth 100000
open Go.RowKit

def wA : List At → Nat
  | [] => 0
  | a :: l => 1 + wtL a.ts + wA l
theorem wA_mem {a : At} : ∀ {l : List At}, a ∈ l → wtL a.ts ≤ wA l
  | x :: l, h => by
    simp only [wA]
    rcases List.mem_cons.1 h with rfl | h
    · omega
    · have := wA_mem h
      omega
theorem tdiv8 (s : Nat) : Int.tdiv (s : Int) 8 = ((s / 8 : Nat) : Int) := by
  rw [Int.tdiv_eq_ediv_of_nonneg (by omega)]
  rfl
theorem wr_step (m : Int) (s : Nat) (h1 : 0 ≤ m) (h2 : m ≤ 1000) (hs : s ≤ 9223372036854775807) : wr ((wr (m - 1)) - (wr (Int.tdiv (s : Int) 8))) = m - 1 - ((s / 8 : Nat) : Int) := by
  rw [tdiv8, wr_eq (n := m - 1) (by omega), wr_eq (n := ((s / 8 : Nat) : Int)) (by omega), wr_eq (by omega)]
theorem x_weigh_eq (ts : List T) (m : Int) (h1 : -9223372036854775808 ≤ m) (h2 : m ≤ 1000) : x_weigh ts m 64 = some (weighF 64 ts m) := by
  rw [x_weigh, if_pos ⟨⟨h1, by omega⟩, by omega, by omega⟩]
  rfl
theorem gAtoms_lf (k : Int → Option Bool) : ∀ (l : List At) (m : Int), m ≤ 1000 → (∀ a ∈ l, a.n.size ≤ 9223372036854775807) → ∃ r, lf_constraintref03_GreatAtoms_L0 k l m = k r ∧ (0 ≤ r → (wA l : Int) + r ≤ m)
  | [], m, _, _ => ⟨m, by rw [lf_constraintref03_GreatAtoms_L0], fun _ => by simp [wA]⟩
  | a :: l, m, hm, hn => by
    rw [lf_constraintref03_GreatAtoms_L0]
    by_cases h : m ≥ 0
    · have hs := hn a (List.mem_cons_self ..)
      rw [decide_eq_true h, cond_true, wr_step m _ h hm hs, x_weigh_eq _ _ (by omega) (by omega), Option.bind_some]
      have h1 := weighF_ge 64 a.ts (m - 1 - ((a.n.size / 8 : Nat) : Int))
      have h2 := weigh_wt 64 a.ts (m - 1 - ((a.n.size / 8 : Nat) : Int))
      obtain ⟨r, e1, e2⟩ := gAtoms_lf k l (weighF 64 a.ts (m - 1 - ((a.n.size / 8 : Nat) : Int))) (by omega) fun x hx => hn x (List.mem_cons_of_mem _ hx)
      refine ⟨r, e1, fun hr => ?_⟩
      have := e2 hr
      simp only [wA]
      omega
    · rw [decide_eq_false h, cond_false]
      exact ⟨m, rfl, fun hr => absurd hr h⟩
theorem greatAtoms_lf (l : List At) (m : Int) (hm : m ≤ 1000) (hn : ∀ a ∈ l, a.n.size ≤ 9223372036854775807) : TotP (lf_constraintref03_GreatAtoms l m) fun b => b = false → (wA l : Int) ≤ m := by
  unfold lf_constraintref03_GreatAtoms
  obtain ⟨r, e1, e2⟩ := gAtoms_lf (fun m => some (decide (m < 0))) l m hm hn
  rw [e1]
  refine ⟨_, rfl, fun h => ?_⟩
  have := of_decide_eq_false h
  have := e2 (by omega)
  omega
/-! ### names are strings of the machine -/
theorem reps_in {p : Addr → Prop} {w : World} : ∀ {ds : List D} {cs : List Value}, Reps p w ds cs → ∀ d ∈ ds, ∃ v, Rep p w d v
  | [], _, _, _, h => by cases h
  | x :: ds, cs, h, d, hd => by
    simp only [Reps] at h
    obtain ⟨v, rest, _, h1, h2⟩ := h
    exact (List.mem_cons.1 hd).elim (fun e => e ▸ ⟨v, h1⟩) (reps_in h2 d)
theorem agg_mem {p : Addr → Prop} {w : World} {fs : List D} {v : Value} (h : Rep p w (.agg fs) v) (d : D) (hd : d ∈ fs) : ∃ v, Rep p w d v := by
  simp only [Rep] at h
  obtain ⟨cs, _, h, _⟩ := h
  exact reps_in h d hd
theorem lst_mem {α : Type} {f : α → D} {p : Addr → Prop} {w : World} {l : List α} {v : Value} (h : Rep p w (.lst (l.map f)) v) (a : α) (ha : a ∈ l) : ∃ v, Rep p w (f a) v := by
  simp only [Rep] at h
  obtain ⟨A, c, xs, _, _, _, _, h, _⟩ := h
  exact reps_in h _ (List.mem_map.2 ⟨a, ha, rfl⟩)
theorem str_le {p : Addr → Prop} {w : World} {s : ByteArray} {v : Value} (h : Rep p w (.str s) v) : s.size ≤ 9223372036854775807 := by
  simp only [Rep] at h
  exact h.2
theorem nmA1 {p : Addr → Prop} {w : World} {a : At} {v : Value} (h : Rep p w (encA a) v) : a.n.size ≤ 9223372036854775807 := by
  obtain ⟨v, h⟩ := agg_mem h (.str a.n) (by simp)
  exact str_le h
theorem nmM_of {p : Addr → Prop} {w : World} {m : S_api_Memory} {v : Value} (h : Rep p w (enc_S_api_Memory m) v) : (∀ x ∈ m.f0_Facts, x.f1_Atom.n.size ≤ 9223372036854775807) ∧ ∀ x ∈ m.f1_Past, x.f1_Atom.n.size ≤ 9223372036854775807 := by
  obtain ⟨_, h1⟩ := agg_mem h (.lst (m.f0_Facts.map enc_S_api_Fact)) (by simp)
  obtain ⟨_, h2⟩ := agg_mem h (.lst (m.f1_Past.map enc_S_api_Fact)) (by simp)
  refine ⟨fun x hx => ?_, fun x hx => ?_⟩
  · obtain ⟨_, h3⟩ := lst_mem h1 x hx
    obtain ⟨_, h4⟩ := agg_mem h3 (encA x.f1_Atom) (by simp)
    exact nmA1 h4
  · obtain ⟨_, h3⟩ := lst_mem h2 x hx
    obtain ⟨_, h4⟩ := agg_mem h3 (encA x.f1_Atom) (by simp)
    exact nmA1 h4

/-! ### memories that are few -/
theorem few_L2 (k : Option Bool) {kb : Bool} (hk : k = some kb) : ∀ l : List S_api_Applied, TotP (lf_constraintlaw52_few_L2 k l) fun b => b = true → kb = true
  | [] => ⟨kb, by rw [lf_constraintlaw52_few_L2, hk], id⟩
  | x :: l => by
    rw [lf_constraintlaw52_few_L2]
    exact .cond (fun _ => .pure fun h => by cases h) fun _ => .cond (fun _ => .pure fun h => by cases h) fun _ => .cond (fun _ => .pure fun h => by cases h) fun _ => .cond (fun _ => .pure fun h => by cases h) fun _ => few_L2 k hk l
theorem few_L1 {Q : Prop} (k : List At → Option Bool) : ∀ (l : List S_api_Fact) (acc : List At), acc.length + l.length ≤ 1000 → (TotP (k (acc ++ l.map S_api_Fact.f1_Atom)) fun b => b = true → Q) → TotP (lf_constraintlaw52_few_L1 k l acc) fun b => b = true → Q
  | [], acc, _, h => by
    rw [lf_constraintlaw52_few_L1]
    simpa using h
  | x :: l, acc, hl, h => by
    rw [lf_constraintlaw52_few_L1, appO_eq (by simp only [List.length_cons, List.length_nil] at hl ⊢; omega) (by simp only [List.length_cons, List.length_nil] at hl ⊢; omega), Option.bind_some]
    exact .cond (fun _ => .pure fun h => by cases h) fun _ => few_L1 k l _ (by simp only [List.length_append, List.length_cons, List.length_nil] at hl ⊢; omega) (by simpa using h)
theorem few_L0 {Q : Prop} (k : List At → Option Bool) : ∀ (l : List S_api_Fact) (acc : List At), acc.length + l.length ≤ 1000 → (TotP (k (acc ++ l.map S_api_Fact.f1_Atom)) fun b => b = true → Q) → TotP (lf_constraintlaw52_few_L0 k l acc) fun b => b = true → Q
  | [], acc, _, h => by
    rw [lf_constraintlaw52_few_L0]
    simpa using h
  | x :: l, acc, hl, h => by
    rw [lf_constraintlaw52_few_L0, appO_eq (by simp only [List.length_cons, List.length_nil] at hl ⊢; omega) (by simp only [List.length_cons, List.length_nil] at hl ⊢; omega), Option.bind_some]
    exact .cond (fun _ => .pure fun h => by cases h) fun _ => few_L0 k l _ (by simp only [List.length_append, List.length_cons, List.length_nil] at hl ⊢; omega) (by simpa using h)
theorem few_lf (m : S_api_Memory) (hn : (∀ x ∈ m.f0_Facts, x.f1_Atom.n.size ≤ 9223372036854775807) ∧ ∀ x ∈ m.f1_Past, x.f1_Atom.n.size ≤ 9223372036854775807) : TotP (lf_constraintlaw52_few m) fun b => b = true → (∀ x ∈ m.f0_Facts, wtL x.f1_Atom.ts ≤ 1000000000) ∧ ∀ x ∈ m.f1_Past, wtL x.f1_Atom.ts ≤ 1000000000 := by
  unfold lf_constraintlaw52_few
  refine .cond (fun _ => .pure fun h => by cases h) fun h1 => .cond (fun _ => .pure fun h => by cases h) fun h2 => .cond (fun _ => .pure fun h => by cases h) fun h3 => ?_
  have h1 := of_decide_eq_false h1
  have h2 := of_decide_eq_false h2
  refine few_L0 _ _ _ (by simp only [List.length_nil]; omega) ?_
  rw [List.nil_append]
  refine few_L1 _ _ _ (by simp only [List.length_map]; omega) ?_
  obtain ⟨b, e1, e2⟩ := greatAtoms_lf (m.f0_Facts.map S_api_Fact.f1_Atom ++ m.f1_Past.map S_api_Fact.f1_Atom) 600 (by omega) (fun a ha => by
    rcases List.mem_append.1 ha with ha | ha
    · obtain ⟨x, hx, rfl⟩ := List.mem_map.1 ha
      exact hn.1 x hx
    · obtain ⟨x, hx, rfl⟩ := List.mem_map.1 ha
      exact hn.2 x hx)
  refine (few_L2 _ (kb := !b) (by rw [e1]; rfl) m.f2_Log).mono fun r hr hr1 => ?_
  have hb : b = false := by
    have := hr hr1
    cases b
    · rfl
    · cases this
  have hw := e2 hb
  refine ⟨fun x hx => ?_, fun x hx => ?_⟩
  · have := wA_mem (List.mem_append_left (m.f1_Past.map S_api_Fact.f1_Atom) (List.mem_map_of_mem (f := S_api_Fact.f1_Atom) hx))
    omega
  · have := wA_mem (List.mem_append_right (m.f0_Facts.map S_api_Fact.f1_Atom) (List.mem_map_of_mem (f := S_api_Fact.f1_Atom) hx))
    omega

/-! ### states that are small, of bulk at most 1048576 -/
end Go.Proofs.YtdoljfkjdfaakaaGreat


namespace Go.Proofs.YtdoljfkjdfaakaaGreat
set_option maxRecDepth 100000
open Go.RowKit

theorem at_pre {α : Type} (pre : List α) (q : α) (l : List α) : getI (pre ++ q :: l) (pre.length : Int) = some q := by
  rw [getI_nat]
  simp
theorem lt_pre {α : Type} (pre : List α) (q : α) (l : List α) : decide ((pre.length : Int) < ((pre ++ q :: l).length : Int)) = true := decide_eq_true (by simp only [List.length_append, List.length_cons]; omega)
theorem pre_snoc {α : Type} (pre : List α) (q : α) (l : List α) : pre ++ q :: l = (pre ++ [q]) ++ l := by simp
theorem len_snoc {α : Type} (pre : List α) (q : α) : pre.length + 1 = (pre ++ [q]).length := by simp
theorem eq_self (n : Int) : (n != n) = false := by simp
theorem cmpA_self (a : At) : (cmpA a a == 0) = true := by
  unfold cmpA
  rw [cmpS_eq, show cmpB a.n.toList a.n.toList = 0 by have := neg_B a.n.toList a.n.toList; omega, cmpI_self, cmpL_self]
  rfl
theorem xA_self (a : At) (h : wtL a.ts ≤ 1000000000) : x_sameA a a = some true := by rw [x_sameA_eq _ _ h, cmpA_self]
theorem len_self (n : Nat) : ((n : Int) != (n : Int)) = false := by simp
theorem ints_L (k : Option Bool) : ∀ (l pre : List Int), lf_constraintref03_SameInts_L0 k (pre ++ l) l pre.length = k
  | [], pre => by rw [lf_constraintref03_SameInts_L0]
  | q :: l, pre => by
    rw [lf_constraintref03_SameInts_L0]
    simp only [lt_pre, at_pre, Option.bind_some, eq_self, Bool.not_true, cond_true, cond_false]
    have := ints_L k l (pre ++ [q])
    rw [← pre_snoc, ← len_snoc] at this
    exact this
theorem same50_L (k : Option Bool) : ∀ (l pre : List Int), lf_constraintref50_same_L0 k (pre ++ l) l pre.length = k
  | [], pre => by rw [lf_constraintref50_same_L0]
  | q :: l, pre => by
    rw [lf_constraintref50_same_L0]
    simp only [lt_pre, at_pre, Option.bind_some, eq_self, Bool.not_true, cond_true, cond_false]
    have := same50_L k l (pre ++ [q])
    rw [← pre_snoc, ← len_snoc] at this
    exact this
theorem ints_self (l : List Int) : lf_constraintref03_SameInts l l = some true := by
  unfold lf_constraintref03_SameInts
  rw [len_self, cond_false]
  exact ints_L (some true) l []
theorem same50_self (l : List Int) : lf_constraintref50_same l l = some true := by
  unfold lf_constraintref50_same
  rw [len_self, cond_false]
  exact same50_L (some true) l []
theorem fact_self (x : S_api_Fact) (h : wtL x.f1_Atom.ts ≤ 1000000000) : lf_constraintref49_Same x x = some true := by
  unfold lf_constraintref49_Same
  simp only [beq_self_eq_true, cond_true, xA_self _ h, ints_self, Option.bind_some]
theorem facts_L (k : Option Bool) : ∀ (l pre : List S_api_Fact), (∀ q ∈ l, wtL q.f1_Atom.ts ≤ 1000000000) → lf_constraintref50_sameFacts_L0 k (pre ++ l) l pre.length = k
  | [], pre, _ => by rw [lf_constraintref50_sameFacts_L0]
  | q :: l, pre, h => by
    rw [lf_constraintref50_sameFacts_L0]
    have hq := h q (by simp)
    simp only [lt_pre, at_pre, Option.bind_some, fact_self q hq, Bool.not_true, cond_true, cond_false]
    have := facts_L k l (pre ++ [q]) fun x hx => h x (by simp [hx])
    rw [← pre_snoc, ← len_snoc] at this
    exact this
theorem facts_self (l : List S_api_Fact) (h : ∀ q ∈ l, wtL q.f1_Atom.ts ≤ 1000000000) : lf_constraintref50_sameFacts l l = some true := by
  unfold lf_constraintref50_sameFacts
  rw [len_self, cond_false]
  exact facts_L (some true) l [] h
theorem log_L (k : Option Bool) (m : S_api_Memory) : ∀ (l pre : List S_api_Applied), m.f2_Log = pre ++ l → lf_constraintref50_Same_L0 k m l pre.length = k
  | [], pre, _ => by rw [lf_constraintref50_Same_L0]
  | q :: l, pre, hm => by
    rw [lf_constraintref50_Same_L0, hm]
    have hb : (q.f4_Failed != q.f4_Failed) = false := by simp
    simp only [at_pre, Option.bind_some, eq_self, hb, same50_self, Bool.not_true, cond_false]
    have := log_L k m l (pre ++ [q]) (by rw [hm, pre_snoc])
    rw [← len_snoc] at this
    exact this
theorem memory_self (m : S_api_Memory) (h1 : ∀ q ∈ m.f0_Facts, wtL q.f1_Atom.ts ≤ 1000000000) (h2 : ∀ q ∈ m.f1_Past, wtL q.f1_Atom.ts ≤ 1000000000) : lf_constraintref50_Same m m = some true := by
  unfold lf_constraintref50_Same
  simp only [facts_self _ h1, facts_self _ h2, Option.bind_some, Bool.not_true, cond_false, eq_self, len_self]
  exact log_L (some true) m m.f2_Log [] rfl
end Go.Proofs.YtdoljfkjdfaakaaGreat


namespace Go.Proofs.YtdoljfkjdfaakaaGreat
set_option maxRecDepth 100000
open Go.RowKit

theorem same52_self (l : List Int) : lf_constraintlaw52_same l l = some true := by
  unfold lf_constraintlaw52_same
  simp
theorem take_Memory (fuel : Nat) (b : List Int) : lf_snapshot_TakeMemory fuel b = lf_wholeR_Memory fuel b 3 := by
  unfold lf_snapshot_TakeMemory
  cases lf_wholeR_Memory fuel b 3 <;> rfl
theorem len_ne {e : List Int} (h : e ≠ []) : ((e.length : Int) == 0) = false := by
  rw [beq_eq_false_iff_ne]
  have := List.length_pos_iff.2 h
  omega
theorem memories_lf (m : S_api_Memory) (hn : (∀ x ∈ m.f0_Facts, x.f1_Atom.n.size ≤ 9223372036854775807) ∧ ∀ x ∈ m.f1_Past, x.f1_Atom.n.size ≤ 9223372036854775807) : lf_constraintlaw52_SnapshotMemories 30 m = some true := by
  unfold lf_constraintlaw52_SnapshotMemories
  simp only [ex52, Option.bind_some]
  obtain ⟨b, e1, e2⟩ := few_lf m hn
  rw [e1, Option.bind_some]
  refine cT (fun _ => rfl) fun hb => ?_
  obtain ⟨h1, h2⟩ := e2 (by simpa using hb)
  have hw := wr_Memory (fuel := 30) (by omega) m h1 h2
  simp only [hw, wrR_Memory (fuel := 30) (by omega) m h1 h2, same52_self, take_Memory, Option.bind_some, Bool.not_true, cond_false]
  cases he : eMemory m with
  | none =>
    simp only [Option.getD_none, whole0_Memory, Option.bind_some]
    rfl
  | some e =>
    rw [he] at hw
    have h := (whole_Memory (fuel := 30) (by omega) he hw (len_Memory (fuel := 30) (by omega) m h1 h2 e he)).1
    simp only [Option.getD_some, h, Option.bind_some, len_ne (catO_pos he), cond_false, memory_self m h1 h2]
    rfl
theorem gives_SnapshotMemories (m : S_api_Memory) : Gives Tryz.prog 7 [enc_S_api_Memory m] (.bool true) := fun w q vs hi hv => by
  have hv' := hv
  simp only [Repl] at hv'
  obtain ⟨v, _, _, h, _⟩ := hv'
  exact lg_constraintlaw52_SnapshotMemories 30 m true (memories_lf m (nmM_of h)) w q vs hi hv

/-! ### cuts -/
end Go.Proofs.YtdoljfkjdfaakaaGreat


namespace Go.Proofs.YtdoljfkjdfaakaaGreat
set_option maxRecDepth 100000
open Go.ChangeShapes Go.WideShapes Go.ChangeAt Go.RowKit

theorem op_bool {t : TypeId} (ht : (Tryz.prog).underlying t = some .bool) : Op t 1 fun d => ∃ b, d = .bool b := fun H enc W base sp hd fuel cs x hx => by
  obtain ⟨b, rfl, _⟩ := DataW.trod_bool ht hx
  refine ⟨.bool b, .bool b, ⟨b, rfl⟩, rfl, rfl, ?_, by simp [Value.cells]⟩
  simp only [Rep]

/-! ### terms -/
/-! ### a law's arguments -/
end Go.Proofs.YtdoljfkjdfaakaaGreat


namespace Go.Proofs.YtdoljfkjdfaakaaGreat
set_option maxRecDepth 100000
open Go.ChangeShapes Go.WideShapes Go.ChangeAt Go.RowKit

theorem op_ints52 : Op 121 1 fun d => ∃ l : List Int, d = .lst (l.map (D.int .i64)) := op_list (f := D.int .i64) Tryz.underlying121 cells_int (by omega) (op_i64 Tryz.underlying3)
theorem op_fact : Op 146 4 fun d => ∃ x, d = enc_S_api_Fact x :=
  (op_struct Tryz.underlying146 [fun d => ∃ n, d = .int .i64 n, fun d => ∃ a, d = encA a, fun d => ∃ l : List Int, d = .lst (l.map (D.int .i64))] ⟨op_i64 Tryz.underlying3, op_atom, op_ints52, trivial⟩ (by kernel_rfl) (by kernel_rfl) (by kernel_rfl)).to fun d ⟨ds, hd, h⟩ => by
    match ds, h with
    | [_, _, _], ⟨⟨x0, rfl⟩, ⟨x1, rfl⟩, ⟨x2, rfl⟩, _⟩ => exact ⟨⟨x0, x1, x2⟩, hd⟩
theorem op_facts : Op 52 1 fun d => ∃ l : List S_api_Fact, d = .lst (l.map enc_S_api_Fact) := op_list Tryz.underlying52 (by kernel_rfl) (by omega) op_fact
theorem op_applied : Op 148 6 fun d => ∃ x, d = enc_S_api_Applied x :=
  (op_struct Tryz.underlying148 [fun d => ∃ n, d = .int .i64 n, fun d => ∃ l : List Int, d = .lst (l.map (D.int .i64)), fun d => ∃ l : List Int, d = .lst (l.map (D.int .i64)), fun d => ∃ l : List Int, d = .lst (l.map (D.int .i64)), fun d => ∃ b, d = .bool b, fun d => ∃ l : List Int, d = .lst (l.map (D.int .i64))] ⟨op_i64 Tryz.underlying3, op_ints52, op_ints52, op_ints52, op_bool Tryz.underlying4, op_ints52, trivial⟩ (by kernel_rfl) (by kernel_rfl) (by kernel_rfl)).to fun d ⟨ds, hd, h⟩ => by
    match ds, h with
    | [_, _, _, _, _, _], ⟨⟨x0, rfl⟩, ⟨x1, rfl⟩, ⟨x2, rfl⟩, ⟨x3, rfl⟩, ⟨x4, rfl⟩, ⟨x5, rfl⟩, _⟩ => exact ⟨⟨x0, x1, x2, x3, x4, x5⟩, hd⟩
theorem op_log : Op 53 1 fun d => ∃ l : List S_api_Applied, d = .lst (l.map enc_S_api_Applied) := op_list Tryz.underlying53 (by kernel_rfl) (by omega) op_applied
theorem op_memory : Op 55 5 fun d => ∃ x, d = enc_S_api_Memory x :=
  (op_struct Tryz.underlying55 [fun d => ∃ l : List S_api_Fact, d = .lst (l.map enc_S_api_Fact), fun d => ∃ l : List S_api_Fact, d = .lst (l.map enc_S_api_Fact), fun d => ∃ l : List S_api_Applied, d = .lst (l.map enc_S_api_Applied), fun d => ∃ n, d = .int .i64 n, fun d => ∃ n, d = .int .i64 n] ⟨op_facts, op_facts, op_log, op_i64 Tryz.underlying3, op_i64 Tryz.underlying3, trivial⟩ (by kernel_rfl) (by kernel_rfl) (by kernel_rfl)).to fun d ⟨ds, hd, h⟩ => by
    match ds, h with
    | [_, _, _, _, _], ⟨⟨x0, rfl⟩, ⟨x1, rfl⟩, ⟨x2, rfl⟩, ⟨x3, rfl⟩, ⟨x4, rfl⟩, _⟩ => exact ⟨⟨x0, x1, x2, x3, x4⟩, hd⟩
def aMemory : Arg := ⟨_, _, _, op_memory, (cl_struct Tryz.underlying55).to fun _ ⟨_, h⟩ => ⟨_, h⟩⟩
end Go.Proofs.YtdoljfkjdfaakaaGreat

