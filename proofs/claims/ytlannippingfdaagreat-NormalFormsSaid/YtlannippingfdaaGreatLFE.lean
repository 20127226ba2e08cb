/-
  Texts of the seat, merged.
-/
import Derived.Test.YtlannippingfdaaGreatLFA
import Derived.Test.YtlannippingfdaaGreatLFB
import Derived.Test.YtlannippingfdaaGreatLFC
import Derived.Test.YtlannippingfdaaGreatLFD
import Derived.Test.YtlannippingfdaaGreatChecked
import Derived.WalkKit
import Derived.Lib.Hide
import Derived.Lib.AppendStr
import Derived.Deep.AppendLies
import Derived.Deep.AppendSrc
import Derived.Deep.Draws
import Derived.Deep.QuietTactic
import Derived.BigQuiet
import Derived.Deep.RegionWith
import Derived.Maps.AppendAt
import Derived.WalkSpells
import Derived.Deep.Slices
import Derived.Deep.Fields
import Derived.ChangeArms
import Derived.Orders
import Derived.RangeFuncNested
import Derived.RangeFuncBound
import Derived.RangeFuncCalls
import Derived.RangeFuncLeaves
import Derived.Shelf.Abstract
import Derived.OwnWalkIn
import Derived.TacticsInMore
import Derived.LoopNIn
import Derived.LoopIn
import Derived.Lib.OthersKept
import Derived.Lib.TrimU
import Derived.Lib.IndexAny
import Derived.Deep.LoopGhost
import Derived.Lib.Bytealg
import Derived.RangeFuncBox
import Derived.RangeFuncWrites
import Derived.Maps.OwnIn
import Derived.Maps.Views
import Derived.Laws.OwnMore
import Derived.Maps.OwnSet
import Derived.Test.YtlannippingfdaaGreatRows
import Derived.ProofKit
import Derived.OpenShut
import Derived.Carry
import Derived.OrdersIn
import Derived.Great.BuildSlice
import Derived.ArgAppend
import Derived.Laws.MakeOwn
import Derived.Laws.Cover3
import Derived.Laws.CopyRow
import Derived.MapKept
import Derived.Maps.RangeRun
import Derived.DeepKeys5
import Derived.WideKeyRuns
set_option linter.unusedVariables false
set_option linter.unusedSimpArgs false
set_option linter.unnecessarySimpa false
set_option linter.all false

namespace Go.Proofs.YtlannippingfdaaGreat
set_option maxRecDepth 100000
open Go.RowKit

set_option maxHeartbeats 1000000 in
theorem lg_constraintref17_inHeads (fuel : Nat) (r_a0 : S_api_Rule) (res : (List Int)) (hr : lf_constraintref17_inHeads fuel r_a0 = some res) : Gives Tryz.prog 34 [enc_S_api_Rule r_a0] (.lst (res.map (D.int .i64))) := by
  unfold lf_constraintref17_inHeads at hr
  refine spec_env [(0, enc_S_api_Rule r_a0)] Tryz.func34 rfl rfl fun K hK => ?_
  refine g_seq ?_
  refine g_run (by kernel_rfl) [(0, .d), (1, .w)] rfl ?_
  refine r_d rfl rfl rfl (s_box rfl rfl rfl) ?_
  refine r_w rfl rfl rfl (s_nilOwn 3 1 (.inl rfl)) ?_
  rintro _ _ ⟨u2_0, rfl, rfl⟩
  refine r_end ?_
  refine g_seq ?_
  refine g_run (by kernel_rfl) [(0, .w)] rfl ?_
  refine r_w rfl rfl rfl (s_nilOwn 3 1 (.inl rfl)) ?_
  rintro _ _ ⟨u3_1, rfl, rfl⟩
  refine r_end ?_
  refine g_seq ?_
  refine g_run (by kernel_rfl) [(0, .d), (1, .d), (2, .d)] rfl ?_
  refine r_d rfl rfl rfl (s_load rfl rfl (by exact ty_api_Rule) (sz_S_api_Rule _)) ?_
  obtain ⟨r_3, hr_3, hr⟩ := bindS hr
  refine r_d rfl rfl rfl (s_callD rfl cl_constraintref16_Heads (.cons rfl (Wk.refl _) .nil) (lg_constraintref16_Heads _ _ hr_3)) ?_
  refine r_d rfl rfl rfl (s_assign rfl rfl) ?_
  refine r_end ?_
  refine g_seq ?_
  refine g_seq ?_
  refine g_run (by kernel_rfl) [(0, .d)] rfl ?_
  refine r_d rfl rfl rfl (s_assign rfl rfl) ?_
  refine r_end ?_
  obtain ⟨kk0, hkk0, hr⟩ := exK (fun k => lf_constraintref17_inHeads_L0 k fuel r_3 []) hr
  refine g_len 7 rfl (asl rfl) fun hla0 => ?_
  simp only [List.length_map] at hla0
  refine g_blockJ (fun env σ => ∃ (out_8 : (List Int)) (u_7 : Value), env = [(3, .own u_7 (out_8.map (D.int .i64)))] ∧ σ = [.row u_7 out_8.length 3 1] ∧ kk0 out_8 = some res) ?_ (fun HK0 => ?_)
  ·
   rintro _ _ ⟨out_8, u_7, rfl, rfl, hr⟩
   rw [hkk0] at hr
   refine g_seq ?_
   refine g_run (by kernel_rfl) [(0, .d), (1, .d)] rfl ?_
   refine r_d rfl rfl rfl (s_move rfl rfl) ?_
   refine r_d rfl rfl rfl (s_assign rfl rfl) ?_
   refine r_end ?_
   obtain rfl := Option.some.inj hr
   refine g_ret Tryz.func34 _ (.cons (resTmp rfl (Wk.own _ _)) .nil) ?_
   rfl
  ·
   refine g_sub [(4, .lst (r_3.map encA)), (3, .own u3_1 ([].map (D.int .i64))), (5, .int .i64 ((0 : Nat) : Int))] (Sub.cons' rfl (Sub.cons' rfl (Sub.cons' rfl (Sub.nil _)))) ?_
   refine g_perm [_] _ (pf0 _) ?_
   refine g_loop (fun n env σ => ∃ (out_5 : (List Int)) (i_6 : Nat) (u_4 : Value), (n = r_3.length - i_6) ∧ (env = [(4, .lst (r_3.map encA)), (3, .own u_4 (out_5.map (D.int .i64))), (5, .int .i64 (i_6 : Int))]) ∧ (σ = [.row u_4 out_5.length 3 1]) ∧ (i_6 ≤ r_3.length) ∧ (lf_constraintref17_inHeads_L0 kk0 fuel (r_3.drop i_6) out_5 = some res)) _ ⟨[], 0, u3_1, rfl, rfl, rfl, Nat.zero_le _, hr⟩ ?_
   rintro n _ _ ⟨out_5, i_6, u_4, rfl, rfl, rfl, hi0, hr⟩ IH0
   rcases listStep r_3 i_6 hi0 with ⟨ht0, hd0, he0⟩ | ⟨q_9, ht0, hd0, hq0, hlt0⟩
   ·
    rw [hd0, lf_constraintref17_inHeads_L0] at hr
    refine g_seq ?_
    refine g_seq ?_
    refine g_run (by kernel_rfl) [(0, .d), (1, .d), (2, .d), (3, .d)] rfl ?_
    refine r_d rfl rfl rfl (s_move rfl rfl) ?_
    refine r_d rfl rfl rfl (s_move rfl rfl) ?_
    refine r_d rfl rfl rfl (m_len (f := encA) r_3 rfl el_L_api_Atom rfl (asl rfl)) ?_
    refine r_d rfl rfl rfl (s_cmp rfl rfl rfl rfl) ?_
    refine r_end ?_
    refine g_known 11 false rfl ht0 ?_
    refine g_condF rfl ?_
    refine g_exit rfl ?_
    refine g_sub [(3, .own u_4 (out_5.map (D.int .i64)))] (Sub.cons' rfl (Sub.nil _)) ?_
    exact HK0 _ _ ⟨out_5, u_4, rfl, rfl, hr⟩
   ·
    rw [hd0, lf_constraintref17_inHeads_L0] at hr
    refine g_seq ?_
    refine g_seq ?_
    refine g_run (by kernel_rfl) [(0, .d), (1, .d), (2, .d), (3, .d)] rfl ?_
    refine r_d rfl rfl rfl (s_move rfl rfl) ?_
    refine r_d rfl rfl rfl (s_move rfl rfl) ?_
    refine r_d rfl rfl rfl (m_len (f := encA) r_3 rfl el_L_api_Atom rfl (asl rfl)) ?_
    refine r_d rfl rfl rfl (s_cmp rfl rfl rfl rfl) ?_
    refine r_end ?_
    refine g_known 11 true rfl ht0 ?_
    refine g_condT rfl ?_
    refine g_skip ?_
    refine g_seq ?_
    refine g_block ?_
    refine g_run (by kernel_rfl) [(0, .d), (1, .d), (2, .d), (3, .d), (4, .d), (5, .d), (6, .d), (7, .w), (8, .d)] rfl ?_
    refine r_d rfl rfl rfl (s_move rfl rfl) ?_
    refine r_d rfl rfl rfl (s_move rfl rfl) ?_
    refine r_d rfl rfl rfl (s_move rfl rfl) ?_
    refine r_d rfl rfl rfl (m_index (f := encA) r_3 rfl el_L_api_Atom rfl (asl rfl) rfl hq0 sz_encA rfl) ?_
    refine r_d rfl rfl rfl (s_fieldAddr rfl fl_api_Atom_1 rfl rfl rfl rfl) ?_
    refine r_d rfl rfl rfl (s_load rfl rfl (by exact ty_L_api_Term) rfl) ?_
    obtain ⟨r_10, hr_10, hr⟩ := bindS hr
    refine r_d rfl rfl rfl (s_callD rfl cl_constraintref17_places (.cons rfl (Wk.refl _) .nil) (lg_constraintref17_places fuel _ _ hr_10)) ?_
    obtain ⟨l_11, hl_11, hr⟩ := bindS hr
    refine r_w rfl rfl rfl (m_appOwn (f := (D.int .i64)) out_5 r_10 rfl el_L_int rfl rfl (asl rfl) (pf0 _) rfl (fun _ => rfl) hl_11) ?_
    rintro _ _ ⟨u21_11, rfl, rfl⟩
    refine r_d rfl rfl rfl (s_assign rfl rfl) ?_
    refine r_end ?_
    refine g_inBlock ?_
    refine g_run (by kernel_rfl) [(0, .d), (1, .d), (2, .d)] rfl ?_
    refine r_d rfl rfl rfl (s_move rfl rfl) ?_
    refine r_d rfl rfl rfl (s_ar (r := ((i_6 + 1 : Nat) : Int)) rfl rfl rfl (by simp [iar]) (by omega)) ?_
    refine r_d rfl rfl rfl (s_assign rfl rfl) ?_
    refine r_end ?_
    refine g_sub [(4, .lst (r_3.map encA)), (3, .own u21_11 (l_11.map (D.int .i64))), (5, .int .i64 ((i_6 + 1 : Nat) : Int))] (Sub.cons' rfl (Sub.cons' rfl (Sub.cons' rfl (Sub.nil _)))) ?_
    exact IH0 _ _ _ (by omega) ⟨l_11, (i_6 + 1), u21_11, rfl, rfl, rfl, (by omega), hr⟩

noncomputable def lf_constraintref17_has_L0 (k : Option (Bool)) (n_a1 : Int) : List Int → Option (Bool)
  | [] =>
  k
  | q_2 :: rest =>
  (bif (q_2 == n_a1) then
  some (true)
  else
  (lf_constraintref17_has_L0 k n_a1 rest))
noncomputable def lf_constraintref17_has (l_a0 : (List Int)) (n_a1 : Int) : Option (Bool) :=
  (lf_constraintref17_has_L0 (some (false)) n_a1 l_a0)

set_option maxHeartbeats 1000000 in
theorem lg_constraintref17_has (l_a0 : (List Int)) (n_a1 : Int) (res : Bool) (hr : lf_constraintref17_has l_a0 n_a1 = some res) : Gives Tryz.prog 35 [.lst (l_a0.map (D.int .i64)), .int .i64 n_a1] (.bool res) := by
  unfold lf_constraintref17_has at hr
  refine spec_env [(0, .lst (l_a0.map (D.int .i64))), (1, .int .i64 n_a1)] Tryz.func35 rfl rfl fun K hK => ?_
  refine g_seq ?_
  refine g_run (by kernel_rfl) [(0, .d)] rfl ?_
  refine r_d rfl rfl rfl (s_assign rfl rfl) ?_
  refine r_end ?_
  refine g_seq ?_
  refine g_seq ?_
  refine g_run (by kernel_rfl) [(0, .d)] rfl ?_
  refine r_d rfl rfl rfl (s_assign rfl rfl) ?_
  refine r_end ?_
  obtain ⟨kk0, hkk0, hr⟩ := exK (fun k => lf_constraintref17_has_L0 k n_a1 l_a0) hr
  refine g_len 0 rfl (asl rfl) fun hla0 => ?_
  simp only [List.length_map] at hla0
  refine g_blockJ (fun env σ => env = [] ∧ σ = [] ∧ kk0 = some res) ?_ (fun HK0 => ?_)
  ·
   rintro _ _ ⟨rfl, rfl, hr⟩
   rw [hkk0] at hr
   refine g_seq ?_
   refine g_run (by kernel_rfl) [(0, .d)] rfl ?_
   refine r_d rfl rfl rfl (s_assign rfl rfl) ?_
   refine r_end ?_
   obtain rfl := Option.some.inj hr
   refine g_ret Tryz.func35 _ (.cons (resTmp rfl (Wk.refl _)) .nil) ?_
   rfl
  ·
   refine g_sub [(0, .lst (l_a0.map (D.int .i64))), (1, .int .i64 n_a1), (5, .int .i64 ((0 : Nat) : Int))] (Sub.cons' rfl (Sub.cons' rfl (Sub.cons' rfl (Sub.nil _)))) ?_
   refine g_loop (fun n env σ => ∃ (i_1 : Nat), (n = l_a0.length - i_1) ∧ (env = [(0, .lst (l_a0.map (D.int .i64))), (1, .int .i64 n_a1), (5, .int .i64 (i_1 : Int))]) ∧ (σ = []) ∧ (i_1 ≤ l_a0.length) ∧ (lf_constraintref17_has_L0 kk0 n_a1 (l_a0.drop i_1) = some res)) _ ⟨0, rfl, rfl, rfl, Nat.zero_le _, hr⟩ ?_
   rintro n _ _ ⟨i_1, rfl, rfl, rfl, hi0, hr⟩ IH0
   rcases listStep l_a0 i_1 hi0 with ⟨ht0, hd0, he0⟩ | ⟨q_2, ht0, hd0, hq0, hlt0⟩
   ·
    rw [hd0, lf_constraintref17_has_L0] at hr
    refine g_seq ?_
    refine g_seq ?_
    refine g_run (by kernel_rfl) [(0, .d), (1, .d), (2, .d), (3, .d)] rfl ?_
    refine r_d rfl rfl rfl (s_move rfl rfl) ?_
    refine r_d rfl rfl rfl (s_move rfl rfl) ?_
    refine r_d rfl rfl rfl (m_len (f := (D.int .i64)) l_a0 rfl el_L_int rfl (asl rfl)) ?_
    refine r_d rfl rfl rfl (s_cmp rfl rfl rfl rfl) ?_
    refine r_end ?_
    refine g_known 9 false rfl ht0 ?_
    refine g_condF rfl ?_
    refine g_exit rfl ?_
    refine g_sub [] (Sub.nil _) ?_
    exact HK0 _ _ ⟨rfl, rfl, hr⟩
   ·
    rw [hd0, lf_constraintref17_has_L0] at hr
    refine g_seq ?_
    refine g_seq ?_
    refine g_run (by kernel_rfl) [(0, .d), (1, .d), (2, .d), (3, .d)] rfl ?_
    refine r_d rfl rfl rfl (s_move rfl rfl) ?_
    refine r_d rfl rfl rfl (s_move rfl rfl) ?_
    refine r_d rfl rfl rfl (m_len (f := (D.int .i64)) l_a0 rfl el_L_int rfl (asl rfl)) ?_
    refine r_d rfl rfl rfl (s_cmp rfl rfl rfl rfl) ?_
    refine r_end ?_
    refine g_known 9 true rfl ht0 ?_
    refine g_condT rfl ?_
    refine g_skip ?_
    refine g_seq ?_
    refine g_block ?_
    refine g_seq ?_
    refine g_run (by kernel_rfl) [(0, .d), (1, .d), (2, .d), (3, .d), (4, .d), (5, .d)] rfl ?_
    refine r_d rfl rfl rfl (s_move rfl rfl) ?_
    refine r_d rfl rfl rfl (s_move rfl rfl) ?_
    refine r_d rfl rfl rfl (m_index (f := (D.int .i64)) l_a0 rfl el_L_int rfl (asl rfl) rfl hq0 (fun _ => rfl) rfl) ?_
    refine r_d rfl rfl rfl (s_load rfl rfl (by exact ty_int) rfl) ?_
    refine r_d rfl rfl rfl (s_move rfl rfl) ?_
    refine r_d rfl rfl rfl (s_cmp rfl rfl rfl rfl) ?_
    refine r_end ?_
    refine g_sB 17 rfl hr (fun h17_2 hr => ?_) (fun h17_2 hr => ?_)
    ·
     refine g_condT rfl ?_
     refine g_seq ?_
     refine g_run (by kernel_rfl) [(0, .d)] rfl ?_
     refine r_d rfl rfl rfl (s_assign rfl rfl) ?_
     refine r_end ?_
     obtain rfl := Option.some.inj hr
     refine g_ret Tryz.func35 _ (.cons (resTmp rfl (Wk.refl _)) .nil) ?_
     rfl
    ·
     refine g_condF rfl ?_
     refine g_skip ?_
     refine g_inBlock ?_
     refine g_run (by kernel_rfl) [(0, .d), (1, .d), (2, .d)] rfl ?_
     refine r_d rfl rfl rfl (s_move rfl rfl) ?_
     refine r_d rfl rfl rfl (s_ar (r := ((i_1 + 1 : Nat) : Int)) rfl rfl rfl (by simp [iar]) (by omega)) ?_
     refine r_d rfl rfl rfl (s_assign rfl rfl) ?_
     refine r_end ?_
     refine g_sub [(0, .lst (l_a0.map (D.int .i64))), (1, .int .i64 n_a1), (5, .int .i64 ((i_1 + 1 : Nat) : Int))] (Sub.cons' rfl (Sub.cons' rfl (Sub.cons' rfl (Sub.nil _)))) ?_
     exact IH0 _ _ _ (by omega) ⟨(i_1 + 1), rfl, rfl, rfl, (by omega), hr⟩

noncomputable def lf_constraintref17_IsLinear_L0 (k : Option (Bool)) (r_1 : (List Int)) : List Int → Nat → Option (Bool)
  | [], i_2 =>
  k
  | q_3 :: rest, i_2 =>
  ((subO r_1 0 (i_2 : Int)).bind fun l_4 =>
  ((lf_constraintref17_has l_4 q_3).bind fun r_5 =>
  (bif r_5 then
  some (false)
  else
  (lf_constraintref17_IsLinear_L0 k r_1 rest (i_2 + 1)))))
noncomputable def lf_constraintref17_IsLinear (fuel : Nat) (r_a0 : S_api_Rule) : Option (Bool) :=
  ((lf_constraintref17_inHeads fuel r_a0).bind fun r_1 =>
  (lf_constraintref17_IsLinear_L0 (some (true)) r_1 r_1 0))

set_option maxHeartbeats 1000000 in
theorem lg_constraintref17_IsLinear (fuel : Nat) (r_a0 : S_api_Rule) (res : Bool) (hr : lf_constraintref17_IsLinear fuel r_a0 = some res) : Gives Tryz.prog 11 [enc_S_api_Rule r_a0] (.bool res) := by
  unfold lf_constraintref17_IsLinear at hr
  refine spec_env [(0, enc_S_api_Rule r_a0)] Tryz.func11 rfl rfl fun K hK => ?_
  refine g_seq ?_
  refine g_run (by kernel_rfl) [(0, .d), (1, .d)] rfl ?_
  refine r_d rfl rfl rfl (s_box rfl rfl rfl) ?_
  refine r_d rfl rfl rfl (s_assign rfl rfl) ?_
  refine r_end ?_
  refine g_seq ?_
  refine g_run (by kernel_rfl) [(0, .d), (1, .d), (2, .d)] rfl ?_
  refine r_d rfl rfl rfl (s_load rfl rfl (by exact ty_api_Rule) (sz_S_api_Rule _)) ?_
  obtain ⟨r_1, hr_1, hr⟩ := bindS hr
  refine r_d rfl rfl rfl (s_callD rfl cl_constraintref17_inHeads (.cons rfl (Wk.refl _) .nil) (lg_constraintref17_inHeads fuel _ _ hr_1)) ?_
  refine r_d rfl rfl rfl (s_assign rfl rfl) ?_
  refine r_end ?_
  refine g_seq ?_
  refine g_seq ?_
  refine g_run (by kernel_rfl) [(0, .d)] rfl ?_
  refine r_d rfl rfl rfl (s_assign rfl rfl) ?_
  refine r_end ?_
  obtain ⟨kk0, hkk0, hr⟩ := exK (fun k => lf_constraintref17_IsLinear_L0 k r_1 r_1 0) hr
  refine g_len 6 rfl (asl rfl) fun hla0 => ?_
  simp only [List.length_map] at hla0
  refine g_blockJ (fun env σ => env = [] ∧ σ = [] ∧ kk0 = some res) ?_ (fun HK0 => ?_)
  ·
   rintro _ _ ⟨rfl, rfl, hr⟩
   rw [hkk0] at hr
   refine g_seq ?_
   refine g_run (by kernel_rfl) [(0, .d)] rfl ?_
   refine r_d rfl rfl rfl (s_assign rfl rfl) ?_
   refine r_end ?_
   obtain rfl := Option.some.inj hr
   refine g_ret Tryz.func11 _ (.cons (resTmp rfl (Wk.refl _)) .nil) ?_
   rfl
  ·
   refine g_sub [(3, .lst (r_1.map (D.int .i64))), (4, .int .i64 ((0 : Nat) : Int))] (Sub.cons' rfl (Sub.cons' rfl (Sub.nil _))) ?_
   refine g_loop (fun n env σ => ∃ (i_2 : Nat), (n = r_1.length - i_2) ∧ (env = [(3, .lst (r_1.map (D.int .i64))), (4, .int .i64 (i_2 : Int))]) ∧ (σ = []) ∧ (i_2 ≤ r_1.length) ∧ (lf_constraintref17_IsLinear_L0 kk0 r_1 (r_1.drop i_2) i_2 = some res)) _ ⟨0, rfl, rfl, rfl, Nat.zero_le _, hr⟩ ?_
   rintro n _ _ ⟨i_2, rfl, rfl, rfl, hi0, hr⟩ IH0
   rcases listStep r_1 i_2 hi0 with ⟨ht0, hd0, he0⟩ | ⟨q_3, ht0, hd0, hq0, hlt0⟩
   ·
    rw [hd0, lf_constraintref17_IsLinear_L0] at hr
    refine g_seq ?_
    refine g_seq ?_
    refine g_run (by kernel_rfl) [(0, .d), (1, .d), (2, .d), (3, .d)] rfl ?_
    refine r_d rfl rfl rfl (s_move rfl rfl) ?_
    refine r_d rfl rfl rfl (s_move rfl rfl) ?_
    refine r_d rfl rfl rfl (m_len (f := (D.int .i64)) r_1 rfl el_L_int rfl (asl rfl)) ?_
    refine r_d rfl rfl rfl (s_cmp rfl rfl rfl rfl) ?_
    refine r_end ?_
    refine g_known 10 false rfl ht0 ?_
    refine g_condF rfl ?_
    refine g_exit rfl ?_
    refine g_sub [] (Sub.nil _) ?_
    exact HK0 _ _ ⟨rfl, rfl, hr⟩
   ·
    rw [hd0, lf_constraintref17_IsLinear_L0] at hr
    refine g_seq ?_
    refine g_seq ?_
    refine g_run (by kernel_rfl) [(0, .d), (1, .d), (2, .d), (3, .d)] rfl ?_
    refine r_d rfl rfl rfl (s_move rfl rfl) ?_
    refine r_d rfl rfl rfl (s_move rfl rfl) ?_
    refine r_d rfl rfl rfl (m_len (f := (D.int .i64)) r_1 rfl el_L_int rfl (asl rfl)) ?_
    refine r_d rfl rfl rfl (s_cmp rfl rfl rfl rfl) ?_
    refine r_end ?_
    refine g_known 10 true rfl ht0 ?_
    refine g_condT rfl ?_
    refine g_skip ?_
    refine g_seq ?_
    refine g_block ?_
    refine g_seq ?_
    refine g_any (by kernel_rfl) (by kernel_rfl) [(0, .d), (1, .d), (2, .d), (3, .d), (4, .d), (5, .d), (6, .d), (7, .d)] (by kernel_rfl) ?_
    refine r_d rfl rfl rfl (s_move rfl rfl) ?_
    refine r_d rfl rfl rfl (s_move rfl rfl) ?_
    obtain ⟨l_4, hl_4, hr⟩ := bindS hr
    refine r_d rfl rfl rfl (m_sub (f := (D.int .i64)) r_1 0 (i_2 : Int) rfl el_L_int rfl (asl rfl) bl_none (bh_some rfl) (fun _ => rfl) hl_4) ?_
    refine r_d rfl rfl rfl (s_move rfl rfl) ?_
    refine r_d rfl rfl rfl (s_move rfl rfl) ?_
    refine r_d rfl rfl rfl (m_index (f := (D.int .i64)) r_1 rfl el_L_int rfl (asl rfl) rfl hq0 (fun _ => rfl) rfl) ?_
    refine r_d rfl rfl rfl (s_load rfl rfl (by exact ty_int) rfl) ?_
    obtain ⟨r_5, hr_5, hr⟩ := bindS hr
    refine r_d rfl rfl rfl (s_callD rfl cl_constraintref17_has (.cons rfl (Wk.refl _) (.cons rfl (Wk.refl _) .nil)) (lg_constraintref17_has _ _ _ hr_5)) ?_
    refine r_end ?_
    refine g_sB 20 rfl hr (fun h20_5 hr => ?_) (fun h20_5 hr => ?_)
    ·
     refine g_condT rfl ?_
     refine g_seq ?_
     refine g_run (by kernel_rfl) [(0, .d)] rfl ?_
     refine r_d rfl rfl rfl (s_assign rfl rfl) ?_
     refine r_end ?_
     obtain rfl := Option.some.inj hr
     refine g_ret Tryz.func11 _ (.cons (resTmp rfl (Wk.refl _)) .nil) ?_
     rfl
    ·
     refine g_condF rfl ?_
     refine g_skip ?_
     refine g_inBlock ?_
     refine g_run (by kernel_rfl) [(0, .d), (1, .d), (2, .d)] rfl ?_
     refine r_d rfl rfl rfl (s_move rfl rfl) ?_
     refine r_d rfl rfl rfl (s_ar (r := ((i_2 + 1 : Nat) : Int)) rfl rfl rfl (by simp [iar]) (by omega)) ?_
     refine r_d rfl rfl rfl (s_assign rfl rfl) ?_
     refine r_end ?_
     refine g_sub [(3, .lst (r_1.map (D.int .i64))), (4, .int .i64 ((i_2 + 1 : Nat) : Int))] (Sub.cons' rfl (Sub.cons' rfl (Sub.nil _))) ?_
     exact IH0 _ _ _ (by omega) ⟨(i_2 + 1), rfl, rfl, rfl, (by omega), hr⟩

noncomputable def lf_constraintref17_numbered (fuel : Nat) (r_a0 : S_api_Rule) : Option (Bool) :=
  ((lf_constraintref14_Number fuel r_a0).bind fun r_1 =>
  ((lf_constraintref14_SameRule r_1 r_a0).bind fun r_2 =>
  some (r_2)))

set_option maxHeartbeats 1000000 in
theorem lg_constraintref17_numbered (fuel : Nat) (r_a0 : S_api_Rule) (res : Bool) (hr : lf_constraintref17_numbered fuel r_a0 = some res) : Gives Tryz.prog 30 [enc_S_api_Rule r_a0] (.bool res) := by
  unfold lf_constraintref17_numbered at hr
  refine spec_env [(0, enc_S_api_Rule r_a0)] Tryz.func30 rfl rfl fun K hK => ?_
  refine g_seq ?_
  refine g_run (by kernel_rfl) [(0, .d), (1, .d)] rfl ?_
  refine r_d rfl rfl rfl (s_box rfl rfl rfl) ?_
  refine r_d rfl rfl rfl (s_assign rfl rfl) ?_
  refine r_end ?_
  refine g_seq ?_
  refine g_any (by kernel_rfl) (by kernel_rfl) [(0, .d), (1, .d), (2, .d), (3, .d), (4, .d)] (by kernel_rfl) ?_
  refine r_d rfl rfl rfl (s_load rfl rfl (by exact ty_api_Rule) (sz_S_api_Rule _)) ?_
  obtain ⟨r_1, hr_1, hr⟩ := bindS hr
  refine r_d rfl rfl rfl (s_callD rfl cl_constraintref14_Number (.cons rfl (Wk.refl _) .nil) (lg_constraintref14_Number fuel _ _ hr_1)) ?_
  refine r_d rfl rfl rfl (s_load rfl rfl (by exact ty_api_Rule) (sz_S_api_Rule _)) ?_
  obtain ⟨r_2, hr_2, hr⟩ := bindS hr
  refine r_d rfl rfl rfl (s_callD rfl cl_constraintref14_SameRule (.cons rfl (Wk.refl _) (.cons rfl (Wk.refl _) .nil)) (lg_constraintref14_SameRule _ _ _ hr_2)) ?_
  refine r_d rfl rfl rfl (s_assign rfl rfl) ?_
  refine r_end ?_
  obtain rfl := Option.some.inj hr
  refine g_ret Tryz.func30 _ (.cons (resTmp rfl (Wk.refl _)) .nil) ?_
  rfl

noncomputable def lf_constraintref03_Var (n_a0 : Int) : Option (T) :=
  some ((T.mk 1 n_a0 ⟨#[]⟩ []))

set_option maxHeartbeats 1000000 in
theorem lg_constraintref03_Var (n_a0 : Int) (res : T) (hr : lf_constraintref03_Var n_a0 = some res) : Gives Tryz.prog 21 [.int .i64 n_a0] (encT res) := by
  unfold lf_constraintref03_Var at hr
  refine spec_env [(0, .int .i64 n_a0)] Tryz.func21 rfl rfl fun K hK => ?_
  refine g_seq ?_
  refine g_run (by kernel_rfl) [(0, .w)] rfl ?_
  refine r_w rfl rfl rfl (s_alloc rfl zv_api_Term) ?_
  rintro _ _ ⟨b2_0, rfl, rfl⟩
  refine r_end ?_
  refine g_seq ?_
  refine g_run (by kernel_rfl) [(0, .d), (1, .d), (2, .w)] rfl ?_
  refine r_d rfl rfl rfl (s_move rfl rfl) ?_
  refine r_d rfl rfl rfl (s_build rfl bt_api_Term (.cons rfl (Wk.refl _) (.cons rfl (Wk.refl _) .nil)) (.cons rfl rfl rfl (.cons rfl rfl rfl (.nil _)))) ?_
  refine r_w01 rfl rfl rfl (t_store0 _ rfl rfl rfl (Wk.refl _) (pf0 _) (by exact ty_api_Term) rfl rfl rfl) ?_
  refine r_end ?_
  obtain rfl := Option.some.inj hr
  refine g_ret Tryz.func21 _ (.cons (resRef rfl (.head _) (by exact ty_api_Term) rfl (Wk.refl _)) .nil) ?_
  first | rfl | (show _ = D.agg (fsT _); rw [fsT_eq] <;> rfl) | simp [packD, encT, fsT_eq, T.k, T.i, T.s, T.ar]

noncomputable def lf_Pconstraintref17_linear_terms_s1_L0 (k : ((List T)) → ((List Int)) → (Int) → ((List Gl)) → Option ((List T) × (List Int) × Int × (List Gl))) (rec : (List T) → (List Int) → Int → (List Gl) → Option ((List T) × (List Int) × Int × (List Gl))) : List T → (List T) → (List Int) → Int → (List Gl) → Option ((List T) × (List Int) × Int × (List Gl))
  | [], out_6, x_8, x_9, x_10 =>
  (k out_6 x_8 x_9 x_10)
  | q_18 :: rest, out_6, x_8, x_9, x_10 =>
  (bif (q_18.k == (2 : Int)) then
  ((rec q_18.ar x_8 x_9 x_10).bind fun r_21 =>
  (bif (q_18.k == (1 : Int)) then
  ((lf_constraintref17_has r_21.2.1 q_18.i).bind fun r_25 =>
  (bif r_25 then
  ((lf_constraintref03_Var r_21.2.2.1).bind fun r_27 =>
  ((lf_constraintref03_Var q_18.i).bind fun r_28 =>
  ((appO 48 r_21.2.2.2 [(⟨5, ⟨#[]⟩, [r_27, r_28]⟩ : Gl)]).bind fun l_29 =>
  (bif (r_27.k == (1 : Int)) then
  ((appO 8 r_21.2.1 [r_27.i]).bind fun l_32 =>
  ((appO 56 out_6 [(T.mk r_27.k r_27.i r_27.s r_27.ar)]).bind fun l_34 =>
  (lf_Pconstraintref17_linear_terms_s1_L0 k rec rest l_34 l_32 (wr (r_21.2.2.1 + (1 : Int))) l_29)))
  else
  ((appO 56 out_6 [(T.mk r_27.k r_27.i r_27.s r_27.ar)]).bind fun l_36 =>
  (lf_Pconstraintref17_linear_terms_s1_L0 k rec rest l_36 r_21.2.1 (wr (r_21.2.2.1 + (1 : Int))) l_29))))))
  else
  ((appO 8 r_21.2.1 [q_18.i]).bind fun l_38 =>
  ((appO 56 out_6 [(T.mk q_18.k q_18.i q_18.s r_21.1)]).bind fun l_40 =>
  (lf_Pconstraintref17_linear_terms_s1_L0 k rec rest l_40 l_38 r_21.2.2.1 r_21.2.2.2)))))
  else
  ((appO 56 out_6 [(T.mk q_18.k q_18.i q_18.s r_21.1)]).bind fun l_42 =>
  (lf_Pconstraintref17_linear_terms_s1_L0 k rec rest l_42 r_21.2.1 r_21.2.2.1 r_21.2.2.2))))
  else
  (bif (q_18.k == (1 : Int)) then
  ((lf_constraintref17_has x_8 q_18.i).bind fun r_45 =>
  (bif r_45 then
  ((lf_constraintref03_Var x_9).bind fun r_47 =>
  ((lf_constraintref03_Var q_18.i).bind fun r_48 =>
  ((appO 48 x_10 [(⟨5, ⟨#[]⟩, [r_47, r_48]⟩ : Gl)]).bind fun l_49 =>
  (bif (r_47.k == (1 : Int)) then
  ((appO 8 x_8 [r_47.i]).bind fun l_52 =>
  ((appO 56 out_6 [(T.mk r_47.k r_47.i r_47.s r_47.ar)]).bind fun l_54 =>
  (lf_Pconstraintref17_linear_terms_s1_L0 k rec rest l_54 l_52 (wr (x_9 + (1 : Int))) l_49)))
  else
  ((appO 56 out_6 [(T.mk r_47.k r_47.i r_47.s r_47.ar)]).bind fun l_56 =>
  (lf_Pconstraintref17_linear_terms_s1_L0 k rec rest l_56 x_8 (wr (x_9 + (1 : Int))) l_49))))))
  else
  ((appO 8 x_8 [q_18.i]).bind fun l_58 =>
  ((appO 56 out_6 [(T.mk q_18.k q_18.i q_18.s q_18.ar)]).bind fun l_60 =>
  (lf_Pconstraintref17_linear_terms_s1_L0 k rec rest l_60 l_58 x_9 x_10)))))
  else
  ((appO 56 out_6 [(T.mk q_18.k q_18.i q_18.s q_18.ar)]).bind fun l_62 =>
  (lf_Pconstraintref17_linear_terms_s1_L0 k rec rest l_62 x_8 x_9 x_10))))
noncomputable def lf_Pconstraintref17_linear_terms_s1 : Nat → (List T) → (List Int) → Int → (List Gl) → Option ((List T) × (List Int) × Int × (List Gl))
  | 0, _, _, _, _ => none
  | fuel + 1, l_a1, c_0_0, c_0_1, c_0_2 =>
    (fun (rec : (List T) → (List Int) → Int → (List Gl) → Option ((List T) × (List Int) × Int × (List Gl))) =>
      (lf_Pconstraintref17_linear_terms_s1_L0 (fun out_12 x_15 x_16 x_17 =>
      some (out_12, x_15, x_16, x_17)) rec l_a1 [] c_0_0 c_0_1 c_0_2)) (lf_Pconstraintref17_linear_terms_s1 fuel)

set_option maxHeartbeats 1000000 in
theorem lgs_Pconstraintref17_linear_terms_s1 (fuel : Nat) (rec : (List T) → (List Int) → Int → (List Gl) → Option ((List T) × (List Int) × Int × (List Gl))) (IHR : ∀ (l_a1 : (List T)) (c_0_0 : (List Int)) (c_0_1 : Int) (c_0_2 : (List Gl)) (b_o0 : Nat) (u_o1 : Value) (u_o2 : Value) (res : (List T) × (List Int) × Int × (List Gl)), rec l_a1 c_0_0 c_0_1 c_0_2 = some res → Spec Tryz.prog 58 [.ref b_o0 0 [], .lst (l_a1.map encT)] [.cell b_o0 (.agg [.own u_o1 (c_0_0.map (D.int .i64)), .int .i64 c_0_1, .own u_o2 (c_0_2.map encG)]), .row u_o1 c_0_0.length 3 1, .row u_o2 c_0_2.length 40 3] (fun d σ => ∃ (u_o1' : Value) (u_o2' : Value), d = .lst (res.1.map encT) ∧ σ = [.cell b_o0 (.agg [.own u_o1' (res.2.1.map (D.int .i64)), .int .i64 res.2.2.1, .own u_o2' (res.2.2.2.map encG)]), .row u_o1' res.2.1.length 3 1, .row u_o2' res.2.2.2.length 40 3])) (l_a1 : (List T)) (c_0_0 : (List Int)) (c_0_1 : Int) (c_0_2 : (List Gl)) (b_o0 : Nat) (u_o1 : Value) (u_o2 : Value) (res : (List T) × (List Int) × Int × (List Gl))
    (hr : (lf_Pconstraintref17_linear_terms_s1_L0 (fun out_12 x_15 x_16 x_17 =>
some (out_12, x_15, x_16, x_17)) rec l_a1 [] c_0_0 c_0_1 c_0_2) = some res) : Spec Tryz.prog 58 [.ref b_o0 0 [], .lst (l_a1.map encT)] [.cell b_o0 (.agg [.own u_o1 (c_0_0.map (D.int .i64)), .int .i64 c_0_1, .own u_o2 (c_0_2.map encG)]), .row u_o1 c_0_0.length 3 1, .row u_o2 c_0_2.length 40 3] (fun d σ => ∃ (u_o1' : Value) (u_o2' : Value), d = .lst (res.1.map encT) ∧ σ = [.cell b_o0 (.agg [.own u_o1' (res.2.1.map (D.int .i64)), .int .i64 res.2.2.1, .own u_o2' (res.2.2.2.map encG)]), .row u_o1' res.2.1.length 3 1, .row u_o2' res.2.2.2.length 40 3]) := by
  refine spec_env [(0, .ref b_o0 0 []), (1, .lst (l_a1.map encT))] Tryz.func58 rfl rfl fun K hK => ?_
  refine g_seq ?_
  refine g_run (by kernel_rfl) [(0, .w)] rfl ?_
  refine r_w rfl rfl rfl (s_nilOwn 42 4 (.inl rfl)) ?_
  rintro _ _ ⟨u4_0, rfl, rfl⟩
  refine r_end ?_
  refine g_seq ?_
  refine g_run (by kernel_rfl) [(0, .w)] rfl ?_
  refine r_w rfl rfl rfl (s_nilOwn 42 4 (.inl rfl)) ?_
  rintro _ _ ⟨u5_1, rfl, rfl⟩
  refine r_end ?_
  refine g_seq ?_
  refine g_seq ?_
  refine g_run (by kernel_rfl) [(0, .d)] rfl ?_
  refine r_d rfl rfl rfl (s_assign rfl rfl) ?_
  refine r_end ?_
  obtain ⟨kk0, hkk0, hr⟩ := exK (fun k => lf_Pconstraintref17_linear_terms_s1_L0 k rec l_a1 [] c_0_0 c_0_1 c_0_2) hr
  refine g_len 1 rfl (asl rfl) fun hla0 => ?_
  simp only [List.length_map] at hla0
  refine g_blockJ (fun env σ => ∃ (out_12 : (List T)) (x_15 : (List Int)) (x_16 : Int) (x_17 : (List Gl)) (u_11 : Value) (u_13 : Value) (u_14 : Value), env = [(5, .own u_11 (out_12.map encT))] ∧ σ = [.row u_11 out_12.length 42 4, .cell b_o0 (.agg [.own u_13 (x_15.map (D.int .i64)), .int .i64 x_16, .own u_14 (x_17.map encG)]), .row u_13 x_15.length 3 1, .row u_14 x_17.length 40 3] ∧ kk0 out_12 x_15 x_16 x_17 = some res) ?_ (fun HK0 => ?_)
  ·
   rintro _ _ ⟨out_12, x_15, x_16, x_17, u_11, u_13, u_14, rfl, rfl, hr⟩
   rw [hkk0] at hr
   refine g_seq ?_
   refine g_run (by kernel_rfl) [(0, .d), (1, .d)] rfl ?_
   refine r_d rfl rfl rfl (s_move rfl rfl) ?_
   refine r_d rfl rfl rfl (s_assign rfl rfl) ?_
   refine r_end ?_
   refine g_perm [_, _, _] _ (((pf3 _ _ _ _ _).trans (pf3 _ _ _ _ _)).trans (pf3 _ _ _ _ _)) ?_
   obtain rfl := Option.some.inj hr
   refine g_ret Tryz.func58 _ (.cons (resTmp rfl (Wk.own _ _)) .nil) ?_
   exact ⟨u_13, u_14, rfl, rfl⟩
  ·
   refine g_sub [(0, .ref b_o0 0 []), (1, .lst (l_a1.map encT)), (5, .own u5_1 ([].map encT)), (6, .int .i64 ((0 : Nat) : Int))] (Sub.cons' rfl (Sub.cons' rfl (Sub.cons' rfl (Sub.cons' rfl (Sub.nil _))))) ?_
   refine g_perm [_, _, _, _] _ ((((pf0 _).trans (pf4 _ _ _ _ _ _)).trans (pf4 _ _ _ _ _ _)).trans (pf4 _ _ _ _ _ _)) ?_
   refine g_loop (fun n env σ => ∃ (out_6 : (List T)) (i_7 : Nat) (x_8 : (List Int)) (x_9 : Int) (x_10 : (List Gl)) (u_3 : Value) (u_4 : Value) (u_5 : Value), (n = l_a1.length - i_7) ∧ (env = [(0, .ref b_o0 0 []), (1, .lst (l_a1.map encT)), (5, .own u_5 (out_6.map encT)), (6, .int .i64 (i_7 : Int))]) ∧ (σ = [.cell b_o0 (.agg [.own u_3 (x_8.map (D.int .i64)), .int .i64 x_9, .own u_4 (x_10.map encG)]), .row u_3 x_8.length 3 1, .row u_4 x_10.length 40 3, .row u_5 out_6.length 42 4]) ∧ (i_7 ≤ l_a1.length) ∧ (lf_Pconstraintref17_linear_terms_s1_L0 kk0 rec (l_a1.drop i_7) out_6 x_8 x_9 x_10 = some res)) _ ⟨[], 0, c_0_0, c_0_1, c_0_2, u_o1, u_o2, u5_1, rfl, rfl, rfl, Nat.zero_le _, hr⟩ ?_
   rintro n _ _ ⟨out_6, i_7, x_8, x_9, x_10, u_3, u_4, u_5, rfl, rfl, rfl, hi0, hr⟩ IH0
   rcases listStep l_a1 i_7 hi0 with ⟨ht0, hd0, he0⟩ | ⟨q_18, ht0, hd0, hq0, hlt0⟩
   ·
    rw [hd0, lf_Pconstraintref17_linear_terms_s1_L0] at hr
    refine g_seq ?_
    refine g_seq ?_
    refine g_run (by kernel_rfl) [(0, .d), (1, .d), (2, .d), (3, .d)] rfl ?_
    refine r_d rfl rfl rfl (s_move rfl rfl) ?_
    refine r_d rfl rfl rfl (s_move rfl rfl) ?_
    refine r_d rfl rfl rfl (m_len (f := encT) l_a1 rfl el_L_api_Term rfl (asl rfl)) ?_
    refine r_d rfl rfl rfl (s_cmp rfl rfl rfl rfl) ?_
    refine r_end ?_
    refine g_known 11 false rfl ht0 ?_
    refine g_condF rfl ?_
    refine g_exit rfl ?_
    refine g_sub [(5, .own u_5 (out_6.map encT))] (Sub.cons' rfl (Sub.nil _)) ?_
    refine g_perm [_, _, _, _] _ ((((pf2 _ _ _ _).trans (pf2 _ _ _ _)).trans (pf2 _ _ _ _)).trans (pf3 _ _ _ _ _)) ?_
    exact HK0 _ _ ⟨out_6, x_8, x_9, x_10, u_5, u_3, u_4, rfl, rfl, hr⟩
   ·
    rw [hd0, lf_Pconstraintref17_linear_terms_s1_L0] at hr
    refine g_seq ?_
    refine g_seq ?_
    refine g_run (by kernel_rfl) [(0, .d), (1, .d), (2, .d), (3, .d)] rfl ?_
    refine r_d rfl rfl rfl (s_move rfl rfl) ?_
    refine r_d rfl rfl rfl (s_move rfl rfl) ?_
    refine r_d rfl rfl rfl (m_len (f := encT) l_a1 rfl el_L_api_Term rfl (asl rfl)) ?_
    refine r_d rfl rfl rfl (s_cmp rfl rfl rfl rfl) ?_
    refine r_end ?_
    refine g_known 11 true rfl ht0 ?_
    refine g_condT rfl ?_
    refine g_skip ?_
    refine g_seq ?_
    refine g_block ?_
    refine g_seq ?_
    refine g_run (by kernel_rfl) [(0, .d), (1, .d), (2, .d), (3, .d), (4, .w), (5, .w)] rfl ?_
    refine r_d rfl rfl rfl (s_move rfl rfl) ?_
    refine r_d rfl rfl rfl (s_move rfl rfl) ?_
    refine r_d rfl rfl rfl (m_index (f := encT) l_a1 rfl el_L_api_Term rfl (asl rfl) rfl hq0 sz_encT rfl) ?_
    refine r_d rfl rfl rfl (s_load rfl rfl (by exact ty_api_Term) (sz_encT _)) ?_
    refine r_w rfl rfl rfl (s_alloc rfl zv_api_Term) ?_
    rintro _ _ ⟨b7_18, rfl, rfl⟩
    refine r_w01 rfl rfl rfl (t_store0 _ rfl rfl rfl (Wk.refl _) (pf0 _) (by exact ty_api_Term) (sz_encT _) rfl rfl) ?_
    refine r_st [.cell b7_18 (.agg [.int .i64 q_18.k, .int .i64 q_18.i, .str q_18.s, .lst (q_18.ar.map encT)]), .cell b_o0 (.agg [.own u_3 (x_8.map (D.int .i64)), .int .i64 x_9, .own u_4 (x_10.map encG)]), .row u_3 x_8.length 3 1, .row u_4 x_10.length 40 3, .row u_5 out_6.length 42 4] (by first | (simp only [encT, fsT_eq]; done) | (simp only [encT, fsT_eq]; rfl)) ?_
    refine r_end ?_
    refine g_seq ?_
    refine g_seq ?_
    refine g_run (by kernel_rfl) [(0, .d), (1, .r), (2, .d)] rfl ?_
    refine r_d rfl rfl rfl (s_fieldRef rfl fl_api_Term_0 rfl) ?_
    refine r_r rfl rfl rfl (t_loadRef rfl rfl (.head _) rfl rfl (by exact ty_int) rfl) ?_
    refine r_d rfl rfl rfl (s_cmp rfl rfl rfl rfl) ?_
    refine r_end ?_
    refine g_sB 20 rfl hr (fun h20_19 hr => ?_) (fun h20_19 hr => ?_)
    ·
     refine g_condT rfl ?_
     refine g_run (by kernel_rfl) [(0, .d), (1, .d), (2, .r), (3, .w), (4, .d), (5, .w)] rfl ?_
     refine r_d rfl rfl rfl (s_move rfl rfl) ?_
     refine r_d rfl rfl rfl (s_fieldRef rfl fl_api_Term_3 rfl) ?_
     refine r_r rfl rfl rfl (t_loadRef rfl rfl (.head _) rfl rfl (by exact ty_L_api_Term) rfl) ?_
     obtain ⟨r_21, hr_21, hr⟩ := bindS hr
     refine r_w rfl rfl rfl (s_call _ rfl cl_Pconstraintref17_linear_terms (.cons rfl (Wk.refl _) (.cons rfl (Wk.refl _) .nil)) (by exact (((pf3 _ _ _ _ _).trans (pf3 _ _ _ _ _)).trans (pf3 _ _ _ _ _))) (IHR _ _ _ _ _ _ _ _ hr_21)) ?_
     rintro _ _ ⟨_, ⟨u24_21, u24_22, rfl, rfl⟩, rfl⟩
     refine r_st ((.cell b_o0 (.agg [.own u24_21 (r_21.2.1.map (D.int .i64)), .int .i64 r_21.2.2.1, .own u24_22 (r_21.2.2.2.map encG)])) :: (.row u24_21 r_21.2.1.length 3 1) :: (.row u24_22 r_21.2.2.2.length 40 3) :: _) rfl ?_
     refine r_d rfl rfl rfl (s_fieldRef rfl fl_api_Term_3 rfl) ?_
     refine r_w01 rfl rfl rfl (t_store _ rfl rfl rfl (Wk.refl _) (pf3 _ _ _ _ _) rfl rfl (by exact ty_L_api_Term) rfl rfl rfl) ?_
     refine r_end ?_
     refine g_seq ?_
     refine g_seq ?_
     refine g_any (by kernel_rfl) (by kernel_rfl) [(0, .d), (1, .r), (2, .d), (3, .d), (4, .d), (5, .d), (6, .d), (7, .r), (8, .d), (9, .r), (10, .d), (11, .d)] (by kernel_rfl) ?_
     refine r_d rfl rfl rfl (s_fieldRef rfl fl_api_Term_0 rfl) ?_
     refine r_r rfl rfl rfl (t_loadRef rfl rfl (.head _) rfl rfl (by exact ty_int) rfl) ?_
     refine r_d rfl rfl rfl (s_cmp rfl rfl rfl rfl) ?_
     refine r_d rfl rfl rfl (s_move rfl rfl) ?_
     refine r_sB 29 rfl hr (fun h29_23 hr => ?_) (fun h29_23 hr => ?_)
     ·
      refine r_d rfl rfl rfl (s_move rfl rfl) ?_
      refine r_d rfl rfl rfl (s_nilCheckR rfl rfl) ?_
      refine r_d rfl rfl rfl (s_fieldRef rfl fl_constraintref17_linear_0 rfl) ?_
      refine r_r rfl rfl rfl (t_loadRef rfl rfl (.tail _ (.head _)) rfl rfl (by exact ty_L_int) rfl) ?_
      refine r_d rfl rfl rfl (s_fieldRef rfl fl_api_Term_1 rfl) ?_
      refine r_r rfl rfl rfl (t_loadRef rfl rfl (.head _) rfl rfl (by exact ty_int) rfl) ?_
      obtain ⟨r_25, hr_25, hr⟩ := bindS hr
      refine r_d rfl rfl rfl (s_callD rfl cl_constraintref17_has (.cons rfl (Wk.own _ _) (.cons rfl (Wk.refl _) .nil)) (lg_constraintref17_has _ _ _ hr_25)) ?_
      refine r_d rfl rfl rfl (s_pickT rfl rfl rfl) ?_
      refine r_end ?_
      refine g_sB 37 rfl hr (fun h37_25 hr => ?_) (fun h37_25 hr => ?_)
      ·
       refine g_condT rfl ?_
       refine g_seq ?_
       refine g_any (by kernel_rfl) (by kernel_rfl) [(0, .d), (1, .d), (2, .d), (3, .d), (4, .r), (5, .d), (6, .d), (7, .d), (8, .r), (9, .d), (10, .d), (11, .r), (12, .d), (13, .d), (14, .d), (15, .d), (16, .w), (17, .d), (18, .d), (19, .w)] (by kernel_rfl) ?_
       refine r_d rfl rfl rfl (s_move rfl rfl) ?_
       refine r_d rfl rfl rfl (s_move rfl rfl) ?_
       refine r_d rfl rfl rfl (s_nilCheckR rfl rfl) ?_
       refine r_d rfl rfl rfl (s_fieldRef rfl fl_constraintref17_linear_2 rfl) ?_
       refine r_r rfl rfl rfl (t_loadRef rfl rfl (.tail _ (.head _)) rfl rfl (by exact ty_L_api_Goal) rfl) ?_
       refine r_d rfl rfl rfl (s_move rfl rfl) ?_
       refine r_d rfl rfl rfl (s_nilCheckR rfl rfl) ?_
       refine r_d rfl rfl rfl (s_fieldRef rfl fl_constraintref17_linear_1 rfl) ?_
       refine r_r rfl rfl rfl (t_loadRef rfl rfl (.tail _ (.head _)) rfl rfl (by exact ty_int) rfl) ?_
       obtain ⟨r_27, hr_27, hr⟩ := bindS hr
       refine r_d rfl rfl rfl (s_callD rfl cl_constraintref03_Var (.cons rfl (Wk.refl _) .nil) (lg_constraintref03_Var _ _ hr_27)) ?_
       refine r_d rfl rfl rfl (s_fieldRef rfl fl_api_Term_1 rfl) ?_
       refine r_r rfl rfl rfl (t_loadRef rfl rfl (.head _) rfl rfl (by exact ty_int) rfl) ?_
       obtain ⟨r_28, hr_28, hr⟩ := bindS hr
       refine r_d rfl rfl rfl (s_callD rfl cl_constraintref03_Var (.cons rfl (Wk.refl _) .nil) (lg_constraintref03_Var _ _ hr_28)) ?_
       refine r_d rfl rfl rfl (m_lit (f := encT) [.tmp 47, .tmp 50] [r_27, r_28] rfl el_L_api_Term rfl rfl (by decide) (by decide) (.cons rfl (Wk.refl _) (.cons rfl (Wk.refl _) .nil)) sz_encT (fun _ => rfl)) ?_
       refine r_d rfl rfl rfl (s_build rfl bt_api_Goal (.cons rfl (Wk.refl _) (.cons rfl (Wk.full _) .nil)) (.cons rfl rfl rfl (.cons rfl rfl rfl (.nil _)))) ?_
       refine r_d rfl rfl rfl (m_lit (f := encG) [.tmp 52] [(⟨5, ⟨#[]⟩, [r_27, r_28]⟩ : Gl)] rfl el_L_api_Goal rfl rfl (by decide) (by decide) (.cons rfl (Wk.refl _) .nil) sz_encG (fun _ => rfl)) ?_
       obtain ⟨l_29, hl_29, hr⟩ := bindS hr
       refine r_w rfl rfl rfl (m_appOwn (f := encG) r_21.2.2.2 [(⟨5, ⟨#[]⟩, [r_27, r_28]⟩ : Gl)] rfl el_L_api_Goal rfl rfl (asl rfl) (pf3 _ _ _ _ _) rfl sz_encG hl_29) ?_
       rintro _ _ ⟨u54_29, rfl, rfl⟩
       refine r_d rfl rfl rfl (s_nilCheckR rfl rfl) ?_
       refine r_d rfl rfl rfl (s_fieldRef rfl fl_constraintref17_linear_2 rfl) ?_
       refine r_w01 rfl rfl rfl (t_store _ rfl rfl rfl (Wk.refl _) (pf2 _ _ _ _) rfl rfl (by exact ty_L_api_Goal) rfl rfl rfl) ?_
       refine r_end ?_
       refine g_seq ?_
       refine g_run (by kernel_rfl) [(0, .d), (1, .d), (2, .d), (3, .r), (4, .d), (5, .w)] rfl ?_
       refine r_d rfl rfl rfl (s_move rfl rfl) ?_
       refine r_d rfl rfl rfl (s_nilCheckR rfl rfl) ?_
       refine r_d rfl rfl rfl (s_fieldRef rfl fl_constraintref17_linear_1 rfl) ?_
       refine r_r rfl rfl rfl (t_loadRef rfl rfl (.head _) rfl rfl (by exact ty_int) rfl) ?_
       refine r_d rfl rfl rfl (s_callD rfl cl_constraintref03_Var (.cons rfl (Wk.refl _) .nil) (lg_constraintref03_Var _ _ hr_27)) ?_
       refine r_w01 rfl rfl rfl (t_store0 _ rfl rfl rfl (Wk.refl _) (pf2 _ _ _ _) (by exact ty_api_Term) (sz_encT _) rfl rfl) ?_
       refine r_st [.cell b7_18 (.agg [.int .i64 r_27.k, .int .i64 r_27.i, .str r_27.s, .lst (r_27.ar.map encT)]), .cell b_o0 (.agg [.own u24_21 (r_21.2.1.map (D.int .i64)), .int .i64 r_21.2.2.1, .own u54_29 (l_29.map encG)]), .row u54_29 l_29.length 40 3, .row u24_21 r_21.2.1.length 3 1, .row u_5 out_6.length 42 4] (by first | (simp only [encT, fsT_eq]; done) | (simp only [encT, fsT_eq]; rfl)) ?_
       refine r_end ?_
       refine g_run (by kernel_rfl) [(0, .d), (1, .d), (2, .d), (3, .r), (4, .d), (5, .d), (6, .d), (7, .w)] rfl ?_
       refine r_d rfl rfl rfl (s_move rfl rfl) ?_
       refine r_d rfl rfl rfl (s_nilCheckR rfl rfl) ?_
       refine r_d rfl rfl rfl (s_fieldRef rfl fl_constraintref17_linear_1 rfl) ?_
       refine r_r rfl rfl rfl (t_loadRef rfl rfl (.tail _ (.head _)) rfl rfl (by exact ty_int) rfl) ?_
       refine r_d rfl rfl rfl (s_arW rfl rfl rfl rfl) ?_
       refine r_d rfl rfl rfl (s_nilCheckR rfl rfl) ?_
       refine r_d rfl rfl rfl (s_fieldRef rfl fl_constraintref17_linear_1 rfl) ?_
       refine r_w01 rfl rfl rfl (t_store _ rfl rfl rfl (Wk.refl _) (pf1 _ _ _) rfl rfl (by exact ty_int) rfl rfl rfl) ?_
       refine r_end ?_
       refine g_seq ?_
       refine g_seq ?_
       refine g_run (by kernel_rfl) [(0, .d), (1, .r), (2, .d)] rfl ?_
       refine r_d rfl rfl rfl (s_fieldRef rfl fl_api_Term_0 rfl) ?_
       refine r_r rfl rfl rfl (t_loadRef rfl rfl (.tail _ (.head _)) rfl rfl (by exact ty_int) rfl) ?_
       refine r_d rfl rfl rfl (s_cmp rfl rfl rfl rfl) ?_
       refine r_end ?_
       refine g_sB 71 rfl hr (fun h71_30 hr => ?_) (fun h71_30 hr => ?_)
       ·
        refine g_condT rfl ?_
        refine g_any (by kernel_rfl) (by kernel_rfl) [(0, .d), (1, .d), (2, .d), (3, .d), (4, .r), (5, .d), (6, .r), (7, .d), (8, .w), (9, .d), (10, .d), (11, .w)] (by kernel_rfl) ?_
        refine r_d rfl rfl rfl (s_move rfl rfl) ?_
        refine r_d rfl rfl rfl (s_move rfl rfl) ?_
        refine r_d rfl rfl rfl (s_nilCheckR rfl rfl) ?_
        refine r_d rfl rfl rfl (s_fieldRef rfl fl_constraintref17_linear_0 rfl) ?_
        refine r_r rfl rfl rfl (t_loadRef rfl rfl (.head _) rfl rfl (by exact ty_L_int) rfl) ?_
        refine r_d rfl rfl rfl (s_fieldRef rfl fl_api_Term_1 rfl) ?_
        refine r_r rfl rfl rfl (t_loadRef rfl rfl (.tail _ (.head _)) rfl rfl (by exact ty_int) rfl) ?_
        refine r_d rfl rfl rfl (m_lit (f := (D.int .i64)) [.tmp 78] [r_27.i] rfl el_L_int rfl rfl (by decide) (by decide) (.cons rfl (Wk.refl _) .nil) (fun _ => rfl) (fun _ => rfl)) ?_
        obtain ⟨l_32, hl_32, hr⟩ := bindS hr
        refine r_w rfl rfl rfl (m_appOwn (f := (D.int .i64)) r_21.2.1 [r_27.i] rfl el_L_int rfl rfl (asl rfl) (pf3 _ _ _ _ _) rfl (fun _ => rfl) hl_32) ?_
        rintro _ _ ⟨u80_32, rfl, rfl⟩
        refine r_d rfl rfl rfl (s_nilCheckR rfl rfl) ?_
        refine r_d rfl rfl rfl (s_fieldRef rfl fl_constraintref17_linear_0 rfl) ?_
        refine r_w01 rfl rfl rfl (t_store _ rfl rfl rfl (Wk.refl _) (pf1 _ _ _) rfl rfl (by exact ty_L_int) rfl rfl rfl) ?_
        refine r_end ?_
        refine g_run (by kernel_rfl) [(0, .d), (1, .r), (2, .d), (3, .w), (4, .d)] rfl ?_
        refine r_d rfl rfl rfl (s_move rfl rfl) ?_
        refine r_r rfl rfl rfl (t_loadRef rfl rfl (.tail _ (.tail _ (.head _))) rfl rfl (by exact ty_api_Term) rfl) ?_
        refine r_d rfl rfl rfl (m_lit (f := encT) [.tmp 84] [(T.mk r_27.k r_27.i r_27.s r_27.ar)] rfl el_L_api_Term rfl rfl (by decide) (by decide) (.cons rfl (Wk.ofEq (by show _ = D.agg (fsT _); rw [fsT_eq] <;> rfl)) .nil) sz_encT (fun _ => rfl)) ?_
        obtain ⟨l_34, hl_34, hr⟩ := bindS hr
        refine r_w rfl rfl rfl (m_appOwn (f := encT) out_6 [(T.mk r_27.k r_27.i r_27.s r_27.ar)] rfl el_L_api_Term rfl rfl (asl rfl) (pf4 _ _ _ _ _ _) rfl sz_encT hl_34) ?_
        rintro _ _ ⟨u86_34, rfl, rfl⟩
        refine r_d rfl rfl rfl (s_assign rfl rfl) ?_
        refine r_end ?_
        refine g_inBlock ?_
        refine g_run (by kernel_rfl) [(0, .d), (1, .d), (2, .d)] rfl ?_
        refine r_d rfl rfl rfl (s_move rfl rfl) ?_
        refine r_d rfl rfl rfl (s_ar (r := ((i_7 + 1 : Nat) : Int)) rfl rfl rfl (by simp [iar]) (by omega)) ?_
        refine r_d rfl rfl rfl (s_assign rfl rfl) ?_
        refine r_end ?_
        refine g_sub [(0, .ref b_o0 0 []), (1, .lst (l_a1.map encT)), (5, .own u86_34 (l_34.map encT)), (6, .int .i64 ((i_7 + 1 : Nat) : Int))] (Sub.cons' rfl (Sub.cons' rfl (Sub.cons' rfl (Sub.cons' rfl (Sub.nil _))))) ?_
        refine g_perm [_, _, _, _] _ ((((pf0 _).trans (pf4 _ _ _ _ _ _)).trans (pf3 _ _ _ _ _)).trans (pf3 _ _ _ _ _)) ?_
        exact IH0 _ _ _ (by omega) ⟨l_34, (i_7 + 1), l_32, (wr (r_21.2.2.1 + (1 : Int))), l_29, u80_32, u54_29, u86_34, rfl, rfl, rfl, (by omega), hr⟩
       ·
        refine g_condF rfl ?_
        refine g_skip ?_
        refine g_run (by kernel_rfl) [(0, .d), (1, .r), (2, .d), (3, .w), (4, .d)] rfl ?_
        refine r_d rfl rfl rfl (s_move rfl rfl) ?_
        refine r_r rfl rfl rfl (t_loadRef rfl rfl (.tail _ (.head _)) rfl rfl (by exact ty_api_Term) rfl) ?_
        refine r_d rfl rfl rfl (m_lit (f := encT) [.tmp 84] [(T.mk r_27.k r_27.i r_27.s r_27.ar)] rfl el_L_api_Term rfl rfl (by decide) (by decide) (.cons rfl (Wk.ofEq (by show _ = D.agg (fsT _); rw [fsT_eq] <;> rfl)) .nil) sz_encT (fun _ => rfl)) ?_
        obtain ⟨l_36, hl_36, hr⟩ := bindS hr
        refine r_w rfl rfl rfl (m_appOwn (f := encT) out_6 [(T.mk r_27.k r_27.i r_27.s r_27.ar)] rfl el_L_api_Term rfl rfl (asl rfl) (pf4 _ _ _ _ _ _) rfl sz_encT hl_36) ?_
        rintro _ _ ⟨u86_36, rfl, rfl⟩
        refine r_d rfl rfl rfl (s_assign rfl rfl) ?_
        refine r_end ?_
        refine g_inBlock ?_
        refine g_run (by kernel_rfl) [(0, .d), (1, .d), (2, .d)] rfl ?_
        refine r_d rfl rfl rfl (s_move rfl rfl) ?_
        refine r_d rfl rfl rfl (s_ar (r := ((i_7 + 1 : Nat) : Int)) rfl rfl rfl (by simp [iar]) (by omega)) ?_
        refine r_d rfl rfl rfl (s_assign rfl rfl) ?_
        refine r_end ?_
        refine g_sub [(0, .ref b_o0 0 []), (1, .lst (l_a1.map encT)), (5, .own u86_36 (l_36.map encT)), (6, .int .i64 ((i_7 + 1 : Nat) : Int))] (Sub.cons' rfl (Sub.cons' rfl (Sub.cons' rfl (Sub.cons' rfl (Sub.nil _))))) ?_
        refine g_perm [_, _, _, _] _ ((((pf0 _).trans (pf3 _ _ _ _ _)).trans (pf4 _ _ _ _ _ _)).trans (pf3 _ _ _ _ _)) ?_
        exact IH0 _ _ _ (by omega) ⟨l_36, (i_7 + 1), r_21.2.1, (wr (r_21.2.2.1 + (1 : Int))), l_29, u24_21, u54_29, u86_36, rfl, rfl, rfl, (by omega), hr⟩
      ·
       refine g_condF rfl ?_
       refine g_skip ?_
       refine g_seq ?_
       refine g_seq ?_
       refine g_run (by kernel_rfl) [(0, .d), (1, .r), (2, .d)] rfl ?_
       refine r_d rfl rfl rfl (s_fieldRef rfl fl_api_Term_0 rfl) ?_
       refine r_r rfl rfl rfl (t_loadRef rfl rfl (.head _) rfl rfl (by exact ty_int) rfl) ?_
       refine r_d rfl rfl rfl (s_cmp rfl rfl rfl rfl) ?_
       refine r_end ?_
       refine g_known 71 true rfl h29_23 ?_
       refine g_condT rfl ?_
       refine g_any (by kernel_rfl) (by kernel_rfl) [(0, .d), (1, .d), (2, .d), (3, .d), (4, .r), (5, .d), (6, .r), (7, .d), (8, .w), (9, .d), (10, .d), (11, .w)] (by kernel_rfl) ?_
       refine r_d rfl rfl rfl (s_move rfl rfl) ?_
       refine r_d rfl rfl rfl (s_move rfl rfl) ?_
       refine r_d rfl rfl rfl (s_nilCheckR rfl rfl) ?_
       refine r_d rfl rfl rfl (s_fieldRef rfl fl_constraintref17_linear_0 rfl) ?_
       refine r_r rfl rfl rfl (t_loadRef rfl rfl (.tail _ (.head _)) rfl rfl (by exact ty_L_int) rfl) ?_
       refine r_d rfl rfl rfl (s_fieldRef rfl fl_api_Term_1 rfl) ?_
       refine r_r rfl rfl rfl (t_loadRef rfl rfl (.head _) rfl rfl (by exact ty_int) rfl) ?_
       refine r_d rfl rfl rfl (m_lit (f := (D.int .i64)) [.tmp 78] [q_18.i] rfl el_L_int rfl rfl (by decide) (by decide) (.cons rfl (Wk.refl _) .nil) (fun _ => rfl) (fun _ => rfl)) ?_
       obtain ⟨l_38, hl_38, hr⟩ := bindS hr
       refine r_w rfl rfl rfl (m_appOwn (f := (D.int .i64)) r_21.2.1 [q_18.i] rfl el_L_int rfl rfl (asl rfl) (pf2 _ _ _ _) rfl (fun _ => rfl) hl_38) ?_
       rintro _ _ ⟨u80_38, rfl, rfl⟩
       refine r_d rfl rfl rfl (s_nilCheckR rfl rfl) ?_
       refine r_d rfl rfl rfl (s_fieldRef rfl fl_constraintref17_linear_0 rfl) ?_
       refine r_w01 rfl rfl rfl (t_store _ rfl rfl rfl (Wk.refl _) (pf2 _ _ _ _) rfl rfl (by exact ty_L_int) rfl rfl rfl) ?_
       refine r_end ?_
       refine g_run (by kernel_rfl) [(0, .d), (1, .r), (2, .d), (3, .w), (4, .d)] rfl ?_
       refine r_d rfl rfl rfl (s_move rfl rfl) ?_
       refine r_r rfl rfl rfl (t_loadRef rfl rfl (.tail _ (.tail _ (.head _))) rfl rfl (by exact ty_api_Term) rfl) ?_
       refine r_d rfl rfl rfl (m_lit (f := encT) [.tmp 84] [(T.mk q_18.k q_18.i q_18.s r_21.1)] rfl el_L_api_Term rfl rfl (by decide) (by decide) (.cons rfl (Wk.ofEq (by show _ = D.agg (fsT _); rw [fsT_eq] <;> rfl)) .nil) sz_encT (fun _ => rfl)) ?_
       obtain ⟨l_40, hl_40, hr⟩ := bindS hr
       refine r_w rfl rfl rfl (m_appOwn (f := encT) out_6 [(T.mk q_18.k q_18.i q_18.s r_21.1)] rfl el_L_api_Term rfl rfl (asl rfl) (pf4 _ _ _ _ _ _) rfl sz_encT hl_40) ?_
       rintro _ _ ⟨u86_40, rfl, rfl⟩
       refine r_d rfl rfl rfl (s_assign rfl rfl) ?_
       refine r_end ?_
       refine g_inBlock ?_
       refine g_run (by kernel_rfl) [(0, .d), (1, .d), (2, .d)] rfl ?_
       refine r_d rfl rfl rfl (s_move rfl rfl) ?_
       refine r_d rfl rfl rfl (s_ar (r := ((i_7 + 1 : Nat) : Int)) rfl rfl rfl (by simp [iar]) (by omega)) ?_
       refine r_d rfl rfl rfl (s_assign rfl rfl) ?_
       refine r_end ?_
       refine g_sub [(0, .ref b_o0 0 []), (1, .lst (l_a1.map encT)), (5, .own u86_40 (l_40.map encT)), (6, .int .i64 ((i_7 + 1 : Nat) : Int))] (Sub.cons' rfl (Sub.cons' rfl (Sub.cons' rfl (Sub.cons' rfl (Sub.nil _))))) ?_
       refine g_perm [_, _, _, _] _ ((((pf0 _).trans (pf4 _ _ _ _ _ _)).trans (pf3 _ _ _ _ _)).trans (pf3 _ _ _ _ _)) ?_
       exact IH0 _ _ _ (by omega) ⟨l_40, (i_7 + 1), l_38, r_21.2.2.1, r_21.2.2.2, u80_38, u24_22, u86_40, rfl, rfl, rfl, (by omega), hr⟩
     ·
      refine r_skip rfl rfl rfl ?_
      refine r_skip rfl rfl rfl ?_
      refine r_skip rfl rfl rfl ?_
      refine r_skip rfl rfl rfl ?_
      refine r_skip rfl rfl rfl ?_
      refine r_skip rfl rfl rfl ?_
      refine r_skip rfl rfl rfl ?_
      refine r_d rfl rfl rfl (s_pickF rfl rfl rfl) ?_
      refine r_end ?_
      refine g_condF rfl ?_
      refine g_skip ?_
      refine g_seq ?_
      refine g_seq ?_
      refine g_run (by kernel_rfl) [(0, .d), (1, .r), (2, .d)] rfl ?_
      refine r_d rfl rfl rfl (s_fieldRef rfl fl_api_Term_0 rfl) ?_
      refine r_r rfl rfl rfl (t_loadRef rfl rfl (.head _) rfl rfl (by exact ty_int) rfl) ?_
      refine r_d rfl rfl rfl (s_cmp rfl rfl rfl rfl) ?_
      refine r_end ?_
      refine g_known 71 false rfl h29_23 ?_
      refine g_condF rfl ?_
      refine g_skip ?_
      refine g_run (by kernel_rfl) [(0, .d), (1, .r), (2, .d), (3, .w), (4, .d)] rfl ?_
      refine r_d rfl rfl rfl (s_move rfl rfl) ?_
      refine r_r rfl rfl rfl (t_loadRef rfl rfl (.head _) rfl rfl (by exact ty_api_Term) rfl) ?_
      refine r_d rfl rfl rfl (m_lit (f := encT) [.tmp 84] [(T.mk q_18.k q_18.i q_18.s r_21.1)] rfl el_L_api_Term rfl rfl (by decide) (by decide) (.cons rfl (Wk.ofEq (by show _ = D.agg (fsT _); rw [fsT_eq] <;> rfl)) .nil) sz_encT (fun _ => rfl)) ?_
      obtain ⟨l_42, hl_42, hr⟩ := bindS hr
      refine r_w rfl rfl rfl (m_appOwn (f := encT) out_6 [(T.mk q_18.k q_18.i q_18.s r_21.1)] rfl el_L_api_Term rfl rfl (asl rfl) (pf4 _ _ _ _ _ _) rfl sz_encT hl_42) ?_
      rintro _ _ ⟨u86_42, rfl, rfl⟩
      refine r_d rfl rfl rfl (s_assign rfl rfl) ?_
      refine r_end ?_
      refine g_inBlock ?_
      refine g_run (by kernel_rfl) [(0, .d), (1, .d), (2, .d)] rfl ?_
      refine r_d rfl rfl rfl (s_move rfl rfl) ?_
      refine r_d rfl rfl rfl (s_ar (r := ((i_7 + 1 : Nat) : Int)) rfl rfl rfl (by simp [iar]) (by omega)) ?_
      refine r_d rfl rfl rfl (s_assign rfl rfl) ?_
      refine r_end ?_
      refine g_sub [(0, .ref b_o0 0 []), (1, .lst (l_a1.map encT)), (5, .own u86_42 (l_42.map encT)), (6, .int .i64 ((i_7 + 1 : Nat) : Int))] (Sub.cons' rfl (Sub.cons' rfl (Sub.cons' rfl (Sub.cons' rfl (Sub.nil _))))) ?_
      refine g_perm [_, _, _, _] _ ((((pf0 _).trans (pf4 _ _ _ _ _ _)).trans (pf4 _ _ _ _ _ _)).trans (pf4 _ _ _ _ _ _)) ?_
      exact IH0 _ _ _ (by omega) ⟨l_42, (i_7 + 1), r_21.2.1, r_21.2.2.1, r_21.2.2.2, u24_21, u24_22, u86_42, rfl, rfl, rfl, (by omega), hr⟩
    ·
     refine g_condF rfl ?_
     refine g_skip ?_
     refine g_seq ?_
     refine g_seq ?_
     refine g_any (by kernel_rfl) (by kernel_rfl) [(0, .d), (1, .r), (2, .d), (3, .d), (4, .d), (5, .d), (6, .d), (7, .r), (8, .d), (9, .r), (10, .d), (11, .d)] (by kernel_rfl) ?_
     refine r_d rfl rfl rfl (s_fieldRef rfl fl_api_Term_0 rfl) ?_
     refine r_r rfl rfl rfl (t_loadRef rfl rfl (.head _) rfl rfl (by exact ty_int) rfl) ?_
     refine r_d rfl rfl rfl (s_cmp rfl rfl rfl rfl) ?_
     refine r_d rfl rfl rfl (s_move rfl rfl) ?_
     refine r_sB 29 rfl hr (fun h29_43 hr => ?_) (fun h29_43 hr => ?_)
     ·
      refine r_d rfl rfl rfl (s_move rfl rfl) ?_
      refine r_d rfl rfl rfl (s_nilCheckR rfl rfl) ?_
      refine r_d rfl rfl rfl (s_fieldRef rfl fl_constraintref17_linear_0 rfl) ?_
      refine r_r rfl rfl rfl (t_loadRef rfl rfl (.tail _ (.head _)) rfl rfl (by exact ty_L_int) rfl) ?_
      refine r_d rfl rfl rfl (s_fieldRef rfl fl_api_Term_1 rfl) ?_
      refine r_r rfl rfl rfl (t_loadRef rfl rfl (.head _) rfl rfl (by exact ty_int) rfl) ?_
      obtain ⟨r_45, hr_45, hr⟩ := bindS hr
      refine r_d rfl rfl rfl (s_callD rfl cl_constraintref17_has (.cons rfl (Wk.own _ _) (.cons rfl (Wk.refl _) .nil)) (lg_constraintref17_has _ _ _ hr_45)) ?_
      refine r_d rfl rfl rfl (s_pickT rfl rfl rfl) ?_
      refine r_end ?_
      refine g_sB 37 rfl hr (fun h37_45 hr => ?_) (fun h37_45 hr => ?_)
      ·
       refine g_condT rfl ?_
       refine g_seq ?_
       refine g_any (by kernel_rfl) (by kernel_rfl) [(0, .d), (1, .d), (2, .d), (3, .d), (4, .r), (5, .d), (6, .d), (7, .d), (8, .r), (9, .d), (10, .d), (11, .r), (12, .d), (13, .d), (14, .d), (15, .d), (16, .w), (17, .d), (18, .d), (19, .w)] (by kernel_rfl) ?_
       refine r_d rfl rfl rfl (s_move rfl rfl) ?_
       refine r_d rfl rfl rfl (s_move rfl rfl) ?_
       refine r_d rfl rfl rfl (s_nilCheckR rfl rfl) ?_
       refine r_d rfl rfl rfl (s_fieldRef rfl fl_constraintref17_linear_2 rfl) ?_
       refine r_r rfl rfl rfl (t_loadRef rfl rfl (.tail _ (.head _)) rfl rfl (by exact ty_L_api_Goal) rfl) ?_
       refine r_d rfl rfl rfl (s_move rfl rfl) ?_
       refine r_d rfl rfl rfl (s_nilCheckR rfl rfl) ?_
       refine r_d rfl rfl rfl (s_fieldRef rfl fl_constraintref17_linear_1 rfl) ?_
       refine r_r rfl rfl rfl (t_loadRef rfl rfl (.tail _ (.head _)) rfl rfl (by exact ty_int) rfl) ?_
       obtain ⟨r_47, hr_47, hr⟩ := bindS hr
       refine r_d rfl rfl rfl (s_callD rfl cl_constraintref03_Var (.cons rfl (Wk.refl _) .nil) (lg_constraintref03_Var _ _ hr_47)) ?_
       refine r_d rfl rfl rfl (s_fieldRef rfl fl_api_Term_1 rfl) ?_
       refine r_r rfl rfl rfl (t_loadRef rfl rfl (.head _) rfl rfl (by exact ty_int) rfl) ?_
       obtain ⟨r_48, hr_48, hr⟩ := bindS hr
       refine r_d rfl rfl rfl (s_callD rfl cl_constraintref03_Var (.cons rfl (Wk.refl _) .nil) (lg_constraintref03_Var _ _ hr_48)) ?_
       refine r_d rfl rfl rfl (m_lit (f := encT) [.tmp 47, .tmp 50] [r_47, r_48] rfl el_L_api_Term rfl rfl (by decide) (by decide) (.cons rfl (Wk.refl _) (.cons rfl (Wk.refl _) .nil)) sz_encT (fun _ => rfl)) ?_
       refine r_d rfl rfl rfl (s_build rfl bt_api_Goal (.cons rfl (Wk.refl _) (.cons rfl (Wk.full _) .nil)) (.cons rfl rfl rfl (.cons rfl rfl rfl (.nil _)))) ?_
       refine r_d rfl rfl rfl (m_lit (f := encG) [.tmp 52] [(⟨5, ⟨#[]⟩, [r_47, r_48]⟩ : Gl)] rfl el_L_api_Goal rfl rfl (by decide) (by decide) (.cons rfl (Wk.refl _) .nil) sz_encG (fun _ => rfl)) ?_
       obtain ⟨l_49, hl_49, hr⟩ := bindS hr
       refine r_w rfl rfl rfl (m_appOwn (f := encG) x_10 [(⟨5, ⟨#[]⟩, [r_47, r_48]⟩ : Gl)] rfl el_L_api_Goal rfl rfl (asl rfl) (pf3 _ _ _ _ _) rfl sz_encG hl_49) ?_
       rintro _ _ ⟨u54_49, rfl, rfl⟩
       refine r_d rfl rfl rfl (s_nilCheckR rfl rfl) ?_
       refine r_d rfl rfl rfl (s_fieldRef rfl fl_constraintref17_linear_2 rfl) ?_
       refine r_w01 rfl rfl rfl (t_store _ rfl rfl rfl (Wk.refl _) (pf2 _ _ _ _) rfl rfl (by exact ty_L_api_Goal) rfl rfl rfl) ?_
       refine r_end ?_
       refine g_seq ?_
       refine g_run (by kernel_rfl) [(0, .d), (1, .d), (2, .d), (3, .r), (4, .d), (5, .w)] rfl ?_
       refine r_d rfl rfl rfl (s_move rfl rfl) ?_
       refine r_d rfl rfl rfl (s_nilCheckR rfl rfl) ?_
       refine r_d rfl rfl rfl (s_fieldRef rfl fl_constraintref17_linear_1 rfl) ?_
       refine r_r rfl rfl rfl (t_loadRef rfl rfl (.head _) rfl rfl (by exact ty_int) rfl) ?_
       refine r_d rfl rfl rfl (s_callD rfl cl_constraintref03_Var (.cons rfl (Wk.refl _) .nil) (lg_constraintref03_Var _ _ hr_47)) ?_
       refine r_w01 rfl rfl rfl (t_store0 _ rfl rfl rfl (Wk.refl _) (pf2 _ _ _ _) (by exact ty_api_Term) (sz_encT _) rfl rfl) ?_
       refine r_st [.cell b7_18 (.agg [.int .i64 r_47.k, .int .i64 r_47.i, .str r_47.s, .lst (r_47.ar.map encT)]), .cell b_o0 (.agg [.own u_3 (x_8.map (D.int .i64)), .int .i64 x_9, .own u54_49 (l_49.map encG)]), .row u54_49 l_49.length 40 3, .row u_3 x_8.length 3 1, .row u_5 out_6.length 42 4] (by first | (simp only [encT, fsT_eq]; done) | (simp only [encT, fsT_eq]; rfl)) ?_
       refine r_end ?_
       refine g_run (by kernel_rfl) [(0, .d), (1, .d), (2, .d), (3, .r), (4, .d), (5, .d), (6, .d), (7, .w)] rfl ?_
       refine r_d rfl rfl rfl (s_move rfl rfl) ?_
       refine r_d rfl rfl rfl (s_nilCheckR rfl rfl) ?_
       refine r_d rfl rfl rfl (s_fieldRef rfl fl_constraintref17_linear_1 rfl) ?_
       refine r_r rfl rfl rfl (t_loadRef rfl rfl (.tail _ (.head _)) rfl rfl (by exact ty_int) rfl) ?_
       refine r_d rfl rfl rfl (s_arW rfl rfl rfl rfl) ?_
       refine r_d rfl rfl rfl (s_nilCheckR rfl rfl) ?_
       refine r_d rfl rfl rfl (s_fieldRef rfl fl_constraintref17_linear_1 rfl) ?_
       refine r_w01 rfl rfl rfl (t_store _ rfl rfl rfl (Wk.refl _) (pf1 _ _ _) rfl rfl (by exact ty_int) rfl rfl rfl) ?_
       refine r_end ?_
       refine g_seq ?_
       refine g_seq ?_
       refine g_run (by kernel_rfl) [(0, .d), (1, .r), (2, .d)] rfl ?_
       refine r_d rfl rfl rfl (s_fieldRef rfl fl_api_Term_0 rfl) ?_
       refine r_r rfl rfl rfl (t_loadRef rfl rfl (.tail _ (.head _)) rfl rfl (by exact ty_int) rfl) ?_
       refine r_d rfl rfl rfl (s_cmp rfl rfl rfl rfl) ?_
       refine r_end ?_
       refine g_sB 71 rfl hr (fun h71_50 hr => ?_) (fun h71_50 hr => ?_)
       ·
        refine g_condT rfl ?_
        refine g_any (by kernel_rfl) (by kernel_rfl) [(0, .d), (1, .d), (2, .d), (3, .d), (4, .r), (5, .d), (6, .r), (7, .d), (8, .w), (9, .d), (10, .d), (11, .w)] (by kernel_rfl) ?_
        refine r_d rfl rfl rfl (s_move rfl rfl) ?_
        refine r_d rfl rfl rfl (s_move rfl rfl) ?_
        refine r_d rfl rfl rfl (s_nilCheckR rfl rfl) ?_
        refine r_d rfl rfl rfl (s_fieldRef rfl fl_constraintref17_linear_0 rfl) ?_
        refine r_r rfl rfl rfl (t_loadRef rfl rfl (.head _) rfl rfl (by exact ty_L_int) rfl) ?_
        refine r_d rfl rfl rfl (s_fieldRef rfl fl_api_Term_1 rfl) ?_
        refine r_r rfl rfl rfl (t_loadRef rfl rfl (.tail _ (.head _)) rfl rfl (by exact ty_int) rfl) ?_
        refine r_d rfl rfl rfl (m_lit (f := (D.int .i64)) [.tmp 78] [r_47.i] rfl el_L_int rfl rfl (by decide) (by decide) (.cons rfl (Wk.refl _) .nil) (fun _ => rfl) (fun _ => rfl)) ?_
        obtain ⟨l_52, hl_52, hr⟩ := bindS hr
        refine r_w rfl rfl rfl (m_appOwn (f := (D.int .i64)) x_8 [r_47.i] rfl el_L_int rfl rfl (asl rfl) (pf3 _ _ _ _ _) rfl (fun _ => rfl) hl_52) ?_
        rintro _ _ ⟨u80_52, rfl, rfl⟩
        refine r_d rfl rfl rfl (s_nilCheckR rfl rfl) ?_
        refine r_d rfl rfl rfl (s_fieldRef rfl fl_constraintref17_linear_0 rfl) ?_
        refine r_w01 rfl rfl rfl (t_store _ rfl rfl rfl (Wk.refl _) (pf1 _ _ _) rfl rfl (by exact ty_L_int) rfl rfl rfl) ?_
        refine r_end ?_
        refine g_run (by kernel_rfl) [(0, .d), (1, .r), (2, .d), (3, .w), (4, .d)] rfl ?_
        refine r_d rfl rfl rfl (s_move rfl rfl) ?_
        refine r_r rfl rfl rfl (t_loadRef rfl rfl (.tail _ (.tail _ (.head _))) rfl rfl (by exact ty_api_Term) rfl) ?_
        refine r_d rfl rfl rfl (m_lit (f := encT) [.tmp 84] [(T.mk r_47.k r_47.i r_47.s r_47.ar)] rfl el_L_api_Term rfl rfl (by decide) (by decide) (.cons rfl (Wk.ofEq (by show _ = D.agg (fsT _); rw [fsT_eq] <;> rfl)) .nil) sz_encT (fun _ => rfl)) ?_
        obtain ⟨l_54, hl_54, hr⟩ := bindS hr
        refine r_w rfl rfl rfl (m_appOwn (f := encT) out_6 [(T.mk r_47.k r_47.i r_47.s r_47.ar)] rfl el_L_api_Term rfl rfl (asl rfl) (pf4 _ _ _ _ _ _) rfl sz_encT hl_54) ?_
        rintro _ _ ⟨u86_54, rfl, rfl⟩
        refine r_d rfl rfl rfl (s_assign rfl rfl) ?_
        refine r_end ?_
        refine g_inBlock ?_
        refine g_run (by kernel_rfl) [(0, .d), (1, .d), (2, .d)] rfl ?_
        refine r_d rfl rfl rfl (s_move rfl rfl) ?_
        refine r_d rfl rfl rfl (s_ar (r := ((i_7 + 1 : Nat) : Int)) rfl rfl rfl (by simp [iar]) (by omega)) ?_
        refine r_d rfl rfl rfl (s_assign rfl rfl) ?_
        refine r_end ?_
        refine g_sub [(0, .ref b_o0 0 []), (1, .lst (l_a1.map encT)), (5, .own u86_54 (l_54.map encT)), (6, .int .i64 ((i_7 + 1 : Nat) : Int))] (Sub.cons' rfl (Sub.cons' rfl (Sub.cons' rfl (Sub.cons' rfl (Sub.nil _))))) ?_
        refine g_perm [_, _, _, _] _ ((((pf0 _).trans (pf4 _ _ _ _ _ _)).trans (pf3 _ _ _ _ _)).trans (pf3 _ _ _ _ _)) ?_
        exact IH0 _ _ _ (by omega) ⟨l_54, (i_7 + 1), l_52, (wr (x_9 + (1 : Int))), l_49, u80_52, u54_49, u86_54, rfl, rfl, rfl, (by omega), hr⟩
       ·
        refine g_condF rfl ?_
        refine g_skip ?_
        refine g_run (by kernel_rfl) [(0, .d), (1, .r), (2, .d), (3, .w), (4, .d)] rfl ?_
        refine r_d rfl rfl rfl (s_move rfl rfl) ?_
        refine r_r rfl rfl rfl (t_loadRef rfl rfl (.tail _ (.head _)) rfl rfl (by exact ty_api_Term) rfl) ?_
        refine r_d rfl rfl rfl (m_lit (f := encT) [.tmp 84] [(T.mk r_47.k r_47.i r_47.s r_47.ar)] rfl el_L_api_Term rfl rfl (by decide) (by decide) (.cons rfl (Wk.ofEq (by show _ = D.agg (fsT _); rw [fsT_eq] <;> rfl)) .nil) sz_encT (fun _ => rfl)) ?_
        obtain ⟨l_56, hl_56, hr⟩ := bindS hr
        refine r_w rfl rfl rfl (m_appOwn (f := encT) out_6 [(T.mk r_47.k r_47.i r_47.s r_47.ar)] rfl el_L_api_Term rfl rfl (asl rfl) (pf4 _ _ _ _ _ _) rfl sz_encT hl_56) ?_
        rintro _ _ ⟨u86_56, rfl, rfl⟩
        refine r_d rfl rfl rfl (s_assign rfl rfl) ?_
        refine r_end ?_
        refine g_inBlock ?_
        refine g_run (by kernel_rfl) [(0, .d), (1, .d), (2, .d)] rfl ?_
        refine r_d rfl rfl rfl (s_move rfl rfl) ?_
        refine r_d rfl rfl rfl (s_ar (r := ((i_7 + 1 : Nat) : Int)) rfl rfl rfl (by simp [iar]) (by omega)) ?_
        refine r_d rfl rfl rfl (s_assign rfl rfl) ?_
        refine r_end ?_
        refine g_sub [(0, .ref b_o0 0 []), (1, .lst (l_a1.map encT)), (5, .own u86_56 (l_56.map encT)), (6, .int .i64 ((i_7 + 1 : Nat) : Int))] (Sub.cons' rfl (Sub.cons' rfl (Sub.cons' rfl (Sub.cons' rfl (Sub.nil _))))) ?_
        refine g_perm [_, _, _, _] _ ((((pf0 _).trans (pf3 _ _ _ _ _)).trans (pf4 _ _ _ _ _ _)).trans (pf3 _ _ _ _ _)) ?_
        exact IH0 _ _ _ (by omega) ⟨l_56, (i_7 + 1), x_8, (wr (x_9 + (1 : Int))), l_49, u_3, u54_49, u86_56, rfl, rfl, rfl, (by omega), hr⟩
      ·
       refine g_condF rfl ?_
       refine g_skip ?_
       refine g_seq ?_
       refine g_seq ?_
       refine g_run (by kernel_rfl) [(0, .d), (1, .r), (2, .d)] rfl ?_
       refine r_d rfl rfl rfl (s_fieldRef rfl fl_api_Term_0 rfl) ?_
       refine r_r rfl rfl rfl (t_loadRef rfl rfl (.head _) rfl rfl (by exact ty_int) rfl) ?_
       refine r_d rfl rfl rfl (s_cmp rfl rfl rfl rfl) ?_
       refine r_end ?_
       refine g_known 71 true rfl h29_43 ?_
       refine g_condT rfl ?_
       refine g_any (by kernel_rfl) (by kernel_rfl) [(0, .d), (1, .d), (2, .d), (3, .d), (4, .r), (5, .d), (6, .r), (7, .d), (8, .w), (9, .d), (10, .d), (11, .w)] (by kernel_rfl) ?_
       refine r_d rfl rfl rfl (s_move rfl rfl) ?_
       refine r_d rfl rfl rfl (s_move rfl rfl) ?_
       refine r_d rfl rfl rfl (s_nilCheckR rfl rfl) ?_
       refine r_d rfl rfl rfl (s_fieldRef rfl fl_constraintref17_linear_0 rfl) ?_
       refine r_r rfl rfl rfl (t_loadRef rfl rfl (.tail _ (.head _)) rfl rfl (by exact ty_L_int) rfl) ?_
       refine r_d rfl rfl rfl (s_fieldRef rfl fl_api_Term_1 rfl) ?_
       refine r_r rfl rfl rfl (t_loadRef rfl rfl (.head _) rfl rfl (by exact ty_int) rfl) ?_
       refine r_d rfl rfl rfl (m_lit (f := (D.int .i64)) [.tmp 78] [q_18.i] rfl el_L_int rfl rfl (by decide) (by decide) (.cons rfl (Wk.refl _) .nil) (fun _ => rfl) (fun _ => rfl)) ?_
       obtain ⟨l_58, hl_58, hr⟩ := bindS hr
       refine r_w rfl rfl rfl (m_appOwn (f := (D.int .i64)) x_8 [q_18.i] rfl el_L_int rfl rfl (asl rfl) (pf2 _ _ _ _) rfl (fun _ => rfl) hl_58) ?_
       rintro _ _ ⟨u80_58, rfl, rfl⟩
       refine r_d rfl rfl rfl (s_nilCheckR rfl rfl) ?_
       refine r_d rfl rfl rfl (s_fieldRef rfl fl_constraintref17_linear_0 rfl) ?_
       refine r_w01 rfl rfl rfl (t_store _ rfl rfl rfl (Wk.refl _) (pf2 _ _ _ _) rfl rfl (by exact ty_L_int) rfl rfl rfl) ?_
       refine r_end ?_
       refine g_run (by kernel_rfl) [(0, .d), (1, .r), (2, .d), (3, .w), (4, .d)] rfl ?_
       refine r_d rfl rfl rfl (s_move rfl rfl) ?_
       refine r_r rfl rfl rfl (t_loadRef rfl rfl (.tail _ (.tail _ (.head _))) rfl rfl (by exact ty_api_Term) rfl) ?_
       refine r_d rfl rfl rfl (m_lit (f := encT) [.tmp 84] [(T.mk q_18.k q_18.i q_18.s q_18.ar)] rfl el_L_api_Term rfl rfl (by decide) (by decide) (.cons rfl (Wk.ofEq (by show _ = D.agg (fsT _); rw [fsT_eq] <;> rfl)) .nil) sz_encT (fun _ => rfl)) ?_
       obtain ⟨l_60, hl_60, hr⟩ := bindS hr
       refine r_w rfl rfl rfl (m_appOwn (f := encT) out_6 [(T.mk q_18.k q_18.i q_18.s q_18.ar)] rfl el_L_api_Term rfl rfl (asl rfl) (pf4 _ _ _ _ _ _) rfl sz_encT hl_60) ?_
       rintro _ _ ⟨u86_60, rfl, rfl⟩
       refine r_d rfl rfl rfl (s_assign rfl rfl) ?_
       refine r_end ?_
       refine g_inBlock ?_
       refine g_run (by kernel_rfl) [(0, .d), (1, .d), (2, .d)] rfl ?_
       refine r_d rfl rfl rfl (s_move rfl rfl) ?_
       refine r_d rfl rfl rfl (s_ar (r := ((i_7 + 1 : Nat) : Int)) rfl rfl rfl (by simp [iar]) (by omega)) ?_
       refine r_d rfl rfl rfl (s_assign rfl rfl) ?_
       refine r_end ?_
       refine g_sub [(0, .ref b_o0 0 []), (1, .lst (l_a1.map encT)), (5, .own u86_60 (l_60.map encT)), (6, .int .i64 ((i_7 + 1 : Nat) : Int))] (Sub.cons' rfl (Sub.cons' rfl (Sub.cons' rfl (Sub.cons' rfl (Sub.nil _))))) ?_
       refine g_perm [_, _, _, _] _ ((((pf0 _).trans (pf4 _ _ _ _ _ _)).trans (pf3 _ _ _ _ _)).trans (pf3 _ _ _ _ _)) ?_
       exact IH0 _ _ _ (by omega) ⟨l_60, (i_7 + 1), l_58, x_9, x_10, u80_58, u_4, u86_60, rfl, rfl, rfl, (by omega), hr⟩
     ·
      refine r_skip rfl rfl rfl ?_
      refine r_skip rfl rfl rfl ?_
      refine r_skip rfl rfl rfl ?_
      refine r_skip rfl rfl rfl ?_
      refine r_skip rfl rfl rfl ?_
      refine r_skip rfl rfl rfl ?_
      refine r_skip rfl rfl rfl ?_
      refine r_d rfl rfl rfl (s_pickF rfl rfl rfl) ?_
      refine r_end ?_
      refine g_condF rfl ?_
      refine g_skip ?_
      refine g_seq ?_
      refine g_seq ?_
      refine g_run (by kernel_rfl) [(0, .d), (1, .r), (2, .d)] rfl ?_
      refine r_d rfl rfl rfl (s_fieldRef rfl fl_api_Term_0 rfl) ?_
      refine r_r rfl rfl rfl (t_loadRef rfl rfl (.head _) rfl rfl (by exact ty_int) rfl) ?_
      refine r_d rfl rfl rfl (s_cmp rfl rfl rfl rfl) ?_
      refine r_end ?_
      refine g_known 71 false rfl h29_43 ?_
      refine g_condF rfl ?_
      refine g_skip ?_
      refine g_run (by kernel_rfl) [(0, .d), (1, .r), (2, .d), (3, .w), (4, .d)] rfl ?_
      refine r_d rfl rfl rfl (s_move rfl rfl) ?_
      refine r_r rfl rfl rfl (t_loadRef rfl rfl (.head _) rfl rfl (by exact ty_api_Term) rfl) ?_
      refine r_d rfl rfl rfl (m_lit (f := encT) [.tmp 84] [(T.mk q_18.k q_18.i q_18.s q_18.ar)] rfl el_L_api_Term rfl rfl (by decide) (by decide) (.cons rfl (Wk.ofEq (by show _ = D.agg (fsT _); rw [fsT_eq] <;> rfl)) .nil) sz_encT (fun _ => rfl)) ?_
      obtain ⟨l_62, hl_62, hr⟩ := bindS hr
      refine r_w rfl rfl rfl (m_appOwn (f := encT) out_6 [(T.mk q_18.k q_18.i q_18.s q_18.ar)] rfl el_L_api_Term rfl rfl (asl rfl) (pf4 _ _ _ _ _ _) rfl sz_encT hl_62) ?_
      rintro _ _ ⟨u86_62, rfl, rfl⟩
      refine r_d rfl rfl rfl (s_assign rfl rfl) ?_
      refine r_end ?_
      refine g_inBlock ?_
      refine g_run (by kernel_rfl) [(0, .d), (1, .d), (2, .d)] rfl ?_
      refine r_d rfl rfl rfl (s_move rfl rfl) ?_
      refine r_d rfl rfl rfl (s_ar (r := ((i_7 + 1 : Nat) : Int)) rfl rfl rfl (by simp [iar]) (by omega)) ?_
      refine r_d rfl rfl rfl (s_assign rfl rfl) ?_
      refine r_end ?_
      refine g_sub [(0, .ref b_o0 0 []), (1, .lst (l_a1.map encT)), (5, .own u86_62 (l_62.map encT)), (6, .int .i64 ((i_7 + 1 : Nat) : Int))] (Sub.cons' rfl (Sub.cons' rfl (Sub.cons' rfl (Sub.cons' rfl (Sub.nil _))))) ?_
      refine g_perm [_, _, _, _] _ ((((pf0 _).trans (pf4 _ _ _ _ _ _)).trans (pf4 _ _ _ _ _ _)).trans (pf4 _ _ _ _ _ _)) ?_
      exact IH0 _ _ _ (by omega) ⟨l_62, (i_7 + 1), x_8, x_9, x_10, u_3, u_4, u86_62, rfl, rfl, rfl, (by omega), hr⟩
theorem lg_Pconstraintref17_linear_terms_s1 : ∀ (fuel : Nat) (l_a1 : (List T)) (c_0_0 : (List Int)) (c_0_1 : Int) (c_0_2 : (List Gl)) (b_o0 : Nat) (u_o1 : Value) (u_o2 : Value) (res : (List T) × (List Int) × Int × (List Gl)), lf_Pconstraintref17_linear_terms_s1 fuel l_a1 c_0_0 c_0_1 c_0_2 = some res → Spec Tryz.prog 58 [.ref b_o0 0 [], .lst (l_a1.map encT)] [.cell b_o0 (.agg [.own u_o1 (c_0_0.map (D.int .i64)), .int .i64 c_0_1, .own u_o2 (c_0_2.map encG)]), .row u_o1 c_0_0.length 3 1, .row u_o2 c_0_2.length 40 3] (fun d σ => ∃ (u_o1' : Value) (u_o2' : Value), d = .lst (res.1.map encT) ∧ σ = [.cell b_o0 (.agg [.own u_o1' (res.2.1.map (D.int .i64)), .int .i64 res.2.2.1, .own u_o2' (res.2.2.2.map encG)]), .row u_o1' res.2.1.length 3 1, .row u_o2' res.2.2.2.length 40 3])
  | 0, _, _, _, _, _, _, _, _, h => by cases h
  | fuel + 1, l_a1, c_0_0, c_0_1, c_0_2, b_o0, u_o1, u_o2, res, h => lgs_Pconstraintref17_linear_terms_s1 fuel (lf_Pconstraintref17_linear_terms_s1 fuel) (lg_Pconstraintref17_linear_terms_s1 fuel) l_a1 c_0_0 c_0_1 c_0_2 b_o0 u_o1 u_o2 res h

noncomputable def lf_Pconstraintref17_linear_atoms_s1_L0 (k : ((List At)) → ((List Int)) → (Int) → ((List Gl)) → Option ((List At) × (List Int) × Int × (List Gl))) (fuel : Nat) : List At → (List At) → (List Int) → Int → (List Gl) → Option ((List At) × (List Int) × Int × (List Gl))
  | [], out_6, x_8, x_9, x_10 =>
  (k out_6 x_8 x_9 x_10)
  | q_18 :: rest, out_6, x_8, x_9, x_10 =>
  ((lf_Pconstraintref17_linear_terms_s1 fuel q_18.ts x_8 x_9 x_10).bind fun r_19 =>
  ((appO 40 out_6 [(⟨q_18.n, r_19.1⟩ : At)]).bind fun l_22 =>
  (lf_Pconstraintref17_linear_atoms_s1_L0 k fuel rest l_22 r_19.2.1 r_19.2.2.1 r_19.2.2.2)))
noncomputable def lf_Pconstraintref17_linear_atoms_s1 (fuel : Nat) (l_a1 : (List At)) (c_0_0 : (List Int)) (c_0_1 : Int) (c_0_2 : (List Gl)) : Option ((List At) × (List Int) × Int × (List Gl)) :=
  (lf_Pconstraintref17_linear_atoms_s1_L0 (fun out_12 x_15 x_16 x_17 =>
  some (out_12, x_15, x_16, x_17)) fuel l_a1 [] c_0_0 c_0_1 c_0_2)

set_option maxHeartbeats 1000000 in
theorem lg_Pconstraintref17_linear_atoms_s1 (fuel : Nat) (l_a1 : (List At)) (c_0_0 : (List Int)) (c_0_1 : Int) (c_0_2 : (List Gl)) (b_o0 : Nat) (u_o1 : Value) (u_o2 : Value) (res : (List At) × (List Int) × Int × (List Gl)) (hr : lf_Pconstraintref17_linear_atoms_s1 fuel l_a1 c_0_0 c_0_1 c_0_2 = some res) : Spec Tryz.prog 31 [.ref b_o0 0 [], .lst (l_a1.map encA)] [.cell b_o0 (.agg [.own u_o1 (c_0_0.map (D.int .i64)), .int .i64 c_0_1, .own u_o2 (c_0_2.map encG)]), .row u_o1 c_0_0.length 3 1, .row u_o2 c_0_2.length 40 3] (fun d σ => ∃ (u_o1' : Value) (u_o2' : Value), d = .lst (res.1.map encA) ∧ σ = [.cell b_o0 (.agg [.own u_o1' (res.2.1.map (D.int .i64)), .int .i64 res.2.2.1, .own u_o2' (res.2.2.2.map encG)]), .row u_o1' res.2.1.length 3 1, .row u_o2' res.2.2.2.length 40 3]) := by
  unfold lf_Pconstraintref17_linear_atoms_s1 at hr
  refine spec_env [(0, .ref b_o0 0 []), (1, .lst (l_a1.map encA))] Tryz.func31 rfl rfl fun K hK => ?_
  refine g_seq ?_
  refine g_run (by kernel_rfl) [(0, .w)] rfl ?_
  refine r_w rfl rfl rfl (s_nilOwn 36 2 (.inl rfl)) ?_
  rintro _ _ ⟨u4_0, rfl, rfl⟩
  refine r_end ?_
  refine g_seq ?_
  refine g_run (by kernel_rfl) [(0, .w)] rfl ?_
  refine r_w rfl rfl rfl (s_nilOwn 36 2 (.inl rfl)) ?_
  rintro _ _ ⟨u5_1, rfl, rfl⟩
  refine r_end ?_
  refine g_seq ?_
  refine g_seq ?_
  refine g_run (by kernel_rfl) [(0, .d)] rfl ?_
  refine r_d rfl rfl rfl (s_assign rfl rfl) ?_
  refine r_end ?_
  obtain ⟨kk0, hkk0, hr⟩ := exK (fun k => lf_Pconstraintref17_linear_atoms_s1_L0 k fuel l_a1 [] c_0_0 c_0_1 c_0_2) hr
  refine g_len 1 rfl (asl rfl) fun hla0 => ?_
  simp only [List.length_map] at hla0
  refine g_blockJ (fun env σ => ∃ (out_12 : (List At)) (x_15 : (List Int)) (x_16 : Int) (x_17 : (List Gl)) (u_11 : Value) (u_13 : Value) (u_14 : Value), env = [(5, .own u_11 (out_12.map encA))] ∧ σ = [.row u_11 out_12.length 36 2, .cell b_o0 (.agg [.own u_13 (x_15.map (D.int .i64)), .int .i64 x_16, .own u_14 (x_17.map encG)]), .row u_13 x_15.length 3 1, .row u_14 x_17.length 40 3] ∧ kk0 out_12 x_15 x_16 x_17 = some res) ?_ (fun HK0 => ?_)
  ·
   rintro _ _ ⟨out_12, x_15, x_16, x_17, u_11, u_13, u_14, rfl, rfl, hr⟩
   rw [hkk0] at hr
   refine g_seq ?_
   refine g_run (by kernel_rfl) [(0, .d), (1, .d)] rfl ?_
   refine r_d rfl rfl rfl (s_move rfl rfl) ?_
   refine r_d rfl rfl rfl (s_assign rfl rfl) ?_
   refine r_end ?_
   refine g_perm [_, _, _] _ (((pf3 _ _ _ _ _).trans (pf3 _ _ _ _ _)).trans (pf3 _ _ _ _ _)) ?_
   obtain rfl := Option.some.inj hr
   refine g_ret Tryz.func31 _ (.cons (resTmp rfl (Wk.own _ _)) .nil) ?_
   exact ⟨u_13, u_14, rfl, rfl⟩
  ·
   refine g_sub [(0, .ref b_o0 0 []), (1, .lst (l_a1.map encA)), (5, .own u5_1 ([].map encA)), (6, .int .i64 ((0 : Nat) : Int))] (Sub.cons' rfl (Sub.cons' rfl (Sub.cons' rfl (Sub.cons' rfl (Sub.nil _))))) ?_
   refine g_perm [_, _, _, _] _ ((((pf0 _).trans (pf4 _ _ _ _ _ _)).trans (pf4 _ _ _ _ _ _)).trans (pf4 _ _ _ _ _ _)) ?_
   refine g_loop (fun n env σ => ∃ (out_6 : (List At)) (i_7 : Nat) (x_8 : (List Int)) (x_9 : Int) (x_10 : (List Gl)) (u_3 : Value) (u_4 : Value) (u_5 : Value), (n = l_a1.length - i_7) ∧ (env = [(0, .ref b_o0 0 []), (1, .lst (l_a1.map encA)), (5, .own u_5 (out_6.map encA)), (6, .int .i64 (i_7 : Int))]) ∧ (σ = [.cell b_o0 (.agg [.own u_3 (x_8.map (D.int .i64)), .int .i64 x_9, .own u_4 (x_10.map encG)]), .row u_3 x_8.length 3 1, .row u_4 x_10.length 40 3, .row u_5 out_6.length 36 2]) ∧ (i_7 ≤ l_a1.length) ∧ (lf_Pconstraintref17_linear_atoms_s1_L0 kk0 fuel (l_a1.drop i_7) out_6 x_8 x_9 x_10 = some res)) _ ⟨[], 0, c_0_0, c_0_1, c_0_2, u_o1, u_o2, u5_1, rfl, rfl, rfl, Nat.zero_le _, hr⟩ ?_
   rintro n _ _ ⟨out_6, i_7, x_8, x_9, x_10, u_3, u_4, u_5, rfl, rfl, rfl, hi0, hr⟩ IH0
   rcases listStep l_a1 i_7 hi0 with ⟨ht0, hd0, he0⟩ | ⟨q_18, ht0, hd0, hq0, hlt0⟩
   ·
    rw [hd0, lf_Pconstraintref17_linear_atoms_s1_L0] at hr
    refine g_seq ?_
    refine g_seq ?_
    refine g_run (by kernel_rfl) [(0, .d), (1, .d), (2, .d), (3, .d)] rfl ?_
    refine r_d rfl rfl rfl (s_move rfl rfl) ?_
    refine r_d rfl rfl rfl (s_move rfl rfl) ?_
    refine r_d rfl rfl rfl (m_len (f := encA) l_a1 rfl el_L_api_Atom rfl (asl rfl)) ?_
    refine r_d rfl rfl rfl (s_cmp rfl rfl rfl rfl) ?_
    refine r_end ?_
    refine g_known 10 false rfl ht0 ?_
    refine g_condF rfl ?_
    refine g_exit rfl ?_
    refine g_sub [(5, .own u_5 (out_6.map encA))] (Sub.cons' rfl (Sub.nil _)) ?_
    refine g_perm [_, _, _, _] _ ((((pf2 _ _ _ _).trans (pf2 _ _ _ _)).trans (pf2 _ _ _ _)).trans (pf3 _ _ _ _ _)) ?_
    exact HK0 _ _ ⟨out_6, x_8, x_9, x_10, u_5, u_3, u_4, rfl, rfl, hr⟩
   ·
    rw [hd0, lf_Pconstraintref17_linear_atoms_s1_L0] at hr
    refine g_seq ?_
    refine g_seq ?_
    refine g_run (by kernel_rfl) [(0, .d), (1, .d), (2, .d), (3, .d)] rfl ?_
    refine r_d rfl rfl rfl (s_move rfl rfl) ?_
    refine r_d rfl rfl rfl (s_move rfl rfl) ?_
    refine r_d rfl rfl rfl (m_len (f := encA) l_a1 rfl el_L_api_Atom rfl (asl rfl)) ?_
    refine r_d rfl rfl rfl (s_cmp rfl rfl rfl rfl) ?_
    refine r_end ?_
    refine g_known 10 true rfl ht0 ?_
    refine g_condT rfl ?_
    refine g_skip ?_
    refine g_seq ?_
    refine g_block ?_
    refine g_any (by kernel_rfl) (by kernel_rfl) [(0, .d), (1, .d), (2, .d), (3, .d), (4, .d), (5, .d), (6, .d), (7, .d), (8, .d), (9, .d), (10, .d), (11, .d), (12, .w), (13, .d), (14, .d), (15, .w), (16, .d)] (by kernel_rfl) ?_
    refine r_d rfl rfl rfl (s_move rfl rfl) ?_
    refine r_d rfl rfl rfl (s_move rfl rfl) ?_
    refine r_d rfl rfl rfl (s_move rfl rfl) ?_
    refine r_d rfl rfl rfl (m_index (f := encA) l_a1 rfl el_L_api_Atom rfl (asl rfl) rfl hq0 sz_encA rfl) ?_
    refine r_d rfl rfl rfl (s_fieldAddr rfl fl_api_Atom_0 rfl rfl rfl rfl) ?_
    refine r_d rfl rfl rfl (s_load rfl rfl (by exact ty_string) rfl) ?_
    refine r_d rfl rfl rfl (s_move rfl rfl) ?_
    refine r_d rfl rfl rfl (s_move rfl rfl) ?_
    refine r_d rfl rfl rfl (s_move rfl rfl) ?_
    refine r_d rfl rfl rfl (m_index (f := encA) l_a1 rfl el_L_api_Atom rfl (asl rfl) rfl hq0 sz_encA rfl) ?_
    refine r_d rfl rfl rfl (s_fieldAddr rfl fl_api_Atom_1 rfl rfl rfl rfl) ?_
    refine r_d rfl rfl rfl (s_load rfl rfl (by exact ty_L_api_Term) rfl) ?_
    obtain ⟨r_19, hr_19, hr⟩ := bindS hr
    refine r_w rfl rfl rfl (s_call _ rfl cl_Pconstraintref17_linear_terms (.cons rfl (Wk.refl _) (.cons rfl (Wk.refl _) .nil)) (by exact (((pf2 _ _ _ _).trans (pf2 _ _ _ _)).trans (pf2 _ _ _ _))) (lg_Pconstraintref17_linear_terms_s1 fuel _ _ _ _ _ _ _ _ hr_19)) ?_
    rintro _ _ ⟨_, ⟨u25_19, u25_20, rfl, rfl⟩, rfl⟩
    refine r_st ((.cell b_o0 (.agg [.own u25_19 (r_19.2.1.map (D.int .i64)), .int .i64 r_19.2.2.1, .own u25_20 (r_19.2.2.2.map encG)])) :: (.row u25_19 r_19.2.1.length 3 1) :: (.row u25_20 r_19.2.2.2.length 40 3) :: _) rfl ?_
    refine r_d rfl rfl rfl (s_build rfl bt_api_Atom (.cons rfl (Wk.refl _) (.cons rfl (Wk.refl _) .nil)) (.cons rfl rfl rfl (.cons rfl rfl rfl (.nil _)))) ?_
    refine r_d rfl rfl rfl (m_lit (f := encA) [.tmp 26] [(⟨q_18.n, r_19.1⟩ : At)] rfl el_L_api_Atom rfl rfl (by decide) (by decide) (.cons rfl (Wk.refl _) .nil) sz_encA (fun _ => rfl)) ?_
    obtain ⟨l_22, hl_22, hr⟩ := bindS hr
    refine r_w rfl rfl rfl (m_appOwn (f := encA) out_6 [(⟨q_18.n, r_19.1⟩ : At)] rfl el_L_api_Atom rfl rfl (asl rfl) (pf3 _ _ _ _ _) rfl sz_encA hl_22) ?_
    rintro _ _ ⟨u28_22, rfl, rfl⟩
    refine r_d rfl rfl rfl (s_assign rfl rfl) ?_
    refine r_end ?_
    refine g_inBlock ?_
    refine g_run (by kernel_rfl) [(0, .d), (1, .d), (2, .d)] rfl ?_
    refine r_d rfl rfl rfl (s_move rfl rfl) ?_
    refine r_d rfl rfl rfl (s_ar (r := ((i_7 + 1 : Nat) : Int)) rfl rfl rfl (by simp [iar]) (by omega)) ?_
    refine r_d rfl rfl rfl (s_assign rfl rfl) ?_
    refine r_end ?_
    refine g_sub [(0, .ref b_o0 0 []), (1, .lst (l_a1.map encA)), (5, .own u28_22 (l_22.map encA)), (6, .int .i64 ((i_7 + 1 : Nat) : Int))] (Sub.cons' rfl (Sub.cons' rfl (Sub.cons' rfl (Sub.cons' rfl (Sub.nil _))))) ?_
    refine g_perm [_, _, _, _] _ ((((pf0 _).trans (pf3 _ _ _ _ _)).trans (pf3 _ _ _ _ _)).trans (pf3 _ _ _ _ _)) ?_
    exact IH0 _ _ _ (by omega) ⟨l_22, (i_7 + 1), r_19.2.1, r_19.2.2.1, r_19.2.2.2, u25_19, u25_20, u28_22, rfl, rfl, rfl, (by omega), hr⟩

noncomputable def lf_constraintref17_Linear (fuel : Nat) (r_a0 : S_api_Rule) : Option (S_api_Rule) :=
  ((lf_constraintref17_numbered fuel r_a0).bind fun r_2 =>
  (bif (!r_2) then
  some (r_a0)
  else
  ((lf_Pconstraintref17_linear_atoms_s1 fuel r_a0.f1_Keep [] r_a0.f5_Vars []).bind fun r_6 =>
  ((lf_Pconstraintref17_linear_atoms_s1 fuel r_a0.f2_Remove r_6.2.1 r_6.2.2.1 r_6.2.2.2).bind fun r_7 =>
  ((appO 48 [] r_7.2.2.2).bind fun l_8 =>
  ((appO 48 l_8 r_a0.f3_Guard).bind fun l_10 =>
  (bif (decide ((l_10.length : Int) > (12 : Int))) then
  some (r_a0)
  else
  ((lf_constraintref14_Number fuel (⟨r_a0.f0_Name, r_6.1, r_7.1, l_10, r_a0.f4_Body, 0⟩ : S_api_Rule)).bind fun r_13 =>
  some (r_13)))))))))

set_option maxHeartbeats 1000000 in
theorem lg_constraintref17_Linear (fuel : Nat) (r_a0 : S_api_Rule) (res : S_api_Rule) (hr : lf_constraintref17_Linear fuel r_a0 = some res) : Gives Tryz.prog 9 [enc_S_api_Rule r_a0] (enc_S_api_Rule res) := by
  unfold lf_constraintref17_Linear at hr
  refine spec_env [(0, enc_S_api_Rule r_a0)] Tryz.func9 rfl rfl fun K hK => ?_
  refine g_seq ?_
  refine g_run (by kernel_rfl) [(0, .d), (1, .w)] rfl ?_
  refine r_d rfl rfl rfl (s_box rfl rfl rfl) ?_
  refine r_w rfl rfl rfl (s_alloc rfl zv_api_Rule) ?_
  rintro _ _ ⟨b2_0, rfl, rfl⟩
  refine r_end ?_
  refine g_seq ?_
  refine g_seq ?_
  refine g_run (by kernel_rfl) [(0, .d), (1, .d), (2, .d)] rfl ?_
  refine r_d rfl rfl rfl (s_load rfl rfl (by exact ty_api_Rule) (sz_S_api_Rule _)) ?_
  obtain ⟨r_2, hr_2, hr⟩ := bindS hr
  refine r_d rfl rfl rfl (s_callD rfl cl_constraintref17_numbered (.cons rfl (Wk.refl _) .nil) (lg_constraintref17_numbered fuel _ _ hr_2)) ?_
  refine r_d rfl rfl rfl (s_not rfl rfl) ?_
  refine r_end ?_
  refine g_sB 7 rfl hr (fun h7_2 hr => ?_) (fun h7_2 hr => ?_)
  ·
   refine g_condT rfl ?_
   refine g_seq ?_
   refine g_run (by kernel_rfl) [(0, .d), (1, .w)] rfl ?_
   refine r_d rfl rfl rfl (s_load rfl rfl (by exact ty_api_Rule) (sz_S_api_Rule _)) ?_
   refine r_w01 rfl rfl rfl (t_store0 _ rfl rfl rfl (Wk.refl _) (pf0 _) (by exact ty_api_Rule) (sz_S_api_Rule _) rfl rfl) ?_
   refine r_end ?_
   obtain rfl := Option.some.inj hr
   refine g_ret Tryz.func9 _ (.cons (resRef rfl (.head _) (by exact ty_api_Rule) (sz_S_api_Rule _) (Wk.refl _)) .nil) ?_
   rfl
  ·
   refine g_condF rfl ?_
   refine g_skip ?_
   refine g_seq ?_
   refine g_nilRow 3 1 ?_
   refine g_nilRow 40 3 ?_
   refine g_run (by kernel_rfl) [(0, .d), (1, .d), (2, .d), (3, .w), (4, .d)] rfl ?_
   refine r_d rfl rfl rfl (s_fieldAddr rfl fl_api_Rule_5 rfl rfl rfl rfl) ?_
   refine r_d rfl rfl rfl (s_load rfl rfl (by exact ty_int) rfl) ?_
   refine r_d rfl rfl rfl (s_build rfl bo_constraintref17_linear_0_2 (.cons rfl (Wk.refl _) .nil) (.cons rfl rfl rfl (.nil _))) ?_
   refine r_w rfl rfl rfl (s_boxRef rfl rfl rfl) ?_
   rintro _ _ ⟨b12_3, rfl, rfl⟩
   refine r_d rfl rfl rfl (s_assign rfl rfl) ?_
   refine r_end ?_
   refine g_seq ?_
   refine g_nilRow 40 3 ?_
   obtain ⟨r_6, hr_6, hr⟩ := bindS hr
   obtain ⟨r_7, hr_7, hr⟩ := bindS hr
   refine g_plan (by kernel_rfl) (by kernel_rfl) [(0, .d), (1, .d), (2, .d), (3, .d), (4, .d), (6, .d), (7, .d), (8, .d), (10, .d), (11, .d)] (.cons 5 [] (.cons 9 [(12, .d)] (.cons 13 [] (.cons 14 [] .nil .nil) .nil) (.cons 13 [] (.cons 9 [(12, .d)] (.cons 14 [] .nil .nil) .nil) .nil)) (.cons 13 [] (.cons 5 [] (.cons 9 [(12, .d)] (.cons 14 [] .nil .nil) .nil) .nil) .nil)) (by kernel_rfl) (fun env σ => ∃ (b4_r4_4 : Nat) (u22_r4_4_1 : Value) (u22_r4_4_2 : Value), Sub [(1, .ptr (enc_S_api_Rule r_a0)), (2, .ref b2_0 0 []), (3, .ref b12_3 0 []), (4, .ref b4_r4_4 0 [])] env ∧ σ.Perm [.cell b4_r4_4 (.agg [.str r_a0.f0_Name, .lst (r_6.1.map encA), .lst (r_7.1.map encA), .own (.slice none 0 0   ) ([].map encG), .lst (r_a0.f4_Body.map encG), .int .i64 0]), .cell b12_3 (.agg [.own u22_r4_4_1 (r_7.2.1.map (D.int .i64)), .int .i64 r_7.2.2.1, .own u22_r4_4_2 (r_7.2.2.2.map encG)]), .row u22_r4_4_1 r_7.2.1.length 3 1, .row u22_r4_4_2 r_7.2.2.2.length 40 3, .row (.slice none 0 0   ) ([] : List D).length 40 3, .cell b2_0 (.agg [.str ⟨#[]⟩, .lst ([].map encA), .lst ([].map encA), .lst ([].map encG), .lst ([].map encG), .int .i64 0])]) ?_ ?_
   ·
    refine r_d rfl rfl rfl (s_fieldAddr rfl fl_api_Rule_0 rfl rfl rfl rfl) ?_
    refine r_d rfl rfl rfl (s_load rfl rfl (by exact ty_string) rfl) ?_
    refine r_d rfl rfl rfl (s_move rfl rfl) ?_
    refine r_d rfl rfl rfl (s_fieldAddr rfl fl_api_Rule_1 rfl rfl rfl rfl) ?_
    refine r_d rfl rfl rfl (s_load rfl rfl (by exact ty_L_api_Atom) rfl) ?_
    refine r_d rfl rfl rfl (s_move rfl rfl) ?_
    refine r_d rfl rfl rfl (s_fieldAddr rfl fl_api_Rule_2 rfl rfl rfl rfl) ?_
    refine r_d rfl rfl rfl (s_load rfl rfl (by exact ty_L_api_Atom) rfl) ?_
    refine r_d rfl rfl rfl (s_fieldAddr rfl fl_api_Rule_4 rfl rfl rfl rfl) ?_
    refine r_d rfl rfl rfl (s_load rfl rfl (by exact ty_L_api_Goal) rfl) ?_
    refine r_end ?_
    refine p_alt ?_ ?_
    ·
     refine r_w rfl rfl rfl (s_call _ rfl cl_Pconstraintref17_linear_atoms (.cons rfl (Wk.refl _) (.cons rfl (Wk.refl _) .nil)) (by exact (((pf2 _ _ _ _).trans (pf3 _ _ _ _ _)).trans (pf3 _ _ _ _ _))) (lg_Pconstraintref17_linear_atoms_s1 fuel _ _ _ _ _ _ _ _ hr_6)) ?_
     rintro _ _ ⟨_, ⟨u18_r4_4_1, u18_r4_4_2, rfl, rfl⟩, rfl⟩
     refine r_st ((.cell b12_3 (.agg [.own u18_r4_4_1 (r_6.2.1.map (D.int .i64)), .int .i64 r_6.2.2.1, .own u18_r4_4_2 (r_6.2.2.2.map encG)])) :: (.row u18_r4_4_1 r_6.2.1.length 3 1) :: (.row u18_r4_4_2 r_6.2.2.2.length 40 3) :: _) rfl ?_
     refine r_end ?_
     refine p_alt ?_ ?_
     ·
      refine r_w rfl rfl rfl (s_call _ rfl cl_Pconstraintref17_linear_atoms (.cons rfl (Wk.refl _) (.cons rfl (Wk.refl _) .nil)) (by exact (((pf2 _ _ _ _).trans (pf2 _ _ _ _)).trans (pf2 _ _ _ _))) (lg_Pconstraintref17_linear_atoms_s1 fuel _ _ _ _ _ _ _ _ hr_7)) ?_
      rintro _ _ ⟨_, ⟨u22_r4_4_1, u22_r4_4_2, rfl, rfl⟩, rfl⟩
      refine r_st ((.cell b12_3 (.agg [.own u22_r4_4_1 (r_7.2.1.map (D.int .i64)), .int .i64 r_7.2.2.1, .own u22_r4_4_2 (r_7.2.2.2.map encG)])) :: (.row u22_r4_4_1 r_7.2.1.length 3 1) :: (.row u22_r4_4_2 r_7.2.2.2.length 40 3) :: _) rfl ?_
      refine r_d rfl rfl rfl (s_build rfl bo_api_Rule_3 (.cons rfl (Wk.refl _) (.cons rfl (Wk.refl _) (.cons rfl (Wk.refl _) (.cons rfl (Wk.refl _) .nil)))) (.cons rfl rfl rfl (.cons rfl rfl rfl (.cons rfl rfl rfl (.cons rfl rfl rfl (.nil _)))))) ?_
      refine r_end ?_
      refine p_alt ?_ p_no
      refine r_w rfl rfl rfl (s_alloc rfl zv_api_Rule) ?_
      rintro _ _ ⟨b4_r4_4, rfl, rfl⟩
      refine r_end ?_
      refine p_alt ?_ p_no
      refine r_w01 rfl rfl rfl (t_store0 _ rfl rfl rfl (Wk.refl _) (pf0 _) (by exact ty_api_Rule) rfl rfl rfl) ?_
      refine r_end ?_
      refine p_end ?_
      exact ⟨b4_r4_4, u22_r4_4_1, u22_r4_4_2, (Sub.cons' rfl (Sub.cons' rfl (Sub.cons' rfl (Sub.cons' rfl (Sub.nil _))))), ((((((pf5 _ _ _ _ _ _ _).trans (pf5 _ _ _ _ _ _ _)).trans (pf5 _ _ _ _ _ _ _)).trans (pf5 _ _ _ _ _ _ _)).trans (pf5 _ _ _ _ _ _ _)).trans (pf5 _ _ _ _ _ _ _))⟩
     refine p_alt ?_ p_no
     refine r_w rfl rfl rfl (s_alloc rfl zv_api_Rule) ?_
     rintro _ _ ⟨b4_r4_4, rfl, rfl⟩
     refine r_end ?_
     refine p_alt ?_ p_no
     refine r_w rfl rfl rfl (s_call _ rfl cl_Pconstraintref17_linear_atoms (.cons rfl (Wk.refl _) (.cons rfl (Wk.refl _) .nil)) (by exact (((pf3 _ _ _ _ _).trans (pf3 _ _ _ _ _)).trans (pf3 _ _ _ _ _))) (lg_Pconstraintref17_linear_atoms_s1 fuel _ _ _ _ _ _ _ _ hr_7)) ?_
     rintro _ _ ⟨_, ⟨u22_r4_4_1, u22_r4_4_2, rfl, rfl⟩, rfl⟩
     refine r_st ((.cell b12_3 (.agg [.own u22_r4_4_1 (r_7.2.1.map (D.int .i64)), .int .i64 r_7.2.2.1, .own u22_r4_4_2 (r_7.2.2.2.map encG)])) :: (.row u22_r4_4_1 r_7.2.1.length 3 1) :: (.row u22_r4_4_2 r_7.2.2.2.length 40 3) :: _) rfl ?_
     refine r_d rfl rfl rfl (s_build rfl bo_api_Rule_3 (.cons rfl (Wk.refl _) (.cons rfl (Wk.refl _) (.cons rfl (Wk.refl _) (.cons rfl (Wk.refl _) .nil)))) (.cons rfl rfl rfl (.cons rfl rfl rfl (.cons rfl rfl rfl (.cons rfl rfl rfl (.nil _)))))) ?_
     refine r_end ?_
     refine p_alt ?_ p_no
     refine r_w01 rfl rfl rfl (t_store0 _ rfl rfl rfl (Wk.refl _) (pf3 _ _ _ _ _) (by exact ty_api_Rule) rfl rfl rfl) ?_
     refine r_end ?_
     refine p_end ?_
     exact ⟨b4_r4_4, u22_r4_4_1, u22_r4_4_2, (Sub.cons' rfl (Sub.cons' rfl (Sub.cons' rfl (Sub.cons' rfl (Sub.nil _))))), ((((((pf5 _ _ _ _ _ _ _).trans (pf5 _ _ _ _ _ _ _)).trans (pf5 _ _ _ _ _ _ _)).trans (pf5 _ _ _ _ _ _ _)).trans (pf5 _ _ _ _ _ _ _)).trans (pf5 _ _ _ _ _ _ _))⟩
    refine p_alt ?_ p_no
    refine r_w rfl rfl rfl (s_alloc rfl zv_api_Rule) ?_
    rintro _ _ ⟨b4_r4_4, rfl, rfl⟩
    refine r_end ?_
    refine p_alt ?_ p_no
    refine r_w rfl rfl rfl (s_call _ rfl cl_Pconstraintref17_linear_atoms (.cons rfl (Wk.refl _) (.cons rfl (Wk.refl _) .nil)) (by exact (((pf3 _ _ _ _ _).trans (pf4 _ _ _ _ _ _)).trans (pf4 _ _ _ _ _ _))) (lg_Pconstraintref17_linear_atoms_s1 fuel _ _ _ _ _ _ _ _ hr_6)) ?_
    rintro _ _ ⟨_, ⟨u18_r4_4_1, u18_r4_4_2, rfl, rfl⟩, rfl⟩
    refine r_st ((.cell b12_3 (.agg [.own u18_r4_4_1 (r_6.2.1.map (D.int .i64)), .int .i64 r_6.2.2.1, .own u18_r4_4_2 (r_6.2.2.2.map encG)])) :: (.row u18_r4_4_1 r_6.2.1.length 3 1) :: (.row u18_r4_4_2 r_6.2.2.2.length 40 3) :: _) rfl ?_
    refine r_end ?_
    refine p_alt ?_ p_no
    refine r_w rfl rfl rfl (s_call _ rfl cl_Pconstraintref17_linear_atoms (.cons rfl (Wk.refl _) (.cons rfl (Wk.refl _) .nil)) (by exact (((pf2 _ _ _ _).trans (pf2 _ _ _ _)).trans (pf2 _ _ _ _))) (lg_Pconstraintref17_linear_atoms_s1 fuel _ _ _ _ _ _ _ _ hr_7)) ?_
    rintro _ _ ⟨_, ⟨u22_r4_4_1, u22_r4_4_2, rfl, rfl⟩, rfl⟩
    refine r_st ((.cell b12_3 (.agg [.own u22_r4_4_1 (r_7.2.1.map (D.int .i64)), .int .i64 r_7.2.2.1, .own u22_r4_4_2 (r_7.2.2.2.map encG)])) :: (.row u22_r4_4_1 r_7.2.1.length 3 1) :: (.row u22_r4_4_2 r_7.2.2.2.length 40 3) :: _) rfl ?_
    refine r_d rfl rfl rfl (s_build rfl bo_api_Rule_3 (.cons rfl (Wk.refl _) (.cons rfl (Wk.refl _) (.cons rfl (Wk.refl _) (.cons rfl (Wk.refl _) .nil)))) (.cons rfl rfl rfl (.cons rfl rfl rfl (.cons rfl rfl rfl (.cons rfl rfl rfl (.nil _)))))) ?_
    refine r_end ?_
    refine p_alt ?_ p_no
    refine r_w01 rfl rfl rfl (t_store0 _ rfl rfl rfl (Wk.refl _) (pf3 _ _ _ _ _) (by exact ty_api_Rule) rfl rfl rfl) ?_
    refine r_end ?_
    refine p_end ?_
    exact ⟨b4_r4_4, u22_r4_4_1, u22_r4_4_2, (Sub.cons' rfl (Sub.cons' rfl (Sub.cons' rfl (Sub.cons' rfl (Sub.nil _))))), ((((((pf5 _ _ _ _ _ _ _).trans (pf5 _ _ _ _ _ _ _)).trans (pf5 _ _ _ _ _ _ _)).trans (pf5 _ _ _ _ _ _ _)).trans (pf5 _ _ _ _ _ _ _)).trans (pf5 _ _ _ _ _ _ _))⟩
   ·
    rintro _ _ ⟨b4_r4_4, u22_r4_4_1, u22_r4_4_2, hs, hp⟩
    refine g_ends hs hp ?_
    refine g_seq ?_
    refine g_any (by kernel_rfl) (by kernel_rfl) [(0, .d), (1, .r), (2, .d), (3, .d), (4, .d), (5, .r), (6, .w), (7, .d), (8, .w)] (by kernel_rfl) ?_
    refine r_d rfl rfl rfl (s_fieldRef rfl fl_api_Rule_3 rfl) ?_
    refine r_r rfl rfl rfl (t_loadRef rfl rfl (.head _) rfl rfl (by exact ty_L_api_Goal) rfl) ?_
    refine r_d rfl rfl rfl (s_move rfl rfl) ?_
    refine r_d rfl rfl rfl (s_nilCheckR rfl rfl) ?_
    refine r_d rfl rfl rfl (s_fieldRef rfl fl_constraintref17_linear_2 rfl) ?_
    refine r_r rfl rfl rfl (t_loadRef rfl rfl (.tail _ (.head _)) rfl rfl (by exact ty_L_api_Goal) rfl) ?_
    obtain ⟨l_8, hl_8, hr⟩ := bindS hr
    refine r_w rfl rfl rfl (m_appOwn (f := encG) [] r_7.2.2.2 rfl el_L_api_Goal rfl rfl (asl rfl) (pf4 _ _ _ _ _ _) rfl sz_encG hl_8) ?_
    rintro _ _ ⟨u32_8, rfl, rfl⟩
    refine r_d rfl rfl rfl (s_fieldRef rfl fl_api_Rule_3 rfl) ?_
    refine r_w01 rfl rfl rfl (t_store _ rfl rfl rfl (Wk.refl _) (pf1 _ _ _) rfl rfl (by exact ty_L_api_Goal) rfl rfl rfl) ?_
    refine r_end ?_
    refine g_seq ?_
    refine g_run (by kernel_rfl) [(0, .d), (1, .r), (2, .d), (3, .d), (4, .w), (5, .d), (6, .w)] rfl ?_
    refine r_d rfl rfl rfl (s_fieldRef rfl fl_api_Rule_3 rfl) ?_
    refine r_r rfl rfl rfl (t_loadRef rfl rfl (.head _) rfl rfl (by exact ty_L_api_Goal) rfl) ?_
    refine r_d rfl rfl rfl (s_fieldAddr rfl fl_api_Rule_3 rfl rfl rfl rfl) ?_
    refine r_d rfl rfl rfl (s_load rfl rfl (by exact ty_L_api_Goal) rfl) ?_
    obtain ⟨l_10, hl_10, hr⟩ := bindS hr
    refine r_w rfl rfl rfl (m_appOwn (f := encG) l_8 r_a0.f3_Guard rfl el_L_api_Goal rfl rfl (asl rfl) (pf1 _ _ _) rfl sz_encG hl_10) ?_
    rintro _ _ ⟨u38_10, rfl, rfl⟩
    refine r_d rfl rfl rfl (s_fieldRef rfl fl_api_Rule_3 rfl) ?_
    refine r_w01 rfl rfl rfl (t_store _ rfl rfl rfl (Wk.refl _) (pf1 _ _ _) rfl rfl (by exact ty_L_api_Goal) rfl rfl rfl) ?_
    refine r_end ?_
    refine g_seq ?_
    refine g_seq ?_
    refine g_run (by kernel_rfl) [(0, .d), (1, .r), (2, .d), (3, .d)] rfl ?_
    refine r_d rfl rfl rfl (s_fieldRef rfl fl_api_Rule_3 rfl) ?_
    refine r_r rfl rfl rfl (t_loadRef rfl rfl (.head _) rfl rfl (by exact ty_L_api_Goal) rfl) ?_
    refine r_d rfl rfl rfl (m_len (f := encG) l_10 rfl el_L_api_Goal rfl (asl rfl)) ?_
    refine r_d rfl rfl rfl (s_cmp rfl rfl rfl rfl) ?_
    refine r_end ?_
    refine g_sB 43 rfl hr (fun h43_11 hr => ?_) (fun h43_11 hr => ?_)
    ·
     refine g_condT rfl ?_
     refine g_seq ?_
     refine g_run (by kernel_rfl) [(0, .d), (1, .w)] rfl ?_
     refine r_d rfl rfl rfl (s_load rfl rfl (by exact ty_api_Rule) (sz_S_api_Rule _)) ?_
     refine r_w01 rfl rfl rfl (t_store0 _ rfl rfl rfl (Wk.refl _) (pf5 _ _ _ _ _ _ _) (by exact ty_api_Rule) (sz_S_api_Rule _) rfl rfl) ?_
     refine r_end ?_
     obtain rfl := Option.some.inj hr
     refine g_ret Tryz.func9 _ (.cons (resRef rfl (.head _) (by exact ty_api_Rule) (sz_S_api_Rule _) (Wk.refl _)) .nil) ?_
     rfl
    ·
     refine g_condF rfl ?_
     refine g_skip ?_
     refine g_seq ?_
     refine g_run (by kernel_rfl) [(0, .r), (1, .d), (2, .w)] rfl ?_
     refine r_r rfl rfl rfl (t_loadRef rfl rfl (.head _) rfl rfl (by exact ty_api_Rule) rfl) ?_
     obtain ⟨r_13, hr_13, hr⟩ := bindS hr
     refine r_d rfl rfl rfl (s_callD rfl cl_constraintref14_Number (by exact (.cons rfl (Wk.agg (.cons (Wk.refl _) (.cons (Wk.refl _) (.cons (Wk.refl _) (.cons (Wk.own _ _) (.cons (Wk.refl _) (.cons (Wk.refl _) .nil))))))) .nil)) (lg_constraintref14_Number fuel _ _ hr_13)) ?_
     refine r_w01 rfl rfl rfl (t_store0 _ rfl rfl rfl (Wk.refl _) (pf5 _ _ _ _ _ _ _) (by exact ty_api_Rule) (sz_S_api_Rule _) rfl rfl) ?_
     refine r_end ?_
     obtain rfl := Option.some.inj hr
     refine g_ret Tryz.func9 _ (.cons (resRef rfl (.head _) (by exact ty_api_Rule) (sz_S_api_Rule _) (Wk.refl _)) .nil) ?_
     rfl

noncomputable def lf_constraintref03_GoalVars (fuel : Nat) (g_a0 : Gl) : Option ((List Int)) :=
  ((lf_constraintref03_VarsOf fuel g_a0.ts).bind fun r_1 =>
  some (r_1))

set_option maxHeartbeats 1000000 in
theorem lg_constraintref03_GoalVars (fuel : Nat) (g_a0 : Gl) (res : (List Int)) (hr : lf_constraintref03_GoalVars fuel g_a0 = some res) : Gives Tryz.prog 86 [encG g_a0] (.lst (res.map (D.int .i64))) := by
  unfold lf_constraintref03_GoalVars at hr
  refine spec_env [(0, encG g_a0)] Tryz.func86 rfl rfl fun K hK => ?_
  refine g_seq ?_
  refine g_run (by kernel_rfl) [(0, .d), (1, .d)] rfl ?_
  refine r_d rfl rfl rfl (s_box rfl rfl rfl) ?_
  refine r_d rfl rfl rfl (s_assign rfl rfl) ?_
  refine r_end ?_
  refine g_seq ?_
  refine g_run (by kernel_rfl) [(0, .d), (1, .d), (2, .d), (3, .d)] rfl ?_
  refine r_d rfl rfl rfl (s_fieldAddr rfl fl_api_Goal_2 rfl rfl rfl rfl) ?_
  refine r_d rfl rfl rfl (s_load rfl rfl (by exact ty_L_api_Term) rfl) ?_
  obtain ⟨r_1, hr_1, hr⟩ := bindS hr
  refine r_d rfl rfl rfl (s_callD rfl cl_constraintref03_VarsOf (.cons rfl (Wk.refl _) .nil) (lg_constraintref03_VarsOf fuel _ _ hr_1)) ?_
  refine r_d rfl rfl rfl (s_assign rfl rfl) ?_
  refine r_end ?_
  obtain rfl := Option.some.inj hr
  refine g_ret Tryz.func86 _ (.cons (resTmp rfl (Wk.refl _)) .nil) ?_
  rfl

noncomputable def lf_constraintref17_inGoals_L0 (k : Option (Bool)) (fuel : Nat) (v_a1 : Int) : List Gl → Option (Bool)
  | [] =>
  k
  | q_2 :: rest =>
  ((lf_constraintref03_GoalVars fuel q_2).bind fun r_3 =>
  ((lf_constraintref17_has r_3 v_a1).bind fun r_4 =>
  (bif r_4 then
  some (true)
  else
  (lf_constraintref17_inGoals_L0 k fuel v_a1 rest))))
noncomputable def lf_constraintref17_inGoals (fuel : Nat) (l_a0 : (List Gl)) (v_a1 : Int) : Option (Bool) :=
  (lf_constraintref17_inGoals_L0 (some (false)) fuel v_a1 l_a0)

set_option maxHeartbeats 1000000 in
theorem lg_constraintref17_inGoals (fuel : Nat) (l_a0 : (List Gl)) (v_a1 : Int) (res : Bool) (hr : lf_constraintref17_inGoals fuel l_a0 v_a1 = some res) : Gives Tryz.prog 67 [.lst (l_a0.map encG), .int .i64 v_a1] (.bool res) := by
  unfold lf_constraintref17_inGoals at hr
  refine spec_env [(0, .lst (l_a0.map encG)), (1, .int .i64 v_a1)] Tryz.func67 rfl rfl fun K hK => ?_
  refine g_seq ?_
  refine g_run (by kernel_rfl) [(0, .d)] rfl ?_
  refine r_d rfl rfl rfl (s_assign rfl rfl) ?_
  refine r_end ?_
  refine g_seq ?_
  refine g_seq ?_
  refine g_run (by kernel_rfl) [(0, .d)] rfl ?_
  refine r_d rfl rfl rfl (s_assign rfl rfl) ?_
  refine r_end ?_
  obtain ⟨kk0, hkk0, hr⟩ := exK (fun k => lf_constraintref17_inGoals_L0 k fuel v_a1 l_a0) hr
  refine g_len 0 rfl (asl rfl) fun hla0 => ?_
  simp only [List.length_map] at hla0
  refine g_blockJ (fun env σ => env = [] ∧ σ = [] ∧ kk0 = some res) ?_ (fun HK0 => ?_)
  ·
   rintro _ _ ⟨rfl, rfl, hr⟩
   rw [hkk0] at hr
   refine g_seq ?_
   refine g_run (by kernel_rfl) [(0, .d)] rfl ?_
   refine r_d rfl rfl rfl (s_assign rfl rfl) ?_
   refine r_end ?_
   obtain rfl := Option.some.inj hr
   refine g_ret Tryz.func67 _ (.cons (resTmp rfl (Wk.refl _)) .nil) ?_
   rfl
  ·
   refine g_sub [(0, .lst (l_a0.map encG)), (1, .int .i64 v_a1), (5, .int .i64 ((0 : Nat) : Int))] (Sub.cons' rfl (Sub.cons' rfl (Sub.cons' rfl (Sub.nil _)))) ?_
   refine g_loop (fun n env σ => ∃ (i_1 : Nat), (n = l_a0.length - i_1) ∧ (env = [(0, .lst (l_a0.map encG)), (1, .int .i64 v_a1), (5, .int .i64 (i_1 : Int))]) ∧ (σ = []) ∧ (i_1 ≤ l_a0.length) ∧ (lf_constraintref17_inGoals_L0 kk0 fuel v_a1 (l_a0.drop i_1) = some res)) _ ⟨0, rfl, rfl, rfl, Nat.zero_le _, hr⟩ ?_
   rintro n _ _ ⟨i_1, rfl, rfl, rfl, hi0, hr⟩ IH0
   rcases listStep l_a0 i_1 hi0 with ⟨ht0, hd0, he0⟩ | ⟨q_2, ht0, hd0, hq0, hlt0⟩
   ·
    rw [hd0, lf_constraintref17_inGoals_L0] at hr
    refine g_seq ?_
    refine g_seq ?_
    refine g_run (by kernel_rfl) [(0, .d), (1, .d), (2, .d), (3, .d)] rfl ?_
    refine r_d rfl rfl rfl (s_move rfl rfl) ?_
    refine r_d rfl rfl rfl (s_move rfl rfl) ?_
    refine r_d rfl rfl rfl (m_len (f := encG) l_a0 rfl el_L_api_Goal rfl (asl rfl)) ?_
    refine r_d rfl rfl rfl (s_cmp rfl rfl rfl rfl) ?_
    refine r_end ?_
    refine g_known 9 false rfl ht0 ?_
    refine g_condF rfl ?_
    refine g_exit rfl ?_
    refine g_sub [] (Sub.nil _) ?_
    exact HK0 _ _ ⟨rfl, rfl, hr⟩
   ·
    rw [hd0, lf_constraintref17_inGoals_L0] at hr
    refine g_seq ?_
    refine g_seq ?_
    refine g_run (by kernel_rfl) [(0, .d), (1, .d), (2, .d), (3, .d)] rfl ?_
    refine r_d rfl rfl rfl (s_move rfl rfl) ?_
    refine r_d rfl rfl rfl (s_move rfl rfl) ?_
    refine r_d rfl rfl rfl (m_len (f := encG) l_a0 rfl el_L_api_Goal rfl (asl rfl)) ?_
    refine r_d rfl rfl rfl (s_cmp rfl rfl rfl rfl) ?_
    refine r_end ?_
    refine g_known 9 true rfl ht0 ?_
    refine g_condT rfl ?_
    refine g_skip ?_
    refine g_seq ?_
    refine g_block ?_
    refine g_seq ?_
    refine g_run (by kernel_rfl) [(0, .d), (1, .d), (2, .d), (3, .d), (4, .d), (5, .d), (6, .d)] rfl ?_
    refine r_d rfl rfl rfl (s_move rfl rfl) ?_
    refine r_d rfl rfl rfl (s_move rfl rfl) ?_
    refine r_d rfl rfl rfl (m_index (f := encG) l_a0 rfl el_L_api_Goal rfl (asl rfl) rfl hq0 sz_encG rfl) ?_
    refine r_d rfl rfl rfl (s_load rfl rfl (by exact ty_api_Goal) (sz_encG _)) ?_
    obtain ⟨r_3, hr_3, hr⟩ := bindS hr
    refine r_d rfl rfl rfl (s_callD rfl cl_constraintref03_GoalVars (.cons rfl (Wk.refl _) .nil) (lg_constraintref03_GoalVars fuel _ _ hr_3)) ?_
    refine r_d rfl rfl rfl (s_move rfl rfl) ?_
    obtain ⟨r_4, hr_4, hr⟩ := bindS hr
    refine r_d rfl rfl rfl (s_callD rfl cl_constraintref17_has (.cons rfl (Wk.refl _) (.cons rfl (Wk.refl _) .nil)) (lg_constraintref17_has _ _ _ hr_4)) ?_
    refine r_end ?_
    refine g_sB 18 rfl hr (fun h18_4 hr => ?_) (fun h18_4 hr => ?_)
    ·
     refine g_condT rfl ?_
     refine g_seq ?_
     refine g_run (by kernel_rfl) [(0, .d)] rfl ?_
     refine r_d rfl rfl rfl (s_assign rfl rfl) ?_
     refine r_end ?_
     obtain rfl := Option.some.inj hr
     refine g_ret Tryz.func67 _ (.cons (resTmp rfl (Wk.refl _)) .nil) ?_
     rfl
    ·
     refine g_condF rfl ?_
     refine g_skip ?_
     refine g_inBlock ?_
     refine g_run (by kernel_rfl) [(0, .d), (1, .d), (2, .d)] rfl ?_
     refine r_d rfl rfl rfl (s_move rfl rfl) ?_
     refine r_d rfl rfl rfl (s_ar (r := ((i_1 + 1 : Nat) : Int)) rfl rfl rfl (by simp [iar]) (by omega)) ?_
     refine r_d rfl rfl rfl (s_assign rfl rfl) ?_
     refine r_end ?_
     refine g_sub [(0, .lst (l_a0.map encG)), (1, .int .i64 v_a1), (5, .int .i64 ((i_1 + 1 : Nat) : Int))] (Sub.cons' rfl (Sub.cons' rfl (Sub.cons' rfl (Sub.nil _)))) ?_
     exact IH0 _ _ _ (by omega) ⟨(i_1 + 1), rfl, rfl, rfl, (by omega), hr⟩

noncomputable def lf_constraintref17_joining_L0 (k : (Int) → Option (Bool)) (q_7 : T) : List Int → Int → Option (Bool)
  | [], n_13 =>
  (k n_13)
  | q_23 :: rest, n_13 =>
  (bif (q_23 == q_7.i) then
  (lf_constraintref17_joining_L0 k q_7 rest (wr (n_13 + (1 : Int))))
  else
  (lf_constraintref17_joining_L0 k q_7 rest n_13))
noncomputable def lf_constraintref17_joining (fuel : Nat) (r_a0 : S_api_Rule) : Option (Bool) :=
  (bif ((r_a0.f3_Guard.length : Int) == (0 : Int)) then
  some (false)
  else
  ((getI r_a0.f3_Guard 0).bind fun q_2 =>
  (bif (q_2.op != (5 : Int)) then
  some (false)
  else
  ((x_rightG q_2).bind fun r_4 =>
  (bif (!r_4) then
  some (false)
  else
  ((getI q_2.ts 0).bind fun q_7 =>
  ((getI q_2.ts 1).bind fun q_8 =>
  (bif (q_7.k != (1 : Int)) then
  some (false)
  else
  (bif (q_8.k != (1 : Int)) then
  some (false)
  else
  (bif (q_7.i == q_8.i) then
  some (false)
  else
  ((lf_constraintref17_inHeads fuel r_a0).bind fun r_12 =>
  (lf_constraintref17_joining_L0 (fun n_15 =>
  (bif (n_15 == (1 : Int)) then
  ((lf_constraintref17_has r_12 q_8.i).bind fun r_17 =>
  (bif r_17 then
  ((subO r_a0.f3_Guard 1 (r_a0.f3_Guard.length : Int)).bind fun l_19 =>
  ((lf_constraintref17_inGoals fuel l_19 q_7.i).bind fun r_20 =>
  (bif (!r_20) then
  ((lf_constraintref17_inGoals fuel r_a0.f4_Body q_7.i).bind fun r_22 =>
  some ((!r_22)))
  else
  some (false))))
  else
  some (false)))
  else
  some (false))) q_7 r_12 0))))))))))))

set_option maxHeartbeats 1000000 in
theorem lg_constraintref17_joining (fuel : Nat) (r_a0 : S_api_Rule) (res : Bool) (hr : lf_constraintref17_joining fuel r_a0 = some res) : Gives Tryz.prog 38 [enc_S_api_Rule r_a0] (.bool res) := by
  unfold lf_constraintref17_joining at hr
  refine spec_env [(0, enc_S_api_Rule r_a0)] Tryz.func38 rfl rfl fun K hK => ?_
  refine g_seq ?_
  refine g_run (by kernel_rfl) [(0, .d), (1, .d)] rfl ?_
  refine r_d rfl rfl rfl (s_box rfl rfl rfl) ?_
  refine r_d rfl rfl rfl (s_assign rfl rfl) ?_
  refine r_end ?_
  refine g_seq ?_
  refine g_seq ?_
  refine g_run (by kernel_rfl) [(0, .d), (1, .d), (2, .d), (3, .d), (4, .d), (5, .d), (6, .d), (7, .d), (8, .d), (9, .d), (10, .d), (11, .d), (12, .d), (13, .d), (14, .d), (15, .d), (16, .d), (17, .d), (18, .d), (19, .d)] rfl ?_
  refine r_d rfl rfl rfl (s_fieldAddr rfl fl_api_Rule_3 rfl rfl rfl rfl) ?_
  refine r_d rfl rfl rfl (s_load rfl rfl (by exact ty_L_api_Goal) rfl) ?_
  refine r_d rfl rfl rfl (m_len (f := encG) r_a0.f3_Guard rfl el_L_api_Goal rfl (asl rfl)) ?_
  refine r_d rfl rfl rfl (s_cmp rfl rfl rfl rfl) ?_
  refine r_d rfl rfl rfl (s_move rfl rfl) ?_
  refine r_sB 12 rfl hr (fun h12_0 hr => ?_) (fun h12_0 hr => ?_)
  ·
   refine r_skip rfl rfl rfl ?_
   refine r_skip rfl rfl rfl ?_
   refine r_skip rfl rfl rfl ?_
   refine r_skip rfl rfl rfl ?_
   refine r_skip rfl rfl rfl ?_
   refine r_skip rfl rfl rfl ?_
   refine r_d rfl rfl rfl (s_pickT rfl rfl rfl) ?_
   refine r_d rfl rfl rfl (s_move rfl rfl) ?_
   refine r_skip rfl rfl rfl ?_
   refine r_skip rfl rfl rfl ?_
   refine r_skip rfl rfl rfl ?_
   refine r_skip rfl rfl rfl ?_
   refine r_skip rfl rfl rfl ?_
   refine r_skip rfl rfl rfl ?_
   refine r_d rfl rfl rfl (s_pickT rfl rfl rfl) ?_
   refine r_end ?_
   refine g_condT rfl ?_
   refine g_seq ?_
   refine g_run (by kernel_rfl) [(0, .d)] rfl ?_
   refine r_d rfl rfl rfl (s_assign rfl rfl) ?_
   refine r_end ?_
   obtain rfl := Option.some.inj hr
   refine g_ret Tryz.func38 _ (.cons (resTmp rfl (Wk.refl _)) .nil) ?_
   rfl
  ·
   refine r_d rfl rfl rfl (s_fieldAddr rfl fl_api_Rule_3 rfl rfl rfl rfl) ?_
   refine r_d rfl rfl rfl (s_load rfl rfl (by exact ty_L_api_Goal) rfl) ?_
   obtain ⟨q_2, hq_2, hr⟩ := bindS hr
   refine r_d rfl rfl rfl (m_index (f := encG) r_a0.f3_Guard rfl el_L_api_Goal rfl (asl rfl) rfl hq_2 sz_encG rfl) ?_
   refine r_d rfl rfl rfl (s_fieldAddr rfl fl_api_Goal_0 rfl rfl rfl rfl) ?_
   refine r_d rfl rfl rfl (s_load rfl rfl (by exact ty_int) rfl) ?_
   refine r_d rfl rfl rfl (s_cmp rfl rfl rfl rfl) ?_
   refine r_d rfl rfl rfl (s_pickF rfl rfl rfl) ?_
   refine r_d rfl rfl rfl (s_move rfl rfl) ?_
   refine r_sB 20 rfl hr (fun h20_2 hr => ?_) (fun h20_2 hr => ?_)
   ·
    refine r_skip rfl rfl rfl ?_
    refine r_skip rfl rfl rfl ?_
    refine r_skip rfl rfl rfl ?_
    refine r_skip rfl rfl rfl ?_
    refine r_skip rfl rfl rfl ?_
    refine r_skip rfl rfl rfl ?_
    refine r_d rfl rfl rfl (s_pickT rfl rfl rfl) ?_
    refine r_end ?_
    refine g_condT rfl ?_
    refine g_seq ?_
    refine g_run (by kernel_rfl) [(0, .d)] rfl ?_
    refine r_d rfl rfl rfl (s_assign rfl rfl) ?_
    refine r_end ?_
    obtain rfl := Option.some.inj hr
    refine g_ret Tryz.func38 _ (.cons (resTmp rfl (Wk.refl _)) .nil) ?_
    rfl
   ·
    refine r_d rfl rfl rfl (s_fieldAddr rfl fl_api_Rule_3 rfl rfl rfl rfl) ?_
    refine r_d rfl rfl rfl (s_load rfl rfl (by exact ty_L_api_Goal) rfl) ?_
    refine r_d rfl rfl rfl (m_index (f := encG) r_a0.f3_Guard rfl el_L_api_Goal rfl (asl rfl) rfl hq_2 sz_encG rfl) ?_
    refine r_d rfl rfl rfl (s_load rfl rfl (by exact ty_api_Goal) (sz_encG _)) ?_
    obtain ⟨r_4, hr_4, hr⟩ := bindS hr
    refine r_d rfl rfl rfl (s_callD rfl cl_constraintref03_RightGoal (.cons rfl (Wk.refl _) .nil) (lx_constraintref03_RightGoal _ _ hr_4)) ?_
    refine r_d rfl rfl rfl (s_not rfl rfl) ?_
    refine r_d rfl rfl rfl (s_pickF rfl rfl rfl) ?_
    refine r_end ?_
    refine g_sB 27 rfl hr (fun h27_4 hr => ?_) (fun h27_4 hr => ?_)
    ·
     refine g_condT rfl ?_
     refine g_seq ?_
     refine g_run (by kernel_rfl) [(0, .d)] rfl ?_
     refine r_d rfl rfl rfl (s_assign rfl rfl) ?_
     refine r_end ?_
     obtain rfl := Option.some.inj hr
     refine g_ret Tryz.func38 _ (.cons (resTmp rfl (Wk.refl _)) .nil) ?_
     rfl
    ·
     refine g_condF rfl ?_
     refine g_skip ?_
     refine g_seq ?_
     obtain ⟨q_7, hq_7, hr⟩ := bindS hr
     obtain ⟨q_8, hq_8, hr⟩ := bindS hr
     refine g_two (by kernel_rfl) (by kernel_rfl) [(0, .d), (1, .d), (2, .d), (3, .d), (4, .d), (5, .d), (6, .d), (7, .d), (8, .d), (9, .d), (10, .d), (11, .d), (12, .d), (13, .d)] [(14, .x), (15, .w), (16, .w), (17, .w)] [(15, .x), (14, .w), (16, .w), (17, .w)] (by kernel_rfl) (fun env σ => ∃ (b4_r3_5 : Nat) (b3_r3_5 : Nat), Sub [(1, .ptr (enc_S_api_Rule r_a0)), (3, .ref b3_r3_5 0 []), (4, .ref b4_r3_5 0 [])] env ∧ σ.Perm [.cell b4_r3_5 (encT q_8), .cell b3_r3_5 (encT q_7)]) ?_ ?_
     ·
      refine r_d rfl rfl rfl (s_fieldAddr rfl fl_api_Rule_3 rfl rfl rfl rfl) ?_
      refine r_d rfl rfl rfl (s_load rfl rfl (by exact ty_L_api_Goal) rfl) ?_
      refine r_d rfl rfl rfl (m_index (f := encG) r_a0.f3_Guard rfl el_L_api_Goal rfl (asl rfl) rfl hq_2 sz_encG rfl) ?_
      refine r_d rfl rfl rfl (s_fieldAddr rfl fl_api_Goal_2 rfl rfl rfl rfl) ?_
      refine r_d rfl rfl rfl (s_load rfl rfl (by exact ty_L_api_Term) rfl) ?_
      refine r_d rfl rfl rfl (m_index (f := encT) q_2.ts rfl el_L_api_Term rfl (asl rfl) rfl hq_7 sz_encT rfl) ?_
      refine r_d rfl rfl rfl (s_load rfl rfl (by exact ty_api_Term) (sz_encT _)) ?_
      refine r_d rfl rfl rfl (s_fieldAddr rfl fl_api_Rule_3 rfl rfl rfl rfl) ?_
      refine r_d rfl rfl rfl (s_load rfl rfl (by exact ty_L_api_Goal) rfl) ?_
      refine r_d rfl rfl rfl (m_index (f := encG) r_a0.f3_Guard rfl el_L_api_Goal rfl (asl rfl) rfl hq_2 sz_encG rfl) ?_
      refine r_d rfl rfl rfl (s_fieldAddr rfl fl_api_Goal_2 rfl rfl rfl rfl) ?_
      refine r_d rfl rfl rfl (s_load rfl rfl (by exact ty_L_api_Term) rfl) ?_
      refine r_d rfl rfl rfl (m_index (f := encT) q_2.ts rfl el_L_api_Term rfl (asl rfl) rfl hq_8 sz_encT rfl) ?_
      refine r_d rfl rfl rfl (s_load rfl rfl (by exact ty_api_Term) (sz_encT _)) ?_
      refine r_end ⟨?_, ?_⟩
      ·
       refine r_x rfl rfl rfl (s_alloc rfl zv_api_Term) ?_
       rintro _ _ ⟨b3_r3_5, rfl, rfl⟩
       refine r_w rfl rfl rfl (s_alloc rfl zv_api_Term) ?_
       rintro _ _ ⟨b4_r3_5, rfl, rfl⟩
       refine r_w01 rfl rfl rfl (t_store0 _ rfl rfl rfl (Wk.refl _) (pf1 _ _ _) (by exact ty_api_Term) (sz_encT _) rfl rfl) ?_
       refine r_w01 rfl rfl rfl (t_store0 _ rfl rfl rfl (Wk.refl _) (pf1 _ _ _) (by exact ty_api_Term) (sz_encT _) rfl rfl) ?_
       refine r_end ?_
       exact ⟨b4_r3_5, b3_r3_5, (Sub.cons' rfl (Sub.cons' rfl (Sub.cons' rfl (Sub.nil _)))), ((pf1 _ _ _).trans (pf1 _ _ _))⟩
      ·
       refine r_x rfl rfl rfl (s_alloc rfl zv_api_Term) ?_
       rintro _ _ ⟨b4_r3_5, rfl, rfl⟩
       refine r_w rfl rfl rfl (s_alloc rfl zv_api_Term) ?_
       rintro _ _ ⟨b3_r3_5, rfl, rfl⟩
       refine r_w01 rfl rfl rfl (t_store0 _ rfl rfl rfl (Wk.refl _) (pf0 _) (by exact ty_api_Term) (sz_encT _) rfl rfl) ?_
       refine r_w01 rfl rfl rfl (t_store0 _ rfl rfl rfl (Wk.refl _) (pf1 _ _ _) (by exact ty_api_Term) (sz_encT _) rfl rfl) ?_
       refine r_end ?_
       exact ⟨b4_r3_5, b3_r3_5, (Sub.cons' rfl (Sub.cons' rfl (Sub.cons' rfl (Sub.nil _)))), ((pf1 _ _ _).trans (pf1 _ _ _))⟩
     ·
      rintro _ _ ⟨b4_r3_5, b3_r3_5, hs, hp⟩
      refine g_ends hs hp ?_
      refine g_freeze 3 b3_r3_5 rfl (pf1 _ _ _) ?_
      refine g_freeze 4 b4_r3_5 rfl (pf0 _) ?_
      refine g_seq ?_
      refine g_seq ?_
      refine g_run (by kernel_rfl) [(0, .d), (1, .d), (2, .d), (3, .d), (4, .d), (5, .d), (6, .d), (7, .d), (8, .d), (9, .d), (10, .d), (11, .d), (12, .d), (13, .d), (14, .d)] rfl ?_
      refine r_d rfl rfl rfl (s_fieldAddr rfl fl_api_Term_0 rfl (fsT_get0 _) (fsT_off0 _) rfl) ?_
      refine r_d rfl rfl rfl (s_load rfl rfl (by exact ty_int) rfl) ?_
      refine r_d rfl rfl rfl (s_cmp rfl rfl rfl rfl) ?_
      refine r_d rfl rfl rfl (s_move rfl rfl) ?_
      refine r_sB 45 rfl hr (fun h45_8 hr => ?_) (fun h45_8 hr => ?_)
      ·
       refine r_skip rfl rfl rfl ?_
       refine r_skip rfl rfl rfl ?_
       refine r_skip rfl rfl rfl ?_
       refine r_d rfl rfl rfl (s_pickT rfl rfl rfl) ?_
       refine r_d rfl rfl rfl (s_move rfl rfl) ?_
       refine r_skip rfl rfl rfl ?_
       refine r_skip rfl rfl rfl ?_
       refine r_skip rfl rfl rfl ?_
       refine r_skip rfl rfl rfl ?_
       refine r_skip rfl rfl rfl ?_
       refine r_d rfl rfl rfl (s_pickT rfl rfl rfl) ?_
       refine r_end ?_
       refine g_condT rfl ?_
       refine g_seq ?_
       refine g_run (by kernel_rfl) [(0, .d)] rfl ?_
       refine r_d rfl rfl rfl (s_assign rfl rfl) ?_
       refine r_end ?_
       obtain rfl := Option.some.inj hr
       refine g_ret Tryz.func38 _ (.cons (resTmp rfl (Wk.refl _)) .nil) ?_
       rfl
      ·
       refine r_d rfl rfl rfl (s_fieldAddr rfl fl_api_Term_0 rfl (fsT_get0 _) (fsT_off0 _) rfl) ?_
       refine r_d rfl rfl rfl (s_load rfl rfl (by exact ty_int) rfl) ?_
       refine r_d rfl rfl rfl (s_cmp rfl rfl rfl rfl) ?_
       refine r_d rfl rfl rfl (s_pickF rfl rfl rfl) ?_
       refine r_d rfl rfl rfl (s_move rfl rfl) ?_
       refine r_sB 50 rfl hr (fun h50_9 hr => ?_) (fun h50_9 hr => ?_)
       ·
        refine r_skip rfl rfl rfl ?_
        refine r_skip rfl rfl rfl ?_
        refine r_skip rfl rfl rfl ?_
        refine r_skip rfl rfl rfl ?_
        refine r_skip rfl rfl rfl ?_
        refine r_d rfl rfl rfl (s_pickT rfl rfl rfl) ?_
        refine r_end ?_
        refine g_condT rfl ?_
        refine g_seq ?_
        refine g_run (by kernel_rfl) [(0, .d)] rfl ?_
        refine r_d rfl rfl rfl (s_assign rfl rfl) ?_
        refine r_end ?_
        obtain rfl := Option.some.inj hr
        refine g_ret Tryz.func38 _ (.cons (resTmp rfl (Wk.refl _)) .nil) ?_
        rfl
       ·
        refine r_d rfl rfl rfl (s_fieldAddr rfl fl_api_Term_1 rfl (fsT_get1 _) (fsT_off1 _) rfl) ?_
        refine r_d rfl rfl rfl (s_load rfl rfl (by exact ty_int) rfl) ?_
        refine r_d rfl rfl rfl (s_fieldAddr rfl fl_api_Term_1 rfl (fsT_get1 _) (fsT_off1 _) rfl) ?_
        refine r_d rfl rfl rfl (s_load rfl rfl (by exact ty_int) rfl) ?_
        refine r_d rfl rfl rfl (s_cmp rfl rfl rfl rfl) ?_
        refine r_d rfl rfl rfl (s_pickF rfl rfl rfl) ?_
        refine r_end ?_
        refine g_sB 56 rfl hr (fun h56_10 hr => ?_) (fun h56_10 hr => ?_)
        ·
         refine g_condT rfl ?_
         refine g_seq ?_
         refine g_run (by kernel_rfl) [(0, .d)] rfl ?_
         refine r_d rfl rfl rfl (s_assign rfl rfl) ?_
         refine r_end ?_
         obtain rfl := Option.some.inj hr
         refine g_ret Tryz.func38 _ (.cons (resTmp rfl (Wk.refl _)) .nil) ?_
         rfl
        ·
         refine g_condF rfl ?_
         refine g_skip ?_
         refine g_seq ?_
         refine g_run (by kernel_rfl) [(0, .d), (1, .d), (2, .d), (3, .d)] rfl ?_
         refine r_d rfl rfl rfl (s_load rfl rfl (by exact ty_api_Rule) (sz_S_api_Rule _)) ?_
         obtain ⟨r_12, hr_12, hr⟩ := bindS hr
         refine r_d rfl rfl rfl (s_callD rfl cl_constraintref17_inHeads (.cons rfl (Wk.refl _) .nil) (lg_constraintref17_inHeads fuel _ _ hr_12)) ?_
         refine r_d rfl rfl rfl (s_assign rfl rfl) ?_
         refine r_d rfl rfl rfl (s_assign rfl rfl) ?_
         refine r_end ?_
         refine g_seq ?_
         refine g_seq ?_
         refine g_run (by kernel_rfl) [(0, .d)] rfl ?_
         refine r_d rfl rfl rfl (s_assign rfl rfl) ?_
         refine r_end ?_
         obtain ⟨kk0, hkk0, hr⟩ := exK (fun k => lf_constraintref17_joining_L0 k q_7 r_12 0) hr
         refine g_len 58 rfl (asl rfl) fun hla0 => ?_
         simp only [List.length_map] at hla0
         refine g_blockJ (fun env σ => ∃ (n_15 : Int), env = [(1, .ptr (enc_S_api_Rule r_a0)), (3, .ptr (encT q_7)), (4, .ptr (encT q_8)), (5, .int .i64 n_15), (6, .lst (r_12.map (D.int .i64)))] ∧ σ = [] ∧ kk0 n_15 = some res) ?_ (fun HK0 => ?_)
         ·
          rintro _ _ ⟨n_15, rfl, rfl, hr⟩
          rw [hkk0] at hr
          refine g_seq ?_
          refine g_any (by kernel_rfl) (by kernel_rfl) [(0, .d), (1, .d), (2, .d), (3, .d), (4, .d), (5, .d), (6, .d), (7, .d), (8, .d), (9, .d), (10, .d), (11, .d), (12, .d), (13, .d), (14, .d), (15, .d), (16, .d), (17, .d), (18, .d), (19, .d), (20, .d), (21, .d), (22, .d), (23, .d), (24, .d), (25, .d)] (by kernel_rfl) ?_
          refine r_d rfl rfl rfl (s_move rfl rfl) ?_
          refine r_d rfl rfl rfl (s_cmp rfl rfl rfl rfl) ?_
          refine r_d rfl rfl rfl (s_move rfl rfl) ?_
          refine r_sB 76 rfl hr (fun h76_15 hr => ?_) (fun h76_15 hr => ?_)
          ·
           refine r_d rfl rfl rfl (s_move rfl rfl) ?_
           refine r_d rfl rfl rfl (s_fieldAddr rfl fl_api_Term_1 rfl (fsT_get1 _) (fsT_off1 _) rfl) ?_
           refine r_d rfl rfl rfl (s_load rfl rfl (by exact ty_int) rfl) ?_
           obtain ⟨r_17, hr_17, hr⟩ := bindS hr
           refine r_d rfl rfl rfl (s_callD rfl cl_constraintref17_has (.cons rfl (Wk.refl _) (.cons rfl (Wk.refl _) .nil)) (lg_constraintref17_has _ _ _ hr_17)) ?_
           refine r_d rfl rfl rfl (s_pickT rfl rfl rfl) ?_
           refine r_d rfl rfl rfl (s_move rfl rfl) ?_
           refine r_sB 82 rfl hr (fun h82_17 hr => ?_) (fun h82_17 hr => ?_)
           ·
            refine r_d rfl rfl rfl (s_fieldAddr rfl fl_api_Rule_3 rfl rfl rfl rfl) ?_
            refine r_d rfl rfl rfl (s_load rfl rfl (by exact ty_L_api_Goal) rfl) ?_
            obtain ⟨l_19, hl_19, hr⟩ := bindS hr
            refine r_d rfl rfl rfl (m_sub (f := encG) r_a0.f3_Guard 1 (r_a0.f3_Guard.length : Int) rfl el_L_api_Goal rfl (asl rfl) (bl_some rfl) bh_none sz_encG hl_19) ?_
            refine r_d rfl rfl rfl (s_fieldAddr rfl fl_api_Term_1 rfl (fsT_get1 _) (fsT_off1 _) rfl) ?_
            refine r_d rfl rfl rfl (s_load rfl rfl (by exact ty_int) rfl) ?_
            obtain ⟨r_20, hr_20, hr⟩ := bindS hr
            refine r_d rfl rfl rfl (s_callD rfl cl_constraintref17_inGoals (.cons rfl (Wk.refl _) (.cons rfl (Wk.refl _) .nil)) (lg_constraintref17_inGoals fuel _ _ _ hr_20)) ?_
            refine r_d rfl rfl rfl (s_not rfl rfl) ?_
            refine r_d rfl rfl rfl (s_pickT rfl rfl rfl) ?_
            refine r_d rfl rfl rfl (s_move rfl rfl) ?_
            refine r_sB 91 rfl hr (fun h91_20 hr => ?_) (fun h91_20 hr => ?_)
            ·
             refine r_d rfl rfl rfl (s_fieldAddr rfl fl_api_Rule_4 rfl rfl rfl rfl) ?_
             refine r_d rfl rfl rfl (s_load rfl rfl (by exact ty_L_api_Goal) rfl) ?_
             refine r_d rfl rfl rfl (s_fieldAddr rfl fl_api_Term_1 rfl (fsT_get1 _) (fsT_off1 _) rfl) ?_
             refine r_d rfl rfl rfl (s_load rfl rfl (by exact ty_int) rfl) ?_
             obtain ⟨r_22, hr_22, hr⟩ := bindS hr
             refine r_d rfl rfl rfl (s_callD rfl cl_constraintref17_inGoals (.cons rfl (Wk.refl _) (.cons rfl (Wk.refl _) .nil)) (lg_constraintref17_inGoals fuel _ _ _ hr_22)) ?_
             refine r_d rfl rfl rfl (s_not rfl rfl) ?_
             refine r_d rfl rfl rfl (s_pickT rfl rfl rfl) ?_
             refine r_d rfl rfl rfl (s_assign rfl rfl) ?_
             refine r_end ?_
             obtain rfl := Option.some.inj hr
             refine g_ret Tryz.func38 _ (.cons (resTmp rfl (Wk.refl _)) .nil) ?_
             rfl
            ·
             refine r_skip rfl rfl rfl ?_
             refine r_skip rfl rfl rfl ?_
             refine r_skip rfl rfl rfl ?_
             refine r_skip rfl rfl rfl ?_
             refine r_skip rfl rfl rfl ?_
             refine r_skip rfl rfl rfl ?_
             refine r_d rfl rfl rfl (s_pickF rfl rfl rfl) ?_
             refine r_d rfl rfl rfl (s_assign rfl rfl) ?_
             refine r_end ?_
             obtain rfl := Option.some.inj hr
             refine g_ret Tryz.func38 _ (.cons (resTmp rfl (Wk.refl _)) .nil) ?_
             rfl
           ·
            refine r_skip rfl rfl rfl ?_
            refine r_skip rfl rfl rfl ?_
            refine r_skip rfl rfl rfl ?_
            refine r_skip rfl rfl rfl ?_
            refine r_skip rfl rfl rfl ?_
            refine r_skip rfl rfl rfl ?_
            refine r_skip rfl rfl rfl ?_
            refine r_d rfl rfl rfl (s_pickF rfl rfl rfl) ?_
            refine r_d rfl rfl rfl (s_move rfl rfl) ?_
            refine r_skip rfl rfl rfl ?_
            refine r_skip rfl rfl rfl ?_
            refine r_skip rfl rfl rfl ?_
            refine r_skip rfl rfl rfl ?_
            refine r_skip rfl rfl rfl ?_
            refine r_skip rfl rfl rfl ?_
            refine r_d rfl rfl rfl (s_pickF rfl rfl rfl) ?_
            refine r_d rfl rfl rfl (s_assign rfl rfl) ?_
            refine r_end ?_
            obtain rfl := Option.some.inj hr
            refine g_ret Tryz.func38 _ (.cons (resTmp rfl (Wk.refl _)) .nil) ?_
            rfl
          ·
           refine r_skip rfl rfl rfl ?_
           refine r_skip rfl rfl rfl ?_
           refine r_skip rfl rfl rfl ?_
           refine r_skip rfl rfl rfl ?_
           refine r_d rfl rfl rfl (s_pickF rfl rfl rfl) ?_
           refine r_d rfl rfl rfl (s_move rfl rfl) ?_
           refine r_skip rfl rfl rfl ?_
           refine r_skip rfl rfl rfl ?_
           refine r_skip rfl rfl rfl ?_
           refine r_skip rfl rfl rfl ?_
           refine r_skip rfl rfl rfl ?_
           refine r_skip rfl rfl rfl ?_
           refine r_skip rfl rfl rfl ?_
           refine r_d rfl rfl rfl (s_pickF rfl rfl rfl) ?_
           refine r_d rfl rfl rfl (s_move rfl rfl) ?_
           refine r_skip rfl rfl rfl ?_
           refine r_skip rfl rfl rfl ?_
           refine r_skip rfl rfl rfl ?_
           refine r_skip rfl rfl rfl ?_
           refine r_skip rfl rfl rfl ?_
           refine r_skip rfl rfl rfl ?_
           refine r_d rfl rfl rfl (s_pickF rfl rfl rfl) ?_
           refine r_d rfl rfl rfl (s_assign rfl rfl) ?_
           refine r_end ?_
           obtain rfl := Option.some.inj hr
           refine g_ret Tryz.func38 _ (.cons (resTmp rfl (Wk.refl _)) .nil) ?_
           rfl
         ·
          refine g_sub [(1, .ptr (enc_S_api_Rule r_a0)), (3, .ptr (encT q_7)), (4, .ptr (encT q_8)), (6, .lst (r_12.map (D.int .i64))), (5, .int .i64 0), (7, .int .i64 ((0 : Nat) : Int))] (Sub.cons' rfl (Sub.cons' rfl (Sub.cons' rfl (Sub.cons' rfl (Sub.cons' rfl (Sub.cons' rfl (Sub.nil _))))))) ?_
          refine g_loop (fun n env σ => ∃ (n_13 : Int) (i_14 : Nat), (n = r_12.length - i_14) ∧ (env = [(1, .ptr (enc_S_api_Rule r_a0)), (3, .ptr (encT q_7)), (4, .ptr (encT q_8)), (6, .lst (r_12.map (D.int .i64))), (5, .int .i64 n_13), (7, .int .i64 (i_14 : Int))]) ∧ (σ = []) ∧ (i_14 ≤ r_12.length) ∧ (lf_constraintref17_joining_L0 kk0 q_7 (r_12.drop i_14) n_13 = some res)) _ ⟨0, 0, rfl, rfl, rfl, Nat.zero_le _, hr⟩ ?_
          rintro n _ _ ⟨n_13, i_14, rfl, rfl, rfl, hi0, hr⟩ IH0
          rcases listStep r_12 i_14 hi0 with ⟨ht0, hd0, he0⟩ | ⟨q_23, ht0, hd0, hq0, hlt0⟩
          ·
           rw [hd0, lf_constraintref17_joining_L0] at hr
           refine g_seq ?_
           refine g_seq ?_
           refine g_run (by kernel_rfl) [(0, .d), (1, .d), (2, .d), (3, .d)] rfl ?_
           refine r_d rfl rfl rfl (s_move rfl rfl) ?_
           refine r_d rfl rfl rfl (s_move rfl rfl) ?_
           refine r_d rfl rfl rfl (m_len (f := (D.int .i64)) r_12 rfl el_L_int rfl (asl rfl)) ?_
           refine r_d rfl rfl rfl (s_cmp rfl rfl rfl rfl) ?_
           refine r_end ?_
           refine g_known 62 false rfl ht0 ?_
           refine g_condF rfl ?_
           refine g_exit rfl ?_
           refine g_sub [(1, .ptr (enc_S_api_Rule r_a0)), (3, .ptr (encT q_7)), (4, .ptr (encT q_8)), (5, .int .i64 n_13), (6, .lst (r_12.map (D.int .i64)))] (Sub.cons' rfl (Sub.cons' rfl (Sub.cons' rfl (Sub.cons' rfl (Sub.cons' rfl (Sub.nil _)))))) ?_
           exact HK0 _ _ ⟨n_13, rfl, rfl, hr⟩
          ·
           rw [hd0, lf_constraintref17_joining_L0] at hr
           refine g_seq ?_
           refine g_seq ?_
           refine g_run (by kernel_rfl) [(0, .d), (1, .d), (2, .d), (3, .d)] rfl ?_
           refine r_d rfl rfl rfl (s_move rfl rfl) ?_
           refine r_d rfl rfl rfl (s_move rfl rfl) ?_
           refine r_d rfl rfl rfl (m_len (f := (D.int .i64)) r_12 rfl el_L_int rfl (asl rfl)) ?_
           refine r_d rfl rfl rfl (s_cmp rfl rfl rfl rfl) ?_
           refine r_end ?_
           refine g_known 62 true rfl ht0 ?_
           refine g_condT rfl ?_
           refine g_skip ?_
           refine g_seq ?_
           refine g_block ?_
           refine g_seq ?_
           refine g_any (by kernel_rfl) (by kernel_rfl) [(0, .d), (1, .d), (2, .d), (3, .d), (4, .d), (5, .d), (6, .d)] (by kernel_rfl) ?_
           refine r_d rfl rfl rfl (s_move rfl rfl) ?_
           refine r_d rfl rfl rfl (s_move rfl rfl) ?_
           refine r_d rfl rfl rfl (m_index (f := (D.int .i64)) r_12 rfl el_L_int rfl (asl rfl) rfl hq0 (fun _ => rfl) rfl) ?_
           refine r_d rfl rfl rfl (s_load rfl rfl (by exact ty_int) rfl) ?_
           refine r_d rfl rfl rfl (s_fieldAddr rfl fl_api_Term_1 rfl (fsT_get1 _) (fsT_off1 _) rfl) ?_
           refine r_d rfl rfl rfl (s_load rfl rfl (by exact ty_int) rfl) ?_
           refine r_d rfl rfl rfl (s_cmp rfl rfl rfl rfl) ?_
           refine r_end ?_
           refine g_sB 71 rfl hr (fun h71_23 hr => ?_) (fun h71_23 hr => ?_)
           ·
            refine g_condT rfl ?_
            refine g_run (by kernel_rfl) [(0, .d), (1, .d), (2, .d)] rfl ?_
            refine r_d rfl rfl rfl (s_move rfl rfl) ?_
            refine r_d rfl rfl rfl (s_arW rfl rfl rfl rfl) ?_
            refine r_d rfl rfl rfl (s_assign rfl rfl) ?_
            refine r_end ?_
            refine g_inBlock ?_
            refine g_run (by kernel_rfl) [(0, .d), (1, .d), (2, .d)] rfl ?_
            refine r_d rfl rfl rfl (s_move rfl rfl) ?_
            refine r_d rfl rfl rfl (s_ar (r := ((i_14 + 1 : Nat) : Int)) rfl rfl rfl (by simp [iar]) (by omega)) ?_
            refine r_d rfl rfl rfl (s_assign rfl rfl) ?_
            refine r_end ?_
            refine g_sub [(1, .ptr (enc_S_api_Rule r_a0)), (3, .ptr (encT q_7)), (4, .ptr (encT q_8)), (6, .lst (r_12.map (D.int .i64))), (5, .int .i64 (wr (n_13 + (1 : Int)))), (7, .int .i64 ((i_14 + 1 : Nat) : Int))] (Sub.cons' rfl (Sub.cons' rfl (Sub.cons' rfl (Sub.cons' rfl (Sub.cons' rfl (Sub.cons' rfl (Sub.nil _))))))) ?_
            exact IH0 _ _ _ (by omega) ⟨(wr (n_13 + (1 : Int))), (i_14 + 1), rfl, rfl, rfl, (by omega), hr⟩
           ·
            refine g_condF rfl ?_
            refine g_skip ?_
            refine g_inBlock ?_
            refine g_run (by kernel_rfl) [(0, .d), (1, .d), (2, .d)] rfl ?_
            refine r_d rfl rfl rfl (s_move rfl rfl) ?_
            refine r_d rfl rfl rfl (s_ar (r := ((i_14 + 1 : Nat) : Int)) rfl rfl rfl (by simp [iar]) (by omega)) ?_
            refine r_d rfl rfl rfl (s_assign rfl rfl) ?_
            refine r_end ?_
            refine g_sub [(1, .ptr (enc_S_api_Rule r_a0)), (3, .ptr (encT q_7)), (4, .ptr (encT q_8)), (6, .lst (r_12.map (D.int .i64))), (5, .int .i64 n_13), (7, .int .i64 ((i_14 + 1 : Nat) : Int))] (Sub.cons' rfl (Sub.cons' rfl (Sub.cons' rfl (Sub.cons' rfl (Sub.cons' rfl (Sub.cons' rfl (Sub.nil _))))))) ?_
            exact IH0 _ _ _ (by omega) ⟨n_13, (i_14 + 1), rfl, rfl, rfl, (by omega), hr⟩

noncomputable def lf_constraintref17_put_L0 (k : ((List T)) → Option ((List T))) (rec : (List T) → Int → Int → Option ((List T))) (x_a1 : Int) (y_a2 : Int) : List T → (List T) → Option ((List T))
  | [], out_4 =>
  (k out_4)
  | q_8 :: rest, out_4 =>
  (bif (q_8.k == (1 : Int)) then
  (bif (q_8.i == x_a1) then
  ((lf_constraintref03_Var y_a2).bind fun r_12 =>
  (bif (r_12.k == (2 : Int)) then
  ((rec r_12.ar x_a1 y_a2).bind fun r_14 =>
  ((appO 56 out_4 [(T.mk r_12.k r_12.i r_12.s r_14)]).bind fun l_15 =>
  (lf_constraintref17_put_L0 k rec x_a1 y_a2 rest l_15)))
  else
  ((appO 56 out_4 [(T.mk r_12.k r_12.i r_12.s r_12.ar)]).bind fun l_17 =>
  (lf_constraintref17_put_L0 k rec x_a1 y_a2 rest l_17))))
  else
  (bif (q_8.k == (2 : Int)) then
  ((rec q_8.ar x_a1 y_a2).bind fun r_20 =>
  ((appO 56 out_4 [(T.mk q_8.k q_8.i q_8.s r_20)]).bind fun l_21 =>
  (lf_constraintref17_put_L0 k rec x_a1 y_a2 rest l_21)))
  else
  ((appO 56 out_4 [(T.mk q_8.k q_8.i q_8.s q_8.ar)]).bind fun l_23 =>
  (lf_constraintref17_put_L0 k rec x_a1 y_a2 rest l_23))))
  else
  (bif (q_8.k == (2 : Int)) then
  ((rec q_8.ar x_a1 y_a2).bind fun r_26 =>
  ((appO 56 out_4 [(T.mk q_8.k q_8.i q_8.s r_26)]).bind fun l_27 =>
  (lf_constraintref17_put_L0 k rec x_a1 y_a2 rest l_27)))
  else
  ((appO 56 out_4 [(T.mk q_8.k q_8.i q_8.s q_8.ar)]).bind fun l_29 =>
  (lf_constraintref17_put_L0 k rec x_a1 y_a2 rest l_29))))
noncomputable def lf_constraintref17_put : Nat → (List T) → Int → Int → Option ((List T))
  | 0, _, _, _ => none
  | fuel + 1, l_a0, x_a1, y_a2 =>
    (fun (rec : (List T) → Int → Int → Option ((List T))) =>
      (lf_constraintref17_put_L0 (fun out_7 =>
      some (out_7)) rec x_a1 y_a2 l_a0 [])) (lf_constraintref17_put fuel)

set_option maxHeartbeats 1000000 in
theorem lgs_constraintref17_put (fuel : Nat) (rec : (List T) → Int → Int → Option ((List T))) (IHR : ∀ (l_a0 : (List T)) (x_a1 : Int) (y_a2 : Int) (res : (List T)), rec l_a0 x_a1 y_a2 = some res → Gives Tryz.prog 68 [.lst (l_a0.map encT), .int .i64 x_a1, .int .i64 y_a2] (.lst (res.map encT))) (l_a0 : (List T)) (x_a1 : Int) (y_a2 : Int) (res : (List T))
    (hr : (lf_constraintref17_put_L0 (fun out_7 =>
some (out_7)) rec x_a1 y_a2 l_a0 []) = some res) : Gives Tryz.prog 68 [.lst (l_a0.map encT), .int .i64 x_a1, .int .i64 y_a2] (.lst (res.map encT)) := by
  refine spec_env [(0, .lst (l_a0.map encT)), (1, .int .i64 x_a1), (2, .int .i64 y_a2)] Tryz.func68 rfl rfl fun K hK => ?_
  refine g_seq ?_
  refine g_run (by kernel_rfl) [(0, .w)] rfl ?_
  refine r_w rfl rfl rfl (s_nilOwn 42 4 (.inl rfl)) ?_
  rintro _ _ ⟨u6_0, rfl, rfl⟩
  refine r_end ?_
  refine g_seq ?_
  refine g_run (by kernel_rfl) [(0, .w)] rfl ?_
  refine r_w rfl rfl rfl (s_nilOwn 42 4 (.inl rfl)) ?_
  rintro _ _ ⟨u7_1, rfl, rfl⟩
  refine r_end ?_
  refine g_seq ?_
  refine g_seq ?_
  refine g_run (by kernel_rfl) [(0, .d)] rfl ?_
  refine r_d rfl rfl rfl (s_assign rfl rfl) ?_
  refine r_end ?_
  obtain ⟨kk0, hkk0, hr⟩ := exK (fun k => lf_constraintref17_put_L0 k rec x_a1 y_a2 l_a0 []) hr
  refine g_len 0 rfl (asl rfl) fun hla0 => ?_
  simp only [List.length_map] at hla0
  refine g_blockJ (fun env σ => ∃ (out_7 : (List T)) (u_6 : Value), env = [(7, .own u_6 (out_7.map encT))] ∧ σ = [.row u_6 out_7.length 42 4] ∧ kk0 out_7 = some res) ?_ (fun HK0 => ?_)
  ·
   rintro _ _ ⟨out_7, u_6, rfl, rfl, hr⟩
   rw [hkk0] at hr
   refine g_seq ?_
   refine g_run (by kernel_rfl) [(0, .d), (1, .d)] rfl ?_
   refine r_d rfl rfl rfl (s_move rfl rfl) ?_
   refine r_d rfl rfl rfl (s_assign rfl rfl) ?_
   refine r_end ?_
   obtain rfl := Option.some.inj hr
   refine g_ret Tryz.func68 _ (.cons (resTmp rfl (Wk.own _ _)) .nil) ?_
   rfl
  ·
   refine g_sub [(0, .lst (l_a0.map encT)), (1, .int .i64 x_a1), (2, .int .i64 y_a2), (7, .own u7_1 ([].map encT)), (8, .int .i64 ((0 : Nat) : Int))] (Sub.cons' rfl (Sub.cons' rfl (Sub.cons' rfl (Sub.cons' rfl (Sub.cons' rfl (Sub.nil _)))))) ?_
   refine g_perm [_] _ (pf0 _) ?_
   refine g_loop (fun n env σ => ∃ (out_4 : (List T)) (i_5 : Nat) (u_3 : Value), (n = l_a0.length - i_5) ∧ (env = [(0, .lst (l_a0.map encT)), (1, .int .i64 x_a1), (2, .int .i64 y_a2), (7, .own u_3 (out_4.map encT)), (8, .int .i64 (i_5 : Int))]) ∧ (σ = [.row u_3 out_4.length 42 4]) ∧ (i_5 ≤ l_a0.length) ∧ (lf_constraintref17_put_L0 kk0 rec x_a1 y_a2 (l_a0.drop i_5) out_4 = some res)) _ ⟨[], 0, u7_1, rfl, rfl, rfl, Nat.zero_le _, hr⟩ ?_
   rintro n _ _ ⟨out_4, i_5, u_3, rfl, rfl, rfl, hi0, hr⟩ IH0
   rcases listStep l_a0 i_5 hi0 with ⟨ht0, hd0, he0⟩ | ⟨q_8, ht0, hd0, hq0, hlt0⟩
   ·
    rw [hd0, lf_constraintref17_put_L0] at hr
    refine g_seq ?_
    refine g_seq ?_
    refine g_run (by kernel_rfl) [(0, .d), (1, .d), (2, .d), (3, .d)] rfl ?_
    refine r_d rfl rfl rfl (s_move rfl rfl) ?_
    refine r_d rfl rfl rfl (s_move rfl rfl) ?_
    refine r_d rfl rfl rfl (m_len (f := encT) l_a0 rfl el_L_api_Term rfl (asl rfl)) ?_
    refine r_d rfl rfl rfl (s_cmp rfl rfl rfl rfl) ?_
    refine r_end ?_
    refine g_known 13 false rfl ht0 ?_
    refine g_condF rfl ?_
    refine g_exit rfl ?_
    refine g_sub [(7, .own u_3 (out_4.map encT))] (Sub.cons' rfl (Sub.nil _)) ?_
    exact HK0 _ _ ⟨out_4, u_3, rfl, rfl, hr⟩
   ·
    rw [hd0, lf_constraintref17_put_L0] at hr
    refine g_seq ?_
    refine g_seq ?_
    refine g_run (by kernel_rfl) [(0, .d), (1, .d), (2, .d), (3, .d)] rfl ?_
    refine r_d rfl rfl rfl (s_move rfl rfl) ?_
    refine r_d rfl rfl rfl (s_move rfl rfl) ?_
    refine r_d rfl rfl rfl (m_len (f := encT) l_a0 rfl el_L_api_Term rfl (asl rfl)) ?_
    refine r_d rfl rfl rfl (s_cmp rfl rfl rfl rfl) ?_
    refine r_end ?_
    refine g_known 13 true rfl ht0 ?_
    refine g_condT rfl ?_
    refine g_skip ?_
    refine g_seq ?_
    refine g_block ?_
    refine g_seq ?_
    refine g_run (by kernel_rfl) [(0, .d), (1, .d), (2, .d), (3, .d), (4, .w), (5, .w)] rfl ?_
    refine r_d rfl rfl rfl (s_move rfl rfl) ?_
    refine r_d rfl rfl rfl (s_move rfl rfl) ?_
    refine r_d rfl rfl rfl (m_index (f := encT) l_a0 rfl el_L_api_Term rfl (asl rfl) rfl hq0 sz_encT rfl) ?_
    refine r_d rfl rfl rfl (s_load rfl rfl (by exact ty_api_Term) (sz_encT _)) ?_
    refine r_w rfl rfl rfl (s_alloc rfl zv_api_Term) ?_
    rintro _ _ ⟨b9_8, rfl, rfl⟩
    refine r_w01 rfl rfl rfl (t_store0 _ rfl rfl rfl (Wk.refl _) (pf0 _) (by exact ty_api_Term) (sz_encT _) rfl rfl) ?_
    refine r_st [.cell b9_8 (.agg [.int .i64 q_8.k, .int .i64 q_8.i, .str q_8.s, .lst (q_8.ar.map encT)]), .row u_3 out_4.length 42 4] (by first | (simp only [encT, fsT_eq]; done) | (simp only [encT, fsT_eq]; rfl)) ?_
    refine r_end ?_
    refine g_seq ?_
    refine g_seq ?_
    refine g_run (by kernel_rfl) [(0, .d), (1, .r), (2, .d), (3, .d), (4, .d), (5, .r), (6, .d), (7, .d), (8, .d)] rfl ?_
    refine r_d rfl rfl rfl (s_fieldRef rfl fl_api_Term_0 rfl) ?_
    refine r_r rfl rfl rfl (t_loadRef rfl rfl (.head _) rfl rfl (by exact ty_int) rfl) ?_
    refine r_d rfl rfl rfl (s_cmp rfl rfl rfl rfl) ?_
    refine r_d rfl rfl rfl (s_move rfl rfl) ?_
    refine r_sB 23 rfl hr (fun h23_9 hr => ?_) (fun h23_9 hr => ?_)
    ·
     refine r_d rfl rfl rfl (s_fieldRef rfl fl_api_Term_1 rfl) ?_
     refine r_r rfl rfl rfl (t_loadRef rfl rfl (.head _) rfl rfl (by exact ty_int) rfl) ?_
     refine r_d rfl rfl rfl (s_move rfl rfl) ?_
     refine r_d rfl rfl rfl (s_cmp rfl rfl rfl rfl) ?_
     refine r_d rfl rfl rfl (s_pickT rfl rfl rfl) ?_
     refine r_end ?_
     refine g_sB 28 rfl hr (fun h28_10 hr => ?_) (fun h28_10 hr => ?_)
     ·
      refine g_condT rfl ?_
      refine g_run (by kernel_rfl) [(0, .d), (1, .d), (2, .w)] rfl ?_
      refine r_d rfl rfl rfl (s_move rfl rfl) ?_
      obtain ⟨r_12, hr_12, hr⟩ := bindS hr
      refine r_d rfl rfl rfl (s_callD rfl cl_constraintref03_Var (.cons rfl (Wk.refl _) .nil) (lg_constraintref03_Var _ _ hr_12)) ?_
      refine r_w01 rfl rfl rfl (t_store0 _ rfl rfl rfl (Wk.refl _) (pf0 _) (by exact ty_api_Term) (sz_encT _) rfl rfl) ?_
      refine r_st [.cell b9_8 (.agg [.int .i64 r_12.k, .int .i64 r_12.i, .str r_12.s, .lst (r_12.ar.map encT)]), .row u_3 out_4.length 42 4] (by first | (simp only [encT, fsT_eq]; done) | (simp only [encT, fsT_eq]; rfl)) ?_
      refine r_end ?_
      refine g_seq ?_
      refine g_seq ?_
      refine g_run (by kernel_rfl) [(0, .d), (1, .r), (2, .d)] rfl ?_
      refine r_d rfl rfl rfl (s_fieldRef rfl fl_api_Term_0 rfl) ?_
      refine r_r rfl rfl rfl (t_loadRef rfl rfl (.head _) rfl rfl (by exact ty_int) rfl) ?_
      refine r_d rfl rfl rfl (s_cmp rfl rfl rfl rfl) ?_
      refine r_end ?_
      refine g_sB 33 rfl hr (fun h33_12 hr => ?_) (fun h33_12 hr => ?_)
      ·
       refine g_condT rfl ?_
       refine g_run (by kernel_rfl) [(0, .d), (1, .r), (2, .d), (3, .d), (4, .d), (5, .d), (6, .w)] rfl ?_
       refine r_d rfl rfl rfl (s_fieldRef rfl fl_api_Term_3 rfl) ?_
       refine r_r rfl rfl rfl (t_loadRef rfl rfl (.head _) rfl rfl (by exact ty_L_api_Term) rfl) ?_
       refine r_d rfl rfl rfl (s_move rfl rfl) ?_
       refine r_d rfl rfl rfl (s_move rfl rfl) ?_
       obtain ⟨r_14, hr_14, hr⟩ := bindS hr
       refine r_d rfl rfl rfl (s_callD rfl cl_constraintref17_put (.cons rfl (Wk.refl _) (.cons rfl (Wk.refl _) (.cons rfl (Wk.refl _) .nil))) (IHR _ _ _ _ hr_14)) ?_
       refine r_d rfl rfl rfl (s_fieldRef rfl fl_api_Term_3 rfl) ?_
       refine r_w01 rfl rfl rfl (t_store _ rfl rfl rfl (Wk.refl _) (pf0 _) rfl rfl (by exact ty_L_api_Term) rfl rfl rfl) ?_
       refine r_end ?_
       refine g_run (by kernel_rfl) [(0, .d), (1, .r), (2, .d), (3, .w), (4, .d)] rfl ?_
       refine r_d rfl rfl rfl (s_move rfl rfl) ?_
       refine r_r rfl rfl rfl (t_loadRef rfl rfl (.head _) rfl rfl (by exact ty_api_Term) rfl) ?_
       refine r_d rfl rfl rfl (m_lit (f := encT) [.tmp 41] [(T.mk r_12.k r_12.i r_12.s r_14)] rfl el_L_api_Term rfl rfl (by decide) (by decide) (.cons rfl (Wk.ofEq (by show _ = D.agg (fsT _); rw [fsT_eq] <;> rfl)) .nil) sz_encT (fun _ => rfl)) ?_
       obtain ⟨l_15, hl_15, hr⟩ := bindS hr
       refine r_w rfl rfl rfl (m_appOwn (f := encT) out_4 [(T.mk r_12.k r_12.i r_12.s r_14)] rfl el_L_api_Term rfl rfl (asl rfl) (pf1 _ _ _) rfl sz_encT hl_15) ?_
       rintro _ _ ⟨u43_15, rfl, rfl⟩
       refine r_d rfl rfl rfl (s_assign rfl rfl) ?_
       refine r_end ?_
       refine g_inBlock ?_
       refine g_run (by kernel_rfl) [(0, .d), (1, .d), (2, .d)] rfl ?_
       refine r_d rfl rfl rfl (s_move rfl rfl) ?_
       refine r_d rfl rfl rfl (s_ar (r := ((i_5 + 1 : Nat) : Int)) rfl rfl rfl (by simp [iar]) (by omega)) ?_
       refine r_d rfl rfl rfl (s_assign rfl rfl) ?_
       refine r_end ?_
       refine g_sub [(0, .lst (l_a0.map encT)), (1, .int .i64 x_a1), (2, .int .i64 y_a2), (7, .own u43_15 (l_15.map encT)), (8, .int .i64 ((i_5 + 1 : Nat) : Int))] (Sub.cons' rfl (Sub.cons' rfl (Sub.cons' rfl (Sub.cons' rfl (Sub.cons' rfl (Sub.nil _)))))) ?_
       refine g_perm [_] _ (pf0 _) ?_
       exact IH0 _ _ _ (by omega) ⟨l_15, (i_5 + 1), u43_15, rfl, rfl, rfl, (by omega), hr⟩
      ·
       refine g_condF rfl ?_
       refine g_skip ?_
       refine g_run (by kernel_rfl) [(0, .d), (1, .r), (2, .d), (3, .w), (4, .d)] rfl ?_
       refine r_d rfl rfl rfl (s_move rfl rfl) ?_
       refine r_r rfl rfl rfl (t_loadRef rfl rfl (.head _) rfl rfl (by exact ty_api_Term) rfl) ?_
       refine r_d rfl rfl rfl (m_lit (f := encT) [.tmp 41] [(T.mk r_12.k r_12.i r_12.s r_12.ar)] rfl el_L_api_Term rfl rfl (by decide) (by decide) (.cons rfl (Wk.ofEq (by show _ = D.agg (fsT _); rw [fsT_eq] <;> rfl)) .nil) sz_encT (fun _ => rfl)) ?_
       obtain ⟨l_17, hl_17, hr⟩ := bindS hr
       refine r_w rfl rfl rfl (m_appOwn (f := encT) out_4 [(T.mk r_12.k r_12.i r_12.s r_12.ar)] rfl el_L_api_Term rfl rfl (asl rfl) (pf1 _ _ _) rfl sz_encT hl_17) ?_
       rintro _ _ ⟨u43_17, rfl, rfl⟩
       refine r_d rfl rfl rfl (s_assign rfl rfl) ?_
       refine r_end ?_
       refine g_inBlock ?_
       refine g_run (by kernel_rfl) [(0, .d), (1, .d), (2, .d)] rfl ?_
       refine r_d rfl rfl rfl (s_move rfl rfl) ?_
       refine r_d rfl rfl rfl (s_ar (r := ((i_5 + 1 : Nat) : Int)) rfl rfl rfl (by simp [iar]) (by omega)) ?_
       refine r_d rfl rfl rfl (s_assign rfl rfl) ?_
       refine r_end ?_
       refine g_sub [(0, .lst (l_a0.map encT)), (1, .int .i64 x_a1), (2, .int .i64 y_a2), (7, .own u43_17 (l_17.map encT)), (8, .int .i64 ((i_5 + 1 : Nat) : Int))] (Sub.cons' rfl (Sub.cons' rfl (Sub.cons' rfl (Sub.cons' rfl (Sub.cons' rfl (Sub.nil _)))))) ?_
       refine g_perm [_] _ (pf0 _) ?_
       exact IH0 _ _ _ (by omega) ⟨l_17, (i_5 + 1), u43_17, rfl, rfl, rfl, (by omega), hr⟩
     ·
      refine g_condF rfl ?_
      refine g_skip ?_
      refine g_seq ?_
      refine g_seq ?_
      refine g_run (by kernel_rfl) [(0, .d), (1, .r), (2, .d)] rfl ?_
      refine r_d rfl rfl rfl (s_fieldRef rfl fl_api_Term_0 rfl) ?_
      refine r_r rfl rfl rfl (t_loadRef rfl rfl (.head _) rfl rfl (by exact ty_int) rfl) ?_
      refine r_d rfl rfl rfl (s_cmp rfl rfl rfl rfl) ?_
      refine r_end ?_
      refine g_sB 33 rfl hr (fun h33_18 hr => ?_) (fun h33_18 hr => ?_)
      ·
       refine g_condT rfl ?_
       refine g_run (by kernel_rfl) [(0, .d), (1, .r), (2, .d), (3, .d), (4, .d), (5, .d), (6, .w)] rfl ?_
       refine r_d rfl rfl rfl (s_fieldRef rfl fl_api_Term_3 rfl) ?_
       refine r_r rfl rfl rfl (t_loadRef rfl rfl (.head _) rfl rfl (by exact ty_L_api_Term) rfl) ?_
       refine r_d rfl rfl rfl (s_move rfl rfl) ?_
       refine r_d rfl rfl rfl (s_move rfl rfl) ?_
       obtain ⟨r_20, hr_20, hr⟩ := bindS hr
       refine r_d rfl rfl rfl (s_callD rfl cl_constraintref17_put (.cons rfl (Wk.refl _) (.cons rfl (Wk.refl _) (.cons rfl (Wk.refl _) .nil))) (IHR _ _ _ _ hr_20)) ?_
       refine r_d rfl rfl rfl (s_fieldRef rfl fl_api_Term_3 rfl) ?_
       refine r_w01 rfl rfl rfl (t_store _ rfl rfl rfl (Wk.refl _) (pf0 _) rfl rfl (by exact ty_L_api_Term) rfl rfl rfl) ?_
       refine r_end ?_
       refine g_run (by kernel_rfl) [(0, .d), (1, .r), (2, .d), (3, .w), (4, .d)] rfl ?_
       refine r_d rfl rfl rfl (s_move rfl rfl) ?_
       refine r_r rfl rfl rfl (t_loadRef rfl rfl (.head _) rfl rfl (by exact ty_api_Term) rfl) ?_
       refine r_d rfl rfl rfl (m_lit (f := encT) [.tmp 41] [(T.mk q_8.k q_8.i q_8.s r_20)] rfl el_L_api_Term rfl rfl (by decide) (by decide) (.cons rfl (Wk.ofEq (by show _ = D.agg (fsT _); rw [fsT_eq] <;> rfl)) .nil) sz_encT (fun _ => rfl)) ?_
       obtain ⟨l_21, hl_21, hr⟩ := bindS hr
       refine r_w rfl rfl rfl (m_appOwn (f := encT) out_4 [(T.mk q_8.k q_8.i q_8.s r_20)] rfl el_L_api_Term rfl rfl (asl rfl) (pf1 _ _ _) rfl sz_encT hl_21) ?_
       rintro _ _ ⟨u43_21, rfl, rfl⟩
       refine r_d rfl rfl rfl (s_assign rfl rfl) ?_
       refine r_end ?_
       refine g_inBlock ?_
       refine g_run (by kernel_rfl) [(0, .d), (1, .d), (2, .d)] rfl ?_
       refine r_d rfl rfl rfl (s_move rfl rfl) ?_
       refine r_d rfl rfl rfl (s_ar (r := ((i_5 + 1 : Nat) : Int)) rfl rfl rfl (by simp [iar]) (by omega)) ?_
       refine r_d rfl rfl rfl (s_assign rfl rfl) ?_
       refine r_end ?_
       refine g_sub [(0, .lst (l_a0.map encT)), (1, .int .i64 x_a1), (2, .int .i64 y_a2), (7, .own u43_21 (l_21.map encT)), (8, .int .i64 ((i_5 + 1 : Nat) : Int))] (Sub.cons' rfl (Sub.cons' rfl (Sub.cons' rfl (Sub.cons' rfl (Sub.cons' rfl (Sub.nil _)))))) ?_
       refine g_perm [_] _ (pf0 _) ?_
       exact IH0 _ _ _ (by omega) ⟨l_21, (i_5 + 1), u43_21, rfl, rfl, rfl, (by omega), hr⟩
      ·
       refine g_condF rfl ?_
       refine g_skip ?_
       refine g_run (by kernel_rfl) [(0, .d), (1, .r), (2, .d), (3, .w), (4, .d)] rfl ?_
       refine r_d rfl rfl rfl (s_move rfl rfl) ?_
       refine r_r rfl rfl rfl (t_loadRef rfl rfl (.head _) rfl rfl (by exact ty_api_Term) rfl) ?_
       refine r_d rfl rfl rfl (m_lit (f := encT) [.tmp 41] [(T.mk q_8.k q_8.i q_8.s q_8.ar)] rfl el_L_api_Term rfl rfl (by decide) (by decide) (.cons rfl (Wk.ofEq (by show _ = D.agg (fsT _); rw [fsT_eq] <;> rfl)) .nil) sz_encT (fun _ => rfl)) ?_
       obtain ⟨l_23, hl_23, hr⟩ := bindS hr
       refine r_w rfl rfl rfl (m_appOwn (f := encT) out_4 [(T.mk q_8.k q_8.i q_8.s q_8.ar)] rfl el_L_api_Term rfl rfl (asl rfl) (pf1 _ _ _) rfl sz_encT hl_23) ?_
       rintro _ _ ⟨u43_23, rfl, rfl⟩
       refine r_d rfl rfl rfl (s_assign rfl rfl) ?_
       refine r_end ?_
       refine g_inBlock ?_
       refine g_run (by kernel_rfl) [(0, .d), (1, .d), (2, .d)] rfl ?_
       refine r_d rfl rfl rfl (s_move rfl rfl) ?_
       refine r_d rfl rfl rfl (s_ar (r := ((i_5 + 1 : Nat) : Int)) rfl rfl rfl (by simp [iar]) (by omega)) ?_
       refine r_d rfl rfl rfl (s_assign rfl rfl) ?_
       refine r_end ?_
       refine g_sub [(0, .lst (l_a0.map encT)), (1, .int .i64 x_a1), (2, .int .i64 y_a2), (7, .own u43_23 (l_23.map encT)), (8, .int .i64 ((i_5 + 1 : Nat) : Int))] (Sub.cons' rfl (Sub.cons' rfl (Sub.cons' rfl (Sub.cons' rfl (Sub.cons' rfl (Sub.nil _)))))) ?_
       refine g_perm [_] _ (pf0 _) ?_
       exact IH0 _ _ _ (by omega) ⟨l_23, (i_5 + 1), u43_23, rfl, rfl, rfl, (by omega), hr⟩
    ·
     refine r_skip rfl rfl rfl ?_
     refine r_skip rfl rfl rfl ?_
     refine r_skip rfl rfl rfl ?_
     refine r_skip rfl rfl rfl ?_
     refine r_d rfl rfl rfl (s_pickF rfl rfl rfl) ?_
     refine r_end ?_
     refine g_condF rfl ?_
     refine g_skip ?_
     refine g_seq ?_
     refine g_seq ?_
     refine g_run (by kernel_rfl) [(0, .d), (1, .r), (2, .d)] rfl ?_
     refine r_d rfl rfl rfl (s_fieldRef rfl fl_api_Term_0 rfl) ?_
     refine r_r rfl rfl rfl (t_loadRef rfl rfl (.head _) rfl rfl (by exact ty_int) rfl) ?_
     refine r_d rfl rfl rfl (s_cmp rfl rfl rfl rfl) ?_
     refine r_end ?_
     refine g_sB 33 rfl hr (fun h33_24 hr => ?_) (fun h33_24 hr => ?_)
     ·
      refine g_condT rfl ?_
      refine g_run (by kernel_rfl) [(0, .d), (1, .r), (2, .d), (3, .d), (4, .d), (5, .d), (6, .w)] rfl ?_
      refine r_d rfl rfl rfl (s_fieldRef rfl fl_api_Term_3 rfl) ?_
      refine r_r rfl rfl rfl (t_loadRef rfl rfl (.head _) rfl rfl (by exact ty_L_api_Term) rfl) ?_
      refine r_d rfl rfl rfl (s_move rfl rfl) ?_
      refine r_d rfl rfl rfl (s_move rfl rfl) ?_
      obtain ⟨r_26, hr_26, hr⟩ := bindS hr
      refine r_d rfl rfl rfl (s_callD rfl cl_constraintref17_put (.cons rfl (Wk.refl _) (.cons rfl (Wk.refl _) (.cons rfl (Wk.refl _) .nil))) (IHR _ _ _ _ hr_26)) ?_
      refine r_d rfl rfl rfl (s_fieldRef rfl fl_api_Term_3 rfl) ?_
      refine r_w01 rfl rfl rfl (t_store _ rfl rfl rfl (Wk.refl _) (pf0 _) rfl rfl (by exact ty_L_api_Term) rfl rfl rfl) ?_
      refine r_end ?_
      refine g_run (by kernel_rfl) [(0, .d), (1, .r), (2, .d), (3, .w), (4, .d)] rfl ?_
      refine r_d rfl rfl rfl (s_move rfl rfl) ?_
      refine r_r rfl rfl rfl (t_loadRef rfl rfl (.head _) rfl rfl (by exact ty_api_Term) rfl) ?_
      refine r_d rfl rfl rfl (m_lit (f := encT) [.tmp 41] [(T.mk q_8.k q_8.i q_8.s r_26)] rfl el_L_api_Term rfl rfl (by decide) (by decide) (.cons rfl (Wk.ofEq (by show _ = D.agg (fsT _); rw [fsT_eq] <;> rfl)) .nil) sz_encT (fun _ => rfl)) ?_
      obtain ⟨l_27, hl_27, hr⟩ := bindS hr
      refine r_w rfl rfl rfl (m_appOwn (f := encT) out_4 [(T.mk q_8.k q_8.i q_8.s r_26)] rfl el_L_api_Term rfl rfl (asl rfl) (pf1 _ _ _) rfl sz_encT hl_27) ?_
      rintro _ _ ⟨u43_27, rfl, rfl⟩
      refine r_d rfl rfl rfl (s_assign rfl rfl) ?_
      refine r_end ?_
      refine g_inBlock ?_
      refine g_run (by kernel_rfl) [(0, .d), (1, .d), (2, .d)] rfl ?_
      refine r_d rfl rfl rfl (s_move rfl rfl) ?_
      refine r_d rfl rfl rfl (s_ar (r := ((i_5 + 1 : Nat) : Int)) rfl rfl rfl (by simp [iar]) (by omega)) ?_
      refine r_d rfl rfl rfl (s_assign rfl rfl) ?_
      refine r_end ?_
      refine g_sub [(0, .lst (l_a0.map encT)), (1, .int .i64 x_a1), (2, .int .i64 y_a2), (7, .own u43_27 (l_27.map encT)), (8, .int .i64 ((i_5 + 1 : Nat) : Int))] (Sub.cons' rfl (Sub.cons' rfl (Sub.cons' rfl (Sub.cons' rfl (Sub.cons' rfl (Sub.nil _)))))) ?_
      refine g_perm [_] _ (pf0 _) ?_
      exact IH0 _ _ _ (by omega) ⟨l_27, (i_5 + 1), u43_27, rfl, rfl, rfl, (by omega), hr⟩
     ·
      refine g_condF rfl ?_
      refine g_skip ?_
      refine g_run (by kernel_rfl) [(0, .d), (1, .r), (2, .d), (3, .w), (4, .d)] rfl ?_
      refine r_d rfl rfl rfl (s_move rfl rfl) ?_
      refine r_r rfl rfl rfl (t_loadRef rfl rfl (.head _) rfl rfl (by exact ty_api_Term) rfl) ?_
      refine r_d rfl rfl rfl (m_lit (f := encT) [.tmp 41] [(T.mk q_8.k q_8.i q_8.s q_8.ar)] rfl el_L_api_Term rfl rfl (by decide) (by decide) (.cons rfl (Wk.ofEq (by show _ = D.agg (fsT _); rw [fsT_eq] <;> rfl)) .nil) sz_encT (fun _ => rfl)) ?_
      obtain ⟨l_29, hl_29, hr⟩ := bindS hr
      refine r_w rfl rfl rfl (m_appOwn (f := encT) out_4 [(T.mk q_8.k q_8.i q_8.s q_8.ar)] rfl el_L_api_Term rfl rfl (asl rfl) (pf1 _ _ _) rfl sz_encT hl_29) ?_
      rintro _ _ ⟨u43_29, rfl, rfl⟩
      refine r_d rfl rfl rfl (s_assign rfl rfl) ?_
      refine r_end ?_
      refine g_inBlock ?_
      refine g_run (by kernel_rfl) [(0, .d), (1, .d), (2, .d)] rfl ?_
      refine r_d rfl rfl rfl (s_move rfl rfl) ?_
      refine r_d rfl rfl rfl (s_ar (r := ((i_5 + 1 : Nat) : Int)) rfl rfl rfl (by simp [iar]) (by omega)) ?_
      refine r_d rfl rfl rfl (s_assign rfl rfl) ?_
      refine r_end ?_
      refine g_sub [(0, .lst (l_a0.map encT)), (1, .int .i64 x_a1), (2, .int .i64 y_a2), (7, .own u43_29 (l_29.map encT)), (8, .int .i64 ((i_5 + 1 : Nat) : Int))] (Sub.cons' rfl (Sub.cons' rfl (Sub.cons' rfl (Sub.cons' rfl (Sub.cons' rfl (Sub.nil _)))))) ?_
      refine g_perm [_] _ (pf0 _) ?_
      exact IH0 _ _ _ (by omega) ⟨l_29, (i_5 + 1), u43_29, rfl, rfl, rfl, (by omega), hr⟩
theorem lg_constraintref17_put : ∀ (fuel : Nat) (l_a0 : (List T)) (x_a1 : Int) (y_a2 : Int) (res : (List T)), lf_constraintref17_put fuel l_a0 x_a1 y_a2 = some res → Gives Tryz.prog 68 [.lst (l_a0.map encT), .int .i64 x_a1, .int .i64 y_a2] (.lst (res.map encT))
  | 0, _, _, _, _, h => by cases h
  | fuel + 1, l_a0, x_a1, y_a2, res, h => lgs_constraintref17_put fuel (lf_constraintref17_put fuel) (lg_constraintref17_put fuel) l_a0 x_a1 y_a2 res h

noncomputable def lf_constraintref17_putAtoms_L0 (k : ((List At)) → Option ((List At))) (fuel : Nat) (x_a1 : Int) (y_a2 : Int) : List At → (List At) → Option ((List At))
  | [], out_4 =>
  (k out_4)
  | q_8 :: rest, out_4 =>
  ((lf_constraintref17_put fuel q_8.ts x_a1 y_a2).bind fun r_9 =>
  ((appO 40 out_4 [(⟨q_8.n, r_9⟩ : At)]).bind fun l_10 =>
  (lf_constraintref17_putAtoms_L0 k fuel x_a1 y_a2 rest l_10)))
noncomputable def lf_constraintref17_putAtoms (fuel : Nat) (l_a0 : (List At)) (x_a1 : Int) (y_a2 : Int) : Option ((List At)) :=
  (lf_constraintref17_putAtoms_L0 (fun out_7 =>
  some (out_7)) fuel x_a1 y_a2 l_a0 [])

set_option maxHeartbeats 1000000 in
theorem lg_constraintref17_putAtoms (fuel : Nat) (l_a0 : (List At)) (x_a1 : Int) (y_a2 : Int) (res : (List At)) (hr : lf_constraintref17_putAtoms fuel l_a0 x_a1 y_a2 = some res) : Gives Tryz.prog 39 [.lst (l_a0.map encA), .int .i64 x_a1, .int .i64 y_a2] (.lst (res.map encA)) := by
  unfold lf_constraintref17_putAtoms at hr
  refine spec_env [(0, .lst (l_a0.map encA)), (1, .int .i64 x_a1), (2, .int .i64 y_a2)] Tryz.func39 rfl rfl fun K hK => ?_
  refine g_seq ?_
  refine g_run (by kernel_rfl) [(0, .w)] rfl ?_
  refine r_w rfl rfl rfl (s_nilOwn 36 2 (.inl rfl)) ?_
  rintro _ _ ⟨u6_0, rfl, rfl⟩
  refine r_end ?_
  refine g_seq ?_
  refine g_run (by kernel_rfl) [(0, .w)] rfl ?_
  refine r_w rfl rfl rfl (s_nilOwn 36 2 (.inl rfl)) ?_
  rintro _ _ ⟨u7_1, rfl, rfl⟩
  refine r_end ?_
  refine g_seq ?_
  refine g_seq ?_
  refine g_run (by kernel_rfl) [(0, .d)] rfl ?_
  refine r_d rfl rfl rfl (s_assign rfl rfl) ?_
  refine r_end ?_
  obtain ⟨kk0, hkk0, hr⟩ := exK (fun k => lf_constraintref17_putAtoms_L0 k fuel x_a1 y_a2 l_a0 []) hr
  refine g_len 0 rfl (asl rfl) fun hla0 => ?_
  simp only [List.length_map] at hla0
  refine g_blockJ (fun env σ => ∃ (out_7 : (List At)) (u_6 : Value), env = [(7, .own u_6 (out_7.map encA))] ∧ σ = [.row u_6 out_7.length 36 2] ∧ kk0 out_7 = some res) ?_ (fun HK0 => ?_)
  ·
   rintro _ _ ⟨out_7, u_6, rfl, rfl, hr⟩
   rw [hkk0] at hr
   refine g_seq ?_
   refine g_run (by kernel_rfl) [(0, .d), (1, .d)] rfl ?_
   refine r_d rfl rfl rfl (s_move rfl rfl) ?_
   refine r_d rfl rfl rfl (s_assign rfl rfl) ?_
   refine r_end ?_
   obtain rfl := Option.some.inj hr
   refine g_ret Tryz.func39 _ (.cons (resTmp rfl (Wk.own _ _)) .nil) ?_
   rfl
  ·
   refine g_sub [(0, .lst (l_a0.map encA)), (1, .int .i64 x_a1), (2, .int .i64 y_a2), (7, .own u7_1 ([].map encA)), (8, .int .i64 ((0 : Nat) : Int))] (Sub.cons' rfl (Sub.cons' rfl (Sub.cons' rfl (Sub.cons' rfl (Sub.cons' rfl (Sub.nil _)))))) ?_
   refine g_perm [_] _ (pf0 _) ?_
   refine g_loop (fun n env σ => ∃ (out_4 : (List At)) (i_5 : Nat) (u_3 : Value), (n = l_a0.length - i_5) ∧ (env = [(0, .lst (l_a0.map encA)), (1, .int .i64 x_a1), (2, .int .i64 y_a2), (7, .own u_3 (out_4.map encA)), (8, .int .i64 (i_5 : Int))]) ∧ (σ = [.row u_3 out_4.length 36 2]) ∧ (i_5 ≤ l_a0.length) ∧ (lf_constraintref17_putAtoms_L0 kk0 fuel x_a1 y_a2 (l_a0.drop i_5) out_4 = some res)) _ ⟨[], 0, u7_1, rfl, rfl, rfl, Nat.zero_le _, hr⟩ ?_
   rintro n _ _ ⟨out_4, i_5, u_3, rfl, rfl, rfl, hi0, hr⟩ IH0
   rcases listStep l_a0 i_5 hi0 with ⟨ht0, hd0, he0⟩ | ⟨q_8, ht0, hd0, hq0, hlt0⟩
   ·
    rw [hd0, lf_constraintref17_putAtoms_L0] at hr
    refine g_seq ?_
    refine g_seq ?_
    refine g_run (by kernel_rfl) [(0, .d), (1, .d), (2, .d), (3, .d)] rfl ?_
    refine r_d rfl rfl rfl (s_move rfl rfl) ?_
    refine r_d rfl rfl rfl (s_move rfl rfl) ?_
    refine r_d rfl rfl rfl (m_len (f := encA) l_a0 rfl el_L_api_Atom rfl (asl rfl)) ?_
    refine r_d rfl rfl rfl (s_cmp rfl rfl rfl rfl) ?_
    refine r_end ?_
    refine g_known 12 false rfl ht0 ?_
    refine g_condF rfl ?_
    refine g_exit rfl ?_
    refine g_sub [(7, .own u_3 (out_4.map encA))] (Sub.cons' rfl (Sub.nil _)) ?_
    exact HK0 _ _ ⟨out_4, u_3, rfl, rfl, hr⟩
   ·
    rw [hd0, lf_constraintref17_putAtoms_L0] at hr
    refine g_seq ?_
    refine g_seq ?_
    refine g_run (by kernel_rfl) [(0, .d), (1, .d), (2, .d), (3, .d)] rfl ?_
    refine r_d rfl rfl rfl (s_move rfl rfl) ?_
    refine r_d rfl rfl rfl (s_move rfl rfl) ?_
    refine r_d rfl rfl rfl (m_len (f := encA) l_a0 rfl el_L_api_Atom rfl (asl rfl)) ?_
    refine r_d rfl rfl rfl (s_cmp rfl rfl rfl rfl) ?_
    refine r_end ?_
    refine g_known 12 true rfl ht0 ?_
    refine g_condT rfl ?_
    refine g_skip ?_
    refine g_seq ?_
    refine g_block ?_
    refine g_any (by kernel_rfl) (by kernel_rfl) [(0, .d), (1, .d), (2, .d), (3, .d), (4, .d), (5, .d), (6, .d), (7, .d), (8, .d), (9, .d), (10, .d), (11, .d), (12, .d), (13, .d), (14, .d), (15, .d), (16, .w), (17, .d)] (by kernel_rfl) ?_
    refine r_d rfl rfl rfl (s_move rfl rfl) ?_
    refine r_d rfl rfl rfl (s_move rfl rfl) ?_
    refine r_d rfl rfl rfl (s_move rfl rfl) ?_
    refine r_d rfl rfl rfl (m_index (f := encA) l_a0 rfl el_L_api_Atom rfl (asl rfl) rfl hq0 sz_encA rfl) ?_
    refine r_d rfl rfl rfl (s_fieldAddr rfl fl_api_Atom_0 rfl rfl rfl rfl) ?_
    refine r_d rfl rfl rfl (s_load rfl rfl (by exact ty_string) rfl) ?_
    refine r_d rfl rfl rfl (s_move rfl rfl) ?_
    refine r_d rfl rfl rfl (s_move rfl rfl) ?_
    refine r_d rfl rfl rfl (m_index (f := encA) l_a0 rfl el_L_api_Atom rfl (asl rfl) rfl hq0 sz_encA rfl) ?_
    refine r_d rfl rfl rfl (s_fieldAddr rfl fl_api_Atom_1 rfl rfl rfl rfl) ?_
    refine r_d rfl rfl rfl (s_load rfl rfl (by exact ty_L_api_Term) rfl) ?_
    refine r_d rfl rfl rfl (s_move rfl rfl) ?_
    refine r_d rfl rfl rfl (s_move rfl rfl) ?_
    obtain ⟨r_9, hr_9, hr⟩ := bindS hr
    refine r_d rfl rfl rfl (s_callD rfl cl_constraintref17_put (.cons rfl (Wk.refl _) (.cons rfl (Wk.refl _) (.cons rfl (Wk.refl _) .nil))) (lg_constraintref17_put fuel _ _ _ _ hr_9)) ?_
    refine r_d rfl rfl rfl (s_build rfl bt_api_Atom (.cons rfl (Wk.refl _) (.cons rfl (Wk.refl _) .nil)) (.cons rfl rfl rfl (.cons rfl rfl rfl (.nil _)))) ?_
    refine r_d rfl rfl rfl (m_lit (f := encA) [.tmp 29] [(⟨q_8.n, r_9⟩ : At)] rfl el_L_api_Atom rfl rfl (by decide) (by decide) (.cons rfl (Wk.refl _) .nil) sz_encA (fun _ => rfl)) ?_
    obtain ⟨l_10, hl_10, hr⟩ := bindS hr
    refine r_w rfl rfl rfl (m_appOwn (f := encA) out_4 [(⟨q_8.n, r_9⟩ : At)] rfl el_L_api_Atom rfl rfl (asl rfl) (pf0 _) rfl sz_encA hl_10) ?_
    rintro _ _ ⟨u31_10, rfl, rfl⟩
    refine r_d rfl rfl rfl (s_assign rfl rfl) ?_
    refine r_end ?_
    refine g_inBlock ?_
    refine g_run (by kernel_rfl) [(0, .d), (1, .d), (2, .d)] rfl ?_
    refine r_d rfl rfl rfl (s_move rfl rfl) ?_
    refine r_d rfl rfl rfl (s_ar (r := ((i_5 + 1 : Nat) : Int)) rfl rfl rfl (by simp [iar]) (by omega)) ?_
    refine r_d rfl rfl rfl (s_assign rfl rfl) ?_
    refine r_end ?_
    refine g_sub [(0, .lst (l_a0.map encA)), (1, .int .i64 x_a1), (2, .int .i64 y_a2), (7, .own u31_10 (l_10.map encA)), (8, .int .i64 ((i_5 + 1 : Nat) : Int))] (Sub.cons' rfl (Sub.cons' rfl (Sub.cons' rfl (Sub.cons' rfl (Sub.cons' rfl (Sub.nil _)))))) ?_
    exact IH0 _ _ _ (by omega) ⟨l_10, (i_5 + 1), u31_10, rfl, rfl, rfl, (by omega), hr⟩

noncomputable def lf_constraintref17_Join_L0 (k : (S_api_Rule) → Option (S_api_Rule)) (fuel : Nat) : Nat → S_api_Rule → Option (S_api_Rule)
  | 0, r_5 =>
  none
  | rest + 1, r_5 =>
  ((lf_constraintref17_joining fuel r_5).bind fun r_8 =>
  (bif r_8 then
  ((getI r_5.f3_Guard 0).bind fun q_10 =>
  ((getI q_10.ts 0).bind fun q_11 =>
  ((getI q_10.ts 1).bind fun q_12 =>
  ((lf_constraintref17_putAtoms fuel r_5.f1_Keep q_11.i q_12.i).bind fun r_13 =>
  ((lf_constraintref17_putAtoms fuel r_5.f2_Remove q_11.i q_12.i).bind fun r_14 =>
  ((subO r_5.f3_Guard 1 (r_5.f3_Guard.length : Int)).bind fun l_15 =>
  (lf_constraintref17_Join_L0 k fuel rest (⟨r_5.f0_Name, r_13, r_14, l_15, r_5.f4_Body, r_5.f5_Vars⟩ : S_api_Rule))))))))
  else
  (k r_5)))
noncomputable def lf_constraintref17_Join (fuel : Nat) (r_a0 : S_api_Rule) : Option (S_api_Rule) :=
  ((lf_constraintref17_numbered fuel r_a0).bind fun r_3 =>
  (bif (!r_3) then
  some (r_a0)
  else
  (lf_constraintref17_Join_L0 (fun r_6 =>
  ((lf_constraintref14_Number fuel r_6).bind fun r_7 =>
  some (r_7))) fuel fuel r_a0)))

set_option maxHeartbeats 1000000 in
theorem lg_constraintref17_Join (fuel : Nat) (r_a0 : S_api_Rule) (res : S_api_Rule) (hr : lf_constraintref17_Join fuel r_a0 = some res) : Gives Tryz.prog 13 [enc_S_api_Rule r_a0] (enc_S_api_Rule res) := by
  unfold lf_constraintref17_Join at hr
  refine spec_env [(0, enc_S_api_Rule r_a0)] Tryz.func13 rfl rfl fun K hK => ?_
  refine g_seq ?_
  refine g_run (by kernel_rfl) [(0, .w), (1, .w)] rfl ?_
  refine r_w rfl rfl rfl (s_boxRef rfl rfl rfl) ?_
  rintro _ _ ⟨b1_0, rfl, rfl⟩
  refine r_w rfl rfl rfl (s_alloc rfl zv_api_Rule) ?_
  rintro _ _ ⟨b2_1, rfl, rfl⟩
  refine r_end ?_
  refine g_seq ?_
  refine g_seq ?_
  refine g_run (by kernel_rfl) [(0, .r), (1, .d), (2, .d)] rfl ?_
  refine r_r rfl rfl rfl (t_loadRef rfl rfl (.tail _ (.head _)) rfl rfl (by exact ty_api_Rule) (sz_S_api_Rule _)) ?_
  obtain ⟨r_3, hr_3, hr⟩ := bindS hr
  refine r_d rfl rfl rfl (s_callD rfl cl_constraintref17_numbered (.cons rfl (Wk.refl _) .nil) (lg_constraintref17_numbered fuel _ _ hr_3)) ?_
  refine r_d rfl rfl rfl (s_not rfl rfl) ?_
  refine r_end ?_
  refine g_sB 7 rfl hr (fun h7_3 hr => ?_) (fun h7_3 hr => ?_)
  ·
   refine g_condT rfl ?_
   refine g_seq ?_
   refine g_run (by kernel_rfl) [(0, .r), (1, .w)] rfl ?_
   refine r_r rfl rfl rfl (t_loadRef rfl rfl (.tail _ (.head _)) rfl rfl (by exact ty_api_Rule) (sz_S_api_Rule _)) ?_
   refine r_w01 rfl rfl rfl (t_store0 _ rfl rfl rfl (Wk.refl _) (pf0 _) (by exact ty_api_Rule) (sz_S_api_Rule _) rfl rfl) ?_
   refine r_end ?_
   obtain rfl := Option.some.inj hr
   refine g_ret Tryz.func13 _ (.cons (resRef rfl (.head _) (by exact ty_api_Rule) (sz_S_api_Rule _) (Wk.refl _)) .nil) ?_
   rfl
  ·
   refine g_condF rfl ?_
   refine g_skip ?_
   refine g_seq ?_
   obtain ⟨kk0, hkk0, hr⟩ := exK (fun k => lf_constraintref17_Join_L0 k fuel fuel r_a0) hr
   refine g_blockJ (fun env σ => ∃ (r_6 : S_api_Rule), env = [(1, .ref b1_0 0 []), (2, .ref b2_1 0 [])] ∧ σ = [.cell b1_0 (enc_S_api_Rule r_6), .cell b2_1 (.agg [.str ⟨#[]⟩, .lst ([].map encA), .lst ([].map encA), .lst ([].map encG), .lst ([].map encG), .int .i64 0])] ∧ kk0 r_6 = some res) ?_ (fun HK0 => ?_)
   ·
    rintro _ _ ⟨r_6, rfl, rfl, hr⟩
    rw [hkk0] at hr
    refine g_seq ?_
    refine g_run (by kernel_rfl) [(0, .r), (1, .d), (2, .w)] rfl ?_
    refine r_r rfl rfl rfl (t_loadRef rfl rfl (.head _) rfl rfl (by exact ty_api_Rule) (sz_S_api_Rule _)) ?_
    obtain ⟨r_7, hr_7, hr⟩ := bindS hr
    refine r_d rfl rfl rfl (s_callD rfl cl_constraintref14_Number (.cons rfl (Wk.refl _) .nil) (lg_constraintref14_Number fuel _ _ hr_7)) ?_
    refine r_w01 rfl rfl rfl (t_store0 _ rfl rfl rfl (Wk.refl _) (pf1 _ _ _) (by exact ty_api_Rule) (sz_S_api_Rule _) rfl rfl) ?_
    refine r_end ?_
    obtain rfl := Option.some.inj hr
    refine g_ret Tryz.func13 _ (.cons (resRef rfl (.head _) (by exact ty_api_Rule) (sz_S_api_Rule _) (Wk.refl _)) .nil) ?_
    rfl
   ·
    refine g_sub [(1, .ref b1_0 0 []), (2, .ref b2_1 0 [])] (Sub.cons' rfl (Sub.cons' rfl (Sub.nil _))) ?_
    refine g_perm [_, _] _ ((pf0 _).trans (pf1 _ _ _)) ?_
    refine g_loop (fun n env σ => ∃ (r_5 : S_api_Rule) (n0 : Nat), (n0 = n) ∧ (env = [(1, .ref b1_0 0 []), (2, .ref b2_1 0 [])]) ∧ (σ = [.cell b1_0 (enc_S_api_Rule r_5), .cell b2_1 (.agg [.str ⟨#[]⟩, .lst ([].map encA), .lst ([].map encA), .lst ([].map encG), .lst ([].map encG), .int .i64 0])]) ∧ (lf_constraintref17_Join_L0 kk0 fuel n0 r_5 = some res)) _ ⟨r_a0, _, rfl, rfl, rfl, hr⟩ ?_
    rintro n _ _ ⟨r_5, n0, rfl, rfl, rfl, hr⟩ IH0
    cases n0 with
    | zero => rw [lf_constraintref17_Join_L0] at hr; cases hr
    | succ n0 =>
     rw [lf_constraintref17_Join_L0] at hr
     refine g_seq ?_
     refine g_seq ?_
     refine g_run (by kernel_rfl) [(0, .r), (1, .d)] rfl ?_
     refine r_r rfl rfl rfl (t_loadRef rfl rfl (.head _) rfl rfl (by exact ty_api_Rule) (sz_S_api_Rule _)) ?_
     obtain ⟨r_8, hr_8, hr⟩ := bindS hr
     refine r_d rfl rfl rfl (s_callD rfl cl_constraintref17_joining (.cons rfl (Wk.refl _) .nil) (lg_constraintref17_joining fuel _ _ hr_8)) ?_
     refine r_end ?_
     refine g_sB 10 rfl hr (fun h10_8 hr => ?_) (fun h10_8 hr => ?_)
     ·
      refine g_condT rfl ?_
      refine g_skip ?_
      refine g_block ?_
      refine g_seq ?_
      refine g_any (by kernel_rfl) (by kernel_rfl) [(0, .d), (1, .r), (2, .d), (3, .d), (4, .d), (5, .d), (6, .d), (7, .d), (8, .d), (9, .r), (10, .d), (11, .d), (12, .d), (13, .d), (14, .d), (15, .d), (16, .d), (17, .d)] (by kernel_rfl) ?_
      refine r_d rfl rfl rfl (s_fieldRef rfl fl_api_Rule_3 rfl) ?_
      refine r_r rfl rfl rfl (t_loadRef rfl rfl (.head _) rfl rfl (by exact ty_L_api_Goal) rfl) ?_
      obtain ⟨q_10, hq_10, hr⟩ := bindS hr
      refine r_d rfl rfl rfl (m_index (f := encG) r_5.f3_Guard rfl el_L_api_Goal rfl (asl rfl) rfl hq_10 sz_encG rfl) ?_
      refine r_d rfl rfl rfl (s_fieldAddr rfl fl_api_Goal_2 rfl rfl rfl rfl) ?_
      refine r_d rfl rfl rfl (s_load rfl rfl (by exact ty_L_api_Term) rfl) ?_
      obtain ⟨q_11, hq_11, hr⟩ := bindS hr
      refine r_d rfl rfl rfl (m_index (f := encT) q_10.ts rfl el_L_api_Term rfl (asl rfl) rfl hq_11 sz_encT rfl) ?_
      refine r_d rfl rfl rfl (s_fieldAddr rfl fl_api_Term_1 rfl (fsT_get1 _) (fsT_off1 _) rfl) ?_
      refine r_d rfl rfl rfl (s_load rfl rfl (by exact ty_int) rfl) ?_
      refine r_d rfl rfl rfl (s_fieldRef rfl fl_api_Rule_3 rfl) ?_
      refine r_r rfl rfl rfl (t_loadRef rfl rfl (.head _) rfl rfl (by exact ty_L_api_Goal) rfl) ?_
      refine r_d rfl rfl rfl (m_index (f := encG) r_5.f3_Guard rfl el_L_api_Goal rfl (asl rfl) rfl hq_10 sz_encG rfl) ?_
      refine r_d rfl rfl rfl (s_fieldAddr rfl fl_api_Goal_2 rfl rfl rfl rfl) ?_
      refine r_d rfl rfl rfl (s_load rfl rfl (by exact ty_L_api_Term) rfl) ?_
      obtain ⟨q_12, hq_12, hr⟩ := bindS hr
      refine r_d rfl rfl rfl (m_index (f := encT) q_10.ts rfl el_L_api_Term rfl (asl rfl) rfl hq_12 sz_encT rfl) ?_
      refine r_d rfl rfl rfl (s_fieldAddr rfl fl_api_Term_1 rfl (fsT_get1 _) (fsT_off1 _) rfl) ?_
      refine r_d rfl rfl rfl (s_load rfl rfl (by exact ty_int) rfl) ?_
      refine r_d rfl rfl rfl (s_assign rfl rfl) ?_
      refine r_d rfl rfl rfl (s_assign rfl rfl) ?_
      refine r_end ?_
      refine g_any (by kernel_rfl) (by kernel_rfl) [(0, .d), (1, .r), (2, .d), (3, .d), (4, .d), (5, .d), (6, .r), (7, .d), (8, .d), (9, .d), (10, .d), (11, .r), (12, .d), (13, .d), (14, .w), (15, .d), (16, .w), (17, .d), (18, .w)] (by kernel_rfl) ?_
      refine r_d rfl rfl rfl (s_fieldRef rfl fl_api_Rule_1 rfl) ?_
      refine r_r rfl rfl rfl (t_loadRef rfl rfl (.head _) rfl rfl (by exact ty_L_api_Atom) rfl) ?_
      refine r_d rfl rfl rfl (s_move rfl rfl) ?_
      refine r_d rfl rfl rfl (s_move rfl rfl) ?_
      obtain ⟨r_13, hr_13, hr⟩ := bindS hr
      refine r_d rfl rfl rfl (s_callD rfl cl_constraintref17_putAtoms (.cons rfl (Wk.refl _) (.cons rfl (Wk.refl _) (.cons rfl (Wk.refl _) .nil))) (lg_constraintref17_putAtoms fuel _ _ _ _ hr_13)) ?_
      refine r_d rfl rfl rfl (s_fieldRef rfl fl_api_Rule_2 rfl) ?_
      refine r_r rfl rfl rfl (t_loadRef rfl rfl (.head _) rfl rfl (by exact ty_L_api_Atom) rfl) ?_
      refine r_d rfl rfl rfl (s_move rfl rfl) ?_
      refine r_d rfl rfl rfl (s_move rfl rfl) ?_
      obtain ⟨r_14, hr_14, hr⟩ := bindS hr
      refine r_d rfl rfl rfl (s_callD rfl cl_constraintref17_putAtoms (.cons rfl (Wk.refl _) (.cons rfl (Wk.refl _) (.cons rfl (Wk.refl _) .nil))) (lg_constraintref17_putAtoms fuel _ _ _ _ hr_14)) ?_
      refine r_d rfl rfl rfl (s_fieldRef rfl fl_api_Rule_3 rfl) ?_
      refine r_r rfl rfl rfl (t_loadRef rfl rfl (.head _) rfl rfl (by exact ty_L_api_Goal) rfl) ?_
      obtain ⟨l_15, hl_15, hr⟩ := bindS hr
      refine r_d rfl rfl rfl (m_sub (f := encG) r_5.f3_Guard 1 (r_5.f3_Guard.length : Int) rfl el_L_api_Goal rfl (asl rfl) (bl_some rfl) bh_none sz_encG hl_15) ?_
      refine r_d rfl rfl rfl (s_fieldRef rfl fl_api_Rule_1 rfl) ?_
      refine r_w01 rfl rfl rfl (t_store _ rfl rfl rfl (Wk.refl _) (pf0 _) rfl rfl (by exact ty_L_api_Atom) rfl rfl rfl) ?_
      refine r_d rfl rfl rfl (s_fieldRef rfl fl_api_Rule_2 rfl) ?_
      refine r_w01 rfl rfl rfl (t_store _ rfl rfl rfl (Wk.refl _) (pf0 _) rfl rfl (by exact ty_L_api_Atom) rfl rfl rfl) ?_
      refine r_d rfl rfl rfl (s_fieldRef rfl fl_api_Rule_3 rfl) ?_
      refine r_w01 rfl rfl rfl (t_store _ rfl rfl rfl (Wk.refl _) (pf0 _) rfl rfl (by exact ty_L_api_Goal) rfl rfl rfl) ?_
      refine r_end ?_
      refine g_inBlock ?_
      refine g_sub [(1, .ref b1_0 0 []), (2, .ref b2_1 0 [])] (Sub.cons' rfl (Sub.cons' rfl (Sub.nil _))) ?_
      exact IH0 _ _ _ (by omega) ⟨(⟨r_5.f0_Name, r_13, r_14, l_15, r_5.f4_Body, r_5.f5_Vars⟩ : S_api_Rule), _, rfl, rfl, rfl, hr⟩
     ·
      refine g_condF rfl ?_
      refine g_exit rfl ?_
      refine g_sub [(1, .ref b1_0 0 []), (2, .ref b2_1 0 [])] (Sub.cons' rfl (Sub.cons' rfl (Sub.nil _))) ?_
      exact HK0 _ _ ⟨r_5, rfl, rfl, hr⟩

noncomputable def lf_constraintref03_GreatAtoms_L0 (k : (Int) → Option (Bool)) : List At → Int → Option (Bool)
  | [], most_1 =>
  (k most_1)
  | q_4 :: rest, most_1 =>
  (bif (decide (most_1 ≥ (0 : Int))) then
  ((x_weigh q_4.ts (wr ((wr (most_1 - (1 : Int))) - (wr (Int.tdiv (q_4.n.size : Int) 8)))) 64).bind fun r_6 =>
  (lf_constraintref03_GreatAtoms_L0 k rest r_6))
  else
  (k most_1))
noncomputable def lf_constraintref03_GreatAtoms (l_a0 : (List At)) (most_a1 : Int) : Option (Bool) :=
  (lf_constraintref03_GreatAtoms_L0 (fun most_3 =>
  some ((decide (most_3 < (0 : Int))))) l_a0 most_a1)

set_option maxHeartbeats 1000000 in
theorem lg_constraintref03_GreatAtoms (l_a0 : (List At)) (most_a1 : Int) (res : Bool) (hr : lf_constraintref03_GreatAtoms l_a0 most_a1 = some res) : Gives Tryz.prog 47 [.lst (l_a0.map encA), .int .i64 most_a1] (.bool res) := by
  unfold lf_constraintref03_GreatAtoms at hr
  refine spec_env [(0, .lst (l_a0.map encA)), (1, .int .i64 most_a1)] Tryz.func47 rfl rfl fun K hK => ?_
  refine g_seq ?_
  refine g_run (by kernel_rfl) [(0, .d)] rfl ?_
  refine r_d rfl rfl rfl (s_assign rfl rfl) ?_
  refine r_end ?_
  refine g_seq ?_
  refine g_seq ?_
  refine g_run (by kernel_rfl) [(0, .d)] rfl ?_
  refine r_d rfl rfl rfl (s_assign rfl rfl) ?_
  refine r_end ?_
  obtain ⟨kk0, hkk0, hr⟩ := exK (fun k => lf_constraintref03_GreatAtoms_L0 k l_a0 most_a1) hr
  refine g_len 0 rfl (asl rfl) fun hla0 => ?_
  simp only [List.length_map] at hla0
  refine g_blockJ (fun env σ => ∃ (most_3 : Int), env = [(1, .int .i64 most_3)] ∧ σ = [] ∧ kk0 most_3 = some res) ?_ (fun HK0 => ?_)
  ·
   rintro _ _ ⟨most_3, rfl, rfl, hr⟩
   rw [hkk0] at hr
   refine g_seq ?_
   refine g_run (by kernel_rfl) [(0, .d), (1, .d), (2, .d)] rfl ?_
   refine r_d rfl rfl rfl (s_move rfl rfl) ?_
   refine r_d rfl rfl rfl (s_cmp rfl rfl rfl rfl) ?_
   refine r_d rfl rfl rfl (s_assign rfl rfl) ?_
   refine r_end ?_
   obtain rfl := Option.some.inj hr
   refine g_ret Tryz.func47 _ (.cons (resTmp rfl (Wk.refl _)) .nil) ?_
   rfl
  ·
   refine g_sub [(0, .lst (l_a0.map encA)), (1, .int .i64 most_a1), (5, .int .i64 ((0 : Nat) : Int))] (Sub.cons' rfl (Sub.cons' rfl (Sub.cons' rfl (Sub.nil _)))) ?_
   refine g_loop (fun n env σ => ∃ (most_1 : Int) (i_2 : Nat), (n = l_a0.length - i_2) ∧ (env = [(0, .lst (l_a0.map encA)), (1, .int .i64 most_1), (5, .int .i64 (i_2 : Int))]) ∧ (σ = []) ∧ (i_2 ≤ l_a0.length) ∧ (lf_constraintref03_GreatAtoms_L0 kk0 (l_a0.drop i_2) most_1 = some res)) _ ⟨most_a1, 0, rfl, rfl, rfl, Nat.zero_le _, hr⟩ ?_
   rintro n _ _ ⟨most_1, i_2, rfl, rfl, rfl, hi0, hr⟩ IH0
   rcases listStep l_a0 i_2 hi0 with ⟨ht0, hd0, he0⟩ | ⟨q_4, ht0, hd0, hq0, hlt0⟩
   ·
    rw [hd0, lf_constraintref03_GreatAtoms_L0] at hr
    refine g_seq ?_
    refine g_seq ?_
    refine g_run (by kernel_rfl) [(0, .d), (1, .d), (2, .d), (3, .d), (4, .d), (5, .d), (6, .d), (7, .d)] rfl ?_
    refine r_d rfl rfl rfl (s_move rfl rfl) ?_
    refine r_d rfl rfl rfl (s_move rfl rfl) ?_
    refine r_d rfl rfl rfl (m_len (f := encA) l_a0 rfl el_L_api_Atom rfl (asl rfl)) ?_
    refine r_d rfl rfl rfl (s_cmp rfl rfl rfl rfl) ?_
    refine r_d rfl rfl rfl (s_move rfl rfl) ?_
    refine r_known 10 false rfl ht0 ?_
    refine r_skip rfl rfl rfl ?_
    refine r_skip rfl rfl rfl ?_
    refine r_d rfl rfl rfl (s_pickF rfl rfl rfl) ?_
    refine r_end ?_
    refine g_condF rfl ?_
    refine g_exit rfl ?_
    refine g_sub [(1, .int .i64 most_1)] (Sub.cons' rfl (Sub.nil _)) ?_
    exact HK0 _ _ ⟨most_1, rfl, rfl, hr⟩
   ·
    rw [hd0, lf_constraintref03_GreatAtoms_L0] at hr
    refine g_seq ?_
    refine g_seq ?_
    refine g_run (by kernel_rfl) [(0, .d), (1, .d), (2, .d), (3, .d), (4, .d), (5, .d), (6, .d), (7, .d)] rfl ?_
    refine r_d rfl rfl rfl (s_move rfl rfl) ?_
    refine r_d rfl rfl rfl (s_move rfl rfl) ?_
    refine r_d rfl rfl rfl (m_len (f := encA) l_a0 rfl el_L_api_Atom rfl (asl rfl)) ?_
    refine r_d rfl rfl rfl (s_cmp rfl rfl rfl rfl) ?_
    refine r_d rfl rfl rfl (s_move rfl rfl) ?_
    refine r_known 10 true rfl ht0 ?_
    refine r_d rfl rfl rfl (s_move rfl rfl) ?_
    refine r_d rfl rfl rfl (s_cmp rfl rfl rfl rfl) ?_
    refine r_d rfl rfl rfl (s_pickT rfl rfl rfl) ?_
    refine r_end ?_
    refine g_sB 13 rfl hr (fun h13_4 hr => ?_) (fun h13_4 hr => ?_)
    ·
     refine g_condT rfl ?_
     refine g_skip ?_
     refine g_seq ?_
     refine g_block ?_
     refine g_any (by kernel_rfl) (by kernel_rfl) [(0, .d), (1, .d), (2, .d), (3, .d), (4, .d), (5, .d), (6, .d), (7, .d), (8, .d), (9, .d), (10, .d), (11, .d), (12, .d), (13, .d), (14, .d), (15, .d), (16, .d)] (by kernel_rfl) ?_
     refine r_d rfl rfl rfl (s_move rfl rfl) ?_
     refine r_d rfl rfl rfl (s_move rfl rfl) ?_
     refine r_d rfl rfl rfl (m_index (f := encA) l_a0 rfl el_L_api_Atom rfl (asl rfl) rfl hq0 sz_encA rfl) ?_
     refine r_d rfl rfl rfl (s_fieldAddr rfl fl_api_Atom_1 rfl rfl rfl rfl) ?_
     refine r_d rfl rfl rfl (s_load rfl rfl (by exact ty_L_api_Term) rfl) ?_
     refine r_d rfl rfl rfl (s_move rfl rfl) ?_
     refine r_d rfl rfl rfl (s_arW rfl rfl rfl rfl) ?_
     refine r_d rfl rfl rfl (s_move rfl rfl) ?_
     refine r_d rfl rfl rfl (s_move rfl rfl) ?_
     refine r_d rfl rfl rfl (m_index (f := encA) l_a0 rfl el_L_api_Atom rfl (asl rfl) rfl hq0 sz_encA rfl) ?_
     refine r_d rfl rfl rfl (s_fieldAddr rfl fl_api_Atom_0 rfl rfl rfl rfl) ?_
     refine r_d rfl rfl rfl (s_load rfl rfl (by exact ty_string) rfl) ?_
     refine r_d rfl rfl rfl (s_lenS rfl Tryz.underlying9 rfl) ?_
     refine r_d rfl rfl rfl (s_quoC rfl rfl rfl (by decide)) ?_
     refine r_d rfl rfl rfl (s_arW rfl rfl rfl rfl) ?_
     obtain ⟨r_6, hr_6, hr⟩ := bindS hr
     refine r_d rfl rfl rfl (s_callD rfl cl_constraintref03_weigh (.cons rfl (Wk.refl _) (.cons rfl (Wk.refl _) (.cons rfl (Wk.refl _) .nil))) (lx_constraintref03_weigh _ _ _ _ hr_6)) ?_
     refine r_d rfl rfl rfl (s_assign rfl rfl) ?_
     refine r_end ?_
     refine g_inBlock ?_
     refine g_run (by kernel_rfl) [(0, .d), (1, .d), (2, .d)] rfl ?_
     refine r_d rfl rfl rfl (s_move rfl rfl) ?_
     refine r_d rfl rfl rfl (s_ar (r := ((i_2 + 1 : Nat) : Int)) rfl rfl rfl (by simp [iar]) (by omega)) ?_
     refine r_d rfl rfl rfl (s_assign rfl rfl) ?_
     refine r_end ?_
     refine g_sub [(0, .lst (l_a0.map encA)), (1, .int .i64 r_6), (5, .int .i64 ((i_2 + 1 : Nat) : Int))] (Sub.cons' rfl (Sub.cons' rfl (Sub.cons' rfl (Sub.nil _)))) ?_
     exact IH0 _ _ _ (by omega) ⟨r_6, (i_2 + 1), rfl, rfl, rfl, (by omega), hr⟩
    ·
     refine g_condF rfl ?_
     refine g_exit rfl ?_
     refine g_sub [(1, .int .i64 most_1)] (Sub.cons' rfl (Sub.nil _)) ?_
     exact HK0 _ _ ⟨most_1, rfl, rfl, hr⟩

noncomputable def lf_constraintref03_GreatGoals_L0 (k : (Int) → Option (Bool)) : List Gl → Int → Option (Bool)
  | [], most_1 =>
  (k most_1)
  | q_4 :: rest, most_1 =>
  (bif (decide (most_1 ≥ (0 : Int))) then
  ((x_weigh q_4.ts (wr ((wr (most_1 - (1 : Int))) - (wr (Int.tdiv (q_4.n.size : Int) 8)))) 64).bind fun r_6 =>
  (lf_constraintref03_GreatGoals_L0 k rest r_6))
  else
  (k most_1))
noncomputable def lf_constraintref03_GreatGoals (l_a0 : (List Gl)) (most_a1 : Int) : Option (Bool) :=
  (lf_constraintref03_GreatGoals_L0 (fun most_3 =>
  some ((decide (most_3 < (0 : Int))))) l_a0 most_a1)

set_option maxHeartbeats 1000000 in
theorem lg_constraintref03_GreatGoals (l_a0 : (List Gl)) (most_a1 : Int) (res : Bool) (hr : lf_constraintref03_GreatGoals l_a0 most_a1 = some res) : Gives Tryz.prog 48 [.lst (l_a0.map encG), .int .i64 most_a1] (.bool res) := by
  unfold lf_constraintref03_GreatGoals at hr
  refine spec_env [(0, .lst (l_a0.map encG)), (1, .int .i64 most_a1)] Tryz.func48 rfl rfl fun K hK => ?_
  refine g_seq ?_
  refine g_run (by kernel_rfl) [(0, .d)] rfl ?_
  refine r_d rfl rfl rfl (s_assign rfl rfl) ?_
  refine r_end ?_
  refine g_seq ?_
  refine g_seq ?_
  refine g_run (by kernel_rfl) [(0, .d)] rfl ?_
  refine r_d rfl rfl rfl (s_assign rfl rfl) ?_
  refine r_end ?_
  obtain ⟨kk0, hkk0, hr⟩ := exK (fun k => lf_constraintref03_GreatGoals_L0 k l_a0 most_a1) hr
  refine g_len 0 rfl (asl rfl) fun hla0 => ?_
  simp only [List.length_map] at hla0
  refine g_blockJ (fun env σ => ∃ (most_3 : Int), env = [(1, .int .i64 most_3)] ∧ σ = [] ∧ kk0 most_3 = some res) ?_ (fun HK0 => ?_)
  ·
   rintro _ _ ⟨most_3, rfl, rfl, hr⟩
   rw [hkk0] at hr
   refine g_seq ?_
   refine g_run (by kernel_rfl) [(0, .d), (1, .d), (2, .d)] rfl ?_
   refine r_d rfl rfl rfl (s_move rfl rfl) ?_
   refine r_d rfl rfl rfl (s_cmp rfl rfl rfl rfl) ?_
   refine r_d rfl rfl rfl (s_assign rfl rfl) ?_
   refine r_end ?_
   obtain rfl := Option.some.inj hr
   refine g_ret Tryz.func48 _ (.cons (resTmp rfl (Wk.refl _)) .nil) ?_
   rfl
  ·
   refine g_sub [(0, .lst (l_a0.map encG)), (1, .int .i64 most_a1), (5, .int .i64 ((0 : Nat) : Int))] (Sub.cons' rfl (Sub.cons' rfl (Sub.cons' rfl (Sub.nil _)))) ?_
   refine g_loop (fun n env σ => ∃ (most_1 : Int) (i_2 : Nat), (n = l_a0.length - i_2) ∧ (env = [(0, .lst (l_a0.map encG)), (1, .int .i64 most_1), (5, .int .i64 (i_2 : Int))]) ∧ (σ = []) ∧ (i_2 ≤ l_a0.length) ∧ (lf_constraintref03_GreatGoals_L0 kk0 (l_a0.drop i_2) most_1 = some res)) _ ⟨most_a1, 0, rfl, rfl, rfl, Nat.zero_le _, hr⟩ ?_
   rintro n _ _ ⟨most_1, i_2, rfl, rfl, rfl, hi0, hr⟩ IH0
   rcases listStep l_a0 i_2 hi0 with ⟨ht0, hd0, he0⟩ | ⟨q_4, ht0, hd0, hq0, hlt0⟩
   ·
    rw [hd0, lf_constraintref03_GreatGoals_L0] at hr
    refine g_seq ?_
    refine g_seq ?_
    refine g_run (by kernel_rfl) [(0, .d), (1, .d), (2, .d), (3, .d), (4, .d), (5, .d), (6, .d), (7, .d)] rfl ?_
    refine r_d rfl rfl rfl (s_move rfl rfl) ?_
    refine r_d rfl rfl rfl (s_move rfl rfl) ?_
    refine r_d rfl rfl rfl (m_len (f := encG) l_a0 rfl el_L_api_Goal rfl (asl rfl)) ?_
    refine r_d rfl rfl rfl (s_cmp rfl rfl rfl rfl) ?_
    refine r_d rfl rfl rfl (s_move rfl rfl) ?_
    refine r_known 10 false rfl ht0 ?_
    refine r_skip rfl rfl rfl ?_
    refine r_skip rfl rfl rfl ?_
    refine r_d rfl rfl rfl (s_pickF rfl rfl rfl) ?_
    refine r_end ?_
    refine g_condF rfl ?_
    refine g_exit rfl ?_
    refine g_sub [(1, .int .i64 most_1)] (Sub.cons' rfl (Sub.nil _)) ?_
    exact HK0 _ _ ⟨most_1, rfl, rfl, hr⟩
   ·
    rw [hd0, lf_constraintref03_GreatGoals_L0] at hr
    refine g_seq ?_
    refine g_seq ?_
    refine g_run (by kernel_rfl) [(0, .d), (1, .d), (2, .d), (3, .d), (4, .d), (5, .d), (6, .d), (7, .d)] rfl ?_
    refine r_d rfl rfl rfl (s_move rfl rfl) ?_
    refine r_d rfl rfl rfl (s_move rfl rfl) ?_
    refine r_d rfl rfl rfl (m_len (f := encG) l_a0 rfl el_L_api_Goal rfl (asl rfl)) ?_
    refine r_d rfl rfl rfl (s_cmp rfl rfl rfl rfl) ?_
    refine r_d rfl rfl rfl (s_move rfl rfl) ?_
    refine r_known 10 true rfl ht0 ?_
    refine r_d rfl rfl rfl (s_move rfl rfl) ?_
    refine r_d rfl rfl rfl (s_cmp rfl rfl rfl rfl) ?_
    refine r_d rfl rfl rfl (s_pickT rfl rfl rfl) ?_
    refine r_end ?_
    refine g_sB 13 rfl hr (fun h13_4 hr => ?_) (fun h13_4 hr => ?_)
    ·
     refine g_condT rfl ?_
     refine g_skip ?_
     refine g_seq ?_
     refine g_block ?_
     refine g_any (by kernel_rfl) (by kernel_rfl) [(0, .d), (1, .d), (2, .d), (3, .d), (4, .d), (5, .d), (6, .d), (7, .d), (8, .d), (9, .d), (10, .d), (11, .d), (12, .d), (13, .d), (14, .d), (15, .d), (16, .d)] (by kernel_rfl) ?_
     refine r_d rfl rfl rfl (s_move rfl rfl) ?_
     refine r_d rfl rfl rfl (s_move rfl rfl) ?_
     refine r_d rfl rfl rfl (m_index (f := encG) l_a0 rfl el_L_api_Goal rfl (asl rfl) rfl hq0 sz_encG rfl) ?_
     refine r_d rfl rfl rfl (s_fieldAddr rfl fl_api_Goal_2 rfl rfl rfl rfl) ?_
     refine r_d rfl rfl rfl (s_load rfl rfl (by exact ty_L_api_Term) rfl) ?_
     refine r_d rfl rfl rfl (s_move rfl rfl) ?_
     refine r_d rfl rfl rfl (s_arW rfl rfl rfl rfl) ?_
     refine r_d rfl rfl rfl (s_move rfl rfl) ?_
     refine r_d rfl rfl rfl (s_move rfl rfl) ?_
     refine r_d rfl rfl rfl (m_index (f := encG) l_a0 rfl el_L_api_Goal rfl (asl rfl) rfl hq0 sz_encG rfl) ?_
     refine r_d rfl rfl rfl (s_fieldAddr rfl fl_api_Goal_1 rfl rfl rfl rfl) ?_
     refine r_d rfl rfl rfl (s_load rfl rfl (by exact ty_string) rfl) ?_
     refine r_d rfl rfl rfl (s_lenS rfl Tryz.underlying9 rfl) ?_
     refine r_d rfl rfl rfl (s_quoC rfl rfl rfl (by decide)) ?_
     refine r_d rfl rfl rfl (s_arW rfl rfl rfl rfl) ?_
     obtain ⟨r_6, hr_6, hr⟩ := bindS hr
     refine r_d rfl rfl rfl (s_callD rfl cl_constraintref03_weigh (.cons rfl (Wk.refl _) (.cons rfl (Wk.refl _) (.cons rfl (Wk.refl _) .nil))) (lx_constraintref03_weigh _ _ _ _ hr_6)) ?_
     refine r_d rfl rfl rfl (s_assign rfl rfl) ?_
     refine r_end ?_
     refine g_inBlock ?_
     refine g_run (by kernel_rfl) [(0, .d), (1, .d), (2, .d)] rfl ?_
     refine r_d rfl rfl rfl (s_move rfl rfl) ?_
     refine r_d rfl rfl rfl (s_ar (r := ((i_2 + 1 : Nat) : Int)) rfl rfl rfl (by simp [iar]) (by omega)) ?_
     refine r_d rfl rfl rfl (s_assign rfl rfl) ?_
     refine r_end ?_
     refine g_sub [(0, .lst (l_a0.map encG)), (1, .int .i64 r_6), (5, .int .i64 ((i_2 + 1 : Nat) : Int))] (Sub.cons' rfl (Sub.cons' rfl (Sub.cons' rfl (Sub.nil _)))) ?_
     exact IH0 _ _ _ (by omega) ⟨r_6, (i_2 + 1), rfl, rfl, rfl, (by omega), hr⟩
    ·
     refine g_condF rfl ?_
     refine g_exit rfl ?_
     refine g_sub [(1, .int .i64 most_1)] (Sub.cons' rfl (Sub.nil _)) ?_
     exact HK0 _ _ ⟨most_1, rfl, rfl, hr⟩

noncomputable def lf_constraintref03_GreatRules_L0 (k : Option (Bool)) (l_a0 : (List S_api_Rule)) (most_a1 : Int) : List S_api_Rule → Option (Bool)
  | [] =>
  k
  | q_2 :: rest =>
  (bif (decide ((l_a0.length : Int) > most_a1)) then
  some (true)
  else
  (bif (decide ((wr ((wr ((wr (Int.tdiv (q_2.f0_Name.size : Int) 8)) + (q_2.f1_Keep.length : Int))) + (q_2.f2_Remove.length : Int))) > most_a1)) then
  some (true)
  else
  ((lf_constraintref03_GreatAtoms q_2.f1_Keep most_a1).bind fun r_6 =>
  (bif r_6 then
  some (true)
  else
  ((lf_constraintref03_GreatAtoms q_2.f2_Remove most_a1).bind fun r_8 =>
  (bif r_8 then
  some (true)
  else
  ((lf_constraintref03_GreatGoals q_2.f3_Guard most_a1).bind fun r_10 =>
  (bif r_10 then
  some (true)
  else
  ((lf_constraintref03_GreatGoals q_2.f4_Body most_a1).bind fun r_12 =>
  (bif r_12 then
  some (true)
  else
  (lf_constraintref03_GreatRules_L0 k l_a0 most_a1 rest)))))))))))
noncomputable def lf_constraintref03_GreatRules (l_a0 : (List S_api_Rule)) (most_a1 : Int) : Option (Bool) :=
  (lf_constraintref03_GreatRules_L0 (some (false)) l_a0 most_a1 l_a0)

set_option maxHeartbeats 1000000 in
theorem lg_constraintref03_GreatRules (l_a0 : (List S_api_Rule)) (most_a1 : Int) (res : Bool) (hr : lf_constraintref03_GreatRules l_a0 most_a1 = some res) : Gives Tryz.prog 18 [.lst (l_a0.map enc_S_api_Rule), .int .i64 most_a1] (.bool res) := by
  unfold lf_constraintref03_GreatRules at hr
  refine spec_env [(0, .lst (l_a0.map enc_S_api_Rule)), (1, .int .i64 most_a1)] Tryz.func18 rfl rfl fun K hK => ?_
  refine g_seq ?_
  refine g_run (by kernel_rfl) [(0, .d)] rfl ?_
  refine r_d rfl rfl rfl (s_assign rfl rfl) ?_
  refine r_end ?_
  refine g_seq ?_
  refine g_seq ?_
  refine g_run (by kernel_rfl) [(0, .d)] rfl ?_
  refine r_d rfl rfl rfl (s_assign rfl rfl) ?_
  refine r_end ?_
  obtain ⟨kk0, hkk0, hr⟩ := exK (fun k => lf_constraintref03_GreatRules_L0 k l_a0 most_a1 l_a0) hr
  refine g_len 0 rfl (asl rfl) fun hla0 => ?_
  simp only [List.length_map] at hla0
  refine g_blockJ (fun env σ => env = [] ∧ σ = [] ∧ kk0 = some res) ?_ (fun HK0 => ?_)
  ·
   rintro _ _ ⟨rfl, rfl, hr⟩
   rw [hkk0] at hr
   refine g_seq ?_
   refine g_run (by kernel_rfl) [(0, .d)] rfl ?_
   refine r_d rfl rfl rfl (s_assign rfl rfl) ?_
   refine r_end ?_
   obtain rfl := Option.some.inj hr
   refine g_ret Tryz.func18 _ (.cons (resTmp rfl (Wk.refl _)) .nil) ?_
   rfl
  ·
   refine g_sub [(0, .lst (l_a0.map enc_S_api_Rule)), (1, .int .i64 most_a1), (5, .int .i64 ((0 : Nat) : Int))] (Sub.cons' rfl (Sub.cons' rfl (Sub.cons' rfl (Sub.nil _)))) ?_
   refine g_loop (fun n env σ => ∃ (i_1 : Nat), (n = l_a0.length - i_1) ∧ (env = [(0, .lst (l_a0.map enc_S_api_Rule)), (1, .int .i64 most_a1), (5, .int .i64 (i_1 : Int))]) ∧ (σ = []) ∧ (i_1 ≤ l_a0.length) ∧ (lf_constraintref03_GreatRules_L0 kk0 l_a0 most_a1 (l_a0.drop i_1) = some res)) _ ⟨0, rfl, rfl, rfl, Nat.zero_le _, hr⟩ ?_
   rintro n _ _ ⟨i_1, rfl, rfl, rfl, hi0, hr⟩ IH0
   rcases listStep l_a0 i_1 hi0 with ⟨ht0, hd0, he0⟩ | ⟨q_2, ht0, hd0, hq0, hlt0⟩
   ·
    rw [hd0, lf_constraintref03_GreatRules_L0] at hr
    refine g_seq ?_
    refine g_seq ?_
    refine g_run (by kernel_rfl) [(0, .d), (1, .d), (2, .d), (3, .d)] rfl ?_
    refine r_d rfl rfl rfl (s_move rfl rfl) ?_
    refine r_d rfl rfl rfl (s_move rfl rfl) ?_
    refine r_d rfl rfl rfl (m_len (f := enc_S_api_Rule) l_a0 rfl el_L_api_Rule rfl (asl rfl)) ?_
    refine r_d rfl rfl rfl (s_cmp rfl rfl rfl rfl) ?_
    refine r_end ?_
    refine g_known 10 false rfl ht0 ?_
    refine g_condF rfl ?_
    refine g_exit rfl ?_
    refine g_sub [] (Sub.nil _) ?_
    exact HK0 _ _ ⟨rfl, rfl, hr⟩
   ·
    rw [hd0, lf_constraintref03_GreatRules_L0] at hr
    refine g_seq ?_
    refine g_seq ?_
    refine g_run (by kernel_rfl) [(0, .d), (1, .d), (2, .d), (3, .d)] rfl ?_
    refine r_d rfl rfl rfl (s_move rfl rfl) ?_
    refine r_d rfl rfl rfl (s_move rfl rfl) ?_
    refine r_d rfl rfl rfl (m_len (f := enc_S_api_Rule) l_a0 rfl el_L_api_Rule rfl (asl rfl)) ?_
    refine r_d rfl rfl rfl (s_cmp rfl rfl rfl rfl) ?_
    refine r_end ?_
    refine g_known 10 true rfl ht0 ?_
    refine g_condT rfl ?_
    refine g_skip ?_
    refine g_seq ?_
    refine g_block ?_
    refine g_seq ?_
    refine g_run (by kernel_rfl) [(0, .d), (1, .d), (2, .d), (3, .d), (4, .w), (5, .w)] rfl ?_
    refine r_d rfl rfl rfl (s_move rfl rfl) ?_
    refine r_d rfl rfl rfl (s_move rfl rfl) ?_
    refine r_d rfl rfl rfl (m_index (f := enc_S_api_Rule) l_a0 rfl el_L_api_Rule rfl (asl rfl) rfl hq0 sz_S_api_Rule rfl) ?_
    refine r_d rfl rfl rfl (s_load rfl rfl (by exact ty_api_Rule) (sz_S_api_Rule _)) ?_
    refine r_w rfl rfl rfl (s_alloc rfl zv_api_Rule) ?_
    rintro _ _ ⟨b6_2, rfl, rfl⟩
    refine r_w01 rfl rfl rfl (t_store0 _ rfl rfl rfl (Wk.refl _) (pf0 _) (by exact ty_api_Rule) (sz_S_api_Rule _) rfl rfl) ?_
    refine r_end ?_
    refine g_freeze 6 b6_2 rfl (pf0 _) ?_
    refine g_seq ?_
    refine g_run (by kernel_rfl) [(0, .d), (1, .d), (2, .d), (3, .d), (4, .d), (5, .d), (6, .d), (7, .d), (8, .d), (9, .d), (10, .d), (11, .d), (12, .d), (13, .d), (14, .d), (15, .d), (16, .d), (17, .d), (18, .d), (19, .d), (20, .d), (21, .d), (22, .d), (23, .d), (24, .d), (25, .d), (26, .d), (27, .d), (28, .d), (29, .d), (30, .d), (31, .d), (32, .d), (33, .d), (34, .d), (35, .d), (36, .d), (37, .d), (38, .d), (39, .d), (40, .d), (41, .d), (42, .d), (43, .d)] rfl ?_
    refine r_d rfl rfl rfl (s_move rfl rfl) ?_
    refine r_d rfl rfl rfl (m_len (f := enc_S_api_Rule) l_a0 rfl el_L_api_Rule rfl (asl rfl)) ?_
    refine r_d rfl rfl rfl (s_move rfl rfl) ?_
    refine r_d rfl rfl rfl (s_cmp rfl rfl rfl rfl) ?_
    refine r_d rfl rfl rfl (s_move rfl rfl) ?_
    refine r_sB 21 rfl hr (fun h21_3 hr => ?_) (fun h21_3 hr => ?_)
    ·
     refine r_skip rfl rfl rfl ?_
     refine r_skip rfl rfl rfl ?_
     refine r_skip rfl rfl rfl ?_
     refine r_skip rfl rfl rfl ?_
     refine r_skip rfl rfl rfl ?_
     refine r_skip rfl rfl rfl ?_
     refine r_skip rfl rfl rfl ?_
     refine r_skip rfl rfl rfl ?_
     refine r_skip rfl rfl rfl ?_
     refine r_skip rfl rfl rfl ?_
     refine r_skip rfl rfl rfl ?_
     refine r_skip rfl rfl rfl ?_
     refine r_skip rfl rfl rfl ?_
     refine r_skip rfl rfl rfl ?_
     refine r_d rfl rfl rfl (s_pickT rfl rfl rfl) ?_
     refine r_d rfl rfl rfl (s_move rfl rfl) ?_
     refine r_skip rfl rfl rfl ?_
     refine r_skip rfl rfl rfl ?_
     refine r_skip rfl rfl rfl ?_
     refine r_skip rfl rfl rfl ?_
     refine r_d rfl rfl rfl (s_pickT rfl rfl rfl) ?_
     refine r_d rfl rfl rfl (s_move rfl rfl) ?_
     refine r_skip rfl rfl rfl ?_
     refine r_skip rfl rfl rfl ?_
     refine r_skip rfl rfl rfl ?_
     refine r_skip rfl rfl rfl ?_
     refine r_d rfl rfl rfl (s_pickT rfl rfl rfl) ?_
     refine r_d rfl rfl rfl (s_move rfl rfl) ?_
     refine r_skip rfl rfl rfl ?_
     refine r_skip rfl rfl rfl ?_
     refine r_skip rfl rfl rfl ?_
     refine r_skip rfl rfl rfl ?_
     refine r_d rfl rfl rfl (s_pickT rfl rfl rfl) ?_
     refine r_d rfl rfl rfl (s_move rfl rfl) ?_
     refine r_skip rfl rfl rfl ?_
     refine r_skip rfl rfl rfl ?_
     refine r_skip rfl rfl rfl ?_
     refine r_skip rfl rfl rfl ?_
     refine r_d rfl rfl rfl (s_pickT rfl rfl rfl) ?_
     refine r_end ?_
     refine g_condT rfl ?_
     refine g_seq ?_
     refine g_run (by kernel_rfl) [(0, .d)] rfl ?_
     refine r_d rfl rfl rfl (s_assign rfl rfl) ?_
     refine r_end ?_
     obtain rfl := Option.some.inj hr
     refine g_ret Tryz.func18 _ (.cons (resTmp rfl (Wk.refl _)) .nil) ?_
     rfl
    ·
     refine r_d rfl rfl rfl (s_fieldAddr rfl fl_api_Rule_0 rfl rfl rfl rfl) ?_
     refine r_d rfl rfl rfl (s_load rfl rfl (by exact ty_string) rfl) ?_
     refine r_d rfl rfl rfl (s_lenS rfl Tryz.underlying9 rfl) ?_
     refine r_d rfl rfl rfl (s_quoC rfl rfl rfl (by decide)) ?_
     refine r_d rfl rfl rfl (s_fieldAddr rfl fl_api_Rule_1 rfl rfl rfl rfl) ?_
     refine r_d rfl rfl rfl (s_load rfl rfl (by exact ty_L_api_Atom) rfl) ?_
     refine r_d rfl rfl rfl (m_len (f := encA) q_2.f1_Keep rfl el_L_api_Atom rfl (asl rfl)) ?_
     refine r_d rfl rfl rfl (s_arW rfl rfl rfl rfl) ?_
     refine r_d rfl rfl rfl (s_fieldAddr rfl fl_api_Rule_2 rfl rfl rfl rfl) ?_
     refine r_d rfl rfl rfl (s_load rfl rfl (by exact ty_L_api_Atom) rfl) ?_
     refine r_d rfl rfl rfl (m_len (f := encA) q_2.f2_Remove rfl el_L_api_Atom rfl (asl rfl)) ?_
     refine r_d rfl rfl rfl (s_arW rfl rfl rfl rfl) ?_
     refine r_d rfl rfl rfl (s_move rfl rfl) ?_
     refine r_d rfl rfl rfl (s_cmp rfl rfl rfl rfl) ?_
     refine r_d rfl rfl rfl (s_pickF rfl rfl rfl) ?_
     refine r_d rfl rfl rfl (s_move rfl rfl) ?_
     refine r_sB 37 rfl hr (fun h37_4 hr => ?_) (fun h37_4 hr => ?_)
     ·
      refine r_skip rfl rfl rfl ?_
      refine r_skip rfl rfl rfl ?_
      refine r_skip rfl rfl rfl ?_
      refine r_skip rfl rfl rfl ?_
      refine r_d rfl rfl rfl (s_pickT rfl rfl rfl) ?_
      refine r_d rfl rfl rfl (s_move rfl rfl) ?_
      refine r_skip rfl rfl rfl ?_
      refine r_skip rfl rfl rfl ?_
      refine r_skip rfl rfl rfl ?_
      refine r_skip rfl rfl rfl ?_
      refine r_d rfl rfl rfl (s_pickT rfl rfl rfl) ?_
      refine r_d rfl rfl rfl (s_move rfl rfl) ?_
      refine r_skip rfl rfl rfl ?_
      refine r_skip rfl rfl rfl ?_
      refine r_skip rfl rfl rfl ?_
      refine r_skip rfl rfl rfl ?_
      refine r_d rfl rfl rfl (s_pickT rfl rfl rfl) ?_
      refine r_d rfl rfl rfl (s_move rfl rfl) ?_
      refine r_skip rfl rfl rfl ?_
      refine r_skip rfl rfl rfl ?_
      refine r_skip rfl rfl rfl ?_
      refine r_skip rfl rfl rfl ?_
      refine r_d rfl rfl rfl (s_pickT rfl rfl rfl) ?_
      refine r_end ?_
      refine g_condT rfl ?_
      refine g_seq ?_
      refine g_run (by kernel_rfl) [(0, .d)] rfl ?_
      refine r_d rfl rfl rfl (s_assign rfl rfl) ?_
      refine r_end ?_
      obtain rfl := Option.some.inj hr
      refine g_ret Tryz.func18 _ (.cons (resTmp rfl (Wk.refl _)) .nil) ?_
      rfl
     ·
      refine r_d rfl rfl rfl (s_fieldAddr rfl fl_api_Rule_1 rfl rfl rfl rfl) ?_
      refine r_d rfl rfl rfl (s_load rfl rfl (by exact ty_L_api_Atom) rfl) ?_
      refine r_d rfl rfl rfl (s_move rfl rfl) ?_
      obtain ⟨r_6, hr_6, hr⟩ := bindS hr
      refine r_d rfl rfl rfl (s_callD rfl cl_constraintref03_GreatAtoms (.cons rfl (Wk.refl _) (.cons rfl (Wk.refl _) .nil)) (lg_constraintref03_GreatAtoms _ _ _ hr_6)) ?_
      refine r_d rfl rfl rfl (s_pickF rfl rfl rfl) ?_
      refine r_d rfl rfl rfl (s_move rfl rfl) ?_
      refine r_sB 43 rfl hr (fun h43_6 hr => ?_) (fun h43_6 hr => ?_)
      ·
       refine r_skip rfl rfl rfl ?_
       refine r_skip rfl rfl rfl ?_
       refine r_skip rfl rfl rfl ?_
       refine r_skip rfl rfl rfl ?_
       refine r_d rfl rfl rfl (s_pickT rfl rfl rfl) ?_
       refine r_d rfl rfl rfl (s_move rfl rfl) ?_
       refine r_skip rfl rfl rfl ?_
       refine r_skip rfl rfl rfl ?_
       refine r_skip rfl rfl rfl ?_
       refine r_skip rfl rfl rfl ?_
       refine r_d rfl rfl rfl (s_pickT rfl rfl rfl) ?_
       refine r_d rfl rfl rfl (s_move rfl rfl) ?_
       refine r_skip rfl rfl rfl ?_
       refine r_skip rfl rfl rfl ?_
       refine r_skip rfl rfl rfl ?_
       refine r_skip rfl rfl rfl ?_
       refine r_d rfl rfl rfl (s_pickT rfl rfl rfl) ?_
       refine r_end ?_
       refine g_condT rfl ?_
       refine g_seq ?_
       refine g_run (by kernel_rfl) [(0, .d)] rfl ?_
       refine r_d rfl rfl rfl (s_assign rfl rfl) ?_
       refine r_end ?_
       obtain rfl := Option.some.inj hr
       refine g_ret Tryz.func18 _ (.cons (resTmp rfl (Wk.refl _)) .nil) ?_
       rfl
      ·
       refine r_d rfl rfl rfl (s_fieldAddr rfl fl_api_Rule_2 rfl rfl rfl rfl) ?_
       refine r_d rfl rfl rfl (s_load rfl rfl (by exact ty_L_api_Atom) rfl) ?_
       refine r_d rfl rfl rfl (s_move rfl rfl) ?_
       obtain ⟨r_8, hr_8, hr⟩ := bindS hr
       refine r_d rfl rfl rfl (s_callD rfl cl_constraintref03_GreatAtoms (.cons rfl (Wk.refl _) (.cons rfl (Wk.refl _) .nil)) (lg_constraintref03_GreatAtoms _ _ _ hr_8)) ?_
       refine r_d rfl rfl rfl (s_pickF rfl rfl rfl) ?_
       refine r_d rfl rfl rfl (s_move rfl rfl) ?_
       refine r_sB 49 rfl hr (fun h49_8 hr => ?_) (fun h49_8 hr => ?_)
       ·
        refine r_skip rfl rfl rfl ?_
        refine r_skip rfl rfl rfl ?_
        refine r_skip rfl rfl rfl ?_
        refine r_skip rfl rfl rfl ?_
        refine r_d rfl rfl rfl (s_pickT rfl rfl rfl) ?_
        refine r_d rfl rfl rfl (s_move rfl rfl) ?_
        refine r_skip rfl rfl rfl ?_
        refine r_skip rfl rfl rfl ?_
        refine r_skip rfl rfl rfl ?_
        refine r_skip rfl rfl rfl ?_
        refine r_d rfl rfl rfl (s_pickT rfl rfl rfl) ?_
        refine r_end ?_
        refine g_condT rfl ?_
        refine g_seq ?_
        refine g_run (by kernel_rfl) [(0, .d)] rfl ?_
        refine r_d rfl rfl rfl (s_assign rfl rfl) ?_
        refine r_end ?_
        obtain rfl := Option.some.inj hr
        refine g_ret Tryz.func18 _ (.cons (resTmp rfl (Wk.refl _)) .nil) ?_
        rfl
       ·
        refine r_d rfl rfl rfl (s_fieldAddr rfl fl_api_Rule_3 rfl rfl rfl rfl) ?_
        refine r_d rfl rfl rfl (s_load rfl rfl (by exact ty_L_api_Goal) rfl) ?_
        refine r_d rfl rfl rfl (s_move rfl rfl) ?_
        obtain ⟨r_10, hr_10, hr⟩ := bindS hr
        refine r_d rfl rfl rfl (s_callD rfl cl_constraintref03_GreatGoals (.cons rfl (Wk.refl _) (.cons rfl (Wk.refl _) .nil)) (lg_constraintref03_GreatGoals _ _ _ hr_10)) ?_
        refine r_d rfl rfl rfl (s_pickF rfl rfl rfl) ?_
        refine r_d rfl rfl rfl (s_move rfl rfl) ?_
        refine r_sB 55 rfl hr (fun h55_10 hr => ?_) (fun h55_10 hr => ?_)
        ·
         refine r_skip rfl rfl rfl ?_
         refine r_skip rfl rfl rfl ?_
         refine r_skip rfl rfl rfl ?_
         refine r_skip rfl rfl rfl ?_
         refine r_d rfl rfl rfl (s_pickT rfl rfl rfl) ?_
         refine r_end ?_
         refine g_condT rfl ?_
         refine g_seq ?_
         refine g_run (by kernel_rfl) [(0, .d)] rfl ?_
         refine r_d rfl rfl rfl (s_assign rfl rfl) ?_
         refine r_end ?_
         obtain rfl := Option.some.inj hr
         refine g_ret Tryz.func18 _ (.cons (resTmp rfl (Wk.refl _)) .nil) ?_
         rfl
        ·
         refine r_d rfl rfl rfl (s_fieldAddr rfl fl_api_Rule_4 rfl rfl rfl rfl) ?_
         refine r_d rfl rfl rfl (s_load rfl rfl (by exact ty_L_api_Goal) rfl) ?_
         refine r_d rfl rfl rfl (s_move rfl rfl) ?_
         obtain ⟨r_12, hr_12, hr⟩ := bindS hr
         refine r_d rfl rfl rfl (s_callD rfl cl_constraintref03_GreatGoals (.cons rfl (Wk.refl _) (.cons rfl (Wk.refl _) .nil)) (lg_constraintref03_GreatGoals _ _ _ hr_12)) ?_
         refine r_d rfl rfl rfl (s_pickF rfl rfl rfl) ?_
         refine r_end ?_
         refine g_sB 60 rfl hr (fun h60_12 hr => ?_) (fun h60_12 hr => ?_)
         ·
          refine g_condT rfl ?_
          refine g_seq ?_
          refine g_run (by kernel_rfl) [(0, .d)] rfl ?_
          refine r_d rfl rfl rfl (s_assign rfl rfl) ?_
          refine r_end ?_
          obtain rfl := Option.some.inj hr
          refine g_ret Tryz.func18 _ (.cons (resTmp rfl (Wk.refl _)) .nil) ?_
          rfl
         ·
          refine g_condF rfl ?_
          refine g_skip ?_
          refine g_inBlock ?_
          refine g_run (by kernel_rfl) [(0, .d), (1, .d), (2, .d)] rfl ?_
          refine r_d rfl rfl rfl (s_move rfl rfl) ?_
          refine r_d rfl rfl rfl (s_ar (r := ((i_1 + 1 : Nat) : Int)) rfl rfl rfl (by simp [iar]) (by omega)) ?_
          refine r_d rfl rfl rfl (s_assign rfl rfl) ?_
          refine r_end ?_
          refine g_sub [(0, .lst (l_a0.map enc_S_api_Rule)), (1, .int .i64 most_a1), (5, .int .i64 ((i_1 + 1 : Nat) : Int))] (Sub.cons' rfl (Sub.cons' rfl (Sub.cons' rfl (Sub.nil _)))) ?_
          exact IH0 _ _ _ (by omega) ⟨(i_1 + 1), rfl, rfl, rfl, (by omega), hr⟩

noncomputable def lf_constraintlaw17_large (r_a0 : S_api_Rule) : Option (Bool) :=
  ((lf_constraintref03_GreatRules [r_a0] 120).bind fun r_1 =>
  some (r_1))

set_option maxHeartbeats 1000000 in
theorem lg_constraintlaw17_large (r_a0 : S_api_Rule) (res : Bool) (hr : lf_constraintlaw17_large r_a0 = some res) : Gives Tryz.prog 5 [enc_S_api_Rule r_a0] (.bool res) := by
  unfold lf_constraintlaw17_large at hr
  refine spec_env [(0, enc_S_api_Rule r_a0)] Tryz.func5 rfl rfl fun K hK => ?_
  refine g_seq ?_
  refine g_run (by kernel_rfl) [(0, .d), (1, .d)] rfl ?_
  refine r_d rfl rfl rfl (s_box rfl rfl rfl) ?_
  refine r_d rfl rfl rfl (s_assign rfl rfl) ?_
  refine r_end ?_
  refine g_seq ?_
  refine g_run (by kernel_rfl) [(0, .d), (1, .d), (2, .d), (3, .d)] rfl ?_
  refine r_d rfl rfl rfl (s_load rfl rfl (by exact ty_api_Rule) (sz_S_api_Rule _)) ?_
  refine r_d rfl rfl rfl (m_lit (f := enc_S_api_Rule) [.tmp 3] [r_a0] rfl el_L_api_Rule rfl rfl (by decide) (by decide) (.cons rfl (Wk.refl _) .nil) sz_S_api_Rule (fun _ => rfl)) ?_
  obtain ⟨r_1, hr_1, hr⟩ := bindS hr
  refine r_d rfl rfl rfl (by exact s_callD rfl cl_constraintref03_GreatRules (.cons rfl (Wk.full _) (.cons rfl (Wk.refl _) .nil)) (lg_constraintref03_GreatRules _ _ _ hr_1)) ?_
  refine r_d rfl rfl rfl (s_assign rfl rfl) ?_
  refine r_end ?_
  obtain rfl := Option.some.inj hr
  refine g_ret Tryz.func5 _ (.cons (resTmp rfl (Wk.refl _)) .nil) ?_
  rfl

end Go.Proofs.YtlannippingfdaaGreat

