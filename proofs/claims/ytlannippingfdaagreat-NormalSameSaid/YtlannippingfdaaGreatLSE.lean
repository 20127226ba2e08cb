/-
  Texts of the seat, merged.
-/
import Derived.Test.YtlannippingfdaaGreatLSA
import Derived.Test.YtlannippingfdaaGreatLSB
import Derived.Test.YtlannippingfdaaGreatLSC
import Derived.Test.YtlannippingfdaaGreatLSD
import Derived.Test.YtlannippingfdaaGreatChecked
import Derived.WalkKit
import Derived.Lib.Hide
import Derived.Lib.AppendStr
import Derived.Deep.AppendLies
import Derived.Deep.AppendSrc
import Derived.Deep.Draws
import Derived.Deep.QuietTactic
import Derived.BigQuiet
import Derived.Deep.RegionWith
import Derived.Maps.AppendAt
import Derived.WalkSpells
import Derived.Deep.Slices
import Derived.Deep.Fields
import Derived.ChangeArms
import Derived.Orders
import Derived.RangeFuncNested
import Derived.RangeFuncBound
import Derived.RangeFuncCalls
import Derived.RangeFuncLeaves
import Derived.Shelf.Abstract
import Derived.OwnWalkIn
import Derived.TacticsInMore
import Derived.LoopNIn
import Derived.LoopIn
import Derived.Lib.OthersKept
import Derived.Lib.TrimU
import Derived.Lib.IndexAny
import Derived.Deep.LoopGhost
import Derived.Lib.Bytealg
import Derived.RangeFuncBox
import Derived.RangeFuncWrites
import Derived.Maps.OwnIn
import Derived.Maps.Views
import Derived.Laws.OwnMore
import Derived.Maps.OwnSet
import Derived.Test.YtlannippingfdaaGreatRows
import Derived.ProofKit
import Derived.OpenShut
import Derived.Carry
import Derived.OrdersIn
import Derived.Great.BuildSlice
import Derived.ArgAppend
import Derived.Laws.MakeOwn
import Derived.Laws.Cover3
import Derived.Laws.CopyRow
import Derived.MapKept
import Derived.Maps.RangeRun
import Derived.DeepKeys5
import Derived.WideKeyRuns
set_option linter.unusedVariables false
set_option linter.unusedSimpArgs false
set_option linter.unnecessarySimpa false
set_option linter.all false

namespace Go.Proofs.YtlannippingfdaaGreat
set_option maxRecDepth 100000
open Go.RowKit

set_option maxHeartbeats 1000000 in
theorem lgs_constraintref09_shiftTerms (fuel : Nat) (rec : (List T) → Int → Option ((List T))) (IHR : ∀ (l_a0 : (List T)) (k_a1 : Int) (res : (List T)), rec l_a0 k_a1 = some res → Gives Tryz.prog 73 [.lst (l_a0.map encT), .int .i64 k_a1] (.lst (res.map encT))) (l_a0 : (List T)) (k_a1 : Int) (res : (List T))
    (hr : (lf_constraintref09_shiftTerms_L0 (fun out_7 =>
some (out_7)) rec k_a1 l_a0 []) = some res) : Gives Tryz.prog 73 [.lst (l_a0.map encT), .int .i64 k_a1] (.lst (res.map encT)) := by
  refine spec_env [(0, .lst (l_a0.map encT)), (1, .int .i64 k_a1)] Tryz.func73 rfl rfl fun K hK => ?_
  refine g_seq ?_
  refine g_run (by kernel_rfl) [(0, .w)] rfl ?_
  refine r_w rfl rfl rfl (s_nilOwn 42 4 (.inl rfl)) ?_
  rintro _ _ ⟨u4_0, rfl, rfl⟩
  refine r_end ?_
  refine g_seq ?_
  refine g_run (by kernel_rfl) [(0, .w)] rfl ?_
  refine r_w rfl rfl rfl (s_nilOwn 42 4 (.inl rfl)) ?_
  rintro _ _ ⟨u5_1, rfl, rfl⟩
  refine r_end ?_
  refine g_seq ?_
  refine g_seq ?_
  refine g_run (by kernel_rfl) [(0, .d)] rfl ?_
  refine r_d rfl rfl rfl (s_assign rfl rfl) ?_
  refine r_end ?_
  obtain ⟨kk0, hkk0, hr⟩ := exK (fun k => lf_constraintref09_shiftTerms_L0 k rec k_a1 l_a0 []) hr
  refine g_len 0 rfl (asl rfl) fun hla0 => ?_
  simp only [List.length_map] at hla0
  refine g_blockJ (fun env σ => ∃ (out_7 : (List T)) (u_6 : Value), env = [(5, .own u_6 (out_7.map encT))] ∧ σ = [.row u_6 out_7.length 42 4] ∧ kk0 out_7 = some res) ?_ (fun HK0 => ?_)
  ·
   rintro _ _ ⟨out_7, u_6, rfl, rfl, hr⟩
   rw [hkk0] at hr
   refine g_seq ?_
   refine g_run (by kernel_rfl) [(0, .d), (1, .d)] rfl ?_
   refine r_d rfl rfl rfl (s_move rfl rfl) ?_
   refine r_d rfl rfl rfl (s_assign rfl rfl) ?_
   refine r_end ?_
   obtain rfl := Option.some.inj hr
   refine g_ret Tryz.func73 _ (.cons (resTmp rfl (Wk.own _ _)) .nil) ?_
   rfl
  ·
   refine g_sub [(0, .lst (l_a0.map encT)), (1, .int .i64 k_a1), (5, .own u5_1 ([].map encT)), (6, .int .i64 ((0 : Nat) : Int))] (Sub.cons' rfl (Sub.cons' rfl (Sub.cons' rfl (Sub.cons' rfl (Sub.nil _))))) ?_
   refine g_perm [_] _ (pf0 _) ?_
   refine g_loop (fun n env σ => ∃ (out_4 : (List T)) (i_5 : Nat) (u_3 : Value), (n = l_a0.length - i_5) ∧ (env = [(0, .lst (l_a0.map encT)), (1, .int .i64 k_a1), (5, .own u_3 (out_4.map encT)), (6, .int .i64 (i_5 : Int))]) ∧ (σ = [.row u_3 out_4.length 42 4]) ∧ (i_5 ≤ l_a0.length) ∧ (lf_constraintref09_shiftTerms_L0 kk0 rec k_a1 (l_a0.drop i_5) out_4 = some res)) _ ⟨[], 0, u5_1, rfl, rfl, rfl, Nat.zero_le _, hr⟩ ?_
   rintro n _ _ ⟨out_4, i_5, u_3, rfl, rfl, rfl, hi0, hr⟩ IH0
   rcases listStep l_a0 i_5 hi0 with ⟨ht0, hd0, he0⟩ | ⟨q_8, ht0, hd0, hq0, hlt0⟩
   ·
    rw [hd0, lf_constraintref09_shiftTerms_L0] at hr
    refine g_seq ?_
    refine g_seq ?_
    refine g_run (by kernel_rfl) [(0, .d), (1, .d), (2, .d), (3, .d)] rfl ?_
    refine r_d rfl rfl rfl (s_move rfl rfl) ?_
    refine r_d rfl rfl rfl (s_move rfl rfl) ?_
    refine r_d rfl rfl rfl (m_len (f := encT) l_a0 rfl el_L_api_Term rfl (asl rfl)) ?_
    refine r_d rfl rfl rfl (s_cmp rfl rfl rfl rfl) ?_
    refine r_end ?_
    refine g_known 10 false rfl ht0 ?_
    refine g_condF rfl ?_
    refine g_exit rfl ?_
    refine g_sub [(5, .own u_3 (out_4.map encT))] (Sub.cons' rfl (Sub.nil _)) ?_
    exact HK0 _ _ ⟨out_4, u_3, rfl, rfl, hr⟩
   ·
    rw [hd0, lf_constraintref09_shiftTerms_L0] at hr
    refine g_seq ?_
    refine g_seq ?_
    refine g_run (by kernel_rfl) [(0, .d), (1, .d), (2, .d), (3, .d)] rfl ?_
    refine r_d rfl rfl rfl (s_move rfl rfl) ?_
    refine r_d rfl rfl rfl (s_move rfl rfl) ?_
    refine r_d rfl rfl rfl (m_len (f := encT) l_a0 rfl el_L_api_Term rfl (asl rfl)) ?_
    refine r_d rfl rfl rfl (s_cmp rfl rfl rfl rfl) ?_
    refine r_end ?_
    refine g_known 10 true rfl ht0 ?_
    refine g_condT rfl ?_
    refine g_skip ?_
    refine g_seq ?_
    refine g_block ?_
    refine g_run (by kernel_rfl) [(0, .d), (1, .d), (2, .d), (3, .d), (4, .d), (5, .d), (6, .d), (7, .d), (8, .w), (9, .d)] rfl ?_
    refine r_d rfl rfl rfl (s_move rfl rfl) ?_
    refine r_d rfl rfl rfl (s_move rfl rfl) ?_
    refine r_d rfl rfl rfl (s_move rfl rfl) ?_
    refine r_d rfl rfl rfl (m_index (f := encT) l_a0 rfl el_L_api_Term rfl (asl rfl) rfl hq0 sz_encT rfl) ?_
    refine r_d rfl rfl rfl (s_load rfl rfl (by exact ty_api_Term) (sz_encT _)) ?_
    refine r_d rfl rfl rfl (s_move rfl rfl) ?_
    obtain ⟨r_9, hr_9, hr⟩ := bindS hr
    refine r_d rfl rfl rfl (s_callD rfl cl_constraintref09_Shift (.cons rfl (Wk.refl _) (.cons rfl (Wk.refl _) .nil)) (lgo_constraintref09_Shift rec IHR _ _ _ hr_9)) ?_
    refine r_d rfl rfl rfl (m_lit (f := encT) [.tmp 19] [r_9] rfl el_L_api_Term rfl rfl (by decide) (by decide) (.cons rfl (Wk.refl _) .nil) sz_encT (fun _ => rfl)) ?_
    obtain ⟨l_10, hl_10, hr⟩ := bindS hr
    refine r_w rfl rfl rfl (m_appOwn (f := encT) out_4 [r_9] rfl el_L_api_Term rfl rfl (asl rfl) (pf0 _) rfl sz_encT hl_10) ?_
    rintro _ _ ⟨u21_10, rfl, rfl⟩
    refine r_d rfl rfl rfl (s_assign rfl rfl) ?_
    refine r_end ?_
    refine g_inBlock ?_
    refine g_run (by kernel_rfl) [(0, .d), (1, .d), (2, .d)] rfl ?_
    refine r_d rfl rfl rfl (s_move rfl rfl) ?_
    refine r_d rfl rfl rfl (s_ar (r := ((i_5 + 1 : Nat) : Int)) rfl rfl rfl (by simp [iar]) (by omega)) ?_
    refine r_d rfl rfl rfl (s_assign rfl rfl) ?_
    refine r_end ?_
    refine g_sub [(0, .lst (l_a0.map encT)), (1, .int .i64 k_a1), (5, .own u21_10 (l_10.map encT)), (6, .int .i64 ((i_5 + 1 : Nat) : Int))] (Sub.cons' rfl (Sub.cons' rfl (Sub.cons' rfl (Sub.cons' rfl (Sub.nil _))))) ?_
    exact IH0 _ _ _ (by omega) ⟨l_10, (i_5 + 1), u21_10, rfl, rfl, rfl, (by omega), hr⟩
theorem lg_constraintref09_shiftTerms : ∀ (fuel : Nat) (l_a0 : (List T)) (k_a1 : Int) (res : (List T)), lf_constraintref09_shiftTerms fuel l_a0 k_a1 = some res → Gives Tryz.prog 73 [.lst (l_a0.map encT), .int .i64 k_a1] (.lst (res.map encT))
  | 0, _, _, _, h => by cases h
  | fuel + 1, l_a0, k_a1, res, h => lgs_constraintref09_shiftTerms fuel (lf_constraintref09_shiftTerms fuel) (lg_constraintref09_shiftTerms fuel) l_a0 k_a1 res h

noncomputable def lf_constraintref09_shiftAtoms_L0 (k : ((List At)) → Option ((List At))) (fuel : Nat) (k_a1 : Int) : List At → (List At) → Option ((List At))
  | [], out_4 =>
  (k out_4)
  | q_8 :: rest, out_4 =>
  ((lf_constraintref09_shiftTerms fuel q_8.ts k_a1).bind fun r_9 =>
  ((appO 40 out_4 [(⟨q_8.n, r_9⟩ : At)]).bind fun l_10 =>
  (lf_constraintref09_shiftAtoms_L0 k fuel k_a1 rest l_10)))
noncomputable def lf_constraintref09_shiftAtoms (fuel : Nat) (l_a0 : (List At)) (k_a1 : Int) : Option ((List At)) :=
  (lf_constraintref09_shiftAtoms_L0 (fun out_7 =>
  some (out_7)) fuel k_a1 l_a0 [])

set_option maxHeartbeats 1000000 in
theorem lg_constraintref09_shiftAtoms (fuel : Nat) (l_a0 : (List At)) (k_a1 : Int) (res : (List At)) (hr : lf_constraintref09_shiftAtoms fuel l_a0 k_a1 = some res) : Gives Tryz.prog 45 [.lst (l_a0.map encA), .int .i64 k_a1] (.lst (res.map encA)) := by
  unfold lf_constraintref09_shiftAtoms at hr
  refine spec_env [(0, .lst (l_a0.map encA)), (1, .int .i64 k_a1)] Tryz.func45 rfl rfl fun K hK => ?_
  refine g_seq ?_
  refine g_run (by kernel_rfl) [(0, .w)] rfl ?_
  refine r_w rfl rfl rfl (s_nilOwn 36 2 (.inl rfl)) ?_
  rintro _ _ ⟨u4_0, rfl, rfl⟩
  refine r_end ?_
  refine g_seq ?_
  refine g_run (by kernel_rfl) [(0, .w)] rfl ?_
  refine r_w rfl rfl rfl (s_nilOwn 36 2 (.inl rfl)) ?_
  rintro _ _ ⟨u5_1, rfl, rfl⟩
  refine r_end ?_
  refine g_seq ?_
  refine g_seq ?_
  refine g_run (by kernel_rfl) [(0, .d)] rfl ?_
  refine r_d rfl rfl rfl (s_assign rfl rfl) ?_
  refine r_end ?_
  obtain ⟨kk0, hkk0, hr⟩ := exK (fun k => lf_constraintref09_shiftAtoms_L0 k fuel k_a1 l_a0 []) hr
  refine g_len 0 rfl (asl rfl) fun hla0 => ?_
  simp only [List.length_map] at hla0
  refine g_blockJ (fun env σ => ∃ (out_7 : (List At)) (u_6 : Value), env = [(5, .own u_6 (out_7.map encA))] ∧ σ = [.row u_6 out_7.length 36 2] ∧ kk0 out_7 = some res) ?_ (fun HK0 => ?_)
  ·
   rintro _ _ ⟨out_7, u_6, rfl, rfl, hr⟩
   rw [hkk0] at hr
   refine g_seq ?_
   refine g_run (by kernel_rfl) [(0, .d), (1, .d)] rfl ?_
   refine r_d rfl rfl rfl (s_move rfl rfl) ?_
   refine r_d rfl rfl rfl (s_assign rfl rfl) ?_
   refine r_end ?_
   obtain rfl := Option.some.inj hr
   refine g_ret Tryz.func45 _ (.cons (resTmp rfl (Wk.own _ _)) .nil) ?_
   rfl
  ·
   refine g_sub [(0, .lst (l_a0.map encA)), (1, .int .i64 k_a1), (5, .own u5_1 ([].map encA)), (6, .int .i64 ((0 : Nat) : Int))] (Sub.cons' rfl (Sub.cons' rfl (Sub.cons' rfl (Sub.cons' rfl (Sub.nil _))))) ?_
   refine g_perm [_] _ (pf0 _) ?_
   refine g_loop (fun n env σ => ∃ (out_4 : (List At)) (i_5 : Nat) (u_3 : Value), (n = l_a0.length - i_5) ∧ (env = [(0, .lst (l_a0.map encA)), (1, .int .i64 k_a1), (5, .own u_3 (out_4.map encA)), (6, .int .i64 (i_5 : Int))]) ∧ (σ = [.row u_3 out_4.length 36 2]) ∧ (i_5 ≤ l_a0.length) ∧ (lf_constraintref09_shiftAtoms_L0 kk0 fuel k_a1 (l_a0.drop i_5) out_4 = some res)) _ ⟨[], 0, u5_1, rfl, rfl, rfl, Nat.zero_le _, hr⟩ ?_
   rintro n _ _ ⟨out_4, i_5, u_3, rfl, rfl, rfl, hi0, hr⟩ IH0
   rcases listStep l_a0 i_5 hi0 with ⟨ht0, hd0, he0⟩ | ⟨q_8, ht0, hd0, hq0, hlt0⟩
   ·
    rw [hd0, lf_constraintref09_shiftAtoms_L0] at hr
    refine g_seq ?_
    refine g_seq ?_
    refine g_run (by kernel_rfl) [(0, .d), (1, .d), (2, .d), (3, .d)] rfl ?_
    refine r_d rfl rfl rfl (s_move rfl rfl) ?_
    refine r_d rfl rfl rfl (s_move rfl rfl) ?_
    refine r_d rfl rfl rfl (m_len (f := encA) l_a0 rfl el_L_api_Atom rfl (asl rfl)) ?_
    refine r_d rfl rfl rfl (s_cmp rfl rfl rfl rfl) ?_
    refine r_end ?_
    refine g_known 10 false rfl ht0 ?_
    refine g_condF rfl ?_
    refine g_exit rfl ?_
    refine g_sub [(5, .own u_3 (out_4.map encA))] (Sub.cons' rfl (Sub.nil _)) ?_
    exact HK0 _ _ ⟨out_4, u_3, rfl, rfl, hr⟩
   ·
    rw [hd0, lf_constraintref09_shiftAtoms_L0] at hr
    refine g_seq ?_
    refine g_seq ?_
    refine g_run (by kernel_rfl) [(0, .d), (1, .d), (2, .d), (3, .d)] rfl ?_
    refine r_d rfl rfl rfl (s_move rfl rfl) ?_
    refine r_d rfl rfl rfl (s_move rfl rfl) ?_
    refine r_d rfl rfl rfl (m_len (f := encA) l_a0 rfl el_L_api_Atom rfl (asl rfl)) ?_
    refine r_d rfl rfl rfl (s_cmp rfl rfl rfl rfl) ?_
    refine r_end ?_
    refine g_known 10 true rfl ht0 ?_
    refine g_condT rfl ?_
    refine g_skip ?_
    refine g_seq ?_
    refine g_block ?_
    refine g_any (by kernel_rfl) (by kernel_rfl) [(0, .d), (1, .d), (2, .d), (3, .d), (4, .d), (5, .d), (6, .d), (7, .d), (8, .d), (9, .d), (10, .d), (11, .d), (12, .d), (13, .d), (14, .d), (15, .w), (16, .d)] (by kernel_rfl) ?_
    refine r_d rfl rfl rfl (s_move rfl rfl) ?_
    refine r_d rfl rfl rfl (s_move rfl rfl) ?_
    refine r_d rfl rfl rfl (s_move rfl rfl) ?_
    refine r_d rfl rfl rfl (m_index (f := encA) l_a0 rfl el_L_api_Atom rfl (asl rfl) rfl hq0 sz_encA rfl) ?_
    refine r_d rfl rfl rfl (s_fieldAddr rfl fl_api_Atom_0 rfl rfl rfl rfl) ?_
    refine r_d rfl rfl rfl (s_load rfl rfl (by exact ty_string) rfl) ?_
    refine r_d rfl rfl rfl (s_move rfl rfl) ?_
    refine r_d rfl rfl rfl (s_move rfl rfl) ?_
    refine r_d rfl rfl rfl (m_index (f := encA) l_a0 rfl el_L_api_Atom rfl (asl rfl) rfl hq0 sz_encA rfl) ?_
    refine r_d rfl rfl rfl (s_fieldAddr rfl fl_api_Atom_1 rfl rfl rfl rfl) ?_
    refine r_d rfl rfl rfl (s_load rfl rfl (by exact ty_L_api_Term) rfl) ?_
    refine r_d rfl rfl rfl (s_move rfl rfl) ?_
    obtain ⟨r_9, hr_9, hr⟩ := bindS hr
    refine r_d rfl rfl rfl (s_callD rfl cl_constraintref09_shiftTerms (.cons rfl (Wk.refl _) (.cons rfl (Wk.refl _) .nil)) (lg_constraintref09_shiftTerms fuel _ _ _ hr_9)) ?_
    refine r_d rfl rfl rfl (s_build rfl bt_api_Atom (.cons rfl (Wk.refl _) (.cons rfl (Wk.refl _) .nil)) (.cons rfl rfl rfl (.cons rfl rfl rfl (.nil _)))) ?_
    refine r_d rfl rfl rfl (m_lit (f := encA) [.tmp 26] [(⟨q_8.n, r_9⟩ : At)] rfl el_L_api_Atom rfl rfl (by decide) (by decide) (.cons rfl (Wk.refl _) .nil) sz_encA (fun _ => rfl)) ?_
    obtain ⟨l_10, hl_10, hr⟩ := bindS hr
    refine r_w rfl rfl rfl (m_appOwn (f := encA) out_4 [(⟨q_8.n, r_9⟩ : At)] rfl el_L_api_Atom rfl rfl (asl rfl) (pf0 _) rfl sz_encA hl_10) ?_
    rintro _ _ ⟨u28_10, rfl, rfl⟩
    refine r_d rfl rfl rfl (s_assign rfl rfl) ?_
    refine r_end ?_
    refine g_inBlock ?_
    refine g_run (by kernel_rfl) [(0, .d), (1, .d), (2, .d)] rfl ?_
    refine r_d rfl rfl rfl (s_move rfl rfl) ?_
    refine r_d rfl rfl rfl (s_ar (r := ((i_5 + 1 : Nat) : Int)) rfl rfl rfl (by simp [iar]) (by omega)) ?_
    refine r_d rfl rfl rfl (s_assign rfl rfl) ?_
    refine r_end ?_
    refine g_sub [(0, .lst (l_a0.map encA)), (1, .int .i64 k_a1), (5, .own u28_10 (l_10.map encA)), (6, .int .i64 ((i_5 + 1 : Nat) : Int))] (Sub.cons' rfl (Sub.cons' rfl (Sub.cons' rfl (Sub.cons' rfl (Sub.nil _))))) ?_
    exact IH0 _ _ _ (by omega) ⟨l_10, (i_5 + 1), u28_10, rfl, rfl, rfl, (by omega), hr⟩

noncomputable def lf_constraintref09_shiftGoals_L0 (k : ((List Gl)) → Option ((List Gl))) (fuel : Nat) (k_a1 : Int) : List Gl → (List Gl) → Option ((List Gl))
  | [], out_4 =>
  (k out_4)
  | q_8 :: rest, out_4 =>
  ((lf_constraintref09_shiftTerms fuel q_8.ts k_a1).bind fun r_9 =>
  ((appO 48 out_4 [(⟨q_8.op, q_8.n, r_9⟩ : Gl)]).bind fun l_10 =>
  (lf_constraintref09_shiftGoals_L0 k fuel k_a1 rest l_10)))
noncomputable def lf_constraintref09_shiftGoals (fuel : Nat) (l_a0 : (List Gl)) (k_a1 : Int) : Option ((List Gl)) :=
  (lf_constraintref09_shiftGoals_L0 (fun out_7 =>
  some (out_7)) fuel k_a1 l_a0 [])

set_option maxHeartbeats 1000000 in
theorem lg_constraintref09_shiftGoals (fuel : Nat) (l_a0 : (List Gl)) (k_a1 : Int) (res : (List Gl)) (hr : lf_constraintref09_shiftGoals fuel l_a0 k_a1 = some res) : Gives Tryz.prog 46 [.lst (l_a0.map encG), .int .i64 k_a1] (.lst (res.map encG)) := by
  unfold lf_constraintref09_shiftGoals at hr
  refine spec_env [(0, .lst (l_a0.map encG)), (1, .int .i64 k_a1)] Tryz.func46 rfl rfl fun K hK => ?_
  refine g_seq ?_
  refine g_run (by kernel_rfl) [(0, .w)] rfl ?_
  refine r_w rfl rfl rfl (s_nilOwn 40 3 (.inl rfl)) ?_
  rintro _ _ ⟨u4_0, rfl, rfl⟩
  refine r_end ?_
  refine g_seq ?_
  refine g_run (by kernel_rfl) [(0, .w)] rfl ?_
  refine r_w rfl rfl rfl (s_nilOwn 40 3 (.inl rfl)) ?_
  rintro _ _ ⟨u5_1, rfl, rfl⟩
  refine r_end ?_
  refine g_seq ?_
  refine g_seq ?_
  refine g_run (by kernel_rfl) [(0, .d)] rfl ?_
  refine r_d rfl rfl rfl (s_assign rfl rfl) ?_
  refine r_end ?_
  obtain ⟨kk0, hkk0, hr⟩ := exK (fun k => lf_constraintref09_shiftGoals_L0 k fuel k_a1 l_a0 []) hr
  refine g_len 0 rfl (asl rfl) fun hla0 => ?_
  simp only [List.length_map] at hla0
  refine g_blockJ (fun env σ => ∃ (out_7 : (List Gl)) (u_6 : Value), env = [(5, .own u_6 (out_7.map encG))] ∧ σ = [.row u_6 out_7.length 40 3] ∧ kk0 out_7 = some res) ?_ (fun HK0 => ?_)
  ·
   rintro _ _ ⟨out_7, u_6, rfl, rfl, hr⟩
   rw [hkk0] at hr
   refine g_seq ?_
   refine g_run (by kernel_rfl) [(0, .d), (1, .d)] rfl ?_
   refine r_d rfl rfl rfl (s_move rfl rfl) ?_
   refine r_d rfl rfl rfl (s_assign rfl rfl) ?_
   refine r_end ?_
   obtain rfl := Option.some.inj hr
   refine g_ret Tryz.func46 _ (.cons (resTmp rfl (Wk.own _ _)) .nil) ?_
   rfl
  ·
   refine g_sub [(0, .lst (l_a0.map encG)), (1, .int .i64 k_a1), (5, .own u5_1 ([].map encG)), (6, .int .i64 ((0 : Nat) : Int))] (Sub.cons' rfl (Sub.cons' rfl (Sub.cons' rfl (Sub.cons' rfl (Sub.nil _))))) ?_
   refine g_perm [_] _ (pf0 _) ?_
   refine g_loop (fun n env σ => ∃ (out_4 : (List Gl)) (i_5 : Nat) (u_3 : Value), (n = l_a0.length - i_5) ∧ (env = [(0, .lst (l_a0.map encG)), (1, .int .i64 k_a1), (5, .own u_3 (out_4.map encG)), (6, .int .i64 (i_5 : Int))]) ∧ (σ = [.row u_3 out_4.length 40 3]) ∧ (i_5 ≤ l_a0.length) ∧ (lf_constraintref09_shiftGoals_L0 kk0 fuel k_a1 (l_a0.drop i_5) out_4 = some res)) _ ⟨[], 0, u5_1, rfl, rfl, rfl, Nat.zero_le _, hr⟩ ?_
   rintro n _ _ ⟨out_4, i_5, u_3, rfl, rfl, rfl, hi0, hr⟩ IH0
   rcases listStep l_a0 i_5 hi0 with ⟨ht0, hd0, he0⟩ | ⟨q_8, ht0, hd0, hq0, hlt0⟩
   ·
    rw [hd0, lf_constraintref09_shiftGoals_L0] at hr
    refine g_seq ?_
    refine g_seq ?_
    refine g_run (by kernel_rfl) [(0, .d), (1, .d), (2, .d), (3, .d)] rfl ?_
    refine r_d rfl rfl rfl (s_move rfl rfl) ?_
    refine r_d rfl rfl rfl (s_move rfl rfl) ?_
    refine r_d rfl rfl rfl (m_len (f := encG) l_a0 rfl el_L_api_Goal rfl (asl rfl)) ?_
    refine r_d rfl rfl rfl (s_cmp rfl rfl rfl rfl) ?_
    refine r_end ?_
    refine g_known 10 false rfl ht0 ?_
    refine g_condF rfl ?_
    refine g_exit rfl ?_
    refine g_sub [(5, .own u_3 (out_4.map encG))] (Sub.cons' rfl (Sub.nil _)) ?_
    exact HK0 _ _ ⟨out_4, u_3, rfl, rfl, hr⟩
   ·
    rw [hd0, lf_constraintref09_shiftGoals_L0] at hr
    refine g_seq ?_
    refine g_seq ?_
    refine g_run (by kernel_rfl) [(0, .d), (1, .d), (2, .d), (3, .d)] rfl ?_
    refine r_d rfl rfl rfl (s_move rfl rfl) ?_
    refine r_d rfl rfl rfl (s_move rfl rfl) ?_
    refine r_d rfl rfl rfl (m_len (f := encG) l_a0 rfl el_L_api_Goal rfl (asl rfl)) ?_
    refine r_d rfl rfl rfl (s_cmp rfl rfl rfl rfl) ?_
    refine r_end ?_
    refine g_known 10 true rfl ht0 ?_
    refine g_condT rfl ?_
    refine g_skip ?_
    refine g_seq ?_
    refine g_block ?_
    refine g_any (by kernel_rfl) (by kernel_rfl) [(0, .d), (1, .d), (2, .d), (3, .d), (4, .d), (5, .d), (6, .d), (7, .d), (8, .d), (9, .d), (10, .d), (11, .d), (12, .d), (13, .d), (14, .d), (15, .d), (16, .d), (17, .d), (18, .d), (19, .d), (20, .w), (21, .d)] (by kernel_rfl) ?_
    refine r_d rfl rfl rfl (s_move rfl rfl) ?_
    refine r_d rfl rfl rfl (s_move rfl rfl) ?_
    refine r_d rfl rfl rfl (s_move rfl rfl) ?_
    refine r_d rfl rfl rfl (m_index (f := encG) l_a0 rfl el_L_api_Goal rfl (asl rfl) rfl hq0 sz_encG rfl) ?_
    refine r_d rfl rfl rfl (s_fieldAddr rfl fl_api_Goal_0 rfl rfl rfl rfl) ?_
    refine r_d rfl rfl rfl (s_load rfl rfl (by exact ty_int) rfl) ?_
    refine r_d rfl rfl rfl (s_move rfl rfl) ?_
    refine r_d rfl rfl rfl (s_move rfl rfl) ?_
    refine r_d rfl rfl rfl (m_index (f := encG) l_a0 rfl el_L_api_Goal rfl (asl rfl) rfl hq0 sz_encG rfl) ?_
    refine r_d rfl rfl rfl (s_fieldAddr rfl fl_api_Goal_1 rfl rfl rfl rfl) ?_
    refine r_d rfl rfl rfl (s_load rfl rfl (by exact ty_string) rfl) ?_
    refine r_d rfl rfl rfl (s_move rfl rfl) ?_
    refine r_d rfl rfl rfl (s_move rfl rfl) ?_
    refine r_d rfl rfl rfl (m_index (f := encG) l_a0 rfl el_L_api_Goal rfl (asl rfl) rfl hq0 sz_encG rfl) ?_
    refine r_d rfl rfl rfl (s_fieldAddr rfl fl_api_Goal_2 rfl rfl rfl rfl) ?_
    refine r_d rfl rfl rfl (s_load rfl rfl (by exact ty_L_api_Term) rfl) ?_
    refine r_d rfl rfl rfl (s_move rfl rfl) ?_
    obtain ⟨r_9, hr_9, hr⟩ := bindS hr
    refine r_d rfl rfl rfl (s_callD rfl cl_constraintref09_shiftTerms (.cons rfl (Wk.refl _) (.cons rfl (Wk.refl _) .nil)) (lg_constraintref09_shiftTerms fuel _ _ _ hr_9)) ?_
    refine r_d rfl rfl rfl (s_build rfl bt_api_Goal (.cons rfl (Wk.refl _) (.cons rfl (Wk.refl _) (.cons rfl (Wk.refl _) .nil))) (.cons rfl rfl rfl (.cons rfl rfl rfl (.cons rfl rfl rfl (.nil _))))) ?_
    refine r_d rfl rfl rfl (m_lit (f := encG) [.tmp 31] [(⟨q_8.op, q_8.n, r_9⟩ : Gl)] rfl el_L_api_Goal rfl rfl (by decide) (by decide) (.cons rfl (Wk.refl _) .nil) sz_encG (fun _ => rfl)) ?_
    obtain ⟨l_10, hl_10, hr⟩ := bindS hr
    refine r_w rfl rfl rfl (m_appOwn (f := encG) out_4 [(⟨q_8.op, q_8.n, r_9⟩ : Gl)] rfl el_L_api_Goal rfl rfl (asl rfl) (pf0 _) rfl sz_encG hl_10) ?_
    rintro _ _ ⟨u33_10, rfl, rfl⟩
    refine r_d rfl rfl rfl (s_assign rfl rfl) ?_
    refine r_end ?_
    refine g_inBlock ?_
    refine g_run (by kernel_rfl) [(0, .d), (1, .d), (2, .d)] rfl ?_
    refine r_d rfl rfl rfl (s_move rfl rfl) ?_
    refine r_d rfl rfl rfl (s_ar (r := ((i_5 + 1 : Nat) : Int)) rfl rfl rfl (by simp [iar]) (by omega)) ?_
    refine r_d rfl rfl rfl (s_assign rfl rfl) ?_
    refine r_end ?_
    refine g_sub [(0, .lst (l_a0.map encG)), (1, .int .i64 k_a1), (5, .own u33_10 (l_10.map encG)), (6, .int .i64 ((i_5 + 1 : Nat) : Int))] (Sub.cons' rfl (Sub.cons' rfl (Sub.cons' rfl (Sub.cons' rfl (Sub.nil _))))) ?_
    exact IH0 _ _ _ (by omega) ⟨l_10, (i_5 + 1), u33_10, rfl, rfl, rfl, (by omega), hr⟩

noncomputable def lf_constraintref09_ShiftRule (fuel : Nat) (r_a0 : S_api_Rule) (k_a1 : Int) : Option (S_api_Rule) :=
  ((lf_constraintref09_shiftAtoms fuel r_a0.f1_Keep k_a1).bind fun r_2 =>
  ((lf_constraintref09_shiftAtoms fuel r_a0.f2_Remove k_a1).bind fun r_3 =>
  ((lf_constraintref09_shiftGoals fuel r_a0.f3_Guard k_a1).bind fun r_4 =>
  ((lf_constraintref09_shiftGoals fuel r_a0.f4_Body k_a1).bind fun r_5 =>
  some ((⟨r_a0.f0_Name, r_2, r_3, r_4, r_5, r_a0.f5_Vars⟩ : S_api_Rule))))))

set_option maxHeartbeats 1000000 in
theorem lg_constraintref09_ShiftRule (fuel : Nat) (r_a0 : S_api_Rule) (k_a1 : Int) (res : S_api_Rule) (hr : lf_constraintref09_ShiftRule fuel r_a0 k_a1 = some res) : Gives Tryz.prog 17 [enc_S_api_Rule r_a0, .int .i64 k_a1] (enc_S_api_Rule res) := by
  unfold lf_constraintref09_ShiftRule at hr
  refine spec_env [(0, enc_S_api_Rule r_a0), (1, .int .i64 k_a1)] Tryz.func17 rfl rfl fun K hK => ?_
  refine g_seq ?_
  refine g_run (by kernel_rfl) [(0, .d), (1, .w)] rfl ?_
  refine r_d rfl rfl rfl (s_box rfl rfl rfl) ?_
  refine r_w rfl rfl rfl (s_alloc rfl zv_api_Rule) ?_
  rintro _ _ ⟨b4_0, rfl, rfl⟩
  refine r_end ?_
  refine g_seq ?_
  refine g_any (by kernel_rfl) (by kernel_rfl) [(0, .d), (1, .d), (2, .d), (3, .d), (4, .d), (5, .d), (6, .d), (7, .d), (8, .d), (9, .d), (10, .d), (11, .d), (12, .d), (13, .d), (14, .d), (15, .d), (16, .d), (17, .d), (18, .d), (19, .d), (20, .d), (21, .w)] (by kernel_rfl) ?_
  refine r_d rfl rfl rfl (s_fieldAddr rfl fl_api_Rule_0 rfl rfl rfl rfl) ?_
  refine r_d rfl rfl rfl (s_load rfl rfl (by exact ty_string) rfl) ?_
  refine r_d rfl rfl rfl (s_fieldAddr rfl fl_api_Rule_1 rfl rfl rfl rfl) ?_
  refine r_d rfl rfl rfl (s_load rfl rfl (by exact ty_L_api_Atom) rfl) ?_
  refine r_d rfl rfl rfl (s_move rfl rfl) ?_
  obtain ⟨r_2, hr_2, hr⟩ := bindS hr
  refine r_d rfl rfl rfl (s_callD rfl cl_constraintref09_shiftAtoms (.cons rfl (Wk.refl _) (.cons rfl (Wk.refl _) .nil)) (lg_constraintref09_shiftAtoms fuel _ _ _ hr_2)) ?_
  refine r_d rfl rfl rfl (s_fieldAddr rfl fl_api_Rule_2 rfl rfl rfl rfl) ?_
  refine r_d rfl rfl rfl (s_load rfl rfl (by exact ty_L_api_Atom) rfl) ?_
  refine r_d rfl rfl rfl (s_move rfl rfl) ?_
  obtain ⟨r_3, hr_3, hr⟩ := bindS hr
  refine r_d rfl rfl rfl (s_callD rfl cl_constraintref09_shiftAtoms (.cons rfl (Wk.refl _) (.cons rfl (Wk.refl _) .nil)) (lg_constraintref09_shiftAtoms fuel _ _ _ hr_3)) ?_
  refine r_d rfl rfl rfl (s_fieldAddr rfl fl_api_Rule_3 rfl rfl rfl rfl) ?_
  refine r_d rfl rfl rfl (s_load rfl rfl (by exact ty_L_api_Goal) rfl) ?_
  refine r_d rfl rfl rfl (s_move rfl rfl) ?_
  obtain ⟨r_4, hr_4, hr⟩ := bindS hr
  refine r_d rfl rfl rfl (s_callD rfl cl_constraintref09_shiftGoals (.cons rfl (Wk.refl _) (.cons rfl (Wk.refl _) .nil)) (lg_constraintref09_shiftGoals fuel _ _ _ hr_4)) ?_
  refine r_d rfl rfl rfl (s_fieldAddr rfl fl_api_Rule_4 rfl rfl rfl rfl) ?_
  refine r_d rfl rfl rfl (s_load rfl rfl (by exact ty_L_api_Goal) rfl) ?_
  refine r_d rfl rfl rfl (s_move rfl rfl) ?_
  obtain ⟨r_5, hr_5, hr⟩ := bindS hr
  refine r_d rfl rfl rfl (s_callD rfl cl_constraintref09_shiftGoals (.cons rfl (Wk.refl _) (.cons rfl (Wk.refl _) .nil)) (lg_constraintref09_shiftGoals fuel _ _ _ hr_5)) ?_
  refine r_d rfl rfl rfl (s_fieldAddr rfl fl_api_Rule_5 rfl rfl rfl rfl) ?_
  refine r_d rfl rfl rfl (s_load rfl rfl (by exact ty_int) rfl) ?_
  refine r_d rfl rfl rfl (s_build rfl bt_api_Rule (.cons rfl (Wk.refl _) (.cons rfl (Wk.refl _) (.cons rfl (Wk.refl _) (.cons rfl (Wk.refl _) (.cons rfl (Wk.refl _) (.cons rfl (Wk.refl _) .nil)))))) (.cons rfl rfl rfl (.cons rfl rfl rfl (.cons rfl rfl rfl (.cons rfl rfl rfl (.cons rfl rfl rfl (.cons rfl rfl rfl (.nil _)))))))) ?_
  refine r_w01 rfl rfl rfl (t_store0 _ rfl rfl rfl (Wk.refl _) (pf0 _) (by exact ty_api_Rule) rfl rfl rfl) ?_
  refine r_end ?_
  obtain rfl := Option.some.inj hr
  refine g_ret Tryz.func17 _ (.cons (resRef rfl (.head _) (by exact ty_api_Rule) rfl (Wk.refl _)) .nil) ?_
  rfl

noncomputable def lf_constraintref03_Var (n_a0 : Int) : Option (T) :=
  some ((T.mk 1 n_a0 ⟨#[]⟩ []))

set_option maxHeartbeats 1000000 in
theorem lg_constraintref03_Var (n_a0 : Int) (res : T) (hr : lf_constraintref03_Var n_a0 = some res) : Gives Tryz.prog 21 [.int .i64 n_a0] (encT res) := by
  unfold lf_constraintref03_Var at hr
  refine spec_env [(0, .int .i64 n_a0)] Tryz.func21 rfl rfl fun K hK => ?_
  refine g_seq ?_
  refine g_run (by kernel_rfl) [(0, .w)] rfl ?_
  refine r_w rfl rfl rfl (s_alloc rfl zv_api_Term) ?_
  rintro _ _ ⟨b2_0, rfl, rfl⟩
  refine r_end ?_
  refine g_seq ?_
  refine g_run (by kernel_rfl) [(0, .d), (1, .d), (2, .w)] rfl ?_
  refine r_d rfl rfl rfl (s_move rfl rfl) ?_
  refine r_d rfl rfl rfl (s_build rfl bt_api_Term (.cons rfl (Wk.refl _) (.cons rfl (Wk.refl _) .nil)) (.cons rfl rfl rfl (.cons rfl rfl rfl (.nil _)))) ?_
  refine r_w01 rfl rfl rfl (t_store0 _ rfl rfl rfl (Wk.refl _) (pf0 _) (by exact ty_api_Term) rfl rfl rfl) ?_
  refine r_end ?_
  obtain rfl := Option.some.inj hr
  refine g_ret Tryz.func21 _ (.cons (resRef rfl (.head _) (by exact ty_api_Term) rfl (Wk.refl _)) .nil) ?_
  first | rfl | (show _ = D.agg (fsT _); rw [fsT_eq] <;> rfl) | simp [packD, encT, fsT_eq, T.k, T.i, T.s, T.ar]

noncomputable def lf_constraintref17_Same (fuel : Nat) (a_a0 : S_api_Rule) (b_a1 : S_api_Rule) : Option (Bool) :=
  ((lf_constraintref14_Number fuel a_a0).bind fun r_1 =>
  ((lf_constraintref14_Number fuel b_a1).bind fun r_2 =>
  ((lf_constraintref14_SameRule r_1 r_2).bind fun r_3 =>
  some (r_3))))

set_option maxHeartbeats 1000000 in
theorem lg_constraintref17_Same (fuel : Nat) (a_a0 : S_api_Rule) (b_a1 : S_api_Rule) (res : Bool) (hr : lf_constraintref17_Same fuel a_a0 b_a1 = some res) : Gives Tryz.prog 16 [enc_S_api_Rule a_a0, enc_S_api_Rule b_a1] (.bool res) := by
  unfold lf_constraintref17_Same at hr
  refine spec_env [(0, enc_S_api_Rule a_a0), (1, enc_S_api_Rule b_a1)] Tryz.func16 rfl rfl fun K hK => ?_
  refine g_seq ?_
  refine g_run (by kernel_rfl) [(0, .d), (1, .d), (2, .d)] rfl ?_
  refine r_d rfl rfl rfl (s_box rfl rfl rfl) ?_
  refine r_d rfl rfl rfl (s_box rfl rfl rfl) ?_
  refine r_d rfl rfl rfl (s_assign rfl rfl) ?_
  refine r_end ?_
  refine g_seq ?_
  refine g_any (by kernel_rfl) (by kernel_rfl) [(0, .d), (1, .d), (2, .d), (3, .d), (4, .d), (5, .d)] (by kernel_rfl) ?_
  refine r_d rfl rfl rfl (s_load rfl rfl (by exact ty_api_Rule) (sz_S_api_Rule _)) ?_
  obtain ⟨r_1, hr_1, hr⟩ := bindS hr
  refine r_d rfl rfl rfl (s_callD rfl cl_constraintref14_Number (.cons rfl (Wk.refl _) .nil) (lg_constraintref14_Number fuel _ _ hr_1)) ?_
  refine r_d rfl rfl rfl (s_load rfl rfl (by exact ty_api_Rule) (sz_S_api_Rule _)) ?_
  obtain ⟨r_2, hr_2, hr⟩ := bindS hr
  refine r_d rfl rfl rfl (s_callD rfl cl_constraintref14_Number (.cons rfl (Wk.refl _) .nil) (lg_constraintref14_Number fuel _ _ hr_2)) ?_
  obtain ⟨r_3, hr_3, hr⟩ := bindS hr
  refine r_d rfl rfl rfl (s_callD rfl cl_constraintref14_SameRule (.cons rfl (Wk.refl _) (.cons rfl (Wk.refl _) .nil)) (lg_constraintref14_SameRule _ _ _ hr_3)) ?_
  refine r_d rfl rfl rfl (s_assign rfl rfl) ?_
  refine r_end ?_
  obtain rfl := Option.some.inj hr
  refine g_ret Tryz.func16 _ (.cons (resTmp rfl (Wk.refl _)) .nil) ?_
  rfl

noncomputable def lf_constraintref03_GreatAtoms_L0 (k : (Int) → Option (Bool)) : List At → Int → Option (Bool)
  | [], most_1 =>
  (k most_1)
  | q_4 :: rest, most_1 =>
  (bif (decide (most_1 ≥ (0 : Int))) then
  ((x_weigh q_4.ts (wr ((wr (most_1 - (1 : Int))) - (wr (Int.tdiv (q_4.n.size : Int) 8)))) 64).bind fun r_6 =>
  (lf_constraintref03_GreatAtoms_L0 k rest r_6))
  else
  (k most_1))
noncomputable def lf_constraintref03_GreatAtoms (l_a0 : (List At)) (most_a1 : Int) : Option (Bool) :=
  (lf_constraintref03_GreatAtoms_L0 (fun most_3 =>
  some ((decide (most_3 < (0 : Int))))) l_a0 most_a1)

set_option maxHeartbeats 1000000 in
theorem lg_constraintref03_GreatAtoms (l_a0 : (List At)) (most_a1 : Int) (res : Bool) (hr : lf_constraintref03_GreatAtoms l_a0 most_a1 = some res) : Gives Tryz.prog 47 [.lst (l_a0.map encA), .int .i64 most_a1] (.bool res) := by
  unfold lf_constraintref03_GreatAtoms at hr
  refine spec_env [(0, .lst (l_a0.map encA)), (1, .int .i64 most_a1)] Tryz.func47 rfl rfl fun K hK => ?_
  refine g_seq ?_
  refine g_run (by kernel_rfl) [(0, .d)] rfl ?_
  refine r_d rfl rfl rfl (s_assign rfl rfl) ?_
  refine r_end ?_
  refine g_seq ?_
  refine g_seq ?_
  refine g_run (by kernel_rfl) [(0, .d)] rfl ?_
  refine r_d rfl rfl rfl (s_assign rfl rfl) ?_
  refine r_end ?_
  obtain ⟨kk0, hkk0, hr⟩ := exK (fun k => lf_constraintref03_GreatAtoms_L0 k l_a0 most_a1) hr
  refine g_len 0 rfl (asl rfl) fun hla0 => ?_
  simp only [List.length_map] at hla0
  refine g_blockJ (fun env σ => ∃ (most_3 : Int), env = [(1, .int .i64 most_3)] ∧ σ = [] ∧ kk0 most_3 = some res) ?_ (fun HK0 => ?_)
  ·
   rintro _ _ ⟨most_3, rfl, rfl, hr⟩
   rw [hkk0] at hr
   refine g_seq ?_
   refine g_run (by kernel_rfl) [(0, .d), (1, .d), (2, .d)] rfl ?_
   refine r_d rfl rfl rfl (s_move rfl rfl) ?_
   refine r_d rfl rfl rfl (s_cmp rfl rfl rfl rfl) ?_
   refine r_d rfl rfl rfl (s_assign rfl rfl) ?_
   refine r_end ?_
   obtain rfl := Option.some.inj hr
   refine g_ret Tryz.func47 _ (.cons (resTmp rfl (Wk.refl _)) .nil) ?_
   rfl
  ·
   refine g_sub [(0, .lst (l_a0.map encA)), (1, .int .i64 most_a1), (5, .int .i64 ((0 : Nat) : Int))] (Sub.cons' rfl (Sub.cons' rfl (Sub.cons' rfl (Sub.nil _)))) ?_
   refine g_loop (fun n env σ => ∃ (most_1 : Int) (i_2 : Nat), (n = l_a0.length - i_2) ∧ (env = [(0, .lst (l_a0.map encA)), (1, .int .i64 most_1), (5, .int .i64 (i_2 : Int))]) ∧ (σ = []) ∧ (i_2 ≤ l_a0.length) ∧ (lf_constraintref03_GreatAtoms_L0 kk0 (l_a0.drop i_2) most_1 = some res)) _ ⟨most_a1, 0, rfl, rfl, rfl, Nat.zero_le _, hr⟩ ?_
   rintro n _ _ ⟨most_1, i_2, rfl, rfl, rfl, hi0, hr⟩ IH0
   rcases listStep l_a0 i_2 hi0 with ⟨ht0, hd0, he0⟩ | ⟨q_4, ht0, hd0, hq0, hlt0⟩
   ·
    rw [hd0, lf_constraintref03_GreatAtoms_L0] at hr
    refine g_seq ?_
    refine g_seq ?_
    refine g_run (by kernel_rfl) [(0, .d), (1, .d), (2, .d), (3, .d), (4, .d), (5, .d), (6, .d), (7, .d)] rfl ?_
    refine r_d rfl rfl rfl (s_move rfl rfl) ?_
    refine r_d rfl rfl rfl (s_move rfl rfl) ?_
    refine r_d rfl rfl rfl (m_len (f := encA) l_a0 rfl el_L_api_Atom rfl (asl rfl)) ?_
    refine r_d rfl rfl rfl (s_cmp rfl rfl rfl rfl) ?_
    refine r_d rfl rfl rfl (s_move rfl rfl) ?_
    refine r_known 10 false rfl ht0 ?_
    refine r_skip rfl rfl rfl ?_
    refine r_skip rfl rfl rfl ?_
    refine r_d rfl rfl rfl (s_pickF rfl rfl rfl) ?_
    refine r_end ?_
    refine g_condF rfl ?_
    refine g_exit rfl ?_
    refine g_sub [(1, .int .i64 most_1)] (Sub.cons' rfl (Sub.nil _)) ?_
    exact HK0 _ _ ⟨most_1, rfl, rfl, hr⟩
   ·
    rw [hd0, lf_constraintref03_GreatAtoms_L0] at hr
    refine g_seq ?_
    refine g_seq ?_
    refine g_run (by kernel_rfl) [(0, .d), (1, .d), (2, .d), (3, .d), (4, .d), (5, .d), (6, .d), (7, .d)] rfl ?_
    refine r_d rfl rfl rfl (s_move rfl rfl) ?_
    refine r_d rfl rfl rfl (s_move rfl rfl) ?_
    refine r_d rfl rfl rfl (m_len (f := encA) l_a0 rfl el_L_api_Atom rfl (asl rfl)) ?_
    refine r_d rfl rfl rfl (s_cmp rfl rfl rfl rfl) ?_
    refine r_d rfl rfl rfl (s_move rfl rfl) ?_
    refine r_known 10 true rfl ht0 ?_
    refine r_d rfl rfl rfl (s_move rfl rfl) ?_
    refine r_d rfl rfl rfl (s_cmp rfl rfl rfl rfl) ?_
    refine r_d rfl rfl rfl (s_pickT rfl rfl rfl) ?_
    refine r_end ?_
    refine g_sB 13 rfl hr (fun h13_4 hr => ?_) (fun h13_4 hr => ?_)
    ·
     refine g_condT rfl ?_
     refine g_skip ?_
     refine g_seq ?_
     refine g_block ?_
     refine g_any (by kernel_rfl) (by kernel_rfl) [(0, .d), (1, .d), (2, .d), (3, .d), (4, .d), (5, .d), (6, .d), (7, .d), (8, .d), (9, .d), (10, .d), (11, .d), (12, .d), (13, .d), (14, .d), (15, .d), (16, .d)] (by kernel_rfl) ?_
     refine r_d rfl rfl rfl (s_move rfl rfl) ?_
     refine r_d rfl rfl rfl (s_move rfl rfl) ?_
     refine r_d rfl rfl rfl (m_index (f := encA) l_a0 rfl el_L_api_Atom rfl (asl rfl) rfl hq0 sz_encA rfl) ?_
     refine r_d rfl rfl rfl (s_fieldAddr rfl fl_api_Atom_1 rfl rfl rfl rfl) ?_
     refine r_d rfl rfl rfl (s_load rfl rfl (by exact ty_L_api_Term) rfl) ?_
     refine r_d rfl rfl rfl (s_move rfl rfl) ?_
     refine r_d rfl rfl rfl (s_arW rfl rfl rfl rfl) ?_
     refine r_d rfl rfl rfl (s_move rfl rfl) ?_
     refine r_d rfl rfl rfl (s_move rfl rfl) ?_
     refine r_d rfl rfl rfl (m_index (f := encA) l_a0 rfl el_L_api_Atom rfl (asl rfl) rfl hq0 sz_encA rfl) ?_
     refine r_d rfl rfl rfl (s_fieldAddr rfl fl_api_Atom_0 rfl rfl rfl rfl) ?_
     refine r_d rfl rfl rfl (s_load rfl rfl (by exact ty_string) rfl) ?_
     refine r_d rfl rfl rfl (s_lenS rfl Tryz.underlying9 rfl) ?_
     refine r_d rfl rfl rfl (s_quoC rfl rfl rfl (by decide)) ?_
     refine r_d rfl rfl rfl (s_arW rfl rfl rfl rfl) ?_
     obtain ⟨r_6, hr_6, hr⟩ := bindS hr
     refine r_d rfl rfl rfl (s_callD rfl cl_constraintref03_weigh (.cons rfl (Wk.refl _) (.cons rfl (Wk.refl _) (.cons rfl (Wk.refl _) .nil))) (lx_constraintref03_weigh _ _ _ _ hr_6)) ?_
     refine r_d rfl rfl rfl (s_assign rfl rfl) ?_
     refine r_end ?_
     refine g_inBlock ?_
     refine g_run (by kernel_rfl) [(0, .d), (1, .d), (2, .d)] rfl ?_
     refine r_d rfl rfl rfl (s_move rfl rfl) ?_
     refine r_d rfl rfl rfl (s_ar (r := ((i_2 + 1 : Nat) : Int)) rfl rfl rfl (by simp [iar]) (by omega)) ?_
     refine r_d rfl rfl rfl (s_assign rfl rfl) ?_
     refine r_end ?_
     refine g_sub [(0, .lst (l_a0.map encA)), (1, .int .i64 r_6), (5, .int .i64 ((i_2 + 1 : Nat) : Int))] (Sub.cons' rfl (Sub.cons' rfl (Sub.cons' rfl (Sub.nil _)))) ?_
     exact IH0 _ _ _ (by omega) ⟨r_6, (i_2 + 1), rfl, rfl, rfl, (by omega), hr⟩
    ·
     refine g_condF rfl ?_
     refine g_exit rfl ?_
     refine g_sub [(1, .int .i64 most_1)] (Sub.cons' rfl (Sub.nil _)) ?_
     exact HK0 _ _ ⟨most_1, rfl, rfl, hr⟩

noncomputable def lf_constraintref03_GreatGoals_L0 (k : (Int) → Option (Bool)) : List Gl → Int → Option (Bool)
  | [], most_1 =>
  (k most_1)
  | q_4 :: rest, most_1 =>
  (bif (decide (most_1 ≥ (0 : Int))) then
  ((x_weigh q_4.ts (wr ((wr (most_1 - (1 : Int))) - (wr (Int.tdiv (q_4.n.size : Int) 8)))) 64).bind fun r_6 =>
  (lf_constraintref03_GreatGoals_L0 k rest r_6))
  else
  (k most_1))
noncomputable def lf_constraintref03_GreatGoals (l_a0 : (List Gl)) (most_a1 : Int) : Option (Bool) :=
  (lf_constraintref03_GreatGoals_L0 (fun most_3 =>
  some ((decide (most_3 < (0 : Int))))) l_a0 most_a1)

set_option maxHeartbeats 1000000 in
theorem lg_constraintref03_GreatGoals (l_a0 : (List Gl)) (most_a1 : Int) (res : Bool) (hr : lf_constraintref03_GreatGoals l_a0 most_a1 = some res) : Gives Tryz.prog 48 [.lst (l_a0.map encG), .int .i64 most_a1] (.bool res) := by
  unfold lf_constraintref03_GreatGoals at hr
  refine spec_env [(0, .lst (l_a0.map encG)), (1, .int .i64 most_a1)] Tryz.func48 rfl rfl fun K hK => ?_
  refine g_seq ?_
  refine g_run (by kernel_rfl) [(0, .d)] rfl ?_
  refine r_d rfl rfl rfl (s_assign rfl rfl) ?_
  refine r_end ?_
  refine g_seq ?_
  refine g_seq ?_
  refine g_run (by kernel_rfl) [(0, .d)] rfl ?_
  refine r_d rfl rfl rfl (s_assign rfl rfl) ?_
  refine r_end ?_
  obtain ⟨kk0, hkk0, hr⟩ := exK (fun k => lf_constraintref03_GreatGoals_L0 k l_a0 most_a1) hr
  refine g_len 0 rfl (asl rfl) fun hla0 => ?_
  simp only [List.length_map] at hla0
  refine g_blockJ (fun env σ => ∃ (most_3 : Int), env = [(1, .int .i64 most_3)] ∧ σ = [] ∧ kk0 most_3 = some res) ?_ (fun HK0 => ?_)
  ·
   rintro _ _ ⟨most_3, rfl, rfl, hr⟩
   rw [hkk0] at hr
   refine g_seq ?_
   refine g_run (by kernel_rfl) [(0, .d), (1, .d), (2, .d)] rfl ?_
   refine r_d rfl rfl rfl (s_move rfl rfl) ?_
   refine r_d rfl rfl rfl (s_cmp rfl rfl rfl rfl) ?_
   refine r_d rfl rfl rfl (s_assign rfl rfl) ?_
   refine r_end ?_
   obtain rfl := Option.some.inj hr
   refine g_ret Tryz.func48 _ (.cons (resTmp rfl (Wk.refl _)) .nil) ?_
   rfl
  ·
   refine g_sub [(0, .lst (l_a0.map encG)), (1, .int .i64 most_a1), (5, .int .i64 ((0 : Nat) : Int))] (Sub.cons' rfl (Sub.cons' rfl (Sub.cons' rfl (Sub.nil _)))) ?_
   refine g_loop (fun n env σ => ∃ (most_1 : Int) (i_2 : Nat), (n = l_a0.length - i_2) ∧ (env = [(0, .lst (l_a0.map encG)), (1, .int .i64 most_1), (5, .int .i64 (i_2 : Int))]) ∧ (σ = []) ∧ (i_2 ≤ l_a0.length) ∧ (lf_constraintref03_GreatGoals_L0 kk0 (l_a0.drop i_2) most_1 = some res)) _ ⟨most_a1, 0, rfl, rfl, rfl, Nat.zero_le _, hr⟩ ?_
   rintro n _ _ ⟨most_1, i_2, rfl, rfl, rfl, hi0, hr⟩ IH0
   rcases listStep l_a0 i_2 hi0 with ⟨ht0, hd0, he0⟩ | ⟨q_4, ht0, hd0, hq0, hlt0⟩
   ·
    rw [hd0, lf_constraintref03_GreatGoals_L0] at hr
    refine g_seq ?_
    refine g_seq ?_
    refine g_run (by kernel_rfl) [(0, .d), (1, .d), (2, .d), (3, .d), (4, .d), (5, .d), (6, .d), (7, .d)] rfl ?_
    refine r_d rfl rfl rfl (s_move rfl rfl) ?_
    refine r_d rfl rfl rfl (s_move rfl rfl) ?_
    refine r_d rfl rfl rfl (m_len (f := encG) l_a0 rfl el_L_api_Goal rfl (asl rfl)) ?_
    refine r_d rfl rfl rfl (s_cmp rfl rfl rfl rfl) ?_
    refine r_d rfl rfl rfl (s_move rfl rfl) ?_
    refine r_known 10 false rfl ht0 ?_
    refine r_skip rfl rfl rfl ?_
    refine r_skip rfl rfl rfl ?_
    refine r_d rfl rfl rfl (s_pickF rfl rfl rfl) ?_
    refine r_end ?_
    refine g_condF rfl ?_
    refine g_exit rfl ?_
    refine g_sub [(1, .int .i64 most_1)] (Sub.cons' rfl (Sub.nil _)) ?_
    exact HK0 _ _ ⟨most_1, rfl, rfl, hr⟩
   ·
    rw [hd0, lf_constraintref03_GreatGoals_L0] at hr
    refine g_seq ?_
    refine g_seq ?_
    refine g_run (by kernel_rfl) [(0, .d), (1, .d), (2, .d), (3, .d), (4, .d), (5, .d), (6, .d), (7, .d)] rfl ?_
    refine r_d rfl rfl rfl (s_move rfl rfl) ?_
    refine r_d rfl rfl rfl (s_move rfl rfl) ?_
    refine r_d rfl rfl rfl (m_len (f := encG) l_a0 rfl el_L_api_Goal rfl (asl rfl)) ?_
    refine r_d rfl rfl rfl (s_cmp rfl rfl rfl rfl) ?_
    refine r_d rfl rfl rfl (s_move rfl rfl) ?_
    refine r_known 10 true rfl ht0 ?_
    refine r_d rfl rfl rfl (s_move rfl rfl) ?_
    refine r_d rfl rfl rfl (s_cmp rfl rfl rfl rfl) ?_
    refine r_d rfl rfl rfl (s_pickT rfl rfl rfl) ?_
    refine r_end ?_
    refine g_sB 13 rfl hr (fun h13_4 hr => ?_) (fun h13_4 hr => ?_)
    ·
     refine g_condT rfl ?_
     refine g_skip ?_
     refine g_seq ?_
     refine g_block ?_
     refine g_any (by kernel_rfl) (by kernel_rfl) [(0, .d), (1, .d), (2, .d), (3, .d), (4, .d), (5, .d), (6, .d), (7, .d), (8, .d), (9, .d), (10, .d), (11, .d), (12, .d), (13, .d), (14, .d), (15, .d), (16, .d)] (by kernel_rfl) ?_
     refine r_d rfl rfl rfl (s_move rfl rfl) ?_
     refine r_d rfl rfl rfl (s_move rfl rfl) ?_
     refine r_d rfl rfl rfl (m_index (f := encG) l_a0 rfl el_L_api_Goal rfl (asl rfl) rfl hq0 sz_encG rfl) ?_
     refine r_d rfl rfl rfl (s_fieldAddr rfl fl_api_Goal_2 rfl rfl rfl rfl) ?_
     refine r_d rfl rfl rfl (s_load rfl rfl (by exact ty_L_api_Term) rfl) ?_
     refine r_d rfl rfl rfl (s_move rfl rfl) ?_
     refine r_d rfl rfl rfl (s_arW rfl rfl rfl rfl) ?_
     refine r_d rfl rfl rfl (s_move rfl rfl) ?_
     refine r_d rfl rfl rfl (s_move rfl rfl) ?_
     refine r_d rfl rfl rfl (m_index (f := encG) l_a0 rfl el_L_api_Goal rfl (asl rfl) rfl hq0 sz_encG rfl) ?_
     refine r_d rfl rfl rfl (s_fieldAddr rfl fl_api_Goal_1 rfl rfl rfl rfl) ?_
     refine r_d rfl rfl rfl (s_load rfl rfl (by exact ty_string) rfl) ?_
     refine r_d rfl rfl rfl (s_lenS rfl Tryz.underlying9 rfl) ?_
     refine r_d rfl rfl rfl (s_quoC rfl rfl rfl (by decide)) ?_
     refine r_d rfl rfl rfl (s_arW rfl rfl rfl rfl) ?_
     obtain ⟨r_6, hr_6, hr⟩ := bindS hr
     refine r_d rfl rfl rfl (s_callD rfl cl_constraintref03_weigh (.cons rfl (Wk.refl _) (.cons rfl (Wk.refl _) (.cons rfl (Wk.refl _) .nil))) (lx_constraintref03_weigh _ _ _ _ hr_6)) ?_
     refine r_d rfl rfl rfl (s_assign rfl rfl) ?_
     refine r_end ?_
     refine g_inBlock ?_
     refine g_run (by kernel_rfl) [(0, .d), (1, .d), (2, .d)] rfl ?_
     refine r_d rfl rfl rfl (s_move rfl rfl) ?_
     refine r_d rfl rfl rfl (s_ar (r := ((i_2 + 1 : Nat) : Int)) rfl rfl rfl (by simp [iar]) (by omega)) ?_
     refine r_d rfl rfl rfl (s_assign rfl rfl) ?_
     refine r_end ?_
     refine g_sub [(0, .lst (l_a0.map encG)), (1, .int .i64 r_6), (5, .int .i64 ((i_2 + 1 : Nat) : Int))] (Sub.cons' rfl (Sub.cons' rfl (Sub.cons' rfl (Sub.nil _)))) ?_
     exact IH0 _ _ _ (by omega) ⟨r_6, (i_2 + 1), rfl, rfl, rfl, (by omega), hr⟩
    ·
     refine g_condF rfl ?_
     refine g_exit rfl ?_
     refine g_sub [(1, .int .i64 most_1)] (Sub.cons' rfl (Sub.nil _)) ?_
     exact HK0 _ _ ⟨most_1, rfl, rfl, hr⟩

noncomputable def lf_constraintref03_GreatRules_L0 (k : Option (Bool)) (l_a0 : (List S_api_Rule)) (most_a1 : Int) : List S_api_Rule → Option (Bool)
  | [] =>
  k
  | q_2 :: rest =>
  (bif (decide ((l_a0.length : Int) > most_a1)) then
  some (true)
  else
  (bif (decide ((wr ((wr ((wr (Int.tdiv (q_2.f0_Name.size : Int) 8)) + (q_2.f1_Keep.length : Int))) + (q_2.f2_Remove.length : Int))) > most_a1)) then
  some (true)
  else
  ((lf_constraintref03_GreatAtoms q_2.f1_Keep most_a1).bind fun r_6 =>
  (bif r_6 then
  some (true)
  else
  ((lf_constraintref03_GreatAtoms q_2.f2_Remove most_a1).bind fun r_8 =>
  (bif r_8 then
  some (true)
  else
  ((lf_constraintref03_GreatGoals q_2.f3_Guard most_a1).bind fun r_10 =>
  (bif r_10 then
  some (true)
  else
  ((lf_constraintref03_GreatGoals q_2.f4_Body most_a1).bind fun r_12 =>
  (bif r_12 then
  some (true)
  else
  (lf_constraintref03_GreatRules_L0 k l_a0 most_a1 rest)))))))))))
noncomputable def lf_constraintref03_GreatRules (l_a0 : (List S_api_Rule)) (most_a1 : Int) : Option (Bool) :=
  (lf_constraintref03_GreatRules_L0 (some (false)) l_a0 most_a1 l_a0)

set_option maxHeartbeats 1000000 in
theorem lg_constraintref03_GreatRules (l_a0 : (List S_api_Rule)) (most_a1 : Int) (res : Bool) (hr : lf_constraintref03_GreatRules l_a0 most_a1 = some res) : Gives Tryz.prog 18 [.lst (l_a0.map enc_S_api_Rule), .int .i64 most_a1] (.bool res) := by
  unfold lf_constraintref03_GreatRules at hr
  refine spec_env [(0, .lst (l_a0.map enc_S_api_Rule)), (1, .int .i64 most_a1)] Tryz.func18 rfl rfl fun K hK => ?_
  refine g_seq ?_
  refine g_run (by kernel_rfl) [(0, .d)] rfl ?_
  refine r_d rfl rfl rfl (s_assign rfl rfl) ?_
  refine r_end ?_
  refine g_seq ?_
  refine g_seq ?_
  refine g_run (by kernel_rfl) [(0, .d)] rfl ?_
  refine r_d rfl rfl rfl (s_assign rfl rfl) ?_
  refine r_end ?_
  obtain ⟨kk0, hkk0, hr⟩ := exK (fun k => lf_constraintref03_GreatRules_L0 k l_a0 most_a1 l_a0) hr
  refine g_len 0 rfl (asl rfl) fun hla0 => ?_
  simp only [List.length_map] at hla0
  refine g_blockJ (fun env σ => env = [] ∧ σ = [] ∧ kk0 = some res) ?_ (fun HK0 => ?_)
  ·
   rintro _ _ ⟨rfl, rfl, hr⟩
   rw [hkk0] at hr
   refine g_seq ?_
   refine g_run (by kernel_rfl) [(0, .d)] rfl ?_
   refine r_d rfl rfl rfl (s_assign rfl rfl) ?_
   refine r_end ?_
   obtain rfl := Option.some.inj hr
   refine g_ret Tryz.func18 _ (.cons (resTmp rfl (Wk.refl _)) .nil) ?_
   rfl
  ·
   refine g_sub [(0, .lst (l_a0.map enc_S_api_Rule)), (1, .int .i64 most_a1), (5, .int .i64 ((0 : Nat) : Int))] (Sub.cons' rfl (Sub.cons' rfl (Sub.cons' rfl (Sub.nil _)))) ?_
   refine g_loop (fun n env σ => ∃ (i_1 : Nat), (n = l_a0.length - i_1) ∧ (env = [(0, .lst (l_a0.map enc_S_api_Rule)), (1, .int .i64 most_a1), (5, .int .i64 (i_1 : Int))]) ∧ (σ = []) ∧ (i_1 ≤ l_a0.length) ∧ (lf_constraintref03_GreatRules_L0 kk0 l_a0 most_a1 (l_a0.drop i_1) = some res)) _ ⟨0, rfl, rfl, rfl, Nat.zero_le _, hr⟩ ?_
   rintro n _ _ ⟨i_1, rfl, rfl, rfl, hi0, hr⟩ IH0
   rcases listStep l_a0 i_1 hi0 with ⟨ht0, hd0, he0⟩ | ⟨q_2, ht0, hd0, hq0, hlt0⟩
   ·
    rw [hd0, lf_constraintref03_GreatRules_L0] at hr
    refine g_seq ?_
    refine g_seq ?_
    refine g_run (by kernel_rfl) [(0, .d), (1, .d), (2, .d), (3, .d)] rfl ?_
    refine r_d rfl rfl rfl (s_move rfl rfl) ?_
    refine r_d rfl rfl rfl (s_move rfl rfl) ?_
    refine r_d rfl rfl rfl (m_len (f := enc_S_api_Rule) l_a0 rfl el_L_api_Rule rfl (asl rfl)) ?_
    refine r_d rfl rfl rfl (s_cmp rfl rfl rfl rfl) ?_
    refine r_end ?_
    refine g_known 10 false rfl ht0 ?_
    refine g_condF rfl ?_
    refine g_exit rfl ?_
    refine g_sub [] (Sub.nil _) ?_
    exact HK0 _ _ ⟨rfl, rfl, hr⟩
   ·
    rw [hd0, lf_constraintref03_GreatRules_L0] at hr
    refine g_seq ?_
    refine g_seq ?_
    refine g_run (by kernel_rfl) [(0, .d), (1, .d), (2, .d), (3, .d)] rfl ?_
    refine r_d rfl rfl rfl (s_move rfl rfl) ?_
    refine r_d rfl rfl rfl (s_move rfl rfl) ?_
    refine r_d rfl rfl rfl (m_len (f := enc_S_api_Rule) l_a0 rfl el_L_api_Rule rfl (asl rfl)) ?_
    refine r_d rfl rfl rfl (s_cmp rfl rfl rfl rfl) ?_
    refine r_end ?_
    refine g_known 10 true rfl ht0 ?_
    refine g_condT rfl ?_
    refine g_skip ?_
    refine g_seq ?_
    refine g_block ?_
    refine g_seq ?_
    refine g_run (by kernel_rfl) [(0, .d), (1, .d), (2, .d), (3, .d), (4, .w), (5, .w)] rfl ?_
    refine r_d rfl rfl rfl (s_move rfl rfl) ?_
    refine r_d rfl rfl rfl (s_move rfl rfl) ?_
    refine r_d rfl rfl rfl (m_index (f := enc_S_api_Rule) l_a0 rfl el_L_api_Rule rfl (asl rfl) rfl hq0 sz_S_api_Rule rfl) ?_
    refine r_d rfl rfl rfl (s_load rfl rfl (by exact ty_api_Rule) (sz_S_api_Rule _)) ?_
    refine r_w rfl rfl rfl (s_alloc rfl zv_api_Rule) ?_
    rintro _ _ ⟨b6_2, rfl, rfl⟩
    refine r_w01 rfl rfl rfl (t_store0 _ rfl rfl rfl (Wk.refl _) (pf0 _) (by exact ty_api_Rule) (sz_S_api_Rule _) rfl rfl) ?_
    refine r_end ?_
    refine g_freeze 6 b6_2 rfl (pf0 _) ?_
    refine g_seq ?_
    refine g_run (by kernel_rfl) [(0, .d), (1, .d), (2, .d), (3, .d), (4, .d), (5, .d), (6, .d), (7, .d), (8, .d), (9, .d), (10, .d), (11, .d), (12, .d), (13, .d), (14, .d), (15, .d), (16, .d), (17, .d), (18, .d), (19, .d), (20, .d), (21, .d), (22, .d), (23, .d), (24, .d), (25, .d), (26, .d), (27, .d), (28, .d), (29, .d), (30, .d), (31, .d), (32, .d), (33, .d), (34, .d), (35, .d), (36, .d), (37, .d), (38, .d), (39, .d), (40, .d), (41, .d), (42, .d), (43, .d)] rfl ?_
    refine r_d rfl rfl rfl (s_move rfl rfl) ?_
    refine r_d rfl rfl rfl (m_len (f := enc_S_api_Rule) l_a0 rfl el_L_api_Rule rfl (asl rfl)) ?_
    refine r_d rfl rfl rfl (s_move rfl rfl) ?_
    refine r_d rfl rfl rfl (s_cmp rfl rfl rfl rfl) ?_
    refine r_d rfl rfl rfl (s_move rfl rfl) ?_
    refine r_sB 21 rfl hr (fun h21_3 hr => ?_) (fun h21_3 hr => ?_)
    ·
     refine r_skip rfl rfl rfl ?_
     refine r_skip rfl rfl rfl ?_
     refine r_skip rfl rfl rfl ?_
     refine r_skip rfl rfl rfl ?_
     refine r_skip rfl rfl rfl ?_
     refine r_skip rfl rfl rfl ?_
     refine r_skip rfl rfl rfl ?_
     refine r_skip rfl rfl rfl ?_
     refine r_skip rfl rfl rfl ?_
     refine r_skip rfl rfl rfl ?_
     refine r_skip rfl rfl rfl ?_
     refine r_skip rfl rfl rfl ?_
     refine r_skip rfl rfl rfl ?_
     refine r_skip rfl rfl rfl ?_
     refine r_d rfl rfl rfl (s_pickT rfl rfl rfl) ?_
     refine r_d rfl rfl rfl (s_move rfl rfl) ?_
     refine r_skip rfl rfl rfl ?_
     refine r_skip rfl rfl rfl ?_
     refine r_skip rfl rfl rfl ?_
     refine r_skip rfl rfl rfl ?_
     refine r_d rfl rfl rfl (s_pickT rfl rfl rfl) ?_
     refine r_d rfl rfl rfl (s_move rfl rfl) ?_
     refine r_skip rfl rfl rfl ?_
     refine r_skip rfl rfl rfl ?_
     refine r_skip rfl rfl rfl ?_
     refine r_skip rfl rfl rfl ?_
     refine r_d rfl rfl rfl (s_pickT rfl rfl rfl) ?_
     refine r_d rfl rfl rfl (s_move rfl rfl) ?_
     refine r_skip rfl rfl rfl ?_
     refine r_skip rfl rfl rfl ?_
     refine r_skip rfl rfl rfl ?_
     refine r_skip rfl rfl rfl ?_
     refine r_d rfl rfl rfl (s_pickT rfl rfl rfl) ?_
     refine r_d rfl rfl rfl (s_move rfl rfl) ?_
     refine r_skip rfl rfl rfl ?_
     refine r_skip rfl rfl rfl ?_
     refine r_skip rfl rfl rfl ?_
     refine r_skip rfl rfl rfl ?_
     refine r_d rfl rfl rfl (s_pickT rfl rfl rfl) ?_
     refine r_end ?_
     refine g_condT rfl ?_
     refine g_seq ?_
     refine g_run (by kernel_rfl) [(0, .d)] rfl ?_
     refine r_d rfl rfl rfl (s_assign rfl rfl) ?_
     refine r_end ?_
     obtain rfl := Option.some.inj hr
     refine g_ret Tryz.func18 _ (.cons (resTmp rfl (Wk.refl _)) .nil) ?_
     rfl
    ·
     refine r_d rfl rfl rfl (s_fieldAddr rfl fl_api_Rule_0 rfl rfl rfl rfl) ?_
     refine r_d rfl rfl rfl (s_load rfl rfl (by exact ty_string) rfl) ?_
     refine r_d rfl rfl rfl (s_lenS rfl Tryz.underlying9 rfl) ?_
     refine r_d rfl rfl rfl (s_quoC rfl rfl rfl (by decide)) ?_
     refine r_d rfl rfl rfl (s_fieldAddr rfl fl_api_Rule_1 rfl rfl rfl rfl) ?_
     refine r_d rfl rfl rfl (s_load rfl rfl (by exact ty_L_api_Atom) rfl) ?_
     refine r_d rfl rfl rfl (m_len (f := encA) q_2.f1_Keep rfl el_L_api_Atom rfl (asl rfl)) ?_
     refine r_d rfl rfl rfl (s_arW rfl rfl rfl rfl) ?_
     refine r_d rfl rfl rfl (s_fieldAddr rfl fl_api_Rule_2 rfl rfl rfl rfl) ?_
     refine r_d rfl rfl rfl (s_load rfl rfl (by exact ty_L_api_Atom) rfl) ?_
     refine r_d rfl rfl rfl (m_len (f := encA) q_2.f2_Remove rfl el_L_api_Atom rfl (asl rfl)) ?_
     refine r_d rfl rfl rfl (s_arW rfl rfl rfl rfl) ?_
     refine r_d rfl rfl rfl (s_move rfl rfl) ?_
     refine r_d rfl rfl rfl (s_cmp rfl rfl rfl rfl) ?_
     refine r_d rfl rfl rfl (s_pickF rfl rfl rfl) ?_
     refine r_d rfl rfl rfl (s_move rfl rfl) ?_
     refine r_sB 37 rfl hr (fun h37_4 hr => ?_) (fun h37_4 hr => ?_)
     ·
      refine r_skip rfl rfl rfl ?_
      refine r_skip rfl rfl rfl ?_
      refine r_skip rfl rfl rfl ?_
      refine r_skip rfl rfl rfl ?_
      refine r_d rfl rfl rfl (s_pickT rfl rfl rfl) ?_
      refine r_d rfl rfl rfl (s_move rfl rfl) ?_
      refine r_skip rfl rfl rfl ?_
      refine r_skip rfl rfl rfl ?_
      refine r_skip rfl rfl rfl ?_
      refine r_skip rfl rfl rfl ?_
      refine r_d rfl rfl rfl (s_pickT rfl rfl rfl) ?_
      refine r_d rfl rfl rfl (s_move rfl rfl) ?_
      refine r_skip rfl rfl rfl ?_
      refine r_skip rfl rfl rfl ?_
      refine r_skip rfl rfl rfl ?_
      refine r_skip rfl rfl rfl ?_
      refine r_d rfl rfl rfl (s_pickT rfl rfl rfl) ?_
      refine r_d rfl rfl rfl (s_move rfl rfl) ?_
      refine r_skip rfl rfl rfl ?_
      refine r_skip rfl rfl rfl ?_
      refine r_skip rfl rfl rfl ?_
      refine r_skip rfl rfl rfl ?_
      refine r_d rfl rfl rfl (s_pickT rfl rfl rfl) ?_
      refine r_end ?_
      refine g_condT rfl ?_
      refine g_seq ?_
      refine g_run (by kernel_rfl) [(0, .d)] rfl ?_
      refine r_d rfl rfl rfl (s_assign rfl rfl) ?_
      refine r_end ?_
      obtain rfl := Option.some.inj hr
      refine g_ret Tryz.func18 _ (.cons (resTmp rfl (Wk.refl _)) .nil) ?_
      rfl
     ·
      refine r_d rfl rfl rfl (s_fieldAddr rfl fl_api_Rule_1 rfl rfl rfl rfl) ?_
      refine r_d rfl rfl rfl (s_load rfl rfl (by exact ty_L_api_Atom) rfl) ?_
      refine r_d rfl rfl rfl (s_move rfl rfl) ?_
      obtain ⟨r_6, hr_6, hr⟩ := bindS hr
      refine r_d rfl rfl rfl (s_callD rfl cl_constraintref03_GreatAtoms (.cons rfl (Wk.refl _) (.cons rfl (Wk.refl _) .nil)) (lg_constraintref03_GreatAtoms _ _ _ hr_6)) ?_
      refine r_d rfl rfl rfl (s_pickF rfl rfl rfl) ?_
      refine r_d rfl rfl rfl (s_move rfl rfl) ?_
      refine r_sB 43 rfl hr (fun h43_6 hr => ?_) (fun h43_6 hr => ?_)
      ·
       refine r_skip rfl rfl rfl ?_
       refine r_skip rfl rfl rfl ?_
       refine r_skip rfl rfl rfl ?_
       refine r_skip rfl rfl rfl ?_
       refine r_d rfl rfl rfl (s_pickT rfl rfl rfl) ?_
       refine r_d rfl rfl rfl (s_move rfl rfl) ?_
       refine r_skip rfl rfl rfl ?_
       refine r_skip rfl rfl rfl ?_
       refine r_skip rfl rfl rfl ?_
       refine r_skip rfl rfl rfl ?_
       refine r_d rfl rfl rfl (s_pickT rfl rfl rfl) ?_
       refine r_d rfl rfl rfl (s_move rfl rfl) ?_
       refine r_skip rfl rfl rfl ?_
       refine r_skip rfl rfl rfl ?_
       refine r_skip rfl rfl rfl ?_
       refine r_skip rfl rfl rfl ?_
       refine r_d rfl rfl rfl (s_pickT rfl rfl rfl) ?_
       refine r_end ?_
       refine g_condT rfl ?_
       refine g_seq ?_
       refine g_run (by kernel_rfl) [(0, .d)] rfl ?_
       refine r_d rfl rfl rfl (s_assign rfl rfl) ?_
       refine r_end ?_
       obtain rfl := Option.some.inj hr
       refine g_ret Tryz.func18 _ (.cons (resTmp rfl (Wk.refl _)) .nil) ?_
       rfl
      ·
       refine r_d rfl rfl rfl (s_fieldAddr rfl fl_api_Rule_2 rfl rfl rfl rfl) ?_
       refine r_d rfl rfl rfl (s_load rfl rfl (by exact ty_L_api_Atom) rfl) ?_
       refine r_d rfl rfl rfl (s_move rfl rfl) ?_
       obtain ⟨r_8, hr_8, hr⟩ := bindS hr
       refine r_d rfl rfl rfl (s_callD rfl cl_constraintref03_GreatAtoms (.cons rfl (Wk.refl _) (.cons rfl (Wk.refl _) .nil)) (lg_constraintref03_GreatAtoms _ _ _ hr_8)) ?_
       refine r_d rfl rfl rfl (s_pickF rfl rfl rfl) ?_
       refine r_d rfl rfl rfl (s_move rfl rfl) ?_
       refine r_sB 49 rfl hr (fun h49_8 hr => ?_) (fun h49_8 hr => ?_)
       ·
        refine r_skip rfl rfl rfl ?_
        refine r_skip rfl rfl rfl ?_
        refine r_skip rfl rfl rfl ?_
        refine r_skip rfl rfl rfl ?_
        refine r_d rfl rfl rfl (s_pickT rfl rfl rfl) ?_
        refine r_d rfl rfl rfl (s_move rfl rfl) ?_
        refine r_skip rfl rfl rfl ?_
        refine r_skip rfl rfl rfl ?_
        refine r_skip rfl rfl rfl ?_
        refine r_skip rfl rfl rfl ?_
        refine r_d rfl rfl rfl (s_pickT rfl rfl rfl) ?_
        refine r_end ?_
        refine g_condT rfl ?_
        refine g_seq ?_
        refine g_run (by kernel_rfl) [(0, .d)] rfl ?_
        refine r_d rfl rfl rfl (s_assign rfl rfl) ?_
        refine r_end ?_
        obtain rfl := Option.some.inj hr
        refine g_ret Tryz.func18 _ (.cons (resTmp rfl (Wk.refl _)) .nil) ?_
        rfl
       ·
        refine r_d rfl rfl rfl (s_fieldAddr rfl fl_api_Rule_3 rfl rfl rfl rfl) ?_
        refine r_d rfl rfl rfl (s_load rfl rfl (by exact ty_L_api_Goal) rfl) ?_
        refine r_d rfl rfl rfl (s_move rfl rfl) ?_
        obtain ⟨r_10, hr_10, hr⟩ := bindS hr
        refine r_d rfl rfl rfl (s_callD rfl cl_constraintref03_GreatGoals (.cons rfl (Wk.refl _) (.cons rfl (Wk.refl _) .nil)) (lg_constraintref03_GreatGoals _ _ _ hr_10)) ?_
        refine r_d rfl rfl rfl (s_pickF rfl rfl rfl) ?_
        refine r_d rfl rfl rfl (s_move rfl rfl) ?_
        refine r_sB 55 rfl hr (fun h55_10 hr => ?_) (fun h55_10 hr => ?_)
        ·
         refine r_skip rfl rfl rfl ?_
         refine r_skip rfl rfl rfl ?_
         refine r_skip rfl rfl rfl ?_
         refine r_skip rfl rfl rfl ?_
         refine r_d rfl rfl rfl (s_pickT rfl rfl rfl) ?_
         refine r_end ?_
         refine g_condT rfl ?_
         refine g_seq ?_
         refine g_run (by kernel_rfl) [(0, .d)] rfl ?_
         refine r_d rfl rfl rfl (s_assign rfl rfl) ?_
         refine r_end ?_
         obtain rfl := Option.some.inj hr
         refine g_ret Tryz.func18 _ (.cons (resTmp rfl (Wk.refl _)) .nil) ?_
         rfl
        ·
         refine r_d rfl rfl rfl (s_fieldAddr rfl fl_api_Rule_4 rfl rfl rfl rfl) ?_
         refine r_d rfl rfl rfl (s_load rfl rfl (by exact ty_L_api_Goal) rfl) ?_
         refine r_d rfl rfl rfl (s_move rfl rfl) ?_
         obtain ⟨r_12, hr_12, hr⟩ := bindS hr
         refine r_d rfl rfl rfl (s_callD rfl cl_constraintref03_GreatGoals (.cons rfl (Wk.refl _) (.cons rfl (Wk.refl _) .nil)) (lg_constraintref03_GreatGoals _ _ _ hr_12)) ?_
         refine r_d rfl rfl rfl (s_pickF rfl rfl rfl) ?_
         refine r_end ?_
         refine g_sB 60 rfl hr (fun h60_12 hr => ?_) (fun h60_12 hr => ?_)
         ·
          refine g_condT rfl ?_
          refine g_seq ?_
          refine g_run (by kernel_rfl) [(0, .d)] rfl ?_
          refine r_d rfl rfl rfl (s_assign rfl rfl) ?_
          refine r_end ?_
          obtain rfl := Option.some.inj hr
          refine g_ret Tryz.func18 _ (.cons (resTmp rfl (Wk.refl _)) .nil) ?_
          rfl
         ·
          refine g_condF rfl ?_
          refine g_skip ?_
          refine g_inBlock ?_
          refine g_run (by kernel_rfl) [(0, .d), (1, .d), (2, .d)] rfl ?_
          refine r_d rfl rfl rfl (s_move rfl rfl) ?_
          refine r_d rfl rfl rfl (s_ar (r := ((i_1 + 1 : Nat) : Int)) rfl rfl rfl (by simp [iar]) (by omega)) ?_
          refine r_d rfl rfl rfl (s_assign rfl rfl) ?_
          refine r_end ?_
          refine g_sub [(0, .lst (l_a0.map enc_S_api_Rule)), (1, .int .i64 most_a1), (5, .int .i64 ((i_1 + 1 : Nat) : Int))] (Sub.cons' rfl (Sub.cons' rfl (Sub.cons' rfl (Sub.nil _)))) ?_
          exact IH0 _ _ _ (by omega) ⟨(i_1 + 1), rfl, rfl, rfl, (by omega), hr⟩

noncomputable def lf_constraintlaw17_large (r_a0 : S_api_Rule) : Option (Bool) :=
  ((lf_constraintref03_GreatRules [r_a0] 120).bind fun r_1 =>
  some (r_1))

set_option maxHeartbeats 1000000 in
theorem lg_constraintlaw17_large (r_a0 : S_api_Rule) (res : Bool) (hr : lf_constraintlaw17_large r_a0 = some res) : Gives Tryz.prog 5 [enc_S_api_Rule r_a0] (.bool res) := by
  unfold lf_constraintlaw17_large at hr
  refine spec_env [(0, enc_S_api_Rule r_a0)] Tryz.func5 rfl rfl fun K hK => ?_
  refine g_seq ?_
  refine g_run (by kernel_rfl) [(0, .d), (1, .d)] rfl ?_
  refine r_d rfl rfl rfl (s_box rfl rfl rfl) ?_
  refine r_d rfl rfl rfl (s_assign rfl rfl) ?_
  refine r_end ?_
  refine g_seq ?_
  refine g_run (by kernel_rfl) [(0, .d), (1, .d), (2, .d), (3, .d)] rfl ?_
  refine r_d rfl rfl rfl (s_load rfl rfl (by exact ty_api_Rule) (sz_S_api_Rule _)) ?_
  refine r_d rfl rfl rfl (m_lit (f := enc_S_api_Rule) [.tmp 3] [r_a0] rfl el_L_api_Rule rfl rfl (by decide) (by decide) (.cons rfl (Wk.refl _) .nil) sz_S_api_Rule (fun _ => rfl)) ?_
  obtain ⟨r_1, hr_1, hr⟩ := bindS hr
  refine r_d rfl rfl rfl (by exact s_callD rfl cl_constraintref03_GreatRules (.cons rfl (Wk.full _) (.cons rfl (Wk.refl _) .nil)) (lg_constraintref03_GreatRules _ _ _ hr_1)) ?_
  refine r_d rfl rfl rfl (s_assign rfl rfl) ?_
  refine r_end ?_
  obtain rfl := Option.some.inj hr
  refine g_ret Tryz.func5 _ (.cons (resTmp rfl (Wk.refl _)) .nil) ?_
  rfl

end Go.Proofs.YtlannippingfdaaGreat

